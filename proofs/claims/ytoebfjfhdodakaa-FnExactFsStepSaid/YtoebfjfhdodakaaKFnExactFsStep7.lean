/- The texts that the proof of the law FnExactFsStep rests on, part 7: printed functions with their contracts, words, plain laws; the last part ends in the statement itself. No condition but those that each theorem states. -/
import Derived.Test.YtoebfjfhdodakaaKFnExactFsStep6
set_option linter.unusedVariables false
set_option linter.unusedSimpArgs false
section
set_option linter.unusedVariables false
set_option linter.unusedSimpArgs false
namespace Go.Proofs.Ytoebfjfhdodakaa.Pure
open Go.RowKit Go.Proofs.Ytoebfjfhdodakaa Go.Proofs.Ytoebfjfhdodakaa.L Go.Proofs.YtoebfjfhdodakaaW.PrintWords Go.Proofs.YtoebfjfhdodakaaW.PrintLast
theorem between_eq (x lo hi : Int) : spec_l1Between.f x lo hi = some (decide (lo ≤ x ∧ x ≤ hi)) := by
  unfold spec_l1Between.f
  by_cases h : lo ≤ x
  · rw [if_pos h]; simp [h]
  · rw [if_neg h]; simp [h]
/-- A file's name. -/
def nameOk (s : ByteArray) : Bool := decide (1 ≤ s.size) && decide (s.size ≤ 30) && allFrom fileByte s s.size 0
theorem impl_name (s : ByteArray) (h : s.size ≤ 9223372036854775807) : impl_isFileName.f s = some (nameOk s) := by
  unfold impl_isFileName.f nameOk
  rw [if_pos h]
theorem spec_name_l0 (d : Nat) : ∀ (s : ByteArray) (i : Nat), i + d = s.size → s.size ≤ 1000 → Ev (fun k => spec_l6FileName.l0 k s i) (allFrom fileByte s d i) := by
  induction d with
  | zero =>
    intro s i hi hs
    exact Ev.step (f := fun _ => some true) (fun k => by rw [spec_l6FileName.l0, if_neg (by omega)]) (Ev.now _)
  | succ d ih =>
    intro s i hi hs
    have hr := bt_range s i
    obtain ⟨b, hb⟩ : ∃ b, bt s i = b := ⟨_, rfl⟩
    simp only [allFrom]
    rw [hb] at hr ⊢
    have hw : wrap64 b = b := w64 b (by omega)
    have hnext := ih s (i + 1) (by omega) hs
    have e : ∀ k, spec_l6FileName.l0 (k + 1) s i = if fileByte b then spec_l6FileName.l0 k s ((i + 1 : Nat) : Int) else some false := fun k => by
      rw [spec_l6FileName.l0, if_pos (by omega), if_pos (by omega), hb, hw, between_eq, wsucc i (by omega)]
      unfold spec_l4Letter.f fileByte
      by_cases h1 : 97 ≤ b <;> by_cases h2 : b ≤ 122 <;> by_cases h3 : 48 ≤ b <;> by_cases h4 : b ≤ 57 <;> by_cases h5 : b = 45 <;> simp [h1, h2, h3, h4, h5]
    refine Ev.step e ?_
    cases hf : fileByte b
    · exact Ev.now _
    · simpa using hnext
theorem spec_name (s : ByteArray) : Ev (fun k => spec_l6FileName.f k s) (nameOk s) := by
  unfold spec_l6FileName.f nameOk
  simp only [between_eq, Option.bind_some]
  by_cases h1 : 1 ≤ s.size
  · by_cases h2 : s.size ≤ 30
    · have hc : decide ((1 : Int) ≤ (s.size : Int) ∧ (s.size : Int) ≤ 30) = true := decide_eq_true (by omega)
      simp only [hc, if_true, decide_eq_true h1, decide_eq_true h2, Bool.true_and]
      exact spec_name_l0 s.size s 0 (by omega) (by omega)
    · have hc : decide ((1 : Int) ≤ (s.size : Int) ∧ (s.size : Int) ≤ 30) = false := decide_eq_false (by omega)
      simp only [hc, decide_eq_false h2, Bool.and_false, Bool.false_and, if_neg (show ¬ (false = true) by decide)]
      exact Ev.now _
  · have hc : decide ((1 : Int) ≤ (s.size : Int) ∧ (s.size : Int) ≤ 30) = false := decide_eq_false (by omega)
    simp only [hc, decide_eq_false h1, Bool.false_and, if_neg (show ¬ (false = true) by decide)]
    exact Ev.now _
abbrev File := S76
theorem rdF (l : List File) (i : Nat) (h : i < l.length) : rd_T76 l (i : Int) = l[i] := by simp [rd_T76, h]
/-- The files' bytes. -/
def sumF (l : List File) : Nat := (l.map fun f => f.f1.size).sum
/-- File number i: its name, how much of it is synced, its place in the order. -/
def fileOk (l : List File) (i : Nat) : Bool :=
  match l[i]? with
  | none => true
  | some f => nameOk f.f0 && decide (0 ≤ f.f2 ∧ f.f2 ≤ (f.f1.size : Int)) && (decide (i = 0) || Op.bytesLess ((l.getD (i - 1) f).f0.toList) (f.f0.toList))
def filesFrom (l : List File) : Nat → Nat → Bool
  | 0, _ => true
  | d + 1, i => fileOk l i && filesFrom l d (i + 1)
def cntOk (n : Int) : Bool := decide (0 ≤ n ∧ n ≤ 1000000000000000)
/-- The document's FsValid. -/
def fsOk (l : List File) (cap count crash fail : Int) : Bool :=
  decide (l.length ≤ 300) && decide (0 ≤ cap ∧ cap ≤ 1000000000) && decide ((sumF l : Int) ≤ cap) && filesFrom l l.length 0 && (cntOk count && cntOk crash && cntOk fail)
theorem sumF_drop (l : List File) (i : Nat) (h : i < l.length) : sumF (l.drop i) = l[i].f1.size + sumF (l.drop (i + 1)) := by
  rw [show l.drop i = l[i] :: l.drop (i + 1) from List.drop_eq_getElem_cons h]
  rfl
theorem fileOk_at (l : List File) (i : Nat) (h : i < l.length) : fileOk l i = (nameOk l[i].f0 && decide (0 ≤ l[i].f2 ∧ l[i].f2 ≤ (l[i].f1.size : Int)) && (decide (i = 0) || Op.bytesLess ((l.getD (i - 1) l[i]).f0.toList) (l[i].f0.toList))) := by
  unfold fileOk
  rw [List.getElem?_eq_getElem h]
theorem spec_bytes_l0 (d : Nat) : ∀ (l : List File) (i : Nat) (c : Int), i + d = l.length → l.length ≤ 9223372036854775807 → 0 ≤ c → c + sumF (l.drop i) ≤ 9223372036854775807 →
    Ev (fun k => spec_l6Bytes.l0 k c l l.length i) (c + sumF (l.drop i)) := by
  induction d with
  | zero =>
    intro l i c hi hl h0 hc
    have hd : l.drop i = [] := List.drop_eq_nil_of_le (by omega)
    rw [hd]
    refine Ev.step (f := fun _ => some c) (fun k => by rw [spec_l6Bytes.l0, if_neg (by omega)]) ?_
    simpa [sumF] using Ev.now c
  | succ d ih =>
    intro l i c hi hl h0 hc
    have hil : i < l.length := by omega
    rw [sumF_drop l i hil] at hc ⊢
    refine Ev.step (fun k => by rw [spec_l6Bytes.l0, if_pos (by omega), if_pos (by omega), if_pos (by omega), rdF l i hil, wsucc i (by omega), w64 _ (by omega)]) ?_
    have := ih l (i + 1) (c + l[i].f1.size) (by omega) hl (by omega) (by omega)
    rw [show c + ((l[i].f1.size + sumF (l.drop (i + 1)) : Nat) : Int) = c + (l[i].f1.size : Int) + (sumF (l.drop (i + 1)) : Int) from by omega]
    exact this
theorem spec_bytes (l : List File) (a b c d : Int) (u : Bool) (hl : l.length ≤ 9223372036854775807) (hs : (sumF l : Int) ≤ 9223372036854775807) : Ev (fun k => spec_l6Bytes.f k l a b c d u) (sumF l : Int) := by
  have := spec_bytes_l0 l.length l 0 0 (by omega) hl (by omega) (by rw [List.drop_zero]; omega)
  rw [List.drop_zero, Int.zero_add] at this
  exact this
theorem spec_l0_step (l : List File) (cap count crash fail : Int) (u : Bool) (i : Nat) (k : Nat) (h : i < l.length) (hl : l.length ≤ 300) :
    spec_FsValid.l0 (k + 1) l l.length i l cap count crash fail u =
      (spec_l6FileName.f k l[i].f0).bind fun t => if t = true then (if decide (0 ≤ l[i].f2 ∧ l[i].f2 ≤ (l[i].f1.size : Int)) then (if (decide (i = 0) || Op.bytesLess ((l.getD (i - 1) l[i]).f0.toList) (l[i].f0.toList)) = true then spec_FsValid.l0 k l l.length ((i + 1 : Nat) : Int) l cap count crash fail u else some false) else some false) else some false := by
  rw [spec_FsValid.l0, if_pos (by omega), if_pos (by omega), if_pos (by omega), rdF l i h, wsucc i (by omega)]
  congr 1
  funext t
  cases t
  · simp
  · simp only [if_true, between_eq, Option.bind_some]
    by_cases h2 : 0 ≤ l[i].f2 ∧ l[i].f2 ≤ (l[i].f1.size : Int)
    · simp only [decide_eq_true h2, if_true]
      by_cases h0 : i = 0
      · subst h0; simp
      · have hw : wrap64 ((i : Int) - 1) = ((i - 1 : Nat) : Int) := by unfold wrap64; omega
        have hg : l.getD (i - 1) l[i] = l[i - 1]'(by omega) := by simp [List.getD, show i - 1 < l.length from by omega]
        rw [if_pos (by omega), hw, if_pos (by omega), if_pos (by omega), rdF l (i - 1) (by omega), hg]
        simp [h0]
    · simp only [decide_eq_false h2, if_neg (show ¬ (false = true) by decide)]
theorem spec_l0 (d : Nat) : ∀ (l : List File) (cap count crash fail : Int) (u : Bool) (i : Nat), i + d = l.length → l.length ≤ 300 →
    Ev (fun k => spec_FsValid.l0 k l l.length i l cap count crash fail u) (filesFrom l d i && (cntOk count && cntOk crash && cntOk fail)) := by
  induction d with
  | zero =>
    intro l cap count crash fail u i hi hl
    refine Ev.step (f := fun _ => some (cntOk count && cntOk crash && cntOk fail)) (fun k => ?_) (Ev.now _)
    rw [spec_FsValid.l0, if_neg (by omega)]
    simp only [between_eq, Option.bind_some]
    unfold cntOk
    by_cases h1 : 0 ≤ count ∧ count ≤ 1000000000000000 <;> by_cases h2 : 0 ≤ crash ∧ crash ≤ 1000000000000000 <;> simp [h1, h2]
  | succ d ih =>
    intro l cap count crash fail u i hi hl
    have hil : i < l.length := by omega
    refine Ev.step (fun k => spec_l0_step l cap count crash fail u i k hil hl) ?_
    refine (spec_name _).bind ?_
    simp only [filesFrom, fileOk_at l i hil]
    cases hn : nameOk l[i].f0
    · exact Ev.now _
    · simp only [if_true, Bool.true_and]
      by_cases h2 : 0 ≤ l[i].f2 ∧ l[i].f2 ≤ (l[i].f1.size : Int)
      · simp only [decide_eq_true h2, if_true, Bool.true_and]
        cases hb : (decide (i = 0) || Op.bytesLess ((l.getD (i - 1) l[i]).f0.toList) (l[i].f0.toList))
        · exact Ev.now _
        · simp only [if_true, Bool.true_and]
          exact ih l cap count crash fail u (i + 1) (by omega) hl
      · simp only [decide_eq_false h2, Bool.false_and, if_neg (show ¬ (false = true) by decide)]
        exact Ev.now _
theorem spec_fsOk (l : List File) (cap count crash fail : Int) (u : Bool) (hl : l.length ≤ 9223372036854775807) (hs : (sumF l : Int) ≤ 9223372036854775807) :
    Ev (fun k => spec_FsValid.f k l cap count crash fail u) (fsOk l cap count crash fail) := by
  have hbad : Ev (fun k => spec_FsValid.j0 k true l cap count crash fail u) false := Ev.step (f := fun _ => some false) (fun k => by rw [spec_FsValid.j0, if_pos rfl]) (Ev.now _)
  unfold spec_FsValid.f fsOk
  by_cases h1 : l.length ≤ 300
  · simp only [if_neg (show ¬ (l.length : Int) > 300 by omega), between_eq, Option.bind_some, decide_eq_true h1, Bool.true_and]
    by_cases h2 : 0 ≤ cap ∧ cap ≤ 1000000000
    · simp only [decide_eq_true h2, if_true, Bool.true_and]
      refine (spec_bytes l cap count crash fail u hl hs).bind ?_
      by_cases h3 : (sumF l : Int) ≤ cap
      · simp only [decide_eq_true h3, decide_eq_false (show ¬ (sumF l : Int) > cap by omega), Bool.true_and]
        refine Ev.step (fun k => by rw [spec_FsValid.j0, if_neg (by decide)]) ?_
        exact spec_l0 l.length l cap count crash fail u 0 (by omega) h1
      · simp only [decide_eq_false h3, decide_eq_true (show (sumF l : Int) > cap by omega), Bool.false_and]
        exact hbad
    · simp only [decide_eq_false h2, Bool.false_and, if_neg (show ¬ (false = true) by decide)]
      exact hbad
  · simp only [if_pos (show (l.length : Int) > 300 by omega), decide_eq_false h1, Bool.false_and]
    exact hbad
theorem impl_l1 (l : List File) (c : Int) (cap count crash fail : Int) (u : Bool) :
    Ev (fun k => impl_FsValid.l1 k c [count, crash, fail] 3 0 l cap count crash fail u) ((cntOk count && cntOk crash && cntOk fail) && decide (c ≤ cap)) := by
  have e : ∀ (k : Nat) (i : Nat) (x : Int), i < 3 → [count, crash, fail].getD i 0 = x → impl_FsValid.l1 (k + 1) c [count, crash, fail] 3 i l cap count crash fail u = if cntOk x then impl_FsValid.l1 k c [count, crash, fail] 3 ((i + 1 : Nat) : Int) l cap count crash fail u else some false := fun k i x hi hx => by
    have hr : rd [count, crash, fail] (i : Int) = x := by unfold rd; rw [Int.toNat_natCast]; exact hx
    rw [impl_FsValid.l1, if_pos (by omega), if_pos (by omega), if_pos (by simp; omega), hr, wsucc i (by omega)]
    unfold cntOk
    by_cases h1 : x < 0
    · rw [if_pos h1, if_neg (by simp; omega)]
    · rw [if_neg h1]
      by_cases h2 : x > 1000000000000000
      · rw [if_pos h2, if_neg (by simp; omega)]
      · rw [if_neg h2, if_pos (by simp; omega)]
  refine Ev.step (fun k => e k 0 count (by omega) rfl) ?_
  cases h1 : cntOk count
  · exact Ev.now _
  · simp only [if_true, Bool.true_and]
    refine Ev.step (fun k => e k 1 crash (by omega) rfl) ?_
    cases h2 : cntOk crash
    · exact Ev.now _
    · simp only [if_true, Bool.true_and]
      refine Ev.step (fun k => e k 2 fail (by omega) rfl) ?_
      cases h3 : cntOk fail
      · exact Ev.now _
      · simp only [if_true, Bool.true_and]
        exact Ev.step (f := fun _ => some (decide (c ≤ cap))) (fun k => by rw [impl_FsValid.l1, if_neg (by omega)]) (Ev.now _)
theorem impl_l0_step (l : List File) (c : Int) (cap count crash fail : Int) (u : Bool) (i : Nat) (k : Nat) (h : i < l.length) (hl : l.length ≤ 300) (h0 : 0 ≤ c) (hc : c + sumF (l.drop i) ≤ 9223372036854775807) (hnm : ∀ f ∈ l, f.f0.size ≤ 9223372036854775807) :
    impl_FsValid.l0 (k + 1) c l l.length i l cap count crash fail u =
      if fileOk l i then impl_FsValid.l0 k (c + l[i].f1.size) l l.length ((i + 1 : Nat) : Int) l cap count crash fail u else some false := by
  have hsz := sumF_drop l i h
  rw [impl_FsValid.l0, if_pos (by omega), if_pos (by omega), if_pos (by omega), rdF l i h, wsucc i (by omega), fileOk_at l i h]
  · rw [impl_name _ (hnm _ (List.getElem_mem h)), Option.bind_some, w64 (c + (l[i].f1.size : Int)) (by omega)]
    cases hn : nameOk l[i].f0
    · simp
    · simp only [if_true, Bool.true_and]
      by_cases h1 : l[i].f2 < 0
      · rw [if_pos h1, decide_eq_false (by omega)]; simp
      · rw [if_neg h1]
        by_cases h2 : l[i].f2 > (l[i].f1.size : Int)
        · rw [if_pos h2, decide_eq_false (by omega)]; simp
        · rw [if_neg h2, decide_eq_true (by omega)]
          by_cases hz : i = 0
          · subst hz; simp
          · have hw : wrap64 ((i : Int) - 1) = ((i - 1 : Nat) : Int) := by unfold wrap64; omega
            have hg : l.getD (i - 1) l[i] = l[i - 1]'(by omega) := by simp [List.getD, show i - 1 < l.length from by omega]
            rw [if_pos (by omega), hw, if_pos (by omega), if_pos (by omega), rdF l (i - 1) (by omega), hg]
            simp [hz]
theorem impl_l0 (d : Nat) : ∀ (l : List File) (c : Int) (cap count crash fail : Int) (u : Bool) (i : Nat), i + d = l.length → l.length ≤ 300 → 0 ≤ c → c + sumF (l.drop i) ≤ 9223372036854775807 → (∀ f ∈ l, f.f0.size ≤ 9223372036854775807) →
    Ev (fun k => impl_FsValid.l0 k c l l.length i l cap count crash fail u) (filesFrom l d i && ((cntOk count && cntOk crash && cntOk fail) && decide (c + sumF (l.drop i) ≤ cap))) := by
  induction d with
  | zero =>
    intro l c cap count crash fail u i hi hl h0 hc hnm
    have hd : l.drop i = [] := List.drop_eq_nil_of_le (by omega)
    rw [hd]
    refine Ev.step (f := fun k => impl_FsValid.l1 k c [count, crash, fail] 3 0 l cap count crash fail u) (fun k => ?_) ?_
    · rw [impl_FsValid.l0, if_neg (by omega)]; rfl
    · simpa [sumF, filesFrom] using impl_l1 l c cap count crash fail u
  | succ d ih =>
    intro l c cap count crash fail u i hi hl h0 hc hnm
    have hil : i < l.length := by omega
    have hsz := sumF_drop l i hil
    refine Ev.step (fun k => impl_l0_step l c cap count crash fail u i k hil hl h0 hc hnm) ?_
    simp only [filesFrom]
    cases hf : fileOk l i
    · exact Ev.now _
    · simp only [if_true, Bool.true_and]
      have := ih l (c + l[i].f1.size) cap count crash fail u (i + 1) (by omega) hl (by omega) (by omega) hnm
      rw [show c + (sumF (l.drop i) : Int) = c + (l[i].f1.size : Int) + (sumF (l.drop (i + 1)) : Int) from by omega]
      exact this
theorem impl_fsOk (l : List File) (cap count crash fail : Int) (u : Bool) (hl : l.length ≤ 9223372036854775807) (hs : (sumF l : Int) ≤ 9223372036854775807) (hnm : ∀ f ∈ l, f.f0.size ≤ 9223372036854775807) :
    Ev (fun k => impl_FsValid.f k l cap count crash fail u) (fsOk l cap count crash fail) := by
  have hbad : Ev (fun k => impl_FsValid.j0 k true l cap count crash fail u) false := Ev.step (f := fun _ => some false) (fun k => by rw [impl_FsValid.j0, if_pos rfl]) (Ev.now _)
  unfold impl_FsValid.f fsOk
  by_cases h1 : l.length ≤ 300
  · simp only [if_neg (show ¬ (l.length : Int) > 300 by omega), decide_eq_true h1, Bool.true_and]
    by_cases h2 : cap < 0
    · simp only [if_pos h2, decide_eq_false (show ¬ (0 ≤ cap ∧ cap ≤ 1000000000) by omega), Bool.false_and]
      exact hbad
    · simp only [if_neg h2]
      by_cases h3 : cap > 1000000000
      · simp only [decide_eq_true h3, decide_eq_false (show ¬ (0 ≤ cap ∧ cap ≤ 1000000000) by omega), Bool.false_and]
        exact hbad
      · simp only [decide_eq_false h3, decide_eq_true (show 0 ≤ cap ∧ cap ≤ 1000000000 by omega), Bool.true_and]
        refine Ev.step (fun k => by rw [impl_FsValid.j0, if_neg (by decide)]) ?_
        have := impl_l0 l.length l 0 cap count crash fail u 0 (by omega) h1 (by omega) (by rw [List.drop_zero]; omega) hnm
        rw [List.drop_zero, Int.zero_add] at this
        have e : (decide ((sumF l : Int) ≤ cap) && filesFrom l l.length 0 && (cntOk count && cntOk crash && cntOk fail)) = (filesFrom l l.length 0 && ((cntOk count && cntOk crash && cntOk fail) && decide ((sumF l : Int) ≤ cap))) := by
          cases decide ((sumF l : Int) ≤ cap) <;> cases filesFrom l l.length 0 <;> simp
        rw [e]
        exact this
  · simp only [if_pos (show (l.length : Int) > 300 by omega), decide_eq_false h1, Bool.false_and]
    exact hbad
end Go.Proofs.Ytoebfjfhdodakaa.Pure
end
section
set_option linter.unusedVariables false
set_option linter.unusedSimpArgs false
namespace Go.Proofs.Ytoebfjfhdodakaa.Pure
open Go.RowKit Go.Proofs.Ytoebfjfhdodakaa Go.Proofs.Ytoebfjfhdodakaa.L Go.Proofs.YtoebfjfhdodakaaW.PrintWords Go.Proofs.YtoebfjfhdodakaaW.PrintLast
abbrev LFile := S74
def cvF (f : LFile) : File := ⟨f.f0, f.f1, f.f2⟩
theorem rdLF (l : List LFile) (i : Nat) (h : i < l.length) : rd_T74 l (i : Int) = l[i] := by simp [rd_T74, h]
theorem toF_l0 (e : Nat) : ∀ (l : List LFile) (o : List File) (i : Nat), i + e = l.length → o.length = l.length → l.length ≤ 7036874417766 → (∀ j, j < i → o[j]? = (l.map cvF)[j]?) →
    Ev (fun k => laws_toFileS.l0 k l o i) (l.map cvF) := by
  induction e with
  | zero =>
    intro l o i hi ho hl hx
    have : o = l.map cvF := by
      apply List.ext_getElem?
      intro j
      by_cases hj : j < i
      · exact hx j hj
      · rw [List.getElem?_eq_none (by omega), List.getElem?_eq_none (by rw [List.length_map]; omega)]
    subst this
    exact Ev.step (f := fun _ => some (l.map cvF)) (fun k => by rw [laws_toFileS.l0, if_neg (by omega)]) (Ev.now _)
  | succ e ih =>
    intro l o i hi ho hl hx
    have hil : i < l.length := by omega
    refine Ev.step (f := fun k => laws_toFileS.l0 k l (o.set i (cvF l[i])) ((i + 1 : Nat) : Int)) (fun k => ?_) (ih l (o.set i (cvF l[i])) (i + 1) (by omega) (by rw [List.length_set]; exact ho) hl (fun j hj => ?_))
    · rw [laws_toFileS.l0, if_pos (by omega), if_pos (by omega), rdLF l i hil]
      unfold laws_toFile.f
      rw [Option.bind_some, if_pos (by omega), wsucc i (by omega)]
      rfl
    · rw [List.getElem?_set]
      by_cases h : i = j
      · subst h; simp [hil, ho]
      · rw [if_neg h]; exact hx j (by omega)
theorem toF_ev (l : List LFile) (h : l.length ≤ 7036874417766) : Ev (fun k => laws_toFileS.f k l) (l.map cvF) := by
  refine Ev.congr (fun k => ?_) (toF_l0 l.length l (List.replicate l.length z76) 0 (by omega) List.length_replicate h (fun j hj => by omega))
  unfold laws_toFileS.f
  rw [if_pos (by omega), if_pos (by omega)]
  simp
theorem toFs_ev (l : List LFile) (a b c d : Int) (u : Bool) (h : l.length ≤ 7036874417766) : Ev (fun k => laws_toFs.f k l a b c d u) (l.map cvF, a, b, c, d, u) := by
  unfold laws_toFs.f
  exact (toF_ev l h).bind (Ev.now _)
theorem eqF_l0 (e : Nat) : ∀ (l : List File) (i : Nat), i + e = l.length → l.length ≤ 9223372036854775807 → Ev (fun k => laws_eqFileS.l0 k l l i) true := by
  induction e with
  | zero =>
    intro l i hi hl
    exact Ev.step (f := fun _ => some true) (fun k => by rw [laws_eqFileS.l0, if_neg (by omega)]) (Ev.now _)
  | succ e ih =>
    intro l i hi hl
    exact Ev.step (fun k => by
      rw [laws_eqFileS.l0, if_pos (by omega), if_pos (by omega), if_pos (by omega), wsucc i (by omega)]
      unfold laws_eqFile.f
      rw [if_pos rfl, if_pos rfl, if_pos rfl, Option.bind_some, if_pos rfl]) (ih l (i + 1) (by omega) hl)
theorem eqF_ev (l : List File) (hl : l.length ≤ 9223372036854775807) : Ev (fun k => laws_eqFileS.f k l l) true := by
  refine Ev.congr (fun k => ?_) (eqF_l0 l.length l 0 (by omega) hl)
  unfold laws_eqFileS.f
  rw [if_pos rfl]
  rfl
theorem eqFs_ev (l : List File) (a b c d : Int) (u : Bool) (hl : l.length ≤ 9223372036854775807) : Ev (fun k => laws_eqFs.f k l a b c d u l a b c d u) true := by
  unfold laws_eqFs.f
  refine (eqF_ev l hl).bind ?_
  simp only [if_true, bne_self_eq_false, if_neg (show ¬ (false = true) by decide)]
  exact Ev.now _
/-- What a list of files weighs: its places, the bytes of the names and the data. -/
def wF (l : List LFile) : Nat := (l.map fun f => f.f0.size + f.f1.size).sum
theorem wF_drop (l : List LFile) (i : Nat) (h : i < l.length) : wF (l.drop i) = l[i].f0.size + l[i].f1.size + wF (l.drop (i + 1)) := by
  rw [show l.drop i = l[i] :: l.drop (i + 1) from List.drop_eq_getElem_cons h]
  rfl
theorem szF_l0 (e : Nat) : ∀ (l : List LFile) (i : Nat) (a : Int), i + e = l.length → l.length ≤ 9223372036854775807 → (∀ y ∈ l, y.f0.size ≤ 9223372036854775807 ∧ y.f1.size ≤ 9223372036854775807) → 0 ≤ a → a ≤ 9223372036854775807 →
    Ev (fun k => laws_szFileS.l0 k l a i) (if (wF (l.drop i) : Int) ≤ a then a - wF (l.drop i) else -1) := by
  induction e with
  | zero =>
    intro l i a hi hl hs h0 h1
    have hd : l.drop i = [] := List.drop_eq_nil_of_le (by omega)
    rw [hd]
    refine Ev.step (f := fun _ => some a) (fun k => by rw [laws_szFileS.l0, if_neg (by omega)]) ?_
    simp [wF, h0]
    exact Ev.now _
  | succ e ih =>
    intro l i a hi hl hs h0 h1
    have hil : i < l.length := by omega
    have hy := hs _ (List.getElem_mem hil)
    have hsum := wF_drop l i hil
    by_cases hc : a - (l[i].f0.size : Int) < 0
    · refine Ev.step (f := fun _ => some (-1)) (fun k => ?_) ?_
      · rw [laws_szFileS.l0, if_pos (by omega), if_pos (by omega), rdLF l i hil]
        unfold laws_szFile.f
        rw [w64 (a - (l[i].f0.size : Int)) (by omega), if_pos hc]; rfl
      · rw [if_neg (by omega)]; exact Ev.now _
    · by_cases hc2 : a - (l[i].f0.size : Int) - (l[i].f1.size : Int) < 0
      · refine Ev.step (f := fun _ => some (-1)) (fun k => ?_) ?_
        · rw [laws_szFileS.l0, if_pos (by omega), if_pos (by omega), rdLF l i hil]
          unfold laws_szFile.f
          rw [w64 (a - (l[i].f0.size : Int)) (by omega), if_neg hc, w64 (a - (l[i].f0.size : Int) - (l[i].f1.size : Int)) (by omega), if_pos hc2]; rfl
        · rw [if_neg (by omega)]; exact Ev.now _
      · refine Ev.step (fun k => ?_) ?_ (f := fun k => laws_szFileS.l0 k l (a - (l[i].f0.size : Int) - (l[i].f1.size : Int)) ((i + 1 : Nat) : Int))
        · rw [laws_szFileS.l0, if_pos (by omega), if_pos (by omega), rdLF l i hil]
          unfold laws_szFile.f
          rw [w64 (a - (l[i].f0.size : Int)) (by omega), if_neg hc, w64 (a - (l[i].f0.size : Int) - (l[i].f1.size : Int)) (by omega), if_neg hc2, Option.bind_some, if_neg (by omega), wsucc i (by omega)]
        · have := ih l (i + 1) (a - (l[i].f0.size : Int) - (l[i].f1.size : Int)) (by omega) hl hs (by omega) (by omega)
          have e1 : ((wF (l.drop (i + 1)) : Int) ≤ a - (l[i].f0.size : Int) - (l[i].f1.size : Int)) ↔ ((wF (l.drop i) : Int) ≤ a) := by rw [hsum]; omega
          have e2 : a - (l[i].f0.size : Int) - (l[i].f1.size : Int) - (wF (l.drop (i + 1)) : Int) = a - (wF (l.drop i) : Int) := by rw [hsum]; omega
          rw [e2] at this
          simpa only [e1] using this
def wtF (l : List LFile) : Nat := l.length + wF l
theorem szF_ev (l : List LFile) (a : Int) (hl : l.length ≤ 9223372036854775807) (hs : ∀ y ∈ l, y.f0.size ≤ 9223372036854775807 ∧ y.f1.size ≤ 9223372036854775807) (h0 : 0 ≤ a) (h1 : a ≤ 1048576) :
    Ev (fun k => laws_szFileS.f k l a) (if (wtF l : Int) ≤ a then a - wtF l else -1) := by
  unfold laws_szFileS.f
  simp only [w64 (a - (l.length : Int)) (by omega)]
  by_cases hc : a - (l.length : Int) < 0
  · simp only [if_pos hc]
    rw [if_neg (by unfold wtF; omega)]
    exact Ev.now _
  · simp only [if_neg hc]
    have h := szF_l0 l.length l 0 (a - (l.length : Int)) (by omega) hl hs (by omega) (by omega)
    simp only [List.drop_zero] at h
    have e1 : ((wF l : Int) ≤ a - (l.length : Int)) ↔ ((wtF l : Int) ≤ a) := by unfold wtF; omega
    have e2 : a - (l.length : Int) - (wF l : Int) = a - (wtF l : Int) := by unfold wtF; omega
    rw [e2] at h
    simp only [e1] at h
    exact h
theorem szFs_ev (l : List LFile) (a b c d : Int) (u : Bool) (m : Int) (hl : l.length ≤ 9223372036854775807) (hs : ∀ y ∈ l, y.f0.size ≤ 9223372036854775807 ∧ y.f1.size ≤ 9223372036854775807) (h0 : 0 ≤ m) (h1 : m ≤ 1048576) :
    Ev (fun k => laws_szFs.f k l a b c d u m) (if (wtF l : Int) ≤ m then m - wtF l else -1) := by
  unfold laws_szFs.f
  refine (szF_ev l m hl hs h0 h1).bind ?_
  by_cases hc : (wtF l : Int) ≤ m
  · simp only [if_pos hc, if_neg (show ¬ (m - (wtF l : Int) < 0) by omega)]; exact Ev.now _
  · simp only [if_neg hc, if_pos (show (-1 : Int) < 0 by decide)]; exact Ev.now _
theorem sumF_le (l : List LFile) : sumF (l.map cvF) ≤ wF l := by
  induction l with
  | nil => exact Nat.le_refl _
  | cons f l ih =>
    have h1 : sumF ((f :: l).map cvF) = f.f1.size + sumF (l.map cvF) := rfl
    have h2 : wF (f :: l) = f.f0.size + f.f1.size + wF l := rfl
    omega
end Go.Proofs.Ytoebfjfhdodakaa.Pure
end
section
set_option linter.unusedVariables false
set_option linter.unusedSimpArgs false
namespace Go.Proofs.Ytoebfjfhdodakaa.Pure
open Go Go.RowKit Go.Proofs.Ytoebfjfhdodakaa Go.Proofs.Ytoebfjfhdodakaa.L Go.Proofs.YtoebfjfhdodakaaW.PrintWords Go.Proofs.YtoebfjfhdodakaaW.PrintMore Go.Proofs.YtoebfjfhdodakaaW.PrintLast
theorem nums_size (l : List Int) : (strOfNums l).size = l.length := by simp [strOfNums, ByteArray.size]
theorem markText_l0 (d : Nat) : ∀ (n : Nat) (acc : ByteArray), n < 10 ^ d → d ≤ 18 → acc.size + d ≤ 100 → ∃ r, Ev (fun k => laws_markText.l0 k (n : Int) acc) r := by
  induction d with
  | zero =>
    intro n acc hn _ ha
    have : n = 0 := by omega
    subst this
    refine ⟨(⟨#[109]⟩ : ByteArray) ++ acc, Ev.step (f := fun _ => some ((⟨#[109]⟩ : ByteArray) ++ acc)) (fun k => ?_) (Ev.now _)⟩
    rw [laws_markText.l0, if_neg (by omega), if_pos (by omega)]
  | succ d ih =>
    intro n acc hn hd ha
    by_cases hz : n = 0
    · subst hz
      refine ⟨(⟨#[109]⟩ : ByteArray) ++ acc, Ev.step (f := fun _ => some ((⟨#[109]⟩ : ByteArray) ++ acc)) (fun k => ?_) (Ev.now _)⟩
      rw [laws_markText.l0, if_neg (by omega), if_pos (by omega)]
    · have hlt : n < 9223372036854775808 := by
        have : (10 : Nat) ^ (d + 1) ≤ 10 ^ 18 := Nat.pow_le_pow_right (by decide) (by omega)
        omega
      have e2 : Int.tdiv (n : Int) 10 = ((n / 10 : Nat) : Int) := (Int.ofNat_tdiv n 10).symm
      have e4 : wrap64 ((n / 10 : Nat) : Int) = ((n / 10 : Nat) : Int) := by unfold wrap64; omega
      obtain ⟨s, hs⟩ : ∃ s, strOfNums [(wrap64 (48 + (Int.tmod (n : Int) 10))) % 256] = s := ⟨_, rfl⟩
      have hsz : s.size = 1 := by rw [← hs, nums_size]; rfl
      obtain ⟨r, hr⟩ := ih (n / 10) (s ++ acc) (by rw [Nat.pow_succ] at hn; omega) (by omega) (by rw [ByteArray.size_append]; omega)
      refine ⟨r, Ev.step (f := fun k => laws_markText.l0 k ((n / 10 : Nat) : Int) (s ++ acc)) (fun k => ?_) hr⟩
      rw [laws_markText.l0, if_pos (by omega), e2, e4]
      simp only [Option.bind_some, hs]
      rw [if_pos (by omega)]
theorem markText_ex (n : Nat) (hn : n < 1000000000000000000) : ∃ r, Ev (fun k => laws_markText.f k (n : Int)) r := by
  unfold laws_markText.f
  by_cases h : (n : Int) ≤ 0
  · simp only [if_pos h]; exact ⟨_, Ev.now _⟩
  · simp only [if_neg h]
    exact markText_l0 18 n _ hn (by omega) (by show (0 : Nat) + 18 ≤ 100; omega)
/-- What the marks are: one function of the number. -/
theorem marks : ∃ mk : Nat → ByteArray, ∀ n : Nat, n < 1000000000000000000 → Ev (fun k => laws_markText.f k (n : Int)) (mk n) :=
  ⟨fun n => if h : n < 1000000000000000000 then (markText_ex n h).choose else ByteArray.empty, fun n hn => by
    have := (markText_ex n hn).choose_spec
    simpa only [dif_pos hn] using this⟩
end Go.Proofs.Ytoebfjfhdodakaa.Pure
end
section
set_option linter.unusedVariables false
set_option linter.unusedSimpArgs false
namespace Go.Proofs.Ytoebfjfhdodakaa.Pure
open Go Go.RowKit Go.Proofs.Ytoebfjfhdodakaa Go.Proofs.Ytoebfjfhdodakaa.L Go.Proofs.YtoebfjfhdodakaaW.PrintWords Go.Proofs.YtoebfjfhdodakaaW.PrintMore Go.Proofs.YtoebfjfhdodakaaW.PrintLast
theorem rdF_set (x : List File) (i : Nat) (v : File) (h : i < x.length) : rd_T76 (x.set i v) (i : Int) = v := by
  rw [rdF _ i (by rw [List.length_set]; exact h), List.getElem_set_self]
/-- So many marked files from a on. -/
def markFL (mk : Nat → ByteArray) (a n : Nat) : List File := (List.range n).map fun j => ⟨mk (a + 3 * j), mk (a + 3 * j + 1), ((a + 3 * j + 2 : Nat) : Int)⟩
theorem markFL_length (mk : Nat → ByteArray) (a n : Nat) : (markFL mk a n).length = n := by simp [markFL]
theorem markFL_at (mk : Nat → ByteArray) (a n i : Nat) (h : i < n) : (markFL mk a n)[i]? = some ⟨mk (a + 3 * i), mk (a + 3 * i + 1), ((a + 3 * i + 2 : Nat) : Int)⟩ := by simp [markFL, h]
theorem markF_l0 (mk : Nat → ByteArray) (hmk : ∀ n : Nat, n < 1000000000000000000 → Ev (fun k => laws_markText.f k (n : Int)) (mk n)) (a : Nat) (d : Nat) : ∀ (x : List File) (i : Nat), i + d = x.length → a + 3 * x.length < 1000000000000000 →
    (∀ j, j < i → x[j]? = some ⟨mk (a + 3 * j), mk (a + 3 * j + 1), ((a + 3 * j + 2 : Nat) : Int)⟩) → Ev (fun k => laws_markFileS.l0 k x ((a + 3 * i : Nat) : Int) (i : Int)) (((a + 3 * x.length : Nat) : Int), markFL mk a x.length) := by
  induction d with
  | zero =>
    intro x i hi hb hx
    have e : x = markFL mk a x.length := by
      apply List.ext_getElem?
      intro j
      by_cases hj : j < x.length
      · rw [hx j (by omega), markFL_at mk a _ j hj]
      · rw [List.getElem?_eq_none (by omega), List.getElem?_eq_none (by rw [markFL_length]; omega)]
    rw [← e]
    refine Ev.step (f := fun _ => some (((a + 3 * x.length : Nat) : Int), x)) (fun k => ?_) (Ev.now _)
    rw [laws_markFileS.l0, if_neg (by omega)]
    obtain rfl : i = x.length := by omega
    rfl
  | succ d ih =>
    intro x i hi hb hx
    have hil : i < x.length := by omega
    have w1 : wrap64 (((a + 3 * i : Nat) : Int) + 1) = ((a + 3 * i + 1 : Nat) : Int) := by unfold wrap64; omega
    have w2 : wrap64 (((a + 3 * i + 1 : Nat) : Int) + 1) = ((a + 3 * i + 2 : Nat) : Int) := by unfold wrap64; omega
    have w3 : wrap64 (((a + 3 * i + 2 : Nat) : Int) + 1) = ((a + 3 * (i + 1) : Nat) : Int) := by unfold wrap64; omega
    refine Ev.step (f := fun k => (laws_markText.f k ((a + 3 * i : Nat) : Int)).bind fun t => (laws_markText.f k ((a + 3 * i + 1 : Nat) : Int)).bind fun u => laws_markFileS.l0 k (x.set i ⟨t, u, ((a + 3 * i + 2 : Nat) : Int)⟩) ((a + 3 * (i + 1) : Nat) : Int) ((i + 1 : Nat) : Int)) (fun k => ?_) ?_
    · rw [laws_markFileS.l0, if_pos (by omega)]
      simp only [if_pos (show (0 : Int) ≤ (i : Int) by omega), w1, w2, w3, wsucc i (by omega), Int.toNat_natCast, Option.bind_some, rdF_set x i _ hil, List.set_set]
      try (congr 1; funext t; congr 1; funext u; rw [rdF_set _ i _ hil])
    · refine (hmk (a + 3 * i) (by omega)).bind ?_
      refine (hmk (a + 3 * i + 1) (by omega)).bind ?_
      have hl : (x.set i (⟨mk (a + 3 * i), mk (a + 3 * i + 1), ((a + 3 * i + 2 : Nat) : Int)⟩ : File)).length = x.length := List.length_set
      have := ih (x.set i ⟨mk (a + 3 * i), mk (a + 3 * i + 1), ((a + 3 * i + 2 : Nat) : Int)⟩) (i + 1) (by omega) (by omega) (fun j hj => by
        by_cases h : j = i
        · subst h; rw [List.getElem?_set_self hil]
        · rw [List.getElem?_set_ne (by omega)]; exact hx j (by omega))
      rw [hl] at this
      exact this
theorem markFs_ev (mk : Nat → ByteArray) (hmk : ∀ n : Nat, n < 1000000000000000000 → Ev (fun k => laws_markText.f k (n : Int)) (mk n)) (x : List File) (b c d e : Int) (u : Bool) (h : x.length < 10000000) :
    Ev (fun k => laws_markFs.f k x b c d e u 1) (((1 + 3 * x.length : Nat) : Int), markFL mk 1 x.length) := by
  unfold laws_markFs.f laws_markFileS.f
  exact (markF_l0 mk hmk 1 x.length x 0 (by omega) (by omega) (fun j hj => by omega)).bind (f := fun _ t => some (t.1, t.2)) (Ev.now _)
theorem heldF_l0 (mk : Nat → ByteArray) (hmk : ∀ n : Nat, n < 1000000000000000000 → Ev (fun k => laws_markText.f k (n : Int)) (mk n)) (a n : Nat) (hb : a + 3 * n < 1000000000000000) (d : Nat) : ∀ (i : Nat), i + d = n →
    Ev (fun k => laws_heldFileS.l0 k (markFL mk a n) ((a + 3 * i : Nat) : Int) (i : Int)) ((a + 3 * n : Nat) : Int) := by
  induction d with
  | zero =>
    intro i hi
    refine Ev.step (f := fun _ => some ((a + 3 * n : Nat) : Int)) (fun k => ?_) (Ev.now _)
    rw [laws_heldFileS.l0, if_neg (by rw [markFL_length]; omega)]
    obtain rfl : i = n := by omega
    rfl
  | succ d ih =>
    intro i hi
    have hil : i < (markFL mk a n).length := by rw [markFL_length]; omega
    have hat : (markFL mk a n)[i] = ⟨mk (a + 3 * i), mk (a + 3 * i + 1), ((a + 3 * i + 2 : Nat) : Int)⟩ := by
      have := markFL_at mk a n i (by omega)
      rw [List.getElem?_eq_getElem hil] at this
      exact Option.some.inj this
    have w1 : wrap64 (((a + 3 * i : Nat) : Int) + 1) = ((a + 3 * i + 1 : Nat) : Int) := by unfold wrap64; omega
    have w2 : wrap64 (((a + 3 * i + 1 : Nat) : Int) + 1) = ((a + 3 * i + 2 : Nat) : Int) := by unfold wrap64; omega
    have w3 : wrap64 (((a + 3 * i + 2 : Nat) : Int) + 1) = ((a + 3 * (i + 1) : Nat) : Int) := by unfold wrap64; omega
    refine Ev.step (f := fun k => (laws_markText.f k ((a + 3 * i : Nat) : Int)).bind fun t => if (mk (a + 3 * i)).toList = t.toList then ((laws_markText.f k ((a + 3 * i + 1 : Nat) : Int)).bind fun u => if (mk (a + 3 * i + 1)).toList = u.toList then laws_heldFileS.l0 k (markFL mk a n) ((a + 3 * (i + 1) : Nat) : Int) ((i + 1 : Nat) : Int) else some (-1)) else some (-1)) (fun k => ?_) ?_
    · rw [laws_heldFileS.l0, if_pos (by omega), if_pos (by omega), rdF _ i hil, hat]
      simp only [w1, w2, w3, wsucc i (by omega), if_true]
    · refine (hmk (a + 3 * i) (by omega)).bind ?_
      simp only [if_true]
      refine (hmk (a + 3 * i + 1) (by omega)).bind ?_
      simp only [if_true]
      exact ih (i + 1) (by omega)
theorem heldFs_ev (mk : Nat → ByteArray) (hmk : ∀ n : Nat, n < 1000000000000000000 → Ev (fun k => laws_markText.f k (n : Int)) (mk n)) (n : Nat) (b c d e : Int) (u : Bool) (h : n < 10000000) :
    Ev (fun k => laws_heldFs.f k (markFL mk 1 n) b c d e u 1) ((1 + 3 * n : Nat) : Int) := by
  unfold laws_heldFs.f laws_heldFileS.f
  refine (heldF_l0 mk hmk 1 n (by omega) n 0 (by omega)).bind (f := fun _ t => if t < 0 then some (-1) else some t) ?_
  simp only [if_neg (show ¬ ((1 + 3 * n : Nat) : Int) < 0 by omega)]
  exact Ev.now _
end Go.Proofs.Ytoebfjfhdodakaa.Pure
end
section
set_option linter.unusedVariables false
set_option linter.unusedSimpArgs false
namespace Go.Proofs.Ytoebfjfhdodakaa.Pure
open Go Go.RowKit Go.Proofs Go.Proofs.Ytoebfjfhdodakaa Go.Proofs.Ytoebfjfhdodakaa.L Go.Proofs.YtoebfjfhdodakaaW.PrintWords Go.Proofs.YtoebfjfhdodakaaW.PrintLast
theorem emp_toList : (⟨#[]⟩ : ByteArray).toList = ([] : List UInt8) := by rw [ByteArray.toList_eq]
/-- Where the first file of this name is. -/
def findI (name : ByteArray) (l : List File) (i : Nat) : Int := match findN name l i with | none => -1 | some j => (j : Int)
theorem find_l0 (d : Nat) : ∀ (l : List File) (name : ByteArray) (i : Nat), i + d = l.length → l.length ≤ 1000 →
    Ev (fun k => spec_l6Find.l0 k name l l.length i) (findI name (l.drop i) i) := by
  induction d with
  | zero =>
    intro l name i hi hl
    rw [List.drop_eq_nil_of_le (by omega)]
    exact Ev.step (f := fun _ => some (-1)) (fun k => by rw [spec_l6Find.l0, if_neg (by omega)]) (Ev.now _)
  | succ d ih =>
    intro l name i hi hl
    have hil : i < l.length := by omega
    refine Ev.step (fun k => by rw [spec_l6Find.l0, if_pos (by omega), if_pos (by omega), if_pos (by omega), rdF l i hil, wsucc i (by omega)]) ?_
    rw [List.drop_eq_getElem_cons hil]
    unfold findI
    rw [findN]
    by_cases c : l[i].f0.toList = name.toList
    · simp only [if_pos c]
      exact Ev.now _
    · simp only [if_neg c]
      exact ih l name (i + 1) (by omega) hl
theorem find_ev (l : List File) (a b c d : Int) (u : Bool) (name : ByteArray) (hl : l.length ≤ 1000) : Ev (fun k => spec_l6Find.f k l a b c d u name) (findI name l 0) := by
  have := find_l0 l.length l name 0 (by omega) hl
  rw [List.drop_zero] at this
  exact this
/-- What l6With puts behind what it has. -/
def withN (f : File) (name : ByteArray) : Bool → List File → List File
  | p, [] => if p = true then [] else [f]
  | p, g :: r => (if (!p && fileLt f g) = true then [f] else []) ++ ((if g.f0.toList = name.toList then [] else [g]) ++ withN f name (p || fileLt f g) r)
theorem with_l0 (d : Nat) : ∀ (l : List File) (name f0 f1 : ByteArray) (f2 : Int) (i : Nat) (out : List File) (p : Bool), i + d = l.length → l.length ≤ 1000 → out.length ≤ 2 * i →
    Ev (fun k => spec_l6With.l0 k name out p l l.length i f0 f1 f2) (out ++ withN ⟨f0, f1, f2⟩ name p (l.drop i)) := by
  induction d with
  | zero =>
    intro l name f0 f1 f2 i out p hi hl ho
    rw [List.drop_eq_nil_of_le (by omega), withN]
    cases p with
    | true =>
      refine Ev.step (f := fun _ => some out) (fun k => by rw [spec_l6With.l0, if_neg (by omega), if_pos rfl]) ?_
      rw [if_pos rfl, List.append_nil]
      exact Ev.now _
    | false =>
      refine Ev.step (f := fun _ => some (out ++ [⟨f0, f1, f2⟩])) (fun k => by rw [spec_l6With.l0, if_neg (by omega), if_neg (by decide), if_pos (by omega)]) ?_
      rw [if_neg (by decide)]
      exact Ev.now _
  | succ d ih =>
    intro l name f0 f1 f2 i out p hi hl ho
    have hil : i < l.length := by omega
    rw [List.drop_eq_getElem_cons hil, withN]
    have keep : ∀ (out2 : List File) (p2 : Bool), out2.length ≤ 2 * i + 1 → Ev (fun k => if l[i].f0.toList = name.toList then spec_l6With.l0 k name out2 p2 l l.length ((i + 1 : Nat) : Int) f0 f1 f2 else if out2.length < 3518437208883 then spec_l6With.l0 k name (out2 ++ [⟨l[i].f0, l[i].f1, l[i].f2⟩]) p2 l l.length ((i + 1 : Nat) : Int) f0 f1 f2 else none) (out2 ++ ((if l[i].f0.toList = name.toList then [] else [l[i]]) ++ withN ⟨f0, f1, f2⟩ name p2 (l.drop (i + 1)))) := by
      intro out2 p2 h2
      by_cases c : l[i].f0.toList = name.toList
      · simp only [if_pos c, List.nil_append]
        exact ih l name f0 f1 f2 (i + 1) out2 p2 (by omega) hl (by omega)
      · simp only [if_neg c, if_pos (show out2.length < 3518437208883 by omega)]
        rw [← List.append_assoc]
        exact ih l name f0 f1 f2 (i + 1) (out2 ++ [l[i]]) p2 (by omega) hl (by rw [List.length_append]; simp only [List.length_singleton]; omega)
    have hw := wsucc i (show i < 9223372036854775807 by omega)
    cases p with
    | true =>
      refine Ev.step (fun k => by rw [spec_l6With.l0, if_pos (by omega), if_pos (by omega), if_pos (by omega), if_pos rfl, rdF l i hil]) ?_
      refine Ev.step (fun k => by rw [spec_l6With.j1, if_neg (by decide), hw]) ?_
      simp only [Bool.not_true, Bool.false_and, Bool.true_or, if_neg (show ¬ (false = true) by decide), List.nil_append]
      exact keep out true (by omega)
    | false =>
      refine Ev.step (fun k => by rw [spec_l6With.l0, if_pos (by omega), if_pos (by omega), if_pos (by omega), if_neg (by decide), rdF l i hil]) ?_
      have hf : Op.bytesLess f0.toList l[i].f0.toList = fileLt (⟨f0, f1, f2⟩ : File) l[i] := rfl
      rw [hf]
      cases hb : fileLt (⟨f0, f1, f2⟩ : File) l[i] with
      | true =>
        refine Ev.step (fun k => by rw [spec_l6With.j1, if_pos rfl, if_pos (by omega), Option.bind_some, hw]) ?_
        simp only [Bool.not_false, Bool.true_and, Bool.false_or, if_true]
        rw [← List.append_assoc]
        exact keep (out ++ [⟨f0, f1, f2⟩]) true (by rw [List.length_append]; simp only [List.length_singleton]; omega)
      | false =>
        refine Ev.step (fun k => by rw [spec_l6With.j1, if_neg (by decide), hw]) ?_
        simp only [Bool.not_false, Bool.true_and, Bool.false_or, if_neg (show ¬ (false = true) by decide), List.nil_append]
        exact keep out false (by omega)
theorem with_ev (l : List File) (name f0 f1 : ByteArray) (f2 : Int) (hl : l.length ≤ 1000) : Ev (fun k => spec_l6With.f k l name f0 f1 f2) (withN ⟨f0, f1, f2⟩ name (f0.toList == ([] : List UInt8)) l) := by
  have := with_l0 l.length l name f0 f1 f2 0 [] (f0.toList == ([] : List UInt8)) (by omega) hl (by simp)
  rw [List.drop_zero, List.nil_append] at this
  exact this
theorem withN_rest (f : File) (name : ByteArray) (r : List File) : withN f name true r = keepN name r := by
  induction r with
  | nil => rfl
  | cons g r ih =>
    rw [withN]
    simp only [Bool.not_true, Bool.false_and, Bool.true_or, if_neg (show ¬ (false = true) by decide), List.nil_append]
    rw [ih]
    unfold keepN
    rw [List.filter_cons]
    by_cases c : g.f0.toList = name.toList
    · simp [c]
    · have : (g.f0.toList == name.toList) = false := beq_eq_false_iff_ne.mpr c
      simp [c, this]
theorem keepN_all (name : ByteArray) (r : List File) (h : ∀ y ∈ r, y.f0.toList ≠ name.toList) : keepN name r = r := by
  unfold keepN
  rw [List.filter_eq_self]
  intro y hy
  rw [beq_eq_false_iff_ne.mpr (h y hy)]
  rfl
theorem withN_ins (f : File) (name : ByteArray) (l : List File) (hn : ∀ y ∈ l, y.f0.toList ≠ name.toList) (hf : ∀ y ∈ l, y.f0.toList ≠ f.f0.toList) : withN f name false l = insN l f := by
  induction l with
  | nil => rfl
  | cons g r ih =>
    rw [withN, insN, if_neg (hn g List.mem_cons_self)]
    cases hb : fileLt f g with
    | true =>
      have h2 : ¬ fileLt g f = true := by rw [fileLt_asymm hb]; decide
      rw [if_neg h2]
      simp only [Bool.not_false, Bool.true_and, Bool.false_or, if_true]
      rw [withN_rest, keepN_all name r (fun y hy => hn y (List.mem_cons_of_mem _ hy))]
      rfl
    | false =>
      have h2 : fileLt g f = true := by
        cases h : fileLt g f with
        | true => rfl
        | false => exact absurd (fileLt_eq h hb) (hf g List.mem_cons_self)
      rw [if_pos h2]
      simp only [Bool.not_false, Bool.true_and, Bool.false_or, if_neg (show ¬ (false = true) by decide), List.nil_append]
      rw [ih (fun y hy => hn y (List.mem_cons_of_mem _ hy)) (fun y hy => hf y (List.mem_cons_of_mem _ hy))]
      rfl
theorem withN_front (f : File) (name : ByteArray) (r : List File) (hn : ∀ y ∈ r, y.f0.toList ≠ name.toList) (hf : ∀ y ∈ r, fileLt f y = true) : withN f name false r = f :: r := by
  cases r with
  | nil => rfl
  | cons g r =>
    rw [withN, if_neg (hn g List.mem_cons_self), hf g List.mem_cons_self]
    simp only [Bool.not_false, Bool.true_and, Bool.false_or, if_true]
    rw [withN_rest, keepN_all name r (fun y hy => hn y (List.mem_cons_of_mem _ hy))]
    rfl
theorem fileLt_left {x x' y : File} (h : x.f0.toList = x'.f0.toList) : fileLt x y = fileLt x' y := by unfold fileLt; rw [h]
theorem fileLt_ne {x y : File} (h : fileLt x y = true) : x.f0.toList ≠ y.f0.toList := fun e => by rw [fileLt_name e] at h; cases h
theorem withN_set (f X : File) (name : ByteArray) (l : List File) (hs : SortedF l) : ∀ (i : Nat), l[i]? = some X → X.f0.toList = name.toList → f.f0.toList = name.toList → withN f name false l = l.set i f := by
  induction l with
  | nil => intro i h; cases h
  | cons g r ih =>
    intro i hi hX hf
    obtain ⟨h1, h2⟩ := List.pairwise_cons.1 hs
    cases i with
    | zero =>
      obtain rfl : g = X := by simpa using hi
      rw [withN, if_pos hX, fileLt_name (hf.trans hX.symm)]
      simp only [Bool.not_false, Bool.true_and, Bool.false_or, if_neg (show ¬ (false = true) by decide), List.nil_append, List.set_cons_zero]
      exact withN_front f name r (fun y hy e => fileLt_ne (h1 y hy) (hX.trans e.symm)) (fun y hy => by rw [fileLt_left (hf.trans hX.symm)]; exact h1 y hy)
    | succ i =>
      have hi' : r[i]? = some X := by simpa using hi
      have hgX := h1 X (List.mem_of_getElem? hi')
      have hg : ¬ g.f0.toList = name.toList := fun e => fileLt_ne hgX (e.trans hX.symm)
      have hfg : fileLt f g = false := by
        rw [fileLt_left (hf.trans hX.symm)]
        exact fileLt_asymm hgX
      rw [withN, if_neg hg, hfg]
      simp only [Bool.not_false, Bool.true_and, Bool.false_or, if_neg (show ¬ (false = true) by decide), List.nil_append, List.set_cons_succ]
      rw [ih h2 i hi' hX hf]
      rfl
theorem findN_at {name : ByteArray} {l : List File} {k j : Nat} (h : findN name l k = some j) : k ≤ j ∧ ∃ X, l[j - k]? = some X ∧ X.f0.toList = name.toList := by
  induction l generalizing k with
  | nil => cases h
  | cons x r ih =>
    rw [findN] at h
    by_cases c : x.f0.toList = name.toList
    · rw [if_pos c] at h
      obtain rfl := Option.some.inj h
      exact ⟨Nat.le_refl _, x, by simp, c⟩
    · rw [if_neg c] at h
      obtain ⟨h1, X, h2, h3⟩ := ih h
      refine ⟨by omega, X, ?_, h3⟩
      rw [show j - k = (j - (k + 1)) + 1 by omega]
      simpa using h2
theorem name_toList {s : ByteArray} (h : nameOk s = true) : s.toList ≠ [] := by
  unfold nameOk at h
  simp only [Bool.and_eq_true, decide_eq_true_eq] at h
  intro e
  have h2 : s.data.toList = [] := by rw [← ByteArray.toList_eq]; exact e
  have h3 : s.data.toList.length = s.size := data_length s
  rw [h2] at h3
  have := h.1.1
  simp only [List.length_nil] at h3
  omega
theorem sorted_from (l : List File) (d : Nat) : ∀ i, i + d = l.length → filesFrom l d i = true → SortedF (l.drop i) ∧ ∀ x, 0 < i → l[i - 1]? = some x → ∀ z ∈ l.drop i, fileLt x z = true := by
  induction d with
  | zero =>
    intro i hi _
    rw [List.drop_eq_nil_of_le (by omega)]
    exact ⟨List.Pairwise.nil, fun _ _ _ z hz => by cases hz⟩
  | succ d ih =>
    intro i hi h
    have hil : i < l.length := by omega
    rw [filesFrom, Bool.and_eq_true, fileOk_at l i hil] at h
    obtain ⟨h1, h2⟩ := h
    simp only [Bool.and_eq_true, Bool.or_eq_true, decide_eq_true_eq] at h1
    obtain ⟨s1, s2⟩ := ih (i + 1) (by omega) h2
    have hnext := s2 l[i] (by omega) (by rw [Nat.add_sub_cancel]; exact List.getElem?_eq_getElem hil)
    rw [List.drop_eq_getElem_cons hil]
    refine ⟨List.pairwise_cons.2 ⟨hnext, s1⟩, fun x h0 hx z hz => ?_⟩
    have hxi : fileLt x l[i] = true := by
      rcases h1.2 with h3 | h3
      · omega
      · rw [List.getD_eq_getElem?_getD, hx] at h3
        exact h3
    rcases List.mem_cons.1 hz with rfl | hz
    · exact hxi
    · exact swo_file.trans x l[i] z hxi (hnext z hz)
theorem fsOk_sorted {l : List File} {cap a b c : Int} (h : fsOk l cap a b c = true) : SortedF l := by
  unfold fsOk at h
  simp only [Bool.and_eq_true, decide_eq_true_eq] at h
  have := (sorted_from l l.length 0 (by omega) h.1.2).1
  rw [List.drop_zero] at this
  exact this
theorem names_from (l : List File) (d : Nat) : ∀ i, i + d = l.length → filesFrom l d i = true → ∀ z ∈ l.drop i, nameOk z.f0 = true := by
  induction d with
  | zero =>
    intro i hi _
    rw [List.drop_eq_nil_of_le (by omega)]
    intro z hz
    cases hz
  | succ d ih =>
    intro i hi h
    have hil : i < l.length := by omega
    rw [filesFrom, Bool.and_eq_true, fileOk_at l i hil] at h
    obtain ⟨h1, h2⟩ := h
    simp only [Bool.and_eq_true] at h1
    rw [List.drop_eq_getElem_cons hil]
    intro z hz
    rcases List.mem_cons.1 hz with rfl | hz
    · exact h1.1.1
    · exact ih (i + 1) (by omega) h2 z hz
theorem fsOk_names {l : List File} {cap a b c : Int} (h : fsOk l cap a b c = true) : ∀ z ∈ l, nameOk z.f0 = true := by
  unfold fsOk at h
  simp only [Bool.and_eq_true, decide_eq_true_eq] at h
  have := names_from l l.length 0 (by omega) h.1.2
  rw [List.drop_zero] at this
  exact this
/-- The reference's operation is the plain one. -/
theorem do_ev (l : List File) (cap cnt cr fa : Int) (dn : Bool) (kind : Int) (name data : ByteArray) (size : Int) {b1 b2 b3 : Int} (hok : fsOk l cap b1 b2 b3 = true) (hz : ∀ x ∈ l, x.f1.size ≤ 1048576) (hd : data.size ≤ 1048576) (hk : 1 ≤ kind ∧ kind ≤ 5) (hn : nameOk name = true) :
    Ev (fun k => spec_l6Do.f k l cap cnt cr fa dn kind name data size) (doN l cap kind name data size) := by
  have hs := fsOk_sorted hok
  have hnm := fsOk_names hok
  unfold fsOk at hok
  simp only [Bool.and_eq_true, decide_eq_true_eq] at hok
  obtain ⟨⟨⟨⟨hl, hcap⟩, hsum⟩, _⟩, _⟩ := hok
  have hne := name_toList hn
  have hpl : (name.toList == ([] : List UInt8)) = false := beq_eq_false_iff_ne.mpr hne
  unfold spec_l6Do.f doN
  refine (find_ev l cap cnt cr fa dn name (by omega)).bind ?_
  unfold findI
  by_cases k1 : kind = 1
  · simp only [if_pos k1]
    cases hf : findN name l 0 with
    | some j =>
      simp only [Option.isSome_some, if_true, if_pos (show (0 : Int) ≤ (j : Int) by omega)]
      exact Ev.now _
    | none =>
      simp only [Option.isSome_none, if_neg (show ¬ (false = true) by decide), if_neg (show ¬ (0 : Int) ≤ -1 by decide)]
      by_cases h3 : l.length = 300
      · simp only [if_pos h3, if_pos (show 300 ≤ l.length by omega)]
        exact Ev.now _
      · simp only [if_neg h3, if_neg (show ¬ 300 ≤ l.length by omega)]
        refine (with_ev l _ name _ 0 (by omega)).bind ?_
        rw [hpl, withN_ins _ _ l (fun y hy => by
          have := name_toList (hnm y hy)
          intro e
          exact this (e.trans emp_toList)) (fun y hy => findN_none hf y hy)]
        exact Ev.now _
  · simp only [if_neg k1]
    cases hf : findN name l 0 with
    | none =>
      simp only [if_pos (show (-1 : Int) < 0 by decide)]
      exact Ev.now _
    | some j =>
      obtain ⟨_, X, hX, hXn⟩ := findN_at hf
      rw [Nat.sub_zero] at hX
      simp only [if_neg (show ¬ (j : Int) < 0 by omega), Int.toNat_natCast, hX, Option.bind_some]
      have hXz := hz X (List.mem_of_getElem? hX)
      have hpX : (X.f0.toList == ([] : List UInt8)) = false := by rw [hXn]; exact hpl
      have put : ∀ (f1 : ByteArray) (f2 : Int) (code : Int), Ev (fun k => (spec_l6With.f k l name X.f0 f1 f2).bind fun r => some (r, code)) (l.set j ⟨X.f0, f1, f2⟩, code) := by
        intro f1 f2 code
        refine (with_ev l name X.f0 f1 f2 (by omega)).bind ?_
        rw [hpX, withN_set (⟨X.f0, f1, f2⟩ : File) X name l hs j hX hXn hXn]
        exact Ev.now _
      by_cases k2 : kind = 2
      · simp only [if_pos k2]
        refine (spec_bytes l cap cnt cr fa dn (by omega) (by omega)).bind ?_
        simp only [if_pos (show 0 ≤ cap - (sumF l : Int) ∧ cap - (sumF l : Int) ≤ 1000000000 ∧ data.size ≤ 1000000000 ∧ X.f1.size ≤ 1000000000 by omega)]
        have hLs : (L.sumF l : Int) = (sumF l : Int) := rfl
        rw [hLs]
        by_cases hr : (cap - (sumF l : Int)).toNat < data.size
        · simp only [if_pos hr]
          exact put _ _ _
        · simp only [if_neg hr]
          exact put _ _ _
      · simp only [if_neg k2]
        by_cases k3 : kind = 3
        · simp only [if_pos k3]
          exact put _ _ _
        · simp only [if_neg k3]
          by_cases k4 : kind = 4
          · simp only [if_pos k4, between_eq, Option.bind_some]
            by_cases hb : size < 0 ∨ (X.f1.size : Int) < size
            · simp only [if_pos hb, decide_eq_false (show ¬ (0 ≤ size ∧ size ≤ (X.f1.size : Int)) by omega), if_neg (show ¬ (false = true) by decide)]
              exact Ev.now _
            · have hb2 : 0 ≤ size ∧ size ≤ (X.f1.size : Int) := by omega
              simp only [if_neg hb, decide_eq_true hb2, if_true, if_pos hb2]
              exact put _ _ _
          · simp only [if_neg k4, if_pos (show kind = 5 by omega)]
            refine (with_ev l name _ _ 0 (by omega)).bind ?_
            rw [show ((⟨#[]⟩ : ByteArray).toList == ([] : List UInt8)) = true from by rw [emp_toList]; rfl, withN_rest]
            exact Ev.now _
/-- What FsStep answers. -/
def stepped (l : List File) (cap cnt cr fa : Int) (dn : Bool) (kind : Int) (name data : ByteArray) (size : Int) : List File × Int × Int × Int × Int × Bool × Int :=
  if fsOk l cap cnt cr fa = true ∧ (1 ≤ kind ∧ kind ≤ 5) ∧ nameOk name = true then ((stepN l cap cnt cr fa dn kind name data size).1, cap, (stepN l cap cnt cr fa dn kind name data size).2.1, cr, fa, (stepN l cap cnt cr fa dn kind name data size).2.2.1, (stepN l cap cnt cr fa dn kind name data size).2.2.2)
  else ([], 0, 0, 0, 0, false, 16)
theorem spec_stepped (l : List File) (cap cnt cr fa : Int) (dn : Bool) (kind : Int) (name data : ByteArray) (size : Int) (hl : l.length ≤ 9223372036854775807) (hsum : (sumF l : Int) ≤ 9223372036854775807) (hz : ∀ x ∈ l, x.f1.size ≤ 1048576) (hd : data.size ≤ 1048576) :
    Ev (fun k => spec_FsStep.f k l cap cnt cr fa dn kind name data size) (stepped l cap cnt cr fa dn kind name data size) := by
  unfold spec_FsStep.f stepped
  refine (spec_fsOk l cap cnt cr fa dn hl hsum).bind ?_
  by_cases h : fsOk l cap cnt cr fa = true
  · simp only [if_pos h, between_eq, Option.bind_some]
    by_cases hk : 1 ≤ kind ∧ kind ≤ 5
    · simp only [decide_eq_true hk, if_true]
      refine (spec_name name).bind ?_
      by_cases hn : nameOk name = true
      · simp only [if_pos hn, if_pos (show fsOk l cap cnt cr fa = true ∧ (1 ≤ kind ∧ kind ≤ 5) ∧ nameOk name = true from ⟨h, hk, hn⟩)]
        have hcn : (0 ≤ cnt ∧ cnt ≤ 1000000000000000) ∧ l.length ≤ 1000000 := by
          unfold fsOk cntOk at h
          simp only [Bool.and_eq_true, decide_eq_true_eq] at h
          exact ⟨h.2.1.1, by omega⟩
        simp only [if_pos hcn]
        unfold stepN tickR
        cases dn with
        | true =>
          simp only [if_true, if_neg (show ¬ (11 : Int) = 0 by decide)]
          exact Ev.now _
        | false =>
          simp only [if_neg (show ¬ (false = true) by decide)]
          by_cases c1 : cnt = 1000000000000000
          · simp only [if_pos c1, if_neg (show ¬ (12 : Int) = 0 by decide)]
            exact Ev.now _
          · simp only [if_neg c1]
            by_cases c2 : cr ≠ 0 ∧ cnt + 1 = cr
            · simp only [if_pos c2, if_neg (show ¬ (11 : Int) = 0 by decide)]
              exact Ev.now _
            · simp only [if_neg c2]
              by_cases c3 : fa ≠ 0 ∧ cnt + 1 = fa
              · simp only [if_pos c3, if_neg (show ¬ (12 : Int) = 0 by decide)]
                exact Ev.now _
              · simp only [if_neg c3, if_true]
                exact (do_ev l cap (cnt + 1) cr fa false kind name data size h hz hd hk hn).bind (Ev.now _)
      · simp only [if_neg hn, if_neg (show ¬ (fsOk l cap cnt cr fa = true ∧ (1 ≤ kind ∧ kind ≤ 5) ∧ nameOk name = true) from fun e => hn e.2.2)]
        exact Ev.now _
    · simp only [decide_eq_false hk, if_neg (show ¬ (false = true) by decide), if_neg (show ¬ (fsOk l cap cnt cr fa = true ∧ (1 ≤ kind ∧ kind ≤ 5) ∧ nameOk name = true) from fun e => hk e.2.1)]
      exact Ev.now _
  · simp only [if_neg h, if_neg (show ¬ (fsOk l cap cnt cr fa = true ∧ (1 ≤ kind ∧ kind ≤ 5) ∧ nameOk name = true) from fun e => h e.1)]
    exact Ev.now _
theorem impl_stepped (l : List File) (cap cnt cr fa : Int) (dn : Bool) (kind : Int) (name data : ByteArray) (size : Int) (hl : l.length ≤ 9223372036854775807) (hsum : (sumF l : Int) ≤ 9223372036854775807) (hz : ∀ x ∈ l, x.f1.size ≤ 1048576) (hd : data.size ≤ 1048576) (hnm : ∀ f ∈ l, f.f0.size ≤ 9223372036854775807) (hns : name.size ≤ 9223372036854775807) :
    Ev (fun k => impl_FsStep.f k l cap cnt cr fa dn kind name data size) (stepped l cap cnt cr fa dn kind name data size) := by
  unfold impl_FsStep.f stepped
  refine (impl_fsOk l cap cnt cr fa dn hl hsum hnm).bind ?_
  by_cases h : fsOk l cap cnt cr fa = true
  · simp only [if_pos h]
    by_cases hk : 1 ≤ kind ∧ kind ≤ 5
    · simp only [if_pos hk, impl_name name hns, Option.bind_some]
      by_cases hn : nameOk name = true
      · have hst : stepOk l cap cnt data = true := by
          have hs := fsOk_sorted h
          unfold fsOk cntOk at h
          simp only [Bool.and_eq_true, decide_eq_true_eq] at h
          unfold stepOk
          simp only [Bool.and_eq_true, decide_eq_true_eq, List.all_eq_true]
          have hLs : (L.sumF l : Int) = (sumF l : Int) := rfl
          exact ⟨by omega, by rw [hLs]; exact h.1.1.2, h.1.1.1.2.2, h.2.1.1, by omega, fun x hx => by have := hz x hx; omega, hs⟩
        simp only [if_pos hn, if_pos hst, if_pos (show fsOk l cap cnt cr fa = true ∧ (1 ≤ kind ∧ kind ≤ 5) ∧ nameOk name = true from ⟨h, hk, hn⟩)]
        exact Ev.now _
      · simp only [if_neg hn, if_neg (show ¬ (fsOk l cap cnt cr fa = true ∧ (1 ≤ kind ∧ kind ≤ 5) ∧ nameOk name = true) from fun e => hn e.2.2)]
        exact Ev.now _
    · simp only [if_neg hk, if_neg (show ¬ (fsOk l cap cnt cr fa = true ∧ (1 ≤ kind ∧ kind ≤ 5) ∧ nameOk name = true) from fun e => hk e.2.1)]
      exact Ev.now _
  · simp only [if_neg h, if_neg (show ¬ (fsOk l cap cnt cr fa = true ∧ (1 ≤ kind ∧ kind ≤ 5) ∧ nameOk name = true) from fun e => h e.1)]
    exact Ev.now _
theorem insN_length (l : List File) (x : File) : (insN l x).length = l.length + 1 := (insN_perm l x).length_eq
theorem stepped_length (l : List File) (cap cnt cr fa : Int) (dn : Bool) (kind : Int) (name data : ByteArray) (size : Int) : (stepped l cap cnt cr fa dn kind name data size).1.length ≤ l.length + 1 := by
  have hd : (doN l cap kind name data size).1.length ≤ l.length + 1 := by
    unfold doN
    split
    · split
      · exact Nat.le_succ _
      · split
        · exact Nat.le_succ _
        · exact Nat.le_of_eq (insN_length _ _)
    · split
      · exact Nat.le_succ _
      · split
        · exact Nat.le_succ _
        · split
          · split
            · simp only [List.length_set]; omega
            · simp only [List.length_set]; omega
          · split
            · simp only [List.length_set]; omega
            · split
              · split
                · exact Nat.le_succ _
                · simp only [List.length_set]; omega
              · exact Nat.le_trans (List.length_filter_le _ _) (Nat.le_succ _)
  unfold stepped
  split
  · unfold stepN
    split
    · exact hd
    · exact Nat.le_succ _
  · exact Nat.zero_le _
end Go.Proofs.Ytoebfjfhdodakaa.Pure
end
section
set_option linter.unusedVariables false
set_option linter.unusedSimpArgs false
namespace Go.Proofs.Ytoebfjfhdodakaa.Pure
open Go Go.RowKit Go.Proofs.Ytoebfjfhdodakaa Go.Proofs.Ytoebfjfhdodakaa.L Go.Proofs.YtoebfjfhdodakaaW.PrintWords Go.Proofs.YtoebfjfhdodakaaW.PrintMore Go.Proofs.YtoebfjfhdodakaaW.PrintLast
theorem goodF {l : List LFile} (h : ∀ y ∈ l, fnExactFsStep.good74 y) : ∀ y ∈ l, y.f0.size ≤ 9223372036854775807 ∧ y.f1.size ≤ 9223372036854775807 := fun y hy => by
  have := h y hy
  unfold fnExactFsStep.good74 maxLen at this
  omega
theorem mem_wF (l : List LFile) (y : LFile) (h : y ∈ l) : y.f1.size ≤ wF l := by
  induction l with
  | nil => cases h
  | cons f l ih =>
    have h2 : wF (f :: l) = f.f0.size + f.f1.size + wF l := rfl
    rcases List.mem_cons.1 h with rfl | h
    · omega
    · have := ih h; omega
theorem szOp_ev (kind : Int) (name data : ByteArray) (size m : Int) (hn : name.size ≤ 9223372036854775807) (hd : data.size ≤ 9223372036854775807) (h0 : 0 ≤ m) (h1 : m ≤ 1048576) :
    laws_szFsOp.f kind name data size m = some (if (name.size : Int) + data.size ≤ m then m - name.size - data.size else -1) := by
  unfold laws_szFsOp.f
  rw [w64 (m - (name.size : Int)) (by omega)]
  by_cases h2 : m - (name.size : Int) < 0
  · rw [if_pos h2, if_neg (by omega)]
  · rw [if_neg h2, w64 (m - (name.size : Int) - (data.size : Int)) (by omega)]
    by_cases h3 : m - (name.size : Int) - (data.size : Int) < 0
    · rw [if_pos h3, if_neg (by omega)]
    · rw [if_neg h3, if_pos (by omega)]
theorem fnExactFsStep_pure : fnExactFsStep.Pure0 := by
  intro l cap cnt cr fa u kind name data size hl hg _ _ _ _ _ hns hds _
  have hl' : l.length ≤ 9223372036854775807 := by unfold maxLen at hl; omega
  have hn' : name.size ≤ 9223372036854775807 := by unfold maxLen at hns; omega
  have hd' : data.size ≤ 9223372036854775807 := by unfold maxLen at hds; omega
  have hs := goodF hg
  obtain ⟨mk, hmk⟩ := marks
  have h : Ev (fun k => laws_FnExactFsStep.f k l cap cnt cr fa u kind name data size) true := by
    unfold laws_FnExactFsStep.f
    refine (szFs_ev l cap cnt cr fa u 1048576 hl' hs (by omega) (by omega)).bind ?_
    by_cases hc : (wtF l : Int) ≤ 1048576
    · simp only [if_pos hc, if_neg (show ¬ (1048576 - (wtF l : Int) < 0) by omega)]
      simp only [szOp_ev kind name data size (1048576 - (wtF l : Int)) hn' hd' (by omega) (by omega), Option.bind_some]
      by_cases hd : (name.size : Int) + data.size ≤ 1048576 - (wtF l : Int)
      · simp only [if_pos hd, if_neg (show ¬ (1048576 - (wtF l : Int) - (name.size : Int) - (data.size : Int) < 0) by omega)]
        have hle : l.length ≤ 1048576 := by unfold wtF at hc; omega
        have hdz : data.size ≤ 1048576 := by omega
        have hsum : (sumF (l.map cvF) : Int) ≤ 9223372036854775807 := by
          have := sumF_le l
          unfold wtF at hc
          omega
        have hml : (l.map cvF).length ≤ 9223372036854775807 := by rw [List.length_map]; exact hl'
        have hmz : ∀ x ∈ l.map cvF, x.f1.size ≤ 1048576 := fun x hx => by
          obtain ⟨y, hy, rfl⟩ := List.mem_map.1 hx
          have h1 : (cvF y).f1.size = y.f1.size := rfl
          have := mem_wF l y hy
          unfold wtF at hc
          omega
        have hmn : ∀ f ∈ l.map cvF, f.f0.size ≤ 9223372036854775807 := fun f hf => by
          obtain ⟨y, hy, rfl⟩ := List.mem_map.1 hf
          exact (hs y hy).1
        have hmle : (l.map cvF).length ≤ 1048576 := by rw [List.length_map]; exact hle
        have ht := toFs_ev l cap cnt cr fa u (by omega)
        obtain ⟨L, hL⟩ : ∃ L, l.map cvF = L := ⟨_, rfl⟩
        rw [hL] at hsum hml hmz hmn hmle ht
        have hspec := spec_stepped L cap cnt cr fa u kind name data size hml hsum hmz hdz
        have himpl := impl_stepped L cap cnt cr fa u kind name data size hml hsum hmz hdz hmn hn'
        have hcl := stepped_length L cap cnt cr fa u kind name data size
        obtain ⟨Z, b1, b2, b3, b4, b5, b6, hZ⟩ : ∃ Z b1 b2 b3 b4 b5 b6, stepped L cap cnt cr fa u kind name data size = (Z, b1, b2, b3, b4, b5, b6) := ⟨_, _, _, _, _, _, _, rfl⟩
        rw [hZ] at hspec himpl hcl
        simp only at hcl
        have hto : laws_toFsOp.f kind name data size = some (kind, name, data, size) := rfl
        simp only [hto, Option.bind_some]
        refine ht.bind ?_
        refine hspec.bind ?_
        refine ht.bind ?_
        refine himpl.bind ?_
        refine (eqFs_ev Z b1 b2 b3 b4 b5 (by omega)).bind ?_
        simp only [if_true, bne_self_eq_false]
        refine Ev.step (fun k => by rw [laws_FnExactFsStep.j0, if_neg (by decide)]) ?_
        refine ht.bind ?_
        refine (eqFs_ev L cap cnt cr fa u hml).bind ?_
        simp only [if_true]
        refine (markFs_ev mk hmk L cap cnt cr fa u (by omega)).bind ?_
        simp only [if_neg (show ¬ ((1 + 3 * L.length : Nat) : Int) < 0 by omega)]
        refine (eqFs_ev Z b1 b2 b3 b4 b5 (by omega)).bind ?_
        simp only [if_true, bne_self_eq_false]
        refine Ev.step (fun k => by rw [laws_FnExactFsStep.j1, if_neg (by decide)]) ?_
        refine (markFs_ev mk hmk Z b1 b2 b3 b4 b5 (by omega)).bind ?_
        refine (heldFs_ev mk hmk Z.length b1 b2 b3 b4 b5 (by omega)).bind ?_
        simp only [if_neg (show ¬ ((1 + 3 * Z.length : Nat) : Int) < 0 by omega), if_true, hto, Option.bind_some]
        refine ht.bind ?_
        refine himpl.bind ?_
        refine (eqFs_ev Z b1 b2 b3 b4 b5 (by omega)).bind ?_
        simp only [if_true, bne_self_eq_false]
        refine Ev.step (fun k => by rw [laws_FnExactFsStep.j2, if_neg (by decide)]) ?_
        refine (heldFs_ev mk hmk Z.length b1 b2 b3 b4 b5 (by omega)).bind ?_
        simp only [if_neg (show ¬ ((1 + 3 * Z.length : Nat) : Int) < 0 by omega), if_true]
        exact Ev.now _
      · simp only [if_neg hd, if_pos (show (-1 : Int) < 0 by decide)]
        exact Ev.now _
    · simp only [if_neg hc, if_pos (show (-1 : Int) < 0 by decide)]
      exact Ev.now _
  exact h.rounds
end Go.Proofs.Ytoebfjfhdodakaa.Pure
namespace Go.Proofs.Ytoebfjfhdodakaa
theorem fnExactFsStep_holds : Rows.FnExactFsStepSaid := fnExactFsStep.over Pure.fnExactFsStep_pure
end Go.Proofs.Ytoebfjfhdodakaa
end
