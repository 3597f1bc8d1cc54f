/- The texts that the proof of the law FnExactEncodeStm rests on, part 10: printed functions with their contracts, words, plain laws; the last part ends in the statement itself. No condition but those that each theorem states. -/
import Derived.Test.YtjihphegmdfpfaaDoorKFnExactEncodeStm9
set_option linter.unusedVariables false
set_option linter.unusedSimpArgs false
section
set_option linter.unusedVariables false
set_option linter.unusedSimpArgs false
namespace Go.Proofs.YtjihphegmdfpfaaDoor.Pure
open Go Go.RowKit Go.Proofs.YtjihphegmdfpfaaDoor Go.Proofs.YtjihphegmdfpfaaDoor.L Go.Proofs.YtjihphegmdfpfaaDoorW.PrintWords Go.Proofs.YtjihphegmdfpfaaDoorW.PrintMore Go.Proofs.YtjihphegmdfpfaaDoorW.PrintLast
theorem Ev.pos {α : Type} {c : Prop} [Decidable c] {f g : Nat → Option α} {r : α} (h : c) (hf : Ev f r) : Ev (fun k => if c then f k else g k) r := by
  simpa only [if_pos h] using hf
theorem Ev.neg {α : Type} {c : Prop} [Decidable c] {f g : Nat → Option α} {r : α} (h : ¬ c) (hf : Ev g r) : Ev (fun k => if c then f k else g k) r := by
  simpa only [if_neg h] using hf
def encN (n : Nat) (v : Int) : ByteArray := strOfNums (numB n v)
theorem encN_size (n : Nat) (v : Int) : (encN n v).size = n := by
  unfold encN
  rw [strOfNums_size, numB_length]
def enc8 (s : ByteArray) : ByteArray := encN 1 (s.size : Int) ++ s
def enc16 (s : ByteArray) : ByteArray := encN 2 (s.size : Int) ++ s
theorem enc8_size (s : ByteArray) : (enc8 s).size = 1 + s.size := by unfold enc8; rw [ByteArray.size_append, encN_size]
theorem enc16_size (s : ByteArray) : (enc16 s).size = 2 + s.size := by unfold enc16; rw [ByteArray.size_append, encN_size]
def stepI (s : ByteArray) (y : Itm) : ByteArray := if y.f0 = 1 then (s ++ encN 1 y.f0) ++ encN 8 y.f1 else if y.f0 = 2 then (s ++ encN 1 y.f0) ++ enc16 y.f2 else if y.f0 = 3 then (s ++ encN 1 y.f0) ++ enc8 y.f2 else s ++ encN 1 y.f0
def stepC (s : ByteArray) (y : Col) : ByteArray := s ++ (enc8 y.f0 ++ encN 1 y.f1)
def stepV (s : ByteArray) (y : Val) : ByteArray := if y.f0 = 1 then (s ++ encN 1 y.f0) ++ encN 8 y.f1 else (s ++ encN 1 y.f0) ++ enc16 y.f2
theorem stepI_size (s : ByteArray) (y : Itm) (hy : y.f2.size ≤ 1000) : (stepI s y).size ≤ s.size + 1100 := by
  unfold stepI
  by_cases c1 : y.f0 = 1
  · simp only [if_pos c1, ByteArray.size_append, encN_size]; omega
  · by_cases c2 : y.f0 = 2
    · simp only [if_neg c1, if_pos c2, ByteArray.size_append, encN_size, enc16_size]; omega
    · by_cases c3 : y.f0 = 3
      · simp only [if_neg c1, if_neg c2, if_pos c3, ByteArray.size_append, encN_size, enc8_size]; omega
      · simp only [if_neg c1, if_neg c2, if_neg c3, ByteArray.size_append, encN_size]; omega
theorem stepI_size2 (s : ByteArray) (y : Itm) (hy : y.f2.size ≤ 200) : (stepI s y).size ≤ s.size + 250 := by
  unfold stepI
  by_cases c1 : y.f0 = 1
  · simp only [if_pos c1, ByteArray.size_append, encN_size]; omega
  · by_cases c2 : y.f0 = 2
    · simp only [if_neg c1, if_pos c2, ByteArray.size_append, encN_size, enc16_size]; omega
    · by_cases c3 : y.f0 = 3
      · simp only [if_neg c1, if_neg c2, if_pos c3, ByteArray.size_append, encN_size, enc8_size]; omega
      · simp only [if_neg c1, if_neg c2, if_neg c3, ByteArray.size_append, encN_size]; omega
theorem stepV_size (s : ByteArray) (y : Val) (hy : y.f2.size ≤ 1000) : (stepV s y).size ≤ s.size + 1100 := by
  unfold stepV
  by_cases c1 : y.f0 = 1
  · simp only [if_pos c1, ByteArray.size_append, encN_size]; omega
  · simp only [if_neg c1, ByteArray.size_append, encN_size, enc16_size]; omega
def expEnc (l : List Itm) : ByteArray := l.foldl stepI (encN 2 (l.length : Int))
theorem foldI_size (l : List Itm) (hs : ∀ y ∈ l, y.f2.size ≤ 200) : ∀ s : ByteArray, (l.foldl stepI s).size ≤ s.size + l.length * 250 := by
  induction l with
  | nil => intro s; simp
  | cons y l ih =>
    intro s
    have h1 := ih (fun z hz => hs z (List.mem_cons_of_mem _ hz)) (stepI s y)
    have h2 := stepI_size2 s y (hs y List.mem_cons_self)
    rw [List.foldl_cons, List.length_cons, Nat.add_mul]
    omega
theorem expEnc_size (l : List Itm) (hl : l.length ≤ 100) (hs : ∀ y ∈ l, y.f2.size ≤ 200) : (expEnc l).size ≤ 30000 := by
  have := foldI_size l hs (encN 2 (l.length : Int))
  rw [encN_size] at this
  unfold expEnc
  omega
/-- A statement's bytes; none where there are too many. -/
def capB (s : ByteArray) : ByteArray := if (s.size : Int) > 60000 then (⟨#[]⟩ : ByteArray) else s
def encStm (kind : Int) (table : ByteArray) (cols : List Col) (vals : List Val) (col : ByteArray) (exp wh : List Itm) (outs : List (List Itm)) : ByteArray :=
  if stmOk kind table cols vals col exp wh outs = true then
    (if kind = 1 then capB (cols.foldl stepC ((encN 1 kind ++ enc8 table) ++ encN 1 (cols.length : Int)))
     else if kind = 2 then capB (vals.foldl stepV ((encN 1 kind ++ enc8 table) ++ encN 1 (vals.length : Int)))
     else if kind = 3 then capB ((encN 1 kind ++ enc8 table) ++ ((enc8 col ++ expEnc exp) ++ expEnc wh))
     else if kind = 4 then capB ((encN 1 kind ++ enc8 table) ++ expEnc wh)
     else if kind = 5 then capB (outs.foldl (fun s e => s ++ expEnc e) ((encN 1 kind ++ enc8 table) ++ encN 1 (outs.length : Int)) ++ expEnc wh)
     else capB (encN 1 kind ++ enc8 table))
  else (⟨#[]⟩ : ByteArray)
theorem bind_if {α β : Type} (p : Prop) [Decidable p] (a : Option α) (g : α → Option β) : (if p then a else none).bind g = if p then a.bind g else none := by split <;> rfl
theorem bind_ite {α β : Type} (p : Prop) [Decidable p] (a b : Option α) (g : α → Option β) : (if p then a else b).bind g = if p then a.bind g else b.bind g := by split <;> rfl
/-- A loop that adds to the bytes. -/
theorem foldE {α : Type} (L : Nat → ByteArray → Nat → Option ByteArray) (st : Nat → ByteArray → α → Option ByteArray) (sp : ByteArray → α → ByteArray) (fin : ByteArray → ByteArray) (l : List α) (c B : Nat)
    (hL : ∀ k s i (h : i < l.length), L (k + 1) s i = (st k s l[i]).bind fun s' => L k s' (i + 1))
    (hfin : ∀ s, s.size ≤ B → Ev (fun k => L k s l.length) (fin s))
    (hst : ∀ s y, y ∈ l → s.size + c ≤ B → Ev (fun k => st k s y) (sp s y))
    (hsz : ∀ s y, y ∈ l → (sp s y).size ≤ s.size + c) (d : Nat) :
    ∀ i s, i + d = l.length → s.size + d * c ≤ B → Ev (fun k => L k s i) (fin ((l.drop i).foldl sp s)) := by
  induction d with
  | zero =>
    intro i s hi hz
    rw [List.drop_eq_nil_of_le (by omega)]
    obtain rfl : i = l.length := by omega
    exact hfin s (by omega)
  | succ d ih =>
    intro i s hi hz
    have hil : i < l.length := by omega
    have hm : l[i] ∈ l := List.getElem_mem hil
    rw [Nat.add_mul] at hz
    refine Ev.step (fun k => hL k s i hil) ?_
    refine (hst s l[i] hm (by omega)).bind ?_
    rw [List.drop_eq_getElem_cons hil, List.foldl_cons]
    exact ih (i + 1) _ (by omega) (by have := hsz s l[i] hm; omega)
theorem empty_size {s : ByteArray} (h : s.toList = ([] : List UInt8)) : s.size = 0 := by
  have e : s.toList.length = s.size := by rw [ByteArray.toList_eq]; rfl
  rw [h] at e
  exact e.symm
theorem name_small {s : ByteArray} (h : nameKw s = true) : s.size ≤ 30 := by
  unfold nameKw at h
  simp only [Bool.and_eq_true, decide_eq_true_eq] at h
  exact h.2.1
theorem itm_small {op n : Int} {x : ByteArray} (h : itmOk op n x = true) : x.size ≤ 200 := by
  have he : ∀ y : ByteArray, (y.toList == ([] : List UInt8)) = true → y.size ≤ 200 := fun y hy => by rw [empty_size (beq_iff_eq.mp hy)]; omega
  unfold itmOk at h
  by_cases c1 : op = 1
  · rw [if_pos c1, Bool.and_eq_true] at h; exact he x h.2
  · rw [if_neg c1] at h
    by_cases c2 : op = 2
    · rw [if_pos c2, Bool.and_eq_true] at h
      have := h.2
      unfold textOk at this
      rw [Bool.and_eq_true, decide_eq_true_eq] at this
      exact this.1
    · rw [if_neg c2] at h
      by_cases c3 : op = 3
      · rw [if_pos c3, Bool.and_eq_true] at h
        have := name_small h.2
        omega
      · rw [if_neg c3, Bool.and_eq_true, Bool.and_eq_true] at h; exact he x h.2.2
theorem exp_small {l : List Itm} (h : expOk l = true) : l.length ≤ 100 ∧ ∀ z ∈ l, z.f2.size ≤ 200 := by
  unfold expOk at h
  rw [Bool.and_eq_true, decide_eq_true_eq] at h
  refine ⟨h.1.2, ?_⟩
  have key : ∀ (l : List Itm) (d : Int), expRun l d = true → ∀ z ∈ l, z.f2.size ≤ 200 := by
    intro l
    induction l with
    | nil => intro d _ z hz; cases hz
    | cons t r ih =>
      intro d hd z hz
      rw [expRun, Bool.and_eq_true] at hd
      rcases List.mem_cons.1 hz with rfl | hz
      · exact itm_small hd.1
      · by_cases c : d < arity t.f0
        · rw [if_pos c] at hd; cases hd.2
        · rw [if_neg c] at hd; exact ih _ hd.2 z hz
  exact key l 0 h.2
theorem wh_small {l : List Itm} (h : whOk l = true) : l.length ≤ 100 ∧ ∀ z ∈ l, z.f2.size ≤ 200 := by
  unfold whOk at h
  rw [Bool.or_eq_true, decide_eq_true_eq] at h
  rcases h with h | h
  · have : l = [] := List.eq_nil_of_length_eq_zero h
    subst this
    exact ⟨by simp, fun z hz => by cases hz⟩
  · exact exp_small h
theorem stmOk_small {kind : Int} {table : ByteArray} {cols : List Col} {vals : List Val} {col : ByteArray} {exp wh : List Itm} {outs : List (List Itm)} (h : stmOk kind table cols vals col exp wh outs = true) :
    table.size ≤ 30 ∧ (kind = 1 → cols.length ≤ 20 ∧ ∀ y ∈ cols, y.f0.size ≤ 200) ∧ (kind = 2 → vals.length ≤ 20 ∧ ∀ y ∈ vals, y.f2.size ≤ 200) ∧ (kind = 3 → col.size ≤ 30 ∧ (exp.length ≤ 100 ∧ ∀ z ∈ exp, z.f2.size ≤ 200) ∧ (wh.length ≤ 100 ∧ ∀ z ∈ wh, z.f2.size ≤ 200)) ∧
      (kind = 4 → wh.length ≤ 100 ∧ ∀ z ∈ wh, z.f2.size ≤ 200) ∧ (kind = 5 → outs.length ≤ 20 ∧ (∀ y ∈ outs, y.length ≤ 100 ∧ ∀ z ∈ y, z.f2.size ≤ 200) ∧ (wh.length ≤ 100 ∧ ∀ z ∈ wh, z.f2.size ≤ 200)) := by
  unfold stmOk at h
  rw [Bool.and_eq_true] at h
  obtain ⟨hn, h⟩ := h
  refine ⟨name_small hn, fun k => ?_, fun k => ?_, fun k => ?_, fun k => ?_, fun k => ?_⟩
  · subst k
    simp only [if_true, Bool.and_eq_true, decide_eq_true_eq, List.all_eq_true] at h
    refine ⟨h.2.2.2.2.2.1.2, fun y hy => ?_⟩
    have := h.2.2.2.2.2.2 y hy
    unfold colOk at this
    rw [Bool.and_eq_true] at this
    have := name_small this.1
    omega
  · subst k
    simp only [show ¬ (2 : Int) = 1 by decide, if_false, if_true, Bool.and_eq_true, decide_eq_true_eq, List.all_eq_true] at h
    refine ⟨h.2.2.2.2.2.1.2, fun y hy => ?_⟩
    have := h.2.2.2.2.2.2 y hy
    unfold valOk at this
    by_cases c1 : y.f0 = 1
    · rw [if_pos c1, Bool.and_eq_true] at this
      rw [empty_size (beq_iff_eq.mp this.2)]; omega
    · rw [if_neg c1] at this
      by_cases c2 : y.f0 = 2
      · rw [if_pos c2, Bool.and_eq_true] at this
        have := this.2
        unfold textOk at this
        rw [Bool.and_eq_true, decide_eq_true_eq] at this
        exact this.1
      · rw [if_neg c2] at this; cases this
  · subst k
    simp only [show ¬ (3 : Int) = 1 by decide, show ¬ (3 : Int) = 2 by decide, if_false, if_true, Bool.and_eq_true, decide_eq_true_eq] at h
    exact ⟨name_small h.2.2.2.1, exp_small h.2.2.2.2.1, wh_small h.2.2.2.2.2⟩
  · subst k
    simp only [show ¬ (4 : Int) = 1 by decide, show ¬ (4 : Int) = 2 by decide, show ¬ (4 : Int) = 3 by decide, if_false, if_true, Bool.and_eq_true, decide_eq_true_eq] at h
    exact wh_small h.2.2.2.2.2
  · subst k
    simp only [show ¬ (5 : Int) = 1 by decide, show ¬ (5 : Int) = 2 by decide, show ¬ (5 : Int) = 3 by decide, show ¬ (5 : Int) = 4 by decide, if_false, if_true, Bool.and_eq_true, decide_eq_true_eq, List.all_eq_true] at h
    exact ⟨h.2.2.2.2.1.2, fun y hy => exp_small (h.2.2.2.2.2.1 y hy), wh_small h.2.2.2.2.2.2⟩
theorem spec_n1 (v : Int) : Ev (fun k => spec_l1Num.f k 1 v) (encN 1 v) := spec_num 1 v (by decide)
theorem spec_n2 (v : Int) : Ev (fun k => spec_l1Num.f k 2 v) (encN 2 v) := spec_num 2 v (by decide)
theorem spec_n8 (v : Int) : Ev (fun k => spec_l1Num.f k 8 v) (encN 8 v) := spec_num 8 v (by decide)
theorem spec_s8 (s : ByteArray) (hs : s.size ≤ 1000000) : Ev (fun k => spec_l1S8.f k s) (enc8 s) := by
  unfold spec_l1S8.f
  refine (spec_n1 _).bind ?_
  refine Ev.pos (by rw [encN_size]; omega) ?_
  exact Ev.now _
theorem spec_s16 (s : ByteArray) (hs : s.size ≤ 1000000) : Ev (fun k => spec_l1S16.f k s) (enc16 s) := by
  unfold spec_l1S16.f
  refine (spec_n2 _).bind ?_
  refine Ev.pos (by rw [encN_size]; omega) ?_
  exact Ev.now _
theorem spec_expGo (l : List Itm) (hs : ∀ y ∈ l, y.f2.size ≤ 1000) : ∀ s : ByteArray, s.size + l.length * 1100 ≤ 1000000 → Ev (fun k => expGo (spec_l1Num.f k) (spec_l1S16.f k) (spec_l1S8.f k) l s) (l.foldl stepI s) := by
  induction l with
  | nil => intro s _; exact Ev.now _
  | cons y l ih =>
    intro s hz
    have hy := hs y List.mem_cons_self
    have ih2 := ih (fun z hz => hs z (List.mem_cons_of_mem _ hz))
    simp only [List.length_cons, Nat.add_mul] at hz
    rw [List.foldl_cons]
    have hst := stepI_size s y hy
    refine Ev.congr (fun k => by rw [expGo]) ?_
    refine (spec_n1 y.f0).bind ?_
    unfold expAdd
    refine Ev.pos (by rw [encN_size]; omega) ?_
    by_cases c1 : y.f0 = 1
    · have e : stepI s y = (s ++ encN 1 y.f0) ++ encN 8 y.f1 := by unfold stepI; rw [if_pos c1]
      rw [e] at hst ⊢
      simp only [if_pos c1]
      refine (spec_n8 y.f1).bind ?_
      refine Ev.pos (by rw [ByteArray.size_append, encN_size, encN_size]; omega) ?_
      exact ih2 _ (by omega)
    · by_cases c2 : y.f0 = 2
      · have e : stepI s y = (s ++ encN 1 y.f0) ++ enc16 y.f2 := by unfold stepI; rw [if_neg c1, if_pos c2]
        rw [e] at hst ⊢
        simp only [if_neg c1, if_pos c2]
        refine (spec_s16 y.f2 (by omega)).bind ?_
        refine Ev.pos (by rw [ByteArray.size_append, encN_size, enc16_size]; omega) ?_
        exact ih2 _ (by omega)
      · by_cases c3 : y.f0 = 3
        · have e : stepI s y = (s ++ encN 1 y.f0) ++ enc8 y.f2 := by unfold stepI; rw [if_neg c1, if_neg c2, if_pos c3]
          rw [e] at hst ⊢
          simp only [if_neg c1, if_neg c2, if_pos c3]
          refine (spec_s8 y.f2 (by omega)).bind ?_
          refine Ev.pos (by rw [ByteArray.size_append, encN_size, enc8_size]; omega) ?_
          exact ih2 _ (by omega)
        · have e : stepI s y = s ++ encN 1 y.f0 := by unfold stepI; rw [if_neg c1, if_neg c2, if_neg c3]
          rw [e] at hst ⊢
          simp only [if_neg c1, if_neg c2, if_neg c3]
          exact ih2 _ (by omega)
theorem spec_eb (l : List Itm) (hl : l.length ≤ 200) (hs : ∀ y ∈ l, y.f2.size ≤ 1000) : Ev (fun k => spec_l4ExpBytes.f k l) (expEnc l) := by
  unfold spec_l4ExpBytes.f expEnc
  refine (spec_n2 _).bind ?_
  refine Ev.pos ⟨by rw [encN_size]; omega, by omega⟩ ?_
  exact spec_expGo l hs _ (by rw [encN_size]; omega)
theorem spec_fin (F : Nat → Option ByteArray) (s : ByteArray) (h : ∀ k, F (k + 1) = if (s.size : Int) > 60000 then some (⟨#[]⟩ : ByteArray) else some s) : Ev F (capB s) := by
  refine Ev.step (f := fun _ => some (capB s)) (fun k => ?_) (Ev.now _)
  rw [h k]
  unfold capB
  split <;> rfl
theorem spec_ecols (l : List Col) (hl : l.length ≤ 20) (hs : ∀ y ∈ l, y.f0.size ≤ 1000) (s : ByteArray) (hz : s.size ≤ 100000) : Ev (fun k => spec_EncodeStm.l0 k s l (l.length : Int) 0) (capB (l.foldl stepC s)) := by
  have := foldE (fun k s i => spec_EncodeStm.l0 k s l (l.length : Int) (i : Int)) (fun k s y => (spec_l1S8.f k y.f0).bind fun t => (spec_l1Num.f k 1 y.f1).bind fun u => if t.size + u.size ≤ 9223372036854775807 then (if s.size + (t ++ u).size ≤ 9223372036854775807 then some (s ++ (t ++ u)) else none) else none) stepC capB l 1100 1000000
    (fun k s i h => by
      rw [spec_EncodeStm.l0, if_pos (by omega), if_pos (by omega), if_pos (by omega), rdCol l i h, wsucc i (by omega)]
      simp only [Option.bind_assoc, bind_if, Option.bind_some, Option.bind_none, bind_ite])
    (fun s hs => spec_fin _ s fun k => by rw [spec_EncodeStm.l0, if_neg (by omega)])
    (fun s y hy hz => by
      refine (spec_s8 y.f0 (by have := hs y hy; omega)).bind ?_
      refine (spec_n1 y.f1).bind ?_
      refine Ev.pos (by rw [enc8_size, encN_size]; have := hs y hy; omega) ?_
      refine Ev.pos (by rw [ByteArray.size_append, enc8_size, encN_size]; have := hs y hy; omega) ?_
      exact Ev.now _) (fun s y hy => by unfold stepC; rw [ByteArray.size_append, ByteArray.size_append, enc8_size, encN_size]; have := hs y hy; omega) l.length 0 s (by omega) (by omega)
  simpa using this
theorem spec_evals (l : List Val) (hl : l.length ≤ 20) (hs : ∀ y ∈ l, y.f2.size ≤ 1000) (s : ByteArray) (hz : s.size ≤ 100000) : Ev (fun k => spec_EncodeStm.l1 k s l (l.length : Int) 0) (capB (l.foldl stepV s)) := by
  have := foldE (fun k s i => spec_EncodeStm.l1 k s l (l.length : Int) (i : Int)) (fun k s y => (spec_l1Num.f k 1 y.f0).bind fun t => if s.size + t.size ≤ 9223372036854775807 then (if y.f0 = 1 then (spec_l1Num.f k 8 y.f1).bind fun u => if (s ++ t).size + u.size ≤ 9223372036854775807 then some ((s ++ t) ++ u) else none else (spec_l1S16.f k y.f2).bind fun u => if (s ++ t).size + u.size ≤ 9223372036854775807 then some ((s ++ t) ++ u) else none) else none) stepV capB l 1100 1000000
    (fun k s i h => by
      rw [spec_EncodeStm.l1, if_pos (by omega), if_pos (by omega), if_pos (by omega), rdVal l i h, wsucc i (by omega)]
      simp only [Option.bind_assoc, bind_if, Option.bind_some, Option.bind_none, bind_ite])
    (fun s hs => spec_fin _ s fun k => by rw [spec_EncodeStm.l1, if_neg (by omega)])
    (fun s y hy hz => by
      unfold stepV
      refine (spec_n1 y.f0).bind ?_
      refine Ev.pos (by rw [encN_size]; omega) ?_
      by_cases c1 : y.f0 = 1
      · simp only [if_pos c1]
        refine (spec_n8 y.f1).bind ?_
        refine Ev.pos (by rw [ByteArray.size_append, encN_size, encN_size]; omega) ?_
        exact Ev.now _
      · simp only [if_neg c1]
        refine (spec_s16 y.f2 (by have := hs y hy; omega)).bind ?_
        refine Ev.pos (by rw [ByteArray.size_append, encN_size, enc16_size]; have := hs y hy; omega) ?_
        exact Ev.now _) (fun s y hy => stepV_size s y (hs y hy)) l.length 0 s (by omega) (by omega)
  simpa using this
theorem spec_eouts (l : List (List Itm)) (hl : l.length ≤ 20) (hs : ∀ y ∈ l, y.length ≤ 100 ∧ ∀ z ∈ y, z.f2.size ≤ 200) (a0 : Int) (a1 : ByteArray) (a2 : List Col) (a3 : List Val) (a4 : ByteArray) (a5 wh : List Itm) (a7 : List (List Itm)) (hw : wh.length ≤ 100 ∧ ∀ z ∈ wh, z.f2.size ≤ 200) (s : ByteArray) (hz : s.size ≤ 100000) :
    Ev (fun k => spec_EncodeStm.l2 k s l (l.length : Int) 0 a0 a1 a2 a3 a4 a5 wh a7) (capB (l.foldl (fun s e => s ++ expEnc e) s ++ expEnc wh)) := by
  have := foldE (fun k s i => spec_EncodeStm.l2 k s l (l.length : Int) (i : Int) a0 a1 a2 a3 a4 a5 wh a7) (fun k s y => (spec_l4ExpBytes.f k y).bind fun t => if s.size + t.size ≤ 9223372036854775807 then some (s ++ t) else none) (fun s e => s ++ expEnc e) (fun s => capB (s ++ expEnc wh)) l 30000 1000000
    (fun k s i h => by
      rw [spec_EncodeStm.l2, if_pos (by omega), if_pos (by omega), if_pos (by omega), rdII l i h, wsucc i (by omega)]
      simp only [Option.bind_assoc, bind_if, Option.bind_some, Option.bind_none, bind_ite])
    (fun s hs => by
      refine Ev.step (f := fun k => (spec_l4ExpBytes.f k wh).bind fun t => if s.size + t.size ≤ 9223372036854775807 then (if ((s ++ t).size : Int) > 60000 then some (⟨#[]⟩ : ByteArray) else some (s ++ t)) else none) (fun k => by rw [spec_EncodeStm.l2, if_neg (by omega)]) ?_
      refine (spec_eb wh (by omega) (fun z hz => by have := hw.2 z hz; omega)).bind ?_
      have := expEnc_size wh hw.1 hw.2
      refine Ev.pos (by omega) ?_
      unfold capB
      split <;> exact Ev.now _)
    (fun s y hy hz => by
      refine (spec_eb y (by have := (hs y hy).1; omega) (fun z hz => by have := (hs y hy).2 z hz; omega)).bind ?_
      have := expEnc_size y (hs y hy).1 (hs y hy).2
      refine Ev.pos (by omega) ?_
      exact Ev.now _) (fun s y hy => by rw [ByteArray.size_append]; have := expEnc_size y (hs y hy).1 (hs y hy).2; omega) l.length 0 s (by omega) (by omega)
  simpa using this
theorem spec_enc (kind : Int) (table : ByteArray) (cols : List Col) (vals : List Val) (col : ByteArray) (exp wh : List Itm) (outs : List (List Itm))
    (hok : Ev (fun k => spec_StmOK.f k kind table cols vals col exp wh outs) (stmOk kind table cols vals col exp wh outs)) :
    Ev (fun k => spec_EncodeStm.f k kind table cols vals col exp wh outs) (encStm kind table cols vals col exp wh outs) := by
  unfold spec_EncodeStm.f encStm
  refine hok.bind ?_
  cases hb : stmOk kind table cols vals col exp wh outs with
  | false => simp only [if_neg ff]; exact Ev.now _
  | true =>
    obtain ⟨ht, h1, h2, h3, h4, h5⟩ := stmOk_small hb
    simp only [if_true]
    refine (spec_n1 kind).bind ?_
    refine (spec_s8 table (by omega)).bind ?_
    have e0 : (encN 1 kind ++ enc8 table).size ≤ 100 := by rw [ByteArray.size_append, encN_size, enc8_size]; omega
    refine Ev.pos (by rw [encN_size, enc8_size]; omega) ?_
    by_cases k1 : kind = 1
    · simp only [if_pos k1]
      refine (spec_n1 _).bind ?_
      refine Ev.pos (by rw [encN_size]; omega) ?_
      obtain ⟨g1, g2⟩ := h1 k1
      exact spec_ecols cols g1 (fun y hy => by have := g2 y hy; omega) _ (by rw [ByteArray.size_append, encN_size]; omega)
    · simp only [if_neg k1]
      by_cases k2 : kind = 2
      · simp only [if_pos k2]
        refine (spec_n1 _).bind ?_
        refine Ev.pos (by rw [encN_size]; omega) ?_
        obtain ⟨g1, g2⟩ := h2 k2
        exact spec_evals vals g1 (fun y hy => by have := g2 y hy; omega) _ (by rw [ByteArray.size_append, encN_size]; omega)
      · simp only [if_neg k2]
        by_cases k3 : kind = 3
        · simp only [if_pos k3]
          obtain ⟨g1, g2, g3⟩ := h3 k3
          have z1 := expEnc_size exp g2.1 g2.2
          have z2 := expEnc_size wh g3.1 g3.2
          refine (spec_s8 col (by omega)).bind ?_
          refine (spec_eb exp (by omega) (fun z hz => by have := g2.2 z hz; omega)).bind ?_
          refine Ev.pos (by rw [enc8_size]; omega) ?_
          refine (spec_eb wh (by omega) (fun z hz => by have := g3.2 z hz; omega)).bind ?_
          refine Ev.pos (by rw [ByteArray.size_append, enc8_size]; omega) ?_
          refine Ev.pos (by rw [ByteArray.size_append (a := enc8 col ++ expEnc exp), ByteArray.size_append (a := enc8 col), enc8_size]; omega) ?_
          unfold capB
          split <;> exact Ev.now _
        · simp only [if_neg k3]
          by_cases k4 : kind = 4
          · simp only [if_pos k4]
            have g3 := h4 k4
            have z2 := expEnc_size wh g3.1 g3.2
            refine (spec_eb wh (by omega) (fun z hz => by have := g3.2 z hz; omega)).bind ?_
            refine Ev.pos (by omega) ?_
            unfold capB
            split <;> exact Ev.now _
          · simp only [if_neg k4]
            by_cases k5 : kind = 5
            · simp only [if_pos k5]
              obtain ⟨g1, g2, g3⟩ := h5 k5
              refine (spec_n1 _).bind ?_
              refine Ev.pos (by rw [encN_size]; omega) ?_
              exact spec_eouts outs g1 g2 kind table cols vals col exp wh outs g3 _ (by rw [ByteArray.size_append, encN_size]; omega)
            · simp only [if_neg k5]
              unfold capB
              split <;> exact Ev.now _
theorem impl_n1 (v : Int) : Ev (fun k => impl_u8.f k v) (encN 1 v) := by
  unfold impl_u8.f
  exact (impl_num 1 v (by decide)).bind (Ev.now _)
theorem impl_n2 (v : Int) : Ev (fun k => impl_u16.f k v) (encN 2 v) := by
  unfold impl_u16.f
  exact (impl_num 2 v (by decide)).bind (Ev.now _)
theorem impl_n8 (v : Int) : Ev (fun k => impl_u64.f k v) (encN 8 v) := by
  unfold impl_u64.f
  exact (impl_num 8 v (by decide)).bind (Ev.now _)
theorem impl_s8_ev (s : ByteArray) (hs : s.size ≤ 1000000) : Ev (fun k => impl_s8.f k s) (enc8 s) := by
  unfold impl_s8.f
  refine (impl_n1 _).bind ?_
  refine Ev.pos (by rw [encN_size]; omega) ?_
  exact Ev.now _
theorem impl_s16_ev (s : ByteArray) (hs : s.size ≤ 1000000) : Ev (fun k => impl_s16.f k s) (enc16 s) := by
  unfold impl_s16.f
  refine (impl_n2 _).bind ?_
  refine Ev.pos (by rw [encN_size]; omega) ?_
  exact Ev.now _
theorem impl_stepI (s : ByteArray) (y : Itm) (hy : y.f2.size ≤ 1000) (hs : s.size ≤ 1000000000) : Ev (fun k => (impl_u8.f k y.f0).bind fun t => if s.size + t.size ≤ 9223372036854775807 then (if y.f0 = 1 then (impl_u64.f k y.f1).bind fun u => if (s ++ t).size + u.size ≤ 9223372036854775807 then some ((s ++ t) ++ u) else none else if y.f0 = 2 then (impl_s16.f k y.f2).bind fun u => if (s ++ t).size + u.size ≤ 9223372036854775807 then some ((s ++ t) ++ u) else none else if y.f0 = 3 then (impl_s8.f k y.f2).bind fun u => if (s ++ t).size + u.size ≤ 9223372036854775807 then some ((s ++ t) ++ u) else none else some (s ++ t)) else none) (stepI s y) := by
  unfold stepI
  refine (impl_n1 y.f0).bind ?_
  refine Ev.pos (by rw [encN_size]; omega) ?_
  by_cases c1 : y.f0 = 1
  · simp only [if_pos c1]
    refine (impl_n8 y.f1).bind ?_
    refine Ev.pos (by rw [ByteArray.size_append, encN_size, encN_size]; omega) ?_
    exact Ev.now _
  · by_cases c2 : y.f0 = 2
    · simp only [if_neg c1, if_pos c2]
      refine (impl_s16_ev y.f2 (by omega)).bind ?_
      refine Ev.pos (by rw [ByteArray.size_append, encN_size, enc16_size]; omega) ?_
      exact Ev.now _
    · by_cases c3 : y.f0 = 3
      · simp only [if_neg c1, if_neg c2, if_pos c3]
        refine (impl_s8_ev y.f2 (by omega)).bind ?_
        refine Ev.pos (by rw [ByteArray.size_append, encN_size, enc8_size]; omega) ?_
        exact Ev.now _
      · simp only [if_neg c1, if_neg c2, if_neg c3]
        exact Ev.now _
theorem impl_eb (l : List Itm) (hl : l.length ≤ 200) (hs : ∀ y ∈ l, y.f2.size ≤ 1000) : Ev (fun k => impl_expBytes.f k l) (expEnc l) := by
  unfold impl_expBytes.f expEnc
  refine (impl_n2 _).bind ?_
  have := foldE (fun k s i => impl_expBytes.l0 k s l (l.length : Int) (i : Int)) (fun k s y => (impl_u8.f k y.f0).bind fun t => if s.size + t.size ≤ 9223372036854775807 then (if y.f0 = 1 then (impl_u64.f k y.f1).bind fun u => if (s ++ t).size + u.size ≤ 9223372036854775807 then some ((s ++ t) ++ u) else none else if y.f0 = 2 then (impl_s16.f k y.f2).bind fun u => if (s ++ t).size + u.size ≤ 9223372036854775807 then some ((s ++ t) ++ u) else none else if y.f0 = 3 then (impl_s8.f k y.f2).bind fun u => if (s ++ t).size + u.size ≤ 9223372036854775807 then some ((s ++ t) ++ u) else none else some (s ++ t)) else none) stepI id l 1100 1000000
    (fun k s i h => by
      rw [impl_expBytes.l0, if_pos (by omega), if_pos (by omega), if_pos (by omega), rdItm l i h, wsucc i (by omega)]
      simp only [Option.bind_assoc, bind_if, Option.bind_some, Option.bind_none, bind_ite])
    (fun s hs => Ev.step (f := fun _ => some s) (fun k => by rw [impl_expBytes.l0, if_neg (by omega)]) (Ev.now _))
    (fun s y hy hz => impl_stepI s y (hs y hy) (by omega)) (fun s y hy => stepI_size s y (hs y hy)) l.length 0 (encN 2 (l.length : Int)) (by omega) (by rw [encN_size]; omega)
  simpa using this
theorem impl_fin (F : Nat → Option ByteArray) (s : ByteArray) (h : ∀ k, F (k + 1) = if (s.size : Int) > 60000 then some (⟨#[]⟩ : ByteArray) else some s) : Ev F (capB s) := by
  refine Ev.step (f := fun _ => some (capB s)) (fun k => ?_) (Ev.now _)
  rw [h k]
  unfold capB
  split <;> rfl
theorem impl_ecols (l : List Col) (hl : l.length ≤ 20) (hs : ∀ y ∈ l, y.f0.size ≤ 1000) (s : ByteArray) (hz : s.size ≤ 100000) : Ev (fun k => impl_EncodeStm.l0 k s l (l.length : Int) 0) (capB (l.foldl stepC s)) := by
  have := foldE (fun k s i => impl_EncodeStm.l0 k s l (l.length : Int) (i : Int)) (fun k s y => (impl_s8.f k y.f0).bind fun t => (impl_u8.f k y.f1).bind fun u => if t.size + u.size ≤ 9223372036854775807 then (if s.size + (t ++ u).size ≤ 9223372036854775807 then some (s ++ (t ++ u)) else none) else none) stepC capB l 1100 1000000
    (fun k s i h => by
      rw [impl_EncodeStm.l0, if_pos (by omega), if_pos (by omega), if_pos (by omega), rdCol l i h, wsucc i (by omega)]
      simp only [Option.bind_assoc, bind_if, Option.bind_some, Option.bind_none, bind_ite])
    (fun s hs => impl_fin _ s fun k => by rw [impl_EncodeStm.l0, if_neg (by omega)])
    (fun s y hy hz => by
      refine (impl_s8_ev y.f0 (by have := hs y hy; omega)).bind ?_
      refine (impl_n1 y.f1).bind ?_
      refine Ev.pos (by rw [enc8_size, encN_size]; have := hs y hy; omega) ?_
      refine Ev.pos (by rw [ByteArray.size_append, enc8_size, encN_size]; have := hs y hy; omega) ?_
      exact Ev.now _) (fun s y hy => by unfold stepC; rw [ByteArray.size_append, ByteArray.size_append, enc8_size, encN_size]; have := hs y hy; omega) l.length 0 s (by omega) (by omega)
  simpa using this
theorem impl_evals (l : List Val) (hl : l.length ≤ 20) (hs : ∀ y ∈ l, y.f2.size ≤ 1000) (s : ByteArray) (hz : s.size ≤ 100000) : Ev (fun k => impl_EncodeStm.l1 k s l (l.length : Int) 0) (capB (l.foldl stepV s)) := by
  have := foldE (fun k s i => impl_EncodeStm.l1 k s l (l.length : Int) (i : Int)) (fun k s y => (impl_u8.f k y.f0).bind fun t => if s.size + t.size ≤ 9223372036854775807 then (if y.f0 = 1 then (impl_u64.f k y.f1).bind fun u => if (s ++ t).size + u.size ≤ 9223372036854775807 then some ((s ++ t) ++ u) else none else (impl_s16.f k y.f2).bind fun u => if (s ++ t).size + u.size ≤ 9223372036854775807 then some ((s ++ t) ++ u) else none) else none) stepV capB l 1100 1000000
    (fun k s i h => by
      rw [impl_EncodeStm.l1, if_pos (by omega), if_pos (by omega), if_pos (by omega), rdVal l i h, wsucc i (by omega)]
      simp only [Option.bind_assoc, bind_if, Option.bind_some, Option.bind_none, bind_ite])
    (fun s hs => impl_fin _ s fun k => by rw [impl_EncodeStm.l1, if_neg (by omega)])
    (fun s y hy hz => by
      unfold stepV
      refine (impl_n1 y.f0).bind ?_
      refine Ev.pos (by rw [encN_size]; omega) ?_
      by_cases c1 : y.f0 = 1
      · simp only [if_pos c1]
        refine (impl_n8 y.f1).bind ?_
        refine Ev.pos (by rw [ByteArray.size_append, encN_size, encN_size]; omega) ?_
        exact Ev.now _
      · simp only [if_neg c1]
        refine (impl_s16_ev y.f2 (by have := hs y hy; omega)).bind ?_
        refine Ev.pos (by rw [ByteArray.size_append, encN_size, enc16_size]; have := hs y hy; omega) ?_
        exact Ev.now _) (fun s y hy => stepV_size s y (hs y hy)) l.length 0 s (by omega) (by omega)
  simpa using this
theorem impl_eouts (l : List (List Itm)) (hl : l.length ≤ 20) (hs : ∀ y ∈ l, y.length ≤ 100 ∧ ∀ z ∈ y, z.f2.size ≤ 200) (a0 : Int) (a1 : ByteArray) (a2 : List Col) (a3 : List Val) (a4 : ByteArray) (a5 wh : List Itm) (a7 : List (List Itm)) (hw : wh.length ≤ 100 ∧ ∀ z ∈ wh, z.f2.size ≤ 200) (s : ByteArray) (hz : s.size ≤ 100000) :
    Ev (fun k => impl_EncodeStm.l2 k s l (l.length : Int) 0 a0 a1 a2 a3 a4 a5 wh a7) (capB (l.foldl (fun s e => s ++ expEnc e) s ++ expEnc wh)) := by
  have := foldE (fun k s i => impl_EncodeStm.l2 k s l (l.length : Int) (i : Int) a0 a1 a2 a3 a4 a5 wh a7) (fun k s y => (impl_expBytes.f k y).bind fun t => if s.size + t.size ≤ 9223372036854775807 then some (s ++ t) else none) (fun s e => s ++ expEnc e) (fun s => capB (s ++ expEnc wh)) l 30000 1000000
    (fun k s i h => by
      rw [impl_EncodeStm.l2, if_pos (by omega), if_pos (by omega), if_pos (by omega), rdII l i h, wsucc i (by omega)]
      simp only [Option.bind_assoc, bind_if, Option.bind_some, Option.bind_none, bind_ite])
    (fun s hs => by
      refine Ev.step (f := fun k => (impl_expBytes.f k wh).bind fun t => if s.size + t.size ≤ 9223372036854775807 then (if ((s ++ t).size : Int) > 60000 then some (⟨#[]⟩ : ByteArray) else some (s ++ t)) else none) (fun k => by rw [impl_EncodeStm.l2, if_neg (by omega)]) ?_
      refine (impl_eb wh (by omega) (fun z hz => by have := hw.2 z hz; omega)).bind ?_
      have := expEnc_size wh hw.1 hw.2
      refine Ev.pos (by omega) ?_
      unfold capB
      split <;> exact Ev.now _)
    (fun s y hy hz => by
      refine (impl_eb y (by have := (hs y hy).1; omega) (fun z hz => by have := (hs y hy).2 z hz; omega)).bind ?_
      have := expEnc_size y (hs y hy).1 (hs y hy).2
      refine Ev.pos (by omega) ?_
      exact Ev.now _) (fun s y hy => by rw [ByteArray.size_append]; have := expEnc_size y (hs y hy).1 (hs y hy).2; omega) l.length 0 s (by omega) (by omega)
  simpa using this
theorem impl_enc (kind : Int) (table : ByteArray) (cols : List Col) (vals : List Val) (col : ByteArray) (exp wh : List Itm) (outs : List (List Itm))
    (hok : Ev (fun k => impl_StmOK.f k kind table cols vals col exp wh outs) (stmOk kind table cols vals col exp wh outs)) :
    Ev (fun k => impl_EncodeStm.f k kind table cols vals col exp wh outs) (encStm kind table cols vals col exp wh outs) := by
  unfold impl_EncodeStm.f encStm
  refine hok.bind ?_
  cases hb : stmOk kind table cols vals col exp wh outs with
  | false => simp only [if_neg ff]; exact Ev.now _
  | true =>
    obtain ⟨ht, h1, h2, h3, h4, h5⟩ := stmOk_small hb
    simp only [if_true]
    refine (impl_n1 kind).bind ?_
    refine (impl_s8_ev table (by omega)).bind ?_
    have e0 : (encN 1 kind ++ enc8 table).size ≤ 100 := by rw [ByteArray.size_append, encN_size, enc8_size]; omega
    refine Ev.pos (by rw [encN_size, enc8_size]; omega) ?_
    by_cases k1 : kind = 1
    · simp only [if_pos k1]
      refine (impl_n1 _).bind ?_
      refine Ev.pos (by rw [encN_size]; omega) ?_
      obtain ⟨g1, g2⟩ := h1 k1
      exact impl_ecols cols g1 (fun y hy => by have := g2 y hy; omega) _ (by rw [ByteArray.size_append, encN_size]; omega)
    · simp only [if_neg k1]
      by_cases k2 : kind = 2
      · simp only [if_pos k2]
        refine (impl_n1 _).bind ?_
        refine Ev.pos (by rw [encN_size]; omega) ?_
        obtain ⟨g1, g2⟩ := h2 k2
        exact impl_evals vals g1 (fun y hy => by have := g2 y hy; omega) _ (by rw [ByteArray.size_append, encN_size]; omega)
      · simp only [if_neg k2]
        by_cases k3 : kind = 3
        · simp only [if_pos k3]
          obtain ⟨g1, g2, g3⟩ := h3 k3
          have z1 := expEnc_size exp g2.1 g2.2
          have z2 := expEnc_size wh g3.1 g3.2
          refine (impl_s8_ev col (by omega)).bind ?_
          refine (impl_eb exp (by omega) (fun z hz => by have := g2.2 z hz; omega)).bind ?_
          refine Ev.pos (by rw [enc8_size]; omega) ?_
          refine (impl_eb wh (by omega) (fun z hz => by have := g3.2 z hz; omega)).bind ?_
          refine Ev.pos (by rw [ByteArray.size_append, enc8_size]; omega) ?_
          refine Ev.pos (by rw [ByteArray.size_append (a := enc8 col ++ expEnc exp), ByteArray.size_append (a := enc8 col), enc8_size]; omega) ?_
          unfold capB
          split <;> exact Ev.now _
        · simp only [if_neg k3]
          by_cases k4 : kind = 4
          · simp only [if_pos k4]
            have g3 := h4 k4
            have z2 := expEnc_size wh g3.1 g3.2
            refine (impl_eb wh (by omega) (fun z hz => by have := g3.2 z hz; omega)).bind ?_
            refine Ev.pos (by omega) ?_
            unfold capB
            split <;> exact Ev.now _
          · simp only [if_neg k4]
            by_cases k5 : kind = 5
            · simp only [if_pos k5]
              obtain ⟨g1, g2, g3⟩ := h5 k5
              refine (impl_n1 _).bind ?_
              refine Ev.pos (by rw [encN_size]; omega) ?_
              exact impl_eouts outs g1 g2 kind table cols vals col exp wh outs g3 _ (by rw [ByteArray.size_append, encN_size]; omega)
            · simp only [if_neg k5]
              unfold capB
              split <;> exact Ev.now _
end Go.Proofs.YtjihphegmdfpfaaDoor.Pure
end
section
set_option linter.unusedVariables false
set_option linter.unusedSimpArgs false
namespace Go.Proofs.YtjihphegmdfpfaaDoor.Pure
open Go Go.RowKit Go.Proofs.YtjihphegmdfpfaaDoor Go.Proofs.YtjihphegmdfpfaaDoor.L Go.Proofs.YtjihphegmdfpfaaDoorW.PrintWords Go.Proofs.YtjihphegmdfpfaaDoorW.PrintMore Go.Proofs.YtjihphegmdfpfaaDoorW.PrintLast
theorem fnExactEncodeStm_pure : fnExactEncodeStm.Pure0 := by
  intro kind table cols vals col exp wh outs _ ht hcl hcg hvl hvg hcs hel heg hwl hwg hol hog holl
  have hM : maxLen = 9223372036854775807 := by unfold maxLen; rfl
  have hin : StmIn table cols vals col exp wh outs := by
    refine ⟨by omega, ⟨by omega, fun y hy => ?_⟩, ⟨by omega, fun y hy => ?_⟩, by omega, ⟨by omega, fun y hy => ?_⟩, ⟨by omega, fun y hy => ?_⟩, ⟨by omega, fun y hy => ⟨by have := holl y hy; omega, fun z hz => ?_⟩⟩⟩
    · have := hcg y hy; unfold fnExactEncodeStm.good77 at this; omega
    · have := hvg y hy; unfold fnExactEncodeStm.good79 at this; omega
    · have := heg y hy; unfold fnExactEncodeStm.good82 at this; omega
    · have := hwg y hy; unfold fnExactEncodeStm.good82 at this; omega
    · have := hog y hy z hz; unfold fnExactEncodeStm.good82 at this; omega
  have h : Ev (fun k => laws_FnExactEncodeStm.f k kind table cols vals col exp wh outs) true := by
    unfold laws_FnExactEncodeStm.f
    refine (szStm_ev kind table cols vals col exp wh outs 1048576 hin (by omega) (by omega)).bind ?_
    by_cases hc : (wtStm table cols vals col exp wh outs : Int) ≤ 1048576
    · simp only [if_pos hc, if_neg (show ¬ (1048576 - (wtStm table cols vals col exp wh outs : Int) < 0) by omega)]
      have hw : wtStm table cols vals col exp wh outs ≤ 1048576 := by omega
      have hto := toStm_ev kind table cols vals col exp wh outs hw
      obtain ⟨g1, ⟨g2, g2s⟩, ⟨g3, g3s⟩, g4, ⟨g5, g5s⟩, ⟨g6, g6s⟩, ⟨g7, g7s⟩⟩ := hin
      have hw2 := hw
      unfold wtStm wtL at hw2
      have c2 : (cols.map cvC).length ≤ 1048576 := by rw [List.length_map]; omega
      have c3 : (vals.map cvV).length ≤ 1048576 := by rw [List.length_map]; omega
      have c5 : (exp.map cvI).length ≤ 1048576 := by rw [List.length_map]; omega
      have c6 : (wh.map cvI).length ≤ 1048576 := by rw [List.length_map]; omega
      have c7 : (outs.map cvII).length ≤ 1048576 := by rw [List.length_map]; omega
      have c2s : ∀ y ∈ cols.map cvC, y.f0.size ≤ 9223372036854775807 := fun y hy => by
        obtain ⟨x, hx, rfl⟩ := List.mem_map.1 hy
        exact g2s x hx
      have c3s : ∀ y ∈ vals.map cvV, y.f2.size ≤ 9223372036854775807 := fun y hy => by
        obtain ⟨x, hx, rfl⟩ := List.mem_map.1 hy
        exact g3s x hx
      have c5s : ∀ y ∈ exp.map cvI, y.f2.size ≤ 9223372036854775807 := fun y hy => by
        obtain ⟨x, hx, rfl⟩ := List.mem_map.1 hy
        exact g5s x hx
      have c6s : ∀ y ∈ wh.map cvI, y.f2.size ≤ 9223372036854775807 := fun y hy => by
        obtain ⟨x, hx, rfl⟩ := List.mem_map.1 hy
        exact g6s x hx
      have c7l : ∀ y ∈ outs.map cvII, y.length ≤ 9223372036854775807 := fun y hy => by
        obtain ⟨x, hx, rfl⟩ := List.mem_map.1 hy
        have := (g7s x hx).1
        unfold cvII
        rw [List.length_map]; exact this
      have c7s : ∀ y ∈ outs.map cvII, ∀ z ∈ y, z.f2.size ≤ 9223372036854775807 := fun y hy z hz => by
        obtain ⟨x, hx, rfl⟩ := List.mem_map.1 hy
        obtain ⟨u, hu, rfl⟩ := List.mem_map.1 hz
        exact (g7s x hx).2 u hu
      refine hto.bind ?_
      refine (spec_enc kind table (cols.map cvC) (vals.map cvV) col (exp.map cvI) (wh.map cvI) (outs.map cvII) (spec_stm table (cols.map cvC) (vals.map cvV) col (exp.map cvI) (wh.map cvI) (outs.map cvII) kind (by omega) (by omega) (by omega))).bind ?_
      refine hto.bind ?_
      refine (impl_enc kind table (cols.map cvC) (vals.map cvV) col (exp.map cvI) (wh.map cvI) (outs.map cvII) (impl_stm table (cols.map cvC) (vals.map cvV) col (exp.map cvI) (wh.map cvI) (outs.map cvII) kind (by omega) (by omega) (by omega) c2s (by omega) c3s c5s c6s (by omega) c7s)).bind ?_
      simp only [if_true]
      refine hto.bind ?_
      refine (eqStm_ev kind table (cols.map cvC) (vals.map cvV) col (exp.map cvI) (wh.map cvI) (outs.map cvII) (by omega) (by omega) (by omega) (by omega) (by omega) c7l).bind ?_
      simp only [if_true]
      exact Ev.now _
    · simp only [if_neg hc, if_pos (show (-1 : Int) < 0 by decide)]
      exact Ev.now _
  exact h.rounds
end Go.Proofs.YtjihphegmdfpfaaDoor.Pure
namespace Go.Proofs.YtjihphegmdfpfaaDoor
theorem fnExactEncodeStm_holds : Rows.FnExactEncodeStmCardSaid := fnExactEncodeStm.card Pure.fnExactEncodeStm_pure
end Go.Proofs.YtjihphegmdfpfaaDoor
end
