/- The texts that the proof of the law FnExactDecodeStm rests on, part 6: printed functions with their contracts, words, plain laws; the last part ends in the statement itself. No condition but those that each theorem states. -/
import Derived.Test.YtbpfdjbnfkclcaaDoorKFnExactDecodeStm5
set_option linter.unusedVariables false
set_option linter.unusedSimpArgs false
section
set_option linter.unusedVariables false
set_option linter.unusedSimpArgs false
namespace Go.Proofs.YtbpfdjbnfkclcaaDoor.Pure
open Go Go.RowKit Go.Proofs.YtbpfdjbnfkclcaaDoor Go.Proofs.YtbpfdjbnfkclcaaDoor.L Go.Proofs.YtbpfdjbnfkclcaaDoorW.PrintWords Go.Proofs.YtbpfdjbnfkclcaaDoorW.PrintMore Go.Proofs.YtbpfdjbnfkclcaaDoorW.PrintLast
theorem Ev.pos {α : Type} {c : Prop} [Decidable c] {f g : Nat → Option α} {r : α} (h : c) (hf : Ev f r) : Ev (fun k => if c then f k else g k) r := by
  simpa only [if_pos h] using hf
theorem Ev.neg {α : Type} {c : Prop} [Decidable c] {f g : Nat → Option α} {r : α} (h : ¬ c) (hf : Ev g r) : Ev (fun k => if c then f k else g k) r := by
  simpa only [if_neg h] using hf
def encN (n : Nat) (v : Int) : ByteArray := strOfNums (numB n v)
theorem encN_size (n : Nat) (v : Int) : (encN n v).size = n := by
  unfold encN
  rw [strOfNums_size, numB_length]
def enc8 (s : ByteArray) : ByteArray := encN 1 (s.size : Int) ++ s
def enc16 (s : ByteArray) : ByteArray := encN 2 (s.size : Int) ++ s
theorem enc8_size (s : ByteArray) : (enc8 s).size = 1 + s.size := by unfold enc8; rw [ByteArray.size_append, encN_size]
theorem enc16_size (s : ByteArray) : (enc16 s).size = 2 + s.size := by unfold enc16; rw [ByteArray.size_append, encN_size]
def stepI (s : ByteArray) (y : Itm) : ByteArray := if y.f0 = 1 then (s ++ encN 1 y.f0) ++ encN 8 y.f1 else if y.f0 = 2 then (s ++ encN 1 y.f0) ++ enc16 y.f2 else if y.f0 = 3 then (s ++ encN 1 y.f0) ++ enc8 y.f2 else s ++ encN 1 y.f0
def stepC (s : ByteArray) (y : Col) : ByteArray := s ++ (enc8 y.f0 ++ encN 1 y.f1)
def stepV (s : ByteArray) (y : Val) : ByteArray := if y.f0 = 1 then (s ++ encN 1 y.f0) ++ encN 8 y.f1 else (s ++ encN 1 y.f0) ++ enc16 y.f2
theorem stepI_size (s : ByteArray) (y : Itm) (hy : y.f2.size ≤ 1000) : (stepI s y).size ≤ s.size + 1100 := by
  unfold stepI
  by_cases c1 : y.f0 = 1
  · simp only [if_pos c1, ByteArray.size_append, encN_size]; omega
  · by_cases c2 : y.f0 = 2
    · simp only [if_neg c1, if_pos c2, ByteArray.size_append, encN_size, enc16_size]; omega
    · by_cases c3 : y.f0 = 3
      · simp only [if_neg c1, if_neg c2, if_pos c3, ByteArray.size_append, encN_size, enc8_size]; omega
      · simp only [if_neg c1, if_neg c2, if_neg c3, ByteArray.size_append, encN_size]; omega
theorem stepI_size2 (s : ByteArray) (y : Itm) (hy : y.f2.size ≤ 200) : (stepI s y).size ≤ s.size + 250 := by
  unfold stepI
  by_cases c1 : y.f0 = 1
  · simp only [if_pos c1, ByteArray.size_append, encN_size]; omega
  · by_cases c2 : y.f0 = 2
    · simp only [if_neg c1, if_pos c2, ByteArray.size_append, encN_size, enc16_size]; omega
    · by_cases c3 : y.f0 = 3
      · simp only [if_neg c1, if_neg c2, if_pos c3, ByteArray.size_append, encN_size, enc8_size]; omega
      · simp only [if_neg c1, if_neg c2, if_neg c3, ByteArray.size_append, encN_size]; omega
theorem stepV_size (s : ByteArray) (y : Val) (hy : y.f2.size ≤ 1000) : (stepV s y).size ≤ s.size + 1100 := by
  unfold stepV
  by_cases c1 : y.f0 = 1
  · simp only [if_pos c1, ByteArray.size_append, encN_size]; omega
  · simp only [if_neg c1, ByteArray.size_append, encN_size, enc16_size]; omega
def expEnc (l : List Itm) : ByteArray := l.foldl stepI (encN 2 (l.length : Int))
theorem foldI_size (l : List Itm) (hs : ∀ y ∈ l, y.f2.size ≤ 200) : ∀ s : ByteArray, (l.foldl stepI s).size ≤ s.size + l.length * 250 := by
  induction l with
  | nil => intro s; simp
  | cons y l ih =>
    intro s
    have h1 := ih (fun z hz => hs z (List.mem_cons_of_mem _ hz)) (stepI s y)
    have h2 := stepI_size2 s y (hs y List.mem_cons_self)
    rw [List.foldl_cons, List.length_cons, Nat.add_mul]
    omega
theorem expEnc_size (l : List Itm) (hl : l.length ≤ 100) (hs : ∀ y ∈ l, y.f2.size ≤ 200) : (expEnc l).size ≤ 30000 := by
  have := foldI_size l hs (encN 2 (l.length : Int))
  rw [encN_size] at this
  unfold expEnc
  omega
/-- A statement's bytes; none where there are too many. -/
def capB (s : ByteArray) : ByteArray := if (s.size : Int) > 60000 then (⟨#[]⟩ : ByteArray) else s
def encStm (kind : Int) (table : ByteArray) (cols : List Col) (vals : List Val) (col : ByteArray) (exp wh : List Itm) (outs : List (List Itm)) : ByteArray :=
  if stmOk kind table cols vals col exp wh outs = true then
    (if kind = 1 then capB (cols.foldl stepC ((encN 1 kind ++ enc8 table) ++ encN 1 (cols.length : Int)))
     else if kind = 2 then capB (vals.foldl stepV ((encN 1 kind ++ enc8 table) ++ encN 1 (vals.length : Int)))
     else if kind = 3 then capB ((encN 1 kind ++ enc8 table) ++ ((enc8 col ++ expEnc exp) ++ expEnc wh))
     else if kind = 4 then capB ((encN 1 kind ++ enc8 table) ++ expEnc wh)
     else if kind = 5 then capB (outs.foldl (fun s e => s ++ expEnc e) ((encN 1 kind ++ enc8 table) ++ encN 1 (outs.length : Int)) ++ expEnc wh)
     else capB (encN 1 kind ++ enc8 table))
  else (⟨#[]⟩ : ByteArray)
theorem bind_if {α β : Type} (p : Prop) [Decidable p] (a : Option α) (g : α → Option β) : (if p then a else none).bind g = if p then a.bind g else none := by split <;> rfl
theorem bind_ite {α β : Type} (p : Prop) [Decidable p] (a b : Option α) (g : α → Option β) : (if p then a else b).bind g = if p then a.bind g else b.bind g := by split <;> rfl
/-- A loop that adds to the bytes. -/
theorem foldE {α : Type} (L : Nat → ByteArray → Nat → Option ByteArray) (st : Nat → ByteArray → α → Option ByteArray) (sp : ByteArray → α → ByteArray) (fin : ByteArray → ByteArray) (l : List α) (c B : Nat)
    (hL : ∀ k s i (h : i < l.length), L (k + 1) s i = (st k s l[i]).bind fun s' => L k s' (i + 1))
    (hfin : ∀ s, s.size ≤ B → Ev (fun k => L k s l.length) (fin s))
    (hst : ∀ s y, y ∈ l → s.size + c ≤ B → Ev (fun k => st k s y) (sp s y))
    (hsz : ∀ s y, y ∈ l → (sp s y).size ≤ s.size + c) (d : Nat) :
    ∀ i s, i + d = l.length → s.size + d * c ≤ B → Ev (fun k => L k s i) (fin ((l.drop i).foldl sp s)) := by
  induction d with
  | zero =>
    intro i s hi hz
    rw [List.drop_eq_nil_of_le (by omega)]
    obtain rfl : i = l.length := by omega
    exact hfin s (by omega)
  | succ d ih =>
    intro i s hi hz
    have hil : i < l.length := by omega
    have hm : l[i] ∈ l := List.getElem_mem hil
    rw [Nat.add_mul] at hz
    refine Ev.step (fun k => hL k s i hil) ?_
    refine (hst s l[i] hm (by omega)).bind ?_
    rw [List.drop_eq_getElem_cons hil, List.foldl_cons]
    exact ih (i + 1) _ (by omega) (by have := hsz s l[i] hm; omega)
theorem empty_size {s : ByteArray} (h : s.toList = ([] : List UInt8)) : s.size = 0 := by
  have e : s.toList.length = s.size := by rw [ByteArray.toList_eq]; rfl
  rw [h] at e
  exact e.symm
theorem name_small {s : ByteArray} (h : nameKw s = true) : s.size ≤ 30 := by
  unfold nameKw at h
  simp only [Bool.and_eq_true, decide_eq_true_eq] at h
  exact h.2.1
theorem itm_small {op n : Int} {x : ByteArray} (h : itmOk op n x = true) : x.size ≤ 200 := by
  have he : ∀ y : ByteArray, (y.toList == ([] : List UInt8)) = true → y.size ≤ 200 := fun y hy => by rw [empty_size (beq_iff_eq.mp hy)]; omega
  unfold itmOk at h
  by_cases c1 : op = 1
  · rw [if_pos c1, Bool.and_eq_true] at h; exact he x h.2
  · rw [if_neg c1] at h
    by_cases c2 : op = 2
    · rw [if_pos c2, Bool.and_eq_true] at h
      have := h.2
      unfold textOk at this
      rw [Bool.and_eq_true, decide_eq_true_eq] at this
      exact this.1
    · rw [if_neg c2] at h
      by_cases c3 : op = 3
      · rw [if_pos c3, Bool.and_eq_true] at h
        have := name_small h.2
        omega
      · rw [if_neg c3, Bool.and_eq_true, Bool.and_eq_true] at h; exact he x h.2.2
theorem exp_small {l : List Itm} (h : expOk l = true) : l.length ≤ 100 ∧ ∀ z ∈ l, z.f2.size ≤ 200 := by
  unfold expOk at h
  rw [Bool.and_eq_true, decide_eq_true_eq] at h
  refine ⟨h.1.2, ?_⟩
  have key : ∀ (l : List Itm) (d : Int), expRun l d = true → ∀ z ∈ l, z.f2.size ≤ 200 := by
    intro l
    induction l with
    | nil => intro d _ z hz; cases hz
    | cons t r ih =>
      intro d hd z hz
      rw [expRun, Bool.and_eq_true] at hd
      rcases List.mem_cons.1 hz with rfl | hz
      · exact itm_small hd.1
      · by_cases c : d < arity t.f0
        · rw [if_pos c] at hd; cases hd.2
        · rw [if_neg c] at hd; exact ih _ hd.2 z hz
  exact key l 0 h.2
theorem wh_small {l : List Itm} (h : whOk l = true) : l.length ≤ 100 ∧ ∀ z ∈ l, z.f2.size ≤ 200 := by
  unfold whOk at h
  rw [Bool.or_eq_true, decide_eq_true_eq] at h
  rcases h with h | h
  · have : l = [] := List.eq_nil_of_length_eq_zero h
    subst this
    exact ⟨by simp, fun z hz => by cases hz⟩
  · exact exp_small h
theorem stmOk_small {kind : Int} {table : ByteArray} {cols : List Col} {vals : List Val} {col : ByteArray} {exp wh : List Itm} {outs : List (List Itm)} (h : stmOk kind table cols vals col exp wh outs = true) :
    table.size ≤ 30 ∧ (kind = 1 → cols.length ≤ 20 ∧ ∀ y ∈ cols, y.f0.size ≤ 200) ∧ (kind = 2 → vals.length ≤ 20 ∧ ∀ y ∈ vals, y.f2.size ≤ 200) ∧ (kind = 3 → col.size ≤ 30 ∧ (exp.length ≤ 100 ∧ ∀ z ∈ exp, z.f2.size ≤ 200) ∧ (wh.length ≤ 100 ∧ ∀ z ∈ wh, z.f2.size ≤ 200)) ∧
      (kind = 4 → wh.length ≤ 100 ∧ ∀ z ∈ wh, z.f2.size ≤ 200) ∧ (kind = 5 → outs.length ≤ 20 ∧ (∀ y ∈ outs, y.length ≤ 100 ∧ ∀ z ∈ y, z.f2.size ≤ 200) ∧ (wh.length ≤ 100 ∧ ∀ z ∈ wh, z.f2.size ≤ 200)) := by
  unfold stmOk at h
  rw [Bool.and_eq_true] at h
  obtain ⟨hn, h⟩ := h
  refine ⟨name_small hn, fun k => ?_, fun k => ?_, fun k => ?_, fun k => ?_, fun k => ?_⟩
  · subst k
    simp only [if_true, Bool.and_eq_true, decide_eq_true_eq, List.all_eq_true] at h
    refine ⟨h.2.2.2.2.2.1.2, fun y hy => ?_⟩
    have := h.2.2.2.2.2.2 y hy
    unfold colOk at this
    rw [Bool.and_eq_true] at this
    have := name_small this.1
    omega
  · subst k
    simp only [show ¬ (2 : Int) = 1 by decide, if_false, if_true, Bool.and_eq_true, decide_eq_true_eq, List.all_eq_true] at h
    refine ⟨h.2.2.2.2.2.1.2, fun y hy => ?_⟩
    have := h.2.2.2.2.2.2 y hy
    unfold valOk at this
    by_cases c1 : y.f0 = 1
    · rw [if_pos c1, Bool.and_eq_true] at this
      rw [empty_size (beq_iff_eq.mp this.2)]; omega
    · rw [if_neg c1] at this
      by_cases c2 : y.f0 = 2
      · rw [if_pos c2, Bool.and_eq_true] at this
        have := this.2
        unfold textOk at this
        rw [Bool.and_eq_true, decide_eq_true_eq] at this
        exact this.1
      · rw [if_neg c2] at this; cases this
  · subst k
    simp only [show ¬ (3 : Int) = 1 by decide, show ¬ (3 : Int) = 2 by decide, if_false, if_true, Bool.and_eq_true, decide_eq_true_eq] at h
    exact ⟨name_small h.2.2.2.1, exp_small h.2.2.2.2.1, wh_small h.2.2.2.2.2⟩
  · subst k
    simp only [show ¬ (4 : Int) = 1 by decide, show ¬ (4 : Int) = 2 by decide, show ¬ (4 : Int) = 3 by decide, if_false, if_true, Bool.and_eq_true, decide_eq_true_eq] at h
    exact wh_small h.2.2.2.2.2
  · subst k
    simp only [show ¬ (5 : Int) = 1 by decide, show ¬ (5 : Int) = 2 by decide, show ¬ (5 : Int) = 3 by decide, show ¬ (5 : Int) = 4 by decide, if_false, if_true, Bool.and_eq_true, decide_eq_true_eq, List.all_eq_true] at h
    exact ⟨h.2.2.2.2.1.2, fun y hy => exp_small (h.2.2.2.2.2.1 y hy), wh_small h.2.2.2.2.2.2⟩
theorem spec_n1 (v : Int) : Ev (fun k => spec_l1Num.f k 1 v) (encN 1 v) := spec_num 1 v (by decide)
theorem spec_n2 (v : Int) : Ev (fun k => spec_l1Num.f k 2 v) (encN 2 v) := spec_num 2 v (by decide)
theorem spec_n8 (v : Int) : Ev (fun k => spec_l1Num.f k 8 v) (encN 8 v) := spec_num 8 v (by decide)
theorem spec_s8 (s : ByteArray) (hs : s.size ≤ 1000000) : Ev (fun k => spec_l1S8.f k s) (enc8 s) := by
  unfold spec_l1S8.f
  refine (spec_n1 _).bind ?_
  refine Ev.pos (by rw [encN_size]; omega) ?_
  exact Ev.now _
theorem spec_s16 (s : ByteArray) (hs : s.size ≤ 1000000) : Ev (fun k => spec_l1S16.f k s) (enc16 s) := by
  unfold spec_l1S16.f
  refine (spec_n2 _).bind ?_
  refine Ev.pos (by rw [encN_size]; omega) ?_
  exact Ev.now _
theorem spec_expGo (l : List Itm) (hs : ∀ y ∈ l, y.f2.size ≤ 1000) : ∀ s : ByteArray, s.size + l.length * 1100 ≤ 1000000 → Ev (fun k => expGo (spec_l1Num.f k) (spec_l1S16.f k) (spec_l1S8.f k) l s) (l.foldl stepI s) := by
  induction l with
  | nil => intro s _; exact Ev.now _
  | cons y l ih =>
    intro s hz
    have hy := hs y List.mem_cons_self
    have ih2 := ih (fun z hz => hs z (List.mem_cons_of_mem _ hz))
    simp only [List.length_cons, Nat.add_mul] at hz
    rw [List.foldl_cons]
    have hst := stepI_size s y hy
    refine Ev.congr (fun k => by rw [expGo]) ?_
    refine (spec_n1 y.f0).bind ?_
    unfold expAdd
    refine Ev.pos (by rw [encN_size]; omega) ?_
    by_cases c1 : y.f0 = 1
    · have e : stepI s y = (s ++ encN 1 y.f0) ++ encN 8 y.f1 := by unfold stepI; rw [if_pos c1]
      rw [e] at hst ⊢
      simp only [if_pos c1]
      refine (spec_n8 y.f1).bind ?_
      refine Ev.pos (by rw [ByteArray.size_append, encN_size, encN_size]; omega) ?_
      exact ih2 _ (by omega)
    · by_cases c2 : y.f0 = 2
      · have e : stepI s y = (s ++ encN 1 y.f0) ++ enc16 y.f2 := by unfold stepI; rw [if_neg c1, if_pos c2]
        rw [e] at hst ⊢
        simp only [if_neg c1, if_pos c2]
        refine (spec_s16 y.f2 (by omega)).bind ?_
        refine Ev.pos (by rw [ByteArray.size_append, encN_size, enc16_size]; omega) ?_
        exact ih2 _ (by omega)
      · by_cases c3 : y.f0 = 3
        · have e : stepI s y = (s ++ encN 1 y.f0) ++ enc8 y.f2 := by unfold stepI; rw [if_neg c1, if_neg c2, if_pos c3]
          rw [e] at hst ⊢
          simp only [if_neg c1, if_neg c2, if_pos c3]
          refine (spec_s8 y.f2 (by omega)).bind ?_
          refine Ev.pos (by rw [ByteArray.size_append, encN_size, enc8_size]; omega) ?_
          exact ih2 _ (by omega)
        · have e : stepI s y = s ++ encN 1 y.f0 := by unfold stepI; rw [if_neg c1, if_neg c2, if_neg c3]
          rw [e] at hst ⊢
          simp only [if_neg c1, if_neg c2, if_neg c3]
          exact ih2 _ (by omega)
theorem spec_eb (l : List Itm) (hl : l.length ≤ 200) (hs : ∀ y ∈ l, y.f2.size ≤ 1000) : Ev (fun k => spec_l4ExpBytes.f k l) (expEnc l) := by
  unfold spec_l4ExpBytes.f expEnc
  refine (spec_n2 _).bind ?_
  refine Ev.pos ⟨by rw [encN_size]; omega, by omega⟩ ?_
  exact spec_expGo l hs _ (by rw [encN_size]; omega)
theorem spec_fin (F : Nat → Option ByteArray) (s : ByteArray) (h : ∀ k, F (k + 1) = if (s.size : Int) > 60000 then some (⟨#[]⟩ : ByteArray) else some s) : Ev F (capB s) := by
  refine Ev.step (f := fun _ => some (capB s)) (fun k => ?_) (Ev.now _)
  rw [h k]
  unfold capB
  split <;> rfl
theorem spec_ecols (l : List Col) (hl : l.length ≤ 20) (hs : ∀ y ∈ l, y.f0.size ≤ 1000) (s : ByteArray) (hz : s.size ≤ 100000) : Ev (fun k => spec_EncodeStm.l0 k s l (l.length : Int) 0) (capB (l.foldl stepC s)) := by
  have := foldE (fun k s i => spec_EncodeStm.l0 k s l (l.length : Int) (i : Int)) (fun k s y => (spec_l1S8.f k y.f0).bind fun t => (spec_l1Num.f k 1 y.f1).bind fun u => if t.size + u.size ≤ 9223372036854775807 then (if s.size + (t ++ u).size ≤ 9223372036854775807 then some (s ++ (t ++ u)) else none) else none) stepC capB l 1100 1000000
    (fun k s i h => by
      rw [spec_EncodeStm.l0, if_pos (by omega), if_pos (by omega), if_pos (by omega), rdCol l i h, wsucc i (by omega)]
      simp only [Option.bind_assoc, bind_if, Option.bind_some, Option.bind_none, bind_ite])
    (fun s hs => spec_fin _ s fun k => by rw [spec_EncodeStm.l0, if_neg (by omega)])
    (fun s y hy hz => by
      refine (spec_s8 y.f0 (by have := hs y hy; omega)).bind ?_
      refine (spec_n1 y.f1).bind ?_
      refine Ev.pos (by rw [enc8_size, encN_size]; have := hs y hy; omega) ?_
      refine Ev.pos (by rw [ByteArray.size_append, enc8_size, encN_size]; have := hs y hy; omega) ?_
      exact Ev.now _) (fun s y hy => by unfold stepC; rw [ByteArray.size_append, ByteArray.size_append, enc8_size, encN_size]; have := hs y hy; omega) l.length 0 s (by omega) (by omega)
  simpa using this
theorem spec_evals (l : List Val) (hl : l.length ≤ 20) (hs : ∀ y ∈ l, y.f2.size ≤ 1000) (s : ByteArray) (hz : s.size ≤ 100000) : Ev (fun k => spec_EncodeStm.l1 k s l (l.length : Int) 0) (capB (l.foldl stepV s)) := by
  have := foldE (fun k s i => spec_EncodeStm.l1 k s l (l.length : Int) (i : Int)) (fun k s y => (spec_l1Num.f k 1 y.f0).bind fun t => if s.size + t.size ≤ 9223372036854775807 then (if y.f0 = 1 then (spec_l1Num.f k 8 y.f1).bind fun u => if (s ++ t).size + u.size ≤ 9223372036854775807 then some ((s ++ t) ++ u) else none else (spec_l1S16.f k y.f2).bind fun u => if (s ++ t).size + u.size ≤ 9223372036854775807 then some ((s ++ t) ++ u) else none) else none) stepV capB l 1100 1000000
    (fun k s i h => by
      rw [spec_EncodeStm.l1, if_pos (by omega), if_pos (by omega), if_pos (by omega), rdVal l i h, wsucc i (by omega)]
      simp only [Option.bind_assoc, bind_if, Option.bind_some, Option.bind_none, bind_ite])
    (fun s hs => spec_fin _ s fun k => by rw [spec_EncodeStm.l1, if_neg (by omega)])
    (fun s y hy hz => by
      unfold stepV
      refine (spec_n1 y.f0).bind ?_
      refine Ev.pos (by rw [encN_size]; omega) ?_
      by_cases c1 : y.f0 = 1
      · simp only [if_pos c1]
        refine (spec_n8 y.f1).bind ?_
        refine Ev.pos (by rw [ByteArray.size_append, encN_size, encN_size]; omega) ?_
        exact Ev.now _
      · simp only [if_neg c1]
        refine (spec_s16 y.f2 (by have := hs y hy; omega)).bind ?_
        refine Ev.pos (by rw [ByteArray.size_append, encN_size, enc16_size]; have := hs y hy; omega) ?_
        exact Ev.now _) (fun s y hy => stepV_size s y (hs y hy)) l.length 0 s (by omega) (by omega)
  simpa using this
theorem spec_eouts (l : List (List Itm)) (hl : l.length ≤ 20) (hs : ∀ y ∈ l, y.length ≤ 100 ∧ ∀ z ∈ y, z.f2.size ≤ 200) (a0 : Int) (a1 : ByteArray) (a2 : List Col) (a3 : List Val) (a4 : ByteArray) (a5 wh : List Itm) (a7 : List (List Itm)) (hw : wh.length ≤ 100 ∧ ∀ z ∈ wh, z.f2.size ≤ 200) (s : ByteArray) (hz : s.size ≤ 100000) :
    Ev (fun k => spec_EncodeStm.l2 k s l (l.length : Int) 0 a0 a1 a2 a3 a4 a5 wh a7) (capB (l.foldl (fun s e => s ++ expEnc e) s ++ expEnc wh)) := by
  have := foldE (fun k s i => spec_EncodeStm.l2 k s l (l.length : Int) (i : Int) a0 a1 a2 a3 a4 a5 wh a7) (fun k s y => (spec_l4ExpBytes.f k y).bind fun t => if s.size + t.size ≤ 9223372036854775807 then some (s ++ t) else none) (fun s e => s ++ expEnc e) (fun s => capB (s ++ expEnc wh)) l 30000 1000000
    (fun k s i h => by
      rw [spec_EncodeStm.l2, if_pos (by omega), if_pos (by omega), if_pos (by omega), rdII l i h, wsucc i (by omega)]
      simp only [Option.bind_assoc, bind_if, Option.bind_some, Option.bind_none, bind_ite])
    (fun s hs => by
      refine Ev.step (f := fun k => (spec_l4ExpBytes.f k wh).bind fun t => if s.size + t.size ≤ 9223372036854775807 then (if ((s ++ t).size : Int) > 60000 then some (⟨#[]⟩ : ByteArray) else some (s ++ t)) else none) (fun k => by rw [spec_EncodeStm.l2, if_neg (by omega)]) ?_
      refine (spec_eb wh (by omega) (fun z hz => by have := hw.2 z hz; omega)).bind ?_
      have := expEnc_size wh hw.1 hw.2
      refine Ev.pos (by omega) ?_
      unfold capB
      split <;> exact Ev.now _)
    (fun s y hy hz => by
      refine (spec_eb y (by have := (hs y hy).1; omega) (fun z hz => by have := (hs y hy).2 z hz; omega)).bind ?_
      have := expEnc_size y (hs y hy).1 (hs y hy).2
      refine Ev.pos (by omega) ?_
      exact Ev.now _) (fun s y hy => by rw [ByteArray.size_append]; have := expEnc_size y (hs y hy).1 (hs y hy).2; omega) l.length 0 s (by omega) (by omega)
  simpa using this
theorem spec_enc (kind : Int) (table : ByteArray) (cols : List Col) (vals : List Val) (col : ByteArray) (exp wh : List Itm) (outs : List (List Itm))
    (hok : Ev (fun k => spec_StmOK.f k kind table cols vals col exp wh outs) (stmOk kind table cols vals col exp wh outs)) :
    Ev (fun k => spec_EncodeStm.f k kind table cols vals col exp wh outs) (encStm kind table cols vals col exp wh outs) := by
  unfold spec_EncodeStm.f encStm
  refine hok.bind ?_
  cases hb : stmOk kind table cols vals col exp wh outs with
  | false => simp only [if_neg ff]; exact Ev.now _
  | true =>
    obtain ⟨ht, h1, h2, h3, h4, h5⟩ := stmOk_small hb
    simp only [if_true]
    refine (spec_n1 kind).bind ?_
    refine (spec_s8 table (by omega)).bind ?_
    have e0 : (encN 1 kind ++ enc8 table).size ≤ 100 := by rw [ByteArray.size_append, encN_size, enc8_size]; omega
    refine Ev.pos (by rw [encN_size, enc8_size]; omega) ?_
    by_cases k1 : kind = 1
    · simp only [if_pos k1]
      refine (spec_n1 _).bind ?_
      refine Ev.pos (by rw [encN_size]; omega) ?_
      obtain ⟨g1, g2⟩ := h1 k1
      exact spec_ecols cols g1 (fun y hy => by have := g2 y hy; omega) _ (by rw [ByteArray.size_append, encN_size]; omega)
    · simp only [if_neg k1]
      by_cases k2 : kind = 2
      · simp only [if_pos k2]
        refine (spec_n1 _).bind ?_
        refine Ev.pos (by rw [encN_size]; omega) ?_
        obtain ⟨g1, g2⟩ := h2 k2
        exact spec_evals vals g1 (fun y hy => by have := g2 y hy; omega) _ (by rw [ByteArray.size_append, encN_size]; omega)
      · simp only [if_neg k2]
        by_cases k3 : kind = 3
        · simp only [if_pos k3]
          obtain ⟨g1, g2, g3⟩ := h3 k3
          have z1 := expEnc_size exp g2.1 g2.2
          have z2 := expEnc_size wh g3.1 g3.2
          refine (spec_s8 col (by omega)).bind ?_
          refine (spec_eb exp (by omega) (fun z hz => by have := g2.2 z hz; omega)).bind ?_
          refine Ev.pos (by rw [enc8_size]; omega) ?_
          refine (spec_eb wh (by omega) (fun z hz => by have := g3.2 z hz; omega)).bind ?_
          refine Ev.pos (by rw [ByteArray.size_append, enc8_size]; omega) ?_
          refine Ev.pos (by rw [ByteArray.size_append (a := enc8 col ++ expEnc exp), ByteArray.size_append (a := enc8 col), enc8_size]; omega) ?_
          unfold capB
          split <;> exact Ev.now _
        · simp only [if_neg k3]
          by_cases k4 : kind = 4
          · simp only [if_pos k4]
            have g3 := h4 k4
            have z2 := expEnc_size wh g3.1 g3.2
            refine (spec_eb wh (by omega) (fun z hz => by have := g3.2 z hz; omega)).bind ?_
            refine Ev.pos (by omega) ?_
            unfold capB
            split <;> exact Ev.now _
          · simp only [if_neg k4]
            by_cases k5 : kind = 5
            · simp only [if_pos k5]
              obtain ⟨g1, g2, g3⟩ := h5 k5
              refine (spec_n1 _).bind ?_
              refine Ev.pos (by rw [encN_size]; omega) ?_
              exact spec_eouts outs g1 g2 kind table cols vals col exp wh outs g3 _ (by rw [ByteArray.size_append, encN_size]; omega)
            · simp only [if_neg k5]
              unfold capB
              split <;> exact Ev.now _
theorem impl_n1 (v : Int) : Ev (fun k => impl_u8.f k v) (encN 1 v) := by
  unfold impl_u8.f
  exact (impl_num 1 v (by decide)).bind (Ev.now _)
theorem impl_n2 (v : Int) : Ev (fun k => impl_u16.f k v) (encN 2 v) := by
  unfold impl_u16.f
  exact (impl_num 2 v (by decide)).bind (Ev.now _)
theorem impl_n8 (v : Int) : Ev (fun k => impl_u64.f k v) (encN 8 v) := by
  unfold impl_u64.f
  exact (impl_num 8 v (by decide)).bind (Ev.now _)
theorem impl_s8_ev (s : ByteArray) (hs : s.size ≤ 1000000) : Ev (fun k => impl_s8.f k s) (enc8 s) := by
  unfold impl_s8.f
  refine (impl_n1 _).bind ?_
  refine Ev.pos (by rw [encN_size]; omega) ?_
  exact Ev.now _
theorem impl_s16_ev (s : ByteArray) (hs : s.size ≤ 1000000) : Ev (fun k => impl_s16.f k s) (enc16 s) := by
  unfold impl_s16.f
  refine (impl_n2 _).bind ?_
  refine Ev.pos (by rw [encN_size]; omega) ?_
  exact Ev.now _
theorem impl_stepI (s : ByteArray) (y : Itm) (hy : y.f2.size ≤ 1000) (hs : s.size ≤ 1000000000) : Ev (fun k => (impl_u8.f k y.f0).bind fun t => if s.size + t.size ≤ 9223372036854775807 then (if y.f0 = 1 then (impl_u64.f k y.f1).bind fun u => if (s ++ t).size + u.size ≤ 9223372036854775807 then some ((s ++ t) ++ u) else none else if y.f0 = 2 then (impl_s16.f k y.f2).bind fun u => if (s ++ t).size + u.size ≤ 9223372036854775807 then some ((s ++ t) ++ u) else none else if y.f0 = 3 then (impl_s8.f k y.f2).bind fun u => if (s ++ t).size + u.size ≤ 9223372036854775807 then some ((s ++ t) ++ u) else none else some (s ++ t)) else none) (stepI s y) := by
  unfold stepI
  refine (impl_n1 y.f0).bind ?_
  refine Ev.pos (by rw [encN_size]; omega) ?_
  by_cases c1 : y.f0 = 1
  · simp only [if_pos c1]
    refine (impl_n8 y.f1).bind ?_
    refine Ev.pos (by rw [ByteArray.size_append, encN_size, encN_size]; omega) ?_
    exact Ev.now _
  · by_cases c2 : y.f0 = 2
    · simp only [if_neg c1, if_pos c2]
      refine (impl_s16_ev y.f2 (by omega)).bind ?_
      refine Ev.pos (by rw [ByteArray.size_append, encN_size, enc16_size]; omega) ?_
      exact Ev.now _
    · by_cases c3 : y.f0 = 3
      · simp only [if_neg c1, if_neg c2, if_pos c3]
        refine (impl_s8_ev y.f2 (by omega)).bind ?_
        refine Ev.pos (by rw [ByteArray.size_append, encN_size, enc8_size]; omega) ?_
        exact Ev.now _
      · simp only [if_neg c1, if_neg c2, if_neg c3]
        exact Ev.now _
theorem impl_eb (l : List Itm) (hl : l.length ≤ 200) (hs : ∀ y ∈ l, y.f2.size ≤ 1000) : Ev (fun k => impl_expBytes.f k l) (expEnc l) := by
  unfold impl_expBytes.f expEnc
  refine (impl_n2 _).bind ?_
  have := foldE (fun k s i => impl_expBytes.l0 k s l (l.length : Int) (i : Int)) (fun k s y => (impl_u8.f k y.f0).bind fun t => if s.size + t.size ≤ 9223372036854775807 then (if y.f0 = 1 then (impl_u64.f k y.f1).bind fun u => if (s ++ t).size + u.size ≤ 9223372036854775807 then some ((s ++ t) ++ u) else none else if y.f0 = 2 then (impl_s16.f k y.f2).bind fun u => if (s ++ t).size + u.size ≤ 9223372036854775807 then some ((s ++ t) ++ u) else none else if y.f0 = 3 then (impl_s8.f k y.f2).bind fun u => if (s ++ t).size + u.size ≤ 9223372036854775807 then some ((s ++ t) ++ u) else none else some (s ++ t)) else none) stepI id l 1100 1000000
    (fun k s i h => by
      rw [impl_expBytes.l0, if_pos (by omega), if_pos (by omega), if_pos (by omega), rdItm l i h, wsucc i (by omega)]
      simp only [Option.bind_assoc, bind_if, Option.bind_some, Option.bind_none, bind_ite])
    (fun s hs => Ev.step (f := fun _ => some s) (fun k => by rw [impl_expBytes.l0, if_neg (by omega)]) (Ev.now _))
    (fun s y hy hz => impl_stepI s y (hs y hy) (by omega)) (fun s y hy => stepI_size s y (hs y hy)) l.length 0 (encN 2 (l.length : Int)) (by omega) (by rw [encN_size]; omega)
  simpa using this
theorem impl_fin (F : Nat → Option ByteArray) (s : ByteArray) (h : ∀ k, F (k + 1) = if (s.size : Int) > 60000 then some (⟨#[]⟩ : ByteArray) else some s) : Ev F (capB s) := by
  refine Ev.step (f := fun _ => some (capB s)) (fun k => ?_) (Ev.now _)
  rw [h k]
  unfold capB
  split <;> rfl
theorem impl_ecols (l : List Col) (hl : l.length ≤ 20) (hs : ∀ y ∈ l, y.f0.size ≤ 1000) (s : ByteArray) (hz : s.size ≤ 100000) : Ev (fun k => impl_EncodeStm.l0 k s l (l.length : Int) 0) (capB (l.foldl stepC s)) := by
  have := foldE (fun k s i => impl_EncodeStm.l0 k s l (l.length : Int) (i : Int)) (fun k s y => (impl_s8.f k y.f0).bind fun t => (impl_u8.f k y.f1).bind fun u => if t.size + u.size ≤ 9223372036854775807 then (if s.size + (t ++ u).size ≤ 9223372036854775807 then some (s ++ (t ++ u)) else none) else none) stepC capB l 1100 1000000
    (fun k s i h => by
      rw [impl_EncodeStm.l0, if_pos (by omega), if_pos (by omega), if_pos (by omega), rdCol l i h, wsucc i (by omega)]
      simp only [Option.bind_assoc, bind_if, Option.bind_some, Option.bind_none, bind_ite])
    (fun s hs => impl_fin _ s fun k => by rw [impl_EncodeStm.l0, if_neg (by omega)])
    (fun s y hy hz => by
      refine (impl_s8_ev y.f0 (by have := hs y hy; omega)).bind ?_
      refine (impl_n1 y.f1).bind ?_
      refine Ev.pos (by rw [enc8_size, encN_size]; have := hs y hy; omega) ?_
      refine Ev.pos (by rw [ByteArray.size_append, enc8_size, encN_size]; have := hs y hy; omega) ?_
      exact Ev.now _) (fun s y hy => by unfold stepC; rw [ByteArray.size_append, ByteArray.size_append, enc8_size, encN_size]; have := hs y hy; omega) l.length 0 s (by omega) (by omega)
  simpa using this
theorem impl_evals (l : List Val) (hl : l.length ≤ 20) (hs : ∀ y ∈ l, y.f2.size ≤ 1000) (s : ByteArray) (hz : s.size ≤ 100000) : Ev (fun k => impl_EncodeStm.l1 k s l (l.length : Int) 0) (capB (l.foldl stepV s)) := by
  have := foldE (fun k s i => impl_EncodeStm.l1 k s l (l.length : Int) (i : Int)) (fun k s y => (impl_u8.f k y.f0).bind fun t => if s.size + t.size ≤ 9223372036854775807 then (if y.f0 = 1 then (impl_u64.f k y.f1).bind fun u => if (s ++ t).size + u.size ≤ 9223372036854775807 then some ((s ++ t) ++ u) else none else (impl_s16.f k y.f2).bind fun u => if (s ++ t).size + u.size ≤ 9223372036854775807 then some ((s ++ t) ++ u) else none) else none) stepV capB l 1100 1000000
    (fun k s i h => by
      rw [impl_EncodeStm.l1, if_pos (by omega), if_pos (by omega), if_pos (by omega), rdVal l i h, wsucc i (by omega)]
      simp only [Option.bind_assoc, bind_if, Option.bind_some, Option.bind_none, bind_ite])
    (fun s hs => impl_fin _ s fun k => by rw [impl_EncodeStm.l1, if_neg (by omega)])
    (fun s y hy hz => by
      unfold stepV
      refine (impl_n1 y.f0).bind ?_
      refine Ev.pos (by rw [encN_size]; omega) ?_
      by_cases c1 : y.f0 = 1
      · simp only [if_pos c1]
        refine (impl_n8 y.f1).bind ?_
        refine Ev.pos (by rw [ByteArray.size_append, encN_size, encN_size]; omega) ?_
        exact Ev.now _
      · simp only [if_neg c1]
        refine (impl_s16_ev y.f2 (by have := hs y hy; omega)).bind ?_
        refine Ev.pos (by rw [ByteArray.size_append, encN_size, enc16_size]; have := hs y hy; omega) ?_
        exact Ev.now _) (fun s y hy => stepV_size s y (hs y hy)) l.length 0 s (by omega) (by omega)
  simpa using this
theorem impl_eouts (l : List (List Itm)) (hl : l.length ≤ 20) (hs : ∀ y ∈ l, y.length ≤ 100 ∧ ∀ z ∈ y, z.f2.size ≤ 200) (a0 : Int) (a1 : ByteArray) (a2 : List Col) (a3 : List Val) (a4 : ByteArray) (a5 wh : List Itm) (a7 : List (List Itm)) (hw : wh.length ≤ 100 ∧ ∀ z ∈ wh, z.f2.size ≤ 200) (s : ByteArray) (hz : s.size ≤ 100000) :
    Ev (fun k => impl_EncodeStm.l2 k s l (l.length : Int) 0 a0 a1 a2 a3 a4 a5 wh a7) (capB (l.foldl (fun s e => s ++ expEnc e) s ++ expEnc wh)) := by
  have := foldE (fun k s i => impl_EncodeStm.l2 k s l (l.length : Int) (i : Int) a0 a1 a2 a3 a4 a5 wh a7) (fun k s y => (impl_expBytes.f k y).bind fun t => if s.size + t.size ≤ 9223372036854775807 then some (s ++ t) else none) (fun s e => s ++ expEnc e) (fun s => capB (s ++ expEnc wh)) l 30000 1000000
    (fun k s i h => by
      rw [impl_EncodeStm.l2, if_pos (by omega), if_pos (by omega), if_pos (by omega), rdII l i h, wsucc i (by omega)]
      simp only [Option.bind_assoc, bind_if, Option.bind_some, Option.bind_none, bind_ite])
    (fun s hs => by
      refine Ev.step (f := fun k => (impl_expBytes.f k wh).bind fun t => if s.size + t.size ≤ 9223372036854775807 then (if ((s ++ t).size : Int) > 60000 then some (⟨#[]⟩ : ByteArray) else some (s ++ t)) else none) (fun k => by rw [impl_EncodeStm.l2, if_neg (by omega)]) ?_
      refine (impl_eb wh (by omega) (fun z hz => by have := hw.2 z hz; omega)).bind ?_
      have := expEnc_size wh hw.1 hw.2
      refine Ev.pos (by omega) ?_
      unfold capB
      split <;> exact Ev.now _)
    (fun s y hy hz => by
      refine (impl_eb y (by have := (hs y hy).1; omega) (fun z hz => by have := (hs y hy).2 z hz; omega)).bind ?_
      have := expEnc_size y (hs y hy).1 (hs y hy).2
      refine Ev.pos (by omega) ?_
      exact Ev.now _) (fun s y hy => by rw [ByteArray.size_append]; have := expEnc_size y (hs y hy).1 (hs y hy).2; omega) l.length 0 s (by omega) (by omega)
  simpa using this
theorem impl_enc (kind : Int) (table : ByteArray) (cols : List Col) (vals : List Val) (col : ByteArray) (exp wh : List Itm) (outs : List (List Itm))
    (hok : Ev (fun k => impl_StmOK.f k kind table cols vals col exp wh outs) (stmOk kind table cols vals col exp wh outs)) :
    Ev (fun k => impl_EncodeStm.f k kind table cols vals col exp wh outs) (encStm kind table cols vals col exp wh outs) := by
  unfold impl_EncodeStm.f encStm
  refine hok.bind ?_
  cases hb : stmOk kind table cols vals col exp wh outs with
  | false => simp only [if_neg ff]; exact Ev.now _
  | true =>
    obtain ⟨ht, h1, h2, h3, h4, h5⟩ := stmOk_small hb
    simp only [if_true]
    refine (impl_n1 kind).bind ?_
    refine (impl_s8_ev table (by omega)).bind ?_
    have e0 : (encN 1 kind ++ enc8 table).size ≤ 100 := by rw [ByteArray.size_append, encN_size, enc8_size]; omega
    refine Ev.pos (by rw [encN_size, enc8_size]; omega) ?_
    by_cases k1 : kind = 1
    · simp only [if_pos k1]
      refine (impl_n1 _).bind ?_
      refine Ev.pos (by rw [encN_size]; omega) ?_
      obtain ⟨g1, g2⟩ := h1 k1
      exact impl_ecols cols g1 (fun y hy => by have := g2 y hy; omega) _ (by rw [ByteArray.size_append, encN_size]; omega)
    · simp only [if_neg k1]
      by_cases k2 : kind = 2
      · simp only [if_pos k2]
        refine (impl_n1 _).bind ?_
        refine Ev.pos (by rw [encN_size]; omega) ?_
        obtain ⟨g1, g2⟩ := h2 k2
        exact impl_evals vals g1 (fun y hy => by have := g2 y hy; omega) _ (by rw [ByteArray.size_append, encN_size]; omega)
      · simp only [if_neg k2]
        by_cases k3 : kind = 3
        · simp only [if_pos k3]
          obtain ⟨g1, g2, g3⟩ := h3 k3
          have z1 := expEnc_size exp g2.1 g2.2
          have z2 := expEnc_size wh g3.1 g3.2
          refine (impl_s8_ev col (by omega)).bind ?_
          refine (impl_eb exp (by omega) (fun z hz => by have := g2.2 z hz; omega)).bind ?_
          refine Ev.pos (by rw [enc8_size]; omega) ?_
          refine (impl_eb wh (by omega) (fun z hz => by have := g3.2 z hz; omega)).bind ?_
          refine Ev.pos (by rw [ByteArray.size_append, enc8_size]; omega) ?_
          refine Ev.pos (by rw [ByteArray.size_append (a := enc8 col ++ expEnc exp), ByteArray.size_append (a := enc8 col), enc8_size]; omega) ?_
          unfold capB
          split <;> exact Ev.now _
        · simp only [if_neg k3]
          by_cases k4 : kind = 4
          · simp only [if_pos k4]
            have g3 := h4 k4
            have z2 := expEnc_size wh g3.1 g3.2
            refine (impl_eb wh (by omega) (fun z hz => by have := g3.2 z hz; omega)).bind ?_
            refine Ev.pos (by omega) ?_
            unfold capB
            split <;> exact Ev.now _
          · simp only [if_neg k4]
            by_cases k5 : kind = 5
            · simp only [if_pos k5]
              obtain ⟨g1, g2, g3⟩ := h5 k5
              refine (impl_n1 _).bind ?_
              refine Ev.pos (by rw [encN_size]; omega) ?_
              exact impl_eouts outs g1 g2 kind table cols vals col exp wh outs g3 _ (by rw [ByteArray.size_append, encN_size]; omega)
            · simp only [if_neg k5]
              unfold capB
              split <;> exact Ev.now _
end Go.Proofs.YtbpfdjbnfkclcaaDoor.Pure
end
section
set_option linter.unusedVariables false
set_option linter.unusedSimpArgs false
namespace Go.Proofs.YtbpfdjbnfkclcaaDoor.Pure
open Go Go.RowKit Go.Proofs.YtbpfdjbnfkclcaaDoor Go.Proofs.YtbpfdjbnfkclcaaDoor.L Go.Proofs.YtbpfdjbnfkclcaaDoorW.PrintWords Go.Proofs.YtbpfdjbnfkclcaaDoorW.PrintMore Go.Proofs.YtbpfdjbnfkclcaaDoorW.PrintLast
/-- The number that bytes spell. -/
def stepV8 (n : Int) (c : UInt8) : Int := wrap64 (wrap64 (n * 256) + wrap64 (c.toNat : Int))
def valS (l : List UInt8) (n : Int) : Int := l.foldl stepV8 n
theorem byte_lt (c : UInt8) : (c.toNat : Int) < 256 ∧ 0 ≤ (c.toNat : Int) := by have := c.toNat_lt; omega
theorem stepV8_eq (n : Int) (c : UInt8) (h : 0 ≤ n ∧ n ≤ 100000) : stepV8 n c = n * 256 + (c.toNat : Int) := by
  have hb := byte_lt c
  unfold stepV8
  generalize (c.toNat : Int) = x at hb ⊢
  rw [w64 (n * 256) (by omega), w64 x (by omega), w64 _ (by omega)]
theorem valS_cons (c : UInt8) (l : List UInt8) (n : Int) : valS (c :: l) n = valS l (stepV8 n c) := List.foldl_cons ..
theorem valS_nil (n : Int) : valS [] n = n := List.foldl_nil ..
theorem mul0 (x : Int) : 0 * 256 + x = x := by omega
theorem valS_one (c : UInt8) : valS [c] 0 = (c.toNat : Int) := by
  rw [valS_cons, valS_nil, stepV8_eq 0 c ⟨by decide, by decide⟩, mul0]
theorem valS_two (b c : UInt8) : valS [b, c] 0 = (b.toNat : Int) * 256 + (c.toNat : Int) := by
  have hb := byte_lt b
  rw [valS_cons, valS_cons, valS_nil, stepV8_eq 0 b ⟨by decide, by decide⟩, mul0, stepV8_eq _ _ (by omega)]
theorem valS_range (l : List UInt8) (h : l.length ≤ 2) : 0 ≤ valS l 0 ∧ valS l 0 ≤ 65535 := by
  match l, h with
  | [], _ => rw [valS_nil]; exact ⟨by decide, by decide⟩
  | [c], _ => have := byte_lt c; rw [valS_one]; omega
  | [b, c], _ => have := byte_lt c; have := byte_lt b; rw [valS_two]; omega
  | _ :: _ :: _ :: _, h => simp at h
def bytesOf (a : ByteArray) : List UInt8 := a.data.toList
theorem bytesOf_len (a : ByteArray) : (bytesOf a).length = a.size := rfl
/-- The reference's reader: a place in the text, -1 behind a failing. -/
def Rs (a : ByteArray) : Rdr Int where
  num w at_ := if at_ < 0 then (0, -1) else if at_ + (w : Int) > (a.size : Int) then (0, -1) else (valS (((bytesOf a).drop at_.toNat).take w) 0, at_ + (w : Int))
  text w at_ :=
    if at_ < 0 then (⟨#[]⟩, -1) else if at_ + (w : Int) > (a.size : Int) then (⟨#[]⟩, -1)
    else if at_ + (w : Int) + valS (((bytesOf a).drop at_.toNat).take w) 0 > (a.size : Int) then (⟨#[]⟩, -1)
    else (a.extract (at_ + (w : Int)).toNat (at_ + (w : Int) + valS (((bytesOf a).drop at_.toNat).take w) 0).toNat, at_ + (w : Int) + valS (((bytesOf a).drop at_.toNat).take w) 0)
def inS (a : ByteArray) (at_ : Int) : Prop := -1 ≤ at_ ∧ at_ ≤ (a.size : Int)
theorem Rs_num_in (a : ByteArray) (w : Nat) (at_ : Int) (h : inS a at_) : inS a ((Rs a).num w at_).2 := by
  unfold inS at h ⊢
  unfold Rs
  simp only
  split
  · simp only; omega
  · split <;> (simp only; omega)
theorem Rs_text_in (a : ByteArray) (w : Nat) (hw : w ≤ 2) (at_ : Int) (h : inS a at_) : inS a ((Rs a).text w at_).2 := by
  have hv := valS_range (((bytesOf a).drop at_.toNat).take w) (by rw [List.length_take]; omega)
  unfold inS at h ⊢
  unfold Rs
  simp only
  split
  · simp only; omega
  · split
    · simp only; omega
    · split <;> (simp only; omega)
theorem bt_at (a : ByteArray) (i : Nat) (h : i < a.size) : ∃ c : UInt8, (bytesOf a).drop i = c :: (bytesOf a).drop (i + 1) ∧ bt a (i : Int) = (c.toNat : Int) := by
  have hl : i < (bytesOf a).length := h
  refine ⟨(bytesOf a)[i], List.drop_eq_getElem_cons hl, ?_⟩
  unfold bt
  rw [dif_pos (by simpa using h)]
  rfl
theorem get_l0 (a : ByteArray) (hz : a.size ≤ 2000000) (at_ w : Nat) (hw : w ≤ 8) (haw : at_ + w ≤ a.size) (d : Nat) : ∀ (j : Nat) (n : Int), j + d = w → Ev (fun k => spec_l1Get.l0 k a (at_ : Int) (w : Int) n (j : Int)) (valS (((bytesOf a).drop (at_ + j)).take d) n) := by
  induction d with
  | zero =>
    intro j n hj
    refine Ev.step (f := fun _ => some n) (fun k => by rw [spec_l1Get.l0, if_neg (by omega)]) ?_
    rw [List.take_zero, valS_nil]
    exact Ev.now _
  | succ d ih =>
    intro j n hj
    obtain ⟨c, h1, h2⟩ := bt_at a (at_ + j) (by omega)
    have e : wrap64 ((at_ : Int) + (j : Int)) = ((at_ + j : Nat) : Int) := by rw [w64 _ (by omega)]; omega
    refine Ev.step (f := fun k => spec_l1Get.l0 k a (at_ : Int) (w : Int) (stepV8 n c) ((j + 1 : Nat) : Int)) (fun k => ?_) ?_
    · rw [spec_l1Get.l0, if_pos (by omega), e, if_pos (by omega), if_pos (by omega), h2, wsucc j (by omega), stepV8]
    · have := ih (j + 1) (stepV8 n c) (by omega)
      rw [h1, List.take_succ_cons, valS_cons]
      exact this
theorem s_num (a : ByteArray) (hz : a.size ≤ 2000000) (w : Nat) (hw : w ≤ 8) (at_ : Int) (h : inS a at_) : Ev (fun k => spec_l4Bytes_num.f k a at_ (w : Int)) (((Rs a).num w at_).1, a, ((Rs a).num w at_).2) := by
  unfold inS at h
  unfold spec_l4Bytes_num.f Rs
  simp only
  by_cases c1 : at_ < 0
  · simp only [if_pos c1]; exact Ev.now _
  simp only [if_neg c1, w64 (at_ + (w : Int)) (by omega)]
  by_cases c2 : at_ + (w : Int) > (a.size : Int)
  · simp only [if_pos c2]; exact Ev.now _
  simp only [if_neg c2]
  obtain ⟨p, rfl⟩ : ∃ p : Nat, at_ = (p : Int) := ⟨at_.toNat, by omega⟩
  have e : wrap64 ((p : Int) + (w : Int) - (w : Int)) = (p : Int) := by rw [w64 _ (by omega)]; omega
  simp only [e]
  have := get_l0 a hz p w hw (by omega) w 0 0 (by omega)
  refine Ev.bind (a := valS (((bytesOf a).drop (p : Int).toNat).take w) 0) this (Ev.now _)
theorem s_text (a : ByteArray) (hz : a.size ≤ 2000000) (w : Nat) (hw : w ≤ 2) (at_ : Int) (h : inS a at_) : Ev (fun k => spec_l4Bytes_text.f k a at_ (w : Int)) (((Rs a).text w at_).1, a, ((Rs a).text w at_).2) := by
  have hv := valS_range (((bytesOf a).drop at_.toNat).take w) (by rw [List.length_take]; omega)
  have hn := s_num a hz w (by omega) at_ h
  unfold inS at h
  unfold spec_l4Bytes_text.f
  refine hn.bind ?_
  unfold Rs
  simp only
  by_cases c1 : at_ < 0
  · simp only [if_pos c1, if_pos (show (-1 : Int) < 0 by decide)]; exact Ev.now _
  simp only [if_neg c1]
  by_cases c2 : at_ + (w : Int) > (a.size : Int)
  · simp only [if_pos c2, if_pos (show (-1 : Int) < 0 by decide)]; exact Ev.now _
  simp only [if_neg c2]
  generalize valS (((bytesOf a).drop at_.toNat).take w) 0 = n at hv ⊢
  simp only [if_neg (show ¬ at_ + (w : Int) < 0 by omega), w64 (at_ + (w : Int) + n) (by omega)]
  by_cases c3 : at_ + (w : Int) + n > (a.size : Int)
  · simp only [if_pos c3]; exact Ev.now _
  have e : wrap64 (at_ + (w : Int) + n - n) = at_ + (w : Int) := by rw [w64 _ (by omega)]; omega
  simp only [if_neg c3, e, if_pos (show 0 ≤ at_ + (w : Int) by omega), if_pos (show at_ + (w : Int) ≤ at_ + (w : Int) + n by omega), if_pos (show at_ + (w : Int) + n ≤ (a.size : Int) by omega)]
  exact Ev.now _
def okE (at_ : Int) : Bool := decide (0 ≤ at_)
def okL (_ : Int) : Bool := true
theorem rItem_in (a : ByteArray) (at_ : Int) (h : inS a at_) : inS a (rItem (Rs a) at_).2 := by
  unfold rItem
  have h1 := Rs_num_in a 1 at_ h
  split
  · exact Rs_num_in a 8 _ h1
  · split
    · exact Rs_text_in a 2 (by omega) _ h1
    · split
      · exact Rs_text_in a 1 (by omega) _ h1
      · exact h1
theorem rList_in {α : Type} (a : ByteArray) (f : Int → α × Int) (ok : Int → Bool) (hf : ∀ st, inS a st → inS a (f st).2) : ∀ (n : Nat) (at_ : Int), inS a at_ → inS a (rList f ok n at_).2
  | 0, at_, h => h
  | n + 1, at_, h => by
    rw [rList]
    split
    · exact rList_in a f ok hf n _ (hf _ h)
    · exact h
theorem rList_len {σ α : Type} (f : σ → α × σ) (ok : σ → Bool) : ∀ (n : Nat) (st : σ), (rList f ok n st).1.length ≤ n
  | 0, st => Nat.le_refl _
  | n + 1, st => by
    rw [rList]
    split
    · have := rList_len f ok n (f st).2
      rw [List.length_cons]; omega
    · simp
theorem s_exp_l0 (a : ByteArray) (hz : a.size ≤ 2000000) (d : Nat) : ∀ (ps : List Itm) (n i at_ : Int), n - i = (d : Int) → 0 ≤ i → n ≤ 100000 → ps.length + d ≤ 200000 → inS a at_ →
    Ev (fun k => spec_l4Bytes_exp.l0 k ps n i a at_) (ps ++ (rList (rItem (Rs a)) okE d at_).1, a, (rList (rItem (Rs a)) okE d at_).2) := by
  induction d with
  | zero =>
    intro ps n i at_ hd h0 hn hl hi
    refine Ev.step (f := fun k => spec_l4Bytes_exp.j1 k ps n i false a at_) (fun k => by rw [spec_l4Bytes_exp.l0, if_neg (by omega)]) ?_
    refine Ev.step (f := fun _ => some (ps, a, at_)) (fun k => by rw [spec_l4Bytes_exp.j1, if_neg (by decide)]) ?_
    rw [rList, List.append_nil]
    exact Ev.now _
  | succ d ih =>
    intro ps n i at_ hd h0 hn hl hi
    refine Ev.step (f := fun k => spec_l4Bytes_exp.j1 k ps n i (decide (at_ ≥ 0)) a at_) (fun k => by rw [spec_l4Bytes_exp.l0, if_pos (by omega)]) ?_
    by_cases c : at_ ≥ 0
    case neg =>
      refine Ev.step (f := fun _ => some (ps, a, at_)) (fun k => by rw [spec_l4Bytes_exp.j1, if_neg (by simpa using c)]) ?_
      rw [rList, if_neg (by unfold okE; simpa using c), List.append_nil]
      exact Ev.now _
    have hin := rItem_in a at_ hi
    have h1 := Rs_num_in a 1 at_ hi
    have ew : wrap64 (i + 1) = i + 1 := by rw [w64 _ (by omega)]
    have tail : Ev (fun k => spec_l4Bytes_exp.l0 k (ps ++ [(rItem (Rs a) at_).1]) n (i + 1) a (rItem (Rs a) at_).2) (ps ++ (rList (rItem (Rs a)) okE (d + 1) at_).1, a, (rList (rItem (Rs a)) okE (d + 1) at_).2) := by
      have := ih (ps ++ [(rItem (Rs a) at_).1]) n (i + 1) (rItem (Rs a) at_).2 (by omega) (by omega) hn (by rw [List.length_append]; simp only [List.length_singleton]; omega) hin
      rw [rList, if_pos (by unfold okE; simpa using c)]
      rw [List.append_assoc] at this
      exact this
    have hlen : ps.length < 4398046511104 := by omega
    refine Ev.step (f := fun k => (spec_l4Bytes_num.f k a at_ 1).bind fun bt111 => (if bt111.1 = 1 then ((spec_l4Bytes_num.f k bt111.2.1 bt111.2.2 8).bind fun bt115 => (if ps.length < 4398046511104 then (spec_l4Bytes_exp.l0 k (ps ++ [(⟨bt111.1, bt115.1, (⟨#[]⟩ : ByteArray)⟩ : Itm)]) n (i + 1) bt115.2.1 bt115.2.2) else (none))) else (if bt111.1 = 2 then ((spec_l4Bytes_text.f k bt111.2.1 bt111.2.2 2).bind fun bt121 => (if ps.length < 4398046511104 then (spec_l4Bytes_exp.l0 k (ps ++ [(⟨bt111.1, 0, bt121.1⟩ : Itm)]) n (i + 1) bt121.2.1 bt121.2.2) else (none))) else (if bt111.1 = 3 then ((spec_l4Bytes_text.f k bt111.2.1 bt111.2.2 1).bind fun bt127 => (if ps.length < 4398046511104 then (spec_l4Bytes_exp.l0 k (ps ++ [(⟨bt111.1, 0, bt127.1⟩ : Itm)]) n (i + 1) bt127.2.1 bt127.2.2) else (none))) else (if ps.length < 4398046511104 then (spec_l4Bytes_exp.l0 k (ps ++ [(⟨bt111.1, 0, (⟨#[]⟩ : ByteArray)⟩ : Itm)]) n (i + 1) bt111.2.1 bt111.2.2) else (none)))))) (fun k => by rw [spec_l4Bytes_exp.j1, if_pos (by simpa using c), ew]) ?_
    refine (s_num a hz 1 (by omega) at_ hi).bind ?_
    simp only [if_pos hlen]
    unfold rItem at tail
    by_cases c1 : ((Rs a).num 1 at_).1 = 1
    · simp only [if_pos c1] at tail ⊢
      exact (s_num a hz 8 (by omega) _ h1).bind tail
    simp only [if_neg c1] at tail ⊢
    by_cases c2 : ((Rs a).num 1 at_).1 = 2
    · simp only [if_pos c2] at tail ⊢
      exact (s_text a hz 2 (by omega) _ h1).bind tail
    simp only [if_neg c2] at tail ⊢
    by_cases c3 : ((Rs a).num 1 at_).1 = 3
    · simp only [if_pos c3] at tail ⊢
      exact (s_text a hz 1 (by omega) _ h1).bind tail
    simp only [if_neg c3] at tail ⊢
    exact tail
theorem num_small (a : ByteArray) (w : Nat) (hw : w ≤ 2) (at_ : Int) : 0 ≤ ((Rs a).num w at_).1 ∧ ((Rs a).num w at_).1 ≤ 65535 := by
  have hv := valS_range (((bytesOf a).drop at_.toNat).take w) (by rw [List.length_take]; omega)
  unfold Rs
  simp only
  split
  · simp
  · split
    · simp
    · exact hv
theorem s_exp (a : ByteArray) (hz : a.size ≤ 2000000) (at_ : Int) (h : inS a at_) : Ev (fun k => spec_l4Bytes_exp.f k a at_) ((rExp (Rs a) okE at_).1, a, (rExp (Rs a) okE at_).2) := by
  unfold spec_l4Bytes_exp.f
  refine (s_num a hz 2 (by omega) at_ h).bind ?_
  have hn := num_small a 2 (by omega) at_
  have := s_exp_l0 a hz ((Rs a).num 2 at_).1.toNat [] ((Rs a).num 2 at_).1 0 ((Rs a).num 2 at_).2 (by omega) (by omega) (by omega) (by simp; omega) (Rs_num_in a 2 at_ h)
  rw [List.nil_append] at this
  exact this
theorem rExp_in (a : ByteArray) (at_ : Int) (h : inS a at_) : inS a (rExp (Rs a) okE at_).2 := rList_in a _ _ (rItem_in a) _ _ (Rs_num_in a 2 at_ h)
end Go.Proofs.YtbpfdjbnfkclcaaDoor.Pure
end
section
set_option linter.unusedVariables false
set_option linter.unusedSimpArgs false
namespace Go.Proofs.YtbpfdjbnfkclcaaDoor.Pure
open Go Go.RowKit Go.Proofs.YtbpfdjbnfkclcaaDoor Go.Proofs.YtbpfdjbnfkclcaaDoor.L Go.Proofs.YtbpfdjbnfkclcaaDoorW.PrintWords Go.Proofs.YtbpfdjbnfkclcaaDoorW.PrintMore Go.Proofs.YtbpfdjbnfkclcaaDoorW.PrintLast
abbrev Res := Int × ByteArray × List Col × List Val × ByteArray × List Itm × List Itm × List (List Itm) × Bool
def zeroR : Res := (0, ⟨#[]⟩, [], [], ⟨#[]⟩, [], [], [], false)
def stmR (kind : Int) (table : ByteArray) (p : PStm) : Res := (kind, table, p.cols, p.vals, p.col, p.exp, p.wh, p.outs, true)
/-- The bytes of the statement read. -/
def encP (kind : Int) (table : ByteArray) (p : PStm) : ByteArray := encStm kind table p.cols p.vals p.col p.exp p.wh p.outs
/-- The answer to what was read. -/
def accS (a : ByteArray) (kind : Int) (table : ByteArray) (p : PStm) : Res :=
  if a.toList = ([] : List UInt8) then zeroR else if ((encP kind table p).toList != a.toList) = true then zeroR else stmR kind table p
section
variable (a : ByteArray) (hz : a.size ≤ 2000000)
theorem s_j8 (kind : Int) (table : ByteArray) (p : PStm) (h1 : p.cols.length ≤ 100000) (h2 : p.vals.length ≤ 100000) (h3 : p.outs.length ≤ 100000) :
    Ev (fun k => spec_DecodeStm.j8 k a kind table p.cols p.vals p.col p.exp p.wh p.outs) (accS a kind table p) := by
  have j9 : ∀ x : Bool, Ev (fun k => spec_DecodeStm.j9 k x kind table p.cols p.vals p.col p.exp p.wh p.outs) (if x = true then zeroR else stmR kind table p) := fun x => by
    cases x with
    | true => exact Ev.step (f := fun _ => some zeroR) (fun k => by rw [spec_DecodeStm.j9, if_pos rfl]; rfl) (Ev.now _)
    | false => exact Ev.step (f := fun _ => some (stmR kind table p)) (fun k => by rw [spec_DecodeStm.j9, if_neg (by decide)]; rfl) (Ev.now _)
  unfold accS
  by_cases c : a.toList = ([] : List UInt8)
  · rw [if_pos c]
    exact Ev.step (fun k => by rw [spec_DecodeStm.j8, if_pos c]) (j9 true)
  · rw [if_neg c]
    refine Ev.step (fun k => by rw [spec_DecodeStm.j8, if_neg c]) ?_
    exact (spec_enc kind table p.cols p.vals p.col p.exp p.wh p.outs (spec_stm table p.cols p.vals p.col p.exp p.wh p.outs kind (by omega) (by omega) (by omega))).bind (j9 _)
theorem rCol_in (at_ : Int) (h : inS a at_) : inS a (rCol (Rs a) at_).2 := Rs_num_in a 1 _ (Rs_text_in a 1 (by omega) _ h)
theorem rVal_in (at_ : Int) (h : inS a at_) : inS a (rVal (Rs a) at_).2 := by
  unfold rVal
  have h1 := Rs_num_in a 1 at_ h
  split
  · exact Rs_num_in a 8 _ h1
  · exact Rs_text_in a 2 (by omega) _ h1
include hz
theorem s_l0 (kind : Int) (table : ByteArray) (d : Nat) : ∀ (cs : List Col) (n i at_ : Int), n - i = (d : Int) → 0 ≤ i → n ≤ 65535 → cs.length = i.toNat → inS a at_ →
    Ev (fun k => spec_DecodeStm.l0 k a n i a at_ kind table cs ⟨#[]⟩) (accS a kind table ⟨cs ++ (rList (rCol (Rs a)) okL d at_).1, [], ⟨#[]⟩, [], [], []⟩) := by
  induction d with
  | zero =>
    intro cs n i at_ hd h0 hn hl hi
    refine Ev.step (fun k => by rw [spec_DecodeStm.l0, if_neg (by omega)]) ?_
    rw [rList, List.append_nil]
    exact s_j8 a kind table ⟨cs, [], ⟨#[]⟩, [], [], []⟩ (by simp only; omega) (by simp) (by simp)
  | succ d ih =>
    intro cs n i at_ hd h0 hn hl hi
    refine Ev.step (fun k => by rw [spec_DecodeStm.l0, if_pos (by omega)]) ?_
    refine Ev.step (f := fun k => (spec_l4Bytes_text.f k a at_ 1).bind fun t => (spec_l4Bytes_num.f k t.2.1 t.2.2 1).bind fun u => spec_DecodeStm.l0 k a n (i + 1) u.2.1 u.2.2 kind table (cs ++ [(⟨t.1, u.1⟩ : Col)]) ⟨#[]⟩) (fun k => by rw [spec_DecodeStm.j2]; simp only [if_pos (show cs.length < 5864062014805 by omega), w64 (i + 1) (by omega)]) ?_
    refine (s_text a hz 1 (by omega) at_ hi).bind ?_
    refine (s_num a hz 1 (by omega) _ (Rs_text_in a 1 (by omega) at_ hi)).bind ?_
    have := ih (cs ++ [(rCol (Rs a) at_).1]) n (i + 1) (rCol (Rs a) at_).2 (by omega) (by omega) hn (by rw [List.length_append, List.length_singleton]; omega) (rCol_in a at_ hi)
    rw [List.append_assoc] at this
    rw [rList, if_pos (show okL at_ = true from rfl)]
    exact this
theorem s_l1 (kind : Int) (table : ByteArray) (d : Nat) : ∀ (cs : List Val) (n i at_ : Int), n - i = (d : Int) → 0 ≤ i → n ≤ 65535 → cs.length = i.toNat → inS a at_ →
    Ev (fun k => spec_DecodeStm.l1 k a n i a at_ kind table cs ⟨#[]⟩) (accS a kind table ⟨[], cs ++ (rList (rVal (Rs a)) okL d at_).1, ⟨#[]⟩, [], [], []⟩) := by
  induction d with
  | zero =>
    intro cs n i at_ hd h0 hn hl hi
    refine Ev.step (fun k => by rw [spec_DecodeStm.l1, if_neg (by omega)]) ?_
    rw [rList, List.append_nil]
    exact s_j8 a kind table ⟨[], cs, ⟨#[]⟩, [], [], []⟩ (by simp) (by simp only; omega) (by simp)
  | succ d ih =>
    intro cs n i at_ hd h0 hn hl hi
    refine Ev.step (fun k => by rw [spec_DecodeStm.l1, if_pos (by omega)]) ?_
    refine Ev.step (f := fun k => (spec_l4Bytes_num.f k a at_ 1).bind fun t => if t.1 = 1 then ((spec_l4Bytes_num.f k t.2.1 t.2.2 8).bind fun u => spec_DecodeStm.l1 k a n (i + 1) u.2.1 u.2.2 kind table (cs ++ [(⟨t.1, u.1, ⟨#[]⟩⟩ : Val)]) ⟨#[]⟩) else ((spec_l4Bytes_text.f k t.2.1 t.2.2 2).bind fun u => spec_DecodeStm.l1 k a n (i + 1) u.2.1 u.2.2 kind table (cs ++ [(⟨t.1, 0, u.1⟩ : Val)]) ⟨#[]⟩)) (fun k => by rw [spec_DecodeStm.j4]; simp only [if_pos (show cs.length < 4398046511104 by omega), w64 (i + 1) (by omega)]) ?_
    refine (s_num a hz 1 (by omega) at_ hi).bind ?_
    have h1 := Rs_num_in a 1 at_ hi
    have := ih (cs ++ [(rVal (Rs a) at_).1]) n (i + 1) (rVal (Rs a) at_).2 (by omega) (by omega) hn (by rw [List.length_append, List.length_singleton]; omega) (rVal_in a at_ hi)
    rw [List.append_assoc] at this
    rw [rList, if_pos (show okL at_ = true from rfl)]
    unfold rVal at this ⊢
    by_cases c1 : ((Rs a).num 1 at_).1 = 1
    · simp only [if_pos c1] at this ⊢
      exact (s_num a hz 8 (by omega) _ h1).bind this
    · simp only [if_neg c1] at this ⊢
      exact (s_text a hz 2 (by omega) _ h1).bind this
theorem s_l2 (kind : Int) (table : ByteArray) (d : Nat) : ∀ (cs : List (List Itm)) (n i at_ : Int), n - i = (d : Int) → 0 ≤ i → n ≤ 65535 → cs.length = i.toNat → inS a at_ →
    Ev (fun k => spec_DecodeStm.l2 k a n i a at_ kind table ⟨#[]⟩ cs) (accS a kind table ⟨[], [], ⟨#[]⟩, [], (rExp (Rs a) okE (rList (rExp (Rs a) okE) okL d at_).2).1, cs ++ (rList (rExp (Rs a) okE) okL d at_).1⟩) := by
  induction d with
  | zero =>
    intro cs n i at_ hd h0 hn hl hi
    refine Ev.step (fun k => by rw [spec_DecodeStm.l2, if_neg (by omega)]) ?_
    refine Ev.step (fun k => by rw [spec_DecodeStm.j7]) ?_
    refine (s_exp a hz at_ hi).bind ?_
    rw [rList, List.append_nil]
    exact s_j8 a kind table ⟨[], [], ⟨#[]⟩, [], (rExp (Rs a) okE at_).1, cs⟩ (by simp) (by simp) (by simp only; omega)
  | succ d ih =>
    intro cs n i at_ hd h0 hn hl hi
    refine Ev.step (fun k => by rw [spec_DecodeStm.l2, if_pos (by omega)]) ?_
    refine Ev.step (f := fun k => (spec_l4Bytes_exp.f k a at_).bind fun t => spec_DecodeStm.l2 k a n (i + 1) t.2.1 t.2.2 kind table ⟨#[]⟩ (cs ++ [t.1])) (fun k => by rw [spec_DecodeStm.j6]; simp only [if_pos (show cs.length < 5864062014805 by omega), w64 (i + 1) (by omega)]) ?_
    refine (s_exp a hz at_ hi).bind ?_
    have := ih (cs ++ [(rExp (Rs a) okE at_).1]) n (i + 1) (rExp (Rs a) okE at_).2 (by omega) (by omega) hn (by rw [List.length_append, List.length_singleton]; omega) (rExp_in a at_ hi)
    rw [List.append_assoc] at this
    rw [rList, if_pos (show okL at_ = true from rfl)]
    exact this
theorem s_j0 : Ev (fun k => spec_DecodeStm.j0 k a) (accS a (rStm (Rs a) okE okL 0).1.1 (rStm (Rs a) okE okL 0).1.2.1 (rStm (Rs a) okE okL 0).1.2.2) := by
  have i0 : inS a 0 := by unfold inS; omega
  have i1 := Rs_num_in a 1 0 i0
  have i2 := Rs_text_in a 1 (by omega) _ i1
  have i3 := Rs_num_in a 1 _ i2
  refine Ev.step (fun k => by rw [spec_DecodeStm.j0]) ?_
  refine (s_num a hz 1 (by omega) 0 i0).bind ?_
  refine (s_text a hz 1 (by omega) _ i1).bind ?_
  have hn := num_small a 1 (by omega) ((Rs a).text 1 ((Rs a).num 1 0).2).2
  simp only [rStm]
  generalize ((Rs a).num 1 0).1 = kind
  generalize ((Rs a).text 1 ((Rs a).num 1 0).2).1 = table
  generalize ((Rs a).text 1 ((Rs a).num 1 0).2).2 = p at i2 i3 hn ⊢
  unfold rBody
  by_cases k1 : kind = 1
  · simp only [if_pos k1]
    refine (s_num a hz 1 (by omega) p i2).bind ?_
    exact s_l0 a hz kind table _ [] _ 0 _ (by omega) (by omega) (by omega) rfl i3
  simp only [if_neg k1]
  by_cases k2 : kind = 2
  · simp only [if_pos k2]
    refine (s_num a hz 1 (by omega) p i2).bind ?_
    exact s_l1 a hz kind table _ [] _ 0 _ (by omega) (by omega) (by omega) rfl i3
  simp only [if_neg k2]
  by_cases k3 : kind = 3
  · simp only [if_pos k3]
    refine (s_text a hz 1 (by omega) p i2).bind ?_
    have i4 := Rs_text_in a 1 (by omega) p i2
    refine (s_exp a hz _ i4).bind ?_
    refine (s_exp a hz _ (rExp_in a _ i4)).bind ?_
    exact s_j8 a kind table ⟨_, _, _, _, _, _⟩ (Nat.zero_le _) (Nat.zero_le _) (Nat.zero_le _)
  simp only [if_neg k3]
  by_cases k4 : kind = 4
  · simp only [if_pos k4]
    refine (s_exp a hz _ i2).bind ?_
    exact s_j8 a kind table ⟨_, _, _, _, _, _⟩ (Nat.zero_le _) (Nat.zero_le _) (Nat.zero_le _)
  simp only [if_neg k4]
  by_cases k5 : kind = 5
  · simp only [if_pos k5]
    refine (s_num a hz 1 (by omega) p i2).bind ?_
    exact s_l2 a hz kind table _ [] _ 0 _ (by omega) (by omega) (by omega) rfl i3
  simp only [if_neg k5]
  exact s_j8 a kind table ⟨_, _, _, _, _, _⟩ (Nat.zero_le _) (Nat.zero_le _) (Nat.zero_le _)
end
theorem spec_dec (a : ByteArray) : Ev (fun k => spec_DecodeStm.f k a) (if (a.size : Int) > 60000 then zeroR else accS a (rStm (Rs a) okE okL 0).1.1 (rStm (Rs a) okE okL 0).1.2.1 (rStm (Rs a) okE okL 0).1.2.2) := by
  unfold spec_DecodeStm.f
  by_cases c : (a.size : Int) > 60000
  · simp only [if_pos c]; exact Ev.now _
  · simp only [if_neg c]; exact s_j0 a (by omega)
end Go.Proofs.YtbpfdjbnfkclcaaDoor.Pure
end
section
set_option linter.unusedVariables false
set_option linter.unusedSimpArgs false
namespace Go.Proofs.YtbpfdjbnfkclcaaDoor.Pure
open Go Go.RowKit Go.Proofs.YtbpfdjbnfkclcaaDoor Go.Proofs.YtbpfdjbnfkclcaaDoor.L Go.Proofs.YtbpfdjbnfkclcaaDoorW.PrintWords Go.Proofs.YtbpfdjbnfkclcaaDoorW.PrintMore Go.Proofs.YtbpfdjbnfkclcaaDoorW.PrintLast
theorem or_byte (n : Int) (c : UInt8) : Go.bits .or .i64 (wrap64 (n * 256)) (c.toNat : Int) = stepV8 n c := by
  have hb : c.toNat < 256 := c.toNat_lt
  unfold stepV8
  generalize c.toNat = y at hb ⊢
  have hm : ∃ x : Nat, x < 72057594037927936 ∧ wrap64 (n * 256) % 18446744073709551616 = ((x * 256 : Nat) : Int) := by
    refine ⟨(n % 72057594037927936).toNat, ?_, ?_⟩
    · omega
    · unfold wrap64; omega
  obtain ⟨x, hx, hm⟩ := hm
  generalize wrap64 (n * 256) = m at hm ⊢
  have hor : x * 256 ||| y = x * 256 + y := by
    have := Nat.two_pow_add_eq_or_of_lt (i := 8) (b := y) (by omega) x
    rw [Nat.mul_comm x 256]
    exact this.symm
  have h1 : (BitVec.ofInt 64 m).toNat = x * 256 := by
    rw [BitVec.toNat_ofInt, show (((2 ^ 64 : Nat)) : Int) = 18446744073709551616 from by decide, hm]
    rfl
  have h2 : (BitVec.ofInt 64 (y : Int)).toNat = y := by
    rw [BitVec.ofInt_natCast, BitVec.toNat_ofNat]
    exact Nat.mod_eq_of_lt (by omega)
  show IntKind.i64.wrap (((BitVec.ofInt 64 m) ||| (BitVec.ofInt 64 (y : Int))).toNat : Int) = _
  rw [BitVec.toNat_or, h1, h2, hor, i64_w]
  unfold wrap64
  omega
theorem accB_val (l : List UInt8) : ∀ n : Int, accB l n = valS l n := by
  induction l with
  | nil => intro n; exact (valS_nil n).symm
  | cons c l ih => intro n; rw [accB_cons, valS_cons, or_byte, ih]
abbrev IS := ByteArray × Bool
/-- The first bytes of the rest, and the rest behind them; too many: none, and a failing. -/
def takeI (n : Int) (st : IS) : ByteArray × IS :=
  if n > (st.1.size : Int) then (⟨#[]⟩, ⟨#[]⟩, true) else (st.1.extract 0 n.toNat, st.1.extract n.toNat st.1.size, st.2)
/-- The program's reader: the rest of the text, and whether it failed. -/
def Ri : Rdr IS where
  num w st := (valS (bytesOf (takeI (w : Int) st).1) 0, (takeI (w : Int) st).2)
  text w st := takeI (valS (bytesOf (takeI (w : Int) st).1) 0) (takeI (w : Int) st).2
def okI (st : IS) : Bool := !st.2
def inI (st : IS) : Prop := st.1.size ≤ 2000000
theorem take_ev (n : Int) (st : IS) (h : 0 ≤ n) : impl_stmReader_take.f st.1 st.2 n = some (takeI n st) := by
  unfold impl_stmReader_take.f takeI
  by_cases c : n > (st.1.size : Int)
  · rw [if_pos c, if_pos c]
  · rw [if_neg c, if_neg c, if_pos h, if_pos (by omega)]
theorem take_size (n : Int) (st : IS) (h : 0 ≤ n) : ((takeI n st).1.size : Int) ≤ n ∧ (takeI n st).1.size ≤ st.1.size := by
  unfold takeI
  split
  · exact ⟨h, Nat.zero_le _⟩
  · simp only [ByteArray.size_extract]
    omega
theorem take_in (n : Int) (st : IS) (h : inI st) : inI (takeI n st).2 := by
  unfold inI at h ⊢
  unfold takeI
  split
  · exact Nat.zero_le _
  · simp only [ByteArray.size_extract]
    omega
theorem i_num (w : Nat) (st : IS) (h : inI st) (hw : w ≤ 8) : impl_stmReader_number.f st.1 st.2 (w : Int) = some ((Ri.num w st).1, (Ri.num w st).2) := by
  unfold impl_stmReader_number.f
  have := take_size (w : Int) st (by omega)
  rw [take_ev (w : Int) st (by omega), Option.bind_some, if_pos (by unfold inI at h; omega), accB_val]
  rfl
theorem Ri_num_in (w : Nat) (st : IS) (h : inI st) : inI (Ri.num w st).2 := take_in _ _ h
theorem Ri_text_in (w : Nat) (st : IS) (h : inI st) : inI (Ri.text w st).2 := take_in _ _ (take_in _ _ h)
theorem i_small (w : Nat) (st : IS) (hw : w ≤ 2) : 0 ≤ (Ri.num w st).1 ∧ (Ri.num w st).1 ≤ 65535 := by
  have := take_size (w : Int) st (by omega)
  exact valS_range _ (by rw [bytesOf_len]; omega)
theorem i_text {β : Type} (w : Nat) (st : IS) (h : inI st) (hw : w ≤ 2) (F : ByteArray × ByteArray × Bool → Option β) : ((impl_stmReader_number.f st.1 st.2 (w : Int)).bind fun t => (impl_stmReader_take.f t.2.1 t.2.2 t.1).bind F) = F (Ri.text w st) := by
  rw [i_num w st h (by omega), Option.bind_some]
  have hs := i_small w st hw
  show (impl_stmReader_take.f (Ri.num w st).2.1 (Ri.num w st).2.2 (Ri.num w st).1).bind F = _
  rw [take_ev _ (Ri.num w st).2 hs.1, Option.bind_some]
  rfl
theorem i_num1 (st : IS) (h : inI st) : impl_stmReader_number.f st.1 st.2 1 = some (Ri.num 1 st) := i_num 1 st h (by omega)
theorem i_num2 (st : IS) (h : inI st) : impl_stmReader_number.f st.1 st.2 2 = some (Ri.num 2 st) := i_num 2 st h (by omega)
theorem i_num8 (st : IS) (h : inI st) : impl_stmReader_number.f st.1 st.2 8 = some (Ri.num 8 st) := i_num 8 st h (by omega)
theorem i_text1 {β : Type} (st : IS) (h : inI st) (F : ByteArray × ByteArray × Bool → Option β) : ((impl_stmReader_number.f st.1 st.2 1).bind fun t => (impl_stmReader_take.f t.2.1 t.2.2 t.1).bind F) = F (Ri.text 1 st) := i_text 1 st h (by omega) F
theorem i_text2 {β : Type} (st : IS) (h : inI st) (F : ByteArray × ByteArray × Bool → Option β) : ((impl_stmReader_number.f st.1 st.2 2).bind fun t => (impl_stmReader_take.f t.2.1 t.2.2 t.1).bind F) = F (Ri.text 2 st) := i_text 2 st h (by omega) F
theorem i_text_size (w : Nat) (st : IS) (hw : w ≤ 2) : (Ri.text w st).1.size ≤ 65535 := by
  have hs := i_small w st hw
  have := take_size (Ri.num w st).1 (Ri.num w st).2 hs.1
  show (takeI (Ri.num w st).1 (Ri.num w st).2).1.size ≤ 65535
  omega
theorem rItem_inI (st : IS) (h : inI st) : inI (rItem Ri st).2 := by
  unfold rItem
  have h1 := Ri_num_in 1 st h
  split
  · exact Ri_num_in 8 _ h1
  · split
    · exact Ri_text_in 2 _ h1
    · split
      · exact Ri_text_in 1 _ h1
      · exact h1
theorem rItem_small (st : IS) : (rItem Ri st).1.f2.size ≤ 65535 := by
  unfold rItem
  split
  · exact Nat.zero_le _
  · split
    · exact i_text_size 2 _ (by omega)
    · split
      · exact i_text_size 1 _ (by omega)
      · exact Nat.zero_le _
theorem rList_inI {α : Type} (f : IS → α × IS) (ok : IS → Bool) (hf : ∀ st, inI st → inI (f st).2) : ∀ (n : Nat) (st : IS), inI st → inI (rList f ok n st).2
  | 0, st, h => h
  | n + 1, st, h => by
    rw [rList]
    split
    · exact rList_inI f ok hf n _ (hf _ h)
    · exact h
theorem rList_all {σ α : Type} (P : α → Prop) (f : σ → α × σ) (ok : σ → Bool) (hf : ∀ st, P (f st).1) : ∀ (n : Nat) (st : σ), ∀ x ∈ (rList f ok n st).1, P x
  | 0, st, x, hx => by cases hx
  | n + 1, st, x, hx => by
    rw [rList] at hx
    split at hx
    · rcases List.mem_cons.1 hx with rfl | hx
      · exact hf st
      · exact rList_all P f ok hf n _ x hx
    · cases hx
theorem i_exp_l0 (d : Nat) : ∀ (ps : List Itm) (n : Int) (st : IS), n = (d : Int) → d ≤ 65535 → ps.length + d ≤ 200000 → inI st →
    Ev (fun k => impl_stmReader_exp.l0 k ps n st.1 st.2) (ps ++ (rList (rItem Ri) okI d st).1, (rList (rItem Ri) okI d st).2) := by
  induction d with
  | zero =>
    intro ps n st hd h65 hl hi
    refine Ev.step (f := fun k => impl_stmReader_exp.j1 k ps n false st.1 st.2) (fun k => by rw [impl_stmReader_exp.l0, if_neg (by omega)]) ?_
    refine Ev.step (f := fun _ => some (ps, st.1, st.2)) (fun k => by rw [impl_stmReader_exp.j1, if_neg (by decide)]) ?_
    rw [rList, List.append_nil]
    exact Ev.now _
  | succ d ih =>
    intro ps n st hd h65 hl hi
    refine Ev.step (f := fun k => impl_stmReader_exp.j1 k ps n (okI st) st.1 st.2) (fun k => by rw [impl_stmReader_exp.l0, if_pos (by omega)]; rfl) ?_
    by_cases c : okI st = true
    case neg =>
      refine Ev.step (f := fun _ => some (ps, st.1, st.2)) (fun k => by rw [impl_stmReader_exp.j1, if_neg c]) ?_
      rw [rList, if_neg c, List.append_nil]
      exact Ev.now _
    have h1 := Ri_num_in 1 st hi
    have ew : wrap64 (n - 1) = (d : Int) := by rw [w64 _ (by omega)]; omega
    have tail : Ev (fun k => impl_stmReader_exp.l0 k (ps ++ [(rItem Ri st).1]) (d : Int) (rItem Ri st).2.1 (rItem Ri st).2.2) (ps ++ (rList (rItem Ri) okI (d + 1) st).1, (rList (rItem Ri) okI (d + 1) st).2) := by
      have := ih (ps ++ [(rItem Ri st).1]) (d : Int) (rItem Ri st).2 rfl (by omega) (by rw [List.length_append, List.length_singleton]; omega) (rItem_inI st hi)
      rw [rList, if_pos c]
      rw [List.append_assoc] at this
      exact this
    have hlen : ps.length < 4398046511104 := by omega
    refine Ev.step (fun k => by rw [impl_stmReader_exp.j1, if_pos c]) ?_
    refine Ev.congr (fun k => by rw [i_num1 st hi, Option.bind_some]) ?_
    simp only [if_pos hlen, ew]
    generalize rList (rItem Ri) okI (d + 1) st = R at tail ⊢
    unfold rItem at tail
    by_cases c1 : (Ri.num 1 st).1 = 1
    · simp only [if_pos c1] at tail ⊢
      refine Ev.congr (fun k => by rw [i_num8 (Ri.num 1 st).2 h1, Option.bind_some]) ?_
      exact tail
    simp only [if_neg c1] at tail ⊢
    by_cases c2 : (Ri.num 1 st).1 = 2
    · simp only [if_pos c2] at tail ⊢
      refine Ev.congr (fun k => i_text2 (Ri.num 1 st).2 h1 _) ?_
      exact tail
    simp only [if_neg c2] at tail ⊢
    by_cases c3 : (Ri.num 1 st).1 = 3
    · simp only [if_pos c3] at tail ⊢
      refine Ev.congr (fun k => i_text1 (Ri.num 1 st).2 h1 _) ?_
      exact tail
    simp only [if_neg c3] at tail ⊢
    exact tail
theorem i_exp (st : IS) (h : inI st) : Ev (fun k => impl_stmReader_exp.f k st.1 st.2) ((rExp Ri okI st).1, (rExp Ri okI st).2) := by
  unfold impl_stmReader_exp.f
  refine Ev.congr (fun k => by rw [i_num2 st h, Option.bind_some]) ?_
  have hn := i_small 2 st (by omega)
  have := i_exp_l0 (Ri.num 2 st).1.toNat [] (Ri.num 2 st).1 (Ri.num 2 st).2 (by omega) (by omega) (by simp; omega) (Ri_num_in 2 st h)
  rw [List.nil_append] at this
  exact this
theorem rExp_inI (st : IS) (h : inI st) : inI (rExp Ri okI st).2 := rList_inI _ _ rItem_inI _ _ (Ri_num_in 2 st h)
theorem rExp_small (st : IS) : ∀ z ∈ (rExp Ri okI st).1, z.f2.size ≤ 65535 := rList_all (fun z : Itm => z.f2.size ≤ 65535) _ _ rItem_small _ _
end Go.Proofs.YtbpfdjbnfkclcaaDoor.Pure
end
section
set_option linter.unusedVariables false
set_option linter.unusedSimpArgs false
namespace Go.Proofs.YtbpfdjbnfkclcaaDoor.Pure
open Go Go.RowKit Go.Proofs.YtbpfdjbnfkclcaaDoor Go.Proofs.YtbpfdjbnfkclcaaDoor.L Go.Proofs.YtbpfdjbnfkclcaaDoorW.PrintWords Go.Proofs.YtbpfdjbnfkclcaaDoorW.PrintMore Go.Proofs.YtbpfdjbnfkclcaaDoorW.PrintLast
/-- The answer to what was read. -/
def accI (a : ByteArray) (kind : Int) (table : ByteArray) (p : PStm) (bad : Bool) : Res := if bad = true then zeroR else accS a kind table p
/-- What is asked of the texts read. -/
structure SmallP (p : PStm) : Prop where
  cols : p.cols.length ≤ 100000
  vals : p.vals.length ≤ 100000
  outs : p.outs.length ≤ 100000
  col : p.col.size ≤ 65535
  colsT : ∀ y ∈ p.cols, y.f0.size ≤ 65535
  valsT : ∀ y ∈ p.vals, y.f2.size ≤ 65535
  expT : ∀ y ∈ p.exp, y.f2.size ≤ 65535
  whT : ∀ y ∈ p.wh, y.f2.size ≤ 65535
  outsT : ∀ y ∈ p.outs, ∀ z ∈ y, z.f2.size ≤ 65535
theorem all_nil {α : Type} {P : α → Prop} : ∀ y ∈ ([] : List α), P y := fun y h => by cases h
theorem small0 : SmallP ⟨[], [], ⟨#[]⟩, [], [], []⟩ := ⟨Nat.zero_le _, Nat.zero_le _, Nat.zero_le _, Nat.zero_le _, all_nil, all_nil, all_nil, all_nil, all_nil⟩
section
variable (a : ByteArray)
theorem i_j10 (kind : Int) (table : ByteArray) (p : PStm) (st : IS) (ht : table.size ≤ 65535) (h : SmallP p) :
    Ev (fun k => impl_DecodeStm.j10 k a st.1 st.2 kind table p.cols p.vals p.col p.exp p.wh p.outs) (accI a kind table p st.2) := by
  obtain ⟨h1, h2, h3, h4, h5, h6, h7, h8, h9⟩ := h
  have j11 : ∀ x : Bool, Ev (fun k => impl_DecodeStm.j11 k x kind table p.cols p.vals p.col p.exp p.wh p.outs) (if x = true then zeroR else stmR kind table p) := fun x => by
    cases x with
    | true => exact Ev.step (f := fun _ => some zeroR) (fun k => by rw [impl_DecodeStm.j11, if_pos rfl]; rfl) (Ev.now _)
    | false => exact Ev.step (f := fun _ => some (stmR kind table p)) (fun k => by rw [impl_DecodeStm.j11, if_neg (by decide)]; rfl) (Ev.now _)
  unfold accI accS
  by_cases c : a.toList = ([] : List UInt8)
  · rw [if_pos c, ite_self]
    exact Ev.step (fun k => by rw [impl_DecodeStm.j10, if_pos c]) (j11 true)
  · rw [if_neg c]
    by_cases cb : st.2 = true
    · rw [if_pos cb]
      exact Ev.step (fun k => by rw [impl_DecodeStm.j10, if_neg c, if_pos cb]) (j11 true)
    · rw [if_neg cb]
      refine Ev.step (fun k => by rw [impl_DecodeStm.j10, if_neg c, if_neg cb]) ?_
      exact (impl_enc kind table p.cols p.vals p.col p.exp p.wh p.outs (impl_stm table p.cols p.vals p.col p.exp p.wh p.outs kind (by omega) (by omega) (by omega) (fun y hy => by have := h5 y hy; omega) (by omega) (fun y hy => by have := h6 y hy; omega) (fun y hy => by have := h7 y hy; omega) (fun y hy => by have := h8 y hy; omega) (by omega) (fun y hy z hz => by have := h9 y hy z hz; omega))).bind (j11 _)
theorem rCol_inI (st : IS) (h : inI st) : inI (rCol Ri st).2 := Ri_num_in 1 _ (Ri_text_in 1 _ h)
theorem rVal_inI (st : IS) (h : inI st) : inI (rVal Ri st).2 := by
  unfold rVal
  have h1 := Ri_num_in 1 st h
  split
  · exact Ri_num_in 8 _ h1
  · exact Ri_text_in 2 _ h1
theorem rCol_small (st : IS) : (rCol Ri st).1.f0.size ≤ 65535 := i_text_size 1 st (by omega)
theorem rVal_small (st : IS) : (rVal Ri st).1.f2.size ≤ 65535 := by
  unfold rVal
  split
  · exact Nat.zero_le _
  · exact i_text_size 2 _ (by omega)
theorem i_l0 (kind : Int) (table : ByteArray) (ht : table.size ≤ 65535) (d : Nat) : ∀ (cs : List Col) (n : Int) (st : IS), n = (d : Int) → cs.length + d ≤ 65535 → (∀ y ∈ cs, y.f0.size ≤ 65535) → inI st →
    Ev (fun k => impl_DecodeStm.l0 k a n st.1 st.2 kind table cs ⟨#[]⟩) (accI a kind table ⟨cs ++ (rList (rCol Ri) okI d st).1, [], ⟨#[]⟩, [], [], []⟩ (rList (rCol Ri) okI d st).2.2) := by
  have fin : ∀ (cs : List Col) (n : Int) (st : IS), cs.length ≤ 65535 → (∀ y ∈ cs, y.f0.size ≤ 65535) → Ev (fun k => impl_DecodeStm.j1 k a n false st.1 st.2 kind table cs ⟨#[]⟩) (accI a kind table ⟨cs, [], ⟨#[]⟩, [], [], []⟩ st.2) := fun cs n st hl hs =>
    Ev.step (fun k => by rw [impl_DecodeStm.j1, if_neg (by decide)]) (i_j10 a kind table ⟨cs, [], ⟨#[]⟩, [], [], []⟩ st ht { small0 with cols := by simp only; omega, colsT := hs })
  induction d with
  | zero =>
    intro cs n st hd hl hs hi
    refine Ev.step (fun k => by rw [impl_DecodeStm.l0, if_neg (by omega)]) ?_
    rw [rList, List.append_nil]
    exact fin cs n st (by omega) hs
  | succ d ih =>
    intro cs n st hd hl hs hi
    refine Ev.step (f := fun k => impl_DecodeStm.j1 k a n (okI st) st.1 st.2 kind table cs ⟨#[]⟩) (fun k => by rw [impl_DecodeStm.l0, if_pos (by omega)]; rfl) ?_
    by_cases c : okI st = true
    case neg =>
      rw [rList, if_neg c, List.append_nil, Bool.eq_false_iff.2 c]
      exact fin cs n st (by omega) hs
    rw [rList, if_pos c]
    refine Ev.step (fun k => by rw [impl_DecodeStm.j1, if_pos c]) ?_
    refine Ev.step (fun k => by rw [impl_DecodeStm.j2]) ?_
    refine Ev.congr (fun k => i_text1 st hi _) ?_
    have h1 := Ri_text_in 1 st hi
    refine Ev.congr (fun k => by rw [i_num1 (Ri.text 1 st).2 h1, Option.bind_some, if_pos (show cs.length < 5864062014805 by omega), w64 (n - 1) (by omega)]) ?_
    have := ih (cs ++ [(rCol Ri st).1]) (n - 1) (rCol Ri st).2 (by omega) (by rw [List.length_append, List.length_singleton]; omega) (fun y hy => by
      rcases List.mem_append.1 hy with hy | hy
      · exact hs y hy
      · rw [List.mem_singleton.1 hy]; exact rCol_small st) (rCol_inI st hi)
    rw [List.append_assoc] at this
    exact this
theorem i_l1 (kind : Int) (table : ByteArray) (ht : table.size ≤ 65535) (d : Nat) : ∀ (cs : List Val) (n : Int) (st : IS), n = (d : Int) → cs.length + d ≤ 65535 → (∀ y ∈ cs, y.f2.size ≤ 65535) → inI st →
    Ev (fun k => impl_DecodeStm.l1 k a n st.1 st.2 kind table cs ⟨#[]⟩) (accI a kind table ⟨[], cs ++ (rList (rVal Ri) okI d st).1, ⟨#[]⟩, [], [], []⟩ (rList (rVal Ri) okI d st).2.2) := by
  have fin : ∀ (cs : List Val) (n : Int) (st : IS), cs.length ≤ 65535 → (∀ y ∈ cs, y.f2.size ≤ 65535) → Ev (fun k => impl_DecodeStm.j4 k a n false st.1 st.2 kind table cs ⟨#[]⟩) (accI a kind table ⟨[], cs, ⟨#[]⟩, [], [], []⟩ st.2) := fun cs n st hl hs =>
    Ev.step (fun k => by rw [impl_DecodeStm.j4, if_neg (by decide)]) (i_j10 a kind table ⟨[], cs, ⟨#[]⟩, [], [], []⟩ st ht { small0 with vals := by simp only; omega, valsT := hs })
  induction d with
  | zero =>
    intro cs n st hd hl hs hi
    refine Ev.step (fun k => by rw [impl_DecodeStm.l1, if_neg (by omega)]) ?_
    rw [rList, List.append_nil]
    exact fin cs n st (by omega) hs
  | succ d ih =>
    intro cs n st hd hl hs hi
    refine Ev.step (f := fun k => impl_DecodeStm.j4 k a n (okI st) st.1 st.2 kind table cs ⟨#[]⟩) (fun k => by rw [impl_DecodeStm.l1, if_pos (by omega)]; rfl) ?_
    by_cases c : okI st = true
    case neg =>
      rw [rList, if_neg c, List.append_nil, Bool.eq_false_iff.2 c]
      exact fin cs n st (by omega) hs
    rw [rList, if_pos c]
    refine Ev.step (fun k => by rw [impl_DecodeStm.j4, if_pos c]) ?_
    refine Ev.step (fun k => by rw [impl_DecodeStm.j5, i_num1 st hi, Option.bind_some]) ?_
    have h1 := Ri_num_in 1 st hi
    have := ih (cs ++ [(rVal Ri st).1]) (n - 1) (rVal Ri st).2 (by omega) (by rw [List.length_append, List.length_singleton]; omega) (fun y hy => by
      rcases List.mem_append.1 hy with hy | hy
      · exact hs y hy
      · rw [List.mem_singleton.1 hy]; exact rVal_small st) (rVal_inI st hi)
    rw [List.append_assoc] at this
    simp only [if_pos (show cs.length < 4398046511104 by omega), w64 (n - 1) (by omega)]
    change Ev _ (accI a kind table ⟨[], cs ++ ([(rVal Ri st).1] ++ (rList (rVal Ri) okI d (rVal Ri st).2).1), ⟨#[]⟩, [], [], []⟩ (rList (rVal Ri) okI d (rVal Ri st).2).2.2)
    generalize rList (rVal Ri) okI d (rVal Ri st).2 = R at this ⊢
    unfold rVal at this ⊢
    by_cases c1 : (Ri.num 1 st).1 = 1
    · simp only [if_pos c1] at this ⊢
      refine Ev.congr (fun k => by rw [i_num8 (Ri.num 1 st).2 h1, Option.bind_some]) ?_
      exact this
    · simp only [if_neg c1] at this ⊢
      refine Ev.congr (fun k => i_text2 (Ri.num 1 st).2 h1 _) ?_
      exact this
theorem i_l2 (kind : Int) (table : ByteArray) (ht : table.size ≤ 65535) (d : Nat) : ∀ (cs : List (List Itm)) (n : Int) (st : IS), n = (d : Int) → cs.length + d ≤ 65535 → (∀ y ∈ cs, ∀ z ∈ y, z.f2.size ≤ 65535) → inI st →
    Ev (fun k => impl_DecodeStm.l2 k a n st.1 st.2 kind table ⟨#[]⟩ cs) (accI a kind table ⟨[], [], ⟨#[]⟩, [], (rExp Ri okI (rList (rExp Ri okI) okI d st).2).1, cs ++ (rList (rExp Ri okI) okI d st).1⟩ (rExp Ri okI (rList (rExp Ri okI) okI d st).2).2.2) := by
  have fin : ∀ (cs : List (List Itm)) (n : Int) (st : IS), cs.length ≤ 65535 → (∀ y ∈ cs, ∀ z ∈ y, z.f2.size ≤ 65535) → inI st → Ev (fun k => impl_DecodeStm.j7 k a n false st.1 st.2 kind table ⟨#[]⟩ cs) (accI a kind table ⟨[], [], ⟨#[]⟩, [], (rExp Ri okI st).1, cs⟩ (rExp Ri okI st).2.2) := fun cs n st hl hs hi => by
    refine Ev.step (fun k => by rw [impl_DecodeStm.j7, if_neg (by decide)]) ?_
    refine Ev.step (fun k => by rw [impl_DecodeStm.j9]) ?_
    refine (i_exp st hi).bind ?_
    exact i_j10 a kind table ⟨[], [], ⟨#[]⟩, [], (rExp Ri okI st).1, cs⟩ _ ht { small0 with outs := by simp only; omega, outsT := hs, whT := rExp_small st }
  induction d with
  | zero =>
    intro cs n st hd hl hs hi
    refine Ev.step (fun k => by rw [impl_DecodeStm.l2, if_neg (by omega)]) ?_
    rw [rList, List.append_nil]
    exact fin cs n st (by omega) hs hi
  | succ d ih =>
    intro cs n st hd hl hs hi
    refine Ev.step (f := fun k => impl_DecodeStm.j7 k a n (okI st) st.1 st.2 kind table ⟨#[]⟩ cs) (fun k => by rw [impl_DecodeStm.l2, if_pos (by omega)]; rfl) ?_
    by_cases c : okI st = true
    case neg =>
      rw [rList, if_neg c, List.append_nil, Bool.eq_false_iff.2 c]
      exact fin cs n st (by omega) hs hi
    rw [rList, if_pos c]
    refine Ev.step (fun k => by rw [impl_DecodeStm.j7, if_pos c]) ?_
    refine Ev.step (fun k => by rw [impl_DecodeStm.j8]) ?_
    refine (i_exp st hi).bind ?_
    refine Ev.congr (fun k => by rw [if_pos (show cs.length < 5864062014805 by omega), w64 (n - 1) (by omega)]) ?_
    have := ih (cs ++ [(rExp Ri okI st).1]) (n - 1) (rExp Ri okI st).2 (by omega) (by rw [List.length_append, List.length_singleton]; omega) (fun y hy => by
      rcases List.mem_append.1 hy with hy | hy
      · exact hs y hy
      · rw [List.mem_singleton.1 hy]; exact rExp_small st) (rExp_inI st hi)
    rw [List.append_assoc] at this
    exact this
theorem impl_dec (hz : a.size ≤ 2000000) : Ev (fun k => impl_DecodeStm.f k a) (accI a (rStm Ri okI okI (a, false)).1.1 (rStm Ri okI okI (a, false)).1.2.1 (rStm Ri okI okI (a, false)).1.2.2 (rStm Ri okI okI (a, false)).2.2) := by
  have i0 : inI (a, false) := hz
  have i1 := Ri_num_in 1 _ i0
  have i2 := Ri_text_in 1 _ i1
  have i3 := Ri_num_in 1 _ i2
  unfold impl_DecodeStm.f
  have e1 : impl_stmReader_number.f a false 1 = some (Ri.num 1 (a, false)) := i_num1 (a, false) i0
  refine Ev.congr (fun k => by rw [e1, Option.bind_some]) ?_
  refine Ev.congr (fun k => i_text1 (Ri.num 1 (a, false)).2 i1 _) ?_
  have hn := i_small 1 (Ri.text 1 (Ri.num 1 (a, false)).2).2 (by omega)
  have ht := i_text_size 1 (Ri.num 1 (a, false)).2 (by omega)
  simp only [rStm]
  generalize (Ri.num 1 (a, false)).1 = kind
  generalize (Ri.text 1 (Ri.num 1 (a, false)).2).1 = table at ht ⊢
  generalize (Ri.text 1 (Ri.num 1 (a, false)).2).2 = p at i2 i3 hn ⊢
  unfold rBody
  by_cases k1 : kind = 1
  · simp only [if_pos k1]
    refine Ev.congr (fun k => by rw [i_num1 p i2, Option.bind_some]) ?_
    exact i_l0 a kind table ht (Ri.num 1 p).1.toNat [] (Ri.num 1 p).1 (Ri.num 1 p).2 (by omega) (by simp; omega) all_nil i3
  simp only [if_neg k1]
  by_cases k2 : kind = 2
  · simp only [if_pos k2]
    refine Ev.congr (fun k => by rw [i_num1 p i2, Option.bind_some]) ?_
    exact i_l1 a kind table ht (Ri.num 1 p).1.toNat [] (Ri.num 1 p).1 (Ri.num 1 p).2 (by omega) (by simp; omega) all_nil i3
  simp only [if_neg k2]
  by_cases k3 : kind = 3
  · simp only [if_pos k3]
    refine Ev.congr (fun k => i_text1 p i2 _) ?_
    have i4 := Ri_text_in 1 p i2
    have x1 := i_exp _ i4
    have x2 := i_exp _ (rExp_inI _ i4)
    have y1 := rExp_small (Ri.text 1 p).2
    have y2 := rExp_small (rExp Ri okI (Ri.text 1 p).2).2
    have y3 := i_text_size 1 p (by omega)
    generalize rExp Ri okI (rExp Ri okI (Ri.text 1 p).2).2 = R2 at x2 y2 ⊢
    generalize rExp Ri okI (Ri.text 1 p).2 = R1 at x1 x2 y1 ⊢
    generalize Ri.text 1 p = R0 at x1 y3 ⊢
    refine x1.bind ?_
    refine x2.bind ?_
    exact i_j10 a kind table ⟨[], [], R0.1, R1.1, R2.1, []⟩ R2.2 ht { small0 with col := y3, expT := y1, whT := y2 }
  simp only [if_neg k3]
  by_cases k4 : kind = 4
  · simp only [if_pos k4]
    refine (i_exp _ i2).bind ?_
    exact i_j10 a kind table ⟨_, _, _, _, _, _⟩ _ ht { small0 with whT := rExp_small _ }
  simp only [if_neg k4]
  by_cases k5 : kind = 5
  · simp only [if_pos k5]
    refine Ev.congr (fun k => by rw [i_num1 p i2, Option.bind_some]) ?_
    have := i_l2 a kind table ht (Ri.num 1 p).1.toNat [] (Ri.num 1 p).1 (Ri.num 1 p).2 (by omega) (by simp; omega) all_nil i3
    rw [List.nil_append] at this
    exact this
  simp only [if_neg k5]
  exact i_j10 a kind table ⟨_, _, _, _, _, _⟩ p ht small0
end
end Go.Proofs.YtbpfdjbnfkclcaaDoor.Pure
end
section
set_option linter.unusedVariables false
set_option linter.unusedSimpArgs false
namespace Go.Proofs.YtbpfdjbnfkclcaaDoor.Pure
open Go Go.RowKit Go.Proofs.YtbpfdjbnfkclcaaDoor Go.Proofs.YtbpfdjbnfkclcaaDoor.L Go.Proofs.YtbpfdjbnfkclcaaDoorW.PrintWords Go.Proofs.YtbpfdjbnfkclcaaDoorW.PrintMore Go.Proofs.YtbpfdjbnfkclcaaDoorW.PrintLast
theorem bytesOf_ext {a b : ByteArray} (h : bytesOf a = bytesOf b) : a = b := by
  apply ByteArray.ext
  exact Array.toList_inj.1 h
theorem bytesOf_extract (a : ByteArray) (i j : Nat) : bytesOf (a.extract i j) = ((bytesOf a).drop i).take (j - i) := by
  unfold bytesOf
  rw [ByteArray.data_extract, Array.toList_extract]
theorem bytesOf_append (a b : ByteArray) : bytesOf (a ++ b) = bytesOf a ++ bytesOf b := by
  unfold bytesOf
  rw [ByteArray.data_append, Array.toList_append]
def goodS (at_ : Int) : Prop := 0 ≤ at_
def relS (a : ByteArray) (at_ : Int) (st : IS) : Prop := 0 ≤ at_ ∧ at_ ≤ (a.size : Int) ∧ st.2 = false ∧ bytesOf st.1 = (bytesOf a).drop at_.toNat
theorem rel_size {a : ByteArray} {at_ : Int} {st : IS} (h : relS a at_ st) : (st.1.size : Int) = (a.size : Int) - at_ := by
  obtain ⟨h1, h2, _, h4⟩ := h
  have := congrArg List.length h4
  rw [List.length_drop, bytesOf_len, bytesOf_len] at this
  omega
/-- Some bytes taken off the rest. -/
theorem take_rel {a : ByteArray} {at_ : Int} {st : IS} (n : Int) (hn : 0 ≤ n) (h : relS a at_ st) (hs : at_ + n ≤ (a.size : Int)) :
    bytesOf (takeI n st).1 = ((bytesOf a).drop at_.toNat).take n.toNat ∧ relS a (at_ + n) (takeI n st).2 := by
  have hz := rel_size h
  obtain ⟨h1, h2, h3, h4⟩ := h
  unfold takeI
  rw [if_neg (by omega)]
  have e2 : (at_ + n).toNat = at_.toNat + n.toNat := by omega
  refine ⟨?_, by omega, hs, h3, ?_⟩
  · rw [bytesOf_extract, h4, List.drop_zero, Nat.sub_zero]
  · rw [bytesOf_extract, h4, e2, List.drop_drop, List.take_of_length_le]
    rw [List.length_drop, bytesOf_len]
    omega
theorem num_good {a : ByteArray} {w : Nat} {at_ : Int} (h : goodS ((Rs a).num w at_).2) : 0 ≤ at_ ∧ at_ + (w : Int) ≤ (a.size : Int) ∧ (Rs a).num w at_ = (valS (((bytesOf a).drop at_.toNat).take w) 0, at_ + (w : Int)) := by
  unfold goodS Rs at h
  unfold Rs
  simp only at h ⊢
  by_cases c1 : at_ < 0
  · rw [if_pos c1] at h; simp at h
  rw [if_neg c1] at h ⊢
  by_cases c2 : at_ + (w : Int) > (a.size : Int)
  · rw [if_pos c2] at h; simp at h
  rw [if_neg c2]
  exact ⟨by omega, by omega, rfl⟩
theorem text_good {a : ByteArray} {w : Nat} {at_ : Int} (h : goodS ((Rs a).text w at_).2) : 0 ≤ at_ ∧ at_ + (w : Int) ≤ (a.size : Int) ∧ at_ + (w : Int) + valS (((bytesOf a).drop at_.toNat).take w) 0 ≤ (a.size : Int) ∧
    (Rs a).text w at_ = (a.extract (at_ + (w : Int)).toNat (at_ + (w : Int) + valS (((bytesOf a).drop at_.toNat).take w) 0).toNat, at_ + (w : Int) + valS (((bytesOf a).drop at_.toNat).take w) 0) := by
  unfold goodS Rs at h
  unfold Rs
  simp only at h ⊢
  by_cases c1 : at_ < 0
  · rw [if_pos c1] at h; simp at h
  rw [if_neg c1] at h ⊢
  by_cases c2 : at_ + (w : Int) > (a.size : Int)
  · rw [if_pos c2] at h; simp at h
  rw [if_neg c2] at h ⊢
  by_cases c3 : at_ + (w : Int) + valS (((bytesOf a).drop at_.toNat).take w) 0 > (a.size : Int)
  · rw [if_pos c3] at h; simp at h
  rw [if_neg c3]
  exact ⟨by omega, by omega, by omega, rfl⟩
theorem sim (a : ByteArray) : Sim (Rs a) Ri goodS (relS a) where
  num_back w st h := (num_good h).1
  text_back w st h := (text_good h).1
  num w st qt hw hr h := by
    obtain ⟨h1, h2, h3⟩ := num_good h
    obtain ⟨e1, e2⟩ := take_rel (w : Int) (by omega) hr h2
    rw [h3]
    refine ⟨?_, e2⟩
    show valS (bytesOf (takeI (w : Int) qt).1) 0 = _
    rw [e1]
    rfl
  text w st qt hw hr h := by
    obtain ⟨h1, h2, h3, h4⟩ := text_good h
    obtain ⟨e1, e2⟩ := take_rel (w : Int) (by omega) hr h2
    have hv := valS_range (((bytesOf a).drop st.toNat).take w) (by rw [List.length_take]; omega)
    rw [h4]
    have ev : valS (bytesOf (takeI (w : Int) qt).1) 0 = valS (((bytesOf a).drop st.toNat).take w) 0 := by rw [e1]; rfl
    show (takeI (valS (bytesOf (takeI (w : Int) qt).1) 0) (takeI (w : Int) qt).2).1 = _ ∧ relS a _ (takeI (valS (bytesOf (takeI (w : Int) qt).1) 0) (takeI (w : Int) qt).2).2
    rw [ev]
    obtain ⟨e3, e4⟩ := take_rel _ hv.1 e2 h3
    refine ⟨?_, e4⟩
    apply bytesOf_ext
    rw [e3, bytesOf_extract]
    congr 1
    omega
theorem bytes_nums (l : List Int) : bytesOf (strOfNums l) = l.map fun x => UInt8.ofNat x.toNat := by
  unfold bytesOf strOfNums
  simp
def nB (n : Nat) (v : Int) : List UInt8 := bytesOf (encN n v)
theorem nB_len (n : Nat) (v : Int) : (nB n v).length = n := by unfold nB; rw [bytesOf_len, encN_size]
theorem nB_one (v : Int) (h : 0 ≤ v ∧ v < 256) : valS (nB 1 v) 0 = v := by
  unfold nB encN
  rw [bytes_nums]
  simp only [numB, List.map_cons, List.map_nil, valS_one]
  rw [Int.pow_zero, Int.ediv_one, UInt8.toNat_ofNat']
  omega
theorem nB_two (v : Int) (h : 0 ≤ v ∧ v < 65536) : valS (nB 2 v) 0 = v := by
  unfold nB encN
  rw [bytes_nums]
  simp only [numB, List.map_cons, List.map_nil, valS_two]
  rw [Int.pow_zero, Int.ediv_one, UInt8.toNat_ofNat', UInt8.toNat_ofNat', show ((256 : Int) ^ (0 + 1)) = 256 from by decide]
  omega
section
variable {a : ByteArray}
/-- What stands from a place on. -/
def From (a : ByteArray) (p : Nat) (l : List UInt8) : Prop := p ≤ a.size ∧ (bytesOf a).drop p = l
theorem From.len {p : Nat} {l : List UInt8} (h : From a p l) : l.length = a.size - p := by
  rw [← h.2, List.length_drop, bytesOf_len]
theorem From.next {p : Nat} {b r : List UInt8} (h : From a p (b ++ r)) : From a (p + b.length) r := by
  have := h.len
  rw [List.length_append] at this
  obtain ⟨h1, h2⟩ := h
  refine ⟨by omega, ?_⟩
  rw [← List.drop_drop, h2, List.drop_left]
theorem num_at {p w : Nat} {b r : List UInt8} (h : From a p (b ++ r)) (hb : b.length = w) : (Rs a).num w (p : Int) = (valS b 0, ((p + w : Nat) : Int)) := by
  have hl := h.len
  rw [List.length_append] at hl
  have h1 := h.1
  unfold Rs
  simp only
  rw [if_neg (by omega), if_neg (by omega), Int.toNat_natCast, h.2, ← hb, List.take_left]
  rfl
theorem text_at {p w : Nat} {b s r : List UInt8} (h : From a p (b ++ (s ++ r))) (hb : b.length = w) (hv : valS b 0 = (s.length : Int)) : ((Rs a).text w (p : Int)).2 = ((p + (w + s.length) : Nat) : Int) := by
  have hl := h.len
  rw [List.length_append, List.length_append] at hl
  have h1 := h.1
  have e : valS (((bytesOf a).drop (p : Int).toNat).take w) 0 = (s.length : Int) := by rw [Int.toNat_natCast, h.2, ← hb, List.take_left, hv]
  unfold Rs
  simp only
  rw [e, if_neg (by omega), if_neg (by omega), if_neg (by omega)]
  simp only
  omega
def itB (y : Itm) : List UInt8 := if y.f0 = 1 then nB 1 y.f0 ++ nB 8 y.f1 else if y.f0 = 2 then nB 1 y.f0 ++ (nB 2 (y.f2.size : Int) ++ bytesOf y.f2) else if y.f0 = 3 then nB 1 y.f0 ++ (nB 1 (y.f2.size : Int) ++ bytesOf y.f2) else nB 1 y.f0
def coB (y : Col) : List UInt8 := (nB 1 (y.f0.size : Int) ++ bytesOf y.f0) ++ nB 1 y.f1
def vaB (y : Val) : List UInt8 := if y.f0 = 1 then nB 1 y.f0 ++ nB 8 y.f1 else nB 1 y.f0 ++ (nB 2 (y.f2.size : Int) ++ bytesOf y.f2)
def exB (l : List Itm) : List UInt8 := nB 2 (l.length : Int) ++ l.flatMap itB
theorem fold_bytes {α : Type} (st : ByteArray → α → ByteArray) (en : α → List UInt8) (h : ∀ s y, bytesOf (st s y) = bytesOf s ++ en y) (l : List α) : ∀ s : ByteArray, bytesOf (l.foldl st s) = bytesOf s ++ l.flatMap en := by
  induction l with
  | nil => intro s; simp
  | cons y l ih => intro s; rw [List.foldl_cons, ih, h, List.flatMap_cons, List.append_assoc]
theorem stepI_bytes (s : ByteArray) (y : Itm) : bytesOf (stepI s y) = bytesOf s ++ itB y := by
  unfold stepI itB enc16 enc8 nB
  split
  · rw [bytesOf_append, bytesOf_append, List.append_assoc]
  · split
    · rw [bytesOf_append, bytesOf_append, bytesOf_append, List.append_assoc]
    · split
      · rw [bytesOf_append, bytesOf_append, bytesOf_append, List.append_assoc]
      · rw [bytesOf_append]
theorem stepC_bytes (s : ByteArray) (y : Col) : bytesOf (stepC s y) = bytesOf s ++ coB y := by
  unfold stepC coB enc8 nB
  rw [bytesOf_append, bytesOf_append, bytesOf_append]
theorem stepV_bytes (s : ByteArray) (y : Val) : bytesOf (stepV s y) = bytesOf s ++ vaB y := by
  unfold stepV vaB enc16 nB
  split
  · rw [bytesOf_append, bytesOf_append, List.append_assoc]
  · rw [bytesOf_append, bytesOf_append, bytesOf_append, List.append_assoc]
theorem expEnc_bytes (l : List Itm) : bytesOf (expEnc l) = exB l := by
  unfold expEnc exB
  rw [fold_bytes stepI itB stepI_bytes]
  rfl
/-- What is asked of an item. -/
def ItG (y : Itm) : Prop := 0 ≤ y.f0 ∧ y.f0 < 256 ∧ y.f2.size ≤ 200
theorem item_at {p : Nat} {y : Itm} {r : List UInt8} (h : From a p (itB y ++ r)) (hy : ItG y) : (rItem (Rs a) (p : Int)).2 = ((p + (itB y).length : Nat) : Int) := by
  obtain ⟨h0, h1, h2⟩ := hy
  have one : ∀ {t : List UInt8}, From a p (nB 1 y.f0 ++ t) → (Rs a).num 1 (p : Int) = (y.f0, ((p + 1 : Nat) : Int)) := fun h => by rw [num_at h (nB_len _ _), nB_one _ ⟨h0, h1⟩]
  have nxt : ∀ {t : List UInt8}, From a p (nB 1 y.f0 ++ t) → From a (p + 1) t := fun h => by have := h.next; rw [nB_len] at this; exact this
  unfold itB at h ⊢
  unfold rItem
  by_cases c1 : y.f0 = 1
  · rw [if_pos c1] at h ⊢
    rw [List.append_assoc] at h
    rw [one h, if_pos c1, num_at (nxt h) (nB_len _ _), List.length_append, nB_len, nB_len]
  rw [if_neg c1] at h ⊢
  by_cases c2 : y.f0 = 2
  · rw [if_pos c2] at h ⊢
    rw [List.append_assoc, List.append_assoc] at h
    rw [one h, if_neg c1, if_pos c2]
    simp only
    rw [text_at (nxt h) (nB_len _ _) (by rw [nB_two _ (by omega), bytesOf_len]), List.length_append, List.length_append, nB_len, nB_len, Nat.add_assoc]
  rw [if_neg c2] at h ⊢
  by_cases c3 : y.f0 = 3
  · rw [if_pos c3] at h ⊢
    rw [List.append_assoc, List.append_assoc] at h
    rw [one h, if_neg c1, if_neg c2, if_pos c3]
    simp only
    rw [text_at (nxt h) (nB_len _ _) (by rw [nB_one _ (by omega), bytesOf_len]), List.length_append, List.length_append, nB_len, nB_len, Nat.add_assoc]
  rw [if_neg c3] at h ⊢
  rw [one h, if_neg c1, if_neg c2, if_neg c3, nB_len]
theorem col_at {p : Nat} {y : Col} {r : List UInt8} (h : From a p (coB y ++ r)) (hy : y.f0.size ≤ 200) : (rCol (Rs a) (p : Int)).2 = ((p + (coB y).length : Nat) : Int) := by
  unfold coB at h ⊢
  rw [List.append_assoc, List.append_assoc] at h
  have h2 := h.next.next
  rw [nB_len, bytesOf_len, Nat.add_assoc] at h2
  unfold rCol
  rw [text_at h (nB_len _ _) (by rw [nB_one _ (by omega), bytesOf_len]), bytesOf_len, num_at h2 (nB_len _ _)]
  rw [List.length_append, List.length_append, nB_len, nB_len, bytesOf_len]
  simp only
  omega
theorem val_at {p : Nat} {y : Val} {r : List UInt8} (h : From a p (vaB y ++ r)) (h0 : 0 ≤ y.f0 ∧ y.f0 < 256) (h2 : y.f2.size ≤ 200) : (rVal (Rs a) (p : Int)).2 = ((p + (vaB y).length : Nat) : Int) := by
  have one : ∀ {t : List UInt8}, From a p (nB 1 y.f0 ++ t) → (Rs a).num 1 (p : Int) = (y.f0, ((p + 1 : Nat) : Int)) := fun h => by rw [num_at h (nB_len _ _), nB_one _ h0]
  have nxt : ∀ {t : List UInt8}, From a p (nB 1 y.f0 ++ t) → From a (p + 1) t := fun h => by have := h.next; rw [nB_len] at this; exact this
  unfold vaB at h ⊢
  unfold rVal
  by_cases c1 : y.f0 = 1
  · rw [if_pos c1] at h ⊢
    rw [List.append_assoc] at h
    rw [one h, if_pos c1, num_at (nxt h) (nB_len _ _), List.length_append, nB_len, nB_len]
  rw [if_neg c1] at h ⊢
  rw [List.append_assoc, List.append_assoc] at h
  rw [one h, if_neg c1]
  simp only
  rw [text_at (nxt h) (nB_len _ _) (by rw [nB_two _ (by omega), bytesOf_len]), List.length_append, List.length_append, nB_len, nB_len, Nat.add_assoc]
theorem list_at {α : Type} (f : Int → α × Int) (ok : Int → Bool) (en : α → List UInt8) (G : α → Prop) (hok : ∀ p : Nat, ok (p : Int) = true)
    (hf : ∀ (y : α) (p : Nat) (r : List UInt8), G y → From a p (en y ++ r) → (f (p : Int)).2 = ((p + (en y).length : Nat) : Int)) (l : List α) :
    ∀ (p : Nat) (r : List UInt8), From a p (l.flatMap en ++ r) → (∀ y ∈ l, G y) → (rList f ok l.length (p : Int)).2 = ((p + (l.flatMap en).length : Nat) : Int) := by
  induction l with
  | nil => intro p r h hg; rfl
  | cons y l ih =>
    intro p r h hg
    rw [List.flatMap_cons, List.append_assoc] at h
    rw [List.length_cons, rList, if_pos (hok p), hf y p _ (hg y (List.mem_cons_self ..)) h]
    simp only
    rw [ih _ r h.next (fun z hz => hg z (List.mem_cons_of_mem _ hz)), List.flatMap_cons, List.length_append, Nat.add_assoc]
theorem okE_at (p : Nat) : okE (p : Int) = true := by unfold okE; simp
theorem exp_at {p : Nat} {l : List Itm} {r : List UInt8} (h : From a p (exB l ++ r)) (hl : l.length ≤ 100) (hg : ∀ y ∈ l, ItG y) : (rExp (Rs a) okE (p : Int)).2 = ((p + (exB l).length : Nat) : Int) := by
  unfold exB at h ⊢
  rw [List.append_assoc] at h
  have h2 := h.next
  rw [nB_len] at h2
  unfold rExp
  rw [num_at h (nB_len _ _), nB_two _ (by omega)]
  simp only [Int.toNat_natCast]
  rw [list_at (rItem (Rs a)) okE itB ItG okE_at (fun y p r hy hF => item_at hF hy) l (p + 2) r h2 hg, List.length_append, nB_len, Nat.add_assoc]
end
end Go.Proofs.YtbpfdjbnfkclcaaDoor.Pure
end
section
set_option linter.unusedVariables false
set_option linter.unusedSimpArgs false
namespace Go.Proofs.YtbpfdjbnfkclcaaDoor.Pure
open Go Go.RowKit Go.Proofs.YtbpfdjbnfkclcaaDoor Go.Proofs.YtbpfdjbnfkclcaaDoor.L Go.Proofs.YtbpfdjbnfkclcaaDoorW.PrintWords Go.Proofs.YtbpfdjbnfkclcaaDoorW.PrintMore Go.Proofs.YtbpfdjbnfkclcaaDoorW.PrintLast
theorem run_G : ∀ (l : List Itm) (d : Int), expRun l d = true → ∀ z ∈ l, ItG z := by
  intro l
  induction l with
  | nil => intro d _ z hz; cases hz
  | cons t r ih =>
    intro d hd z hz
    rw [expRun, Bool.and_eq_true] at hd
    rcases List.mem_cons.1 hz with rfl | hz
    · have := itmOk_op hd.1
      exact ⟨by omega, by omega, itm_small hd.1⟩
    · by_cases c : d < arity t.f0
      · rw [if_pos c] at hd; cases hd.2
      · rw [if_neg c] at hd; exact ih _ hd.2 z hz
theorem exp_G {l : List Itm} (h : expOk l = true) : l.length ≤ 100 ∧ ∀ z ∈ l, ItG z := by
  unfold expOk at h
  rw [Bool.and_eq_true, decide_eq_true_eq] at h
  exact ⟨h.1.2, run_G l 0 h.2⟩
theorem wh_G {l : List Itm} (h : whOk l = true) : l.length ≤ 100 ∧ ∀ z ∈ l, ItG z := by
  unfold whOk at h
  rw [Bool.or_eq_true, decide_eq_true_eq] at h
  rcases h with h | h
  · have : l = [] := List.eq_nil_of_length_eq_zero h
    subst this
    exact ⟨by simp, fun z hz => by cases hz⟩
  · exact exp_G h
theorem val_kind {y : Val} (h : valOk y.f0 y.f1 y.f2 = true) : 0 ≤ y.f0 ∧ y.f0 < 256 := by
  unfold valOk at h
  by_cases c1 : y.f0 = 1
  · omega
  · rw [if_neg c1] at h
    by_cases c2 : y.f0 = 2
    · omega
    · rw [if_neg c2] at h; cases h
theorem empty_list : (⟨#[]⟩ : ByteArray).toList = ([] : List UInt8) := by rw [ByteArray.toList_eq]
section
variable {a : ByteArray}
theorem cap_eq {X : ByteArray} (h : capB X = a) (hne : ¬ a.toList = ([] : List UInt8)) : X = a := by
  unfold capB at h
  split at h
  · exact absurd (by rw [← h]; exact empty_list) hne
  · exact h
theorem cap_le {X : ByteArray} (h : capB X = a) (hne : ¬ a.toList = ([] : List UInt8)) : (a.size : Int) ≤ 60000 := by
  have e := cap_eq h hne
  subst e
  unfold capB at h
  split at h
  · exact absurd (by rw [← h]; exact empty_list) hne
  · omega
theorem from0 : From a 0 (bytesOf a) := ⟨Nat.zero_le _, List.drop_zero⟩
theorem good_nat (n : Nat) : goodS (n : Int) := by unfold goodS; omega
/-- The kind and the table, then the rest. -/
theorem head_at {kind : Int} {table : ByteArray} {r : List UInt8} (h : From a 0 ((nB 1 kind ++ (nB 1 (table.size : Int) ++ bytesOf table)) ++ r)) (hk : 0 ≤ kind ∧ kind < 256) (ht : table.size ≤ 200) :
    ∃ p : Nat, From a p r ∧ (rStm (Rs a) okE okL 0).2 = (rBody (Rs a) okE okL kind (p : Int)).2 := by
  rw [List.append_assoc, List.append_assoc] at h
  have h1 := h.next
  have h2 := h1.next.next
  rw [nB_len] at h1
  have e1 : (Rs a).num 1 0 = (kind, ((0 + 1 : Nat) : Int)) := by
    have := num_at h (nB_len _ _)
    rw [nB_one _ hk] at this
    exact this
  have e2 := text_at h1 (nB_len _ _) (by rw [nB_one _ (by omega), bytesOf_len])
  refine ⟨_, h2, ?_⟩
  unfold rStm
  rw [e1]
  simp only
  rw [e2, nB_len, nB_len, bytesOf_len, show 0 + 1 + (1 + table.size) = 0 + 1 + 1 + table.size by omega]
theorem pre_bytes (kind : Int) (table : ByteArray) : bytesOf (encN 1 kind ++ enc8 table) = nB 1 kind ++ (nB 1 (table.size : Int) ++ bytesOf table) := by
  unfold enc8 nB
  rw [bytesOf_append, bytesOf_append]
theorem stm_at {kind : Int} {table : ByteArray} {cols : List Col} {vals : List Val} {col : ByteArray} {exp wh : List Itm} {outs : List (List Itm)} (h : stmOk kind table cols vals col exp wh outs = true)
    (he : encStm kind table cols vals col exp wh outs = a) (hne : ¬ a.toList = ([] : List UInt8)) : goodS (rStm (Rs a) okE okL 0).2 ∧ (a.size : Int) ≤ 60000 := by
  obtain ⟨ht, s1, s2, s3, s4, s5⟩ := stmOk_small h
  unfold encStm at he
  rw [if_pos h] at he
  unfold stmOk at h
  rw [Bool.and_eq_true] at h
  have h := h.2
  by_cases k1 : kind = 1
  · subst k1
    simp only [if_true] at h he
    refine ⟨?_, cap_le he hne⟩
    have e := congrArg bytesOf (cap_eq he hne)
    rw [fold_bytes stepC coB stepC_bytes, bytesOf_append, pre_bytes, List.append_assoc] at e
    obtain ⟨p, h2, e2⟩ := head_at (a := a) (kind := 1) (table := table) (r := nB 1 (cols.length : Int) ++ (cols.flatMap coB ++ [])) (by have := @from0 a; rw [← e] at this; simpa only [nB, List.append_nil, List.append_assoc] using this) (by omega) (by omega)
    have h3 := h2.next
    rw [nB_len] at h3
    rw [e2]
    unfold rBody
    rw [if_pos rfl, num_at h2 (nB_len _ _), nB_one _ (by have := (s1 rfl).1; omega)]
    simp only [Int.toNat_natCast]
    rw [list_at (rCol (Rs a)) okL coB (fun y => y.f0.size ≤ 200) (fun _ => rfl) (fun y p r hy hF => col_at hF hy) cols (p + 1) [] h3 (s1 rfl).2]
    exact good_nat _
  rw [if_neg k1] at h he
  by_cases k2 : kind = 2
  · subst k2
    simp only [if_true] at h he
    refine ⟨?_, cap_le he hne⟩
    have hv : ∀ y ∈ vals, (0 ≤ y.f0 ∧ y.f0 < 256) ∧ y.f2.size ≤ 200 := fun y hy => by
      simp only [Bool.and_eq_true, List.all_eq_true] at h
      exact ⟨val_kind (h.2.2.2.2.2.2 y hy), (s2 rfl).2 y hy⟩
    have e := congrArg bytesOf (cap_eq he hne)
    rw [fold_bytes stepV vaB stepV_bytes, bytesOf_append, pre_bytes, List.append_assoc] at e
    obtain ⟨p, h2, e2⟩ := head_at (a := a) (kind := 2) (table := table) (r := nB 1 (vals.length : Int) ++ (vals.flatMap vaB ++ [])) (by have := @from0 a; rw [← e] at this; simpa only [nB, List.append_nil, List.append_assoc] using this) (by omega) (by omega)
    have h3 := h2.next
    rw [nB_len] at h3
    rw [e2]
    unfold rBody
    rw [if_neg (by decide), if_pos rfl, num_at h2 (nB_len _ _), nB_one _ (by have := (s2 rfl).1; omega)]
    simp only [Int.toNat_natCast]
    rw [list_at (rVal (Rs a)) okL vaB (fun y => (0 ≤ y.f0 ∧ y.f0 < 256) ∧ y.f2.size ≤ 200) (fun _ => rfl) (fun y p r hy hF => val_at hF hy.1 hy.2) vals (p + 1) [] h3 hv]
    exact good_nat _
  rw [if_neg k2] at h he
  by_cases k3 : kind = 3
  · subst k3
    simp only [if_true] at h he
    refine ⟨?_, cap_le he hne⟩
    simp only [Bool.and_eq_true] at h
    have g1 := exp_G h.2.2.2.2.1
    have g2 := wh_G h.2.2.2.2.2
    have e := congrArg bytesOf (cap_eq he hne)
    unfold enc8 at e
    rw [bytesOf_append, bytesOf_append (_ ++ expEnc exp), bytesOf_append _ (expEnc exp), expEnc_bytes, expEnc_bytes, bytesOf_append (encN 1 (col.size : Int))] at e
    have pb := pre_bytes 3 table
    unfold enc8 at pb
    rw [pb] at e
    obtain ⟨p, h2, e2⟩ := head_at (a := a) (kind := 3) (table := table) (r := nB 1 (col.size : Int) ++ (bytesOf col ++ (exB exp ++ (exB wh ++ [])))) (by have := @from0 a; rw [← e] at this; simpa only [nB, List.append_nil, List.append_assoc] using this) (by omega) (by omega)
    have h3 := h2.next.next
    have h4 := h3.next
    rw [nB_len, bytesOf_len] at h3 h4
    rw [e2]
    unfold rBody
    rw [if_neg (by decide), if_neg (by decide), if_pos rfl, text_at h2 (nB_len _ _) (by rw [nB_one _ (by have := (s3 rfl).1; omega), bytesOf_len])]
    simp only [bytesOf_len]
    rw [← Nat.add_assoc, exp_at h3 g1.1 g1.2, exp_at h4 g2.1 g2.2]
    exact good_nat _
  rw [if_neg k3] at h he
  by_cases k4 : kind = 4
  · subst k4
    simp only [if_true] at h he
    refine ⟨?_, cap_le he hne⟩
    simp only [Bool.and_eq_true] at h
    have g2 := wh_G h.2.2.2.2.2
    have e := congrArg bytesOf (cap_eq he hne)
    rw [bytesOf_append, pre_bytes, expEnc_bytes] at e
    obtain ⟨p, h2, e2⟩ := head_at (a := a) (kind := 4) (table := table) (r := exB wh ++ []) (by have := @from0 a; rw [← e] at this; simpa only [nB, List.append_nil, List.append_assoc] using this) (by omega) (by omega)
    rw [e2]
    unfold rBody
    rw [if_neg (by decide), if_neg (by decide), if_neg (by decide), if_pos rfl]
    simp only
    rw [exp_at h2 g2.1 g2.2]
    exact good_nat _
  rw [if_neg k4] at h he
  by_cases k5 : kind = 5
  · subst k5
    simp only [if_true] at h he
    refine ⟨?_, cap_le he hne⟩
    simp only [Bool.and_eq_true, List.all_eq_true] at h
    have g1 : ∀ y ∈ outs, y.length ≤ 100 ∧ ∀ z ∈ y, ItG z := fun y hy => exp_G (h.2.2.2.2.2.1 y hy)
    have g2 := wh_G h.2.2.2.2.2.2
    have e := congrArg bytesOf (cap_eq he hne)
    rw [bytesOf_append, fold_bytes (fun s e => s ++ expEnc e) exB (fun s y => by rw [bytesOf_append, expEnc_bytes]), bytesOf_append, pre_bytes, expEnc_bytes] at e
    obtain ⟨p, h2, e2⟩ := head_at (a := a) (kind := 5) (table := table) (r := nB 1 (outs.length : Int) ++ (outs.flatMap exB ++ (exB wh ++ []))) (by have := @from0 a; rw [← e] at this; simpa only [nB, List.append_nil, List.append_assoc] using this) (by omega) (by omega)
    have h3 := h2.next
    have h4 := h3.next
    rw [nB_len] at h3 h4
    rw [e2]
    unfold rBody
    rw [if_neg (by decide), if_neg (by decide), if_neg (by decide), if_neg (by decide), if_pos rfl, num_at h2 (nB_len _ _), nB_one _ (by have := (s5 rfl).1; omega)]
    simp only [Int.toNat_natCast]
    rw [list_at (rExp (Rs a) okE) okL exB (fun y => y.length ≤ 100 ∧ ∀ z ∈ y, ItG z) (fun _ => rfl) (fun y p r hy hF => exp_at hF hy.1 hy.2) outs (p + 1) _ h3 g1, exp_at h4 g2.1 g2.2]
    exact good_nat _
  rw [if_neg k5] at h
  cases h
theorem accS_or (kind : Int) (table : ByteArray) (p : PStm) : accS a kind table p = zeroR ∨ (goodS (rStm (Rs a) okE okL 0).2 ∧ (a.size : Int) ≤ 60000) := by
  unfold accS
  by_cases c : a.toList = ([] : List UInt8)
  · exact .inl (by rw [if_pos c])
  rw [if_neg c]
  by_cases c2 : ((encP kind table p).toList != a.toList) = true
  · exact .inl (by rw [if_pos c2])
  refine .inr ?_
  have e : (encP kind table p).toList = a.toList := by
    cases h : decide ((encP kind table p).toList = a.toList) with
    | true => exact of_decide_eq_true h
    | false => exact absurd (bne_iff_ne.2 (of_decide_eq_false h)) c2
  have e2 : encP kind table p = a := by
    rw [ByteArray.toList_eq, ByteArray.toList_eq] at e
    exact bytesOf_ext e
  unfold encP at e2
  cases hs : stmOk kind table p.cols p.vals p.col p.exp p.wh p.outs with
  | true => exact stm_at hs e2 c
  | false =>
    unfold encStm at e2
    rw [hs, if_neg (by decide)] at e2
    exact absurd (by rw [← e2]; exact empty_list) c
end
theorem dec_same (a : ByteArray) : accI a (rStm Ri okI okI (a, false)).1.1 (rStm Ri okI okI (a, false)).1.2.1 (rStm Ri okI okI (a, false)).1.2.2 (rStm Ri okI okI (a, false)).2.2 =
    if (a.size : Int) > 60000 then zeroR else accS a (rStm (Rs a) okE okL 0).1.1 (rStm (Rs a) okE okL 0).1.2.1 (rStm (Rs a) okE okL 0).1.2.2 := by
  by_cases hg : goodS (rStm (Rs a) okE okL 0).2 ∧ (a.size : Int) ≤ 60000
  · obtain ⟨hg, hz⟩ := hg
    rw [if_neg (by omega)]
    obtain ⟨e, r⟩ := rStm_sim (sim a) (okE := okE) (okL := okL) (okE' := okI) (okL' := okI) (fun st h => by unfold okE; exact decide_eq_true h) (fun st qt h => by unfold okI; rw [h.2.2.1]; rfl) (fun st h => rfl) (fun st qt h => by unfold okI; rw [h.2.2.1]; rfl) 0 (a, false) ⟨by omega, by omega, rfl, by simp⟩ hg
    unfold accI
    rw [e, r.2.2.1, if_neg (by decide)]
  · have l : accI a (rStm Ri okI okI (a, false)).1.1 (rStm Ri okI okI (a, false)).1.2.1 (rStm Ri okI okI (a, false)).1.2.2 (rStm Ri okI okI (a, false)).2.2 = zeroR := by
      unfold accI
      split
      · rfl
      · exact (accS_or _ _ _).resolve_right hg
    rw [l]
    split
    · rfl
    · exact ((accS_or _ _ _).resolve_right hg).symm
end Go.Proofs.YtbpfdjbnfkclcaaDoor.Pure
end
section
set_option linter.unusedVariables false
set_option linter.unusedSimpArgs false
namespace Go.Proofs.YtbpfdjbnfkclcaaDoor.Pure
open Go Go.RowKit Go.Proofs.YtbpfdjbnfkclcaaDoor Go.Proofs.YtbpfdjbnfkclcaaDoor.L Go.Proofs.YtbpfdjbnfkclcaaDoorW.PrintWords Go.Proofs.YtbpfdjbnfkclcaaDoorW.PrintMore Go.Proofs.YtbpfdjbnfkclcaaDoorW.PrintLast
theorem nums_size (l : List Int) : (strOfNums l).size = l.length := by simp [strOfNums, ByteArray.size]
theorem markText_l0 (d : Nat) : ∀ (n : Nat) (acc : ByteArray), n < 10 ^ d → d ≤ 18 → acc.size + d ≤ 100 → ∃ r, Ev (fun k => laws_markText.l0 k (n : Int) acc) r := by
  induction d with
  | zero =>
    intro n acc hn _ ha
    have : n = 0 := by omega
    subst this
    refine ⟨(⟨#[109]⟩ : ByteArray) ++ acc, Ev.step (f := fun _ => some ((⟨#[109]⟩ : ByteArray) ++ acc)) (fun k => ?_) (Ev.now _)⟩
    rw [laws_markText.l0, if_neg (by omega), if_pos (by omega)]
  | succ d ih =>
    intro n acc hn hd ha
    by_cases hz : n = 0
    · subst hz
      refine ⟨(⟨#[109]⟩ : ByteArray) ++ acc, Ev.step (f := fun _ => some ((⟨#[109]⟩ : ByteArray) ++ acc)) (fun k => ?_) (Ev.now _)⟩
      rw [laws_markText.l0, if_neg (by omega), if_pos (by omega)]
    · have hlt : n < 9223372036854775808 := by
        have : (10 : Nat) ^ (d + 1) ≤ 10 ^ 18 := Nat.pow_le_pow_right (by decide) (by omega)
        omega
      have e2 : Int.tdiv (n : Int) 10 = ((n / 10 : Nat) : Int) := (Int.ofNat_tdiv n 10).symm
      have e4 : wrap64 ((n / 10 : Nat) : Int) = ((n / 10 : Nat) : Int) := by unfold wrap64; omega
      obtain ⟨s, hs⟩ : ∃ s, strOfNums [(wrap64 (48 + (Int.tmod (n : Int) 10))) % 256] = s := ⟨_, rfl⟩
      have hsz : s.size = 1 := by rw [← hs, nums_size]; rfl
      obtain ⟨r, hr⟩ := ih (n / 10) (s ++ acc) (by rw [Nat.pow_succ] at hn; omega) (by omega) (by rw [ByteArray.size_append]; omega)
      refine ⟨r, Ev.step (f := fun k => laws_markText.l0 k ((n / 10 : Nat) : Int) (s ++ acc)) (fun k => ?_) hr⟩
      rw [laws_markText.l0, if_pos (by omega), e2, e4]
      simp only [Option.bind_some, hs]
      rw [if_pos (by omega)]
theorem markText_ex (n : Nat) (hn : n < 1000000000000000000) : ∃ r, Ev (fun k => laws_markText.f k (n : Int)) r := by
  unfold laws_markText.f
  by_cases h : (n : Int) ≤ 0
  · simp only [if_pos h]; exact ⟨_, Ev.now _⟩
  · simp only [if_neg h]
    exact markText_l0 18 n _ hn (by omega) (by show (0 : Nat) + 18 ≤ 100; omega)
/-- What the marks are: one function of the number. -/
theorem marks : ∃ mk : Nat → ByteArray, ∀ n : Nat, n < 1000000000000000000 → Ev (fun k => laws_markText.f k (n : Int)) (mk n) :=
  ⟨fun n => if h : n < 1000000000000000000 then (markText_ex n h).choose else ByteArray.empty, fun n hn => by
    have := (markText_ex n hn).choose_spec
    simpa only [dif_pos hn] using this⟩
end Go.Proofs.YtbpfdjbnfkclcaaDoor.Pure
end
section
set_option linter.unusedVariables false
set_option linter.unusedSimpArgs false
namespace Go.Proofs.YtbpfdjbnfkclcaaDoor.Pure
open Go Go.RowKit Go.Proofs.YtbpfdjbnfkclcaaDoor Go.Proofs.YtbpfdjbnfkclcaaDoor.L Go.Proofs.YtbpfdjbnfkclcaaDoorW.PrintWords Go.Proofs.YtbpfdjbnfkclcaaDoorW.PrintMore Go.Proofs.YtbpfdjbnfkclcaaDoorW.PrintLast
/-- So many marked things from a on, c marks each. -/
def markG {α : Type} (M : Nat → α) (c a n : Nat) : List α := (List.range n).map fun j => M (a + c * j)
theorem markG_length {α : Type} (M : Nat → α) (c a n : Nat) : (markG M c a n).length = n := by simp [markG]
theorem markG_at {α : Type} (M : Nat → α) (c a n i : Nat) (h : i < n) : (markG M c a n)[i]? = some (M (a + c * i)) := by simp [markG, h]
theorem markG_get {α : Type} (M : Nat → α) (c a n i : Nat) (h : i < (markG M c a n).length) : (markG M c a n)[i] = M (a + c * i) := by
  have := markG_at M c a n i (by rw [markG_length] at h; exact h)
  rw [List.getElem?_eq_getElem h] at this
  exact Option.some.inj this
theorem gen_mark {α : Type} (M : Nat → α) (c : Nat) (hc : c ≤ 3) (F : Nat → List α → Int → Int → Option (Int × List α))
    (hs : ∀ (x : List α) (a i : Nat) (hi : i < x.length) (hx : x.length < 100000000) (r : Int × List α), a < 1000000000000 → Ev (fun k => F k (x.set i (M a)) ((a + c : Nat) : Int) ((i + 1 : Nat) : Int)) r → Ev (fun k => F k x (a : Int) (i : Int)) r)
    (hz : ∀ (x : List α) (a : Nat), Ev (fun k => F k x (a : Int) (x.length : Int)) ((a : Int), x)) (a : Nat) (d : Nat) : ∀ (x : List α) (i : Nat), i + d = x.length → x.length < 100000000 → a < 100000000000 →
    (∀ j, j < i → x[j]? = some (M (a + c * j))) → Ev (fun k => F k x ((a + c * i : Nat) : Int) (i : Int)) (((a + c * x.length : Nat) : Int), markG M c a x.length) := by
  induction d with
  | zero =>
    intro x i hi hl hb hx
    have e : x = markG M c a x.length := by
      apply List.ext_getElem?
      intro j
      by_cases hj : j < x.length
      · rw [hx j (by omega), markG_at M c a _ j hj]
      · rw [List.getElem?_eq_none (by omega), List.getElem?_eq_none (by rw [markG_length]; omega)]
    rw [← e]
    obtain rfl : i = x.length := by omega
    exact hz x _
  | succ d ih =>
    intro x i hi hl hb hx
    have hil : i < x.length := by omega
    have hci : c * i ≤ 3 * i := Nat.mul_le_mul_right i hc
    refine hs x (a + c * i) i hil hl _ (by omega) ?_
    have hl2 : (x.set i (M (a + c * i))).length = x.length := List.length_set
    have := ih (x.set i (M (a + c * i))) (i + 1) (by omega) (by omega) hb (fun j hj => by
      by_cases h : j = i
      · subst h; rw [List.getElem?_set_self hil]
      · rw [List.getElem?_set_ne (by omega)]; exact hx j (by omega))
    rw [hl2, show c * (i + 1) = c * i + c from Nat.mul_succ c i, ← Nat.add_assoc] at this
    exact this
theorem gen_held {α : Type} (M : Nat → α) (c : Nat) (hc : c ≤ 3) (F : Nat → List α → Int → Int → Option Int)
    (hs : ∀ (x : List α) (a i : Nat) (hi : i < x.length) (hx : x.length < 100000000) (r : Int), x[i] = M a → a < 1000000000000 → Ev (fun k => F k x ((a + c : Nat) : Int) ((i + 1 : Nat) : Int)) r → Ev (fun k => F k x (a : Int) (i : Int)) r)
    (hz : ∀ (x : List α) (a : Nat), Ev (fun k => F k x (a : Int) (x.length : Int)) (a : Int)) (a n : Nat) (hn : n < 100000000) (ha : a < 100000000000) (d : Nat) : ∀ (i : Nat), i + d = n →
    Ev (fun k => F k (markG M c a n) ((a + c * i : Nat) : Int) (i : Int)) ((a + c * n : Nat) : Int) := by
  have hl := markG_length M c a n
  induction d with
  | zero =>
    intro i hi
    obtain rfl : i = n := by omega
    have := hz (markG M c a i) (a + c * i)
    rw [hl] at this
    exact this
  | succ d ih =>
    intro i hi
    have hci : c * i ≤ 3 * i := Nat.mul_le_mul_right i hc
    refine hs _ (a + c * i) i (by omega) (by omega) _ (markG_get M c a n i (by omega)) (by omega) ?_
    have := ih (i + 1) (by omega)
    rw [show c * (i + 1) = c * i + c from Nat.mul_succ c i, ← Nat.add_assoc] at this
    exact this
theorem rdCol_set (x : List Col) (i : Nat) (v : Col) (h : i < x.length) : rd_T39 (x.set i v) (i : Int) = v := by
  rw [rdCol _ i (by rw [List.length_set]; exact h), List.getElem_set_self]
theorem rdVal_set (x : List Val) (i : Nat) (v : Val) (h : i < x.length) : rd_T41 (x.set i v) (i : Int) = v := by
  rw [rdVal _ i (by rw [List.length_set]; exact h), List.getElem_set_self]
theorem rdItm_set (x : List Itm) (i : Nat) (v : Itm) (h : i < x.length) : rd_T57 (x.set i v) (i : Int) = v := by
  rw [rdItm _ i (by rw [List.length_set]; exact h), List.getElem_set_self]
theorem wadd (a n : Nat) (h : a + n < 9223372036854775808) : wrap64 ((a : Int) + (n : Int)) = ((a + n : Nat) : Int) := by rw [w64 _ (by omega)]; omega
section
variable (mk : Nat → ByteArray) (hmk : ∀ n : Nat, n < 1000000000000000000 → Ev (fun k => laws_markText.f k (n : Int)) (mk n))
def mkC (a : Nat) : Col := ⟨mk a, ((a + 1 : Nat) : Int)⟩
def mkV (a : Nat) : Val := ⟨(a : Int), ((a + 1 : Nat) : Int), mk (a + 2)⟩
def mkI (a : Nat) : Itm := ⟨(a : Int), ((a + 1 : Nat) : Int), mk (a + 2)⟩
include hmk
theorem markC_ev (a : Nat) (x : List Col) (h : x.length < 100000000) (ha : a < 100000000000) : Ev (fun k => laws_markColumnS.f k x (a : Int)) (((a + 2 * x.length : Nat) : Int), markG (mkC mk) 2 a x.length) := by
  refine gen_mark (mkC mk) 2 (by omega) (fun k x a i => laws_markColumnS.l0 k x a i) (fun x a i hi hx r ha h => ?_) (fun x a => ?_) a x.length x 0 (by omega) h ha (fun j hj => by omega)
  · refine Ev.step (f := fun k => (laws_markText.f k (a : Int)).bind fun t => laws_markColumnS.l0 k (x.set i ⟨t, ((a + 1 : Nat) : Int)⟩) ((a + 2 : Nat) : Int) ((i + 1 : Nat) : Int)) (fun k => ?_) ?_
    · have w1 : wrap64 ((a : Int) + 1) = ((a + 1 : Nat) : Int) := wadd a 1 (by omega)
      have w2 : wrap64 (((a + 1 : Nat) : Int) + 1) = ((a + 2 : Nat) : Int) := wadd (a + 1) 1 (by omega)
      rw [laws_markColumnS.l0, if_pos (by omega)]
      simp only [if_pos (show (0 : Int) ≤ (i : Int) by omega), w1, w2, wsucc i (by omega), Int.toNat_natCast, Option.bind_some, rdCol_set x i _ hi, List.set_set]
    · exact (hmk a (by omega)).bind h
  · refine Ev.step (f := fun _ => some ((a : Int), x)) (fun k => ?_) (Ev.now _)
    rw [laws_markColumnS.l0, if_neg (by omega)]
theorem markV_ev (a : Nat) (x : List Val) (h : x.length < 100000000) (ha : a < 100000000000) : Ev (fun k => laws_markValueS.f k x (a : Int)) (((a + 3 * x.length : Nat) : Int), markG (mkV mk) 3 a x.length) := by
  refine gen_mark (mkV mk) 3 (by omega) (fun k x a i => laws_markValueS.l0 k x a i) (fun x a i hi hx r ha h => ?_) (fun x a => ?_) a x.length x 0 (by omega) h ha (fun j hj => by omega)
  · refine Ev.step (f := fun k => (laws_markText.f k ((a + 2 : Nat) : Int)).bind fun t => laws_markValueS.l0 k (x.set i ⟨(a : Int), ((a + 1 : Nat) : Int), t⟩) ((a + 3 : Nat) : Int) ((i + 1 : Nat) : Int)) (fun k => ?_) ?_
    · have w1 : wrap64 ((a : Int) + 1) = ((a + 1 : Nat) : Int) := wadd a 1 (by omega)
      have w2 : wrap64 (((a + 1 : Nat) : Int) + 1) = ((a + 2 : Nat) : Int) := wadd (a + 1) 1 (by omega)
      have w3 : wrap64 (((a + 2 : Nat) : Int) + 1) = ((a + 3 : Nat) : Int) := wadd (a + 2) 1 (by omega)
      rw [laws_markValueS.l0, if_pos (by omega)]
      simp only [if_pos (show (0 : Int) ≤ (i : Int) by omega), w1, w2, w3, wsucc i (by omega), Int.toNat_natCast, Option.bind_some, rdVal_set x i _ hi, List.set_set]
    · exact (hmk (a + 2) (by omega)).bind h
  · refine Ev.step (f := fun _ => some ((a : Int), x)) (fun k => ?_) (Ev.now _)
    rw [laws_markValueS.l0, if_neg (by omega)]
theorem markI_ev (a : Nat) (x : List Itm) (h : x.length < 100000000) (ha : a < 100000000000) : Ev (fun k => laws_markItemS.f k x (a : Int)) (((a + 3 * x.length : Nat) : Int), markG (mkI mk) 3 a x.length) := by
  refine gen_mark (mkI mk) 3 (by omega) (fun k x a i => laws_markItemS.l0 k x a i) (fun x a i hi hx r ha h => ?_) (fun x a => ?_) a x.length x 0 (by omega) h ha (fun j hj => by omega)
  · refine Ev.step (f := fun k => (laws_markText.f k ((a + 2 : Nat) : Int)).bind fun t => laws_markItemS.l0 k (x.set i ⟨(a : Int), ((a + 1 : Nat) : Int), t⟩) ((a + 3 : Nat) : Int) ((i + 1 : Nat) : Int)) (fun k => ?_) ?_
    · have w1 : wrap64 ((a : Int) + 1) = ((a + 1 : Nat) : Int) := wadd a 1 (by omega)
      have w2 : wrap64 (((a + 1 : Nat) : Int) + 1) = ((a + 2 : Nat) : Int) := wadd (a + 1) 1 (by omega)
      have w3 : wrap64 (((a + 2 : Nat) : Int) + 1) = ((a + 3 : Nat) : Int) := wadd (a + 2) 1 (by omega)
      rw [laws_markItemS.l0, if_pos (by omega)]
      simp only [if_pos (show (0 : Int) ≤ (i : Int) by omega), w1, w2, w3, wsucc i (by omega), Int.toNat_natCast, Option.bind_some, rdItm_set x i _ hi, List.set_set]
    · exact (hmk (a + 2) (by omega)).bind h
  · refine Ev.step (f := fun _ => some ((a : Int), x)) (fun k => ?_) (Ev.now _)
    rw [laws_markItemS.l0, if_neg (by omega)]
theorem heldC_ev (a n : Nat) (h : n < 100000000) (ha : a < 100000000000) : Ev (fun k => laws_heldColumnS.f k (markG (mkC mk) 2 a n) (a : Int)) ((a + 2 * n : Nat) : Int) := by
  refine gen_held (mkC mk) 2 (by omega) (fun k x a i => laws_heldColumnS.l0 k x a i) (fun x a i hi hx r he ha h => ?_) (fun x a => ?_) a n h ha n 0 (by omega)
  · refine Ev.step (f := fun k => (laws_markText.f k (a : Int)).bind fun t => if (mk a).toList = t.toList then laws_heldColumnS.l0 k x ((a + 2 : Nat) : Int) ((i + 1 : Nat) : Int) else some (-1)) (fun k => ?_) ?_
    · have w1 : wrap64 ((a : Int) + 1) = ((a + 1 : Nat) : Int) := wadd a 1 (by omega)
      have w2 : wrap64 (((a + 1 : Nat) : Int) + 1) = ((a + 2 : Nat) : Int) := wadd (a + 1) 1 (by omega)
      rw [laws_heldColumnS.l0, if_pos (by omega)]
      simp only [if_pos (show (0 : Int) ≤ (i : Int) by omega), rdCol x i hi, he, mkC, w1, w2, wsucc i (by omega), if_true]
    · refine (hmk a (by omega)).bind ?_
      simp only [if_true]
      exact h
  · refine Ev.step (f := fun _ => some (a : Int)) (fun k => ?_) (Ev.now _)
    rw [laws_heldColumnS.l0, if_neg (by omega)]
theorem heldV_ev (a n : Nat) (h : n < 100000000) (ha : a < 100000000000) : Ev (fun k => laws_heldValueS.f k (markG (mkV mk) 3 a n) (a : Int)) ((a + 3 * n : Nat) : Int) := by
  refine gen_held (mkV mk) 3 (by omega) (fun k x a i => laws_heldValueS.l0 k x a i) (fun x a i hi hx r he ha h => ?_) (fun x a => ?_) a n h ha n 0 (by omega)
  · refine Ev.step (f := fun k => (laws_markText.f k ((a + 2 : Nat) : Int)).bind fun t => if (mk (a + 2)).toList = t.toList then laws_heldValueS.l0 k x ((a + 3 : Nat) : Int) ((i + 1 : Nat) : Int) else some (-1)) (fun k => ?_) ?_
    · have w1 : wrap64 ((a : Int) + 1) = ((a + 1 : Nat) : Int) := wadd a 1 (by omega)
      have w2 : wrap64 (((a + 1 : Nat) : Int) + 1) = ((a + 2 : Nat) : Int) := wadd (a + 1) 1 (by omega)
      have w3 : wrap64 (((a + 2 : Nat) : Int) + 1) = ((a + 3 : Nat) : Int) := wadd (a + 2) 1 (by omega)
      rw [laws_heldValueS.l0, if_pos (by omega)]
      simp only [if_pos (show (0 : Int) ≤ (i : Int) by omega), rdVal x i hi, he, mkV, w1, w2, w3, wsucc i (by omega), if_true]
    · refine (hmk (a + 2) (by omega)).bind ?_
      simp only [if_true]
      exact h
  · refine Ev.step (f := fun _ => some (a : Int)) (fun k => ?_) (Ev.now _)
    rw [laws_heldValueS.l0, if_neg (by omega)]
theorem heldI_ev (a n : Nat) (h : n < 100000000) (ha : a < 100000000000) : Ev (fun k => laws_heldItemS.f k (markG (mkI mk) 3 a n) (a : Int)) ((a + 3 * n : Nat) : Int) := by
  refine gen_held (mkI mk) 3 (by omega) (fun k x a i => laws_heldItemS.l0 k x a i) (fun x a i hi hx r he ha h => ?_) (fun x a => ?_) a n h ha n 0 (by omega)
  · refine Ev.step (f := fun k => (laws_markText.f k ((a + 2 : Nat) : Int)).bind fun t => if (mk (a + 2)).toList = t.toList then laws_heldItemS.l0 k x ((a + 3 : Nat) : Int) ((i + 1 : Nat) : Int) else some (-1)) (fun k => ?_) ?_
    · have w1 : wrap64 ((a : Int) + 1) = ((a + 1 : Nat) : Int) := wadd a 1 (by omega)
      have w2 : wrap64 (((a + 1 : Nat) : Int) + 1) = ((a + 2 : Nat) : Int) := wadd (a + 1) 1 (by omega)
      have w3 : wrap64 (((a + 2 : Nat) : Int) + 1) = ((a + 3 : Nat) : Int) := wadd (a + 2) 1 (by omega)
      rw [laws_heldItemS.l0, if_pos (by omega)]
      simp only [if_pos (show (0 : Int) ≤ (i : Int) by omega), rdItm x i hi, he, mkI, w1, w2, w3, wsucc i (by omega), if_true]
    · refine (hmk (a + 2) (by omega)).bind ?_
      simp only [if_true]
      exact h
  · refine Ev.step (f := fun _ => some (a : Int)) (fun k => ?_) (Ev.now _)
    rw [laws_heldItemS.l0, if_neg (by omega)]
omit hmk
/-- Where the marks of rows of rows end, and the rows marked. -/
def endSS : List (List Itm) → Nat → Nat
  | [], a => a
  | y :: l, a => endSS l (a + 3 * y.length)
def rowSS : List (List Itm) → Nat → List (List Itm)
  | [], _ => []
  | y :: l, a => markG (mkI mk) 3 a y.length :: rowSS l (a + 3 * y.length)
theorem rowSS_length (l : List (List Itm)) : ∀ a, (rowSS mk l a).length = l.length := by
  induction l with
  | nil => intro a; rfl
  | cons y l ih => intro a; rw [rowSS, List.length_cons, List.length_cons, ih]
include hmk
theorem markSS_ev (l : List (List Itm)) : ∀ (a : Nat), (∀ y ∈ l, y.length ≤ 70000) → a + 210000 * l.length < 100000000000 → Ev (fun k => markSS (fun l a => laws_markItemS.f k l a) l (a : Int)) ((endSS l a : Nat), rowSS mk l a) := by
  induction l with
  | nil => intro a _ _; exact Ev.now _
  | cons y l ih =>
    intro a h hb
    have hy := h y (List.mem_cons_self ..)
    rw [List.length_cons] at hb
    refine Ev.bind (markI_ev mk hmk a y (by omega) (by omega)) ?_
    refine Ev.bind (ih (a + 3 * y.length) (fun z hz => h z (List.mem_cons_of_mem _ hz)) (by omega)) ?_
    exact Ev.now _
theorem heldSS_go (l : List (List Itm)) : ∀ (a i : Nat) (x : List (List Itm)), (∀ y ∈ l, y.length ≤ 70000) → a + 210000 * l.length < 100000000000 → x.drop i = rowSS mk l a → i ≤ x.length → x.length ≤ 100000 → Ev (fun k => laws_heldItemSS.l0 k x (a : Int) (i : Int)) ((endSS l a : Nat) : Int) := by
  induction l with
  | nil =>
    intro a i x h hb hd hi hx
    have hi2 : i = x.length := by
      have := congrArg List.length hd
      rw [List.length_drop] at this
      simp only [rowSS, List.length_nil] at this
      omega
    refine Ev.step (f := fun _ => some (a : Int)) (fun k => ?_) (Ev.now _)
    rw [laws_heldItemSS.l0, if_neg (by omega)]
  | cons y l ih =>
    intro a i x h hb hd hi hx
    have hy := h y (List.mem_cons_self ..)
    rw [List.length_cons] at hb
    rw [rowSS] at hd
    have hil : i < x.length := by
      have := congrArg List.length hd
      rw [List.length_drop, List.length_cons] at this
      omega
    have e := List.drop_eq_getElem_cons hil
    rw [hd] at e
    injection e with e1 e2
    refine Ev.step (f := fun k => (laws_heldItemS.f k (markG (mkI mk) 3 a y.length) (a : Int)).bind fun t => if t < 0 then some (-1) else laws_heldItemSS.l0 k x t ((i + 1 : Nat) : Int)) (fun k => ?_) ?_
    · rw [laws_heldItemSS.l0, if_pos (by omega), if_pos (by omega), rdII x i hil, ← e1, wsucc i (by omega)]
    · refine (heldI_ev mk hmk a y.length (by omega) (by omega)).bind ?_
      simp only [if_neg (show ¬ (((a + 3 * y.length : Nat) : Int) < 0) by omega)]
      exact ih (a + 3 * y.length) (i + 1) x (fun z hz => h z (List.mem_cons_of_mem _ hz)) (by omega) e2.symm (by omega) hx
theorem heldStm_ev (kind : Int) (table col : ByteArray) (c v e w : Nat) (o : List (List Itm)) (hc : c ≤ 70000) (hv : v ≤ 70000) (he : e ≤ 70000) (hw : w ≤ 70000) (ho : o.length ≤ 70000) (hs : ∀ y ∈ o, y.length ≤ 70000) :
    Ev (fun k => laws_heldStm.f k kind table (markG (mkC mk) 2 1 c) (markG (mkV mk) 3 (1 + 2 * c) v) col (markG (mkI mk) 3 (1 + 2 * c + 3 * v) e) (markG (mkI mk) 3 (1 + 2 * c + 3 * v + 3 * e) w) (rowSS mk o (1 + 2 * c + 3 * v + 3 * e + 3 * w)) 1) ((endSS o (1 + 2 * c + 3 * v + 3 * e + 3 * w) : Nat) : Int) := by
  have neg : ∀ n : Nat, ¬ ((n : Int) < 0) := fun n => by omega
  unfold laws_heldStm.f
  refine (heldC_ev mk hmk 1 c (by omega) (by omega)).bind ?_
  simp only [if_neg (neg _)]
  refine (heldV_ev mk hmk (1 + 2 * c) v (by omega) (by omega)).bind ?_
  simp only [if_neg (neg _)]
  refine (heldI_ev mk hmk (1 + 2 * c + 3 * v) e (by omega) (by omega)).bind ?_
  simp only [if_neg (neg _)]
  refine (heldI_ev mk hmk (1 + 2 * c + 3 * v + 3 * e) w (by omega) (by omega)).bind ?_
  simp only [if_neg (neg _)]
  have := heldSS_go mk hmk o (1 + 2 * c + 3 * v + 3 * e + 3 * w) 0 (rowSS mk o (1 + 2 * c + 3 * v + 3 * e + 3 * w)) hs (by omega) (List.drop_zero) (Nat.zero_le _) (by rw [rowSS_length]; omega)
  refine Ev.bind (g := fun k => laws_heldItemSS.f k (rowSS mk o (1 + 2 * c + 3 * v + 3 * e + 3 * w)) _) this ?_
  simp only [if_neg (neg _)]
  exact Ev.now _
end
end Go.Proofs.YtbpfdjbnfkclcaaDoor.Pure
end
section
set_option linter.unusedVariables false
set_option linter.unusedSimpArgs false
namespace Go.Proofs.YtbpfdjbnfkclcaaDoor.Pure
open Go Go.RowKit Go.Proofs.YtbpfdjbnfkclcaaDoor Go.Proofs.YtbpfdjbnfkclcaaDoor.L Go.Proofs.YtbpfdjbnfkclcaaDoorW.PrintWords Go.Proofs.YtbpfdjbnfkclcaaDoorW.PrintMore Go.Proofs.YtbpfdjbnfkclcaaDoorW.PrintLast
theorem exp_len (a : ByteArray) (st : Int) : (rExp (Rs a) okE st).1.length ≤ 65535 := by
  have h1 := rList_len (rItem (Rs a)) okE ((Rs a).num 2 st).1.toNat ((Rs a).num 2 st).2
  have h2 := num_small a 2 (by omega) st
  unfold rExp
  omega
/-- What is asked of the lengths read. -/
structure LenP (p : PStm) : Prop where
  cols : p.cols.length ≤ 65535
  vals : p.vals.length ≤ 65535
  exp : p.exp.length ≤ 65535
  wh : p.wh.length ≤ 65535
  outs : p.outs.length ≤ 65535
  outsT : ∀ y ∈ p.outs, y.length ≤ 65535
theorem lenP0 : LenP ⟨[], [], ⟨#[]⟩, [], [], []⟩ := ⟨Nat.zero_le _, Nat.zero_le _, Nat.zero_le _, Nat.zero_le _, Nat.zero_le _, all_nil⟩
theorem one_len {α : Type} (a : ByteArray) (f : Int → α × Int) (st : Int) : (rList f okL ((Rs a).num 1 st).1.toNat ((Rs a).num 1 st).2).1.length ≤ 65535 := by
  have h1 := rList_len f okL ((Rs a).num 1 st).1.toNat ((Rs a).num 1 st).2
  have h2 := num_small a 1 (by omega) st
  omega
theorem body_len (a : ByteArray) (kind : Int) (st : Int) : LenP (rBody (Rs a) okE okL kind st).1 := by
  unfold rBody
  split
  · exact { lenP0 with cols := one_len a _ st }
  split
  · exact { lenP0 with vals := one_len a _ st }
  split
  · exact { lenP0 with exp := exp_len a _, wh := exp_len a _ }
  split
  · exact { lenP0 with wh := exp_len a _ }
  split
  · exact { lenP0 with wh := exp_len a _, outs := one_len a _ st, outsT := rList_all (fun y : List Itm => y.length ≤ 65535) _ _ (fun st => exp_len a st) _ _ }
  · exact lenP0
/-- The reference's answer. -/
def ansS (a : ByteArray) : Res := if (a.size : Int) > 60000 then zeroR else accS a (rStm (Rs a) okE okL 0).1.1 (rStm (Rs a) okE okL 0).1.2.1 (rStm (Rs a) okE okL 0).1.2.2
theorem ans_small (a : ByteArray) : ∃ (kind : Int) (table : ByteArray) (p : PStm) (b : Bool), ansS a = (kind, table, p.cols, p.vals, p.col, p.exp, p.wh, p.outs, b) ∧ LenP p := by
  have z : ∃ (kind : Int) (table : ByteArray) (p : PStm) (b : Bool), zeroR = (kind, table, p.cols, p.vals, p.col, p.exp, p.wh, p.outs, b) ∧ LenP p := ⟨0, ⟨#[]⟩, ⟨[], [], ⟨#[]⟩, [], [], []⟩, false, rfl, lenP0⟩
  unfold ansS accS
  split
  · exact z
  split
  · exact z
  split
  · exact z
  · exact ⟨_, _, _, true, rfl, body_len a _ _⟩
theorem dec_ok (a : ByteArray) : DecOk a := by
  by_cases hz : 1048576 < a.size
  · exact .inl hz
  refine .inr ⟨by omega, ?_⟩
  have e1 : Ev (fun k => spec_DecodeStm.f k a) (ansS a) := spec_dec a
  have e2 : Ev (fun k => impl_DecodeStm.f k a) (ansS a) := by
    have := impl_dec a (by omega)
    rw [dec_same a] at this
    exact this
  obtain ⟨kind, table, p, b, e, hp⟩ := ans_small a
  rw [e] at e1 e2
  obtain ⟨k1, e1⟩ := e1.rounds
  obtain ⟨k2, e2⟩ := e2.rounds
  have l1 := hp.cols
  have l2 := hp.vals
  have l3 := hp.exp
  have l4 := hp.wh
  have l5 := hp.outs
  have l6 : ∀ y ∈ p.outs, y.length ≤ 70000 := fun y hy => by have := hp.outsT y hy; omega
  obtain ⟨k3, e3⟩ := (eqStm_ev kind table p.cols p.vals p.col p.exp p.wh p.outs (by omega) (by omega) (by omega) (by omega) (by omega) (fun y hy => by have := l6 y hy; omega)).rounds
  obtain ⟨mk, hmk⟩ := marks
  obtain ⟨K1, f1⟩ := markC_ev mk hmk 1 p.cols (by omega) (by omega)
  obtain ⟨K2, f2⟩ := markV_ev mk hmk (1 + 2 * p.cols.length) p.vals (by omega) (by omega)
  obtain ⟨K3, f3⟩ := markI_ev mk hmk (1 + 2 * p.cols.length + 3 * p.vals.length) p.exp (by omega) (by omega)
  obtain ⟨K4, f4⟩ := markI_ev mk hmk (1 + 2 * p.cols.length + 3 * p.vals.length + 3 * p.exp.length) p.wh (by omega) (by omega)
  obtain ⟨K5, f5⟩ := markSS_ev mk hmk p.outs (1 + 2 * p.cols.length + 3 * p.vals.length + 3 * p.exp.length + 3 * p.wh.length) l6 (by omega)
  obtain ⟨k5, e5⟩ := (heldStm_ev mk hmk kind table p.col p.cols.length p.vals.length p.exp.length p.wh.length p.outs (by omega) (by omega) (by omega) (by omega) (by omega) l6).rounds
  refine ⟨k1, k2, k3, K1 + K2 + K3 + K4 + K5, k5, kind, table, p.col, p.cols, _, p.vals, _, p.exp, _, p.wh, _, p.outs, _, b, _, _, _, _, _, e1, e2, e3, f1 _ (by omega), f2 _ (by omega), f3 _ (by omega), f4 _ (by omega), f5 _ (by omega), e5, by omega, by omega⟩
end Go.Proofs.YtbpfdjbnfkclcaaDoor.Pure
end
section
set_option linter.unusedVariables false
set_option linter.unusedSimpArgs false
namespace Go.Proofs.YtbpfdjbnfkclcaaDoor.Pure
open Go Go.RowKit Go.Proofs.YtbpfdjbnfkclcaaDoor Go.Proofs.YtbpfdjbnfkclcaaDoor.L
theorem fnExactDecodeStm_pure : fnExactDecodeStm.Pure0 := fun a0 _ => ⟨0, by unfold laws_FnExactDecodeStm.f; rw [if_pos (dec_ok a0)]⟩
end Go.Proofs.YtbpfdjbnfkclcaaDoor.Pure
namespace Go.Proofs.YtbpfdjbnfkclcaaDoor
theorem fnExactDecodeStm_holds : Rows.FnExactDecodeStmCardSaid := fnExactDecodeStm.card Pure.fnExactDecodeStm_pure
end Go.Proofs.YtbpfdjbnfkclcaaDoor
end
