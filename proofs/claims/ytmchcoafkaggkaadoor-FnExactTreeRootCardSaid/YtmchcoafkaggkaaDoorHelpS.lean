/- The laws' own helpers on lists of strings (toStringS, eqStringS, szStringS), as plain functions: a copy is the list, a list is itself, the size is the sum. Conditions: a bound on lengths. -/
import Derived.Test.YtmchcoafkaggkaaDoorLx1
import Derived.Test.YtmchcoafkaggkaaDoorLx4
import Derived.Test.YtmchcoafkaggkaaDoorLx9
set_option linter.unusedVariables false
set_option linter.unusedSimpArgs false
namespace Go.Proofs.YtmchcoafkaggkaaDoor.Pure
open Go.RowKit Go.Proofs.YtmchcoafkaggkaaDoor Go.Proofs.YtmchcoafkaggkaaDoor.L Go.Proofs.YtmchcoafkaggkaaDoorW.PrintWords Go.Proofs.YtmchcoafkaggkaaDoorW.PrintLast

theorem w64 (x : Int) (h : -9223372036854775808 ≤ x ∧ x ≤ 9223372036854775807) : wrap64 x = x := by unfold wrap64; omega

theorem wsucc (i : Nat) (h : i < 9223372036854775807) : wrap64 ((i : Int) + 1) = ((i + 1 : Nat) : Int) := by unfold wrap64; omega

theorem rdS (l : List ByteArray) (i : Nat) (h : i < l.length) : rdOf ByteArray.empty l (i : Int) = l[i] := by
  simp [rdOf, List.getD, h]

theorem toS_l0 (e : Nat) : ∀ (l o : List ByteArray) (i : Nat), i + e = l.length → o.length = l.length → l.length ≤ 17592186044416 → (∀ j, j < i → o[j]? = l[j]?) →
    Ev (fun k => laws_toStringS.l0 k l o i) l := by
  induction e with
  | zero =>
    intro l o i hi ho hl hx
    have : o = l := by
      apply List.ext_getElem?
      intro j
      by_cases hj : j < i
      · exact hx j hj
      · rw [List.getElem?_eq_none (by omega), List.getElem?_eq_none (by omega)]
    subst this
    exact Ev.step (f := fun _ => some o) (fun k => by rw [laws_toStringS.l0, if_neg (by omega)]) (Ev.now _)
  | succ e ih =>
    intro l o i hi ho hl hx
    have hil : i < l.length := by omega
    refine Ev.step (f := fun k => laws_toStringS.l0 k l (o.set i l[i]) ((i + 1 : Nat) : Int)) (fun k => ?_) (ih l (o.set i l[i]) (i + 1) (by omega) (by rw [List.length_set]; exact ho) hl (fun j hj => ?_))
    · rw [laws_toStringS.l0, if_pos (by omega), if_pos (by omega), if_pos (by omega), rdS l i hil, wsucc i (by omega)]
      rfl
    · rw [List.getElem?_set]
      by_cases h : i = j
      · subst h; simp [hil, ho]
      · rw [if_neg h]; exact hx j (by omega)
theorem toS_ev (l : List ByteArray) (h : l.length ≤ 17592186044416) : Ev (fun k => laws_toStringS.f k l) l := by
  refine Ev.congr (fun k => ?_) (toS_l0 l.length l (List.replicate l.length ⟨#[]⟩) 0 (by omega) List.length_replicate h (fun j hj => by omega))
  unfold laws_toStringS.f
  rw [if_pos (by omega), if_pos (by omega)]
  simp

theorem eqS_l0 (e : Nat) : ∀ (l : List ByteArray) (i : Nat), i + e = l.length → l.length ≤ 9223372036854775807 → Ev (fun k => laws_eqStringS.l0 k l l i) true := by
  induction e with
  | zero =>
    intro l i hi hl
    exact Ev.step (f := fun _ => some true) (fun k => by rw [laws_eqStringS.l0, if_neg (by omega)]) (Ev.now _)
  | succ e ih =>
    intro l i hi hl
    exact Ev.step (fun k => by rw [laws_eqStringS.l0, if_pos (by omega), if_pos (by omega), if_pos (by omega), if_pos rfl, wsucc i (by omega)]) (ih l (i + 1) (by omega) hl)
theorem eqS_ev (l : List ByteArray) (hl : l.length ≤ 9223372036854775807) : Ev (fun k => laws_eqStringS.f k l l) true := by
  refine Ev.congr (fun k => ?_) (eqS_l0 l.length l 0 (by omega) hl)
  unfold laws_eqStringS.f
  rw [if_pos rfl]
  rfl

/-- The bytes of the strings of a list. -/
def sumS (l : List ByteArray) : Nat := (l.map ByteArray.size).sum
theorem szS_l0 (e : Nat) : ∀ (l : List ByteArray) (i : Nat) (a : Int), i + e = l.length → l.length ≤ 9223372036854775807 → (∀ y ∈ l, y.size ≤ 9223372036854775807) → 0 ≤ a → a ≤ 9223372036854775807 →
    Ev (fun k => laws_szStringS.l0 k l a i) (if (sumS (l.drop i) : Int) ≤ a then a - sumS (l.drop i) else -1) := by
  induction e with
  | zero =>
    intro l i a hi hl hs h0 h1
    have hd : l.drop i = [] := List.drop_eq_nil_of_le (by omega)
    rw [hd]
    refine Ev.step (f := fun _ => some a) (fun k => by rw [laws_szStringS.l0, if_neg (by omega)]) ?_
    simp [sumS, h0]
    exact Ev.now _
  | succ e ih =>
    intro l i a hi hl hs h0 h1
    have hil : i < l.length := by omega
    have hy := hs _ (List.getElem_mem hil)
    have hd : l.drop i = l[i] :: l.drop (i + 1) := List.drop_eq_getElem_cons hil
    have hsum : sumS (l.drop i) = l[i].size + sumS (l.drop (i + 1)) := by rw [hd]; rfl
    by_cases hc : a - (l[i].size : Int) < 0
    · refine Ev.step (f := fun _ => some (-1)) (fun k => ?_) ?_
      · rw [laws_szStringS.l0, if_pos (by omega), if_pos (by omega), rdS l i hil, w64 _ (by omega), if_pos hc]
      · rw [if_neg (by omega)]; exact Ev.now _
    · refine Ev.step (fun k => ?_) ?_ (f := fun k => laws_szStringS.l0 k l (a - (l[i].size : Int)) ((i + 1 : Nat) : Int))
      · rw [laws_szStringS.l0, if_pos (by omega), if_pos (by omega), rdS l i hil, w64 (a - _) (by omega), if_neg hc, wsucc i (by omega)]
      · have := ih l (i + 1) (a - (l[i].size : Int)) (by omega) hl hs (by omega) (by omega)
        have e1 : ((sumS (l.drop (i + 1)) : Int) ≤ a - (l[i].size : Int)) ↔ ((sumS (l.drop i) : Int) ≤ a) := by rw [hsum]; omega
        have e2 : a - (l[i].size : Int) - (sumS (l.drop (i + 1)) : Int) = a - (sumS (l.drop i) : Int) := by rw [hsum]; omega
        rw [e2] at this
        simpa only [e1] using this
/-- What a list of strings weighs: its places and its bytes. -/
def wtS (l : List ByteArray) : Nat := l.length + sumS l
theorem szS_ev (l : List ByteArray) (a : Int) (hl : l.length ≤ 9223372036854775807) (hs : ∀ y ∈ l, y.size ≤ 9223372036854775807) (h0 : 0 ≤ a) (h1 : a ≤ 1048576) :
    Ev (fun k => laws_szStringS.f k l a) (if (wtS l : Int) ≤ a then a - wtS l else -1) := by
  unfold laws_szStringS.f
  simp only [w64 (a - (l.length : Int)) (by omega)]
  by_cases hc : a - (l.length : Int) < 0
  · simp only [if_pos hc]
    rw [if_neg (by unfold wtS; omega)]
    exact Ev.now _
  · simp only [if_neg hc]
    have h := szS_l0 l.length l 0 (a - (l.length : Int)) (by omega) hl hs (by omega) (by omega)
    simp only [List.drop_zero] at h
    have e1 : ((sumS l : Int) ≤ a - (l.length : Int)) ↔ ((wtS l : Int) ≤ a) := by unfold wtS; omega
    have e2 : a - (l.length : Int) - (sumS l : Int) = a - (wtS l : Int) := by unfold wtS; omega
    rw [e2] at h
    simp only [e1] at h
    exact h
end Go.Proofs.YtmchcoafkaggkaaDoor.Pure
