/- The law FnExactCheckPath: proved over the printed functions; then the row, and the tied card. -/
import Derived.Test.YtcacdneodpoboaaDoorLx6
import Derived.Test.YtcacdneodpoboaaDoorLx7
import Derived.Test.YtcacdneodpoboaaDoorLx8
import Derived.Test.YtcacdneodpoboaaDoorRowFnExactCheckPath
import Derived.Test.YtcacdneodpoboaaDoorPathP
set_option linter.unusedVariables false
set_option linter.unusedSimpArgs false
namespace Go.Proofs.YtcacdneodpoboaaDoor.Pure
open Go Go.RowKit Go.Proofs.YtcacdneodpoboaaDoor Go.Proofs.YtcacdneodpoboaaDoor.L Go.Proofs.YtcacdneodpoboaaDoorW.PrintWords Go.Proofs.YtcacdneodpoboaaDoorW.PrintMore Go.Proofs.YtcacdneodpoboaaDoorW.PrintLast
/-- What CheckPath answers. -/
def pathOk (kind : Int) (e : ByteArray) (i n : Int) (root : ByteArray) (l : List ByteArray) : Bool :=
  widOK kind l && (decide (1 ≤ n ∧ n ≤ 2147483648) && (decide (0 ≤ i ∧ i ≤ n - 1) && (decide (l.length = pathLen i.toNat n.toNat) && ((claimB kind e i.toNat n.toNat l).toList == root.toList))))
theorem spec_path (kind : Int) (e : ByteArray) (he : e.size ≤ 1000000000) (i n : Int) (hn0 : -9223372036854775808 ≤ n) (root : ByteArray) (l : List ByteArray) (hl : l.length ≤ 1000000000) (hs : ∀ y ∈ l, y.size ≤ 1000000000) :
    Ev (fun k => spec_CheckPath.f k kind e i n root l) (pathOk kind e i n root l) := by
  unfold spec_CheckPath.f spec_l3PathFits.f pathOk
  have ff : ¬ (false = true) := by decide
  refine Ev.bind (a := widOK kind l && (decide (1 ≤ n ∧ n ≤ 2147483648) && (decide (0 ≤ i ∧ i ≤ n - 1) && decide (l.length = pathLen i.toNat n.toNat)))) ?_ ?_
  · refine (spec_wid kind l (by omega)).bind ?_
    cases hw : widOK kind l with
    | false => simp only [if_neg ff, Bool.false_and]; exact Ev.now _
    | true =>
      simp only [if_true, between_b, Option.bind_some, Bool.true_and]
      by_cases hn : 1 ≤ n ∧ n ≤ 2147483648
      · have w : wrap64 (n - 1) = n - 1 := by unfold wrap64; omega
        simp only [decide_eq_true hn, if_true, Bool.true_and, w]
        by_cases hi : 0 ≤ i ∧ i ≤ n - 1
        · simp only [decide_eq_true hi, if_true, Bool.true_and]
          obtain ⟨i', rfl⟩ := Int.eq_ofNat_of_zero_le hi.1
          obtain ⟨n', rfl⟩ := Int.eq_ofNat_of_zero_le (show 0 ≤ n by omega)
          have hev := pathLen_ev n' i' (by omega) (by omega)
          refine hev.bind ?_
          have e1 : ((l.length : Int) == ((pathLen i' n' : Nat) : Int)) = decide (l.length = pathLen i' n') := by
            by_cases h : l.length = pathLen i' n'
            · simp [h]
            · rw [decide_eq_false h]; exact beq_eq_false_iff_ne.2 (by omega)
          simp only [e1]
          exact Ev.now _
        · simp only [decide_eq_false hi, if_neg ff, Bool.false_and]; exact Ev.now _
      · simp only [decide_eq_false hn, if_neg ff, Bool.false_and]; exact Ev.now _
  · cases hw : widOK kind l with
    | false => simp only [Bool.false_and, if_neg ff]; exact Ev.now _
    | true =>
      by_cases hn : 1 ≤ n ∧ n ≤ 2147483648
      · by_cases hi : 0 ≤ i ∧ i ≤ n - 1
        · obtain ⟨i', rfl⟩ := Int.eq_ofNat_of_zero_le hi.1
          obtain ⟨n', rfl⟩ := Int.eq_ofNat_of_zero_le (show 0 ≤ n by omega)
          simp only [decide_eq_true hn, decide_eq_true hi, Bool.true_and, Int.ofNat_eq_natCast, Int.toNat_natCast]
          by_cases hp : l.length = pathLen i' n'
          · simp only [decide_eq_true hp, if_true, Bool.true_and]
            exact (spec_claim kind e he n' i' l (by omega) (by omega) hp hs).bind (Ev.now _)
          · simp only [decide_eq_false hp, if_neg ff, Bool.false_and]; exact Ev.now _
        · simp only [decide_eq_true hn, decide_eq_false hi, Bool.true_and, Bool.false_and, if_neg ff]; exact Ev.now _
      · simp only [decide_eq_false hn, Bool.true_and, Bool.false_and, if_neg ff]; exact Ev.now _
theorem impl_path (kind : Int) (e : ByteArray) (he : e.size ≤ 1000000000) (i n : Int) (root : ByteArray) (l : List ByteArray) (hl : l.length ≤ 1000000000) (hs : ∀ y ∈ l, y.size ≤ 1000000000) :
    Ev (fun k => impl_CheckPath.f k kind e i n root l) (pathOk kind e i n root l) := by
  unfold impl_CheckPath.f pathOk
  have ff : ¬ (false = true) := by decide
  by_cases h1 : n > 2147483648
  · simp only [if_pos h1, decide_eq_false (show ¬ (1 ≤ n ∧ n ≤ 2147483648) by omega), Bool.false_and, Bool.and_false]; exact Ev.now _
  · by_cases h2 : i < 0
    · simp only [if_neg h1, if_pos h2, decide_eq_false (show ¬ (0 ≤ i ∧ i ≤ n - 1) by omega), Bool.false_and, Bool.and_false]; exact Ev.now _
    · by_cases h3 : i ≥ n
      · simp only [if_neg h1, if_neg h2, if_pos h3, decide_eq_false (show ¬ (0 ≤ i ∧ i ≤ n - 1) by omega), Bool.false_and, Bool.and_false]; exact Ev.now _
      · simp only [if_neg h1, if_neg h2, if_neg h3, decide_eq_true (show (1 ≤ n ∧ n ≤ 2147483648) by omega), decide_eq_true (show (0 ≤ i ∧ i ≤ n - 1) by omega), Bool.true_and]
        refine (impl_wid kind l (by omega)).bind ?_
        cases hw : widOK kind l with
        | false => simp only [if_neg ff, Bool.false_and]; exact Ev.now _
        | true =>
          simp only [if_true, Bool.true_and]
          obtain ⟨i', rfl⟩ := Int.eq_ofNat_of_zero_le (show 0 ≤ i by omega)
          obtain ⟨n', rfl⟩ := Int.eq_ofNat_of_zero_le (show 0 ≤ n by omega)
          have hle := pathLen_le 31 i' n' (by omega)
          simp only [Int.ofNat_eq_natCast, Int.toNat_natCast]
          by_cases h4 : (l.length : Int) > 64
          · simp only [if_pos h4, decide_eq_false (show ¬ l.length = pathLen i' n' by omega), Bool.false_and]; exact Ev.now _
          · simp only [if_neg h4]
            obtain ⟨c, _, hev, hcl⟩ := impl_claim_ev kind e he n' i' l (by omega) (by omega) (by omega) hs
            refine hev.bind ?_
            by_cases hp : l.length = pathLen i' n'
            · simp only [decide_eq_true hp, if_true, Bool.true_and, hcl hp]; exact Ev.now _
            · simp only [decide_eq_false hp, if_neg ff, Bool.false_and]; exact Ev.now _
theorem fnExactCheckPath_pure : fnExactCheckPath.Pure0 := by
  intro kind e i n root l _ _ _ hn _ hl hs
  have hl' : l.length ≤ 9223372036854775807 := by unfold maxLen at hl; omega
  have hn0 : -9223372036854775808 ≤ n := (wf64 hn).1
  have ff : ¬ (false = true) := by decide
  have h : Ev (fun k => laws_FnExactCheckPath.f k kind e i n root l) true := by
    unfold laws_FnExactCheckPath.f
    by_cases he : (e.size : Int) > 1048576
    · simp only [if_pos he]; exact Ev.now _
    · by_cases hr : (root.size : Int) > 1048576
      · simp only [if_neg he, if_pos hr]; exact Ev.now _
      · simp only [if_neg he, if_neg hr]
        refine (szS_ev l 1048576 hl' (fun y hy => by have := hs y hy; unfold maxLen at this; omega) (by omega) (by omega)).bind ?_
        by_cases hc : (wtS l : Int) ≤ 1048576
        · simp only [if_pos hc, if_neg (show ¬ (1048576 - (wtS l : Int) < 0) by omega)]
          have hle : l.length ≤ 1048576 := by unfold wtS at hc; omega
          have hsz : ∀ y ∈ l, y.size ≤ 1000000000 := fun y hy => by have := mem_wt l y hy; unfold wtS at hc; omega
          have ht := toS_ev l (by omega)
          refine ht.bind ?_
          refine (spec_path kind e (by omega) i n hn0 root l (by omega) hsz).bind ?_
          refine ht.bind ?_
          refine (impl_path kind e (by omega) i n root l (by omega) hsz).bind ?_
          simp only [bne_self_eq_false, if_neg ff]
          refine ht.bind ?_
          refine (eqS_ev l hl').bind ?_
          simp only [if_true]
          exact Ev.now _
        · simp only [if_neg hc, if_pos (show (-1 : Int) < 0 by decide)]
          exact Ev.now _
  exact h.rounds
end Go.Proofs.YtcacdneodpoboaaDoor.Pure
namespace Go.Proofs.YtcacdneodpoboaaDoor
theorem fnExactCheckPath_holds : Rows.FnExactCheckPathCardSaid := fnExactCheckPath.card Pure.fnExactCheckPath_pure
#print axioms fnExactCheckPath_holds
end Go.Proofs.YtcacdneodpoboaaDoor
