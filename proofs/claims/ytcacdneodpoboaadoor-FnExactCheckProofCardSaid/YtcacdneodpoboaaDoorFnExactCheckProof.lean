/- The law FnExactCheckProof: proved over the printed functions; then the row, and the tied card. -/
import Derived.Test.YtcacdneodpoboaaDoorLx8
import Derived.Test.YtcacdneodpoboaaDoorLx9
import Derived.Test.YtcacdneodpoboaaDoorRowFnExactCheckProof
import Derived.Test.YtcacdneodpoboaaDoorProofP
set_option linter.unusedVariables false
set_option linter.unusedSimpArgs false
namespace Go.Proofs.YtcacdneodpoboaaDoor.Pure
open Go Go.RowKit Go.Proofs.YtcacdneodpoboaaDoor Go.Proofs.YtcacdneodpoboaaDoor.L Go.Proofs.YtcacdneodpoboaaDoorW.PrintWords Go.Proofs.YtcacdneodpoboaaDoorW.PrintMore Go.Proofs.YtcacdneodpoboaaDoorW.PrintLast
/-- What CheckProof answers. -/
def proofOk (kind m : Int) (old : ByteArray) (n : Int) (root : ByteArray) (l : List ByteArray) : Bool :=
  widOK kind l && (decide (1 ≤ n ∧ n ≤ 2147483648) && (decide (1 ≤ m ∧ m ≤ n) && (decide (l.length = proofLen m.toNat n.toNat true) && (decide ((old.size : Int) = wdt kind) && (decide ((claims2 kind old m.toNat n.toNat l true).1.toList = old.toList) && ((claims2 kind old m.toNat n.toNat l true).2.toList == root.toList))))))
theorem spec_proof (kind m : Int) (old : ByteArray) (ho : old.size ≤ 1000000000) (n : Int) (root : ByteArray) (l : List ByteArray) (hl : l.length ≤ 1000000000) (hs : ∀ y ∈ l, y.size ≤ 1000000000) :
    Ev (fun k => spec_CheckProof.f k kind m old n root l) (proofOk kind m old n root l) := by
  unfold spec_CheckProof.f spec_l3ProofFits.f proofOk
  have ff : ¬ (false = true) := by decide
  refine Ev.bind (a := widOK kind l && (decide (1 ≤ n ∧ n ≤ 2147483648) && (decide (1 ≤ m ∧ m ≤ n) && decide (l.length = proofLen m.toNat n.toNat true)))) ?_ ?_
  · refine (spec_wid kind l (by omega)).bind ?_
    cases hw : widOK kind l with
    | false => simp only [if_neg ff, Bool.false_and]; exact Ev.now _
    | true =>
      simp only [if_true, between_b, Option.bind_some, Bool.true_and]
      by_cases hn : 1 ≤ n ∧ n ≤ 2147483648
      · simp only [decide_eq_true hn, if_true, Bool.true_and]
        by_cases hi : 1 ≤ m ∧ m ≤ n
        · simp only [decide_eq_true hi, if_true, Bool.true_and]
          obtain ⟨m', rfl⟩ := Int.eq_ofNat_of_zero_le (show 0 ≤ m by omega)
          obtain ⟨n', rfl⟩ := Int.eq_ofNat_of_zero_le (show 0 ≤ n by omega)
          have hev := proofLen_ev n' m' true (by omega) (by omega) (by omega)
          refine hev.bind ?_
          have e1 : ((l.length : Int) == ((proofLen m' n' true : Nat) : Int)) = decide (l.length = proofLen m' n' true) := by
            by_cases h : l.length = proofLen m' n' true
            · simp [h]
            · rw [decide_eq_false h]; exact beq_eq_false_iff_ne.2 (by omega)
          simp only [e1]
          exact Ev.now _
        · simp only [decide_eq_false hi, if_neg ff, Bool.false_and]; exact Ev.now _
      · simp only [decide_eq_false hn, if_neg ff, Bool.false_and]; exact Ev.now _
  · cases hw : widOK kind l with
    | false => simp only [Bool.false_and, if_neg ff]; exact Ev.now _
    | true =>
      by_cases hn : 1 ≤ n ∧ n ≤ 2147483648
      · by_cases hi : 1 ≤ m ∧ m ≤ n
        · obtain ⟨m', rfl⟩ := Int.eq_ofNat_of_zero_le (show 0 ≤ m by omega)
          obtain ⟨n', rfl⟩ := Int.eq_ofNat_of_zero_le (show 0 ≤ n by omega)
          simp only [decide_eq_true hn, decide_eq_true hi, Bool.true_and, Int.ofNat_eq_natCast, Int.toNat_natCast]
          by_cases hp : l.length = proofLen m' n' true
          · simp only [decide_eq_true hp, if_true, Bool.true_and, spec_wdt, Option.bind_some]
            by_cases ho2 : (old.size : Int) = wdt kind
            · simp only [if_pos ho2, decide_eq_true ho2, Bool.true_and]
              refine (spec_claims kind old ho n' m' l true (by omega) (by omega) (by omega) hp hs).bind ?_
              by_cases hq : (claims2 kind old m' n' l true).1.toList = old.toList
              · simp only [if_pos hq, decide_eq_true hq, Bool.true_and]; exact Ev.now _
              · simp only [if_neg hq, decide_eq_false hq, Bool.false_and]; exact Ev.now _
            · simp only [if_neg ho2, decide_eq_false ho2, Bool.false_and]; exact Ev.now _
          · simp only [decide_eq_false hp, if_neg ff, Bool.false_and]; exact Ev.now _
        · simp only [decide_eq_true hn, decide_eq_false hi, Bool.true_and, Bool.false_and, if_neg ff]; exact Ev.now _
      · simp only [decide_eq_false hn, Bool.true_and, Bool.false_and, if_neg ff]; exact Ev.now _
theorem impl_proof (kind m : Int) (old : ByteArray) (ho : old.size ≤ 1000000000) (n : Int) (root : ByteArray) (l : List ByteArray) (hl : l.length ≤ 1000000000) (hs : ∀ y ∈ l, y.size ≤ 1000000000) :
    Ev (fun k => impl_CheckProof.f k kind m old n root l) (proofOk kind m old n root l) := by
  unfold impl_CheckProof.f proofOk
  have ff : ¬ (false = true) := by decide
  by_cases h1 : m < 1
  · simp only [if_pos h1, decide_eq_false (show ¬ (1 ≤ m ∧ m ≤ n) by omega), Bool.false_and, Bool.and_false]; exact Ev.now _
  · by_cases h2 : m > n
    · simp only [if_neg h1, if_pos h2, decide_eq_false (show ¬ (1 ≤ m ∧ m ≤ n) by omega), Bool.false_and, Bool.and_false]; exact Ev.now _
    · by_cases h3 : n > 2147483648
      · simp only [if_neg h1, if_neg h2, if_pos h3, decide_eq_false (show ¬ (1 ≤ n ∧ n ≤ 2147483648) by omega), Bool.false_and, Bool.and_false]; exact Ev.now _
      · simp only [if_neg h1, if_neg h2, if_neg h3, decide_eq_true (show (1 ≤ n ∧ n ≤ 2147483648) by omega), decide_eq_true (show (1 ≤ m ∧ m ≤ n) by omega), Bool.true_and, impl_wdi, Option.bind_some]
        by_cases hko : kOK kind = true
        · have hww := wdi_wdt kind hko
          simp only [hww]
          by_cases ho2 : (old.size : Int) = wdt kind
          · simp only [if_pos ho2, decide_eq_true ho2, Bool.true_and]
            refine (impl_wid kind l (by omega)).bind ?_
            cases hw : widOK kind l with
            | false => simp only [if_neg ff, Bool.false_and]; exact Ev.now _
            | true =>
              simp only [if_true, Bool.true_and]
              obtain ⟨m', rfl⟩ := Int.eq_ofNat_of_zero_le (show 0 ≤ m by omega)
              obtain ⟨n', rfl⟩ := Int.eq_ofNat_of_zero_le (show 0 ≤ n by omega)
              have hle := proofLen_le 31 m' n' true (by omega) (by omega) (by omega)
              simp only [Int.ofNat_eq_natCast, Int.toNat_natCast]
              by_cases h4 : (l.length : Int) > 100
              · simp only [if_pos h4, decide_eq_false (show ¬ l.length = proofLen m' n' true by omega), Bool.false_and]; exact Ev.now _
              · simp only [if_neg h4]
                obtain ⟨c, d, _, _, hev, hcl⟩ := impl_claims_ev kind old ho n' m' l true (by omega) (by omega) (by omega) (by omega) hs
                refine hev.bind ?_
                by_cases hp : l.length = proofLen m' n' true
                · have hcd := hcl hp
                  simp only [decide_eq_true hp, if_true, Bool.true_and, ← hcd]
                  by_cases hq : c.toList = old.toList
                  · simp only [if_pos hq, decide_eq_true hq, Bool.true_and]; exact Ev.now _
                  · simp only [if_neg hq, decide_eq_false hq, Bool.false_and]; exact Ev.now _
                · simp only [decide_eq_false hp, if_neg ff, Bool.false_and]; exact Ev.now _
          · simp only [if_neg ho2, decide_eq_false ho2, Bool.false_and, Bool.and_false]; exact Ev.now _
        · have hw : widOK kind l = false := by simp [widOK, hko]
          by_cases ho2 : (old.size : Int) = wdi kind
          · simp only [if_pos ho2]
            refine (impl_wid kind l (by omega)).bind ?_
            simp only [hw, if_neg ff, Bool.false_and]; exact Ev.now _
          · simp only [if_neg ho2, hw, Bool.false_and]; exact Ev.now _
theorem fnExactCheckProof_pure : fnExactCheckProof.Pure0 := by
  intro kind m old n root l _ _ _ _ _ hl hs
  have hl' : l.length ≤ 9223372036854775807 := by unfold maxLen at hl; omega
  have ff : ¬ (false = true) := by decide
  have h : Ev (fun k => laws_FnExactCheckProof.f k kind m old n root l) true := by
    unfold laws_FnExactCheckProof.f
    by_cases he : (old.size : Int) > 1048576
    · simp only [if_pos he]; exact Ev.now _
    · by_cases hr : (root.size : Int) > 1048576
      · simp only [if_neg he, if_pos hr]; exact Ev.now _
      · simp only [if_neg he, if_neg hr]
        refine (szS_ev l 1048576 hl' (fun y hy => by have := hs y hy; unfold maxLen at this; omega) (by omega) (by omega)).bind ?_
        by_cases hc : (wtS l : Int) ≤ 1048576
        · simp only [if_pos hc, if_neg (show ¬ (1048576 - (wtS l : Int) < 0) by omega)]
          have hle : l.length ≤ 1048576 := by unfold wtS at hc; omega
          have hsz : ∀ y ∈ l, y.size ≤ 1000000000 := fun y hy => by have := mem_wt l y hy; unfold wtS at hc; omega
          have ht := toS_ev l (by omega)
          refine ht.bind ?_
          refine (spec_proof kind m old (by omega) n root l (by omega) hsz).bind ?_
          refine ht.bind ?_
          refine (impl_proof kind m old (by omega) n root l (by omega) hsz).bind ?_
          simp only [bne_self_eq_false, if_neg ff]
          refine ht.bind ?_
          refine (eqS_ev l hl').bind ?_
          simp only [if_true]
          exact Ev.now _
        · simp only [if_neg hc, if_pos (show (-1 : Int) < 0 by decide)]
          exact Ev.now _
  exact h.rounds
end Go.Proofs.YtcacdneodpoboaaDoor.Pure
namespace Go.Proofs.YtcacdneodpoboaaDoor
theorem fnExactCheckProof_holds : Rows.FnExactCheckProofCardSaid := fnExactCheckProof.card Pure.fnExactCheckProof_pure
#print axioms fnExactCheckProof_holds
end Go.Proofs.YtcacdneodpoboaaDoor
