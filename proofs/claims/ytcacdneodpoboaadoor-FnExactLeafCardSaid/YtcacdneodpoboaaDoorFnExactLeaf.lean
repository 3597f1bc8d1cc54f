/- The law FnExactLeaf: proved over the printed functions; then the row, and the tied card. -/
import Derived.Test.YtcacdneodpoboaaDoorLx5
import Derived.Test.YtcacdneodpoboaaDoorRowFnExactLeaf
import Derived.Test.YtcacdneodpoboaaDoorMerkP
set_option linter.unusedVariables false
set_option linter.unusedSimpArgs false
namespace Go.Proofs.YtcacdneodpoboaaDoor.Pure
open Go Go.RowKit Go.Proofs.YtcacdneodpoboaaDoor Go.Proofs.YtcacdneodpoboaaDoor.L Go.Proofs.YtcacdneodpoboaaDoorW.PrintWords Go.Proofs.YtcacdneodpoboaaDoorW.PrintMore Go.Proofs.YtcacdneodpoboaaDoorW.PrintLast
theorem fnExactLeaf_pure : fnExactLeaf.Pure0 := by
  intro kind s _ hs
  have h : Ev (fun k => laws_FnExactLeaf.f k kind s) true := by
    unfold laws_FnExactLeaf.f
    by_cases hc : (s.size : Int) > 1048576
    · simp only [if_pos hc]; exact Ev.now _
    · simp only [if_neg hc]
      refine (spec_leaf kind s (by omega)).bind ?_
      simp only [impl_leaf kind s (by omega), Option.bind_some, if_true]
      exact Ev.now _
  exact h.rounds
end Go.Proofs.YtcacdneodpoboaaDoor.Pure
namespace Go.Proofs.YtcacdneodpoboaaDoor
theorem fnExactLeaf_holds : Rows.FnExactLeafCardSaid := fnExactLeaf.card Pure.fnExactLeaf_pure
#print axioms fnExactLeaf_holds
end Go.Proofs.YtcacdneodpoboaaDoor
