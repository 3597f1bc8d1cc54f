/- The law FnExactNode: proved over the printed functions; then the row, and the tied card. -/
import Derived.Test.YtcacdneodpoboaaDoorLx5
import Derived.Test.YtcacdneodpoboaaDoorRowFnExactNode
import Derived.Test.YtcacdneodpoboaaDoorMerkP
set_option linter.unusedVariables false
set_option linter.unusedSimpArgs false
namespace Go.Proofs.YtcacdneodpoboaaDoor.Pure
open Go Go.RowKit Go.Proofs.YtcacdneodpoboaaDoor Go.Proofs.YtcacdneodpoboaaDoor.L Go.Proofs.YtcacdneodpoboaaDoorW.PrintWords Go.Proofs.YtcacdneodpoboaaDoorW.PrintMore Go.Proofs.YtcacdneodpoboaaDoorW.PrintLast
theorem fnExactNode_pure : fnExactNode.Pure0 := by
  intro kind l r _ hl hr
  have h : Ev (fun k => laws_FnExactNode.f k kind l r) true := by
    unfold laws_FnExactNode.f
    by_cases hc : (l.size : Int) > 1048576
    · simp only [if_pos hc]; exact Ev.now _
    · simp only [if_neg hc]
      by_cases hd : (r.size : Int) > 1048576
      · simp only [if_pos hd]; exact Ev.now _
      · simp only [if_neg hd]
        refine (spec_node kind l r (by omega) (by omega)).bind ?_
        simp only [impl_node kind l r (by omega) (by omega), Option.bind_some, if_true]
        exact Ev.now _
  exact h.rounds
end Go.Proofs.YtcacdneodpoboaaDoor.Pure
namespace Go.Proofs.YtcacdneodpoboaaDoor
theorem fnExactNode_holds : Rows.FnExactNodeCardSaid := fnExactNode.card Pure.fnExactNode_pure
#print axioms fnExactNode_holds
end Go.Proofs.YtcacdneodpoboaaDoor
