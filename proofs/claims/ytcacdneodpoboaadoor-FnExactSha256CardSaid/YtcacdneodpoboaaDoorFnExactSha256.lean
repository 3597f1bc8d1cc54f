/- The law FnExactSha256: proved over the printed functions; then the row, and the tied card. -/
import Derived.Test.YtcacdneodpoboaaDoorLx5
import Derived.Test.YtcacdneodpoboaaDoorRowFnExactSha256
import Derived.Test.YtcacdneodpoboaaDoorShaP
set_option linter.unusedVariables false
set_option linter.unusedSimpArgs false
namespace Go.Proofs.YtcacdneodpoboaaDoor.Pure
open Go Go.RowKit Go.Proofs.YtcacdneodpoboaaDoor Go.Proofs.YtcacdneodpoboaaDoor.L Go.Proofs.YtcacdneodpoboaaDoorW.PrintWords Go.Proofs.YtcacdneodpoboaaDoorW.PrintMore Go.Proofs.YtcacdneodpoboaaDoorW.PrintLast
theorem impl_sha0 (s : ByteArray) (hs : s.size ≤ 1099511627776) : impl_Sha256.f s = some (shaI s) := by rw [impl_Sha256.f, if_pos hs]
theorem fnExactSha256_pure : fnExactSha256.Pure0 := by
  intro s hs
  have h : Ev (fun k => laws_FnExactSha256.f k s) true := by
    unfold laws_FnExactSha256.f
    by_cases hc : (s.size : Int) > 1048576
    · simp only [if_pos hc]; exact Ev.now _
    · simp only [if_neg hc]
      refine (spec_sha s (by omega)).bind ?_
      simp only [impl_sha0 s (by omega), Option.bind_some, if_true]
      exact Ev.now _
  exact h.rounds
end Go.Proofs.YtcacdneodpoboaaDoor.Pure
namespace Go.Proofs.YtcacdneodpoboaaDoor
theorem fnExactSha256_holds : Rows.FnExactSha256CardSaid := fnExactSha256.card Pure.fnExactSha256_pure
#print axioms fnExactSha256_holds
end Go.Proofs.YtcacdneodpoboaaDoor
