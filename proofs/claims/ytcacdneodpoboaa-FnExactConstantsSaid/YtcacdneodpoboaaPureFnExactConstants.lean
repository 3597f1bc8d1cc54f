/- The program's exported constants are the document's: the law FnExactConstants over the printed function; no condition. -/
import Derived.Test.YtcacdneodpoboaaLx1
namespace Go.Proofs.Ytcacdneodpoboaa.Pure
open Go.RowKit Go.Proofs.Ytcacdneodpoboaa.L Go.Proofs.YtcacdneodpoboaaW.PrintWords Go.Proofs.YtcacdneodpoboaaW.PrintLast

theorem FnExactConstants : laws_FnExactConstants.Pure := rfl

end Go.Proofs.Ytcacdneodpoboaa.Pure
