/- Functions of the translation as plain Lean functions, each with the proof that the Go code comes to just what it says (the contracts), or the row of a law out of these: made by gprint.py (ours); no condition but those that each theorem states. -/
import Derived.Test.YtcacdneodpoboaaDoorProg
import Derived.Below
import Derived.Deep.Draws
import Derived.Deep.AppendLies
import Derived.Maps.AppendAt
import Derived.OwnWalk
import Derived.Laws.BytesArg
import Derived.Laws.MakeOwn
import Derived.Laws.OwnMore
import Derived.Deep.OwnRows
import Derived.Tactics
import Derived.Lib.ConvBytes
import Derived.Laws.Slices
import Derived.WalkKit
import Derived.KernelRfl
import Derived.RowKit3
import Derived.Deep.LoopGhost
import Derived.Deep.QuietTactic
import Derived.BigQuiet
import Derived.WideLaws
import Derived.Deep.DeepCutAuto
import Derived.Deep.CutBlock
import Derived.Deep.RegionHeld3
import Derived.Laws.Rows
import Derived.Lib.AppendStr
import Derived.ArgAppend
import Derived.Laws.IdiomCopy
import Derived.OrdersHeld
import Derived.Laws.BitsLemmas
import Derived.RowKit
import Derived.Test.YtcacdneodpoboaaDoorBase
import Derived.Test.YtcacdneodpoboaaDoorGlob
import Derived.Test.YtcacdneodpoboaaDoorWWords
import Derived.Test.YtcacdneodpoboaaDoorWLast
import Derived.Test.YtcacdneodpoboaaDoorWTab
import Derived.Test.YtcacdneodpoboaaDoorWFour
import Derived.Test.YtcacdneodpoboaaDoorWQPut
import Derived.Test.YtcacdneodpoboaaDoorWApart
import Derived.Test.YtcacdneodpoboaaDoorWArr
import Derived.Test.YtcacdneodpoboaaDoorWZeros
import Derived.Test.YtcacdneodpoboaaDoorWFoot
import Derived.Test.YtcacdneodpoboaaDoorWKept
import Derived.Test.YtcacdneodpoboaaDoorWShare
import Derived.Test.YtcacdneodpoboaaDoorWN
import Derived.Test.YtcacdneodpoboaaDoorWFootNe
import Derived.Test.YtcacdneodpoboaaDoorWAt
import Derived.Test.YtcacdneodpoboaaDoorWEqStruct
import Derived.Test.YtcacdneodpoboaaDoorWRepsOne
import Derived.Test.YtcacdneodpoboaaDoorWInv
import Derived.Test.YtcacdneodpoboaaDoorWInvWords
import Derived.Test.YtcacdneodpoboaaDoorWGuard
import Derived.Test.YtcacdneodpoboaaDoorWNEv
import Derived.Test.YtcacdneodpoboaaDoorWMore
namespace Go.Proofs.YtcacdneodpoboaaDoor.L
open Go.RowKit Go.Proofs.YtcacdneodpoboaaDoorW.PrintWords Go.Proofs.YtcacdneodpoboaaDoorW.PrintLast Go.Proofs.YtcacdneodpoboaaDoorW.PrintMore
attribute [local go_sem] max2_int min2_int max_two min_two max_three min_three max_four min_four   -- for this text's walks alone
set_option linter.unusedVariables false
set_option linter.unusedSimpArgs false



def errW : Option Int → Value
  | none => .nilIface
  | some c => .iface 0 (.int .i64 c)
theorem errW_none : errW none = .nilIface := rfl
theorem errW_some (c : Int) : errW (some c) = .iface 0 (.int .i64 c) := rfl

theorem info5 : (Tryd.prog.info? 5).map (fun i => (i.zero, i.size, i.bytes)) = some (some (.int .u8 0), 1, 1) := by kernel_rfl
theorem info9 : (Tryd.prog.info? 9).map (fun i => (i.zero, i.size, i.bytes)) = some (some (.string ⟨#[]⟩), 1, 16) := by kernel_rfl
theorem info35 : (Tryd.prog.info? 35).map (fun i => (i.zero, i.size, i.bytes)) = some (some (.int .u32 0), 1, 4) := by kernel_rfl
-- the values' own types

end Go.Proofs.YtcacdneodpoboaaDoor.L
