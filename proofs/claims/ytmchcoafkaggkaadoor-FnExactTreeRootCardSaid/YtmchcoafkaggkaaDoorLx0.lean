/- Functions of the translation as plain Lean functions, each with the proof that the Go code comes to just what it says (the contracts), or the row of a law out of these: made by gprint.py (ours); no condition but those that each theorem states. -/
import Derived.Test.YtmchcoafkaggkaaDoorProg
import Derived.Below
import Derived.Deep.Draws
import Derived.Deep.AppendLies
import Derived.Maps.AppendAt
import Derived.OwnWalk
import Derived.Laws.BytesArg
import Derived.Laws.MakeOwn
import Derived.Laws.OwnMore
import Derived.Deep.OwnRows
import Derived.Tactics
import Derived.Lib.ConvBytes
import Derived.Laws.Slices
import Derived.WalkKit
import Derived.KernelRfl
import Derived.RowKit3
import Derived.Deep.LoopGhost
import Derived.Deep.QuietTactic
import Derived.BigQuiet
import Derived.WideLaws
import Derived.Deep.DeepCutAuto
import Derived.Deep.CutBlock
import Derived.Deep.RegionHeld3
import Derived.Laws.Rows
import Derived.Lib.AppendStr
import Derived.ArgAppend
import Derived.Laws.IdiomCopy
import Derived.OrdersHeld
import Derived.Laws.BitsLemmas
import Derived.RowKit
import Derived.Test.YtmchcoafkaggkaaDoorBase
import Derived.Test.YtmchcoafkaggkaaDoorGlob
import Derived.Test.YtmchcoafkaggkaaDoorWWords
import Derived.Test.YtmchcoafkaggkaaDoorWLast
import Derived.Test.YtmchcoafkaggkaaDoorWTab
import Derived.Test.YtmchcoafkaggkaaDoorWFour
import Derived.Test.YtmchcoafkaggkaaDoorWQPut
import Derived.Test.YtmchcoafkaggkaaDoorWApart
import Derived.Test.YtmchcoafkaggkaaDoorWArr
import Derived.Test.YtmchcoafkaggkaaDoorWZeros
import Derived.Test.YtmchcoafkaggkaaDoorWFoot
import Derived.Test.YtmchcoafkaggkaaDoorWKept
import Derived.Test.YtmchcoafkaggkaaDoorWShare
import Derived.Test.YtmchcoafkaggkaaDoorWN
import Derived.Test.YtmchcoafkaggkaaDoorWFootNe
import Derived.Test.YtmchcoafkaggkaaDoorWAt
import Derived.Test.YtmchcoafkaggkaaDoorWEqStruct
import Derived.Test.YtmchcoafkaggkaaDoorWRepsOne
import Derived.Test.YtmchcoafkaggkaaDoorWInv
import Derived.Test.YtmchcoafkaggkaaDoorWInvWords
import Derived.Test.YtmchcoafkaggkaaDoorWGuard
import Derived.Test.YtmchcoafkaggkaaDoorWNEv
import Derived.Test.YtmchcoafkaggkaaDoorWMore
namespace Go.Proofs.YtmchcoafkaggkaaDoor.L
open Go.RowKit Go.Proofs.YtmchcoafkaggkaaDoorW.PrintWords Go.Proofs.YtmchcoafkaggkaaDoorW.PrintLast Go.Proofs.YtmchcoafkaggkaaDoorW.PrintMore
attribute [local go_sem] max2_int min2_int max_two min_two max_three min_three max_four min_four   -- for this text's walks alone
set_option linter.unusedVariables false
set_option linter.unusedSimpArgs false



def errW : Option Int → Value
  | none => .nilIface
  | some c => .iface 0 (.int .i64 c)
theorem errW_none : errW none = .nilIface := rfl
theorem errW_some (c : Int) : errW (some c) = .iface 0 (.int .i64 c) := rfl

theorem info5 : (Tryd.prog.info? 5).map (fun i => (i.zero, i.size, i.bytes)) = some (some (.int .u8 0), 1, 1) := by kernel_rfl
theorem info9 : (Tryd.prog.info? 9).map (fun i => (i.zero, i.size, i.bytes)) = some (some (.string ⟨#[]⟩), 1, 16) := by kernel_rfl
theorem info137 : (Tryd.prog.info? 137).map (fun i => (i.zero, i.size, i.bytes)) = some (some (.int .u32 0), 1, 4) := by kernel_rfl
-- the values' own types

end Go.Proofs.YtmchcoafkaggkaaDoor.L
