/-
  DERIVED. GIVEN WITH THE SEED: THE PROGRAM's TIES (one call each: nine closed facts by the kernel) AND EACH ROW's TIE, after the 31st guide's Derived/Test/Toyas{Tie, Card}.lean. No idea stands in it: it is a product of the set-up. Laid BY PROGRAM, IN A SANDBOX (cutbox-door.mjs). By AI agents, Wed Nov 11 2026. No macro, syntax, notation, axiom, sorry.
-/
import Derived.Test.YtmchcoafkaggkaaDoorRows
import Derived.LaidByTextLater
import Derived.SevenTiedAt
import Derived.LaidSub
import Derived.LaidOnce
namespace Go.Proofs.YtmchcoafkaggkaaDoor
open Go
set_option maxRecDepth 100000
theorem seatTie1 : Tryd.prog.laidByTextLater [("loop.example/s02884/impl.roundWords", Rows.laid_loop_example_s02884_impl_roundWords), ("loop.example/s02884/impl.keywords", Rows.laid_loop_example_s02884_impl_keywords)] [.data, .mapped] true :=
  Program.laidByTextLater_by_one 104 8 65 (by kernel_rfl) (by kernel_rfl) (by kernel_rfl) (by kernel_rfl) (by kernel_rfl) (by kernel_rfl) (fun _ _ => by kernel_rfl)
theorem noOwnUnsafe : Tryd.pinned.checked.prog.headLifts.contains "ownunsafe" = false := by kernel_rfl
theorem tie : Tryd.prog.laidByTextLater [("loop.example/s02884/impl.roundWords", Rows.laid_loop_example_s02884_impl_roundWords)] [.data] true :=
  Program.laidByTextLater.sub seatTie1 ["loop.example/s02884/impl.roundWords"] (by kernel_rfl) (by kernel_rfl)
theorem fnExactTreeRoot_row_tie : Rows.fnExactTreeRootRow.laidByTextAt .later Tryd.pinned [.data] true :=
  OpenClaim.laidByTextAt_later rfl rfl tie noOwnUnsafe
theorem fnExactGrow_row_tie : Rows.fnExactGrowRow.laidByTextAt .later Tryd.pinned [.data] true :=
  OpenClaim.laidByTextAt_later rfl rfl tie noOwnUnsafe
theorem tie2 : Tryd.prog.laidByTextLater [("loop.example/s02884/impl.keywords", Rows.laid_loop_example_s02884_impl_keywords)] [.mapped] true :=
  Program.laidByTextLater.sub seatTie1 ["loop.example/s02884/impl.keywords"] (by kernel_rfl) (by kernel_rfl)
theorem fnExactDbOK_row_tie : Rows.fnExactDbOKRow.laidByTextAt .later Tryd.pinned [.mapped] true :=
  OpenClaim.laidByTextAt_later rfl rfl tie2 noOwnUnsafe
theorem fnExactStmOK_row_tie : Rows.fnExactStmOKRow.laidByTextAt .later Tryd.pinned [.mapped] true :=
  OpenClaim.laidByTextAt_later rfl rfl tie2 noOwnUnsafe
theorem fnExactTreeRootUpto_row_tie : Rows.fnExactTreeRootUptoRow.laidByTextAt .later Tryd.pinned [.data] true :=
  OpenClaim.laidByTextAt_later rfl rfl tie noOwnUnsafe
theorem fnExactGrowUpto_row_tie : Rows.fnExactGrowUptoRow.laidByTextAt .later Tryd.pinned [.data] true :=
  OpenClaim.laidByTextAt_later rfl rfl tie noOwnUnsafe
theorem fnExactDbOKUpto_row_tie : Rows.fnExactDbOKUptoRow.laidByTextAt .later Tryd.pinned [.mapped] true :=
  OpenClaim.laidByTextAt_later rfl rfl tie2 noOwnUnsafe
theorem fnExactStmOKUpto_row_tie : Rows.fnExactStmOKUptoRow.laidByTextAt .later Tryd.pinned [.mapped] true :=
  OpenClaim.laidByTextAt_later rfl rfl tie2 noOwnUnsafe
end Go.Proofs.YtmchcoafkaggkaaDoor
