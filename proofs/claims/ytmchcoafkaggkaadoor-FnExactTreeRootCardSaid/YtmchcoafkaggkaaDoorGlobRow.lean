/- From a row's condition on the listed variables to what the functions ask of the world (GOK). -/
import Derived.Test.YtmchcoafkaggkaaDoorRows
import Derived.Test.YtmchcoafkaggkaaDoorGlob
import Derived.Lib.LaidTab
import Derived.LaidMore
set_option linter.unusedVariables false
namespace Go.Proofs.YtmchcoafkaggkaaDoor
open Go Go.RowKit
theorem kw_named : Tryd.prog.globalNamed "loop.example/s02884/impl.roundWords" = some 1 := by kernel_rfl
theorem kw_type : (Tryd.prog.globals[1]?).map (·.type) = some 154 := by kernel_rfl
theorem kw_cells : Tryd.prog.cellsOf 137 = 1 := by kernel_rfl
theorem kw_cells64 : Tryd.prog.cellsOf 154 = 64 := by kernel_rfl
theorem gok_of_laid {W : World} (h : laidMetH Tryd.prog [("loop.example/s02884/impl.roundWords", Rows.laid_loop_example_s02884_impl_roundWords)] W) : GOK W := by
  rw [MakeChecks.laidMetH_plain _ _ _ (by kernel_rfl)] at h
  have hT := Lib.tabIs_of_head (k := .u32) (zs := kw) (rest := []) kw_named kw_type Tryd.underlying154 Tryd.underlying137 kw_cells kw_cells64 h
  exact fun i hi => hT.cell kw_named i hi
end Go.Proofs.YtmchcoafkaggkaaDoor
