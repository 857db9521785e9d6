/- What the listed tables give: the powers of ten. No condition. -/
import Derived.Test.YtgpmglfcdbpgkaaDoorOpenM
import Derived.Test.YtgpmglfcdbpgkaaDoorTxI
import Derived.LaidMore
import Derived.MakeChecks
import Derived.Stop.LaidErr
namespace Go.Proofs.YtgpmglfcdbpgkaaDoor
open Go.ChangeShapes Go.WideShapes Go.ChangeAt Go.RowKit Go.Deep

theorem g_pow : Tryd.prog.globalNamed "internal/strconv.uint64pow10" = some 0 := by kernel_rfl
theorem g_powType : (Tryd.prog.globals[0]?).map (·.type) = some 121 := by kernel_rfl
theorem cells_pow : Tryd.prog.cellsOf 121 = 20 := by kernel_rfl
theorem cells_u64 : Tryd.prog.cellsOf 111 = 1 := by kernel_rfl
theorem pow_datum : (Rows.laid_internal_strconv_uint64pow10 : DataW Unit) = Lib.tabData .u64 Lib.pow10Tab := by rfl
/-- What the condition gives the walks. -/
theorem pw_of {W : World} (h : laidMetH Tryd.prog Rows.fnExactModelTextRow.laid W) : Pw W := by
  rw [MakeChecks.laidMetH_plain _ _ _ (by kernel_rfl)] at h
  have h2 := h.tail.tail
  exact Lib.tabIs_of_head g_pow g_powType Tryd.underlying121 Tryd.underlying111 cells_u64 cells_pow (by rw [← pow_datum]; exact h2)
set_option maxRecDepth 100000 in
/-- The heap that the program's own start leaves meets the condition. -/
theorem door_met (os : Os) (args : Array Value) : laidMetH Tryd.prog Rows.fnExactModelTextRow.laid ((World.doorLaid Tryd.prog 400 os).forCall (fun _ _ => 0) ⟨#[], args, []⟩).memory :=
  laidMetH_of_parts3 (fuel := 8) (laidMet_of_run' 8 (by kernel_rfl) (by kernel_rfl)) (by kernel_rfl) (by kernel_rfl)
end Go.Proofs.YtgpmglfcdbpgkaaDoor
