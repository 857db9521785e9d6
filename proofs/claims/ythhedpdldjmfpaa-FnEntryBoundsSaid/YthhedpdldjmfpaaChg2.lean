/- Contract of slows, needed sums (program and reference). -/
import Derived.Test.YthhedpdldjmfpaaChg
import Derived.Test.YthhedpdldjmfpaaPosW
namespace Go.Proofs.Ythhedpdldjmfpaa
open Go.RowKit

theorem fld0 (x y : Int) (w : World) : (Instr.field 27 (.agg #[.int .i64 x, .int .i64 y]) 0).run Try.prog w = .ok (.int .i64 x) w := by kernel_rfl
theorem fld1 (x y : Int) (w : World) : (Instr.field 27 (.agg #[.int .i64 x, .int .i64 y]) 1).run Try.prog w = .ok (.int .i64 y) w := by kernel_rfl
set_option maxRecDepth 100000 in
theorem c_slows (s : Seg) (w : World) (h : segOk s = true) : Calls Try.prog 148 #[s.val] w fun e w' => e = .returned (.bool (brkB s.k && decide (1 ≤ wLo s))) ∧ Below w.heap.size w w' := by
  have HS := Lib.hid h
  have hw := c_work s
  have hw2 := wLo_bd (segBd h)
  clear h
  unfold Seg.val at hw ⊢
  have hib := c_isBrake s
  unfold Seg.val at hib
  have hf0 := fld0
  have hf1 := fld1
  go_enter Try.func148, Try.ntmps148
  go_wp2_with (first
    | (go_at_call 121
       refine (hib _).mono ?_
       rintro e w1 ⟨rfl, hb⟩
       first | replace k0 := cell_later hb k0 | (have k0 : w1.cell? ⟨w.heap.size, 0, none⟩ = some (.int .i64 s.k) := cell_later hb (by go_simp))
       first | replace k1 := cell_later hb k1 | (have k1 : w1.cell? ⟨w.heap.size, 1, none⟩ = some (.int .i64 s.l) := cell_later hb (by go_simp))
       first | replace k2 := cell_later hb k2 | (have k2 : w1.cell? ⟨w.heap.size, 2, none⟩ = some (.int .i64 s.r) := cell_later hb (by go_simp))
       first | replace k3 := cell_later hb k3 | (have k3 : w1.cell? ⟨w.heap.size, 3, none⟩ = some (.int .i64 s.a) := cell_later hb (by go_simp))
       first | replace k4 := cell_later hb k4 | (have k4 : w1.cell? ⟨w.heap.size, 4, none⟩ = some (.int .i64 s.b) := cell_later hb (by go_simp))
       first | replace k5 := cell_later hb k5 | (have k5 : w1.cell? ⟨w.heap.size, 5, none⟩ = some (.int .i64 s.c) := cell_later hb (by go_simp))
       first | replace k6 := cell_later hb k6 | (have k6 : w1.cell? ⟨w.heap.size, 6, none⟩ = some (.int .i64 s.d) := cell_later hb (by go_simp))
       first | replace B := below_chain B hb | (have B : Below w.heap.size w w1 := below_chain (by (repeat (first | exact Below.refl _ _ | assumption | refine below_alloc ?_ _ | refine below_drewN ?_ _ | refine below_set ?_ _ (by simp; try omega) | refine Below.drew ?_))) hb)
       clear hb)
    | (go_at_call 149
       refine (hw _ HS.out).mono ?_
       rintro e w1 ⟨rfl, hb⟩
       first | replace k0 := cell_later hb k0 | (have k0 : w1.cell? ⟨w.heap.size, 0, none⟩ = some (.int .i64 s.k) := cell_later hb (by go_simp))
       first | replace k1 := cell_later hb k1 | (have k1 : w1.cell? ⟨w.heap.size, 1, none⟩ = some (.int .i64 s.l) := cell_later hb (by go_simp))
       first | replace k2 := cell_later hb k2 | (have k2 : w1.cell? ⟨w.heap.size, 2, none⟩ = some (.int .i64 s.r) := cell_later hb (by go_simp))
       first | replace k3 := cell_later hb k3 | (have k3 : w1.cell? ⟨w.heap.size, 3, none⟩ = some (.int .i64 s.a) := cell_later hb (by go_simp))
       first | replace k4 := cell_later hb k4 | (have k4 : w1.cell? ⟨w.heap.size, 4, none⟩ = some (.int .i64 s.b) := cell_later hb (by go_simp))
       first | replace k5 := cell_later hb k5 | (have k5 : w1.cell? ⟨w.heap.size, 5, none⟩ = some (.int .i64 s.c) := cell_later hb (by go_simp))
       first | replace k6 := cell_later hb k6 | (have k6 : w1.cell? ⟨w.heap.size, 6, none⟩ = some (.int .i64 s.d) := cell_later hb (by go_simp))
       first | replace B := below_chain B hb | (have B : Below w.heap.size w w1 := below_chain (by (repeat (first | exact Below.refl _ _ | assumption | refine below_alloc ?_ _ | refine below_drewN ?_ _ | refine below_set ?_ _ (by simp; try omega) | refine Below.drew ?_))) hb)
       clear hb)
    )
  all_goals go_ret
  all_goals (refine ⟨ret_bool (by simp [*]), by (repeat (first | exact Below.refl _ _ | assumption | refine below_alloc ?_ _ | refine below_drewN ?_ _ | refine below_set ?_ _ (by simp; try omega) | refine Below.drew ?_))⟩)
end Go.Proofs.Ythhedpdldjmfpaa
