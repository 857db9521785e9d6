/- Contracts of Holds (program and reference), the copies of a segment, and the walk of the law FnExactHolds. No condition. -/
import Derived.Test.YthhedpdldjmfpaaSeg
namespace Go.Proofs.Ythhedpdldjmfpaa
open Go.RowKit

theorem c_Holds (k l r a b c d : Int) (w : World) : Calls Try.prog 24 #[.agg #[.int .i64 k, .int .i64 l, .int .i64 r, .int .i64 a, .int .i64 b, .int .i64 c, .int .i64 d]] w fun e w' => e = .returned (.bool (segB k l r a b c d && holdsB k)) ∧ Below w.heap.size w w' := by
  go_enter Try.func24, Try.ntmps24
  go_wp2_with (first
    | (go_at_call 73
       refine (c_IsSegment _ _ _ _ _ _ _ _).mono ?_
       rintro e w1 ⟨rfl, hb⟩
       first | replace k0 := cell_later hb k0 | (have k0 : w1.cell? ⟨w.heap.size, 0, none⟩ = some (.int .i64 k) := cell_later hb (by go_simp))
       first | replace k1 := cell_later hb k1 | (have k1 : w1.cell? ⟨w.heap.size, 1, none⟩ = some (.int .i64 l) := cell_later hb (by go_simp))
       first | replace k2 := cell_later hb k2 | (have k2 : w1.cell? ⟨w.heap.size, 2, none⟩ = some (.int .i64 r) := cell_later hb (by go_simp))
       first | replace k3 := cell_later hb k3 | (have k3 : w1.cell? ⟨w.heap.size, 3, none⟩ = some (.int .i64 a) := cell_later hb (by go_simp))
       first | replace k4 := cell_later hb k4 | (have k4 : w1.cell? ⟨w.heap.size, 4, none⟩ = some (.int .i64 b) := cell_later hb (by go_simp))
       first | replace k5 := cell_later hb k5 | (have k5 : w1.cell? ⟨w.heap.size, 5, none⟩ = some (.int .i64 c) := cell_later hb (by go_simp))
       first | replace k6 := cell_later hb k6 | (have k6 : w1.cell? ⟨w.heap.size, 6, none⟩ = some (.int .i64 d) := cell_later hb (by go_simp))
       first | replace B := below_chain B hb | (have B : Below w.heap.size w w1 := below_chain (by (repeat (first | exact Below.refl _ _ | assumption | refine below_alloc ?_ _ | refine below_drewN ?_ _ | refine below_set ?_ _ (by simp; try omega) | refine Below.drew ?_))) hb)
       clear hb)
    | (go_at_call 74
       refine (c_holds _ _ _ _ _ _ _ _).mono ?_
       rintro e w1 ⟨rfl, hb⟩
       first | replace k0 := cell_later hb k0 | (have k0 : w1.cell? ⟨w.heap.size, 0, none⟩ = some (.int .i64 k) := cell_later hb (by go_simp))
       first | replace k1 := cell_later hb k1 | (have k1 : w1.cell? ⟨w.heap.size, 1, none⟩ = some (.int .i64 l) := cell_later hb (by go_simp))
       first | replace k2 := cell_later hb k2 | (have k2 : w1.cell? ⟨w.heap.size, 2, none⟩ = some (.int .i64 r) := cell_later hb (by go_simp))
       first | replace k3 := cell_later hb k3 | (have k3 : w1.cell? ⟨w.heap.size, 3, none⟩ = some (.int .i64 a) := cell_later hb (by go_simp))
       first | replace k4 := cell_later hb k4 | (have k4 : w1.cell? ⟨w.heap.size, 4, none⟩ = some (.int .i64 b) := cell_later hb (by go_simp))
       first | replace k5 := cell_later hb k5 | (have k5 : w1.cell? ⟨w.heap.size, 5, none⟩ = some (.int .i64 c) := cell_later hb (by go_simp))
       first | replace k6 := cell_later hb k6 | (have k6 : w1.cell? ⟨w.heap.size, 6, none⟩ = some (.int .i64 d) := cell_later hb (by go_simp))
       first | replace B := below_chain B hb | (have B : Below w.heap.size w w1 := below_chain (by (repeat (first | exact Below.refl _ _ | assumption | refine below_alloc ?_ _ | refine below_drewN ?_ _ | refine below_set ?_ _ (by simp; try omega) | refine Below.drew ?_))) hb)
       clear hb)
    )
  all_goals go_ret
  all_goals (refine ⟨?_, by (repeat (first | exact Below.refl _ _ | assumption | refine below_alloc ?_ _ | refine below_drewN ?_ _ | refine below_set ?_ _ (by simp; try omega) | refine Below.drew ?_))⟩)
  all_goals go_light
  all_goals simp [*]
theorem c_sHolds (k l r a b c d : Int) (w : World) : Calls Try.prog 22 #[.agg #[.int .i64 k, .int .i64 l, .int .i64 r, .int .i64 a, .int .i64 b, .int .i64 c, .int .i64 d]] w fun e w' => e = .returned (.bool (segB k l r a b c d && holdsB k)) ∧ Below w.heap.size w w' := by
  go_enter Try.func22, Try.ntmps22
  go_wp2_with (first
    | (go_at_call 71
       refine (c_sIsSegment _ _ _ _ _ _ _ _).mono ?_
       rintro e w1 ⟨rfl, hb⟩
       first | replace k0 := cell_later hb k0 | (have k0 : w1.cell? ⟨w.heap.size, 0, none⟩ = some (.int .i64 k) := cell_later hb (by go_simp))
       first | replace k1 := cell_later hb k1 | (have k1 : w1.cell? ⟨w.heap.size, 1, none⟩ = some (.int .i64 l) := cell_later hb (by go_simp))
       first | replace k2 := cell_later hb k2 | (have k2 : w1.cell? ⟨w.heap.size, 2, none⟩ = some (.int .i64 r) := cell_later hb (by go_simp))
       first | replace k3 := cell_later hb k3 | (have k3 : w1.cell? ⟨w.heap.size, 3, none⟩ = some (.int .i64 a) := cell_later hb (by go_simp))
       first | replace k4 := cell_later hb k4 | (have k4 : w1.cell? ⟨w.heap.size, 4, none⟩ = some (.int .i64 b) := cell_later hb (by go_simp))
       first | replace k5 := cell_later hb k5 | (have k5 : w1.cell? ⟨w.heap.size, 5, none⟩ = some (.int .i64 c) := cell_later hb (by go_simp))
       first | replace k6 := cell_later hb k6 | (have k6 : w1.cell? ⟨w.heap.size, 6, none⟩ = some (.int .i64 d) := cell_later hb (by go_simp))
       first | replace B := below_chain B hb | (have B : Below w.heap.size w w1 := below_chain (by (repeat (first | exact Below.refl _ _ | assumption | refine below_alloc ?_ _ | refine below_drewN ?_ _ | refine below_set ?_ _ (by simp; try omega) | refine Below.drew ?_))) hb)
       clear hb)
    | (go_at_call 72
       refine (c_l03Holds _ _ _ _ _ _ _ _).mono ?_
       rintro e w1 ⟨rfl, hb⟩
       first | replace k0 := cell_later hb k0 | (have k0 : w1.cell? ⟨w.heap.size, 0, none⟩ = some (.int .i64 k) := cell_later hb (by go_simp))
       first | replace k1 := cell_later hb k1 | (have k1 : w1.cell? ⟨w.heap.size, 1, none⟩ = some (.int .i64 l) := cell_later hb (by go_simp))
       first | replace k2 := cell_later hb k2 | (have k2 : w1.cell? ⟨w.heap.size, 2, none⟩ = some (.int .i64 r) := cell_later hb (by go_simp))
       first | replace k3 := cell_later hb k3 | (have k3 : w1.cell? ⟨w.heap.size, 3, none⟩ = some (.int .i64 a) := cell_later hb (by go_simp))
       first | replace k4 := cell_later hb k4 | (have k4 : w1.cell? ⟨w.heap.size, 4, none⟩ = some (.int .i64 b) := cell_later hb (by go_simp))
       first | replace k5 := cell_later hb k5 | (have k5 : w1.cell? ⟨w.heap.size, 5, none⟩ = some (.int .i64 c) := cell_later hb (by go_simp))
       first | replace k6 := cell_later hb k6 | (have k6 : w1.cell? ⟨w.heap.size, 6, none⟩ = some (.int .i64 d) := cell_later hb (by go_simp))
       first | replace B := below_chain B hb | (have B : Below w.heap.size w w1 := below_chain (by (repeat (first | exact Below.refl _ _ | assumption | refine below_alloc ?_ _ | refine below_drewN ?_ _ | refine below_set ?_ _ (by simp; try omega) | refine Below.drew ?_))) hb)
       clear hb)
    )
  all_goals go_ret
  all_goals (refine ⟨?_, by (repeat (first | exact Below.refl _ _ | assumption | refine below_alloc ?_ _ | refine below_drewN ?_ _ | refine below_set ?_ _ (by simp; try omega) | refine Below.drew ?_))⟩)
  all_goals go_light
  all_goals simp [*]
theorem c_toInterval (a b : Int) (w : World) : Calls Try.prog 60 #[.agg #[.int .i64 a, .int .i64 b]] w fun e w' => e = .returned (.agg #[.int .i64 a, .int .i64 b]) ∧ w' = ((w.alloc (.cells #[.int .i64 a, .int .i64 b] 23)).alloc (.cells #[.int .i64 a, .int .i64 b] 27)).alloc (.cells #[.int .i64 a, .int .i64 b] 27) := by
  go_enter Try.func60, Try.ntmps60
  go_wp2
  exact bodyPost_ret (v := .agg #[.int .i64 a, .int .i64 b]) (by simp [results, Try.results60, go_sem]) rfl ⟨rfl, rfl⟩
theorem c_toSegment (k l r a b c d : Int) (w : World) : Calls Try.prog 23 #[.agg #[.int .i64 k, .int .i64 l, .int .i64 r, .int .i64 a, .int .i64 b, .int .i64 c, .int .i64 d]] w fun e w' => e = .returned (.agg #[.int .i64 k, .int .i64 l, .int .i64 r, .int .i64 a, .int .i64 b, .int .i64 c, .int .i64 d]) ∧ Below w.heap.size w w' := by
  go_enter Try.func23, Try.ntmps23
  go_wp2_with (first
    | (go_at_call 60
       refine (c_toInterval _ _ _).mono ?_
       rintro e w1 ⟨rfl, rfl⟩)
    )
  refine bodyPost_ret (v := .agg #[.int .i64 k, .int .i64 l, .int .i64 r, .int .i64 a, .int .i64 b, .int .i64 c, .int .i64 d]) (by simp [results, Try.results23, go_sem]) rfl ⟨rfl, ?_⟩
  (repeat (first | exact Below.refl _ _ | assumption | refine below_alloc ?_ _ | refine below_drewN ?_ _ | refine below_set ?_ _ (by simp; try omega) | refine Below.drew ?_))
theorem law_Holds (k l r a b c d : Int) (w : World) : Calls Try.prog 3 #[.agg #[.int .i64 k, .int .i64 l, .int .i64 r, .int .i64 a, .int .i64 b, .int .i64 c, .int .i64 d]] w fun e w' => e = .returned (.bool true) ∧ Below w.heap.size w w' := by
  go_enter Try.func3, Try.ntmps3
  go_wp2_with (first
    | (go_at_call 23
       refine (c_toSegment _ _ _ _ _ _ _ _).mono ?_
       rintro e w1 ⟨rfl, hb⟩
       first | replace k0 := cell_later hb k0 | (have k0 : w1.cell? ⟨w.heap.size, 0, none⟩ = some (.int .i64 k) := cell_later hb (by go_simp))
       first | replace k1 := cell_later hb k1 | (have k1 : w1.cell? ⟨w.heap.size, 1, none⟩ = some (.int .i64 l) := cell_later hb (by go_simp))
       first | replace k2 := cell_later hb k2 | (have k2 : w1.cell? ⟨w.heap.size, 2, none⟩ = some (.int .i64 r) := cell_later hb (by go_simp))
       first | replace k3 := cell_later hb k3 | (have k3 : w1.cell? ⟨w.heap.size, 3, none⟩ = some (.int .i64 a) := cell_later hb (by go_simp))
       first | replace k4 := cell_later hb k4 | (have k4 : w1.cell? ⟨w.heap.size, 4, none⟩ = some (.int .i64 b) := cell_later hb (by go_simp))
       first | replace k5 := cell_later hb k5 | (have k5 : w1.cell? ⟨w.heap.size, 5, none⟩ = some (.int .i64 c) := cell_later hb (by go_simp))
       first | replace k6 := cell_later hb k6 | (have k6 : w1.cell? ⟨w.heap.size, 6, none⟩ = some (.int .i64 d) := cell_later hb (by go_simp))
       first | replace B := below_chain B hb | (have B : Below w.heap.size w w1 := below_chain (by (repeat (first | exact Below.refl _ _ | assumption | refine below_alloc ?_ _ | refine below_drewN ?_ _ | refine below_set ?_ _ (by simp; try omega) | refine Below.drew ?_))) hb)
       clear hb)
    | (go_at_call 24
       refine (c_Holds _ _ _ _ _ _ _ _).mono ?_
       rintro e w1 ⟨rfl, hb⟩
       first | replace k0 := cell_later hb k0 | (have k0 : w1.cell? ⟨w.heap.size, 0, none⟩ = some (.int .i64 k) := cell_later hb (by go_simp))
       first | replace k1 := cell_later hb k1 | (have k1 : w1.cell? ⟨w.heap.size, 1, none⟩ = some (.int .i64 l) := cell_later hb (by go_simp))
       first | replace k2 := cell_later hb k2 | (have k2 : w1.cell? ⟨w.heap.size, 2, none⟩ = some (.int .i64 r) := cell_later hb (by go_simp))
       first | replace k3 := cell_later hb k3 | (have k3 : w1.cell? ⟨w.heap.size, 3, none⟩ = some (.int .i64 a) := cell_later hb (by go_simp))
       first | replace k4 := cell_later hb k4 | (have k4 : w1.cell? ⟨w.heap.size, 4, none⟩ = some (.int .i64 b) := cell_later hb (by go_simp))
       first | replace k5 := cell_later hb k5 | (have k5 : w1.cell? ⟨w.heap.size, 5, none⟩ = some (.int .i64 c) := cell_later hb (by go_simp))
       first | replace k6 := cell_later hb k6 | (have k6 : w1.cell? ⟨w.heap.size, 6, none⟩ = some (.int .i64 d) := cell_later hb (by go_simp))
       first | replace B := below_chain B hb | (have B : Below w.heap.size w w1 := below_chain (by (repeat (first | exact Below.refl _ _ | assumption | refine below_alloc ?_ _ | refine below_drewN ?_ _ | refine below_set ?_ _ (by simp; try omega) | refine Below.drew ?_))) hb)
       clear hb)
    | (go_at_call 22
       refine (c_sHolds _ _ _ _ _ _ _ _).mono ?_
       rintro e w1 ⟨rfl, hb⟩
       first | replace k0 := cell_later hb k0 | (have k0 : w1.cell? ⟨w.heap.size, 0, none⟩ = some (.int .i64 k) := cell_later hb (by go_simp))
       first | replace k1 := cell_later hb k1 | (have k1 : w1.cell? ⟨w.heap.size, 1, none⟩ = some (.int .i64 l) := cell_later hb (by go_simp))
       first | replace k2 := cell_later hb k2 | (have k2 : w1.cell? ⟨w.heap.size, 2, none⟩ = some (.int .i64 r) := cell_later hb (by go_simp))
       first | replace k3 := cell_later hb k3 | (have k3 : w1.cell? ⟨w.heap.size, 3, none⟩ = some (.int .i64 a) := cell_later hb (by go_simp))
       first | replace k4 := cell_later hb k4 | (have k4 : w1.cell? ⟨w.heap.size, 4, none⟩ = some (.int .i64 b) := cell_later hb (by go_simp))
       first | replace k5 := cell_later hb k5 | (have k5 : w1.cell? ⟨w.heap.size, 5, none⟩ = some (.int .i64 c) := cell_later hb (by go_simp))
       first | replace k6 := cell_later hb k6 | (have k6 : w1.cell? ⟨w.heap.size, 6, none⟩ = some (.int .i64 d) := cell_later hb (by go_simp))
       first | replace B := below_chain B hb | (have B : Below w.heap.size w w1 := below_chain (by (repeat (first | exact Below.refl _ _ | assumption | refine below_alloc ?_ _ | refine below_drewN ?_ _ | refine below_set ?_ _ (by simp; try omega) | refine Below.drew ?_))) hb)
       clear hb)
    )
  all_goals go_ret
  all_goals (refine ⟨?_, by (repeat (first | exact Below.refl _ _ | assumption | refine below_alloc ?_ _ | refine below_drewN ?_ _ | refine below_set ?_ _ (by simp; try omega) | refine Below.drew ?_))⟩)
  all_goals go_light
  all_goals simp [*]
end Go.Proofs.Ythhedpdldjmfpaa
