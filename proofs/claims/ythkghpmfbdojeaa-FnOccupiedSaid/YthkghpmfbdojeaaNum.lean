/- Contracts of the small functions on numbers and intervals: what each computes. No condition. -/
import Derived.Test.YthkghpmfbdojeaaBase
namespace Go.Proofs.Ythkghpmfbdojeaa
open Go.RowKit

def inB (x lo hi : Int) : Bool := decide (lo ≤ x ∧ x ≤ hi)
theorem c_within (x lo hi : Int) (w : World) : Calls Try.prog 53 #[.int .i64 x, .int .i64 lo, .int .i64 hi] w fun e w' => e = .returned (.bool (inB x lo hi)) ∧ w = w' := by
  go_enter Try.func53, Try.ntmps53
  go_wp2
  all_goals (go_ret)
  all_goals (refine ⟨?_, rfl⟩; congr 2; simp [inB]; omega)
theorem c_l01In (x lo hi : Int) (w : World) : Calls Try.prog 43 #[.int .i64 x, .int .i64 lo, .int .i64 hi] w fun e w' => e = .returned (.bool (inB x lo hi)) ∧ w = w' := by
  go_enter Try.func43, Try.ntmps43
  go_wp2
  all_goals (go_ret)
  all_goals (refine ⟨?_, rfl⟩; congr 2; simp [inB]; omega)
def valB (x : Int) : Bool := inB x (-1000000000000) 1000000000000
theorem c_isValue (x : Int) (w : World) : Calls Try.prog 80 #[.int .i64 x] w fun e w' => e = .returned (.bool (valB x)) ∧ w = w' := by
  go_enter Try.func80, Try.ntmps80
  go_wp2_with (first
    | (go_at_call 53
       refine (c_within _ _ _ _).mono ?_
       rintro e w' ⟨rfl, rfl⟩)
    )
  go_ret
  exact ⟨rfl, rfl⟩
theorem c_l01Is (x : Int) (w : World) : Calls Try.prog 81 #[.int .i64 x] w fun e w' => e = .returned (.bool (valB x)) ∧ w = w' := by
  go_enter Try.func81, Try.ntmps81
  go_wp2_with (first
    | (go_at_call 43
       refine (c_l01In _ _ _ _).mono ?_
       rintro e w' ⟨rfl, rfl⟩)
    )
  go_ret
  exact ⟨rfl, rfl⟩
def leB (a b : Int) : Bool := decide (a ≤ b)
def ivB (a b : Int) : Bool := valB a && valB b && leB a b
theorem c_IsInterval (a b : Int) (w : World) : Calls Try.prog 77 #[.agg #[.int .i64 a, .int .i64 b]] w fun e w' => e = .returned (.bool (ivB a b)) ∧ Below w.heap.size w w' := by
  go_enter Try.func77, Try.ntmps77
  go_wp2_with (first
    | (go_at_call 80
       refine (c_isValue _ _).mono ?_
       rintro e w' ⟨rfl, rfl⟩)
    )
  all_goals go_ret
  all_goals (refine ⟨by simp [ivB, leB, *], ?_⟩; (repeat (first | exact Below.refl _ _ | assumption | refine below_alloc ?_ _ | refine below_drewN ?_ _ | refine below_set ?_ _ (by simp; try omega) | refine Below.drew ?_)))
theorem c_sIsInterval (a b : Int) (w : World) : Calls Try.prog 79 #[.agg #[.int .i64 a, .int .i64 b]] w fun e w' => e = .returned (.bool (ivB a b)) ∧ Below w.heap.size w w' := by
  go_enter Try.func79, Try.ntmps79
  go_wp2_with (first
    | (go_at_call 81
       refine (c_l01Is _ _).mono ?_
       rintro e w' ⟨rfl, rfl⟩)
    )
  all_goals go_ret
  all_goals (refine ⟨by simp [ivB, leB, *], ?_⟩; (repeat (first | exact Below.refl _ _ | assumption | refine below_alloc ?_ _ | refine below_drewN ?_ _ | refine below_set ?_ _ (by simp; try omega) | refine Below.drew ?_)))
def wiB (a b c d : Int) : Bool := decide (c ≤ a ∧ b ≤ d)
theorem c_isWithin (a b c d : Int) (w : World) : Calls Try.prog 78 #[.agg #[.int .i64 a, .int .i64 b], .agg #[.int .i64 c, .int .i64 d]] w fun e w' => e = .returned (.bool (wiB a b c d)) ∧ Below w.heap.size w w' := by
  go_enter Try.func78, Try.ntmps78
  go_wp2
  all_goals go_ret
  all_goals (refine ⟨by congr 2; simp [wiB, *]; try omega, ?_⟩; (repeat (first | exact Below.refl _ _ | assumption | refine below_alloc ?_ _ | refine below_drewN ?_ _ | refine below_set ?_ _ (by simp; try omega) | refine Below.drew ?_)))
def iwB (a b c d : Int) : Bool := ivB a b && ivB c d && wiB a b c d
theorem c_IsWithin (a b c d : Int) (w : World) : Calls Try.prog 73 #[.agg #[.int .i64 a, .int .i64 b], .agg #[.int .i64 c, .int .i64 d]] w fun e w' => e = .returned (.bool (iwB a b c d)) ∧ Below w.heap.size w w' := by
  go_enter Try.func73, Try.ntmps73
  go_wp2_with (first
    | (go_at_call 77
       refine (c_IsInterval _ _ _).mono ?_
       rintro e w1 ⟨rfl, hb⟩
       first | replace k0 := cell_later hb k0 | (have k0 : w1.cell? ⟨w.heap.size, 0, none⟩ = some (.int .i64 a) := cell_later hb (by go_simp))
       first | replace k1 := cell_later hb k1 | (have k1 : w1.cell? ⟨w.heap.size, 1, none⟩ = some (.int .i64 b) := cell_later hb (by go_simp))
       first | replace k2 := cell_later hb k2 | (have k2 : w1.cell? ⟨w.heap.size + 1, 0, none⟩ = some (.int .i64 c) := cell_later hb (by go_simp))
       first | replace k3 := cell_later hb k3 | (have k3 : w1.cell? ⟨w.heap.size + 1, 1, none⟩ = some (.int .i64 d) := cell_later hb (by go_simp))
       first | replace B := below_chain B hb | (have B : Below w.heap.size w w1 := below_chain (by (repeat (first | exact Below.refl _ _ | assumption | refine below_alloc ?_ _ | refine below_drewN ?_ _ | refine below_set ?_ _ (by simp; try omega) | refine Below.drew ?_))) hb)
       clear hb)
    | (go_at_call 78
       refine (c_isWithin _ _ _ _ _).mono ?_
       rintro e w1 ⟨rfl, hb⟩
       first | replace k0 := cell_later hb k0 | (have k0 : w1.cell? ⟨w.heap.size, 0, none⟩ = some (.int .i64 a) := cell_later hb (by go_simp))
       first | replace k1 := cell_later hb k1 | (have k1 : w1.cell? ⟨w.heap.size, 1, none⟩ = some (.int .i64 b) := cell_later hb (by go_simp))
       first | replace k2 := cell_later hb k2 | (have k2 : w1.cell? ⟨w.heap.size + 1, 0, none⟩ = some (.int .i64 c) := cell_later hb (by go_simp))
       first | replace k3 := cell_later hb k3 | (have k3 : w1.cell? ⟨w.heap.size + 1, 1, none⟩ = some (.int .i64 d) := cell_later hb (by go_simp))
       first | replace B := below_chain B hb | (have B : Below w.heap.size w w1 := below_chain (by (repeat (first | exact Below.refl _ _ | assumption | refine below_alloc ?_ _ | refine below_drewN ?_ _ | refine below_set ?_ _ (by simp; try omega) | refine Below.drew ?_))) hb)
       clear hb)
    )
  all_goals go_ret
  all_goals (refine ⟨by simp [iwB, *], ?_⟩; (repeat (first | exact Below.refl _ _ | assumption | refine below_alloc ?_ _ | refine below_drewN ?_ _ | refine below_set ?_ _ (by simp; try omega) | refine Below.drew ?_)))
theorem c_l03Within (a b lo hi : Int) (w : World) : Calls Try.prog 75 #[.agg #[.int .i64 a, .int .i64 b], .int .i64 lo, .int .i64 hi] w fun e w' => e = .returned (.bool (ivB a b && wiB a b lo hi)) ∧ Below w.heap.size w w' := by
  go_enter Try.func75, Try.ntmps75
  go_wp2_with (first
    | (go_at_call 79
       refine (c_sIsInterval _ _ _).mono ?_
       rintro e w1 ⟨rfl, hb⟩
       first | replace k0 := cell_later hb k0 | (have k0 : w1.cell? ⟨w.heap.size, 0, none⟩ = some (.int .i64 a) := cell_later hb (by go_simp))
       first | replace k1 := cell_later hb k1 | (have k1 : w1.cell? ⟨w.heap.size, 1, none⟩ = some (.int .i64 b) := cell_later hb (by go_simp))
       first | replace B := below_chain B hb | (have B : Below w.heap.size w w1 := below_chain (by (repeat (first | exact Below.refl _ _ | assumption | refine below_alloc ?_ _ | refine below_drewN ?_ _ | refine below_set ?_ _ (by simp; try omega) | refine Below.drew ?_))) hb)
       clear hb)
    )
  all_goals go_ret
  all_goals (refine ⟨by (simp [wiB, *]; try omega), ?_⟩; (repeat (first | exact Below.refl _ _ | assumption | refine below_alloc ?_ _ | refine below_drewN ?_ _ | refine below_set ?_ _ (by simp; try omega) | refine Below.drew ?_)))
end Go.Proofs.Ythkghpmfbdojeaa
