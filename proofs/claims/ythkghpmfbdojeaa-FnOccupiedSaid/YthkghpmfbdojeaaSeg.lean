/- Contracts of the functions on one segment: valid, holds. No condition. -/
import Derived.Test.YthkghpmfbdojeaaNum
namespace Go.Proofs.Ythkghpmfbdojeaa
open Go.RowKit

def holdsB (k : Int) : Bool := k == 1 || k == 3 || k == 4
theorem c_holds (k l r a b c d : Int) (w : World) : Calls Try.prog 64 #[.agg #[.int .i64 k, .int .i64 l, .int .i64 r, .int .i64 a, .int .i64 b, .int .i64 c, .int .i64 d]] w fun e w' => e = .returned (.bool (holdsB k)) ∧ Below w.heap.size w w' := by
  go_enter Try.func64, Try.ntmps64
  go_wp2
  all_goals go_ret
  all_goals (refine ⟨by (simp [holdsB, *]; try omega), ?_⟩; (repeat (first | exact Below.refl _ _ | assumption | refine below_alloc ?_ _ | refine below_drewN ?_ _ | refine below_set ?_ _ (by simp; try omega) | refine Below.drew ?_)))
theorem c_l03Holds (k l r a b c d : Int) (w : World) : Calls Try.prog 57 #[.agg #[.int .i64 k, .int .i64 l, .int .i64 r, .int .i64 a, .int .i64 b, .int .i64 c, .int .i64 d]] w fun e w' => e = .returned (.bool (holdsB k)) ∧ Below w.heap.size w w' := by
  go_enter Try.func57, Try.ntmps57
  go_wp2
  all_goals go_ret
  all_goals (refine ⟨by (simp [holdsB, *]; try omega), ?_⟩; (repeat (first | exact Below.refl _ _ | assumption | refine below_alloc ?_ _ | refine below_drewN ?_ _ | refine below_set ?_ _ (by simp; try omega) | refine Below.drew ?_)))
def absW (n : Int) : Int := max n (wrap64 (-n))
theorem c_l01Abs (n : Int) (w : World) : Calls Try.prog 32 #[.int .i64 n] w fun e w' => e = .returned (.int .i64 (absW n)) ∧ w = w' := by
  go_enter Try.func32, Try.ntmps32
  go_wp2
  all_goals go_ret
  all_goals (refine ⟨?_, rfl⟩; simp [absW]; omega)
theorem absW_in {r : Int} (h : inB r (-100000) 100000 = true) (l : Int) : inB r (-l) l = decide (absW r ≤ l) := by
  simp only [inB, decide_eq_true_eq] at h ⊢
  have e : wrap64 (-r) = -r := IntWalk.wrap64_in _ ⟨by omega, by omega⟩
  unfold absW
  rw [e]
  congr 1
  simp
  omega
theorem wrap_neg {l : Int} (h : inB l 1 200000 = true) : wrap64 (-l) = -l := by
  simp only [inB, decide_eq_true_eq] at h
  exact IntWalk.wrap64_in _ ⟨by omega, by omega⟩
def segB (k l r a b c d : Int) : Bool :=
  inB k 0 4 && inB l 1 200000 && inB r (-100000) 100000 && inB r (-l) l && iwB a b 0 20000 && (if k = 0 then c == 0 && d == 0 else iwB c d 1 20000)
theorem c_IsSegment (k l r a b c d : Int) (w : World) : Calls Try.prog 59 #[.agg #[.int .i64 k, .int .i64 l, .int .i64 r, .int .i64 a, .int .i64 b, .int .i64 c, .int .i64 d]] w fun e w' => e = .returned (.bool (segB k l r a b c d)) ∧ Below w.heap.size w w' := by
  go_enter Try.func59, Try.ntmps59
  go_wp2_with (first
    | (go_at_call 53
       refine (c_within _ _ _ _).mono ?_
       rintro e w' ⟨rfl, rfl⟩)
    | (go_at_call 73
       refine (c_IsWithin _ _ _ _ _).mono ?_
       rintro e w1 ⟨rfl, hb⟩
       first | replace k0 := cell_later hb k0 | (have k0 : w1.cell? ⟨w.heap.size, 0, none⟩ = some (.int .i64 k) := cell_later hb (by go_simp))
       first | replace k1 := cell_later hb k1 | (have k1 : w1.cell? ⟨w.heap.size, 1, none⟩ = some (.int .i64 l) := cell_later hb (by go_simp))
       first | replace k2 := cell_later hb k2 | (have k2 : w1.cell? ⟨w.heap.size, 2, none⟩ = some (.int .i64 r) := cell_later hb (by go_simp))
       first | replace k3 := cell_later hb k3 | (have k3 : w1.cell? ⟨w.heap.size, 3, none⟩ = some (.int .i64 a) := cell_later hb (by go_simp))
       first | replace k4 := cell_later hb k4 | (have k4 : w1.cell? ⟨w.heap.size, 4, none⟩ = some (.int .i64 b) := cell_later hb (by go_simp))
       first | replace k5 := cell_later hb k5 | (have k5 : w1.cell? ⟨w.heap.size, 5, none⟩ = some (.int .i64 c) := cell_later hb (by go_simp))
       first | replace k6 := cell_later hb k6 | (have k6 : w1.cell? ⟨w.heap.size, 6, none⟩ = some (.int .i64 d) := cell_later hb (by go_simp))
       first | replace B := below_chain B hb | (have B : Below w.heap.size w w1 := below_chain (by (repeat (first | exact Below.refl _ _ | assumption | refine below_alloc ?_ _ | refine below_drewN ?_ _ | refine below_set ?_ _ (by simp; try omega) | refine Below.drew ?_))) hb)
       clear hb)
    )
  all_goals go_ret
  all_goals (refine ⟨?_, by (repeat (first | exact Below.refl _ _ | assumption | refine below_alloc ?_ _ | refine below_drewN ?_ _ | refine below_set ?_ _ (by simp; try omega) | refine Below.drew ?_))⟩)
  all_goals first
    | (rw [wrap_neg (by assumption)] at *; simp_all [segB]; done)
    | (simp_all [segB]; done)
theorem iwB_0 (a b : Int) : iwB a b 0 20000 = (ivB a b && wiB a b 0 20000) := by
  have : ivB 0 20000 = true := by decide
  simp [iwB, this]
theorem iwB_1 (a b : Int) : iwB a b 1 20000 = (ivB a b && wiB a b 1 20000) := by
  have : ivB 1 20000 = true := by decide
  simp [iwB, this]
theorem c_sIsSegment (k l r a b c d : Int) (w : World) : Calls Try.prog 66 #[.agg #[.int .i64 k, .int .i64 l, .int .i64 r, .int .i64 a, .int .i64 b, .int .i64 c, .int .i64 d]] w fun e w' => e = .returned (.bool (segB k l r a b c d)) ∧ Below w.heap.size w w' := by
  go_enter Try.func66, Try.ntmps66
  go_wp2
  refine wp_region_quiet_lit (by kernel_rfl) (by kernel_rfl) ?_
  (repeat (any_goals (first | go_big_quiet_step (first | (go_at_call 43; exact Calls.quiet_of_same ((c_l01In _ _ _ _).mono fun _ _ h => ⟨h.1, h.2.symm⟩)) | (go_at_call 32; exact Calls.quiet_of_same ((c_l01Abs _ _).mono fun _ _ h => ⟨h.1, h.2.symm⟩))) | quiet_step (first | (go_at_call 43; exact Calls.quiet_of_same ((c_l01In _ _ _ _).mono fun _ _ h => ⟨h.1, h.2.symm⟩)) | (go_at_call 32; exact Calls.quiet_of_same ((c_l01Abs _ _).mono fun _ _ h => ⟨h.1, h.2.symm⟩))) | (refine wpQuiet_step (fun K hK => ?_); go_simp; split <;> (refine hK _ ?_; clear hK K)))))
  all_goals (refine wpQuiet_nil ?_; intro _ hw'; obtain ⟨nq, hw''⟩ := hw'; subst hw'')
  all_goals go_wp2_with (first
    | (go_at_call 75
       refine (c_l03Within _ _ _ _ _).mono ?_
       rintro e w1 ⟨rfl, hb⟩
       first | replace k0 := cell_later hb k0 | (have k0 : w1.cell? ⟨w.heap.size, 0, none⟩ = some (.int .i64 k) := cell_later hb (by go_simp))
       first | replace k1 := cell_later hb k1 | (have k1 : w1.cell? ⟨w.heap.size, 1, none⟩ = some (.int .i64 l) := cell_later hb (by go_simp))
       first | replace k2 := cell_later hb k2 | (have k2 : w1.cell? ⟨w.heap.size, 2, none⟩ = some (.int .i64 r) := cell_later hb (by go_simp))
       first | replace k3 := cell_later hb k3 | (have k3 : w1.cell? ⟨w.heap.size, 3, none⟩ = some (.int .i64 a) := cell_later hb (by go_simp))
       first | replace k4 := cell_later hb k4 | (have k4 : w1.cell? ⟨w.heap.size, 4, none⟩ = some (.int .i64 b) := cell_later hb (by go_simp))
       first | replace k5 := cell_later hb k5 | (have k5 : w1.cell? ⟨w.heap.size, 5, none⟩ = some (.int .i64 c) := cell_later hb (by go_simp))
       first | replace k6 := cell_later hb k6 | (have k6 : w1.cell? ⟨w.heap.size, 6, none⟩ = some (.int .i64 d) := cell_later hb (by go_simp))
       first | replace B := below_chain B hb | (have B : Below w.heap.size w w1 := below_chain (by (repeat (first | exact Below.refl _ _ | assumption | refine below_alloc ?_ _ | refine below_drewN ?_ _ | refine below_set ?_ _ (by simp; try omega) | refine Below.drew ?_))) hb)
       clear hb)
    )
  all_goals go_ret
  all_goals (refine ⟨?_, by (repeat (first | exact Below.refl _ _ | assumption | refine below_alloc ?_ _ | refine below_drewN ?_ _ | refine below_set ?_ _ (by simp; try omega) | refine Below.drew ?_))⟩)
  all_goals go_light
  all_goals first
    | (have e := absW_in (by assumption) l; simp_all [segB, iwB_0, iwB_1]; done)
    | (have e := absW_in (by assumption) l; simp_all [segB, iwB_0, iwB_1]; omega)
    | (simp_all [segB, iwB_0, iwB_1]; done)
end Go.Proofs.Ythkghpmfbdojeaa
