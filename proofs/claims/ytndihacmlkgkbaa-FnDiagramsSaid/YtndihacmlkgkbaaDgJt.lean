/- Contracts of l22Join and of the program's joined at constants. No condition. -/
import Derived.Test.YtndihacmlkgkbaaDgJr
namespace Go.Proofs.Ytndihacmlkgkbaa
open Go.RowKit

theorem c_joined (j : Int) (x y : Nat) (w : World) (hx : x < 2) (hy : y < 2) :
    Calls Try.prog 77 #[.int .i64 j, .int .i64 x, .int .i64 y] w fun e w' => e = .returned (.int .i64 (jn j x y)) ∧ w = w' := by
  by_cases h0 : j = 0
  · subst h0
    match x, hx, y, hy with
    | 0, _, 0, _ =>
      have HV : Hid (jn 0 0 0 = 0) := Lib.hid (by unfold jn; decide)
      rw [HV.out]
      go_enter Try.func77, Try.ntmps77
      go_wp2
      go_ret
      exact ⟨rfl, rfl⟩
    | 0, _, 1, _ =>
      have HV : Hid (jn 0 0 1 = 0) := Lib.hid (by unfold jn; decide)
      rw [HV.out]
      go_enter Try.func77, Try.ntmps77
      go_wp2
      go_ret
      exact ⟨rfl, rfl⟩
    | 1, _, 0, _ =>
      have HV : Hid (jn 0 1 0 = 0) := Lib.hid (by unfold jn; decide)
      rw [HV.out]
      go_enter Try.func77, Try.ntmps77
      go_wp2
      go_ret
      exact ⟨rfl, rfl⟩
    | 1, _, 1, _ =>
      have HV : Hid (jn 0 1 1 = 1) := Lib.hid (by unfold jn; decide)
      rw [HV.out]
      go_enter Try.func77, Try.ntmps77
      go_wp2
      go_ret
      exact ⟨rfl, rfl⟩
  by_cases h1 : j = 1
  · subst h1
    clear h0
    match x, hx, y, hy with
    | 0, _, 0, _ =>
      have HV : Hid (jn 1 0 0 = 0) := Lib.hid (by unfold jn; decide)
      rw [HV.out]
      go_enter Try.func77, Try.ntmps77
      go_wp2
      go_ret
      exact ⟨rfl, rfl⟩
    | 0, _, 1, _ =>
      have HV : Hid (jn 1 0 1 = 1) := Lib.hid (by unfold jn; decide)
      rw [HV.out]
      go_enter Try.func77, Try.ntmps77
      go_wp2
      go_ret
      exact ⟨rfl, rfl⟩
    | 1, _, 0, _ =>
      have HV : Hid (jn 1 1 0 = 1) := Lib.hid (by unfold jn; decide)
      rw [HV.out]
      go_enter Try.func77, Try.ntmps77
      go_wp2
      go_ret
      exact ⟨rfl, rfl⟩
    | 1, _, 1, _ =>
      have HV : Hid (jn 1 1 1 = 1) := Lib.hid (by unfold jn; decide)
      rw [HV.out]
      go_enter Try.func77, Try.ntmps77
      go_wp2
      go_ret
      exact ⟨rfl, rfl⟩
  · have h0b : (j == 0) = false := by simpa using h0
    have h1b : (j == 1) = false := by simpa using h1
    match x, hx, y, hy with
    | 0, _, 0, _ =>
      have HV : Hid (jn j 0 0 = 0) := Lib.hid (by unfold jn; rw [if_neg h0, if_neg h1]; rfl)
      rw [HV.out]
      go_enter Try.func77, Try.ntmps77
      go_wp2
      go_ret
      exact ⟨rfl, rfl⟩
    | 0, _, 1, _ =>
      have HV : Hid (jn j 0 1 = 1) := Lib.hid (by unfold jn; rw [if_neg h0, if_neg h1]; rfl)
      rw [HV.out]
      go_enter Try.func77, Try.ntmps77
      go_wp2
      go_ret
      exact ⟨rfl, rfl⟩
    | 1, _, 0, _ =>
      have HV : Hid (jn j 1 0 = 1) := Lib.hid (by unfold jn; rw [if_neg h0, if_neg h1]; rfl)
      rw [HV.out]
      go_enter Try.func77, Try.ntmps77
      go_wp2
      go_ret
      exact ⟨rfl, rfl⟩
    | 1, _, 1, _ =>
      have HV : Hid (jn j 1 1 = 0) := Lib.hid (by unfold jn; rw [if_neg h0, if_neg h1]; rfl)
      rw [HV.out]
      go_enter Try.func77, Try.ntmps77
      go_wp2
      go_ret
      exact ⟨rfl, rfl⟩
theorem c_l22JoinT (bo bp : Addr) (j : Int) (da db : Array Value) (x y : Nat) (w : World) (hx : x < 2) (hy : y < 2) :
    Calls Try.prog 63 #[.pointer (some bo), .pointer (some bp), .int .i64 j, .agg da, .agg db, .int .i64 x, .int .i64 y] w fun e w' => e = .returned (.int .i64 (jn j x y)) ∧ Below w.heap.size w w' := by
  by_cases h0 : j = 0
  · subst h0
    match x, hx, y, hy with
    | 0, _, 0, _ =>
      have HV : Hid (jn 0 0 0 = 0) := Lib.hid (by unfold jn; decide)
      rw [HV.out]
      go_enter Try.func63, Try.ntmps63
      go_wp2
      go_ret
      exact ⟨rfl, by (repeat (first | exact Below.refl _ _ | assumption | refine below_alloc ?_ _ | refine below_drewN ?_ _ | refine below_set ?_ _ (by simp; try omega) | refine Below.drew ?_))⟩
    | 0, _, 1, _ =>
      have HV : Hid (jn 0 0 1 = 0) := Lib.hid (by unfold jn; decide)
      rw [HV.out]
      go_enter Try.func63, Try.ntmps63
      go_wp2
      go_ret
      exact ⟨rfl, by (repeat (first | exact Below.refl _ _ | assumption | refine below_alloc ?_ _ | refine below_drewN ?_ _ | refine below_set ?_ _ (by simp; try omega) | refine Below.drew ?_))⟩
    | 1, _, 0, _ =>
      have HV : Hid (jn 0 1 0 = 0) := Lib.hid (by unfold jn; decide)
      rw [HV.out]
      go_enter Try.func63, Try.ntmps63
      go_wp2
      go_ret
      exact ⟨rfl, by (repeat (first | exact Below.refl _ _ | assumption | refine below_alloc ?_ _ | refine below_drewN ?_ _ | refine below_set ?_ _ (by simp; try omega) | refine Below.drew ?_))⟩
    | 1, _, 1, _ =>
      have HV : Hid (jn 0 1 1 = 1) := Lib.hid (by unfold jn; decide)
      rw [HV.out]
      go_enter Try.func63, Try.ntmps63
      go_wp2
      go_ret
      exact ⟨rfl, by (repeat (first | exact Below.refl _ _ | assumption | refine below_alloc ?_ _ | refine below_drewN ?_ _ | refine below_set ?_ _ (by simp; try omega) | refine Below.drew ?_))⟩
  by_cases h1 : j = 1
  · subst h1
    clear h0
    match x, hx, y, hy with
    | 0, _, 0, _ =>
      have HV : Hid (jn 1 0 0 = 0) := Lib.hid (by unfold jn; decide)
      rw [HV.out]
      go_enter Try.func63, Try.ntmps63
      go_wp2
      go_ret
      exact ⟨rfl, by (repeat (first | exact Below.refl _ _ | assumption | refine below_alloc ?_ _ | refine below_drewN ?_ _ | refine below_set ?_ _ (by simp; try omega) | refine Below.drew ?_))⟩
    | 0, _, 1, _ =>
      have HV : Hid (jn 1 0 1 = 1) := Lib.hid (by unfold jn; decide)
      rw [HV.out]
      go_enter Try.func63, Try.ntmps63
      go_wp2
      go_ret
      exact ⟨rfl, by (repeat (first | exact Below.refl _ _ | assumption | refine below_alloc ?_ _ | refine below_drewN ?_ _ | refine below_set ?_ _ (by simp; try omega) | refine Below.drew ?_))⟩
    | 1, _, 0, _ =>
      have HV : Hid (jn 1 1 0 = 1) := Lib.hid (by unfold jn; decide)
      rw [HV.out]
      go_enter Try.func63, Try.ntmps63
      go_wp2
      go_ret
      exact ⟨rfl, by (repeat (first | exact Below.refl _ _ | assumption | refine below_alloc ?_ _ | refine below_drewN ?_ _ | refine below_set ?_ _ (by simp; try omega) | refine Below.drew ?_))⟩
    | 1, _, 1, _ =>
      have HV : Hid (jn 1 1 1 = 1) := Lib.hid (by unfold jn; decide)
      rw [HV.out]
      go_enter Try.func63, Try.ntmps63
      go_wp2
      go_ret
      exact ⟨rfl, by (repeat (first | exact Below.refl _ _ | assumption | refine below_alloc ?_ _ | refine below_drewN ?_ _ | refine below_set ?_ _ (by simp; try omega) | refine Below.drew ?_))⟩
  · have h0b : (j == 0) = false := by simpa using h0
    have h1b : (j == 1) = false := by simpa using h1
    match x, hx, y, hy with
    | 0, _, 0, _ =>
      have HV : Hid (jn j 0 0 = 0) := Lib.hid (by unfold jn; rw [if_neg h0, if_neg h1]; rfl)
      rw [HV.out]
      go_enter Try.func63, Try.ntmps63
      go_wp2
      go_ret
      exact ⟨rfl, by (repeat (first | exact Below.refl _ _ | assumption | refine below_alloc ?_ _ | refine below_drewN ?_ _ | refine below_set ?_ _ (by simp; try omega) | refine Below.drew ?_))⟩
    | 0, _, 1, _ =>
      have HV : Hid (jn j 0 1 = 1) := Lib.hid (by unfold jn; rw [if_neg h0, if_neg h1]; rfl)
      rw [HV.out]
      go_enter Try.func63, Try.ntmps63
      go_wp2
      go_ret
      exact ⟨rfl, by (repeat (first | exact Below.refl _ _ | assumption | refine below_alloc ?_ _ | refine below_drewN ?_ _ | refine below_set ?_ _ (by simp; try omega) | refine Below.drew ?_))⟩
    | 1, _, 0, _ =>
      have HV : Hid (jn j 1 0 = 1) := Lib.hid (by unfold jn; rw [if_neg h0, if_neg h1]; rfl)
      rw [HV.out]
      go_enter Try.func63, Try.ntmps63
      go_wp2
      go_ret
      exact ⟨rfl, by (repeat (first | exact Below.refl _ _ | assumption | refine below_alloc ?_ _ | refine below_drewN ?_ _ | refine below_set ?_ _ (by simp; try omega) | refine Below.drew ?_))⟩
    | 1, _, 1, _ =>
      have HV : Hid (jn j 1 1 = 0) := Lib.hid (by unfold jn; rw [if_neg h0, if_neg h1]; rfl)
      rw [HV.out]
      go_enter Try.func63, Try.ntmps63
      go_wp2
      go_ret
      exact ⟨rfl, by (repeat (first | exact Below.refl _ _ | assumption | refine below_alloc ?_ _ | refine below_drewN ?_ _ | refine below_set ?_ _ (by simp; try omega) | refine Below.drew ?_))⟩
end Go.Proofs.Ytndihacmlkgkbaa
