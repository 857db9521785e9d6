/- The possible states of a block, on both sides (printed by PPs.py). Condition: a block's kind, a number in range. -/
import Derived.Test.YteengjcplmjakaaGreatDoorPBt
namespace Go.Proofs.YteengjcplmjakaaGreatDoor
open Go.RowKit

/-- The possible states of a block. -/
def possB (k n : Int) (s : Bs) : Bool :=
  if k = 12 then (decide (s.bb = 0) && ((inB s.ba 0 n && decide (s.bc = 0)) || (decide (s.ba = n + 1) && decide (s.bc = 1))))
  else if k = 11 then ((inB s.ba 0 n && inB s.bb 0 1) && decide (s.bc = 0))
  else if k = 9 ∨ k = 10 then ((inB s.ba 0 1 && decide (s.bb = 0)) && decide (s.bc = 0))
  else ((inB s.ba 0 n && decide (s.bb = 0)) && decide (s.bc = 0))
theorem in_le {a n : Int} (h : inB a 0 n = true) : (a == n + 1) = false := by
  unfold inB at h
  simp at h
  simp
  omega
set_option maxHeartbeats 2000000 in
set_option maxRecDepth 100000 in
theorem c_l15Possible (k : Int) (nm : ByteArray) (n ba bb bc : Int) (w : World) (hk : 7 ≤ k ∧ k ≤ 12) (hn : 0 ≤ n ∧ n ≤ 9999) :
    Calls Tryz.prog 110 #[.agg #[.int .i64 k, .string nm, .int .i64 n], .agg #[.int .i64 ba, .int .i64 bb, .int .i64 bc]] w fun e w' => e = .returned (.bool (possB k n ⟨ba, bb, bc⟩)) ∧ Below w.heap.size w w' := by
  have HA := Lib.hid (fun w => c_l01In ba 0 n w)
  have HB := Lib.hid (fun w => c_l01In ba 0 1 w)
  have HC := Lib.hid (fun w => c_l01In bb 0 1 w)
  have HL := Lib.hid (fun h => in_le (a := ba) (n := n) h)
  have hw : IntKind.i64.wrap (n + 1) = n + 1 := IntWalk.i64_in _ (by omega)
  have hks : k = 7 ∨ k = 8 ∨ k = 9 ∨ k = 10 ∨ k = 11 ∨ k = 12 := by omega
  clear hk hn
  rcases hks with rfl | rfl | rfl | rfl | rfl | rfl
  · have HR : Hid (possB 7 n ⟨ba, bb, bc⟩ = ((inB ba 0 n && decide (bb = 0)) && decide (bc = 0))) := Lib.hid (by simp [possB])
    generalize possB 7 n ⟨ba, bb, bc⟩ = R at *
    generalize inB ba 0 n = p at *
    generalize inB ba 0 1 = q at *
    generalize inB bb 0 1 = r at *
    go_enter Tryz.func110, Tryz.ntmps110
    go_wp2_with (fail)
    refine (HA.out _).mono ?_
    rintro e w1 ⟨rfl, rfl⟩
    cases p
    · skip
      obtain rfl : R = false := by rw [HR.out]; simp
      clear HR
      go_wp2_with (fail)
      go_ret
      exact ⟨by first | rfl | (simp; done) | (simp; rfl), by (repeat (first | exact Below.refl _ _ | assumption | refine below_alloc ?_ _ | refine below_drewN ?_ _ | refine below_set ?_ _ (by simp; try omega) | refine Below.drew ?_))⟩
    by_cases hbb : bb = 0
    · subst hbb
      by_cases hbc : bc = 0
      · subst hbc
        obtain rfl : R = true := by rw [HR.out]; simp
        clear HR
        go_wp2_with (fail)
        go_ret
        exact ⟨by first | rfl | (simp; done) | (simp; rfl), by (repeat (first | exact Below.refl _ _ | assumption | refine below_alloc ?_ _ | refine below_drewN ?_ _ | refine below_set ?_ _ (by simp; try omega) | refine Below.drew ?_))⟩
      · have ebc : (bc == 0) = false := by simpa using hbc
        obtain rfl : R = false := by rw [HR.out]; simp [hbc]
        clear HR hbc
        go_wp2_with (fail)
        go_ret
        exact ⟨by first | rfl | (simp; done) | (simp; rfl), by (repeat (first | exact Below.refl _ _ | assumption | refine below_alloc ?_ _ | refine below_drewN ?_ _ | refine below_set ?_ _ (by simp; try omega) | refine Below.drew ?_))⟩
    · have ebb : (bb == 0) = false := by simpa using hbb
      obtain rfl : R = false := by rw [HR.out]; simp [hbb]
      clear HR hbb
      go_wp2_with (fail)
      go_ret
      exact ⟨by first | rfl | (simp; done) | (simp; rfl), by (repeat (first | exact Below.refl _ _ | assumption | refine below_alloc ?_ _ | refine below_drewN ?_ _ | refine below_set ?_ _ (by simp; try omega) | refine Below.drew ?_))⟩
  · have HR : Hid (possB 8 n ⟨ba, bb, bc⟩ = ((inB ba 0 n && decide (bb = 0)) && decide (bc = 0))) := Lib.hid (by simp [possB])
    generalize possB 8 n ⟨ba, bb, bc⟩ = R at *
    generalize inB ba 0 n = p at *
    generalize inB ba 0 1 = q at *
    generalize inB bb 0 1 = r at *
    go_enter Tryz.func110, Tryz.ntmps110
    go_wp2_with (fail)
    refine (HA.out _).mono ?_
    rintro e w1 ⟨rfl, rfl⟩
    cases p
    · skip
      obtain rfl : R = false := by rw [HR.out]; simp
      clear HR
      go_wp2_with (fail)
      go_ret
      exact ⟨by first | rfl | (simp; done) | (simp; rfl), by (repeat (first | exact Below.refl _ _ | assumption | refine below_alloc ?_ _ | refine below_drewN ?_ _ | refine below_set ?_ _ (by simp; try omega) | refine Below.drew ?_))⟩
    by_cases hbb : bb = 0
    · subst hbb
      by_cases hbc : bc = 0
      · subst hbc
        obtain rfl : R = true := by rw [HR.out]; simp
        clear HR
        go_wp2_with (fail)
        go_ret
        exact ⟨by first | rfl | (simp; done) | (simp; rfl), by (repeat (first | exact Below.refl _ _ | assumption | refine below_alloc ?_ _ | refine below_drewN ?_ _ | refine below_set ?_ _ (by simp; try omega) | refine Below.drew ?_))⟩
      · have ebc : (bc == 0) = false := by simpa using hbc
        obtain rfl : R = false := by rw [HR.out]; simp [hbc]
        clear HR hbc
        go_wp2_with (fail)
        go_ret
        exact ⟨by first | rfl | (simp; done) | (simp; rfl), by (repeat (first | exact Below.refl _ _ | assumption | refine below_alloc ?_ _ | refine below_drewN ?_ _ | refine below_set ?_ _ (by simp; try omega) | refine Below.drew ?_))⟩
    · have ebb : (bb == 0) = false := by simpa using hbb
      obtain rfl : R = false := by rw [HR.out]; simp [hbb]
      clear HR hbb
      go_wp2_with (fail)
      go_ret
      exact ⟨by first | rfl | (simp; done) | (simp; rfl), by (repeat (first | exact Below.refl _ _ | assumption | refine below_alloc ?_ _ | refine below_drewN ?_ _ | refine below_set ?_ _ (by simp; try omega) | refine Below.drew ?_))⟩
  · have HR : Hid (possB 9 n ⟨ba, bb, bc⟩ = ((inB ba 0 1 && decide (bb = 0)) && decide (bc = 0))) := Lib.hid (by simp [possB])
    generalize possB 9 n ⟨ba, bb, bc⟩ = R at *
    generalize inB ba 0 n = p at *
    generalize inB ba 0 1 = q at *
    generalize inB bb 0 1 = r at *
    go_enter Tryz.func110, Tryz.ntmps110
    go_wp2_with (fail)
    refine (HB.out _).mono ?_
    rintro e w1 ⟨rfl, rfl⟩
    cases q
    · skip
      obtain rfl : R = false := by rw [HR.out]; simp
      clear HR
      go_wp2_with (fail)
      go_ret
      exact ⟨by first | rfl | (simp; done) | (simp; rfl), by (repeat (first | exact Below.refl _ _ | assumption | refine below_alloc ?_ _ | refine below_drewN ?_ _ | refine below_set ?_ _ (by simp; try omega) | refine Below.drew ?_))⟩
    by_cases hbb : bb = 0
    · subst hbb
      by_cases hbc : bc = 0
      · subst hbc
        obtain rfl : R = true := by rw [HR.out]; simp
        clear HR
        go_wp2_with (fail)
        go_ret
        exact ⟨by first | rfl | (simp; done) | (simp; rfl), by (repeat (first | exact Below.refl _ _ | assumption | refine below_alloc ?_ _ | refine below_drewN ?_ _ | refine below_set ?_ _ (by simp; try omega) | refine Below.drew ?_))⟩
      · have ebc : (bc == 0) = false := by simpa using hbc
        obtain rfl : R = false := by rw [HR.out]; simp [hbc]
        clear HR hbc
        go_wp2_with (fail)
        go_ret
        exact ⟨by first | rfl | (simp; done) | (simp; rfl), by (repeat (first | exact Below.refl _ _ | assumption | refine below_alloc ?_ _ | refine below_drewN ?_ _ | refine below_set ?_ _ (by simp; try omega) | refine Below.drew ?_))⟩
    · have ebb : (bb == 0) = false := by simpa using hbb
      obtain rfl : R = false := by rw [HR.out]; simp [hbb]
      clear HR hbb
      go_wp2_with (fail)
      go_ret
      exact ⟨by first | rfl | (simp; done) | (simp; rfl), by (repeat (first | exact Below.refl _ _ | assumption | refine below_alloc ?_ _ | refine below_drewN ?_ _ | refine below_set ?_ _ (by simp; try omega) | refine Below.drew ?_))⟩
  · have HR : Hid (possB 10 n ⟨ba, bb, bc⟩ = ((inB ba 0 1 && decide (bb = 0)) && decide (bc = 0))) := Lib.hid (by simp [possB])
    generalize possB 10 n ⟨ba, bb, bc⟩ = R at *
    generalize inB ba 0 n = p at *
    generalize inB ba 0 1 = q at *
    generalize inB bb 0 1 = r at *
    go_enter Tryz.func110, Tryz.ntmps110
    go_wp2_with (fail)
    refine (HB.out _).mono ?_
    rintro e w1 ⟨rfl, rfl⟩
    cases q
    · skip
      obtain rfl : R = false := by rw [HR.out]; simp
      clear HR
      go_wp2_with (fail)
      go_ret
      exact ⟨by first | rfl | (simp; done) | (simp; rfl), by (repeat (first | exact Below.refl _ _ | assumption | refine below_alloc ?_ _ | refine below_drewN ?_ _ | refine below_set ?_ _ (by simp; try omega) | refine Below.drew ?_))⟩
    by_cases hbb : bb = 0
    · subst hbb
      by_cases hbc : bc = 0
      · subst hbc
        obtain rfl : R = true := by rw [HR.out]; simp
        clear HR
        go_wp2_with (fail)
        go_ret
        exact ⟨by first | rfl | (simp; done) | (simp; rfl), by (repeat (first | exact Below.refl _ _ | assumption | refine below_alloc ?_ _ | refine below_drewN ?_ _ | refine below_set ?_ _ (by simp; try omega) | refine Below.drew ?_))⟩
      · have ebc : (bc == 0) = false := by simpa using hbc
        obtain rfl : R = false := by rw [HR.out]; simp [hbc]
        clear HR hbc
        go_wp2_with (fail)
        go_ret
        exact ⟨by first | rfl | (simp; done) | (simp; rfl), by (repeat (first | exact Below.refl _ _ | assumption | refine below_alloc ?_ _ | refine below_drewN ?_ _ | refine below_set ?_ _ (by simp; try omega) | refine Below.drew ?_))⟩
    · have ebb : (bb == 0) = false := by simpa using hbb
      obtain rfl : R = false := by rw [HR.out]; simp [hbb]
      clear HR hbb
      go_wp2_with (fail)
      go_ret
      exact ⟨by first | rfl | (simp; done) | (simp; rfl), by (repeat (first | exact Below.refl _ _ | assumption | refine below_alloc ?_ _ | refine below_drewN ?_ _ | refine below_set ?_ _ (by simp; try omega) | refine Below.drew ?_))⟩
  · have HR : Hid (possB 11 n ⟨ba, bb, bc⟩ = ((inB ba 0 n && inB bb 0 1) && decide (bc = 0))) := Lib.hid (by simp [possB])
    generalize possB 11 n ⟨ba, bb, bc⟩ = R at *
    generalize inB ba 0 n = p at *
    generalize inB ba 0 1 = q at *
    generalize inB bb 0 1 = r at *
    go_enter Tryz.func110, Tryz.ntmps110
    go_wp2_with (fail)
    refine (HA.out _).mono ?_
    rintro e w1 ⟨rfl, rfl⟩
    cases p
    · skip
      obtain rfl : R = false := by rw [HR.out]; simp
      clear HR
      go_wp2_with (fail)
      go_ret
      exact ⟨by first | rfl | (simp; done) | (simp; rfl), by (repeat (first | exact Below.refl _ _ | assumption | refine below_alloc ?_ _ | refine below_drewN ?_ _ | refine below_set ?_ _ (by simp; try omega) | refine Below.drew ?_))⟩
    go_wp2_with (fail)
    refine (HC.out _).mono ?_
    rintro e w1 ⟨rfl, rfl⟩
    cases r
    · skip
      obtain rfl : R = false := by rw [HR.out]; simp
      clear HR
      go_wp2_with (fail)
      go_ret
      exact ⟨by first | rfl | (simp; done) | (simp; rfl), by (repeat (first | exact Below.refl _ _ | assumption | refine below_alloc ?_ _ | refine below_drewN ?_ _ | refine below_set ?_ _ (by simp; try omega) | refine Below.drew ?_))⟩
    by_cases hbc : bc = 0
    · subst hbc
      obtain rfl : R = true := by rw [HR.out]; simp
      clear HR
      go_wp2_with (fail)
      go_ret
      exact ⟨by first | rfl | (simp; done) | (simp; rfl), by (repeat (first | exact Below.refl _ _ | assumption | refine below_alloc ?_ _ | refine below_drewN ?_ _ | refine below_set ?_ _ (by simp; try omega) | refine Below.drew ?_))⟩
    · have ebc : (bc == 0) = false := by simpa using hbc
      obtain rfl : R = false := by rw [HR.out]; simp [hbc]
      clear HR hbc
      go_wp2_with (fail)
      go_ret
      exact ⟨by first | rfl | (simp; done) | (simp; rfl), by (repeat (first | exact Below.refl _ _ | assumption | refine below_alloc ?_ _ | refine below_drewN ?_ _ | refine below_set ?_ _ (by simp; try omega) | refine Below.drew ?_))⟩
  · have HR : Hid (possB 12 n ⟨ba, bb, bc⟩ = (decide (bb = 0) && ((inB ba 0 n && decide (bc = 0)) || (decide (ba = n + 1) && decide (bc = 1))))) := Lib.hid (by simp [possB])
    generalize possB 12 n ⟨ba, bb, bc⟩ = R at *
    generalize inB ba 0 n = p at *
    generalize inB ba 0 1 = q at *
    generalize inB bb 0 1 = r at *
    go_enter Tryz.func110, Tryz.ntmps110
    by_cases hbb : bb = 0
    · subst hbb
      go_wp2_with (fail)
      refine (HA.out _).mono ?_
      rintro e w1 ⟨rfl, rfl⟩
      cases p
      · by_cases hba : ba = n + 1
        · have hba2 : (ba == n + 1) = true := by simpa using hba
          by_cases hbc : bc = 1
          · subst hbc
            obtain rfl : R = true := by rw [HR.out]; simp [hba]
            clear HR hba
            go_wp2_with (fail)
            go_ret
            exact ⟨by first | rfl | (simp; done) | (simp; rfl), by (repeat (first | exact Below.refl _ _ | assumption | refine below_alloc ?_ _ | refine below_drewN ?_ _ | refine below_set ?_ _ (by simp; try omega) | refine Below.drew ?_))⟩
          · have ebc : (bc == 1) = false := by simpa using hbc
            obtain rfl : R = false := by rw [HR.out]; simp [hbc]
            clear HR hbc hba
            go_wp2_with (fail)
            go_ret
            exact ⟨by first | rfl | (simp; done) | (simp; rfl), by (repeat (first | exact Below.refl _ _ | assumption | refine below_alloc ?_ _ | refine below_drewN ?_ _ | refine below_set ?_ _ (by simp; try omega) | refine Below.drew ?_))⟩
        · have hba2 : (ba == n + 1) = false := by simpa using hba
          obtain rfl : R = false := by rw [HR.out]; simp [hba]
          clear HR hba
          go_wp2_with (fail)
          go_ret
          exact ⟨by first | rfl | (simp; done) | (simp; rfl), by (repeat (first | exact Below.refl _ _ | assumption | refine below_alloc ?_ _ | refine below_drewN ?_ _ | refine below_set ?_ _ (by simp; try omega) | refine Below.drew ?_))⟩
      · have hba2 := HL.out rfl
        have hba : ¬ ba = n + 1 := by simpa using hba2
        by_cases hbc : bc = 0
        · subst hbc
          obtain rfl : R = true := by rw [HR.out]; simp
          clear HR hba
          go_wp2_with (fail)
          go_ret
          exact ⟨by first | rfl | (simp; done) | (simp; rfl), by (repeat (first | exact Below.refl _ _ | assumption | refine below_alloc ?_ _ | refine below_drewN ?_ _ | refine below_set ?_ _ (by simp; try omega) | refine Below.drew ?_))⟩
        · have ebc : (bc == 0) = false := by simpa using hbc
          obtain rfl : R = false := by rw [HR.out]; simp [hbc, hba]
          clear HR hbc hba
          go_wp2_with (fail)
          go_ret
          exact ⟨by first | rfl | (simp; done) | (simp; rfl), by (repeat (first | exact Below.refl _ _ | assumption | refine below_alloc ?_ _ | refine below_drewN ?_ _ | refine below_set ?_ _ (by simp; try omega) | refine Below.drew ?_))⟩
    · have ebb : (bb == 0) = false := by simpa using hbb
      obtain rfl : R = false := by rw [HR.out]; simp [hbb]
      clear HR hbb
      go_wp2_with (fail)
      go_ret
      exact ⟨by first | rfl | (simp; done) | (simp; rfl), by (repeat (first | exact Below.refl _ _ | assumption | refine below_alloc ?_ _ | refine below_drewN ?_ _ | refine below_set ?_ _ (by simp; try omega) | refine Below.drew ?_))⟩
set_option maxHeartbeats 2000000 in
set_option maxRecDepth 100000 in
theorem c_isPossible (k : Int) (nm : ByteArray) (n ba bb bc : Int) (w : World) (hk : 7 ≤ k ∧ k ≤ 12) (hn : 0 ≤ n ∧ n ≤ 9999) :
    Calls Tryz.prog 118 #[.agg #[.int .i64 k, .string nm, .int .i64 n], .agg #[.int .i64 ba, .int .i64 bb, .int .i64 bc]] w fun e w' => e = .returned (.bool (possB k n ⟨ba, bb, bc⟩)) ∧ Below w.heap.size w w' := by
  have HA := Lib.hid (fun w => c_within ba 0 n w)
  have HB := Lib.hid (fun w => c_within ba 0 1 w)
  have HC := Lib.hid (fun w => c_within bb 0 1 w)
  have HL := Lib.hid (fun h => in_le (a := ba) (n := n) h)
  have hw : IntKind.i64.wrap (n + 1) = n + 1 := IntWalk.i64_in _ (by omega)
  have hks : k = 7 ∨ k = 8 ∨ k = 9 ∨ k = 10 ∨ k = 11 ∨ k = 12 := by omega
  clear hk hn
  rcases hks with rfl | rfl | rfl | rfl | rfl | rfl
  · have HR : Hid (possB 7 n ⟨ba, bb, bc⟩ = ((inB ba 0 n && decide (bb = 0)) && decide (bc = 0))) := Lib.hid (by simp [possB])
    generalize possB 7 n ⟨ba, bb, bc⟩ = R at *
    generalize inB ba 0 n = p at *
    generalize inB ba 0 1 = q at *
    generalize inB bb 0 1 = r at *
    go_enter Tryz.func118, Tryz.ntmps118
    go_wp2_with (fail)
    refine (HA.out _).mono ?_
    rintro e w1 ⟨rfl, rfl⟩
    cases p
    · skip
      obtain rfl : R = false := by rw [HR.out]; simp
      clear HR
      go_wp2_with (fail)
      go_ret
      exact ⟨by first | rfl | (simp; done) | (simp; rfl), by (repeat (first | exact Below.refl _ _ | assumption | refine below_alloc ?_ _ | refine below_drewN ?_ _ | refine below_set ?_ _ (by simp; try omega) | refine Below.drew ?_))⟩
    by_cases hbb : bb = 0
    · subst hbb
      by_cases hbc : bc = 0
      · subst hbc
        obtain rfl : R = true := by rw [HR.out]; simp
        clear HR
        go_wp2_with (fail)
        go_ret
        exact ⟨by first | rfl | (simp; done) | (simp; rfl), by (repeat (first | exact Below.refl _ _ | assumption | refine below_alloc ?_ _ | refine below_drewN ?_ _ | refine below_set ?_ _ (by simp; try omega) | refine Below.drew ?_))⟩
      · have ebc : (bc == 0) = false := by simpa using hbc
        obtain rfl : R = false := by rw [HR.out]; simp [hbc]
        clear HR hbc
        go_wp2_with (fail)
        go_ret
        exact ⟨by first | rfl | (simp; done) | (simp; rfl), by (repeat (first | exact Below.refl _ _ | assumption | refine below_alloc ?_ _ | refine below_drewN ?_ _ | refine below_set ?_ _ (by simp; try omega) | refine Below.drew ?_))⟩
    · have ebb : (bb == 0) = false := by simpa using hbb
      obtain rfl : R = false := by rw [HR.out]; simp [hbb]
      clear HR hbb
      go_wp2_with (fail)
      go_ret
      exact ⟨by first | rfl | (simp; done) | (simp; rfl), by (repeat (first | exact Below.refl _ _ | assumption | refine below_alloc ?_ _ | refine below_drewN ?_ _ | refine below_set ?_ _ (by simp; try omega) | refine Below.drew ?_))⟩
  · have HR : Hid (possB 8 n ⟨ba, bb, bc⟩ = ((inB ba 0 n && decide (bb = 0)) && decide (bc = 0))) := Lib.hid (by simp [possB])
    generalize possB 8 n ⟨ba, bb, bc⟩ = R at *
    generalize inB ba 0 n = p at *
    generalize inB ba 0 1 = q at *
    generalize inB bb 0 1 = r at *
    go_enter Tryz.func118, Tryz.ntmps118
    go_wp2_with (fail)
    refine (HA.out _).mono ?_
    rintro e w1 ⟨rfl, rfl⟩
    cases p
    · skip
      obtain rfl : R = false := by rw [HR.out]; simp
      clear HR
      go_wp2_with (fail)
      go_ret
      exact ⟨by first | rfl | (simp; done) | (simp; rfl), by (repeat (first | exact Below.refl _ _ | assumption | refine below_alloc ?_ _ | refine below_drewN ?_ _ | refine below_set ?_ _ (by simp; try omega) | refine Below.drew ?_))⟩
    by_cases hbb : bb = 0
    · subst hbb
      by_cases hbc : bc = 0
      · subst hbc
        obtain rfl : R = true := by rw [HR.out]; simp
        clear HR
        go_wp2_with (fail)
        go_ret
        exact ⟨by first | rfl | (simp; done) | (simp; rfl), by (repeat (first | exact Below.refl _ _ | assumption | refine below_alloc ?_ _ | refine below_drewN ?_ _ | refine below_set ?_ _ (by simp; try omega) | refine Below.drew ?_))⟩
      · have ebc : (bc == 0) = false := by simpa using hbc
        obtain rfl : R = false := by rw [HR.out]; simp [hbc]
        clear HR hbc
        go_wp2_with (fail)
        go_ret
        exact ⟨by first | rfl | (simp; done) | (simp; rfl), by (repeat (first | exact Below.refl _ _ | assumption | refine below_alloc ?_ _ | refine below_drewN ?_ _ | refine below_set ?_ _ (by simp; try omega) | refine Below.drew ?_))⟩
    · have ebb : (bb == 0) = false := by simpa using hbb
      obtain rfl : R = false := by rw [HR.out]; simp [hbb]
      clear HR hbb
      go_wp2_with (fail)
      go_ret
      exact ⟨by first | rfl | (simp; done) | (simp; rfl), by (repeat (first | exact Below.refl _ _ | assumption | refine below_alloc ?_ _ | refine below_drewN ?_ _ | refine below_set ?_ _ (by simp; try omega) | refine Below.drew ?_))⟩
  · have HR : Hid (possB 9 n ⟨ba, bb, bc⟩ = ((inB ba 0 1 && decide (bb = 0)) && decide (bc = 0))) := Lib.hid (by simp [possB])
    generalize possB 9 n ⟨ba, bb, bc⟩ = R at *
    generalize inB ba 0 n = p at *
    generalize inB ba 0 1 = q at *
    generalize inB bb 0 1 = r at *
    go_enter Tryz.func118, Tryz.ntmps118
    go_wp2_with (fail)
    refine (HB.out _).mono ?_
    rintro e w1 ⟨rfl, rfl⟩
    cases q
    · skip
      obtain rfl : R = false := by rw [HR.out]; simp
      clear HR
      go_wp2_with (fail)
      go_ret
      exact ⟨by first | rfl | (simp; done) | (simp; rfl), by (repeat (first | exact Below.refl _ _ | assumption | refine below_alloc ?_ _ | refine below_drewN ?_ _ | refine below_set ?_ _ (by simp; try omega) | refine Below.drew ?_))⟩
    by_cases hbb : bb = 0
    · subst hbb
      by_cases hbc : bc = 0
      · subst hbc
        obtain rfl : R = true := by rw [HR.out]; simp
        clear HR
        go_wp2_with (fail)
        go_ret
        exact ⟨by first | rfl | (simp; done) | (simp; rfl), by (repeat (first | exact Below.refl _ _ | assumption | refine below_alloc ?_ _ | refine below_drewN ?_ _ | refine below_set ?_ _ (by simp; try omega) | refine Below.drew ?_))⟩
      · have ebc : (bc == 0) = false := by simpa using hbc
        obtain rfl : R = false := by rw [HR.out]; simp [hbc]
        clear HR hbc
        go_wp2_with (fail)
        go_ret
        exact ⟨by first | rfl | (simp; done) | (simp; rfl), by (repeat (first | exact Below.refl _ _ | assumption | refine below_alloc ?_ _ | refine below_drewN ?_ _ | refine below_set ?_ _ (by simp; try omega) | refine Below.drew ?_))⟩
    · have ebb : (bb == 0) = false := by simpa using hbb
      obtain rfl : R = false := by rw [HR.out]; simp [hbb]
      clear HR hbb
      go_wp2_with (fail)
      go_ret
      exact ⟨by first | rfl | (simp; done) | (simp; rfl), by (repeat (first | exact Below.refl _ _ | assumption | refine below_alloc ?_ _ | refine below_drewN ?_ _ | refine below_set ?_ _ (by simp; try omega) | refine Below.drew ?_))⟩
  · have HR : Hid (possB 10 n ⟨ba, bb, bc⟩ = ((inB ba 0 1 && decide (bb = 0)) && decide (bc = 0))) := Lib.hid (by simp [possB])
    generalize possB 10 n ⟨ba, bb, bc⟩ = R at *
    generalize inB ba 0 n = p at *
    generalize inB ba 0 1 = q at *
    generalize inB bb 0 1 = r at *
    go_enter Tryz.func118, Tryz.ntmps118
    go_wp2_with (fail)
    refine (HB.out _).mono ?_
    rintro e w1 ⟨rfl, rfl⟩
    cases q
    · skip
      obtain rfl : R = false := by rw [HR.out]; simp
      clear HR
      go_wp2_with (fail)
      go_ret
      exact ⟨by first | rfl | (simp; done) | (simp; rfl), by (repeat (first | exact Below.refl _ _ | assumption | refine below_alloc ?_ _ | refine below_drewN ?_ _ | refine below_set ?_ _ (by simp; try omega) | refine Below.drew ?_))⟩
    by_cases hbb : bb = 0
    · subst hbb
      by_cases hbc : bc = 0
      · subst hbc
        obtain rfl : R = true := by rw [HR.out]; simp
        clear HR
        go_wp2_with (fail)
        go_ret
        exact ⟨by first | rfl | (simp; done) | (simp; rfl), by (repeat (first | exact Below.refl _ _ | assumption | refine below_alloc ?_ _ | refine below_drewN ?_ _ | refine below_set ?_ _ (by simp; try omega) | refine Below.drew ?_))⟩
      · have ebc : (bc == 0) = false := by simpa using hbc
        obtain rfl : R = false := by rw [HR.out]; simp [hbc]
        clear HR hbc
        go_wp2_with (fail)
        go_ret
        exact ⟨by first | rfl | (simp; done) | (simp; rfl), by (repeat (first | exact Below.refl _ _ | assumption | refine below_alloc ?_ _ | refine below_drewN ?_ _ | refine below_set ?_ _ (by simp; try omega) | refine Below.drew ?_))⟩
    · have ebb : (bb == 0) = false := by simpa using hbb
      obtain rfl : R = false := by rw [HR.out]; simp [hbb]
      clear HR hbb
      go_wp2_with (fail)
      go_ret
      exact ⟨by first | rfl | (simp; done) | (simp; rfl), by (repeat (first | exact Below.refl _ _ | assumption | refine below_alloc ?_ _ | refine below_drewN ?_ _ | refine below_set ?_ _ (by simp; try omega) | refine Below.drew ?_))⟩
  · have HR : Hid (possB 11 n ⟨ba, bb, bc⟩ = ((inB ba 0 n && inB bb 0 1) && decide (bc = 0))) := Lib.hid (by simp [possB])
    generalize possB 11 n ⟨ba, bb, bc⟩ = R at *
    generalize inB ba 0 n = p at *
    generalize inB ba 0 1 = q at *
    generalize inB bb 0 1 = r at *
    go_enter Tryz.func118, Tryz.ntmps118
    go_wp2_with (fail)
    refine (HA.out _).mono ?_
    rintro e w1 ⟨rfl, rfl⟩
    cases p
    · skip
      obtain rfl : R = false := by rw [HR.out]; simp
      clear HR
      go_wp2_with (fail)
      go_ret
      exact ⟨by first | rfl | (simp; done) | (simp; rfl), by (repeat (first | exact Below.refl _ _ | assumption | refine below_alloc ?_ _ | refine below_drewN ?_ _ | refine below_set ?_ _ (by simp; try omega) | refine Below.drew ?_))⟩
    go_wp2_with (fail)
    refine (HC.out _).mono ?_
    rintro e w1 ⟨rfl, rfl⟩
    cases r
    · skip
      obtain rfl : R = false := by rw [HR.out]; simp
      clear HR
      go_wp2_with (fail)
      go_ret
      exact ⟨by first | rfl | (simp; done) | (simp; rfl), by (repeat (first | exact Below.refl _ _ | assumption | refine below_alloc ?_ _ | refine below_drewN ?_ _ | refine below_set ?_ _ (by simp; try omega) | refine Below.drew ?_))⟩
    by_cases hbc : bc = 0
    · subst hbc
      obtain rfl : R = true := by rw [HR.out]; simp
      clear HR
      go_wp2_with (fail)
      go_ret
      exact ⟨by first | rfl | (simp; done) | (simp; rfl), by (repeat (first | exact Below.refl _ _ | assumption | refine below_alloc ?_ _ | refine below_drewN ?_ _ | refine below_set ?_ _ (by simp; try omega) | refine Below.drew ?_))⟩
    · have ebc : (bc == 0) = false := by simpa using hbc
      obtain rfl : R = false := by rw [HR.out]; simp [hbc]
      clear HR hbc
      go_wp2_with (fail)
      go_ret
      exact ⟨by first | rfl | (simp; done) | (simp; rfl), by (repeat (first | exact Below.refl _ _ | assumption | refine below_alloc ?_ _ | refine below_drewN ?_ _ | refine below_set ?_ _ (by simp; try omega) | refine Below.drew ?_))⟩
  · have HR : Hid (possB 12 n ⟨ba, bb, bc⟩ = (decide (bb = 0) && ((inB ba 0 n && decide (bc = 0)) || (decide (ba = n + 1) && decide (bc = 1))))) := Lib.hid (by simp [possB])
    generalize possB 12 n ⟨ba, bb, bc⟩ = R at *
    generalize inB ba 0 n = p at *
    generalize inB ba 0 1 = q at *
    generalize inB bb 0 1 = r at *
    go_enter Tryz.func118, Tryz.ntmps118
    by_cases hbb : bb = 0
    · subst hbb
      go_wp2_with (fail)
      refine (HA.out _).mono ?_
      rintro e w1 ⟨rfl, rfl⟩
      cases p
      · by_cases hba : ba = n + 1
        · have hba2 : (ba == n + 1) = true := by simpa using hba
          by_cases hbc : bc = 1
          · subst hbc
            obtain rfl : R = true := by rw [HR.out]; simp [hba]
            clear HR hba
            go_wp2_with (fail)
            go_ret
            exact ⟨by first | rfl | (simp; done) | (simp; rfl), by (repeat (first | exact Below.refl _ _ | assumption | refine below_alloc ?_ _ | refine below_drewN ?_ _ | refine below_set ?_ _ (by simp; try omega) | refine Below.drew ?_))⟩
          · have ebc : (bc == 1) = false := by simpa using hbc
            obtain rfl : R = false := by rw [HR.out]; simp [hbc]
            clear HR hbc hba
            go_wp2_with (fail)
            go_ret
            exact ⟨by first | rfl | (simp; done) | (simp; rfl), by (repeat (first | exact Below.refl _ _ | assumption | refine below_alloc ?_ _ | refine below_drewN ?_ _ | refine below_set ?_ _ (by simp; try omega) | refine Below.drew ?_))⟩
        · have hba2 : (ba == n + 1) = false := by simpa using hba
          obtain rfl : R = false := by rw [HR.out]; simp [hba]
          clear HR hba
          go_wp2_with (fail)
          go_ret
          exact ⟨by first | rfl | (simp; done) | (simp; rfl), by (repeat (first | exact Below.refl _ _ | assumption | refine below_alloc ?_ _ | refine below_drewN ?_ _ | refine below_set ?_ _ (by simp; try omega) | refine Below.drew ?_))⟩
      · have hba2 := HL.out rfl
        have hba : ¬ ba = n + 1 := by simpa using hba2
        by_cases hbc : bc = 0
        · subst hbc
          obtain rfl : R = true := by rw [HR.out]; simp
          clear HR hba
          go_wp2_with (fail)
          go_ret
          exact ⟨by first | rfl | (simp; done) | (simp; rfl), by (repeat (first | exact Below.refl _ _ | assumption | refine below_alloc ?_ _ | refine below_drewN ?_ _ | refine below_set ?_ _ (by simp; try omega) | refine Below.drew ?_))⟩
        · have ebc : (bc == 0) = false := by simpa using hbc
          obtain rfl : R = false := by rw [HR.out]; simp [hbc, hba]
          clear HR hbc hba
          go_wp2_with (fail)
          go_ret
          exact ⟨by first | rfl | (simp; done) | (simp; rfl), by (repeat (first | exact Below.refl _ _ | assumption | refine below_alloc ?_ _ | refine below_drewN ?_ _ | refine below_set ?_ _ (by simp; try omega) | refine Below.drew ?_))⟩
    · have ebb : (bb == 0) = false := by simpa using hbb
      obtain rfl : R = false := by rw [HR.out]; simp [hbb]
      clear HR hbb
      go_wp2_with (fail)
      go_ret
      exact ⟨by first | rfl | (simp; done) | (simp; rfl), by (repeat (first | exact Below.refl _ _ | assumption | refine below_alloc ?_ _ | refine below_drewN ?_ _ | refine below_set ?_ _ (by simp; try omega) | refine Below.drew ?_))⟩
end Go.Proofs.YteengjcplmjakaaGreatDoor
