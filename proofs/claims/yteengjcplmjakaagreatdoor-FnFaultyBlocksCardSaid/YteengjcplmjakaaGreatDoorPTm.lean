/- Terms on both sides, exactly. Condition: the names' lengths; the keywords lie there. -/
import Derived.Test.YteengjcplmjakaaGreatDoorPNn
namespace Go.Proofs.YteengjcplmjakaaGreatDoor
open Go.RowKit

set_option maxRecDepth 100000 in
theorem c_l13Kind (k : Int) (w : World) : Calls Tryz.prog 179 #[.int .i64 k] w fun e w' => e = .returned (.bool (inB k 1 12)) ∧ w = w' := by
  go_enter Tryz.func179, Tryz.ntmps179
  go_wp2_with (fail)
  refine (c_l01In _ _ _ _).mono ?_
  rintro e w1 ⟨rfl, rfl⟩
  go_wp2_with (fail)
  go_ret
  exact ⟨rfl, rfl⟩
def numB (k : Int) : Bool := decide (k = 7 ∨ k = 8 ∨ k = 11 ∨ k = 12)
set_option maxRecDepth 100000 in
theorem c_l13Counts (k : Int) (w : World) : Calls Tryz.prog 172 #[.int .i64 k] w fun e w' => e = .returned (.bool (numB k)) ∧ w = w' := by
  by_cases h7 : k = 7
  · subst h7
    go_enter Tryz.func172, Tryz.ntmps172
    go_wp2_with (fail)
    go_ret
    exact ⟨rfl, rfl⟩
  by_cases h8 : k = 8
  · subst h8
    go_enter Tryz.func172, Tryz.ntmps172
    go_wp2_with (fail)
    go_ret
    exact ⟨rfl, rfl⟩
  by_cases h11 : k = 11
  · subst h11
    go_enter Tryz.func172, Tryz.ntmps172
    go_wp2_with (fail)
    go_ret
    exact ⟨rfl, rfl⟩
  by_cases h12 : k = 12
  · subst h12
    go_enter Tryz.func172, Tryz.ntmps172
    go_wp2_with (fail)
    go_ret
    exact ⟨rfl, rfl⟩
  have e7 : (k == 7) = false := by simpa using h7
  have e8 : (k == 8) = false := by simpa using h8
  have e11 : (k == 11) = false := by simpa using h11
  have e12 : (k == 12) = false := by simpa using h12
  have HE : Hid (numB k = false) := Lib.hid (by unfold numB; simp; omega)
  rw [HE.out]
  clear h7 h8 h11 h12
  go_enter Tryz.func172, Tryz.ntmps172
  go_wp2_with (fail)
  go_ret
  exact ⟨rfl, rfl⟩
def argI (k : Int) : Int := if k = 1 ∨ k = 2 ∨ k = 3 then 0 else if k = 4 ∨ k = 7 ∨ k = 8 ∨ k = 9 then 1 else 2
set_option maxRecDepth 100000 in
theorem c_l13Takes (k : Int) (w : World) : Calls Tryz.prog 171 #[.int .i64 k] w fun e w' => e = .returned (.int .i64 (argI k)) ∧ w = w' := by
  by_cases h1 : k = 1
  · subst h1
    go_enter Tryz.func171, Tryz.ntmps171
    go_wp2_with (fail)
    go_ret
    exact ⟨rfl, rfl⟩
  by_cases h2 : k = 2
  · subst h2
    go_enter Tryz.func171, Tryz.ntmps171
    go_wp2_with (fail)
    go_ret
    exact ⟨rfl, rfl⟩
  by_cases h3 : k = 3
  · subst h3
    go_enter Tryz.func171, Tryz.ntmps171
    go_wp2_with (fail)
    go_ret
    exact ⟨rfl, rfl⟩
  by_cases h4 : k = 4
  · subst h4
    go_enter Tryz.func171, Tryz.ntmps171
    go_wp2_with (fail)
    go_ret
    exact ⟨rfl, rfl⟩
  by_cases h7 : k = 7
  · subst h7
    go_enter Tryz.func171, Tryz.ntmps171
    go_wp2_with (fail)
    go_ret
    exact ⟨rfl, rfl⟩
  by_cases h8 : k = 8
  · subst h8
    go_enter Tryz.func171, Tryz.ntmps171
    go_wp2_with (fail)
    go_ret
    exact ⟨rfl, rfl⟩
  by_cases h9 : k = 9
  · subst h9
    go_enter Tryz.func171, Tryz.ntmps171
    go_wp2_with (fail)
    go_ret
    exact ⟨rfl, rfl⟩
  have e1 : (k == 1) = false := by simpa using h1
  have e2 : (k == 2) = false := by simpa using h2
  have e3 : (k == 3) = false := by simpa using h3
  have e4 : (k == 4) = false := by simpa using h4
  have e7 : (k == 7) = false := by simpa using h7
  have e8 : (k == 8) = false := by simpa using h8
  have e9 : (k == 9) = false := by simpa using h9
  have HE : Hid (argI k = 2) := Lib.hid (by unfold argI; rw [if_neg (by omega), if_neg (by omega)])
  rw [HE.out]
  clear h1 h2 h3 h4 h7 h8 h9
  go_enter Tryz.func171, Tryz.ntmps171
  go_wp2_with (fail)
  go_ret
  exact ⟨rfl, rfl⟩

/-- A term as described. -/
def trmT (k : Int) (nm : ByteArray) (n : Int) : Bool := inB k 1 12 && (if k = 1 then (decide (n = 0) && nameB nm) else (nm.toList.isEmpty && (if numB k then inB n 0 9999 else decide (n = 0))))
theorem num_one {k : Int} (h : numB k = true) : k ≠ 1 := by
  intro e
  subst e
  exact absurd h (by decide)
theorem in_zero {n : Int} (h : inB n 0 9999 = false) : n ≠ 0 := by
  intro e
  subst e
  exact absurd h (by decide)
theorem name_ne {nm : ByteArray} (h : nameB nm = true) : nm.toList.isEmpty = false := by
  unfold nameB at h
  rw [Bool.and_eq_true] at h
  have h1 := h.1
  unfold wordB at h1
  rw [Lib.toList_data]
  cases hl : nm.data.toList with
  | nil => rw [hl] at h1; simp at h1
  | cons c l => rfl
set_option maxHeartbeats 1000000 in
set_option maxRecDepth 100000 in
theorem c_l13Term (k : Int) (nm : ByteArray) (n : Int) (w : World) (hs : nm.size ≤ 1048576) : Calls Tryz.prog 150 #[.agg #[.int .i64 k, .string nm, .int .i64 n]] w fun e w' => e = .returned (.bool (trmT k nm n)) ∧ Below w.heap.size w w' := by
  have HA := Lib.hid (fun w => c_l13Kind k w)
  have HB := Lib.hid (fun w => c_l01In n 0 9999 w)
  have HD := Lib.hid (fun w => c_l13Counts k w)
  have HE := Lib.hid (fun w => c_l13Name nm w hs)
  have HBN := Lib.hid (fun h => in_zero (n := n) h)
  have HDK := Lib.hid (fun h => num_one (k := k) h)
  have HR : Hid (trmT k nm n = (inB k 1 12 && (if k = 1 then (decide (n = 0) && nameB nm) else (nm.toList.isEmpty && (if numB k then inB n 0 9999 else decide (n = 0)))))) := Lib.hid rfl
  generalize trmT k nm n = R at *
  generalize inB k 1 12 = a at *
  generalize inB n 0 9999 = b at *
  generalize numB k = d at *
  generalize nameB nm = q at *
  go_enter Tryz.func150, Tryz.ntmps150
  go_wp2_with (fail)
  refine (HA.out _).mono ?_
  rintro e w1 ⟨rfl, rfl⟩
  cases a
  · go_wp2_with (fail)
    go_ret
    exact ⟨by rw [HR.out]; rfl, by (repeat (first | exact Below.refl _ _ | assumption | refine below_alloc ?_ _ | refine below_drewN ?_ _ | refine below_set ?_ _ (by simp; try omega) | refine Below.drew ?_))⟩
  go_wp2_with (fail)
  refine (HB.out _).mono ?_
  rintro e w1 ⟨rfl, rfl⟩
  cases b
  · have hn := HBN.out rfl
    obtain rfl : R = false := by rw [HR.out, decide_eq_false hn]; split <;> simp
    clear hn HR
    go_wp2_with (fail)
    go_ret
    exact ⟨rfl, by (repeat (first | exact Below.refl _ _ | assumption | refine below_alloc ?_ _ | refine below_drewN ?_ _ | refine below_set ?_ _ (by simp; try omega) | refine Below.drew ?_))⟩
  go_wp2_with (fail)
  refine (HD.out _).mono ?_
  rintro e w1 ⟨rfl, rfl⟩
  cases d
  · by_cases hn : n = 0
    · subst hn
      by_cases hk : k = 1
      · subst hk
        obtain rfl : R = q := by rw [HR.out]; simp
        clear HR
        go_wp2_with (fail)
        refine (HE.out _).mono ?_
        rintro e w2 ⟨rfl, hb⟩
        have HB2 := Lib.hid (below_chain (by (repeat (first | exact Below.refl _ _ | assumption | refine below_alloc ?_ _ | refine below_drewN ?_ _ | refine below_set ?_ _ (by simp; try omega) | refine Below.drew ?_)) : Below w.heap.size w _) hb)
        clear hb
        go_wp2_with (fail)
        go_ret
        exact ⟨rfl, HB2.out⟩
      · have hkb : (k == 1) = false := by simpa using hk
        obtain rfl : R = nm.toList.isEmpty := by rw [HR.out, if_neg hk]; simp
        clear hk HR
        go_wp2_with (fail)
        go_ret
        exact ⟨by first | rfl | (simp; done) | (simp; rfl), by (repeat (first | exact Below.refl _ _ | assumption | refine below_alloc ?_ _ | refine below_drewN ?_ _ | refine below_set ?_ _ (by simp; try omega) | refine Below.drew ?_))⟩
    · have hnb : (n != 0) = true := by simpa using hn
      obtain rfl : R = false := by rw [HR.out, decide_eq_false hn]; split <;> simp
      clear hn HR
      go_wp2_with (fail)
      go_ret
      exact ⟨rfl, by (repeat (first | exact Below.refl _ _ | assumption | refine below_alloc ?_ _ | refine below_drewN ?_ _ | refine below_set ?_ _ (by simp; try omega) | refine Below.drew ?_))⟩
  · have hk := HDK.out rfl
    have hkb : (k == 1) = false := by simpa using hk
    obtain rfl : R = nm.toList.isEmpty := by rw [HR.out, if_neg hk]; simp
    clear hk HR
    go_wp2_with (fail)
    go_ret
    exact ⟨by first | rfl | (simp; done) | (simp; rfl), by (repeat (first | exact Below.refl _ _ | assumption | refine below_alloc ?_ _ | refine below_drewN ?_ _ | refine below_set ?_ _ (by simp; try omega) | refine Below.drew ?_))⟩
set_option maxHeartbeats 1000000 in
set_option maxRecDepth 100000 in
theorem c_isNumbered (k : Int) (w : World) : Calls Tryz.prog 177 #[.int .i64 k] w fun e w' => e = .returned (.bool (numB k)) ∧ w = w' := by
  by_cases h7 : k = 7
  · subst h7
    go_enter Tryz.func177, Tryz.ntmps177
    go_wp2_with (fail)
    go_ret
    exact ⟨rfl, rfl⟩
  by_cases h8 : k = 8
  · subst h8
    go_enter Tryz.func177, Tryz.ntmps177
    go_wp2_with (fail)
    go_ret
    exact ⟨rfl, rfl⟩
  by_cases h11 : k = 11
  · subst h11
    go_enter Tryz.func177, Tryz.ntmps177
    go_wp2_with (fail)
    go_ret
    exact ⟨rfl, rfl⟩
  by_cases h12 : k = 12
  · subst h12
    go_enter Tryz.func177, Tryz.ntmps177
    go_wp2_with (fail)
    go_ret
    exact ⟨rfl, rfl⟩
  have e7 : (k == 7) = false := by simpa using h7
  have e8 : (k == 8) = false := by simpa using h8
  have e11 : (k == 11) = false := by simpa using h11
  have e12 : (k == 12) = false := by simpa using h12
  have HE : Hid (numB k = false) := Lib.hid (by unfold numB; simp; omega)
  rw [HE.out]
  clear h7 h8 h11 h12
  go_enter Tryz.func177, Tryz.ntmps177
  go_wp2_with (fail)
  go_ret
  exact ⟨rfl, rfl⟩
set_option maxHeartbeats 1000000 in
set_option maxRecDepth 100000 in
theorem c_isTerm (k : Int) (nm : ByteArray) (n : Int) (w : World) (hs : nm.size ≤ 1048576) (hkw : KwR w) : Calls Tryz.prog 147 #[.agg #[.int .i64 k, .string nm, .int .i64 n]] w fun e w' => e = .returned (.bool (trmT k nm n)) ∧ Below w.heap.size w w' := by
  have HA := Lib.hid (fun w => c_within k 1 12 w)
  have HB := Lib.hid (fun w => c_within n 0 9999 w)
  have HD := Lib.hid (fun w => c_isNumbered k w)
  have HE := Lib.hid (fun w h => c_isName nm w hs h)
  have HNE := Lib.hid (fun h => name_ne (nm := nm) h)
  have HDK := Lib.hid (fun h => num_one (k := k) h)
  have HKW := Lib.hid hkw
  clear hkw
  have HR : Hid (trmT k nm n = (inB k 1 12 && (if k = 1 then (decide (n = 0) && nameB nm) else (nm.toList.isEmpty && (if numB k then inB n 0 9999 else decide (n = 0)))))) := Lib.hid rfl
  generalize trmT k nm n = R at *
  generalize inB k 1 12 = a at *
  generalize inB n 0 9999 = b at *
  generalize numB k = d at *
  generalize nameB nm = q at *
  go_enter Tryz.func147, Tryz.ntmps147
  go_wp2_with (fail)
  refine (HA.out _).mono ?_
  rintro e w1 ⟨rfl, rfl⟩
  cases a
  · obtain rfl : R = false := by rw [HR.out]; rfl
    go_wp2_with (fail)
    go_ret
    exact ⟨rfl, by (repeat (first | exact Below.refl _ _ | assumption | refine below_alloc ?_ _ | refine below_drewN ?_ _ | refine below_set ?_ _ (by simp; try omega) | refine Below.drew ?_))⟩
  by_cases hk : k = 1
  · subst hk
    rw [if_pos rfl] at HR
    rcases hz : nm.toList.isEmpty with _ | _
    · cases d
      · go_wp2_with (fail)
        refine (HD.out _).mono ?_
        rintro e w1 ⟨rfl, rfl⟩
        by_cases hn : n = 0
        · subst hn
          obtain rfl : R = q := by rw [HR.out]; simp
          go_wp2_with (fail)
          refine (HE.out _ (HKW.out.below (by (repeat (first | exact Below.refl _ _ | assumption | refine below_alloc ?_ _ | refine below_drewN ?_ _ | refine below_set ?_ _ (by simp; try omega) | refine Below.drew ?_))))).mono ?_
          rintro e w2 ⟨rfl, hb⟩
          have HB2 := Lib.hid (below_chain (by (repeat (first | exact Below.refl _ _ | assumption | refine below_alloc ?_ _ | refine below_drewN ?_ _ | refine below_set ?_ _ (by simp; try omega) | refine Below.drew ?_)) : Below w.heap.size w _) hb)
          clear hb
          go_wp2_with (fail)
          go_ret
          exact ⟨rfl, HB2.out⟩
        · have hnb : (n == 0) = false := by simpa using hn
          obtain rfl : R = false := by rw [HR.out, decide_eq_false hn]; simp
          clear hn
          go_wp2_with (fail)
          go_ret
          exact ⟨rfl, by (repeat (first | exact Below.refl _ _ | assumption | refine below_alloc ?_ _ | refine below_drewN ?_ _ | refine below_set ?_ _ (by simp; try omega) | refine Below.drew ?_))⟩
      · exact absurd rfl (HDK.out rfl)
    · have hq : q = false := by
        cases q with
        | false => rfl
        | true => have := HNE.out rfl; rw [hz] at this; cases this
      subst hq
      obtain rfl : R = false := by rw [HR.out]; simp
      go_wp2_with (fail)
      go_ret
      exact ⟨rfl, by (repeat (first | exact Below.refl _ _ | assumption | refine below_alloc ?_ _ | refine below_drewN ?_ _ | refine below_set ?_ _ (by simp; try omega) | refine Below.drew ?_))⟩
  · have hkb : (k == 1) = false := by simpa using hk
    have hkb2 : (k != 1) = true := by simpa using hk
    rw [if_neg hk] at HR
    clear hk
    rcases hz : nm.toList.isEmpty with _ | _
    · obtain rfl : R = false := by rw [HR.out]; simp [hz]
      go_wp2_with (fail)
      go_ret
      exact ⟨rfl, by (repeat (first | exact Below.refl _ _ | assumption | refine below_alloc ?_ _ | refine below_drewN ?_ _ | refine below_set ?_ _ (by simp; try omega) | refine Below.drew ?_))⟩
    · go_wp2_with (fail)
      refine (HD.out _).mono ?_
      rintro e w1 ⟨rfl, rfl⟩
      cases d
      · by_cases hn : n = 0
        · subst hn
          obtain rfl : R = true := by rw [HR.out]; simp [hz]
          go_wp2_with (fail)
          go_ret
          exact ⟨by first | rfl | (simp; done) | (simp; rfl), by (repeat (first | exact Below.refl _ _ | assumption | refine below_alloc ?_ _ | refine below_drewN ?_ _ | refine below_set ?_ _ (by simp; try omega) | refine Below.drew ?_))⟩
        · have hnb : (n == 0) = false := by simpa using hn
          obtain rfl : R = false := by rw [HR.out, decide_eq_false hn]; simp
          clear hn
          go_wp2_with (fail)
          go_ret
          exact ⟨by first | rfl | (simp; done) | (simp; rfl), by (repeat (first | exact Below.refl _ _ | assumption | refine below_alloc ?_ _ | refine below_drewN ?_ _ | refine below_set ?_ _ (by simp; try omega) | refine Below.drew ?_))⟩
      · obtain rfl : R = b := by rw [HR.out]; simp [hz]
        go_wp2_with (fail)
        refine (HB.out _).mono ?_
        rintro e w1 ⟨rfl, rfl⟩
        go_wp2_with (fail)
        go_ret
        exact ⟨by first | rfl | (simp; done) | (simp; rfl), by (repeat (first | exact Below.refl _ _ | assumption | refine below_alloc ?_ _ | refine below_drewN ?_ _ | refine below_set ?_ _ (by simp; try omega) | refine Below.drew ?_))⟩
end Go.Proofs.YteengjcplmjakaaGreatDoor
