/- Terms and blocks on the reference's side. Condition: the names' lengths. -/
import Derived.Test.YtdkclhbonmpcbaaDoorCWd
namespace Go.Proofs.YtdkclhbonmpcbaaDoor
open Go.RowKit

set_option maxRecDepth 100000 in
theorem c_l13Kind (k : Int) (w : World) : Calls Tryd.prog 50 #[.int .i64 k] w fun e w' => e = .returned (.bool (inB k 1 12)) ∧ w = w' := by
  go_enter Tryd.func50, Tryd.ntmps50
  go_wp2_with (fail)
  refine (c_l01In _ _ _ _).mono ?_
  rintro e w1 ⟨rfl, rfl⟩
  go_wp2_with (fail)
  go_ret
  exact ⟨rfl, rfl⟩
def numB (k : Int) : Bool := decide (k = 7 ∨ k = 8 ∨ k = 11 ∨ k = 12)
set_option maxRecDepth 100000 in
theorem c_l13Counts (k : Int) (w : World) : Calls Tryd.prog 51 #[.int .i64 k] w fun e w' => e = .returned (.bool (numB k)) ∧ w = w' := by
  by_cases h7 : k = 7
  · subst h7
    go_enter Tryd.func51, Tryd.ntmps51
    go_wp2_with (fail)
    go_ret
    exact ⟨rfl, rfl⟩
  by_cases h8 : k = 8
  · subst h8
    go_enter Tryd.func51, Tryd.ntmps51
    go_wp2_with (fail)
    go_ret
    exact ⟨rfl, rfl⟩
  by_cases h11 : k = 11
  · subst h11
    go_enter Tryd.func51, Tryd.ntmps51
    go_wp2_with (fail)
    go_ret
    exact ⟨rfl, rfl⟩
  by_cases h12 : k = 12
  · subst h12
    go_enter Tryd.func51, Tryd.ntmps51
    go_wp2_with (fail)
    go_ret
    exact ⟨rfl, rfl⟩
  have e7 : (k == 7) = false := by simpa using h7
  have e8 : (k == 8) = false := by simpa using h8
  have e11 : (k == 11) = false := by simpa using h11
  have e12 : (k == 12) = false := by simpa using h12
  have HE : Hid (numB k = false) := Lib.hid (by unfold numB; simp; omega)
  rw [HE.out]
  clear h7 h8 h11 h12
  go_enter Tryd.func51, Tryd.ntmps51
  go_wp2_with (fail)
  go_ret
  exact ⟨rfl, rfl⟩
def blkT (k n : Int) (nm : ByteArray) : Bool := inB k 1 12 && inB n 0 9999 && (numB k || decide (n = 0)) && nm.toList.isEmpty
def TrmP (k n : Int) (nm : ByteArray) (w : World) (e : Ending) (w' : World) : Prop := ∃ b, e = .returned (.bool b) ∧ (k ≠ 1 → b = blkT k n nm) ∧ Below w.heap.size w w'
set_option maxHeartbeats 1000000 in
set_option maxRecDepth 100000 in
theorem c_l13Term (k n : Int) (nm : ByteArray) (w : World) (hs : nm.size ≤ 1048576) : Calls Tryd.prog 43 #[.agg #[.int .i64 k, .string nm, .int .i64 n]] w (TrmP k n nm w) := by
  rcases hk : inB k 1 12 with _ | _
  · have HV : Hid (blkT k n nm = false) := Lib.hid (by unfold blkT; rw [hk]; rfl)
    go_enter Tryd.func43, Tryd.ntmps43
    go_wp2_with (first
      | (go_at_call 50
         refine (c_l13Kind _ _).mono ?_
         rintro e w' ⟨rfl, rfl⟩)
      )
    go_ret
    exact ⟨_, rfl, fun _ => HV.out.symm, by (repeat (first | exact Below.refl _ _ | assumption | refine below_alloc ?_ _ | refine below_drewN ?_ _ | refine below_set ?_ _ (by simp; try omega) | refine Below.drew ?_))⟩
  rcases hn : inB n 0 9999 with _ | _
  · have HV : Hid (blkT k n nm = false) := Lib.hid (by unfold blkT; rw [hk, hn]; rfl)
    go_enter Tryd.func43, Tryd.ntmps43
    go_wp2_with (first
      | (go_at_call 50
         refine (c_l13Kind _ _).mono ?_
         rintro e w' ⟨rfl, rfl⟩)
      | (go_at_call 18
         refine (c_l01In _ _ _ _).mono ?_
         rintro e w' ⟨rfl, rfl⟩)
      )
    go_ret
    exact ⟨_, rfl, fun _ => HV.out.symm, by (repeat (first | exact Below.refl _ _ | assumption | refine below_alloc ?_ _ | refine below_drewN ?_ _ | refine below_set ?_ _ (by simp; try omega) | refine Below.drew ?_))⟩
  rcases hc : numB k with _ | _
  · by_cases h0 : n = 0
    · subst h0
      by_cases h1 : k = 1
      · subst h1
        clear hk hn hc
        have hk : inB 1 1 12 = true := rfl
        have hn : inB 0 0 9999 = true := rfl
        have hc : numB 1 = false := rfl
        go_enter Tryd.func43, Tryd.ntmps43
        go_wp2_with (first
          | (go_at_call 50
             refine (c_l13Kind _ _).mono ?_
             rintro e w' ⟨rfl, rfl⟩)
          | (go_at_call 18
             refine (c_l01In _ _ _ _).mono ?_
             rintro e w' ⟨rfl, rfl⟩)
          | (go_at_call 51
             refine (c_l13Counts _ _).mono ?_
             rintro e w' ⟨rfl, rfl⟩)
          )
        refine (c_l13Name nm _ hs).mono ?_
        rintro e w1 ⟨b, rfl, hb⟩
        have HB := Lib.hid (below_chain (below_alloc (Below.refl _ _) _) hb)
        clear hb
        go_wp2_with (fail)
        go_ret
        exact ⟨_, rfl, fun h => absurd rfl h, HB.out⟩
      · have e1 : (k == 1) = false := by simpa using h1
        have HV : Hid (blkT k 0 nm = nm.toList.isEmpty) := Lib.hid (by unfold blkT; rw [hk, hn, hc]; simp)
        clear h1
        go_enter Tryd.func43, Tryd.ntmps43
        go_wp2_with (first
          | (go_at_call 50
             refine (c_l13Kind _ _).mono ?_
             rintro e w' ⟨rfl, rfl⟩)
          | (go_at_call 18
             refine (c_l01In _ _ _ _).mono ?_
             rintro e w' ⟨rfl, rfl⟩)
          | (go_at_call 51
             refine (c_l13Counts _ _).mono ?_
             rintro e w' ⟨rfl, rfl⟩)
          )
        go_ret
        exact ⟨_, rfl, fun _ => HV.out.symm, by (repeat (first | exact Below.refl _ _ | assumption | refine below_alloc ?_ _ | refine below_drewN ?_ _ | refine below_set ?_ _ (by simp; try omega) | refine Below.drew ?_))⟩
    · have e0 : (n != 0) = true := by simpa using h0
      have HV : Hid (blkT k n nm = false) := Lib.hid (by unfold blkT; rw [hk, hn, hc]; simp [h0])
      clear h0
      go_enter Tryd.func43, Tryd.ntmps43
      go_wp2_with (first
        | (go_at_call 50
           refine (c_l13Kind _ _).mono ?_
           rintro e w' ⟨rfl, rfl⟩)
        | (go_at_call 18
           refine (c_l01In _ _ _ _).mono ?_
           rintro e w' ⟨rfl, rfl⟩)
        | (go_at_call 51
           refine (c_l13Counts _ _).mono ?_
           rintro e w' ⟨rfl, rfl⟩)
        )
      go_ret
      exact ⟨_, rfl, fun _ => HV.out.symm, by (repeat (first | exact Below.refl _ _ | assumption | refine below_alloc ?_ _ | refine below_drewN ?_ _ | refine below_set ?_ _ (by simp; try omega) | refine Below.drew ?_))⟩
  · have h1 : k ≠ 1 := by rintro rfl; cases hc
    have e1 : (k == 1) = false := by simpa using h1
    have HV : Hid (blkT k n nm = nm.toList.isEmpty) := Lib.hid (by unfold blkT; rw [hk, hn, hc]; simp)
    clear h1
    go_enter Tryd.func43, Tryd.ntmps43
    go_wp2_with (first
      | (go_at_call 50
         refine (c_l13Kind _ _).mono ?_
         rintro e w' ⟨rfl, rfl⟩)
      | (go_at_call 18
         refine (c_l01In _ _ _ _).mono ?_
         rintro e w' ⟨rfl, rfl⟩)
      | (go_at_call 51
         refine (c_l13Counts _ _).mono ?_
         rintro e w' ⟨rfl, rfl⟩)
      )
    go_ret
    exact ⟨_, rfl, fun _ => HV.out.symm, by (repeat (first | exact Below.refl _ _ | assumption | refine below_alloc ?_ _ | refine below_drewN ?_ _ | refine below_set ?_ _ (by simp; try omega) | refine Below.drew ?_))⟩
/-- A term is a block. -/
def blkB (t : Tm) : Bool := blkT t.k t.n t.nm && decide (7 ≤ t.k)
set_option maxRecDepth 100000 in
theorem c_sIsBlock (t : Tm) (w : World) (hs : t.nm.size ≤ 1048576) : Calls Tryd.prog 33 #[.agg #[.int .i64 t.k, .string t.nm, .int .i64 t.n]] w fun e w' => e = .returned (.bool (blkB t)) ∧ Below w.heap.size w w' := by
  obtain ⟨k, nm, n⟩ := t
  dsimp only at hs ⊢
  go_enter Tryd.func33, Tryd.ntmps33
  go_wp2_with (fail)
  refine (c_l13Term k n nm _ hs).mono ?_
  rintro e w1 ⟨b, rfl, hv, hb⟩
  have HB := Lib.hid (below_chain (below_alloc (Below.refl _ _) _) hb)
  have k0 : w1.cell? ⟨w.heap.size, 0, none⟩ = some (.int .i64 k) := cell_later hb (by go_simp)
  have HV : Hid ((b && decide (7 ≤ k)) = blkB ⟨k, nm, n⟩) := Lib.hid (by
    unfold blkB
    dsimp only
    by_cases h1 : k = 1
    · subst h1; simp
    · rw [hv h1])
  clear hv hb
  cases b
  · go_wp2_with (fail)
    go_ret
    exact ⟨ret_bool (by rw [← HV.out]; rfl), HB.out⟩
  · go_wp2_with (fail)
    go_ret
    exact ⟨ret_bool (by rw [← HV.out]; simp), HB.out⟩
end Go.Proofs.YtdkclhbonmpcbaaDoor
