/- Terms and blocks on the program's side. Condition: the names' lengths; the keywords lie there. -/
import Derived.Test.YtdkclhbonmpcbaaDoorCIx
namespace Go.Proofs.YtdkclhbonmpcbaaDoor
open Go.RowKit

set_option maxHeartbeats 2000000 in
set_option maxRecDepth 100000 in
theorem c_isTerm (k n : Int) (nm : ByteArray) (w : World) (hs : nm.size ≤ 1048576) (hk : Strs w 0 17) : Calls Tryd.prog 47 #[.agg #[.int .i64 k, .string nm, .int .i64 n]] w (TrmP k n nm w) := by
  have HK := Lib.hid hk
  clear hk
  rcases hk : inB k 1 12 with _ | _
  · have HV : Hid (blkT k n nm = false) := Lib.hid (by unfold blkT; rw [hk]; rfl)
    go_enter Tryd.func47, Tryd.ntmps47
    go_wp2_with (first
      | (go_at_call 23
         refine (c_within _ _ _ _).mono ?_
         rintro e w' ⟨rfl, rfl⟩)
      )
    go_ret
    exact ⟨_, rfl, fun _ => HV.out.symm, by (repeat (first | exact Below.refl _ _ | assumption | refine below_alloc ?_ _ | refine below_drewN ?_ _ | refine below_set ?_ _ (by simp; try omega) | refine Below.drew ?_))⟩
  by_cases h1 : k = 1
  · subst h1
    rcases hq : nm.toList.isEmpty with _ | _
    · skip
      by_cases h0 : n = 0
      · subst h0
        go_enter Tryd.func47, Tryd.ntmps47
        go_wp2_with (first
          | (go_at_call 23
             refine (c_within _ _ _ _).mono ?_
             rintro e w' ⟨rfl, rfl⟩)
          | (go_at_call 54
             refine (c_isNumbered _ _).mono ?_
             rintro e w' ⟨rfl, rfl⟩)
          )
        refine (c_isName nm _ hs (HK.out.below (below_alloc (Below.refl _ _) _))).mono ?_
        rintro e w1 ⟨b, rfl, hb⟩
        have HB := Lib.hid (below_chain (below_alloc (Below.refl _ _) _) hb)
        clear hb
        go_wp2_with (fail)
        go_ret
        exact ⟨_, rfl, fun h => absurd rfl h, HB.out⟩
      · have e0 : (n == 0) = false := by simpa using h0
        clear h0
        go_enter Tryd.func47, Tryd.ntmps47
        go_wp2_with (first
          | (go_at_call 23
             refine (c_within _ _ _ _).mono ?_
             rintro e w' ⟨rfl, rfl⟩)
          | (go_at_call 54
             refine (c_isNumbered _ _).mono ?_
             rintro e w' ⟨rfl, rfl⟩)
          )
        go_ret
        exact ⟨_, rfl, fun h => absurd rfl h, by (repeat (first | exact Below.refl _ _ | assumption | refine below_alloc ?_ _ | refine below_drewN ?_ _ | refine below_set ?_ _ (by simp; try omega) | refine Below.drew ?_))⟩
    · skip
      go_enter Tryd.func47, Tryd.ntmps47
      go_wp2_with (first
        | (go_at_call 23
           refine (c_within _ _ _ _).mono ?_
           rintro e w' ⟨rfl, rfl⟩)
        )
      go_ret
      exact ⟨_, rfl, fun h => absurd rfl h, by (repeat (first | exact Below.refl _ _ | assumption | refine below_alloc ?_ _ | refine below_drewN ?_ _ | refine below_set ?_ _ (by simp; try omega) | refine Below.drew ?_))⟩
  have e1 : (k == 1) = false := by simpa using h1
  have e1n : (k != 1) = true := by simpa using h1
  clear h1
  rcases hq : nm.toList.isEmpty with _ | _
  · skip
    have HV : Hid (blkT k n nm = false) := Lib.hid (by unfold blkT; rw [hq]; simp)
    go_enter Tryd.func47, Tryd.ntmps47
    go_wp2_with (first
      | (go_at_call 23
         refine (c_within _ _ _ _).mono ?_
         rintro e w' ⟨rfl, rfl⟩)
      )
    go_ret
    exact ⟨_, rfl, fun _ => HV.out.symm, by (repeat (first | exact Below.refl _ _ | assumption | refine below_alloc ?_ _ | refine below_drewN ?_ _ | refine below_set ?_ _ (by simp; try omega) | refine Below.drew ?_))⟩
  rcases hc : numB k with _ | _
  · have HV : Hid (blkT k n nm = (n == 0)) := Lib.hid (by
      unfold blkT
      rw [hk, hc, hq]
      by_cases h0 : n = 0
      · subst h0; rfl
      · simp [h0])
    by_cases h0 : n = 0
    · subst h0
      go_enter Tryd.func47, Tryd.ntmps47
      go_wp2_with (first
        | (go_at_call 23
           refine (c_within _ _ _ _).mono ?_
           rintro e w' ⟨rfl, rfl⟩)
        | (go_at_call 54
           refine (c_isNumbered _ _).mono ?_
           rintro e w' ⟨rfl, rfl⟩)
        )
      go_ret
      exact ⟨_, rfl, fun _ => HV.out.symm, by (repeat (first | exact Below.refl _ _ | assumption | refine below_alloc ?_ _ | refine below_drewN ?_ _ | refine below_set ?_ _ (by simp; try omega) | refine Below.drew ?_))⟩
    · have e0 : (n == 0) = false := by simpa using h0
      rw [e0] at HV
      clear h0
      go_enter Tryd.func47, Tryd.ntmps47
      go_wp2_with (first
        | (go_at_call 23
           refine (c_within _ _ _ _).mono ?_
           rintro e w' ⟨rfl, rfl⟩)
        | (go_at_call 54
           refine (c_isNumbered _ _).mono ?_
           rintro e w' ⟨rfl, rfl⟩)
        )
      go_ret
      exact ⟨_, rfl, fun _ => HV.out.symm, by (repeat (first | exact Below.refl _ _ | assumption | refine below_alloc ?_ _ | refine below_drewN ?_ _ | refine below_set ?_ _ (by simp; try omega) | refine Below.drew ?_))⟩
  · have HV : Hid (blkT k n nm = inB n 0 9999) := Lib.hid (by
      unfold blkT
      rw [hk, hc, hq]
      simp)
    go_enter Tryd.func47, Tryd.ntmps47
    go_wp2_with (first
      | (go_at_call 23
         refine (c_within _ _ _ _).mono ?_
         rintro e w' ⟨rfl, rfl⟩)
      | (go_at_call 54
         refine (c_isNumbered _ _).mono ?_
         rintro e w' ⟨rfl, rfl⟩)
      )
    go_ret
    exact ⟨_, rfl, fun _ => HV.out.symm, by (repeat (first | exact Below.refl _ _ | assumption | refine below_alloc ?_ _ | refine below_drewN ?_ _ | refine below_set ?_ _ (by simp; try omega) | refine Below.drew ?_))⟩
set_option maxRecDepth 100000 in
theorem c_IsBlock (t : Tm) (w : World) (hs : t.nm.size ≤ 1048576) (hk : Strs w 0 17) : Calls Tryd.prog 39 #[.agg #[.int .i64 t.k, .string t.nm, .int .i64 t.n]] w fun e w' => e = .returned (.bool (blkB t)) ∧ Below w.heap.size w w' := by
  have HK := Lib.hid hk
  clear hk
  obtain ⟨k, nm, n⟩ := t
  dsimp only at hs ⊢
  go_enter Tryd.func39, Tryd.ntmps39
  go_wp2_with (fail)
  refine (c_isTerm k n nm _ hs (HK.out.below (below_alloc (Below.refl _ _) _))).mono ?_
  rintro e w1 ⟨b, rfl, hv, hb⟩
  have HB := Lib.hid (below_chain (below_alloc (Below.refl _ _) _) hb)
  have k0 : w1.cell? ⟨w.heap.size, 0, none⟩ = some (.int .i64 k) := cell_later hb (by go_simp)
  have HV : Hid ((b && decide (7 ≤ k)) = blkB ⟨k, nm, n⟩) := Lib.hid (by
    unfold blkB
    dsimp only
    by_cases h1 : k = 1
    · subst h1; simp
    · rw [hv h1])
  clear hv hb
  cases b
  · go_wp2_with (fail)
    go_ret
    exact ⟨ret_bool (by rw [← HV.out]; rfl), HB.out⟩
  · go_wp2_with (fail)
    go_ret
    exact ⟨ret_bool (by rw [← HV.out]; simp), HB.out⟩
set_option maxRecDepth 100000 in
theorem c_notBlock (t : Tm) (w : World) (hs : t.nm.size ≤ 1048576) (hk : Strs w 0 17) : Calls Tryd.prog 38 #[.agg #[.int .i64 t.k, .string t.nm, .int .i64 t.n]] w fun e w' => e = .returned (.bool (!blkB t)) ∧ Below w.heap.size w w' := by
  have HK := Lib.hid hk
  clear hk
  go_enter Tryd.func38, Tryd.ntmps38
  go_wp2_with (fail)
  refine (c_IsBlock t _ hs (HK.out.below (below_alloc (Below.refl _ _) _))).mono ?_
  rintro e w1 ⟨rfl, hb⟩
  have HB := Lib.hid (below_chain (below_alloc (Below.refl _ _) _) hb)
  clear hb
  go_wp2_with (fail)
  go_ret
  exact ⟨rfl, HB.out⟩
end Go.Proofs.YtdkclhbonmpcbaaDoor
