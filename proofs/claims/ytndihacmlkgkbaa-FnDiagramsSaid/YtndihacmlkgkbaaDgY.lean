/- slices.Equal at lists of nodes. Condition: the sizes. -/
import Derived.Test.YtndihacmlkgkbaaDgX
namespace Go.Proofs.Ytndihacmlkgkbaa
open Go.RowKit

set_option maxHeartbeats 1000000 in
set_option maxRecDepth 100000 in
theorem c_EqualNd (A A' : Option Addr) (c c' n n' : Nat) (l l' : List Nd) (w : World) (hn : n = l.length) (hn' : n' = l'.length) (hs : n ≤ 1099511627776) (hs' : n' ≤ 1099511627776) (hr : Rd w A (ndCells l)) (hr' : Rd w A' (ndCells l')) :
    Calls Try.prog 49 #[.slice A n c, .slice A' n' c'] w fun e w' => e = .returned (.bool (decide (l = l'))) ∧ Below w.heap.size w w' := by
  have HN := Lib.hid hn
  have HN' := Lib.hid hn'
  by_cases hL : n = n'
  rotate_left
  · have HS : Hid (decide (l = l') = false) := Lib.hid (decide_eq_false fun e => hL (by rw [hn, hn', e]))
    have hx2 : ((n : Int) != n') = true := by simp; omega
    rw [HS.out]
    clear hn hn'
    go_enter Try.func49, Try.ntmps49
    go_wp2
    go_ret
    exact ⟨rfl, by (repeat (first | exact Below.refl _ _ | assumption | refine below_alloc ?_ _ | refine below_drewN ?_ _ | refine below_set ?_ _ (by simp; try omega) | refine Below.drew ?_))⟩
  subst hL
  clear hn hn' hs'
  have HR := Lib.hid hr
  have HR' := Lib.hid hr'
  clear hr hr'
  go_enter Try.func49, Try.ntmps49
  go_wp2_with (fail)
  go_loopw [5, 13] (fun _ u wr => ∃ k : Nat, k ≤ n ∧ u = .int .i64 k ∧ Below w.heap.size w wr ∧ Hid (l.take k = l'.take k)) (fun _ u _ => n - (intOf u).toNat)
  case atStart => exact ⟨0, Nat.zero_le _, rfl, Below.refl _ _, Lib.hid rfl⟩
  case round =>
    obtain ⟨k, hk, rfl, hb, ht⟩ := hrel
    by_cases hlt : k < n
    · obtain ⟨x, hx⟩ : ∃ x, l[k]? = some x := ⟨_, List.getElem?_eq_getElem (by have := HN.out; omega)⟩
      obtain ⟨y, hy⟩ : ∃ y, l'[k]? = some y := ⟨_, List.getElem?_eq_getElem (by have := HN'.out; omega)⟩
      obtain ⟨b1, o1, rfl, _, g0, g1, g2⟩ := (HR.out.below hb).nd hx
      obtain ⟨b2, o2, rfl, _, e0, e1, e2⟩ := (HR'.out.below hb).nd hy
      have HX := Lib.hid hx
      have HY := Lib.hid hy
      have HBB := Lib.hid hb
      have hk0 : (0 : Int) ≤ (k : Int) := by omega
      have hk1 : (k : Int) < n := by omega
      clear hx hy hb
      obtain ⟨xi, xa, xb⟩ := x
      obtain ⟨yi, ya, yb⟩ := y
      dsimp only at g0 g1 g2 e0 e1 e2
      go_wp2_with (fail)
      refine wp_region_held_drew (S := (fun w' => (w'.cell? ⟨b1, o1 + k * 3, none⟩ = some (.int .i64 xi) ∧ w'.cell? ⟨b1, o1 + k * 3 + 1, none⟩ = some (.int .i64 xa) ∧ w'.cell? ⟨b1, o1 + k * 3 + 2, none⟩ = some (.int .i64 xb)) ∧ (w'.cell? ⟨b2, o2 + k * 3, none⟩ = some (.int .i64 yi) ∧ w'.cell? ⟨b2, o2 + k * 3 + 1, none⟩ = some (.int .i64 ya) ∧ w'.cell? ⟨b2, o2 + k * 3 + 2, none⟩ = some (.int .i64 yb)))) (by kernel_rfl) ?_ (fun hHeld => ?_)
      · exact ⟨⟨g0, g1, g2⟩, e0, e1, e2⟩
      refine rg_take (v := ?_) 0 rfl (by kernel_rfl) (by kernel_rfl) (by kernel_rfl) (fun _ _ _ h => h) (by kernel_rfl) ?_ (by assumption) ?_
      rotate_left
      · (intro w' hSw; (try dsimp only at hSw); go_simp; first | done | with_reducible rfl)
      simp only [Act.put, List.setIfInBounds_toArray, List.set_cons_zero, List.set_cons_succ]
      refine rg_take (v := ?_) 1 rfl (by kernel_rfl) (by kernel_rfl) (by kernel_rfl) (fun _ _ _ h => h) (by kernel_rfl) ?_ (by assumption) ?_
      rotate_left
      · (intro w' hSw; (try dsimp only at hSw); go_simp; first | done | with_reducible rfl)
      simp only [Act.put, List.setIfInBounds_toArray, List.set_cons_zero, List.set_cons_succ]
      refine rg_take (v := ?_) 2 rfl (by kernel_rfl) (by kernel_rfl) (by kernel_rfl) (fun _ _ _ h => h) (by kernel_rfl) ?_ (by assumption) ?_
      rotate_left
      · (intro w' hSw; (try dsimp only at hSw); go_simp; first | done | with_reducible rfl)
      simp only [Act.put, List.setIfInBounds_toArray, List.set_cons_zero, List.set_cons_succ]
      refine rg_take (v := ?_) 3 rfl (by kernel_rfl) (by kernel_rfl) (by kernel_rfl) (fun _ _ _ h => h) (by kernel_rfl) ?_ (by assumption) ?_
      rotate_left
      · (intro w' hSw; (try dsimp only at hSw); go_simp; first | done | with_reducible rfl)
      simp only [Act.put, List.setIfInBounds_toArray, List.set_cons_zero, List.set_cons_succ]
      refine rg_take (v := ?_) 4 rfl (by kernel_rfl) (by kernel_rfl) (by kernel_rfl) (fun _ _ _ h => h) (by kernel_rfl) ?_ (by assumption) ?_
      rotate_left
      · (intro w' hSw; (try dsimp only at hSw); go_simp; first | done | with_reducible rfl)
      simp only [Act.put, List.setIfInBounds_toArray, List.set_cons_zero, List.set_cons_succ]
      refine rg_take (v := ?_) 5 rfl (by kernel_rfl) (by kernel_rfl) (by kernel_rfl) (fun _ _ _ h => h) (by kernel_rfl) ?_ (by assumption) ?_
      rotate_left
      · (intro w' hSw; (try dsimp only at hSw); go_simp; first | done | with_reducible rfl)
      simp only [Act.put, List.setIfInBounds_toArray, List.set_cons_zero, List.set_cons_succ]
      refine rg_take (v := ?_) 6 rfl (by kernel_rfl) (by kernel_rfl) (by kernel_rfl) (fun _ _ _ h => h) (by kernel_rfl) ?_ (by assumption) ?_
      rotate_left
      · (intro w' hSw; (try dsimp only at hSw); go_simp; first | done | with_reducible rfl)
      simp only [Act.put, List.setIfInBounds_toArray, List.set_cons_zero, List.set_cons_succ]
      refine rg_take (v := ?_) 7 rfl (by kernel_rfl) (by kernel_rfl) (by kernel_rfl) (fun _ _ _ h => h) (by kernel_rfl) ?_ (by assumption) ?_
      rotate_left
      · (intro w' hSw; (try dsimp only at hSw); go_simp; first | done | with_reducible rfl)
      simp only [Act.put, List.setIfInBounds_toArray, List.set_cons_zero, List.set_cons_succ]
      obtain ⟨E, hE⟩ : ∃ E : Bool, E = !decide (xi = yi ∧ xa = ya ∧ xb = yb) := ⟨_, rfl⟩
      refine rg_take (v := .bool E) 8 rfl (by kernel_rfl) (by kernel_rfl) (by kernel_rfl) (fun _ _ _ h => h) (by kernel_rfl) ?_ (by assumption) ?_
      · intro w' hSw
        subst hE
        go_simp
        by_cases e0 : xi = yi <;> by_cases e1 : xa = ya <;> by_cases e2 : xb = yb <;> simp [e0, e1, e2]
      simp only [Act.put, List.setIfInBounds_toArray, List.set_cons_zero, List.set_cons_succ]
      refine wpAnyH_done (by kernel_rfl) ?_ _
      clear hHeld
      have HBd := Lib.hid (HBB.out.drew)
      rcases hEE : E with _ | _
      · subst hEE
        have hEn : xi = yi ∧ xa = ya ∧ xb = yb := by simpa using hE
        have HT := Lib.hid (take_nd ht.out HX.out HY.out (by rw [hEn.1, hEn.2.1, hEn.2.2]))
        go_wp2_with (fail)
        go_roundw
        case rel => exact ⟨k + 1, by omega, by go_num, HBd.out, HT⟩
        case measure => simp [intOf]; omega
      · subst hEE
        have hEn : ¬ (xi = yi ∧ xa = ya ∧ xb = yb) := by
          intro h
          simp [h.1, h.2.1, h.2.2] at hE
        have HM : Hid (decide (l = l') = false) := Lib.hid (decide_eq_false fun e => hEn (by
          have h1 := HX.out
          rw [e, HY.out] at h1
          simpa [eq_comm] using h1))
        go_wp2_with (fail)
        go_ret
        exact ⟨by rw [HM.out]; rfl, HBd.out⟩
    · obtain rfl : k = n := by omega
      have HM : Hid (decide (l = l') = true) := Lib.hid (decide_eq_true (by
        have h := ht.out
        rw [List.take_of_length_le (by have := HN.out; omega), List.take_of_length_le (by have := HN'.out; omega)] at h
        exact h))
      have HBB := Lib.hid hb
      clear hb
      go_wp2_with (fail)
      go_ret
      exact ⟨by rw [HM.out]; rfl, HBB.out⟩
end Go.Proofs.Ytndihacmlkgkbaa
