/- The laws' own helpers: likeDiagrams5, big. No condition but the sizes. -/
import Derived.Test.YtndihacmlkgkbaaDgE
import Derived.Test.YtndihacmlkgkbaaGdV
import Derived.Test.YtndihacmlkgkbaaOpenBZ
namespace Go.Proofs.Ytndihacmlkgkbaa
open Go.RowKit

set_option maxHeartbeats 1000000 in
set_option maxRecDepth 100000 in
theorem c_like (X R X' R' : Int) (A A' : Option Addr) (c c' n n' : Nat) (l l' : List Nd) (w : World) (hn : n = l.length) (hn' : n' = l'.length) (hs : n ≤ 1099511627776) (hs' : n' ≤ 1099511627776) (hr : Rd w A (ndCells l)) (hr' : Rd w A' (ndCells l')) :
    Calls Try.prog 36 #[.agg #[.int .i64 X, .slice A n c, .int .i64 R], .agg #[.int .i64 X', .slice A' n' c', .int .i64 R']] w fun e w' => e = .returned (.bool (sameB X l R X' l' R')) ∧ Below w.heap.size w w' := by
  have HN := Lib.hid hn
  have HN' := Lib.hid hn'
  by_cases hx : X = X'
  rotate_left
  · have HS : Hid (sameB X l R X' l' R' = false) := Lib.hid (same_no fun h => hx h.1)
    have hx2 : (X != X') = true := by simpa using hx
    rw [HS.out]
    clear hn hn'
    go_enter Try.func36, Try.ntmps36
    go_wp2
    go_ret
    exact ⟨rfl, by (repeat (first | exact Below.refl _ _ | assumption | refine below_alloc ?_ _ | refine below_drewN ?_ _ | refine below_set ?_ _ (by simp; try omega) | refine Below.drew ?_))⟩
  subst hx
  by_cases hR : R = R'
  rotate_left
  · have HS : Hid (sameB X l R X l' R' = false) := Lib.hid (same_no fun h => hR h.2.1)
    have hx2 : (R != R') = true := by simpa using hR
    rw [HS.out]
    clear hn hn'
    go_enter Try.func36, Try.ntmps36
    go_wp2
    go_ret
    exact ⟨rfl, by (repeat (first | exact Below.refl _ _ | assumption | refine below_alloc ?_ _ | refine below_drewN ?_ _ | refine below_set ?_ _ (by simp; try omega) | refine Below.drew ?_))⟩
  subst hR
  by_cases hL : n = n'
  rotate_left
  · have HS : Hid (sameB X l R X l' R = false) := Lib.hid (same_no fun h => hL (by rw [hn, hn']; exact h.2.2))
    have hx2 : ((n : Int) != n') = true := by simp; omega
    rw [HS.out]
    clear hn hn'
    go_enter Try.func36, Try.ntmps36
    go_wp2
    go_ret
    exact ⟨rfl, by (repeat (first | exact Below.refl _ _ | assumption | refine below_alloc ?_ _ | refine below_drewN ?_ _ | refine below_set ?_ _ (by simp; try omega) | refine Below.drew ?_))⟩
  subst hL
  clear hn hn' hs'
  have HR := Lib.hid (hr.below (below_alloc (below_alloc (Below.refl w.heap.size w) (.cells #[.int .i64 X, .slice A n c, .int .i64 R] 29)) (.cells #[.int .i64 X, .slice A' n c', .int .i64 R] 29)))
  have HR' := Lib.hid (hr'.below (below_alloc (below_alloc (Below.refl w.heap.size w) (.cells #[.int .i64 X, .slice A n c, .int .i64 R] 29)) (.cells #[.int .i64 X, .slice A' n c', .int .i64 R] 29)))
  have HB := Lib.hid (below_alloc (below_alloc (Below.refl w.heap.size w) (.cells #[.int .i64 X, .slice A n c, .int .i64 R] 29)) (.cells #[.int .i64 X, .slice A' n c', .int .i64 R] 29))
  have k0 : ((w.alloc (.cells #[.int .i64 X, .slice A n c, .int .i64 R] 29)).alloc (.cells #[.int .i64 X, .slice A' n c', .int .i64 R] 29)).cell? ⟨w.heap.size, 1, none⟩ = some (.slice A n c) := by go_simp
  have k1 : ((w.alloc (.cells #[.int .i64 X, .slice A n c, .int .i64 R] 29)).alloc (.cells #[.int .i64 X, .slice A' n c', .int .i64 R] 29)).cell? ⟨w.heap.size + 1, 1, none⟩ = some (.slice A' n c') := by go_simp
  clear hr hr'
  go_enter Try.func36, Try.ntmps36
  go_wp2_with (fail)
  generalize (w.alloc (.cells #[.int .i64 X, .slice A n c, .int .i64 R] 29)).alloc (.cells #[.int .i64 X, .slice A' n c', .int .i64 R] 29) = W at *
  go_loopw [5] (fun u wr => ∃ k : Nat, k ≤ n ∧ u = .int .i64 k ∧ Below W.heap.size W wr ∧ Hid (l.take k = l'.take k)) (fun u _ => n - (intOf u).toNat)
  case atStart => exact ⟨0, Nat.zero_le _, rfl, Below.refl _ _, Lib.hid rfl⟩
  case round =>
    obtain ⟨k, hk, rfl, hb, ht⟩ := hrel
    replace k0 := cell_later hb k0
    replace k1 := cell_later hb k1
    by_cases hlt : k < n
    · obtain ⟨x, hx⟩ : ∃ x, l[k]? = some x := ⟨_, List.getElem?_eq_getElem (by have := HN.out; omega)⟩
      obtain ⟨y, hy⟩ : ∃ y, l'[k]? = some y := ⟨_, List.getElem?_eq_getElem (by have := HN'.out; omega)⟩
      obtain ⟨b1, o1, rfl, _, g0, g1, g2⟩ := (HR.out.below hb).nd hx
      obtain ⟨b2, o2, rfl, _, e0, e1, e2⟩ := (HR'.out.below hb).nd hy
      have HX := Lib.hid hx
      have HY := Lib.hid hy
      have HBB := Lib.hid hb
      have hk0 : (0 : Int) ≤ (k : Int) := by omega
      have hk1 : (k : Int) < n := by omega
      clear hx hy hb
      obtain ⟨xi, xa, xb⟩ := x
      obtain ⟨yi, ya, yb⟩ := y
      dsimp only at g0 g1 g2 e0 e1 e2
      go_wp2_with (fail)
      refine wp_region_held_drew (S := (fun w' => (w'.cell? ⟨w.heap.size, 1, none⟩ = some (.slice (some ⟨b1, o1, none⟩) n c) ∧ w'.cell? ⟨w.heap.size + 1, 1, none⟩ = some (.slice (some ⟨b2, o2, none⟩) n c')) ∧ (w'.cell? ⟨b1, o1 + k * 3, none⟩ = some (.int .i64 xi) ∧ w'.cell? ⟨b1, o1 + k * 3 + 1, none⟩ = some (.int .i64 xa) ∧ w'.cell? ⟨b1, o1 + k * 3 + 2, none⟩ = some (.int .i64 xb)) ∧ (w'.cell? ⟨b2, o2 + k * 3, none⟩ = some (.int .i64 yi) ∧ w'.cell? ⟨b2, o2 + k * 3 + 1, none⟩ = some (.int .i64 ya) ∧ w'.cell? ⟨b2, o2 + k * 3 + 2, none⟩ = some (.int .i64 yb)))) (by kernel_rfl) ?_ (fun hHeld => ?_)
      · exact ⟨⟨k0, k1⟩, ⟨g0, g1, g2⟩, e0, e1, e2⟩
      refine rg_take (v := ?_) 0 rfl (by kernel_rfl) (by kernel_rfl) (by kernel_rfl) (fun _ _ _ h => h) (by kernel_rfl) ?_ (by assumption) ?_
      rotate_left
      · (intro w' hSw; (try dsimp only at hSw); go_simp; first | done | with_reducible rfl)
      simp only [Act.put, List.setIfInBounds_toArray, List.set_cons_zero, List.set_cons_succ]
      refine rg_take (v := ?_) 1 rfl (by kernel_rfl) (by kernel_rfl) (by kernel_rfl) (fun _ _ _ h => h) (by kernel_rfl) ?_ (by assumption) ?_
      rotate_left
      · (intro w' hSw; (try dsimp only at hSw); go_simp; first | done | with_reducible rfl)
      simp only [Act.put, List.setIfInBounds_toArray, List.set_cons_zero, List.set_cons_succ]
      refine rg_take (v := ?_) 2 rfl (by kernel_rfl) (by kernel_rfl) (by kernel_rfl) (fun _ _ _ h => h) (by kernel_rfl) ?_ (by assumption) ?_
      rotate_left
      · (intro w' hSw; (try dsimp only at hSw); go_simp; first | done | with_reducible rfl)
      simp only [Act.put, List.setIfInBounds_toArray, List.set_cons_zero, List.set_cons_succ]
      refine rg_take (v := ?_) 3 rfl (by kernel_rfl) (by kernel_rfl) (by kernel_rfl) (fun _ _ _ h => h) (by kernel_rfl) ?_ (by assumption) ?_
      rotate_left
      · (intro w' hSw; (try dsimp only at hSw); go_simp; first | done | with_reducible rfl)
      simp only [Act.put, List.setIfInBounds_toArray, List.set_cons_zero, List.set_cons_succ]
      refine rg_take (v := ?_) 4 rfl (by kernel_rfl) (by kernel_rfl) (by kernel_rfl) (fun _ _ _ h => h) (by kernel_rfl) ?_ (by assumption) ?_
      rotate_left
      · (intro w' hSw; (try dsimp only at hSw); go_simp; first | done | with_reducible rfl)
      simp only [Act.put, List.setIfInBounds_toArray, List.set_cons_zero, List.set_cons_succ]
      refine rg_take (v := ?_) 5 rfl (by kernel_rfl) (by kernel_rfl) (by kernel_rfl) (fun _ _ _ h => h) (by kernel_rfl) ?_ (by assumption) ?_
      rotate_left
      · (intro w' hSw; (try dsimp only at hSw); go_simp; first | done | with_reducible rfl)
      simp only [Act.put, List.setIfInBounds_toArray, List.set_cons_zero, List.set_cons_succ]
      refine rg_take (v := ?_) 6 rfl (by kernel_rfl) (by kernel_rfl) (by kernel_rfl) (fun _ _ _ h => h) (by kernel_rfl) ?_ (by assumption) ?_
      rotate_left
      · (intro w' hSw; (try dsimp only at hSw); go_simp; first | done | with_reducible rfl)
      simp only [Act.put, List.setIfInBounds_toArray, List.set_cons_zero, List.set_cons_succ]
      refine rg_take (v := ?_) 7 rfl (by kernel_rfl) (by kernel_rfl) (by kernel_rfl) (fun _ _ _ h => h) (by kernel_rfl) ?_ (by assumption) ?_
      rotate_left
      · (intro w' hSw; (try dsimp only at hSw); go_simp; first | done | with_reducible rfl)
      simp only [Act.put, List.setIfInBounds_toArray, List.set_cons_zero, List.set_cons_succ]
      refine rg_take (v := ?_) 8 rfl (by kernel_rfl) (by kernel_rfl) (by kernel_rfl) (fun _ _ _ h => h) (by kernel_rfl) ?_ (by assumption) ?_
      rotate_left
      · (intro w' hSw; (try dsimp only at hSw); go_simp; first | done | with_reducible rfl)
      simp only [Act.put, List.setIfInBounds_toArray, List.set_cons_zero, List.set_cons_succ]
      refine rg_take (v := ?_) 9 rfl (by kernel_rfl) (by kernel_rfl) (by kernel_rfl) (fun _ _ _ h => h) (by kernel_rfl) ?_ (by assumption) ?_
      rotate_left
      · (intro w' hSw; (try dsimp only at hSw); go_simp; first | done | with_reducible rfl)
      simp only [Act.put, List.setIfInBounds_toArray, List.set_cons_zero, List.set_cons_succ]
      obtain ⟨E, hE⟩ : ∃ E : Bool, E = !decide (xi = yi ∧ xa = ya ∧ xb = yb) := ⟨_, rfl⟩
      refine rg_take (v := .bool E) 10 rfl (by kernel_rfl) (by kernel_rfl) (by kernel_rfl) (fun _ _ _ h => h) (by kernel_rfl) ?_ (by assumption) ?_
      · intro w' hSw
        subst hE
        go_simp
        by_cases e0 : xi = yi <;> by_cases e1 : xa = ya <;> by_cases e2 : xb = yb <;> simp [e0, e1, e2]
      simp only [Act.put, List.setIfInBounds_toArray, List.set_cons_zero, List.set_cons_succ]
      refine wpAnyH_done (by kernel_rfl) ?_ _
      clear hHeld
      have HBd := Lib.hid (HBB.out.drew)
      rcases hEE : E with _ | _
      · subst hEE
        have hEn : xi = yi ∧ xa = ya ∧ xb = yb := by simpa using hE
        have HT := Lib.hid (take_nd ht.out HX.out HY.out (by rw [hEn.1, hEn.2.1, hEn.2.2]))
        go_wp2_with (fail)
        go_roundw
        case rel => exact ⟨k + 1, by omega, by go_num, HBd.out, HT⟩
        case measure => simp [intOf]; omega
      · subst hEE
        have hEn : ¬ (xi = yi ∧ xa = ya ∧ xb = yb) := by
          intro h
          simp [h.1, h.2.1, h.2.2] at hE
        have HM := Lib.hid (same_at (X := X) (R := R) (X' := X) (R' := R) HX.out HY.out (fun e => hEn (by simpa using e)))
        go_wp2_with (fail)
        go_ret
        exact ⟨by rw [HM.out]; rfl, below_chain HB.out HBd.out⟩
    · obtain rfl : k = n := by omega
      have HM := Lib.hid (same_yes (X := X) (R := R) ht.out HN.out HN'.out)
      have HBB := Lib.hid hb
      clear hb
      go_wp2_with (fail)
      go_ret
      exact ⟨by rw [HM.out]; rfl, below_chain HB.out HBB.out⟩
theorem c_big (A : Option Addr) (c n : Nat) (w : World) : Calls Try.prog 34 #[.slice A n c] w fun e w' => e = .returned (.bool (decide (4096 < n))) ∧ w = w' := by
  go_enter Try.func34, Try.ntmps34
  go_wp2
  go_ret
  exact ⟨ret_bool (by rw [decide_eq_decide]; omega), rfl⟩
end Go.Proofs.Ytndihacmlkgkbaa
