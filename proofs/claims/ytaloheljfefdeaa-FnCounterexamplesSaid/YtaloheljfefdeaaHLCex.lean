/- The walk of the law FnCounterexamples. No condition but the bytes. -/
import Derived.Test.YtaloheljfefdeaaHPlCex
import Derived.Test.YtaloheljfefdeaaH16
namespace Go.Proofs.Ytaloheljfefdeaa
open Go.RowKit

set_option maxHeartbeats 4000000 in
set_option maxRecDepth 100000 in
theorem law_FnCounterexamples (A : Option Addr) (c n : Nat) (w : World) (hb : Bytes w w.heap.size A n) :
    Calls Try.prog 3 #[.slice A n c] w fun e w' => e = .returned (.bool true) ∧ Below w.heap.size w w' := by
  rcases Nat.lt_or_ge 4096 n with hbig | hbig
  · have hd : decide (4096 < n) = true := by simp; omega
    go_enter Try.func3, Try.ntmps3
    go_wp2_with (first
      | (go_at_call 7
         refine (c_big _ _ _ _).mono ?_
         rintro e w' ⟨rfl, rfl⟩)
      )
    go_ret
    exact ⟨rfl, by (repeat (first | exact Below.refl _ _ | assumption | refine below_alloc ?_ _ | refine below_drewN ?_ _ | refine below_set ?_ _ (by simp; try omega) | refine Below.drew ?_))⟩
  have hd : decide (4096 < n) = false := by simp; omega
  have HBY := Lib.hid hb
  go_enter Try.func3, Try.ntmps3
  go_wp2_with (first
    | (go_at_call 7
       refine (c_big _ _ _ _).mono ?_
       rintro e w' ⟨rfl, rfl⟩)
    )
  refine (c_DrawFindBad A c n w hbig hb).mono ?_
  rintro e w1 ⟨az, ax, ar, cz, cs, cr, m, ds, A4, c4, ts, rfl, hok, hmo, htl, hto, B⟩
  have HOK := Lib.hid hok
  have hm1 := hmo.md
  have ht1 := Rd.own hto
  clear hmo hto hb hok
  dsimp only [mv]
  go_upto_region 4 with (fail)
  have k0 : (w1.alloc (.cells #[.slice az m.sz.length cz, .slice ax m.st.length cs, .slice ar m.rs.length cr] 27)).cell? ⟨w1.heap.size, 0, none⟩ = some (.slice az m.sz.length cz) := by go_simp
  have k1 : (w1.alloc (.cells #[.slice az m.sz.length cz, .slice ax m.st.length cs, .slice ar m.rs.length cr] 27)).cell? ⟨w1.heap.size, 1, none⟩ = some (.slice ax m.st.length cs) := by go_simp
  have k2 : (w1.alloc (.cells #[.slice az m.sz.length cz, .slice ax m.st.length cs, .slice ar m.rs.length cr] 27)).cell? ⟨w1.heap.size, 2, none⟩ = some (.slice ar m.rs.length cr) := by go_simp
  replace hm1 := hm1.below (below_alloc (Below.refl _ _) (.cells #[.slice az m.sz.length cz, .slice ax m.st.length cs, .slice ar m.rs.length cr] 27))
  replace ht1 := ht1.below (below_alloc (Below.refl _ _) (.cells #[.slice az m.sz.length cz, .slice ax m.st.length cs, .slice ar m.rs.length cr] 27))
  replace B := below_alloc B (.cells #[.slice az m.sz.length cz, .slice ax m.st.length cs, .slice ar m.rs.length cr] 27)
  generalize w1.alloc (.cells #[.slice az m.sz.length cz, .slice ax m.st.length cs, .slice ar m.rs.length cr] 27) = Ww1 at k0 k1 k2 hm1 ht1 B ⊢
  generalize w1.heap.size = b0 at *
  go_wp2_with (fail)
  refine (c_FindBad m az ax ar cz cs cr A4 c4 ts _ HOK.out htl hm1 ht1).mono ?_
  rintro e w2 ⟨A5, c5, rfl, ho, hb⟩
  have hstep : Below Ww1.heap.size Ww1 w2 := below_chain (by (repeat (first | exact Below.refl _ _ | assumption | refine below_alloc ?_ _ | refine below_drewN ?_ _ | refine below_set ?_ _ (by simp; try omega) | refine Below.drew ?_))) hb
  replace hm1 := hm1.below hstep
  replace ht1 := ht1.below hstep
  replace k0 := cell_later hstep k0
  replace k1 := cell_later hstep k1
  replace k2 := cell_later hstep k2
  replace B := below_chain B hstep
  have r5 := Rd.own ho
  clear ho
  clear hb hstep
  go_wp2_with (fail)
  refine (c_sFindBad m az ax ar cz cs cr A4 c4 ts _ HOK.out htl hm1 ht1).mono ?_
  rintro e w3 ⟨A7, c7, rfl, ho, hb⟩
  have hstep : Below w2.heap.size w2 w3 := below_chain (by (repeat (first | exact Below.refl _ _ | assumption | refine below_alloc ?_ _ | refine below_drewN ?_ _ | refine below_set ?_ _ (by simp; try omega) | refine Below.drew ?_))) hb
  replace hm1 := hm1.below hstep
  replace ht1 := ht1.below hstep
  replace r5 := r5.below hstep
  replace k0 := cell_later hstep k0
  replace k1 := cell_later hstep k1
  replace k2 := cell_later hstep k2
  replace B := below_chain B hstep
  have r7 := Rd.own ho
  clear ho
  clear hb hstep
  go_wp2_with (fail)
  refine (c_IsSafeModel m az ax ar cz cs cr A4 c4 ts _ HOK.out htl hm1 ht1).mono ?_
  rintro e w4 ⟨rfl, hb⟩
  have hstep : Below w3.heap.size w3 w4 := below_chain (by (repeat (first | exact Below.refl _ _ | assumption | refine below_alloc ?_ _ | refine below_drewN ?_ _ | refine below_set ?_ _ (by simp; try omega) | refine Below.drew ?_))) hb
  replace hm1 := hm1.below hstep
  replace ht1 := ht1.below hstep
  replace r5 := r5.below hstep
  replace r7 := r7.below hstep
  replace k0 := cell_later hstep k0
  replace k1 := cell_later hstep k1
  replace k2 := cell_later hstep k2
  replace B := below_chain B hstep
  clear hb hstep
  go_wp2_with (fail)
  refine (c_sIsSafeModel m az ax ar cz cs cr A4 c4 ts _ HOK.out htl hm1 ht1).mono ?_
  rintro e w5 ⟨rfl, hb⟩
  have hstep : Below w4.heap.size w4 w5 := below_chain (by (repeat (first | exact Below.refl _ _ | assumption | refine below_alloc ?_ _ | refine below_drewN ?_ _ | refine below_set ?_ _ (by simp; try omega) | refine Below.drew ?_))) hb
  replace hm1 := hm1.below hstep
  replace ht1 := ht1.below hstep
  replace r5 := r5.below hstep
  replace r7 := r7.below hstep
  replace k0 := cell_later hstep k0
  replace k1 := cell_later hstep k1
  replace k2 := cell_later hstep k2
  replace B := below_chain B hstep
  clear hb hstep
  go_wp2_with (fail)
  refine (c_DrawIsCounterexample A c n _ hbig (bytes_later HBY.out B)).mono ?_
  rintro e w6 ⟨bz, bx, br, dz, dS, dr, m2, ds2, A14, c14, A15, c15, ts2, tr2, rfl, hok2, hmo2, htl2, hto2, hrl2, hro2, hb⟩
  have hstep : Below w5.heap.size w5 w6 := below_chain (by (repeat (first | exact Below.refl _ _ | assumption | refine below_alloc ?_ _ | refine below_drewN ?_ _ | refine below_set ?_ _ (by simp; try omega) | refine Below.drew ?_))) hb
  replace hm1 := hm1.below hstep
  replace ht1 := ht1.below hstep
  replace r5 := r5.below hstep
  replace r7 := r7.below hstep
  replace k0 := cell_later hstep k0
  replace k1 := cell_later hstep k1
  replace k2 := cell_later hstep k2
  replace B := below_chain B hstep
  have hm2 := hmo2.md
  have ht2 := Rd.own hto2
  have hr2 := Rd.own hro2
  have HOK2 := Lib.hid hok2
  clear hmo2 hto2 hro2 hok2
  clear hb hstep
  dsimp only [mv]
  go_upto_region 9 with (fail)
  have j0 : (w6.alloc (.cells #[.slice bz m2.sz.length dz, .slice bx m2.st.length dS, .slice br m2.rs.length dr] 27)).cell? ⟨w6.heap.size, 0, none⟩ = some (.slice bz m2.sz.length dz) := by go_simp
  have j1 : (w6.alloc (.cells #[.slice bz m2.sz.length dz, .slice bx m2.st.length dS, .slice br m2.rs.length dr] 27)).cell? ⟨w6.heap.size, 1, none⟩ = some (.slice bx m2.st.length dS) := by go_simp
  have j2 : (w6.alloc (.cells #[.slice bz m2.sz.length dz, .slice bx m2.st.length dS, .slice br m2.rs.length dr] 27)).cell? ⟨w6.heap.size, 2, none⟩ = some (.slice br m2.rs.length dr) := by go_simp
  replace hm1 := hm1.below (below_alloc (Below.refl _ _) (.cells #[.slice bz m2.sz.length dz, .slice bx m2.st.length dS, .slice br m2.rs.length dr] 27))
  replace ht1 := ht1.below (below_alloc (Below.refl _ _) (.cells #[.slice bz m2.sz.length dz, .slice bx m2.st.length dS, .slice br m2.rs.length dr] 27))
  replace r5 := r5.below (below_alloc (Below.refl _ _) (.cells #[.slice bz m2.sz.length dz, .slice bx m2.st.length dS, .slice br m2.rs.length dr] 27))
  replace r7 := r7.below (below_alloc (Below.refl _ _) (.cells #[.slice bz m2.sz.length dz, .slice bx m2.st.length dS, .slice br m2.rs.length dr] 27))
  replace hm2 := hm2.below (below_alloc (Below.refl _ _) (.cells #[.slice bz m2.sz.length dz, .slice bx m2.st.length dS, .slice br m2.rs.length dr] 27))
  replace ht2 := ht2.below (below_alloc (Below.refl _ _) (.cells #[.slice bz m2.sz.length dz, .slice bx m2.st.length dS, .slice br m2.rs.length dr] 27))
  replace hr2 := hr2.below (below_alloc (Below.refl _ _) (.cells #[.slice bz m2.sz.length dz, .slice bx m2.st.length dS, .slice br m2.rs.length dr] 27))
  replace k0 := cell_later (below_alloc (Below.refl _ _) (.cells #[.slice bz m2.sz.length dz, .slice bx m2.st.length dS, .slice br m2.rs.length dr] 27)) k0
  replace k1 := cell_later (below_alloc (Below.refl _ _) (.cells #[.slice bz m2.sz.length dz, .slice bx m2.st.length dS, .slice br m2.rs.length dr] 27)) k1
  replace k2 := cell_later (below_alloc (Below.refl _ _) (.cells #[.slice bz m2.sz.length dz, .slice bx m2.st.length dS, .slice br m2.rs.length dr] 27)) k2
  replace B := below_alloc B (.cells #[.slice bz m2.sz.length dz, .slice bx m2.st.length dS, .slice br m2.rs.length dr] 27)
  generalize w6.alloc (.cells #[.slice bz m2.sz.length dz, .slice bx m2.st.length dS, .slice br m2.rs.length dr] 27) = Ww6 at j0 j1 j2 hm1 ht1 r5 r7 hm2 ht2 hr2 k0 k1 k2 B ⊢
  generalize w6.heap.size = b1 at *
  have hfl := fbL_len2 m ts
  have elk : likB (fbL m ts) (fbL m ts) = true := by unfold likB; simp
  have HLK := Lib.hid (fun w' h h' => c_likeB A5 A7 c5 c7 _ _ (fbL m ts) (fbL m ts) w' rfl rfl hfl hfl h h')
  rw [elk] at HLK
  clear elk
  have HI2 := Lib.hid (fun w' h h1 h2 => c_IsCounterexample m2 bz bx br dz dS dr A14 c14 ts2 A15 c15 tr2 w' HOK2.out hrl2 htl2 h h2 h1)
  have HJ2 := Lib.hid (fun w' h h1 h2 => c_sIsCounterexample m2 bz bx br dz dS dr A14 c14 ts2 A15 c15 tr2 w' HOK2.out hrl2 htl2 h h2 h1)
  have HF2 := Lib.hid (fun w' h h1 => c_FindBad m2 bz bx br dz dS dr A14 c14 ts2 w' HOK2.out htl2 h h1)
  have HMN := Lib.hid (fun h : icB m2 ts2 tr2 = true => fb_min h)
  have HFO := Lib.hid (fun w' h hv => c_FollowTrace m az ax ar cz cs cr A5 c5 (fbL m ts) w' HOK.out hfl h hv)
  have HIC := Lib.hid (fun w' h h1 h2 => c_IsCounterexample m az ax ar cz cs cr A4 c4 ts A5 c5 (fbL m ts) w' HOK.out hfl htl h h2 h1)
  have HHO := Lib.hid (fun (l : List Int) (hl : l.length ≤ 1048576) A c w' h hv ht => c_HoldsIn m az ax ar cz cs cr A c l A4 c4 ts w' HOK.out hl htl h hv ht)
  have HYE := Lib.hid (fun h : fbC m ts = 0 => fb_yes h)
  have HNO := Lib.hid (fun h : fbC m ts = 4 => fb_not h)
  have HFE := Lib.hid (ft_each2 (m := m) (tr := fbL m ts) HOK.out)
  dsimp only [mv] at HI2 HJ2 HF2 HFO HIC HHO
  go_wp2_with (fail)
  have HM := Lib.hid hm1
  have HT := Lib.hid ht1
  have HR5 := Lib.hid r5
  have HR7 := Lib.hid r7
  have HM2 := Lib.hid hm2
  have HT2 := Lib.hid ht2
  have HT3 := Lib.hid hr2
  have HK := Lib.hid (And.intro k0 (And.intro k1 k2))
  have HB := Lib.hid B
  clear hm1 ht1 r5 r7 hm2 ht2 hr2 k0 k1 k2 B
  generalize icB m2 ts2 tr2 = IC2 at *
  refine wp_region_held_drew (S := (fun w' => w'.cell? ⟨b1, 0, none⟩ = some (.slice bz m2.sz.length dz) ∧ w'.cell? ⟨b1, 1, none⟩ = some (.slice bx m2.st.length dS) ∧ w'.cell? ⟨b1, 2, none⟩ = some (.slice br m2.rs.length dr))) (by kernel_rfl) ?_ (fun hHeld => ?_)
  · exact ⟨j0, j1, j2⟩
  refine rg_take (v := ?_) 0 rfl (by kernel_rfl) (by kernel_rfl) (by kernel_rfl) (fun _ _ _ h => h) (by kernel_rfl) ?_ (by assumption) ?_
  rotate_left
  · (intro w' hSw; (try dsimp only at hSw); go_simp; first | done | with_reducible rfl)
  simp only [Act.put, List.setIfInBounds_toArray, List.set_cons_zero, List.set_cons_succ]
  refine rg_take (v := ?_) 1 rfl (by kernel_rfl) (by kernel_rfl) (by kernel_rfl) (fun _ _ _ h => h) (by kernel_rfl) ?_ (by assumption) ?_
  rotate_left
  · (intro w' hSw; (try dsimp only at hSw); go_simp; first | done | with_reducible rfl)
  simp only [Act.put, List.setIfInBounds_toArray, List.set_cons_zero, List.set_cons_succ]
  refine rg_take (v := ?_) 2 rfl (by kernel_rfl) (by kernel_rfl) (by kernel_rfl) (fun _ _ _ h => h) (by kernel_rfl) ?_ (by assumption) ?_
  rotate_left
  · (intro w' hSw; (try dsimp only at hSw); go_simp; first | done | with_reducible rfl)
  simp only [Act.put, List.setIfInBounds_toArray, List.set_cons_zero, List.set_cons_succ]
  refine rg_take (v := ?_) 3 rfl (by kernel_rfl) (by kernel_rfl) (by kernel_rfl) (fun _ _ _ h => h) (by kernel_rfl) ?_ (by assumption) ?_
  rotate_left
  · (intro w' hSw; (try dsimp only at hSw); go_simp; first | done | with_reducible rfl)
  simp only [Act.put, List.setIfInBounds_toArray, List.set_cons_zero, List.set_cons_succ]
  refine rg_take (v := ?_) 4 rfl (by kernel_rfl) (by kernel_rfl) (by kernel_rfl) (fun _ _ _ h => h) (by kernel_rfl) ?_ (by assumption) ?_
  rotate_left
  · (intro w' hSw; (try dsimp only at hSw); go_simp; first | done | with_reducible rfl)
  simp only [Act.put, List.setIfInBounds_toArray, List.set_cons_zero, List.set_cons_succ]
  refine rg_take (v := ?_) 5 rfl (by kernel_rfl) (by kernel_rfl) (by kernel_rfl) (fun _ _ _ h => h) (by kernel_rfl) ?_ (by assumption) ?_
  rotate_left
  · (intro w' hSw; (try dsimp only at hSw); go_simp; first | done | with_reducible rfl)
  simp only [Act.put, List.setIfInBounds_toArray, List.set_cons_zero, List.set_cons_succ]
  refine rg_run 6 rfl (by kernel_rfl) (by kernel_rfl) (fun K hK => ?_)
  go_simp
  refine (HLK.out _ (by exact HR5.out.drew) (by exact HR7.out.drew)).mono ?_
  rintro e w7 ⟨rfl, hb⟩
  have HB7 := Lib.hid (show Below Ww6.heap.size Ww6 w7 from below_chain (by exact (Below.refl _ _).drew) hb)
  replace j0 := cell_later HB7.out j0
  replace j1 := cell_later HB7.out j1
  replace j2 := cell_later HB7.out j2
  clear hb HLK HR7
  go_wp2
  clear hHeld
  refine hK.out _ _ ⟨j0, j1, j2⟩ (fun hHeld => ?_)
  clear hK K
  try simp only [Act.put, List.setIfInBounds_toArray, List.set_cons_zero, List.set_cons_succ]
  refine rg_take (v := ?_) 7 rfl (by kernel_rfl) (by kernel_rfl) (by kernel_rfl) (fun _ _ _ h => h) (by kernel_rfl) ?_ (by assumption) ?_
  rotate_left
  · (intro w' hSw; (try dsimp only at hSw); go_simp; first | done | with_reducible rfl)
  simp only [Act.put, List.setIfInBounds_toArray, List.set_cons_zero, List.set_cons_succ]
  refine rg_take (v := ?_) 8 rfl (by kernel_rfl) (by kernel_rfl) (by kernel_rfl) (fun _ _ _ h => h) (by kernel_rfl) ?_ (by assumption) ?_
  rotate_left
  · (intro w' hSw; (try dsimp only at hSw); go_simp; first | done | with_reducible rfl)
  simp only [Act.put, List.setIfInBounds_toArray, List.set_cons_zero, List.set_cons_succ]
  refine rg_take (v := ?_) 9 rfl (by kernel_rfl) (by kernel_rfl) (by kernel_rfl) (fun _ _ _ h => h) (by kernel_rfl) ?_ (by assumption) ?_
  rotate_left
  · (intro w' hSw; (try dsimp only at hSw); go_simp; first | done | with_reducible rfl)
  simp only [Act.put, List.setIfInBounds_toArray, List.set_cons_zero, List.set_cons_succ]
  refine rg_take (v := ?_) 10 rfl (by kernel_rfl) (by kernel_rfl) (by kernel_rfl) (fun _ _ _ h => h) (by kernel_rfl) ?_ (by assumption) ?_
  rotate_left
  · (intro w' hSw; (try dsimp only at hSw); go_simp; first | done | with_reducible rfl)
  simp only [Act.put, List.setIfInBounds_toArray, List.set_cons_zero, List.set_cons_succ]
  refine rg_take (v := ?_) 11 rfl (by kernel_rfl) (by kernel_rfl) (by kernel_rfl) (fun _ _ _ h => h) (by kernel_rfl) ?_ (by assumption) ?_
  rotate_left
  · (intro w' hSw; (try dsimp only at hSw); go_simp; first | done | with_reducible rfl)
  simp only [Act.put, List.setIfInBounds_toArray, List.set_cons_zero, List.set_cons_succ]
  refine rg_take (v := ?_) 12 rfl (by kernel_rfl) (by kernel_rfl) (by kernel_rfl) (fun _ _ _ h => h) (by kernel_rfl) ?_ (by assumption) ?_
  rotate_left
  · (intro w' hSw; (try dsimp only at hSw); go_simp; first | done | with_reducible rfl)
  simp only [Act.put, List.setIfInBounds_toArray, List.set_cons_zero, List.set_cons_succ]
  refine rg_take (v := ?_) 13 rfl (by kernel_rfl) (by kernel_rfl) (by kernel_rfl) (fun _ _ _ h => h) (by kernel_rfl) ?_ (by assumption) ?_
  rotate_left
  · (intro w' hSw; (try dsimp only at hSw); go_simp; first | done | with_reducible rfl)
  simp only [Act.put, List.setIfInBounds_toArray, List.set_cons_zero, List.set_cons_succ]
  refine rg_take (v := ?_) 14 rfl (by kernel_rfl) (by kernel_rfl) (by kernel_rfl) (fun _ _ _ h => h) (by kernel_rfl) ?_ (by assumption) ?_
  rotate_left
  · (intro w' hSw; (try dsimp only at hSw); go_simp; first | done | with_reducible rfl)
  simp only [Act.put, List.setIfInBounds_toArray, List.set_cons_zero, List.set_cons_succ]
  refine rg_take (v := ?_) 15 rfl (by kernel_rfl) (by kernel_rfl) (by kernel_rfl) (fun _ _ _ h => h) (by kernel_rfl) ?_ (by assumption) ?_
  rotate_left
  · (intro w' hSw; (try dsimp only at hSw); go_simp; first | done | with_reducible rfl)
  simp only [Act.put, List.setIfInBounds_toArray, List.set_cons_zero, List.set_cons_succ]
  refine rg_take (v := ?_) 16 rfl (by kernel_rfl) (by kernel_rfl) (by kernel_rfl) (fun _ _ _ h => h) (by kernel_rfl) ?_ (by assumption) ?_
  rotate_left
  · (intro w' hSw; (try dsimp only at hSw); go_simp; first | done | with_reducible rfl)
  simp only [Act.put, List.setIfInBounds_toArray, List.set_cons_zero, List.set_cons_succ]
  refine rg_take (v := ?_) 17 rfl (by kernel_rfl) (by kernel_rfl) (by kernel_rfl) (fun _ _ _ h => h) (by kernel_rfl) ?_ (by assumption) ?_
  rotate_left
  · (intro w' hSw; (try dsimp only at hSw); go_simp; first | done | with_reducible rfl)
  simp only [Act.put, List.setIfInBounds_toArray, List.set_cons_zero, List.set_cons_succ]
  refine rg_take (v := ?_) 18 rfl (by kernel_rfl) (by kernel_rfl) (by kernel_rfl) (fun _ _ _ h => h) (by kernel_rfl) ?_ (by assumption) ?_
  rotate_left
  · (intro w' hSw; (try dsimp only at hSw); go_simp; first | done | with_reducible rfl)
  simp only [Act.put, List.setIfInBounds_toArray, List.set_cons_zero, List.set_cons_succ]
  refine rg_take (v := ?_) 19 rfl (by kernel_rfl) (by kernel_rfl) (by kernel_rfl) (fun _ _ _ h => h) (by kernel_rfl) ?_ (by assumption) ?_
  rotate_left
  · (intro w' hSw; (try dsimp only at hSw); go_simp; first | done | with_reducible rfl)
  simp only [Act.put, List.setIfInBounds_toArray, List.set_cons_zero, List.set_cons_succ]
  refine rg_take (v := ?_) 20 rfl (by kernel_rfl) (by kernel_rfl) (by kernel_rfl) (fun _ _ _ h => h) (by kernel_rfl) ?_ (by assumption) ?_
  rotate_left
  · (intro w' hSw; (try dsimp only at hSw); go_simp; first | done | with_reducible rfl)
  simp only [Act.put, List.setIfInBounds_toArray, List.set_cons_zero, List.set_cons_succ]
  refine rg_take (v := ?_) 21 rfl (by kernel_rfl) (by kernel_rfl) (by kernel_rfl) (fun _ _ _ h => h) (by kernel_rfl) ?_ (by assumption) ?_
  rotate_left
  · (intro w' hSw; (try dsimp only at hSw); go_simp; first | done | with_reducible rfl)
  simp only [Act.put, List.setIfInBounds_toArray, List.set_cons_zero, List.set_cons_succ]
  refine rg_take (v := ?_) 22 rfl (by kernel_rfl) (by kernel_rfl) (by kernel_rfl) (fun _ _ _ h => h) (by kernel_rfl) ?_ (by assumption) ?_
  rotate_left
  · (intro w' hSw; (try dsimp only at hSw); go_simp; first | done | with_reducible rfl)
  simp only [Act.put, List.setIfInBounds_toArray, List.set_cons_zero, List.set_cons_succ]
  refine rg_take (v := ?_) 24 rfl (by kernel_rfl) (by kernel_rfl) (by kernel_rfl) (fun _ _ _ h => h) (by kernel_rfl) ?_ (by assumption) ?_
  rotate_left
  · (intro w' hSw; (try dsimp only at hSw); go_simp; first | done | with_reducible rfl)
  simp only [Act.put, List.setIfInBounds_toArray, List.set_cons_zero, List.set_cons_succ]
  refine rg_take (v := ?_) 25 rfl (by kernel_rfl) (by kernel_rfl) (by kernel_rfl) (fun _ _ _ h => h) (by kernel_rfl) ?_ (by assumption) ?_
  rotate_left
  · (intro w' hSw; (try dsimp only at hSw); go_simp; first | done | with_reducible rfl)
  simp only [Act.put, List.setIfInBounds_toArray, List.set_cons_zero, List.set_cons_succ]
  refine rg_take (v := ?_) 26 rfl (by kernel_rfl) (by kernel_rfl) (by kernel_rfl) (fun _ _ _ h => h) (by kernel_rfl) ?_ (by assumption) ?_
  rotate_left
  · (intro w' hSw; (try dsimp only at hSw); go_simp; first | done | with_reducible rfl)
  simp only [Act.put, List.setIfInBounds_toArray, List.set_cons_zero, List.set_cons_succ]
  refine rg_run 23 rfl (by kernel_rfl) (by kernel_rfl) (fun K hK => ?_)
  go_simp
  refine (HI2.out _ (by exact HM2.out.below HB7.out) (by exact HT2.out.below HB7.out) (by exact HT3.out.below HB7.out)).mono ?_
  rintro e w8 ⟨rfl, hb⟩
  have HB8 := Lib.hid (below_chain HB7.out hb)
  replace j0 := cell_later hb j0
  replace j1 := cell_later hb j1
  replace j2 := cell_later hb j2
  clear hb HB7
  go_wp2
  clear hHeld
  refine hK.out _ _ ⟨j0, j1, j2⟩ (fun hHeld => ?_)
  clear hK K
  try simp only [Act.put, List.setIfInBounds_toArray, List.set_cons_zero, List.set_cons_succ]
  refine rg_run 27 rfl (by kernel_rfl) (by kernel_rfl) (fun K hK => ?_)
  go_simp
  refine (HJ2.out _ (by exact HM2.out.below HB8.out) (by exact HT2.out.below HB8.out) (by exact HT3.out.below HB8.out)).mono ?_
  rintro e w9 ⟨rfl, hb⟩
  have HB9 := Lib.hid (below_chain HB8.out hb)
  replace j0 := cell_later hb j0
  replace j1 := cell_later hb j1
  replace j2 := cell_later hb j2
  clear hb HB8 HJ2
  go_wp2
  clear hHeld
  refine hK.out _ _ ⟨j0, j1, j2⟩ (fun hHeld => ?_)
  clear hK K
  try simp only [Act.put, List.setIfInBounds_toArray, List.set_cons_zero, List.set_cons_succ]
  refine rg_take (v := ?_) 28 rfl (by kernel_rfl) (by kernel_rfl) (by kernel_rfl) (fun _ _ _ h => h) (by kernel_rfl) ?_ (by assumption) ?_
  rotate_left
  · (intro w' hSw; (try dsimp only at hSw); go_simp; first | done | with_reducible rfl)
  simp only [Act.put, List.setIfInBounds_toArray, List.set_cons_zero, List.set_cons_succ]
  refine rg_take (v := ?_) 29 rfl (by kernel_rfl) (by kernel_rfl) (by kernel_rfl) (fun _ _ _ h => h) (by kernel_rfl) ?_ (by assumption) ?_
  rotate_left
  · (intro w' hSw; (try dsimp only at hSw); go_simp; first | done | with_reducible rfl)
  simp only [Act.put, List.setIfInBounds_toArray, List.set_cons_zero, List.set_cons_succ]
  refine wpAnyH_done (by kernel_rfl) ?_ _
  clear hHeld
  have HJ := Lib.hid (And.intro j0 (And.intro j1 j2))
  have k0 := cell_later HB9.out HK.out.1
  have k1 := cell_later HB9.out HK.out.2.1
  have k2 := cell_later HB9.out HK.out.2.2
  clear j0 j1 j2
  rcases Decidable.em (fbC m ts = 0) with hc | hc
  · obtain ⟨y1, y2, y3, y4, y5, y6⟩ := HYE.out hc
    rw [y2] at HFO
    rw [y3] at HIC
    rw [y1, hc]
    have HY4 := Lib.hid y4
    have HY6 := Lib.hid y6
    clear hc y1 y2 y3 y4 y6 HYE HNO
    generalize fbL m ts = t at *
    go_wp2_with (fail)
    refine (HFO.out _ (HM.out.below HB9.out) (HR5.out.below HB9.out)).mono ?_
    rintro e w10 ⟨A16, c16, rfl, hos, hb⟩
    have HL := Lib.hid (hos.rd rfl)
    have HB10 := Lib.hid (below_chain HB9.out hb)
    have HB910 := Lib.hid hb
    replace k0 := cell_later hb k0
    replace k1 := cell_later hb k1
    replace k2 := cell_later hb k2
    clear hb hos HB9 HFO
    rw [HY4.out]
    go_wp2_with (fail)
    refine (HIC.out _ (HM.out.below HB10.out) (HT.out.below HB10.out) (HR5.out.below HB10.out)).mono ?_
    rintro e w11 ⟨rfl, hb⟩
    have HL11 := Lib.hid (HL.out.below hb)
    have HB11 := Lib.hid (below_chain HB10.out hb)
    have HK11 := Lib.hid (And.intro (cell_later hb k0) (And.intro (cell_later hb k1) (cell_later hb k2)))
    have HT11 := Lib.hid (HT.out.below HB11.out)
    have HM11 := Lib.hid (HM.out.below HB11.out)
    have HJ11 := Lib.hid (And.intro (cell_later hb (cell_later (show Below w9.heap.size w9 w10 from HB910.out) HJ.out.1)) (And.intro (cell_later hb (cell_later HB910.out HJ.out.2.1)) (cell_later hb (cell_later HB910.out HJ.out.2.2))))
    clear hb HL HB10 HIC k0 k1 k2 HJ HB910
    generalize ftL m t = L at *
    go_wp2_with (fail)
    go_loopw [18] (fun v wr => ∃ i : Nat, i ≤ t.length ∧ v = .int .i64 i ∧ Hid (Below w11.heap.size w11 wr)) (fun v _ => t.length - (intOf v).toNat)
    case atStart => exact ⟨0, Nat.zero_le _, rfl, Lib.hid (Below.refl _ _)⟩
    case round =>
      obtain ⟨i, hi, rfl, hb⟩ := hrel
      by_cases hlt : i < t.length
      · have k0 := cell_later hb.out HK11.out.1
        have k1 := cell_later hb.out HK11.out.2.1
        have k2 := cell_later hb.out HK11.out.2.2
        obtain ⟨l, hl, q1, q2⟩ := HY6.out i hlt
        obtain ⟨lb, lo, la, lc, rfl, _, l0, hl5⟩ := (HL11.out.below hb.out).at hl
        have hll := HFE.out l (List.mem_of_getElem? hl)
        have hHO := HHO.out l hll la lc
        rw [q1, q2] at hHO
        have HHO1 := Lib.hid hHO
        have HL5 := Lib.hid hl5
        have hi0 : (0 : Int) ≤ (i : Int) := by omega
        have hi1 : (i : Int) < (t.length : Int) + 1 := by omega
        have hi2 : (i : Int) < (t.length : Int) := by omega
        clear hl q1 q2 hHO hl5
        generalize l.length = ll at *
        go_wp2_with (fail)
        refine wp_region_held_drew (S := (fun w' => w'.cell? ⟨b0, 0, none⟩ = some (.slice az m.sz.length cz) ∧ w'.cell? ⟨b0, 1, none⟩ = some (.slice ax m.st.length cs) ∧ w'.cell? ⟨b0, 2, none⟩ = some (.slice ar m.rs.length cr) ∧ w'.cell? ⟨lb, lo + i, none⟩ = some (.slice la ll lc))) (by kernel_rfl) ?_ (fun hHeld => ?_)
        · exact ⟨k0, k1, k2, l0⟩
        refine rg_take (v := ?_) 0 rfl (by kernel_rfl) (by kernel_rfl) (by kernel_rfl) (fun _ _ _ h => h) (by kernel_rfl) ?_ (by assumption) ?_
        rotate_left
        · (intro w' hSw; (try dsimp only at hSw); go_simp; first | done | with_reducible rfl)
        simp only [Act.put, List.setIfInBounds_toArray, List.set_cons_zero, List.set_cons_succ]
        refine rg_take (v := ?_) 1 rfl (by kernel_rfl) (by kernel_rfl) (by kernel_rfl) (fun _ _ _ h => h) (by kernel_rfl) ?_ (by assumption) ?_
        rotate_left
        · (intro w' hSw; (try dsimp only at hSw); go_simp; first | done | with_reducible rfl)
        simp only [Act.put, List.setIfInBounds_toArray, List.set_cons_zero, List.set_cons_succ]
        refine rg_take (v := ?_) 2 rfl (by kernel_rfl) (by kernel_rfl) (by kernel_rfl) (fun _ _ _ h => h) (by kernel_rfl) ?_ (by assumption) ?_
        rotate_left
        · (intro w' hSw; (try dsimp only at hSw); go_simp; first | done | with_reducible rfl)
        simp only [Act.put, List.setIfInBounds_toArray, List.set_cons_zero, List.set_cons_succ]
        refine rg_take (v := ?_) 3 rfl (by kernel_rfl) (by kernel_rfl) (by kernel_rfl) (fun _ _ _ h => h) (by kernel_rfl) ?_ (by assumption) ?_
        rotate_left
        · (intro w' hSw; (try dsimp only at hSw); go_simp; first | done | with_reducible rfl)
        simp only [Act.put, List.setIfInBounds_toArray, List.set_cons_zero, List.set_cons_succ]
        refine rg_take (v := ?_) 4 rfl (by kernel_rfl) (by kernel_rfl) (by kernel_rfl) (fun _ _ _ h => h) (by kernel_rfl) ?_ (by assumption) ?_
        rotate_left
        · (intro w' hSw; (try dsimp only at hSw); go_simp; first | done | with_reducible rfl)
        simp only [Act.put, List.setIfInBounds_toArray, List.set_cons_zero, List.set_cons_succ]
        refine rg_take (v := ?_) 5 rfl (by kernel_rfl) (by kernel_rfl) (by kernel_rfl) (fun _ _ _ h => h) (by kernel_rfl) ?_ (by assumption) ?_
        rotate_left
        · (intro w' hSw; (try dsimp only at hSw); go_simp; first | done | with_reducible rfl)
        simp only [Act.put, List.setIfInBounds_toArray, List.set_cons_zero, List.set_cons_succ]
        refine rg_run 6 rfl (by kernel_rfl) (by kernel_rfl) (fun K hK => ?_)
        go_simp
        refine (HHO1.out _ (by exact (HM11.out.below hb.out).below ((Below.refl _ _).drew)) (by exact HL5.out) (by exact (HT11.out.below hb.out).drew)).mono ?_
        rintro e w12 ⟨rfl, hb2⟩
        have hbs : Below wr.heap.size wr w12 := below_chain (by exact (Below.refl _ _).drew) hb2
        replace k0 := cell_later hbs k0
        replace k1 := cell_later hbs k1
        replace k2 := cell_later hbs k2
        replace l0 := cell_later hbs l0
        have HB12 := Lib.hid (below_chain hb.out hbs)
        clear hb2 hbs HHO1 HL5
        go_wp2
        clear hHeld
        refine hK.out _ _ ⟨k0, k1, k2, l0⟩ (fun hHeld => ?_)
        clear hK K
        try simp only [Act.put, List.setIfInBounds_toArray, List.set_cons_zero, List.set_cons_succ]
        refine rg_take (v := ?_) 7 rfl (by kernel_rfl) (by kernel_rfl) (by kernel_rfl) (fun _ _ _ h => h) (by kernel_rfl) ?_ (by assumption) ?_
        rotate_left
        · (intro w' hSw; (try dsimp only at hSw); go_simp; first | done | with_reducible rfl)
        simp only [Act.put, List.setIfInBounds_toArray, List.set_cons_zero, List.set_cons_succ]
        refine rg_take (v := ?_) 8 rfl (by kernel_rfl) (by kernel_rfl) (by kernel_rfl) (fun _ _ _ h => h) (by kernel_rfl) ?_ (by assumption) ?_
        rotate_left
        · (intro w' hSw; (try dsimp only at hSw); go_simp; first | done | with_reducible rfl)
        simp only [Act.put, List.setIfInBounds_toArray, List.set_cons_zero, List.set_cons_succ]
        refine rg_take (v := ?_) 9 rfl (by kernel_rfl) (by kernel_rfl) (by kernel_rfl) (fun _ _ _ h => h) (by kernel_rfl) ?_ (by assumption) ?_
        rotate_left
        · (intro w' hSw; (try dsimp only at hSw); go_simp; first | done | with_reducible rfl)
        simp only [Act.put, List.setIfInBounds_toArray, List.set_cons_zero, List.set_cons_succ]
        refine rg_take (v := ?_) 10 rfl (by kernel_rfl) (by kernel_rfl) (by kernel_rfl) (fun _ _ _ h => h) (by kernel_rfl) ?_ (by assumption) ?_
        rotate_left
        · (intro w' hSw; (try dsimp only at hSw); go_simp; first | done | with_reducible rfl)
        simp only [Act.put, List.setIfInBounds_toArray, List.set_cons_zero, List.set_cons_succ]
        refine rg_take (v := ?_) 11 rfl (by kernel_rfl) (by kernel_rfl) (by kernel_rfl) (fun _ _ _ h => h) (by kernel_rfl) ?_ (by assumption) ?_
        rotate_left
        · (intro w' hSw; (try dsimp only at hSw); go_simp; first | done | with_reducible rfl)
        simp only [Act.put, List.setIfInBounds_toArray, List.set_cons_zero, List.set_cons_succ]
        refine wpAnyH_done (by kernel_rfl) ?_ _
        clear hHeld
        go_wp2_with (fail)
        go_roundw
        case rel => exact ⟨i + 1, by omega, by go_num, HB12⟩
        case measure => simp [intOf]; omega
      · have j0 := cell_later hb.out HJ11.out.1
        have j1 := cell_later hb.out HJ11.out.2.1
        have j2 := cell_later hb.out HJ11.out.2.2
        have HBA := Lib.hid (below_chain HB11.out hb.out)
        go_wp2_with (fail)
        refine (HI2.out _ (by exact HM2.out.below HBA.out) (by exact HT2.out.below HBA.out) (by exact HT3.out.below HBA.out)).mono ?_
        rintro e w12 ⟨rfl, hb2⟩
        have HBC := Lib.hid (below_chain HBA.out hb2)
        rcases IC2 with _ | _
        · clear hb2
          go_wp2_with (fail)
          go_ret
          exact ⟨rfl, below_chain HB.out HBC.out⟩
        · replace j0 := cell_later hb2 j0
          replace j1 := cell_later hb2 j1
          replace j2 := cell_later hb2 j2
          clear hb2
          rcases HMN.out rfl with h3 | ⟨h0, hle⟩
          · rw [h3] at HF2
            clear h3 HMN
            generalize fbL m2 ts2 = t2 at *
            go_wp2_with (fail)
            refine (HF2.out _ (by exact HM2.out.below HBC.out) (by exact HT2.out.below HBC.out)).mono ?_
            rintro e w13 ⟨A21, c21, rfl, _, hb3⟩
            have HBD := Lib.hid (below_chain HBC.out hb3)
            clear hb3
            go_wp2_with (fail)
            go_ret
            exact ⟨rfl, below_chain HB.out HBD.out⟩
          · rw [h0] at HF2
            clear h0 HMN
            generalize fbL m2 ts2 = t2 at *
            have hle2 : (t2.length : Int) ≤ (tr2.length : Int) := by omega
            go_wp2_with (fail)
            refine (HF2.out _ (by exact HM2.out.below HBC.out) (by exact HT2.out.below HBC.out)).mono ?_
            rintro e w13 ⟨A21, c21, rfl, _, hb3⟩
            have HBD := Lib.hid (below_chain HBC.out hb3)
            clear hb3
            go_wp2_with (fail)
            go_ret
            exact ⟨by first | rfl | (simp; done) | (simp; omega), below_chain HB.out HBD.out⟩
  · have hc1 : (fbC m ts != 0) = true := by simpa using hc
    rcases Decidable.em (fbC m ts = 4) with h4 | h4
    · have e4 := HNO.out h4
      rw [h4, e4]
      clear h4 e4 hc hc1 HYE HNO
      go_wp2_with (fail)
      go_ret
      exact ⟨rfl, below_chain HB.out HB9.out⟩
    · have hc4 : (fbC m ts != 4) = true := by simpa using h4
      clear h4 hc HYE HNO
      generalize fbC m ts = C at *
      go_wp2_with (fail)
      go_ret
      exact ⟨rfl, below_chain HB.out HB9.out⟩
end Go.Proofs.Ytaloheljfefdeaa
