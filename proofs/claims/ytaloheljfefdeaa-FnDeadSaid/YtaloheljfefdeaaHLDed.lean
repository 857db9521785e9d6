/- The walk of the law FnDead. No condition but the bytes. -/
import Derived.Test.YtaloheljfefdeaaHPlDed
import Derived.Test.YtaloheljfefdeaaH16
import Derived.Test.YtaloheljfefdeaaHMFolS
namespace Go.Proofs.Ytaloheljfefdeaa
open Go.RowKit

set_option maxHeartbeats 4000000 in
set_option maxRecDepth 100000 in
theorem law_FnDead (A : Option Addr) (c n : Nat) (w : World) (hb : Bytes w w.heap.size A n) :
    Calls Try.prog 6 #[.slice A n c] w fun e w' => e = .returned (.bool true) ∧ Below w.heap.size w w' := by
  rcases Nat.lt_or_ge 4096 n with hbig | hbig
  · have hd : decide (4096 < n) = true := by simp; omega
    go_enter Try.func6, Try.ntmps6
    go_wp2_with (first
      | (go_at_call 7
         refine (c_big _ _ _ _).mono ?_
         rintro e w' ⟨rfl, rfl⟩)
      )
    go_ret
    exact ⟨rfl, by (repeat (first | exact Below.refl _ _ | assumption | refine below_alloc ?_ _ | refine below_drewN ?_ _ | refine below_set ?_ _ (by simp; try omega) | refine Below.drew ?_))⟩
  have hd : decide (4096 < n) = false := by simp; omega
  have HBY := Lib.hid hb
  go_enter Try.func6, Try.ntmps6
  go_wp2_with (first
    | (go_at_call 7
       refine (c_big _ _ _ _).mono ?_
       rintro e w' ⟨rfl, rfl⟩)
    )
  refine (c_DrawDeadStates A c n w hbig hb).mono ?_
  rintro e w1 ⟨az, ax, ar, cz, cs, cr, m, ds, rfl, hok, hmo, B⟩
  have HOK := Lib.hid hok
  have hm1 := hmo.md
  clear hmo hb hok
  dsimp only [mv]
  go_upto_region 4 with (fail)
  have k0 : (w1.alloc (.cells #[.slice az m.sz.length cz, .slice ax m.st.length cs, .slice ar m.rs.length cr] 27)).cell? ⟨w1.heap.size, 0, none⟩ = some (.slice az m.sz.length cz) := by go_simp
  have k1 : (w1.alloc (.cells #[.slice az m.sz.length cz, .slice ax m.st.length cs, .slice ar m.rs.length cr] 27)).cell? ⟨w1.heap.size, 1, none⟩ = some (.slice ax m.st.length cs) := by go_simp
  have k2 : (w1.alloc (.cells #[.slice az m.sz.length cz, .slice ax m.st.length cs, .slice ar m.rs.length cr] 27)).cell? ⟨w1.heap.size, 2, none⟩ = some (.slice ar m.rs.length cr) := by go_simp
  replace hm1 := hm1.below (below_alloc (Below.refl _ _) (.cells #[.slice az m.sz.length cz, .slice ax m.st.length cs, .slice ar m.rs.length cr] 27))
  replace B := below_alloc B (.cells #[.slice az m.sz.length cz, .slice ax m.st.length cs, .slice ar m.rs.length cr] 27)
  generalize w1.alloc (.cells #[.slice az m.sz.length cz, .slice ax m.st.length cs, .slice ar m.rs.length cr] 27) = Ww1 at k0 k1 k2 hm1 B ⊢
  generalize w1.heap.size = b0 at *
  go_wp2_with (fail)
  refine (c_DeadStates m az ax ar cz cs cr _ HOK.out hm1).mono ?_
  rintro e w2 ⟨A4, c4, rfl, hos, hb⟩
  have hstep : Below Ww1.heap.size Ww1 w2 := below_chain (by (repeat (first | exact Below.refl _ _ | assumption | refine below_alloc ?_ _ | refine below_drewN ?_ _ | refine below_set ?_ _ (by simp; try omega) | refine Below.drew ?_))) hb
  replace hm1 := hm1.below hstep
  replace k0 := cell_later hstep k0
  replace k1 := cell_later hstep k1
  replace k2 := cell_later hstep k2
  replace B := below_chain B hstep
  have l4 := hos.rd rfl
  clear hos
  clear hb hstep
  go_wp2_with (fail)
  refine (c_sDeadStates m az ax ar cz cs cr _ HOK.out hm1).mono ?_
  rintro e w3 ⟨A6, c6, rfl, l6, hb⟩
  have hstep : Below w2.heap.size w2 w3 := below_chain (by (repeat (first | exact Below.refl _ _ | assumption | refine below_alloc ?_ _ | refine below_drewN ?_ _ | refine below_set ?_ _ (by simp; try omega) | refine Below.drew ?_))) hb
  replace hm1 := hm1.below hstep
  replace l4 := l4.below hstep
  replace k0 := cell_later hstep k0
  replace k1 := cell_later hstep k1
  replace k2 := cell_later hstep k2
  replace B := below_chain B hstep
  clear hb hstep
  go_wp2_with (fail)
  refine (c_DepthOf m az ax ar cz cs cr _ HOK.out hm1).mono ?_
  rintro e w4 ⟨rfl, hb⟩
  have hstep : Below w3.heap.size w3 w4 := below_chain (by (repeat (first | exact Below.refl _ _ | assumption | refine below_alloc ?_ _ | refine below_drewN ?_ _ | refine below_set ?_ _ (by simp; try omega) | refine Below.drew ?_))) hb
  replace hm1 := hm1.below hstep
  replace l4 := l4.below hstep
  replace l6 := l6.below hstep
  replace k0 := cell_later hstep k0
  replace k1 := cell_later hstep k1
  replace k2 := cell_later hstep k2
  replace B := below_chain B hstep
  clear hb hstep
  go_wp2_with (fail)
  refine (c_sDepthOf m az ax ar cz cs cr _ HOK.out hm1).mono ?_
  rintro e w5 ⟨rfl, hb⟩
  have hstep : Below w4.heap.size w4 w5 := below_chain (by (repeat (first | exact Below.refl _ _ | assumption | refine below_alloc ?_ _ | refine below_drewN ?_ _ | refine below_set ?_ _ (by simp; try omega) | refine Below.drew ?_))) hb
  replace hm1 := hm1.below hstep
  replace l4 := l4.below hstep
  replace l6 := l6.below hstep
  replace k0 := cell_later hstep k0
  replace k1 := cell_later hstep k1
  replace k2 := cell_later hstep k2
  replace B := below_chain B hstep
  clear hb hstep
  go_wp2_with (fail)
  refine (c_DrawFollowTrace A c n _ hbig (bytes_later HBY.out B)).mono ?_
  rintro e w6 ⟨bz, bx, br, dz, dS, dr, m2, ds2, A13, c13, tr, rfl, hok2, hmo2, htl, hto, hb⟩
  have hstep : Below w5.heap.size w5 w6 := below_chain (by (repeat (first | exact Below.refl _ _ | assumption | refine below_alloc ?_ _ | refine below_drewN ?_ _ | refine below_set ?_ _ (by simp; try omega) | refine Below.drew ?_))) hb
  replace hm1 := hm1.below hstep
  replace l4 := l4.below hstep
  replace l6 := l6.below hstep
  replace k0 := cell_later hstep k0
  replace k1 := cell_later hstep k1
  replace k2 := cell_later hstep k2
  replace B := below_chain B hstep
  have hm2 := hmo2.md
  have ht2 := Rd.own hto
  have HOK2 := Lib.hid hok2
  clear hmo2 hto hok2
  clear hb hstep
  dsimp only [mv]
  go_upto_region 9 with (fail)
  have j0 : (w6.alloc (.cells #[.slice bz m2.sz.length dz, .slice bx m2.st.length dS, .slice br m2.rs.length dr] 27)).cell? ⟨w6.heap.size, 0, none⟩ = some (.slice bz m2.sz.length dz) := by go_simp
  have j1 : (w6.alloc (.cells #[.slice bz m2.sz.length dz, .slice bx m2.st.length dS, .slice br m2.rs.length dr] 27)).cell? ⟨w6.heap.size, 1, none⟩ = some (.slice bx m2.st.length dS) := by go_simp
  have j2 : (w6.alloc (.cells #[.slice bz m2.sz.length dz, .slice bx m2.st.length dS, .slice br m2.rs.length dr] 27)).cell? ⟨w6.heap.size, 2, none⟩ = some (.slice br m2.rs.length dr) := by go_simp
  replace hm1 := hm1.below (below_alloc (Below.refl _ _) (.cells #[.slice bz m2.sz.length dz, .slice bx m2.st.length dS, .slice br m2.rs.length dr] 27))
  replace l4 := l4.below (below_alloc (Below.refl _ _) (.cells #[.slice bz m2.sz.length dz, .slice bx m2.st.length dS, .slice br m2.rs.length dr] 27))
  replace l6 := l6.below (below_alloc (Below.refl _ _) (.cells #[.slice bz m2.sz.length dz, .slice bx m2.st.length dS, .slice br m2.rs.length dr] 27))
  replace hm2 := hm2.below (below_alloc (Below.refl _ _) (.cells #[.slice bz m2.sz.length dz, .slice bx m2.st.length dS, .slice br m2.rs.length dr] 27))
  replace ht2 := ht2.below (below_alloc (Below.refl _ _) (.cells #[.slice bz m2.sz.length dz, .slice bx m2.st.length dS, .slice br m2.rs.length dr] 27))
  replace k0 := cell_later (below_alloc (Below.refl _ _) (.cells #[.slice bz m2.sz.length dz, .slice bx m2.st.length dS, .slice br m2.rs.length dr] 27)) k0
  replace k1 := cell_later (below_alloc (Below.refl _ _) (.cells #[.slice bz m2.sz.length dz, .slice bx m2.st.length dS, .slice br m2.rs.length dr] 27)) k1
  replace k2 := cell_later (below_alloc (Below.refl _ _) (.cells #[.slice bz m2.sz.length dz, .slice bx m2.st.length dS, .slice br m2.rs.length dr] 27)) k2
  replace B := below_alloc B (.cells #[.slice bz m2.sz.length dz, .slice bx m2.st.length dS, .slice br m2.rs.length dr] 27)
  generalize w6.alloc (.cells #[.slice bz m2.sz.length dz, .slice bx m2.st.length dS, .slice br m2.rs.length dr] 27) = Ww6 at j0 j1 j2 hm1 l4 l6 hm2 ht2 k0 k1 k2 B ⊢
  generalize w6.heap.size = b1 at *
  go_wp2_with (fail)
  refine (c_FollowTrace m2 bz bx br dz dS dr A13 c13 tr _ HOK2.out htl hm2 ht2).mono ?_
  rintro e w7 ⟨A14, c14, rfl, hos, hb⟩
  have hstep : Below Ww6.heap.size Ww6 w7 := below_chain (by (repeat (first | exact Below.refl _ _ | assumption | refine below_alloc ?_ _ | refine below_drewN ?_ _ | refine below_set ?_ _ (by simp; try omega) | refine Below.drew ?_))) hb
  replace hm1 := hm1.below hstep
  replace l4 := l4.below hstep
  replace l6 := l6.below hstep
  replace hm2 := hm2.below hstep
  replace ht2 := ht2.below hstep
  replace k0 := cell_later hstep k0
  replace k1 := cell_later hstep k1
  replace k2 := cell_later hstep k2
  replace j0 := cell_later hstep j0
  replace j1 := cell_later hstep j1
  replace j2 := cell_later hstep j2
  replace B := below_chain B hstep
  have l14 := hos.rd rfl
  clear hos
  clear hb hstep
  go_wp2_with (fail)
  refine (c_sFollowTrace m2 bz bx br dz dS dr A13 c13 tr _ HOK2.out htl hm2 ht2).mono ?_
  rintro e w8 ⟨A16, c16, rfl, hos, hb⟩
  have hstep : Below w7.heap.size w7 w8 := below_chain (by (repeat (first | exact Below.refl _ _ | assumption | refine below_alloc ?_ _ | refine below_drewN ?_ _ | refine below_set ?_ _ (by simp; try omega) | refine Below.drew ?_))) hb
  replace hm1 := hm1.below hstep
  replace l4 := l4.below hstep
  replace l6 := l6.below hstep
  replace hm2 := hm2.below hstep
  replace ht2 := ht2.below hstep
  replace l14 := l14.below hstep
  replace k0 := cell_later hstep k0
  replace k1 := cell_later hstep k1
  replace k2 := cell_later hstep k2
  replace j0 := cell_later hstep j0
  replace j1 := cell_later hstep j1
  replace j2 := cell_later hstep j2
  replace B := below_chain B hstep
  have l16 := hos.rd rfl
  clear hos
  clear hb hstep
  have HL1 := Lib.hid (fun w' h h' => c_likeLists A4 A6 c4 c6 _ _ (rdL m) w' rfl rfl (rd_len m) (rd_each HOK.out) h h')
  have HL2 := Lib.hid (fun w' h h' => c_likeLists A14 A16 c14 c16 _ _ (ftL m2 tr) w' rfl rfl (ft_len3 m2 tr) (ft_each2 HOK2.out) h h')
  clear hm2 ht2 j0 j1 j2 HOK2
  have HDL := Lib.hid (fun h : xmC m [] = 0 => dp_lt h)
  have HRL := Lib.hid (rd_le m)
  have hrn := rd_len m
  have HRM := Lib.hid (fun (h : xmC m [] = 0) (l : List Int) (hl : l ∈ rdL m) => rd_mem h hl)
  have HRE := Lib.hid (rd_each HOK.out)
  have HCR := Lib.hid (fun w' h => c_CountReachable m az ax ar cz cs cr w' HOK.out h)
  have HEN := Lib.hid (fun (l : List Int) (hl : l.length ≤ 1048576) A c w' h hv => c_EnabledRules m az ax ar cz cs cr A c l w' HOK.out hl h hv)
  have HSC := Lib.hid (fun (l : List Int) (h1 : mdB m = true) (h2 : stB m.sz l = true) => show stC m l = 0 by unfold stC; rw [h1, h2]; rfl)
  have HMD := Lib.hid (fun h : xmC m [] = 0 => (xm_good h).1)
  generalize ftC m2 tr = C2 at *
  generalize ftL m2 tr = L2 at *
  generalize rdL m = L at *
  generalize dpN m = DN at *
  generalize crN m = CN at *
  dsimp only [mv] at HCR HEN
  go_wp2_with (fail)
  refine (HL1.out _ l4 l6).mono ?_
  rintro e w9 ⟨rfl, hb⟩
  have hstep : Below w8.heap.size w8 w9 := below_chain (by (repeat (first | exact Below.refl _ _ | assumption | refine below_alloc ?_ _ | refine below_drewN ?_ _ | refine below_set ?_ _ (by simp; try omega) | refine Below.drew ?_))) hb
  replace hm1 := hm1.below hstep
  replace l4 := l4.below hstep
  replace l6 := l6.below hstep
  replace l14 := l14.below hstep
  replace l16 := l16.below hstep
  replace k0 := cell_later hstep k0
  replace k1 := cell_later hstep k1
  replace k2 := cell_later hstep k2
  replace B := below_chain B hstep
  clear hb hstep
  clear HL1
  go_wp2_with (fail)
  refine (HL2.out _ l14 l16).mono ?_
  rintro e w10 ⟨rfl, hb⟩
  have hstep : Below w9.heap.size w9 w10 := below_chain (by (repeat (first | exact Below.refl _ _ | assumption | refine below_alloc ?_ _ | refine below_drewN ?_ _ | refine below_set ?_ _ (by simp; try omega) | refine Below.drew ?_))) hb
  replace hm1 := hm1.below hstep
  replace l4 := l4.below hstep
  replace l6 := l6.below hstep
  replace l14 := l14.below hstep
  replace l16 := l16.below hstep
  replace k0 := cell_later hstep k0
  replace k1 := cell_later hstep k1
  replace k2 := cell_later hstep k2
  replace B := below_chain B hstep
  clear hb hstep
  clear HL2 l14 l16 l4
  rcases Decidable.em (xmC m [] = 0) with hc | hc
  · have hdl := HDL.out hc
    have hrl := HRL.out
    have hmd := HMD.out hc
    have HRM1 := Lib.hid (HRM.out hc)
    have HMD1 := Lib.hid hmd
    rw [hc] at HCR ⊢
    clear hc HDL HRL HRM HMD hmd
    go_wp2_with (fail)
    refine (HCR.out _ hm1).mono ?_
    rintro e w11 ⟨rfl, hb⟩
    have HM := Lib.hid (hm1.below hb)
    have HL := Lib.hid (l6.below hb)
    have HK := Lib.hid (And.intro (cell_later hb k0) (And.intro (cell_later hb k1) (cell_later hb k2)))
    have HB := Lib.hid (below_chain B hb)
    clear hm1 l6 k0 k1 k2 B hb HCR
    go_wp2_with (fail)
    go_loopw [20] (fun v wr => ∃ i : Nat, i ≤ L.length ∧ v = .int .i64 i ∧ Hid (Below w11.heap.size w11 wr)) (fun v _ => L.length - (intOf v).toNat)
    case atStart => exact ⟨0, Nat.zero_le _, rfl, Lib.hid (Below.refl _ _)⟩
    case round =>
      obtain ⟨i, hi, rfl, hb⟩ := hrel
      by_cases hlt : i < L.length
      · have k0 := cell_later hb.out HK.out.1
        have k1 := cell_later hb.out HK.out.2.1
        have k2 := cell_later hb.out HK.out.2.2
        obtain ⟨l, hl⟩ : ∃ r, L[i]? = some r := ⟨_, List.getElem?_eq_getElem hlt⟩
        have hmem := List.mem_of_getElem? hl
        obtain ⟨lb, lo, la, lc, rfl, _, l0, hl5⟩ := (HL.out.below hb.out).at hl
        have hll := HRE.out l hmem
        have hst := (HRM1.out l hmem).1
        have her := (HRM1.out l hmem).2
        have hEN := HEN.out l hll la lc
        rw [HSC.out l HMD1.out hst, her] at hEN
        have HEN1 := Lib.hid hEN
        have HL5 := Lib.hid hl5
        have hi0 : (0 : Int) ≤ (i : Int) := by omega
        have hi1 : (i : Int) < (L.length : Int) := by omega
        clear hl hmem hst her hEN hl5
        generalize erL m l = EL at *
        generalize l.length = ll at *
        go_wp2_with (fail)
        refine wp_region_held_drew (S := (fun w' => w'.cell? ⟨b0, 0, none⟩ = some (.slice az m.sz.length cz) ∧ w'.cell? ⟨b0, 1, none⟩ = some (.slice ax m.st.length cs) ∧ w'.cell? ⟨b0, 2, none⟩ = some (.slice ar m.rs.length cr) ∧ w'.cell? ⟨lb, lo + i, none⟩ = some (.slice la ll lc))) (by kernel_rfl) ?_ (fun hHeld => ?_)
        · exact ⟨k0, k1, k2, l0⟩
        refine rg_take (v := ?_) 0 rfl (by kernel_rfl) (by kernel_rfl) (by kernel_rfl) (fun _ _ _ h => h) (by kernel_rfl) ?_ (by assumption) ?_
        rotate_left
        · (intro w' hSw; (try dsimp only at hSw); go_simp; first | done | with_reducible rfl)
        simp only [Act.put, List.setIfInBounds_toArray, List.set_cons_zero, List.set_cons_succ]
        refine rg_take (v := ?_) 1 rfl (by kernel_rfl) (by kernel_rfl) (by kernel_rfl) (fun _ _ _ h => h) (by kernel_rfl) ?_ (by assumption) ?_
        rotate_left
        · (intro w' hSw; (try dsimp only at hSw); go_simp; first | done | with_reducible rfl)
        simp only [Act.put, List.setIfInBounds_toArray, List.set_cons_zero, List.set_cons_succ]
        refine rg_take (v := ?_) 2 rfl (by kernel_rfl) (by kernel_rfl) (by kernel_rfl) (fun _ _ _ h => h) (by kernel_rfl) ?_ (by assumption) ?_
        rotate_left
        · (intro w' hSw; (try dsimp only at hSw); go_simp; first | done | with_reducible rfl)
        simp only [Act.put, List.setIfInBounds_toArray, List.set_cons_zero, List.set_cons_succ]
        refine rg_take (v := ?_) 3 rfl (by kernel_rfl) (by kernel_rfl) (by kernel_rfl) (fun _ _ _ h => h) (by kernel_rfl) ?_ (by assumption) ?_
        rotate_left
        · (intro w' hSw; (try dsimp only at hSw); go_simp; first | done | with_reducible rfl)
        simp only [Act.put, List.setIfInBounds_toArray, List.set_cons_zero, List.set_cons_succ]
        refine rg_take (v := ?_) 4 rfl (by kernel_rfl) (by kernel_rfl) (by kernel_rfl) (fun _ _ _ h => h) (by kernel_rfl) ?_ (by assumption) ?_
        rotate_left
        · (intro w' hSw; (try dsimp only at hSw); go_simp; first | done | with_reducible rfl)
        simp only [Act.put, List.setIfInBounds_toArray, List.set_cons_zero, List.set_cons_succ]
        refine rg_run 5 rfl (by kernel_rfl) (by kernel_rfl) (fun K hK => ?_)
        go_simp
        refine (HEN1.out _ (by exact (HM.out.below hb.out).below ((Below.refl _ _).drew)) (by exact HL5.out)).mono ?_
        rintro e w2 ⟨A21, c21, rfl, _, hb2⟩
        have hbs : Below wr.heap.size wr w2 := below_chain (by exact (Below.refl _ _).drew) hb2
        replace k0 := cell_later hbs k0
        replace k1 := cell_later hbs k1
        replace k2 := cell_later hbs k2
        replace l0 := cell_later hbs l0
        have HB2 := Lib.hid (below_chain hb.out hbs)
        clear hb2 hbs HEN1 HL5
        go_wp2
        clear hHeld
        refine hK.out _ _ ⟨k0, k1, k2, l0⟩ (fun hHeld => ?_)
        clear hK K
        try simp only [Act.put, List.setIfInBounds_toArray, List.set_cons_zero, List.set_cons_succ]
        refine rg_take (v := ?_) 6 rfl (by kernel_rfl) (by kernel_rfl) (by kernel_rfl) (fun _ _ _ h => h) (by kernel_rfl) ?_ (by assumption) ?_
        rotate_left
        · (intro w' hSw; (try dsimp only at hSw); go_simp; first | done | with_reducible rfl)
        simp only [Act.put, List.setIfInBounds_toArray, List.set_cons_zero, List.set_cons_succ]
        refine rg_take (v := ?_) 7 rfl (by kernel_rfl) (by kernel_rfl) (by kernel_rfl) (fun _ _ _ h => h) (by kernel_rfl) ?_ (by assumption) ?_
        rotate_left
        · (intro w' hSw; (try dsimp only at hSw); go_simp; first | done | with_reducible rfl)
        simp only [Act.put, List.setIfInBounds_toArray, List.set_cons_zero, List.set_cons_succ]
        refine rg_take (v := ?_) 8 rfl (by kernel_rfl) (by kernel_rfl) (by kernel_rfl) (fun _ _ _ h => h) (by kernel_rfl) ?_ (by assumption) ?_
        rotate_left
        · (intro w' hSw; (try dsimp only at hSw); go_simp; first | done | with_reducible rfl)
        simp only [Act.put, List.setIfInBounds_toArray, List.set_cons_zero, List.set_cons_succ]
        refine rg_take (v := ?_) 9 rfl (by kernel_rfl) (by kernel_rfl) (by kernel_rfl) (fun _ _ _ h => h) (by kernel_rfl) ?_ (by assumption) ?_
        rotate_left
        · (intro w' hSw; (try dsimp only at hSw); go_simp; first | done | with_reducible rfl)
        simp only [Act.put, List.setIfInBounds_toArray, List.set_cons_zero, List.set_cons_succ]
        refine rg_take (v := ?_) 10 rfl (by kernel_rfl) (by kernel_rfl) (by kernel_rfl) (fun _ _ _ h => h) (by kernel_rfl) ?_ (by assumption) ?_
        rotate_left
        · (intro w' hSw; (try dsimp only at hSw); go_simp; first | done | with_reducible rfl)
        simp only [Act.put, List.setIfInBounds_toArray, List.set_cons_zero, List.set_cons_succ]
        refine wpAnyH_done (by kernel_rfl) ?_ _
        clear hHeld
        go_wp2_with (fail)
        go_roundw
        case rel => exact ⟨i + 1, by omega, by go_num, HB2⟩
        case measure => simp [intOf]; omega
      · go_wp2_with (fail)
        go_ret
        exact ⟨rfl, below_chain HB.out hb.out⟩
  · have hc1 : (xmC m [] != 0) = true := by simpa using hc
    clear hc
    generalize xmC m [] = C at *
    go_wp2_with (fail)
    go_ret
    exact ⟨rfl, B⟩
end Go.Proofs.Ytaloheljfefdeaa
