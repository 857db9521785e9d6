/- The walk of the law FnNext. No condition but the bytes. -/
import Derived.Test.YtaloheljfefdeaaHPlNxt
import Derived.Test.YtaloheljfefdeaaH16
namespace Go.Proofs.Ytaloheljfefdeaa
open Go.RowKit

set_option maxHeartbeats 4000000 in
set_option maxRecDepth 100000 in
theorem law_FnNext (A : Option Addr) (c n : Nat) (w : World) (hb : Bytes w w.heap.size A n) :
    Calls Try.prog 4 #[.slice A n c] w fun e w' => e = .returned (.bool true) ∧ Below w.heap.size w w' := by
  rcases Nat.lt_or_ge 4096 n with hbig | hbig
  · have hd : decide (4096 < n) = true := by simp; omega
    go_enter Try.func4, Try.ntmps4
    go_wp2_with (first
      | (go_at_call 7
         refine (c_big _ _ _ _).mono ?_
         rintro e w' ⟨rfl, rfl⟩)
      )
    go_ret
    exact ⟨rfl, by (repeat (first | exact Below.refl _ _ | assumption | refine below_alloc ?_ _ | refine below_drewN ?_ _ | refine below_set ?_ _ (by simp; try omega) | refine Below.drew ?_))⟩
  have hd : decide (4096 < n) = false := by simp; omega
  have HBY := Lib.hid hb
  go_enter Try.func4, Try.ntmps4
  go_wp2_with (first
    | (go_at_call 7
       refine (c_big _ _ _ _).mono ?_
       rintro e w' ⟨rfl, rfl⟩)
    )
  refine (c_DrawNextStates A c n w hbig hb).mono ?_
  rintro e w1 ⟨az, ax, ar, cz, cs, cr, m, ds, A4, c4, vs, rfl, hok, hmo, hvl, hvo, B⟩
  have HOK := Lib.hid hok
  have hm1 := hmo.md
  have hv1 := Rd.own hvo
  have hrl := hok.1.2.2.1
  clear hmo hvo hb hok
  dsimp only [mv]
  go_upto_region 4 with (fail)
  have k0 : (w1.alloc (.cells #[.slice az m.sz.length cz, .slice ax m.st.length cs, .slice ar m.rs.length cr] 27)).cell? ⟨w1.heap.size, 0, none⟩ = some (.slice az m.sz.length cz) := by go_simp
  have k1 : (w1.alloc (.cells #[.slice az m.sz.length cz, .slice ax m.st.length cs, .slice ar m.rs.length cr] 27)).cell? ⟨w1.heap.size, 1, none⟩ = some (.slice ax m.st.length cs) := by go_simp
  have k2 : (w1.alloc (.cells #[.slice az m.sz.length cz, .slice ax m.st.length cs, .slice ar m.rs.length cr] 27)).cell? ⟨w1.heap.size, 2, none⟩ = some (.slice ar m.rs.length cr) := by go_simp
  replace hm1 := hm1.below (below_alloc (Below.refl _ _) (.cells #[.slice az m.sz.length cz, .slice ax m.st.length cs, .slice ar m.rs.length cr] 27))
  replace hv1 := hv1.below (below_alloc (Below.refl _ _) (.cells #[.slice az m.sz.length cz, .slice ax m.st.length cs, .slice ar m.rs.length cr] 27))
  replace B := below_alloc B (.cells #[.slice az m.sz.length cz, .slice ax m.st.length cs, .slice ar m.rs.length cr] 27)
  generalize w1.alloc (.cells #[.slice az m.sz.length cz, .slice ax m.st.length cs, .slice ar m.rs.length cr] 27) = Ww1 at k0 k1 k2 hm1 hv1 B ⊢
  generalize w1.heap.size = b0 at *
  go_wp2_with (fail)
  refine (c_NextStates m az ax ar cz cs cr A4 c4 vs _ HOK.out hvl hm1 hv1).mono ?_
  rintro e w2 ⟨A5, c5, rfl, hos, hb⟩
  have hstep : Below Ww1.heap.size Ww1 w2 := below_chain (by (repeat (first | exact Below.refl _ _ | assumption | refine below_alloc ?_ _ | refine below_drewN ?_ _ | refine below_set ?_ _ (by simp; try omega) | refine Below.drew ?_))) hb
  replace hm1 := hm1.below hstep
  replace hv1 := hv1.below hstep
  replace k0 := cell_later hstep k0
  replace k1 := cell_later hstep k1
  replace k2 := cell_later hstep k2
  replace B := below_chain B hstep
  have l5 := hos.rd rfl
  clear hos
  clear hb hstep
  go_wp2_with (fail)
  refine (c_sNextStates m az ax ar cz cs cr A4 c4 vs _ HOK.out hvl hm1 hv1).mono ?_
  rintro e w3 ⟨A7, c7, rfl, l7, hb⟩
  have hstep : Below w2.heap.size w2 w3 := below_chain (by (repeat (first | exact Below.refl _ _ | assumption | refine below_alloc ?_ _ | refine below_drewN ?_ _ | refine below_set ?_ _ (by simp; try omega) | refine Below.drew ?_))) hb
  replace hm1 := hm1.below hstep
  replace hv1 := hv1.below hstep
  replace l5 := l5.below hstep
  replace k0 := cell_later hstep k0
  replace k1 := cell_later hstep k1
  replace k2 := cell_later hstep k2
  replace B := below_chain B hstep
  clear hb hstep
  go_wp2_with (fail)
  refine (c_EnabledRules m az ax ar cz cs cr A4 c4 vs _ HOK.out hvl hm1 hv1).mono ?_
  rintro e w4 ⟨A9, c9, rfl, ho, hb⟩
  have hstep : Below w3.heap.size w3 w4 := below_chain (by (repeat (first | exact Below.refl _ _ | assumption | refine below_alloc ?_ _ | refine below_drewN ?_ _ | refine below_set ?_ _ (by simp; try omega) | refine Below.drew ?_))) hb
  replace hm1 := hm1.below hstep
  replace hv1 := hv1.below hstep
  replace l5 := l5.below hstep
  replace l7 := l7.below hstep
  replace k0 := cell_later hstep k0
  replace k1 := cell_later hstep k1
  replace k2 := cell_later hstep k2
  replace B := below_chain B hstep
  have e9 := Rd.own ho
  clear ho
  clear hb hstep
  go_wp2_with (fail)
  refine (c_sEnabledRules m az ax ar cz cs cr A4 c4 vs _ HOK.out hvl hm1 hv1).mono ?_
  rintro e w5 ⟨A11, c11, rfl, ho, hb⟩
  have hstep : Below w4.heap.size w4 w5 := below_chain (by (repeat (first | exact Below.refl _ _ | assumption | refine below_alloc ?_ _ | refine below_drewN ?_ _ | refine below_set ?_ _ (by simp; try omega) | refine Below.drew ?_))) hb
  replace hm1 := hm1.below hstep
  replace hv1 := hv1.below hstep
  replace l5 := l5.below hstep
  replace l7 := l7.below hstep
  replace e9 := e9.below hstep
  replace k0 := cell_later hstep k0
  replace k1 := cell_later hstep k1
  replace k2 := cell_later hstep k2
  replace B := below_chain B hstep
  have e11 := Rd.own ho
  clear ho
  clear hb hstep
  go_wp2_with (fail)
  refine (c_DrawHoldsIn A c n _ hbig (bytes_later HBY.out B)).mono ?_
  rintro e w6 ⟨bz, bx, br, dz, dS, dr, m2, ds2, A14, c14, A15, c15, us, ts, rfl, hok2, hmo2, hul, huo, htl, hto, hb⟩
  have hstep : Below w5.heap.size w5 w6 := below_chain (by (repeat (first | exact Below.refl _ _ | assumption | refine below_alloc ?_ _ | refine below_drewN ?_ _ | refine below_set ?_ _ (by simp; try omega) | refine Below.drew ?_))) hb
  replace hm1 := hm1.below hstep
  replace hv1 := hv1.below hstep
  replace l5 := l5.below hstep
  replace l7 := l7.below hstep
  replace e9 := e9.below hstep
  replace e11 := e11.below hstep
  replace k0 := cell_later hstep k0
  replace k1 := cell_later hstep k1
  replace k2 := cell_later hstep k2
  replace B := below_chain B hstep
  have hm2 := hmo2.md
  have hu2 := Rd.own huo
  have ht2 := Rd.own hto
  have HOK2 := Lib.hid hok2
  clear hmo2 huo hto hok2
  clear hb hstep
  dsimp only [mv]
  go_upto_region 9 with (fail)
  have j0 : (w6.alloc (.cells #[.slice bz m2.sz.length dz, .slice bx m2.st.length dS, .slice br m2.rs.length dr] 27)).cell? ⟨w6.heap.size, 0, none⟩ = some (.slice bz m2.sz.length dz) := by go_simp
  have j1 : (w6.alloc (.cells #[.slice bz m2.sz.length dz, .slice bx m2.st.length dS, .slice br m2.rs.length dr] 27)).cell? ⟨w6.heap.size, 1, none⟩ = some (.slice bx m2.st.length dS) := by go_simp
  have j2 : (w6.alloc (.cells #[.slice bz m2.sz.length dz, .slice bx m2.st.length dS, .slice br m2.rs.length dr] 27)).cell? ⟨w6.heap.size, 2, none⟩ = some (.slice br m2.rs.length dr) := by go_simp
  replace hm1 := hm1.below (below_alloc (Below.refl _ _) (.cells #[.slice bz m2.sz.length dz, .slice bx m2.st.length dS, .slice br m2.rs.length dr] 27))
  replace hv1 := hv1.below (below_alloc (Below.refl _ _) (.cells #[.slice bz m2.sz.length dz, .slice bx m2.st.length dS, .slice br m2.rs.length dr] 27))
  replace l5 := l5.below (below_alloc (Below.refl _ _) (.cells #[.slice bz m2.sz.length dz, .slice bx m2.st.length dS, .slice br m2.rs.length dr] 27))
  replace l7 := l7.below (below_alloc (Below.refl _ _) (.cells #[.slice bz m2.sz.length dz, .slice bx m2.st.length dS, .slice br m2.rs.length dr] 27))
  replace e9 := e9.below (below_alloc (Below.refl _ _) (.cells #[.slice bz m2.sz.length dz, .slice bx m2.st.length dS, .slice br m2.rs.length dr] 27))
  replace e11 := e11.below (below_alloc (Below.refl _ _) (.cells #[.slice bz m2.sz.length dz, .slice bx m2.st.length dS, .slice br m2.rs.length dr] 27))
  replace hm2 := hm2.below (below_alloc (Below.refl _ _) (.cells #[.slice bz m2.sz.length dz, .slice bx m2.st.length dS, .slice br m2.rs.length dr] 27))
  replace hu2 := hu2.below (below_alloc (Below.refl _ _) (.cells #[.slice bz m2.sz.length dz, .slice bx m2.st.length dS, .slice br m2.rs.length dr] 27))
  replace ht2 := ht2.below (below_alloc (Below.refl _ _) (.cells #[.slice bz m2.sz.length dz, .slice bx m2.st.length dS, .slice br m2.rs.length dr] 27))
  replace k0 := cell_later (below_alloc (Below.refl _ _) (.cells #[.slice bz m2.sz.length dz, .slice bx m2.st.length dS, .slice br m2.rs.length dr] 27)) k0
  replace k1 := cell_later (below_alloc (Below.refl _ _) (.cells #[.slice bz m2.sz.length dz, .slice bx m2.st.length dS, .slice br m2.rs.length dr] 27)) k1
  replace k2 := cell_later (below_alloc (Below.refl _ _) (.cells #[.slice bz m2.sz.length dz, .slice bx m2.st.length dS, .slice br m2.rs.length dr] 27)) k2
  replace B := below_alloc B (.cells #[.slice bz m2.sz.length dz, .slice bx m2.st.length dS, .slice br m2.rs.length dr] 27)
  generalize w6.alloc (.cells #[.slice bz m2.sz.length dz, .slice bx m2.st.length dS, .slice br m2.rs.length dr] 27) = Ww6 at j0 j1 j2 hm1 hv1 l5 l7 e9 e11 hm2 hu2 ht2 k0 k1 k2 B ⊢
  generalize w6.heap.size = b1 at *
  go_wp2_with (fail)
  refine (c_HoldsIn m2 bz bx br dz dS dr A14 c14 us A15 c15 ts _ HOK2.out hul htl hm2 hu2 ht2).mono ?_
  rintro e w7 ⟨rfl, hb⟩
  have hstep : Below Ww6.heap.size Ww6 w7 := below_chain (by (repeat (first | exact Below.refl _ _ | assumption | refine below_alloc ?_ _ | refine below_drewN ?_ _ | refine below_set ?_ _ (by simp; try omega) | refine Below.drew ?_))) hb
  replace hm1 := hm1.below hstep
  replace hv1 := hv1.below hstep
  replace l5 := l5.below hstep
  replace l7 := l7.below hstep
  replace e9 := e9.below hstep
  replace e11 := e11.below hstep
  replace hm2 := hm2.below hstep
  replace hu2 := hu2.below hstep
  replace ht2 := ht2.below hstep
  replace k0 := cell_later hstep k0
  replace k1 := cell_later hstep k1
  replace k2 := cell_later hstep k2
  replace j0 := cell_later hstep j0
  replace j1 := cell_later hstep j1
  replace j2 := cell_later hstep j2
  replace B := below_chain B hstep
  clear hb hstep
  go_wp2_with (fail)
  refine (c_sHoldsIn m2 bz bx br dz dS dr A14 c14 us A15 c15 ts _ HOK2.out hul htl hm2 hu2 ht2).mono ?_
  rintro e w8 ⟨rfl, hb⟩
  have hstep : Below w7.heap.size w7 w8 := below_chain (by (repeat (first | exact Below.refl _ _ | assumption | refine below_alloc ?_ _ | refine below_drewN ?_ _ | refine below_set ?_ _ (by simp; try omega) | refine Below.drew ?_))) hb
  replace hm1 := hm1.below hstep
  replace hv1 := hv1.below hstep
  replace l5 := l5.below hstep
  replace l7 := l7.below hstep
  replace e9 := e9.below hstep
  replace e11 := e11.below hstep
  replace hm2 := hm2.below hstep
  replace hu2 := hu2.below hstep
  replace ht2 := ht2.below hstep
  replace k0 := cell_later hstep k0
  replace k1 := cell_later hstep k1
  replace k2 := cell_later hstep k2
  replace j0 := cell_later hstep j0
  replace j1 := cell_later hstep j1
  replace j2 := cell_later hstep j2
  replace B := below_chain B hstep
  clear hb hstep
  clear hm2 hu2 ht2 j0 j1 j2 HOK2 hul htl
  generalize hiB m2 us ts = hbv at *
  generalize hiC m2 us ts = hcv at *
  go_wp2_with (fail)
  refine (c_DrawCountTests A c n _ hbig (bytes_later HBY.out B)).mono ?_
  rintro e w9 ⟨ez, ex, er, fz, fS, fr, m3, ds3, rfl, hok3, hmo3, hb⟩
  have hstep : Below w8.heap.size w8 w9 := below_chain (by (repeat (first | exact Below.refl _ _ | assumption | refine below_alloc ?_ _ | refine below_drewN ?_ _ | refine below_set ?_ _ (by simp; try omega) | refine Below.drew ?_))) hb
  replace hm1 := hm1.below hstep
  replace hv1 := hv1.below hstep
  replace l5 := l5.below hstep
  replace l7 := l7.below hstep
  replace e9 := e9.below hstep
  replace e11 := e11.below hstep
  replace k0 := cell_later hstep k0
  replace k1 := cell_later hstep k1
  replace k2 := cell_later hstep k2
  replace B := below_chain B hstep
  have hm3 := hmo3.md
  have HOK3 := Lib.hid hok3
  clear hmo3 hok3
  clear hb hstep
  dsimp only [mv]
  go_upto_region 12 with (fail)
  have q0 : (w9.alloc (.cells #[.slice ez m3.sz.length fz, .slice ex m3.st.length fS, .slice er m3.rs.length fr] 27)).cell? ⟨w9.heap.size, 0, none⟩ = some (.slice ez m3.sz.length fz) := by go_simp
  have q1 : (w9.alloc (.cells #[.slice ez m3.sz.length fz, .slice ex m3.st.length fS, .slice er m3.rs.length fr] 27)).cell? ⟨w9.heap.size, 1, none⟩ = some (.slice ex m3.st.length fS) := by go_simp
  have q2 : (w9.alloc (.cells #[.slice ez m3.sz.length fz, .slice ex m3.st.length fS, .slice er m3.rs.length fr] 27)).cell? ⟨w9.heap.size, 2, none⟩ = some (.slice er m3.rs.length fr) := by go_simp
  replace hm1 := hm1.below (below_alloc (Below.refl _ _) (.cells #[.slice ez m3.sz.length fz, .slice ex m3.st.length fS, .slice er m3.rs.length fr] 27))
  replace hv1 := hv1.below (below_alloc (Below.refl _ _) (.cells #[.slice ez m3.sz.length fz, .slice ex m3.st.length fS, .slice er m3.rs.length fr] 27))
  replace l5 := l5.below (below_alloc (Below.refl _ _) (.cells #[.slice ez m3.sz.length fz, .slice ex m3.st.length fS, .slice er m3.rs.length fr] 27))
  replace l7 := l7.below (below_alloc (Below.refl _ _) (.cells #[.slice ez m3.sz.length fz, .slice ex m3.st.length fS, .slice er m3.rs.length fr] 27))
  replace e9 := e9.below (below_alloc (Below.refl _ _) (.cells #[.slice ez m3.sz.length fz, .slice ex m3.st.length fS, .slice er m3.rs.length fr] 27))
  replace e11 := e11.below (below_alloc (Below.refl _ _) (.cells #[.slice ez m3.sz.length fz, .slice ex m3.st.length fS, .slice er m3.rs.length fr] 27))
  replace hm3 := hm3.below (below_alloc (Below.refl _ _) (.cells #[.slice ez m3.sz.length fz, .slice ex m3.st.length fS, .slice er m3.rs.length fr] 27))
  replace k0 := cell_later (below_alloc (Below.refl _ _) (.cells #[.slice ez m3.sz.length fz, .slice ex m3.st.length fS, .slice er m3.rs.length fr] 27)) k0
  replace k1 := cell_later (below_alloc (Below.refl _ _) (.cells #[.slice ez m3.sz.length fz, .slice ex m3.st.length fS, .slice er m3.rs.length fr] 27)) k1
  replace k2 := cell_later (below_alloc (Below.refl _ _) (.cells #[.slice ez m3.sz.length fz, .slice ex m3.st.length fS, .slice er m3.rs.length fr] 27)) k2
  replace B := below_alloc B (.cells #[.slice ez m3.sz.length fz, .slice ex m3.st.length fS, .slice er m3.rs.length fr] 27)
  generalize w9.alloc (.cells #[.slice ez m3.sz.length fz, .slice ex m3.st.length fS, .slice er m3.rs.length fr] 27) = Ww9 at q0 q1 q2 hm1 hv1 l5 l7 e9 e11 hm3 k0 k1 k2 B ⊢
  generalize w9.heap.size = b2 at *
  go_wp2_with (fail)
  refine (c_CountTests m3 ez ex er fz fS fr _ HOK3.out hm3).mono ?_
  rintro e w10 ⟨rfl, hb⟩
  have hstep : Below Ww9.heap.size Ww9 w10 := below_chain (by (repeat (first | exact Below.refl _ _ | assumption | refine below_alloc ?_ _ | refine below_drewN ?_ _ | refine below_set ?_ _ (by simp; try omega) | refine Below.drew ?_))) hb
  replace hm1 := hm1.below hstep
  replace hv1 := hv1.below hstep
  replace l5 := l5.below hstep
  replace l7 := l7.below hstep
  replace e9 := e9.below hstep
  replace e11 := e11.below hstep
  replace hm3 := hm3.below hstep
  replace k0 := cell_later hstep k0
  replace k1 := cell_later hstep k1
  replace k2 := cell_later hstep k2
  replace q0 := cell_later hstep q0
  replace q1 := cell_later hstep q1
  replace q2 := cell_later hstep q2
  replace B := below_chain B hstep
  clear hb hstep
  go_wp2_with (fail)
  refine (c_sCountTests m3 ez ex er fz fS fr _ HOK3.out hm3).mono ?_
  rintro e w11 ⟨rfl, hb⟩
  have hstep : Below w10.heap.size w10 w11 := below_chain (by (repeat (first | exact Below.refl _ _ | assumption | refine below_alloc ?_ _ | refine below_drewN ?_ _ | refine below_set ?_ _ (by simp; try omega) | refine Below.drew ?_))) hb
  replace hm1 := hm1.below hstep
  replace hv1 := hv1.below hstep
  replace l5 := l5.below hstep
  replace l7 := l7.below hstep
  replace e9 := e9.below hstep
  replace e11 := e11.below hstep
  replace hm3 := hm3.below hstep
  replace k0 := cell_later hstep k0
  replace k1 := cell_later hstep k1
  replace k2 := cell_later hstep k2
  replace q0 := cell_later hstep q0
  replace q1 := cell_later hstep q1
  replace q2 := cell_later hstep q2
  replace B := below_chain B hstep
  clear hb hstep
  clear hm3 q0 q1 q2 HOK3
  generalize ctT m3 = x1 at *
  generalize ctE m3 = x2 at *
  generalize ctC m3 = x3 at *
  have hnl := nw_len2 m vs
  have hel := er_len m vs
  go_wp2_with (fail)
  refine (c_likeLists A5 A7 c5 c7 _ _ (nwL m vs) _ rfl rfl (by omega) nw_each l5 l7).mono ?_
  rintro e w12 ⟨rfl, hb⟩
  have hstep : Below w11.heap.size w11 w12 := below_chain (by (repeat (first | exact Below.refl _ _ | assumption | refine below_alloc ?_ _ | refine below_drewN ?_ _ | refine below_set ?_ _ (by simp; try omega) | refine Below.drew ?_))) hb
  replace hm1 := hm1.below hstep
  replace hv1 := hv1.below hstep
  replace l5 := l5.below hstep
  replace l7 := l7.below hstep
  replace e9 := e9.below hstep
  replace e11 := e11.below hstep
  replace k0 := cell_later hstep k0
  replace k1 := cell_later hstep k1
  replace k2 := cell_later hstep k2
  replace B := below_chain B hstep
  clear hb hstep
  have elk : likB (erL m vs) (erL m vs) = true := by unfold likB; simp
  have HLK := Lib.hid (fun w' h h' => c_likeB A9 A11 c9 c11 _ _ (erL m vs) (erL m vs) w' rfl rfl hel hel h h')
  rw [elk] at HLK
  clear elk
  go_wp2_with (fail)
  refine (HLK.out _ e9 e11).mono ?_
  rintro e w13 ⟨rfl, hb⟩
  have hstep : Below w12.heap.size w12 w13 := below_chain (by (repeat (first | exact Below.refl _ _ | assumption | refine below_alloc ?_ _ | refine below_drewN ?_ _ | refine below_set ?_ _ (by simp; try omega) | refine Below.drew ?_))) hb
  replace hm1 := hm1.below hstep
  replace hv1 := hv1.below hstep
  replace l5 := l5.below hstep
  replace l7 := l7.below hstep
  replace e9 := e9.below hstep
  replace e11 := e11.below hstep
  replace k0 := cell_later hstep k0
  replace k1 := cell_later hstep k1
  replace k2 := cell_later hstep k2
  replace B := below_chain B hstep
  clear hb hstep
  clear HLK l7 e11
  rcases Decidable.em (stC m vs = 0) with hc | hc
  · obtain ⟨hmd, hst⟩ := stC_zero hc
    rw [hc]
    have HR := Lib.hid (fun (k : Nat) (r : Rul) (hk : m.rs[k]? = some r) => And.intro (hi_rule hmd hst (List.mem_of_getElem? hk)) (And.intro (mem_er hmd hst hk) (ar_rule hmd hst hk)))
    have HN := Lib.hid (fun (k : Nat) (r : Rul) (hk : m.rs[k]? = some r) (hh : hlB vs r.gs = true) => nw_has hmd hst hk hh)
    have HLE := Lib.hid (nw_le m vs)
    have HAL := Lib.hid (fun (es : List Asg) => show (apL vs es).length ≤ 1048576 by rw [apL_len]; exact hvl)
    have HEA := Lib.hid (nw_each (m := m) (vs := vs))
    have HGL := Lib.hid (fun (r : Rul) (hr : r ∈ m.rs) => (HOK.out.1.2.2.2 r hr).1)
    have HHO := Lib.hid (fun (r : Rul) (hr : r ∈ m.rs) ag cg w' h hv ht => c_HoldsIn m az ax ar cz cs cr A4 c4 vs ag cg r.gs w' HOK.out hvl (HGL.out r hr) h hv ht)
    have HAP := Lib.hid (fun (k : Nat) w' h hv => c_ApplyRule m az ax ar cz cs cr A4 c4 vs (k : Int) w' HOK.out hvl h hv)
    have HHI := Lib.hid (fun (k : Nat) w' h => c_hasInt A9 c9 _ (erL m vs) (k : Int) w' rfl hel h)
    have HM := Lib.hid hm1
    have HV := Lib.hid hv1
    have HL := Lib.hid l5
    have HE := Lib.hid e9
    have HK := Lib.hid (And.intro k0 (And.intro k1 k2))
    have HB := Lib.hid B
    clear hm1 hv1 l5 e9 k0 k1 k2 B hc hmd hst hvl
    go_wp2_with (fail)
    dsimp only [mv] at HHO HAP
    generalize erL m vs = E at *
    generalize nwL m vs = L at *
    go_loopw [27] (fun v wr => ∃ i : Nat, i ≤ m.rs.length ∧ v = .int .i64 i ∧ Hid (Below w13.heap.size w13 wr)) (fun v _ => m.rs.length - (intOf v).toNat)
    case atStart => exact ⟨0, Nat.zero_le _, rfl, Lib.hid (Below.refl _ _)⟩
    case round =>
      obtain ⟨i, hi, rfl, hb⟩ := hrel
      have k0 := cell_later hb.out HK.out.1
      have k1 := cell_later hb.out HK.out.2.1
      have k2 := cell_later hb.out HK.out.2.2
      by_cases hlt : i < m.rs.length
      · obtain ⟨wo, rfl⟩ : ∃ wo, wo = wr := ⟨_, rfl⟩
        obtain ⟨r, hr⟩ : ∃ r, m.rs[i]? = some r := ⟨_, List.getElem?_eq_getElem hlt⟩
        have hmem := List.mem_of_getElem? hr
        have hR := HR.out i r hr
        have HNR := Lib.hid (HN.out i r hr)
        have hgl := HGL.out r hmem
        obtain ⟨rb, ro, ag, cg, ae, ce, rfl, _, _, g1, _, hg, _⟩ := (HM.out.below hb.out).r.at hr
        have hHO := HHO.out r hmem ag cg
        have hAP := HAP.out i
        have hHI := HHI.out i
        rw [hR.1.1, hR.1.2] at hHO
        rw [hR.2.2.1, hR.2.2.2] at hAP
        rw [hR.2.1] at hHI
        have hal := HAL.out r.es
        have HG := Lib.hid hg
        have hi0 : (0 : Int) ≤ (i : Int) := by omega
        have hi1 : (i : Int) < (m.rs.length : Int) := by omega
        clear hr hmem hR hg
        rcases ht : hlB vs r.gs with _ | _
        all_goals
          rw [ht] at hHO hAP hHI HNR
          have HHO1 := Lib.hid hHO
          have HAP1 := Lib.hid hAP
          have HHI1 := Lib.hid hHI
          clear hHO hAP hHI ht
        · simp only [Bool.false_eq_true, if_false] at HAP1
          go_wp2_with (fail)
          refine wp_region_held_drew (S := (fun w' => w'.cell? ⟨b0, 0, none⟩ = some (.slice az m.sz.length cz) ∧ w'.cell? ⟨b0, 1, none⟩ = some (.slice ax m.st.length cs) ∧ w'.cell? ⟨b0, 2, none⟩ = some (.slice (some ⟨rb, ro, none⟩) m.rs.length cr) ∧ w'.cell? ⟨rb, ro + i * 3 + 1, none⟩ = some (.slice ag r.gs.length cg))) (by kernel_rfl) ?_ (fun hHeld => ?_)
          · exact ⟨k0, k1, k2, g1⟩
          refine rg_take (v := ?_) 0 rfl (by kernel_rfl) (by kernel_rfl) (by kernel_rfl) (fun _ _ _ h => h) (by kernel_rfl) ?_ (by assumption) ?_
          rotate_left
          · (intro w' hSw; (try dsimp only at hSw); go_simp; first | done | with_reducible rfl)
          simp only [Act.put, List.setIfInBounds_toArray, List.set_cons_zero, List.set_cons_succ]
          refine rg_take (v := ?_) 1 rfl (by kernel_rfl) (by kernel_rfl) (by kernel_rfl) (fun _ _ _ h => h) (by kernel_rfl) ?_ (by assumption) ?_
          rotate_left
          · (intro w' hSw; (try dsimp only at hSw); go_simp; first | done | with_reducible rfl)
          simp only [Act.put, List.setIfInBounds_toArray, List.set_cons_zero, List.set_cons_succ]
          refine rg_take (v := ?_) 2 rfl (by kernel_rfl) (by kernel_rfl) (by kernel_rfl) (fun _ _ _ h => h) (by kernel_rfl) ?_ (by assumption) ?_
          rotate_left
          · (intro w' hSw; (try dsimp only at hSw); go_simp; first | done | with_reducible rfl)
          simp only [Act.put, List.setIfInBounds_toArray, List.set_cons_zero, List.set_cons_succ]
          refine rg_take (v := ?_) 3 rfl (by kernel_rfl) (by kernel_rfl) (by kernel_rfl) (fun _ _ _ h => h) (by kernel_rfl) ?_ (by assumption) ?_
          rotate_left
          · (intro w' hSw; (try dsimp only at hSw); go_simp; first | done | with_reducible rfl)
          simp only [Act.put, List.setIfInBounds_toArray, List.set_cons_zero, List.set_cons_succ]
          refine rg_take (v := ?_) 4 rfl (by kernel_rfl) (by kernel_rfl) (by kernel_rfl) (fun _ _ _ h => h) (by kernel_rfl) ?_ (by assumption) ?_
          rotate_left
          · (intro w' hSw; (try dsimp only at hSw); go_simp; first | done | with_reducible rfl)
          simp only [Act.put, List.setIfInBounds_toArray, List.set_cons_zero, List.set_cons_succ]
          refine rg_take (v := ?_) 5 rfl (by kernel_rfl) (by kernel_rfl) (by kernel_rfl) (fun _ _ _ h => h) (by kernel_rfl) ?_ (by assumption) ?_
          rotate_left
          · (intro w' hSw; (try dsimp only at hSw); go_simp; first | done | with_reducible rfl)
          simp only [Act.put, List.setIfInBounds_toArray, List.set_cons_zero, List.set_cons_succ]
          refine rg_take (v := ?_) 6 rfl (by kernel_rfl) (by kernel_rfl) (by kernel_rfl) (fun _ _ _ h => h) (by kernel_rfl) ?_ (by assumption) ?_
          rotate_left
          · (intro w' hSw; (try dsimp only at hSw); go_simp; first | done | with_reducible rfl)
          simp only [Act.put, List.setIfInBounds_toArray, List.set_cons_zero, List.set_cons_succ]
          refine rg_take (v := ?_) 7 rfl (by kernel_rfl) (by kernel_rfl) (by kernel_rfl) (fun _ _ _ h => h) (by kernel_rfl) ?_ (by assumption) ?_
          rotate_left
          · (intro w' hSw; (try dsimp only at hSw); go_simp; first | done | with_reducible rfl)
          simp only [Act.put, List.setIfInBounds_toArray, List.set_cons_zero, List.set_cons_succ]
          refine rg_run 8 rfl (by kernel_rfl) (by kernel_rfl) (fun K hK => ?_)
          go_simp
          refine (HHO1.out _ (by exact (HM.out.below hb.out).below ((Below.refl _ _).drew)) (by exact (HV.out.below hb.out).drew) (by exact HG.out)).mono ?_
          rintro e w2 ⟨rfl, hb2⟩
          have hbs : Below wo.heap.size wo w2 := below_chain (by exact (Below.refl _ _).drew) hb2
          replace k0 := cell_later hbs k0
          replace k1 := cell_later hbs k1
          replace k2 := cell_later hbs k2
          replace g1 := cell_later hbs g1
          have HB2 := Lib.hid (below_chain hb.out hbs)
          clear hb2 hbs HHO1 HG
          go_wp2
          clear hHeld
          refine hK.out _ _ ⟨k0, k1, k2, g1⟩ (fun hHeld => ?_)
          clear hK K
          try simp only [Act.put, List.setIfInBounds_toArray, List.set_cons_zero, List.set_cons_succ]
          refine rg_take (v := ?_) 9 rfl (by kernel_rfl) (by kernel_rfl) (by kernel_rfl) (fun _ _ _ h => h) (by kernel_rfl) ?_ (by assumption) ?_
          rotate_left
          · (intro w' hSw; (try dsimp only at hSw); go_simp; first | done | with_reducible rfl)
          simp only [Act.put, List.setIfInBounds_toArray, List.set_cons_zero, List.set_cons_succ]
          refine rg_take (v := ?_) 10 rfl (by kernel_rfl) (by kernel_rfl) (by kernel_rfl) (fun _ _ _ h => h) (by kernel_rfl) ?_ (by assumption) ?_
          rotate_left
          · (intro w' hSw; (try dsimp only at hSw); go_simp; first | done | with_reducible rfl)
          simp only [Act.put, List.setIfInBounds_toArray, List.set_cons_zero, List.set_cons_succ]
          refine rg_take (v := ?_) 11 rfl (by kernel_rfl) (by kernel_rfl) (by kernel_rfl) (fun _ _ _ h => h) (by kernel_rfl) ?_ (by assumption) ?_
          rotate_left
          · (intro w' hSw; (try dsimp only at hSw); go_simp; first | done | with_reducible rfl)
          simp only [Act.put, List.setIfInBounds_toArray, List.set_cons_zero, List.set_cons_succ]
          refine rg_take (v := ?_) 12 rfl (by kernel_rfl) (by kernel_rfl) (by kernel_rfl) (fun _ _ _ h => h) (by kernel_rfl) ?_ (by assumption) ?_
          rotate_left
          · (intro w' hSw; (try dsimp only at hSw); go_simp; first | done | with_reducible rfl)
          simp only [Act.put, List.setIfInBounds_toArray, List.set_cons_zero, List.set_cons_succ]
          refine rg_take (v := ?_) 13 rfl (by kernel_rfl) (by kernel_rfl) (by kernel_rfl) (fun _ _ _ h => h) (by kernel_rfl) ?_ (by assumption) ?_
          rotate_left
          · (intro w' hSw; (try dsimp only at hSw); go_simp; first | done | with_reducible rfl)
          simp only [Act.put, List.setIfInBounds_toArray, List.set_cons_zero, List.set_cons_succ]
          refine wpAnyH_done (by kernel_rfl) ?_ _
          clear hHeld
          go_wp2_with (fail)
          refine (HAP1.out _ (HM.out.below HB2.out) (HV.out.below HB2.out)).mono ?_
          rintro e w3 ⟨A30, c30, rfl, ho3, hb3⟩
          have HX := Lib.hid (Rd.own ho3)
          have HB3 := Lib.hid (below_chain HB2.out hb3)
          clear hb3 ho3 HB2 HAP1 k0 k1 k2 g1
          go_wp2_with (fail)
          refine (HHI1.out _ (HE.out.below HB3.out)).mono ?_
          rintro e w4 ⟨rfl, rfl⟩
          clear HHI1
          go_wp2_with (fail)
          obtain ⟨wk, rfl⟩ : ∃ wk, wk = w3 := ⟨_, rfl⟩
          go_loopw [32, 33] (fun v u wr2 => ∃ q : Nat, q ≤ L.length ∧ u = .int .i64 q ∧ v = .bool true ∧ Hid (Below wk.heap.size wk wr2)) (fun _ u _ => L.length - (intOf u).toNat)
          case atStart => exact ⟨0, Nat.zero_le _, rfl, rfl, Lib.hid (Below.refl _ _)⟩
          case round =>
            obtain ⟨q, hq, rfl, rfl, hb4⟩ := hrel
            by_cases hq2 : q < L.length
            · go_wp2_with (fail)
              go_roundw
              case rel => exact ⟨q + 1, by omega, by go_num, rfl, hb4⟩
              case measure => simp [intOf]; omega
            · go_wp2_with (fail)
              go_roundw
              case rel => exact ⟨i + 1, by omega, by go_num, Lib.hid (below_chain HB3.out hb4.out)⟩
              case measure => simp [intOf]; omega
        · simp only [if_true] at HAP1
          go_wp2_with (fail)
          refine wp_region_held_drew (S := (fun w' => w'.cell? ⟨b0, 0, none⟩ = some (.slice az m.sz.length cz) ∧ w'.cell? ⟨b0, 1, none⟩ = some (.slice ax m.st.length cs) ∧ w'.cell? ⟨b0, 2, none⟩ = some (.slice (some ⟨rb, ro, none⟩) m.rs.length cr) ∧ w'.cell? ⟨rb, ro + i * 3 + 1, none⟩ = some (.slice ag r.gs.length cg))) (by kernel_rfl) ?_ (fun hHeld => ?_)
          · exact ⟨k0, k1, k2, g1⟩
          refine rg_take (v := ?_) 0 rfl (by kernel_rfl) (by kernel_rfl) (by kernel_rfl) (fun _ _ _ h => h) (by kernel_rfl) ?_ (by assumption) ?_
          rotate_left
          · (intro w' hSw; (try dsimp only at hSw); go_simp; first | done | with_reducible rfl)
          simp only [Act.put, List.setIfInBounds_toArray, List.set_cons_zero, List.set_cons_succ]
          refine rg_take (v := ?_) 1 rfl (by kernel_rfl) (by kernel_rfl) (by kernel_rfl) (fun _ _ _ h => h) (by kernel_rfl) ?_ (by assumption) ?_
          rotate_left
          · (intro w' hSw; (try dsimp only at hSw); go_simp; first | done | with_reducible rfl)
          simp only [Act.put, List.setIfInBounds_toArray, List.set_cons_zero, List.set_cons_succ]
          refine rg_take (v := ?_) 2 rfl (by kernel_rfl) (by kernel_rfl) (by kernel_rfl) (fun _ _ _ h => h) (by kernel_rfl) ?_ (by assumption) ?_
          rotate_left
          · (intro w' hSw; (try dsimp only at hSw); go_simp; first | done | with_reducible rfl)
          simp only [Act.put, List.setIfInBounds_toArray, List.set_cons_zero, List.set_cons_succ]
          refine rg_take (v := ?_) 3 rfl (by kernel_rfl) (by kernel_rfl) (by kernel_rfl) (fun _ _ _ h => h) (by kernel_rfl) ?_ (by assumption) ?_
          rotate_left
          · (intro w' hSw; (try dsimp only at hSw); go_simp; first | done | with_reducible rfl)
          simp only [Act.put, List.setIfInBounds_toArray, List.set_cons_zero, List.set_cons_succ]
          refine rg_take (v := ?_) 4 rfl (by kernel_rfl) (by kernel_rfl) (by kernel_rfl) (fun _ _ _ h => h) (by kernel_rfl) ?_ (by assumption) ?_
          rotate_left
          · (intro w' hSw; (try dsimp only at hSw); go_simp; first | done | with_reducible rfl)
          simp only [Act.put, List.setIfInBounds_toArray, List.set_cons_zero, List.set_cons_succ]
          refine rg_take (v := ?_) 5 rfl (by kernel_rfl) (by kernel_rfl) (by kernel_rfl) (fun _ _ _ h => h) (by kernel_rfl) ?_ (by assumption) ?_
          rotate_left
          · (intro w' hSw; (try dsimp only at hSw); go_simp; first | done | with_reducible rfl)
          simp only [Act.put, List.setIfInBounds_toArray, List.set_cons_zero, List.set_cons_succ]
          refine rg_take (v := ?_) 6 rfl (by kernel_rfl) (by kernel_rfl) (by kernel_rfl) (fun _ _ _ h => h) (by kernel_rfl) ?_ (by assumption) ?_
          rotate_left
          · (intro w' hSw; (try dsimp only at hSw); go_simp; first | done | with_reducible rfl)
          simp only [Act.put, List.setIfInBounds_toArray, List.set_cons_zero, List.set_cons_succ]
          refine rg_take (v := ?_) 7 rfl (by kernel_rfl) (by kernel_rfl) (by kernel_rfl) (fun _ _ _ h => h) (by kernel_rfl) ?_ (by assumption) ?_
          rotate_left
          · (intro w' hSw; (try dsimp only at hSw); go_simp; first | done | with_reducible rfl)
          simp only [Act.put, List.setIfInBounds_toArray, List.set_cons_zero, List.set_cons_succ]
          refine rg_run 8 rfl (by kernel_rfl) (by kernel_rfl) (fun K hK => ?_)
          go_simp
          refine (HHO1.out _ (by exact (HM.out.below hb.out).below ((Below.refl _ _).drew)) (by exact (HV.out.below hb.out).drew) (by exact HG.out)).mono ?_
          rintro e w2 ⟨rfl, hb2⟩
          have hbs : Below wo.heap.size wo w2 := below_chain (by exact (Below.refl _ _).drew) hb2
          replace k0 := cell_later hbs k0
          replace k1 := cell_later hbs k1
          replace k2 := cell_later hbs k2
          replace g1 := cell_later hbs g1
          have HB2 := Lib.hid (below_chain hb.out hbs)
          clear hb2 hbs HHO1 HG
          go_wp2
          clear hHeld
          refine hK.out _ _ ⟨k0, k1, k2, g1⟩ (fun hHeld => ?_)
          clear hK K
          try simp only [Act.put, List.setIfInBounds_toArray, List.set_cons_zero, List.set_cons_succ]
          refine rg_take (v := ?_) 9 rfl (by kernel_rfl) (by kernel_rfl) (by kernel_rfl) (fun _ _ _ h => h) (by kernel_rfl) ?_ (by assumption) ?_
          rotate_left
          · (intro w' hSw; (try dsimp only at hSw); go_simp; first | done | with_reducible rfl)
          simp only [Act.put, List.setIfInBounds_toArray, List.set_cons_zero, List.set_cons_succ]
          refine rg_take (v := ?_) 10 rfl (by kernel_rfl) (by kernel_rfl) (by kernel_rfl) (fun _ _ _ h => h) (by kernel_rfl) ?_ (by assumption) ?_
          rotate_left
          · (intro w' hSw; (try dsimp only at hSw); go_simp; first | done | with_reducible rfl)
          simp only [Act.put, List.setIfInBounds_toArray, List.set_cons_zero, List.set_cons_succ]
          refine rg_take (v := ?_) 11 rfl (by kernel_rfl) (by kernel_rfl) (by kernel_rfl) (fun _ _ _ h => h) (by kernel_rfl) ?_ (by assumption) ?_
          rotate_left
          · (intro w' hSw; (try dsimp only at hSw); go_simp; first | done | with_reducible rfl)
          simp only [Act.put, List.setIfInBounds_toArray, List.set_cons_zero, List.set_cons_succ]
          refine rg_take (v := ?_) 12 rfl (by kernel_rfl) (by kernel_rfl) (by kernel_rfl) (fun _ _ _ h => h) (by kernel_rfl) ?_ (by assumption) ?_
          rotate_left
          · (intro w' hSw; (try dsimp only at hSw); go_simp; first | done | with_reducible rfl)
          simp only [Act.put, List.setIfInBounds_toArray, List.set_cons_zero, List.set_cons_succ]
          refine rg_take (v := ?_) 13 rfl (by kernel_rfl) (by kernel_rfl) (by kernel_rfl) (fun _ _ _ h => h) (by kernel_rfl) ?_ (by assumption) ?_
          rotate_left
          · (intro w' hSw; (try dsimp only at hSw); go_simp; first | done | with_reducible rfl)
          simp only [Act.put, List.setIfInBounds_toArray, List.set_cons_zero, List.set_cons_succ]
          refine wpAnyH_done (by kernel_rfl) ?_ _
          clear hHeld
          go_wp2_with (fail)
          refine (HAP1.out _ (HM.out.below HB2.out) (HV.out.below HB2.out)).mono ?_
          rintro e w3 ⟨A30, c30, rfl, ho3, hb3⟩
          have HX := Lib.hid (Rd.own ho3)
          have HB3 := Lib.hid (below_chain HB2.out hb3)
          clear hb3 ho3 HB2 HAP1 k0 k1 k2 g1
          go_wp2_with (fail)
          refine (HHI1.out _ (HE.out.below HB3.out)).mono ?_
          rintro e w4 ⟨rfl, rfl⟩
          clear HHI1
          have hF0 := fnd_zero false L (apL vs r.es)
          have HF1 := Lib.hid (fun (q : Nat) (l : List Int) (h : L[q]? = some l) => fnd_succ (fb := false) (x := apL vs r.es) h)
          have HF2 : Hid (fnd false L (apL vs r.es) L.length = true) := Lib.hid (by
            obtain ⟨j, hj⟩ := HNR.out trivial
            exact fnd_all hj (List.getElem?_eq_some_iff.1 hj).1)
          have HF0 := Lib.hid hF0
          clear hF0 HNR
          have HLI := Lib.hid (fun (l : List Int) (hl : l.length ≤ 1048576) a5 c5 w' h h' => c_likeB a5 A30 c5 c30 l.length _ l (apL vs r.es) w' rfl rfl hl hal h h')
          generalize apL vs r.es = X at *
          go_wp2_with (fail)
          obtain ⟨wk, rfl⟩ : ∃ wk, wk = w3 := ⟨_, rfl⟩
          go_loopw [32, 33] (fun v u wr2 => ∃ (q : Nat) (f : Bool), q ≤ L.length ∧ u = .int .i64 q ∧ v = .bool f ∧ Hid (f = fnd false L X q) ∧ Hid (Below wk.heap.size wk wr2)) (fun _ u _ => L.length - (intOf u).toNat)
          case atStart => exact ⟨0, false, Nat.zero_le _, rfl, rfl, Lib.hid HF0.out.symm, Lib.hid (Below.refl _ _)⟩
          case round =>
            obtain ⟨q, f, hq, rfl, rfl, hf, hb4⟩ := hrel
            by_cases hq2 : q < L.length
            · obtain ⟨l, hl⟩ : ∃ l, L[q]? = some l := ⟨_, List.getElem?_eq_getElem hq2⟩
              have HFQ := Lib.hid (HF1.out q l hl)
              rcases f with _ | _
              · obtain ⟨lb, lo, la, lc, rfl, _, l0, hl5⟩ := ((HL.out.below HB3.out).below hb4.out).at hl
                have hll := HEA.out l (List.mem_of_getElem? hl)
                have hLI := HLI.out l hll la lc
                have HL5 := Lib.hid hl5
                have HLI1 := Lib.hid hLI
                have hq0 : (0 : Int) ≤ (q : Int) := by omega
                have hq1 : (q : Int) < (L.length : Int) := by omega
                clear hl hLI hl5
                go_wp2_with (fail)
                refine (HLI1.out _ HL5.out (HX.out.below hb4.out)).mono ?_
                rintro e w5 ⟨rfl, hb5⟩
                have HB5 := Lib.hid (below_chain hb4.out hb5)
                have HFF : Hid (likB l X = fnd false L X (q + 1)) := Lib.hid (by rw [HFQ.out, ← hf.out]; rfl)
                clear hb5 l0
                generalize likB l X = f2 at *
                go_wp2_with (fail)
                go_roundw
                case rel => exact ⟨q + 1, f2, by omega, by go_num, rfl, HFF, HB5⟩
                case measure => simp [intOf]; omega
              · clear hl
                go_wp2_with (fail)
                go_roundw
                case rel => exact ⟨q + 1, true, by omega, by go_num, rfl, Lib.hid (by rw [HFQ.out, ← hf.out]; rfl), hb4⟩
                case measure => simp [intOf]; omega
            · obtain rfl : q = L.length := by omega
              have hft : f = true := hf.out.trans HF2.out
              subst hft
              go_wp2_with (fail)
              go_roundw
              case rel => exact ⟨i + 1, by omega, by go_num, Lib.hid (below_chain HB3.out hb4.out)⟩
              case measure => simp [intOf]; omega
      · have hd3 : ¬ (i : Int) < (m.rs.length : Int) := by omega
        have hle := HLE.out
        go_wp2_with (fail)
        go_ret
        exact ⟨by first | rfl | (simp; done) | (simp; omega), below_chain HB.out hb.out⟩
  · have hc1 : (stC m vs != 0) = true := by simpa using hc
    clear hc
    generalize stC m vs = C at *
    go_wp2_with (fail)
    go_ret
    exact ⟨rfl, B⟩
end Go.Proofs.Ytaloheljfefdeaa
