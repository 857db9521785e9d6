/- The walk of the law FnExactFindBad. No condition but the lengths. -/
import Derived.Test.YtdjehopcpjkgjaaHMFbd
import Derived.Test.YtdjehopcpjkgjaaH5
import Derived.Test.YtdjehopcpjkgjaaH4
namespace Go.Proofs.Ytdjehopcpjkgjaa
open Go.RowKit

theorem fbL_len (m : Mdl) (ts : List Tst) : (fbL m ts).length ≤ 1048576 := by
  unfold fbL
  split
  · split
    · simp
    · split
      · rename_i x hx
        have hinv : InvR (xmL m ts) := by
          unfold xmL
          split
          · exact xp_inv m
          · exact ⟨by simp, fun i x h => by simp at h, fun x h => by simp at h, fun i x h => by simp at h⟩
        have h1 := hinv.dt x (List.mem_of_getElem? hx)
        have h2 := hinv.di _ x hx
        have h3 := (List.getElem?_eq_some_iff.1 hx).1
        have h4 : (xmL m ts).length ≤ 4000 := by
          unfold xmL
          split
          · exact xp_len m
          · simp
        omega
      · simp
  · simp
set_option maxHeartbeats 2000000 in
set_option maxRecDepth 100000 in
theorem law_FindBad (m : Mdl) (az ax ar : Option Addr) (cz cs cr : Nat) (A : Option Addr) (c : Nat) (ts : List Tst) (w : World) (hs : MSzOk m) (h : Md w az ax ar m) (hm : ts.length ≤ 9223372036854775807) (hv : Rd w A (tstCells ts)) :
    Calls Try.prog 7 #[mv m az ax ar cz cs cr, .slice A ts.length c] w fun e w' => e = .returned (.bool true) ∧ Below w.heap.size w w' := by
  have HS := Lib.hid hs
  have H := Lib.hid h
  have HV := Lib.hid hv
  clear hs h hv
  have HI := Lib.hid (fun (ok : MOk m) h1 a x r z s q B d w' h hv => c_FindBad m a x r z s q B d ts w' ok h1 h hv)
  have HSI := Lib.hid (fun (ok : MOk m) h1 a x r z s q B d w' h hv => c_sFindBad m a x r z s q B d ts w' ok h1 h hv)
  have HT := Lib.hid (fun (ok : MdlOk m) w' h => c_toModel2 m az ax ar cz cs cr w' ok h)
  have HE := Lib.hid (fun (ok : MdlOk m) a x r a' x' r' z s q z' s' q' w' h h' => c_eqModel m a x r a' x' r' z s q z' s' q' w' ok h h')
  have HZ := Lib.hid (fun w' h => c_szModel m az ax ar cz cs cr 1048576 w' HS.out (by omega) (by omega) h)
  have HTI := Lib.hid (fun w' h1 h => c_toTests2 A c ts w' h1 h)
  have HEI := Lib.hid (fun B B' d d' w' h1 h h' => c_eqTestS B B' d d' ts.length ts.length ts w' rfl rfl h1 h h')
  have hln := fbL_len m ts
  have HEL := Lib.hid (fun B B' d d' w' h1 h h' => c_eqInt64S B B' d d' (fbL m ts).length (fbL m ts).length (fbL m ts) w' rfl rfl h1 h h')
  have HMM := Lib.hid (fun (ok : MdlOk m) a x r z s q ds lo hi w' h hh => c_markModel m a x r z s q ds lo hi w' ok h hh)
  generalize fbL m ts = L at *
  generalize fbC m ts = RC at *
  dsimp only [mv] at *
  generalize m.sz.length = sn at *
  generalize m.st.length = tn at *
  generalize m.rs.length = rn at *
  generalize ts.length = vn at *
  generalize L.length = ln at *
  go_enter Try.func7, Try.ntmps7
  go_wp2_with (fail)
  refine (HZ.out _ (H.out.alloc _)).mono ?_
  rintro e w1 ⟨u, rfl, hu, hb⟩
  have a0 : w1.cell? ⟨w.heap.size, 0, none⟩ = some (.slice az sn cz) := cell_later hb (by go_simp)
  have a1 : w1.cell? ⟨w.heap.size, 1, none⟩ = some (.slice ax tn cs) := cell_later hb (by go_simp)
  have a2 : w1.cell? ⟨w.heap.size, 2, none⟩ = some (.slice ar rn cr) := cell_later hb (by go_simp)
  have B : Below w.heap.size w w1 := below_chain (by (repeat (first | exact Below.refl _ _ | assumption | refine below_alloc ?_ _ | refine below_drewN ?_ _ | refine below_set ?_ _ (by simp; try omega) | refine Below.drew ?_))) hb
  clear hb
  have hz0 := World.block_lt_of_cell? _ _ a0
  rcases hu with rfl | ⟨u0, u1, hok⟩
  · go_wp2
    go_ret
    exact ⟨rfl, B⟩
  have HOK := Lib.hid hok
  have HMO := Lib.hid (mok_of HS.out hok)
  clear hok
  rcases szI_cases (left := u) (n := vn) with ⟨e1, c1⟩ | ⟨e1, c1⟩
  · go_wp2_with (first
      | (go_at_call 18
         refine (c_szTestS _ _ _ _ _ hm (by omega) (by omega)).mono ?_
         rintro e w' ⟨rfl, rfl⟩)
      )
    go_ret
    exact ⟨rfl, B⟩
  have hvv : vn ≤ 1048576 := by omega
  go_wp2_with (first
    | (go_at_call 18
       refine (c_szTestS _ _ _ _ _ hm (by omega) (by omega)).mono ?_
       rintro e w' ⟨rfl, rfl⟩)
    )
  clear e1
  refine (HT.out HOK.out _ (by exact H.out.below B)).mono ?_
  rintro e w2 ⟨b1, x1, r1, z1, s1, q1, ds1, rfl, ho1, hb⟩
  replace a0 := cell_later hb a0
  replace a1 := cell_later hb a1
  replace a2 := cell_later hb a2
  replace B := below_chain B hb
  have m1 := ho1.md
  clear hb ho1
  go_wp2_with (fail)
  refine (HTI.out _ hvv (by exact HV.out.below B)).mono ?_
  rintro e w3 ⟨A1, d1, rfl, ho, hb⟩
  have hstep : Below w2.heap.size w2 w3 := below_chain (by (repeat (first | exact Below.refl _ _ | assumption | refine below_alloc ?_ _ | refine below_drewN ?_ _ | refine below_set ?_ _ (by simp; try omega) | refine Below.drew ?_))) hb
  replace m1 := m1.below hstep
  replace a0 := cell_later hstep a0
  replace a1 := cell_later hstep a1
  replace a2 := cell_later hstep a2
  replace B := below_chain B hstep
  have i1 := Rd.own ho
  clear ho
  clear hb hstep
  go_wp2_with (fail)
  refine (HSI.out HMO.out hvv _ _ _ _ _ _ _ _ _ m1 i1).mono ?_
  rintro e w4 ⟨Aw, dw, rfl, ho, hb⟩
  have hstep : Below w3.heap.size w3 w4 := below_chain (by (repeat (first | exact Below.refl _ _ | assumption | refine below_alloc ?_ _ | refine below_drewN ?_ _ | refine below_set ?_ _ (by simp; try omega) | refine Below.drew ?_))) hb
  replace m1 := m1.below hstep
  replace i1 := i1.below hstep
  replace a0 := cell_later hstep a0
  replace a1 := cell_later hstep a1
  replace a2 := cell_later hstep a2
  replace B := below_chain B hstep
  have rw := Rd.own ho
  clear ho
  clear hb hstep
  clear m1 i1
  have hz4 := World.block_lt_of_cell? _ _ a0
  dsimp only at hz4
  have F_w4 : Below w4.heap.size w4 w4 := Below.refl _ _
  have S_w_w4 : w.heap.size ≤ w4.heap.size := B.size
  go_wp2_with (fail)
  refine (HT.out HOK.out _ (by exact H.out.below B)).mono ?_
  rintro e w5 ⟨b2, x2, r2, z2, s2, q2, ds2, rfl, ho2, hb⟩
  have hstep : Below w4.heap.size w4 w5 := below_chain (by (repeat (first | exact Below.refl _ _ | assumption | refine below_alloc ?_ _ | refine below_drewN ?_ _ | refine below_set ?_ _ (by simp; try omega) | refine Below.drew ?_))) hb
  replace a0 := cell_later hstep a0
  replace a1 := cell_later hstep a1
  replace a2 := cell_later hstep a2
  replace B := below_chain B hstep
  replace F_w4 := below_chain F_w4 hstep
  have m2 := Lib.hid ho2.md
  have X2 := Lib.hid (ho2.toL HOK.out)
  clear ho2
  clear hb hstep
  have hz5 := World.block_lt_of_cell? _ _ a0
  dsimp only at hz5
  have F_w5 : Below w5.heap.size w5 w5 := Below.refl _ _
  have S_w4_w5 : w4.heap.size ≤ w5.heap.size := F_w4.size
  have S_w_w5 : w.heap.size ≤ w5.heap.size := B.size
  go_wp2_with (fail)
  refine (HTI.out _ hvv (by exact (HV.out.below B).alloc _)).mono ?_
  rintro e w6 ⟨A3, d3, rfl, ho, hb⟩
  have hstep : Below w5.heap.size w5 w6 := below_chain (by (repeat (first | exact Below.refl _ _ | assumption | refine below_alloc ?_ _ | refine below_drewN ?_ _ | refine below_set ?_ _ (by simp; try omega) | refine Below.drew ?_))) hb
  replace a0 := cell_later hstep a0
  replace a1 := cell_later hstep a1
  replace a2 := cell_later hstep a2
  replace B := below_chain B hstep
  replace F_w4 := below_chain F_w4 hstep
  replace F_w5 := below_chain F_w5 hstep
  have i2 := Lib.hid (Rd.own ho)
  have X3 := Lib.hid (OwnL.of_own (own_mono ho (show w5.heap.size + 1 ≤ _ by simp)))
  have hb6 := hb.size
  simp only [World.size_alloc] at hb6
  clear ho
  have y0 : w6.cell? ⟨w5.heap.size, 0, none⟩ = some (.slice b2 sn z2) := cell_later hb (by go_simp)
  have y1 : w6.cell? ⟨w5.heap.size, 1, none⟩ = some (.slice x2 tn s2) := cell_later hb (by go_simp)
  have y2 : w6.cell? ⟨w5.heap.size, 2, none⟩ = some (.slice r2 rn q2) := cell_later hb (by go_simp)
  clear hb hstep
  have F_w6 : Below w6.heap.size w6 w6 := Below.refl _ _
  have S_w4_w6 : w4.heap.size ≤ w6.heap.size := F_w4.size
  have S_w5_w6 : w5.heap.size ≤ w6.heap.size := F_w5.size
  have S_w_w6 : w.heap.size ≤ w6.heap.size := B.size
  go_wp2_with (fail)
  refine (HI.out HMO.out hvv _ _ _ _ _ _ _ _ _ (m2.out.below F_w5) i2.out).mono ?_
  rintro e w7 ⟨Ag, dg, rfl, hog, hb⟩
  have hstep : Below w6.heap.size w6 w7 := below_chain (by (repeat (first | exact Below.refl _ _ | assumption | refine below_alloc ?_ _ | refine below_drewN ?_ _ | refine below_set ?_ _ (by simp; try omega) | refine Below.drew ?_))) hb
  replace a0 := cell_later hstep a0
  replace a1 := cell_later hstep a1
  replace a2 := cell_later hstep a2
  replace y0 := cell_later hstep y0
  replace y1 := cell_later hstep y1
  replace y2 := cell_later hstep y2
  replace B := below_chain B hstep
  replace F_w4 := below_chain F_w4 hstep
  replace F_w5 := below_chain F_w5 hstep
  replace F_w6 := below_chain F_w6 hstep
  clear hb hstep
  go_wp2_with (fail)
  refine (HEL.out _ _ _ _ _ (by omega) (Rd.own hog) (rw.below F_w4)).mono ?_
  rintro e w8 ⟨rfl, hb⟩
  have hstep : Below w7.heap.size w7 w8 := below_chain (by (repeat (first | exact Below.refl _ _ | assumption | refine below_alloc ?_ _ | refine below_drewN ?_ _ | refine below_set ?_ _ (by simp; try omega) | refine Below.drew ?_))) hb
  replace a0 := cell_later hstep a0
  replace a1 := cell_later hstep a1
  replace a2 := cell_later hstep a2
  replace y0 := cell_later hstep y0
  replace y1 := cell_later hstep y1
  replace y2 := cell_later hstep y2
  replace hog := own_below hog hstep
  replace B := below_chain B hstep
  replace F_w4 := below_chain F_w4 hstep
  replace F_w5 := below_chain F_w5 hstep
  replace F_w6 := below_chain F_w6 hstep
  clear hb hstep
  go_wp2_with (fail)
  have HB := Lib.hid B
  have HF4 := Lib.hid F_w4
  have HF5 := Lib.hid F_w5
  have HF6 := Lib.hid F_w6
  have HOG := Lib.hid hog
  have HRW := Lib.hid rw
  clear B F_w4 F_w5 F_w6 hog rw
  refine wp_region_held_drew (S := (fun w' => w'.cell? ⟨w5.heap.size, 0, none⟩ = some (.slice b2 sn z2) ∧ w'.cell? ⟨w5.heap.size, 1, none⟩ = some (.slice x2 tn s2) ∧ w'.cell? ⟨w5.heap.size, 2, none⟩ = some (.slice r2 rn q2) ∧ w'.cell? ⟨w.heap.size, 0, none⟩ = some (.slice az sn cz) ∧ w'.cell? ⟨w.heap.size, 1, none⟩ = some (.slice ax tn cs) ∧ w'.cell? ⟨w.heap.size, 2, none⟩ = some (.slice ar rn cr))) (by kernel_rfl) ?_ (fun hHeld => ?_)
  · exact ⟨y0, y1, y2, a0, a1, a2⟩
  refine rg_take (v := ?_) 0 rfl (by kernel_rfl) (by kernel_rfl) (by kernel_rfl) (fun _ _ _ h => h) (by kernel_rfl) ?_ (by assumption) ?_
  rotate_left
  · (intro w' hSw; (try dsimp only at hSw); go_simp; first | done | with_reducible rfl)
  simp only [Act.put, List.setIfInBounds_toArray, List.set_cons_zero, List.set_cons_succ]
  refine rg_take (v := ?_) 1 rfl (by kernel_rfl) (by kernel_rfl) (by kernel_rfl) (fun _ _ _ h => h) (by kernel_rfl) ?_ (by assumption) ?_
  rotate_left
  · (intro w' hSw; (try dsimp only at hSw); go_simp; first | done | with_reducible rfl)
  simp only [Act.put, List.setIfInBounds_toArray, List.set_cons_zero, List.set_cons_succ]
  refine rg_run 2 rfl (by kernel_rfl) (by kernel_rfl) (fun K hK => ?_)
  go_simp
  refine (HT.out HOK.out _ (H.out.below (by exact HB.out.drew))).mono ?_
  rintro e w9 ⟨b3, x3, r3, z3, s3, q3, ds3, rfl, ho3, hb⟩
  replace y0 := cell_later hb (by exact y0)
  replace y1 := cell_later hb (by exact y1)
  replace y2 := cell_later hb (by exact y2)
  replace a0 := cell_later hb (by exact a0)
  replace a1 := cell_later hb (by exact a1)
  replace a2 := cell_later hb (by exact a2)
  have HST := Lib.hid (show Below w8.heap.size w8 w9 from below_chain (by exact (Below.refl _ _).drew) hb)
  have m7 := Lib.hid ho3.md
  clear hb ho3
  go_wp2
  clear hHeld
  refine hK.out _ _ ⟨y0, y1, y2, a0, a1, a2⟩ (fun hHeld => ?_)
  clear hK K
  try simp only [Act.put, List.setIfInBounds_toArray, List.set_cons_zero, List.set_cons_succ]
  refine rg_run 3 rfl (by kernel_rfl) (by kernel_rfl) (fun K hK => ?_)
  go_simp
  refine (HE.out HOK.out _ _ _ _ _ _ _ _ _ _ _ _ _ ((m2.out.below HF5.out).below HST.out) m7.out).mono ?_
  rintro e w10 ⟨rfl, hb⟩
  replace y0 := cell_later hb (by exact y0)
  replace y1 := cell_later hb (by exact y1)
  replace y2 := cell_later hb (by exact y2)
  replace a0 := cell_later hb (by exact a0)
  replace a1 := cell_later hb (by exact a1)
  replace a2 := cell_later hb (by exact a2)
  have HST2 := Lib.hid (below_chain HST.out hb)
  clear hb
  go_wp2
  clear hHeld
  refine hK.out _ _ ⟨y0, y1, y2, a0, a1, a2⟩ (fun hHeld => ?_)
  clear hK K
  try simp only [Act.put, List.setIfInBounds_toArray, List.set_cons_zero, List.set_cons_succ]
  refine rg_take (v := ?_) 4 rfl (by kernel_rfl) (by kernel_rfl) (by kernel_rfl) (fun _ _ _ h => h) (by kernel_rfl) ?_ (by assumption) ?_
  rotate_left
  · (intro w' hSw; (try dsimp only at hSw); go_simp; first | done | with_reducible rfl)
  simp only [Act.put, List.setIfInBounds_toArray, List.set_cons_zero, List.set_cons_succ]
  refine wpAnyH_done (by kernel_rfl) ?_ _
  clear hHeld
  have B := below_chain HB.out HST2.out
  have F_w4 := below_chain HF4.out HST2.out
  have F_w5 := below_chain HF5.out HST2.out
  have F_w6 := below_chain HF6.out HST2.out
  have hog := own_below HOG.out HST2.out
  clear HB HF4 HF5 HF6 HOG HST HST2 m7
  go_wp2_with (fail)
  refine (HTI.out _ hvv (by exact HV.out.below B)).mono ?_
  rintro e w11 ⟨A5, d5, rfl, ho, hb⟩
  have hstep : Below w10.heap.size w10 w11 := below_chain (by (repeat (first | exact Below.refl _ _ | assumption | refine below_alloc ?_ _ | refine below_drewN ?_ _ | refine below_set ?_ _ (by simp; try omega) | refine Below.drew ?_))) hb
  replace a0 := cell_later hstep a0
  replace a1 := cell_later hstep a1
  replace a2 := cell_later hstep a2
  replace y0 := cell_later hstep y0
  replace y1 := cell_later hstep y1
  replace y2 := cell_later hstep y2
  replace hog := own_below hog hstep
  replace B := below_chain B hstep
  replace F_w4 := below_chain F_w4 hstep
  replace F_w5 := below_chain F_w5 hstep
  replace F_w6 := below_chain F_w6 hstep
  have i3 := Rd.own ho
  clear ho
  clear hb hstep
  go_wp2_with (fail)
  refine (HEI.out _ _ _ _ _ (by omega) (i2.out.below F_w6) i3).mono ?_
  rintro e w12 ⟨rfl, hb⟩
  have hstep : Below w11.heap.size w11 w12 := below_chain (by (repeat (first | exact Below.refl _ _ | assumption | refine below_alloc ?_ _ | refine below_drewN ?_ _ | refine below_set ?_ _ (by simp; try omega) | refine Below.drew ?_))) hb
  replace a0 := cell_later hstep a0
  replace a1 := cell_later hstep a1
  replace a2 := cell_later hstep a2
  replace y0 := cell_later hstep y0
  replace y1 := cell_later hstep y1
  replace y2 := cell_later hstep y2
  replace hog := own_below hog hstep
  replace B := below_chain B hstep
  replace F_w4 := below_chain F_w4 hstep
  replace F_w5 := below_chain F_w5 hstep
  replace F_w6 := below_chain F_w6 hstep
  clear hb hstep
  clear i3
  have hz12 := F_w5.size
  have hz13 := F_w6.size
  have MX := Lib.hid (X2.out.below F_w5)
  have MI := Lib.hid (X3.out.below F_w6)
  clear F_w5 F_w6
  go_wp2_with (fail)
  refine (HMM.out HOK.out _ _ _ _ _ _ _ w4.heap.size w5.heap.size _ MX.out hz12).mono ?_
  rintro e w13 ⟨k13, hk13, rfl, hm⟩
  have MI2 := Lib.hid (MI.out.mk hm)
  replace F_w4 := Below.mk F_w4 hm (by omega)
  replace B := Below.mk B hm (by omega)
  replace a0 := hm.cell a0 (by dsimp only; omega)
  replace a1 := hm.cell a1 (by dsimp only; omega)
  replace a2 := hm.cell a2 (by dsimp only; omega)
  replace y0 := hm.cell y0 (by dsimp only; omega)
  replace y1 := hm.cell y1 (by dsimp only; omega)
  replace y2 := hm.cell y2 (by dsimp only; omega)
  replace hog := hm.ownHi hog (by omega)
  clear hm
  clear MX MI
  go_wp2_with (fail)
  refine (c_markTestZ _ _ _ _ _ k13 _ _ rfl (by omega) hvv MI2.out).mono ?_
  rintro e w14 ⟨k14, hk14, rfl, hm, _⟩
  replace F_w4 := Below.mk F_w4 hm (by omega)
  replace B := Below.mk B hm (by omega)
  replace a0 := hm.cell a0 (by dsimp only; omega)
  replace a1 := hm.cell a1 (by dsimp only; omega)
  replace a2 := hm.cell a2 (by dsimp only; omega)
  replace y0 := hm.cell y0 (by dsimp only; omega)
  replace y1 := hm.cell y1 (by dsimp only; omega)
  replace y2 := hm.cell y2 (by dsimp only; omega)
  replace hog := hm.ownHi hog (by omega)
  clear hm
  clear MI2
  go_wp2_with (fail)
  refine (HEL.out _ _ _ _ _ (by omega) (Rd.own hog) (HRW.out.below F_w4)).mono ?_
  rintro e w15 ⟨rfl, hb⟩
  have hstep : Below w14.heap.size w14 w15 := below_chain (by (repeat (first | exact Below.refl _ _ | assumption | refine below_alloc ?_ _ | refine below_drewN ?_ _ | refine below_set ?_ _ (by simp; try omega) | refine Below.drew ?_))) hb
  replace a0 := cell_later hstep a0
  replace a1 := cell_later hstep a1
  replace a2 := cell_later hstep a2
  replace y0 := cell_later hstep y0
  replace y1 := cell_later hstep y1
  replace y2 := cell_later hstep y2
  replace hog := own_below hog hstep
  replace B := below_chain B hstep
  replace F_w4 := below_chain F_w4 hstep
  clear hb hstep
  go_wp2_with (fail)
  refine (c_markInt64S _ _ _ _ _ 1 _ (by omega) (by omega) hog).mono ?_
  rintro e w16 ⟨rfl, hmk, hg⟩
  have hm := Mk.of_grown hg hog ⟨_, hmk⟩
  replace F_w4 := Below.mk F_w4 hm (by omega)
  replace B := Below.mk B hm (by omega)
  replace a0 := hm.cell a0 (by dsimp only; omega)
  replace a1 := hm.cell a1 (by dsimp only; omega)
  replace a2 := hm.cell a2 (by dsimp only; omega)
  have rm := Rd.own hmk
  clear hm hg hog hmk y0 y1 y2
  have F_w16 : Below w16.heap.size w16 w16 := Below.refl _ _
  have S_w4_w16 : w4.heap.size ≤ w16.heap.size := F_w4.size
  have S_w_w16 : w.heap.size ≤ w16.heap.size := B.size
  go_wp2_with (fail)
  refine (c_heldInt64S _ _ _ 1 _ (by omega) (by omega) (by exact rm.below F_w16)).mono ?_
  rintro e w17 ⟨rfl, hb⟩
  have hstep : Below w16.heap.size w16 w17 := below_chain (by (repeat (first | exact Below.refl _ _ | assumption | refine below_alloc ?_ _ | refine below_drewN ?_ _ | refine below_set ?_ _ (by simp; try omega) | refine Below.drew ?_))) hb
  replace a0 := cell_later hstep a0
  replace a1 := cell_later hstep a1
  replace a2 := cell_later hstep a2
  replace B := below_chain B hstep
  replace F_w4 := below_chain F_w4 hstep
  replace F_w16 := below_chain F_w16 hstep
  clear hb hstep
  go_wp2_with (fail)
  refine (HT.out HOK.out _ (by exact H.out.below B)).mono ?_
  rintro e w18 ⟨b4, x4, r4, z4, s4, q4, ds4, rfl, ho4, hb⟩
  have hstep : Below w17.heap.size w17 w18 := below_chain (by (repeat (first | exact Below.refl _ _ | assumption | refine below_alloc ?_ _ | refine below_drewN ?_ _ | refine below_set ?_ _ (by simp; try omega) | refine Below.drew ?_))) hb
  replace a0 := cell_later hstep a0
  replace a1 := cell_later hstep a1
  replace a2 := cell_later hstep a2
  replace B := below_chain B hstep
  replace F_w4 := below_chain F_w4 hstep
  replace F_w16 := below_chain F_w16 hstep
  have m4 := ho4.md
  clear ho4
  clear hb hstep
  go_wp2_with (fail)
  refine (HTI.out _ hvv (by exact HV.out.below B)).mono ?_
  rintro e w19 ⟨A6, d6, rfl, ho, hb⟩
  have hstep : Below w18.heap.size w18 w19 := below_chain (by (repeat (first | exact Below.refl _ _ | assumption | refine below_alloc ?_ _ | refine below_drewN ?_ _ | refine below_set ?_ _ (by simp; try omega) | refine Below.drew ?_))) hb
  replace m4 := m4.below hstep
  replace a0 := cell_later hstep a0
  replace a1 := cell_later hstep a1
  replace a2 := cell_later hstep a2
  replace B := below_chain B hstep
  replace F_w4 := below_chain F_w4 hstep
  replace F_w16 := below_chain F_w16 hstep
  have i4 := Rd.own ho
  clear ho
  clear hb hstep
  go_wp2_with (fail)
  refine (HI.out HMO.out hvv _ _ _ _ _ _ _ _ _ m4 i4).mono ?_
  rintro e w20 ⟨Ah, dh, rfl, hoh, hb⟩
  have hstep : Below w19.heap.size w19 w20 := below_chain (by (repeat (first | exact Below.refl _ _ | assumption | refine below_alloc ?_ _ | refine below_drewN ?_ _ | refine below_set ?_ _ (by simp; try omega) | refine Below.drew ?_))) hb
  replace m4 := m4.below hstep
  replace i4 := i4.below hstep
  replace a0 := cell_later hstep a0
  replace a1 := cell_later hstep a1
  replace a2 := cell_later hstep a2
  replace B := below_chain B hstep
  replace F_w4 := below_chain F_w4 hstep
  replace F_w16 := below_chain F_w16 hstep
  have rh := Rd.own hoh
  clear hoh
  clear hb hstep
  clear m4 i4
  go_wp2_with (fail)
  refine (HEL.out _ _ _ _ _ (by omega) rh (HRW.out.below F_w4)).mono ?_
  rintro e w21 ⟨rfl, hb⟩
  have hstep : Below w20.heap.size w20 w21 := below_chain (by (repeat (first | exact Below.refl _ _ | assumption | refine below_alloc ?_ _ | refine below_drewN ?_ _ | refine below_set ?_ _ (by simp; try omega) | refine Below.drew ?_))) hb
  replace a0 := cell_later hstep a0
  replace a1 := cell_later hstep a1
  replace a2 := cell_later hstep a2
  replace B := below_chain B hstep
  replace F_w4 := below_chain F_w4 hstep
  replace F_w16 := below_chain F_w16 hstep
  clear hb hstep
  go_wp2_with (fail)
  refine (c_heldInt64S _ _ _ 1 _ (by omega) (by omega) (by exact rm.below F_w16)).mono ?_
  rintro e w22 ⟨rfl, hb⟩
  have hstep : Below w21.heap.size w21 w22 := below_chain (by (repeat (first | exact Below.refl _ _ | assumption | refine below_alloc ?_ _ | refine below_drewN ?_ _ | refine below_set ?_ _ (by simp; try omega) | refine Below.drew ?_))) hb
  replace a0 := cell_later hstep a0
  replace a1 := cell_later hstep a1
  replace a2 := cell_later hstep a2
  replace B := below_chain B hstep
  replace F_w4 := below_chain F_w4 hstep
  replace F_w16 := below_chain F_w16 hstep
  clear hb hstep
  go_wp2
  go_ret
  exact ⟨rfl, B⟩
end Go.Proofs.Ytdjehopcpjkgjaa
