/- The walk of the law FnExactDeadStates. No condition but the lengths. -/
import Derived.Test.YtdjehopcpjkgjaaGreatH10
import Derived.Test.YtdjehopcpjkgjaaGreatHLawFol
namespace Go.Proofs.YtdjehopcpjkgjaaGreat
open Go.RowKit

set_option maxHeartbeats 2000000 in
set_option maxRecDepth 100000 in
theorem law_DeadStates (m : Mdl) (az ax ar : Option Addr) (cz cs cr : Nat) (w : World) (hs : MSzOk m) (h : Md w az ax ar m) :
    Calls Tryz.prog 4 #[mv m az ax ar cz cs cr] w fun e w' => e = .returned (.bool true) ∧ Below w.heap.size w w' := by
  have HS := Lib.hid hs
  have H := Lib.hid h
  clear hs h
  have HI := Lib.hid (fun (ok : MOk m) a x r z s q w' h => c_DeadStates m a x r z s q w' ok h)
  have HSI := Lib.hid (fun (ok : MOk m) a x r z s q w' h => c_sDeadStates m a x r z s q w' ok h)
  have HT := Lib.hid (fun (ok : MdlOk m) w' h => c_toModel2 m az ax ar cz cs cr w' ok h)
  have HE := Lib.hid (fun (ok : MdlOk m) a x r a' x' r' z s q z' s' q' w' h h' => c_eqModel m a x r a' x' r' z s q z' s' q' w' ok h h')
  have HZ := Lib.hid (fun w' h => c_szModel m az ax ar cz cs cr 1048576 w' HS.out (by omega) (by omega) h)
  have hln := rdL_len m
  have HEA := Lib.hid (fun l (hl : l ∈ rdL m) => Nat.le_trans (rdL_mem hl).2 (show 16 ≤ 1048576 by omega))
  have hmn := mkN_bd (rdL m) (fun l hl => (rdL_mem hl).2)
  have HEL := Lib.hid (fun B B' d d' w' h h' => c_eqInt64SS B B' d d' (rdL m).length (rdL m) w' rfl (by omega) HEA.out h h')
  have HKM := Lib.hid (fun B d base hi w' ho => c_markInt64SS B d (rdL m).length base hi 1 (rdL m) w' rfl (by omega) (by omega) ho)
  have HKH := Lib.hid (fun B d w' h => c_heldInt64SS B d (rdL m).length 1 (rdL m) w' rfl (by omega) (by omega) h)
  have HLL := Lib.hid (rfl : (rdL m).length = (rdL m).length)
  have HLM := Lib.hid (mkS_len ((1 : Nat) : Int) (rdL m))
  have HMM := Lib.hid (fun (ok : MdlOk m) a x r z s q ds lo hi w' h hh => c_markModel m a x r z s q ds lo hi w' ok h hh)
  generalize rdL m = L at *
  generalize xmC m [] = RC at *
  dsimp only [mv] at *
  generalize m.sz.length = sn at *
  generalize m.st.length = tn at *
  generalize m.rs.length = rn at *
  generalize hlnn : L.length = ln at *
  replace HLL := Lib.hid hlnn
  clear hlnn
  generalize mkN L = mn at *
  go_enter Tryz.func4, Tryz.ntmps4
  go_wp2_with (fail)
  refine (HZ.out _ (H.out.alloc _)).mono ?_
  rintro e w1 ⟨u, rfl, hu, hb⟩
  have a0 : w1.cell? ⟨w.heap.size, 0, none⟩ = some (.slice az sn cz) := cell_later hb (by go_simp)
  have a1 : w1.cell? ⟨w.heap.size, 1, none⟩ = some (.slice ax tn cs) := cell_later hb (by go_simp)
  have a2 : w1.cell? ⟨w.heap.size, 2, none⟩ = some (.slice ar rn cr) := cell_later hb (by go_simp)
  have B : Below w.heap.size w w1 := below_chain (by (repeat (first | exact Below.refl _ _ | assumption | refine below_alloc ?_ _ | refine below_drewN ?_ _ | refine below_set ?_ _ (by simp; try omega) | refine Below.drew ?_))) hb
  clear hb
  have hz0 := World.block_lt_of_cell? _ _ a0
  rcases hu with rfl | ⟨u0, u1, hok⟩
  · go_wp2
    go_ret
    exact ⟨rfl, B⟩
  have HOK := Lib.hid hok
  have HMO := Lib.hid (mok_of HS.out hok)
  clear hok
  go_wp2_with (fail)
  refine (HT.out HOK.out _ (by exact H.out.below B)).mono ?_
  rintro e w2 ⟨b1, x1, r1, z1, s1, q1, ds1, rfl, ho1, hb⟩
  have hstep : Below w1.heap.size w1 w2 := below_chain (by (repeat (first | exact Below.refl _ _ | assumption | refine below_alloc ?_ _ | refine below_drewN ?_ _ | refine below_set ?_ _ (by simp; try omega) | refine Below.drew ?_))) hb
  replace a0 := cell_later hstep a0
  replace a1 := cell_later hstep a1
  replace a2 := cell_later hstep a2
  replace B := below_chain B hstep
  have m1 := ho1.md
  clear ho1
  clear hb hstep
  go_wp2_with (fail)
  refine (HSI.out HMO.out _ _ _ _ _ _ _ m1).mono ?_
  rintro e w4 ⟨Aw, dw, rfl, rw, hb⟩
  have hstep : Below w2.heap.size w2 w4 := below_chain (by (repeat (first | exact Below.refl _ _ | assumption | refine below_alloc ?_ _ | refine below_drewN ?_ _ | refine below_set ?_ _ (by simp; try omega) | refine Below.drew ?_))) hb
  replace m1 := m1.below hstep
  replace a0 := cell_later hstep a0
  replace a1 := cell_later hstep a1
  replace a2 := cell_later hstep a2
  replace B := below_chain B hstep
  clear hb hstep
  clear m1
  have hz4 := World.block_lt_of_cell? _ _ a0
  dsimp only at hz4
  have F_w4 : Below w4.heap.size w4 w4 := Below.refl _ _
  have S_w_w4 : w.heap.size ≤ w4.heap.size := B.size
  go_wp2_with (fail)
  refine (HT.out HOK.out _ (by exact H.out.below B)).mono ?_
  rintro e w5 ⟨b2, x2, r2, z2, s2, q2, ds2, rfl, ho2, hb⟩
  have hstep : Below w4.heap.size w4 w5 := below_chain (by (repeat (first | exact Below.refl _ _ | assumption | refine below_alloc ?_ _ | refine below_drewN ?_ _ | refine below_set ?_ _ (by simp; try omega) | refine Below.drew ?_))) hb
  replace a0 := cell_later hstep a0
  replace a1 := cell_later hstep a1
  replace a2 := cell_later hstep a2
  replace B := below_chain B hstep
  replace F_w4 := below_chain F_w4 hstep
  have m2 := Lib.hid ho2.md
  have X2 := Lib.hid (ho2.toL HOK.out)
  clear ho2
  clear hb hstep
  have hz5 := World.block_lt_of_cell? _ _ a0
  dsimp only at hz5
  have F_w5 : Below w5.heap.size w5 w5 := Below.refl _ _
  have S_w4_w5 : w4.heap.size ≤ w5.heap.size := F_w4.size
  have S_w_w5 : w.heap.size ≤ w5.heap.size := B.size
  go_wp2_with (fail)
  refine (HI.out HMO.out _ _ _ _ _ _ _ (by exact m2.out.alloc _)).mono ?_
  rintro e w7 ⟨Ag, dg, rfl, hog, hb⟩
  have hstep : Below w5.heap.size w5 w7 := below_chain (by (repeat (first | exact Below.refl _ _ | assumption | refine below_alloc ?_ _ | refine below_drewN ?_ _ | refine below_set ?_ _ (by simp; try omega) | refine Below.drew ?_))) hb
  replace a0 := cell_later hstep a0
  replace a1 := cell_later hstep a1
  replace a2 := cell_later hstep a2
  replace B := below_chain B hstep
  replace F_w4 := below_chain F_w4 hstep
  replace F_w5 := below_chain F_w5 hstep
  have y0 : w7.cell? ⟨w5.heap.size, 0, none⟩ = some (.slice b2 sn z2) := cell_later hb (by go_simp)
  have y1 : w7.cell? ⟨w5.heap.size, 1, none⟩ = some (.slice x2 tn s2) := cell_later hb (by go_simp)
  have y2 : w7.cell? ⟨w5.heap.size, 2, none⟩ = some (.slice r2 rn q2) := cell_later hb (by go_simp)
  clear hb hstep
  go_wp2_with (fail)
  refine (HEL.out _ _ _ _ _ (hog.rd HLL.out.symm) (rw.below F_w4)).mono ?_
  rintro e w8 ⟨rfl, hb⟩
  have hstep : Below w7.heap.size w7 w8 := below_chain (by (repeat (first | exact Below.refl _ _ | assumption | refine below_alloc ?_ _ | refine below_drewN ?_ _ | refine below_set ?_ _ (by simp; try omega) | refine Below.drew ?_))) hb
  replace hog := hog.below hstep
  replace a0 := cell_later hstep a0
  replace a1 := cell_later hstep a1
  replace a2 := cell_later hstep a2
  replace y0 := cell_later hstep y0
  replace y1 := cell_later hstep y1
  replace y2 := cell_later hstep y2
  replace B := below_chain B hstep
  replace F_w4 := below_chain F_w4 hstep
  replace F_w5 := below_chain F_w5 hstep
  clear hb hstep
  go_wp2_with (fail)
  have HB := Lib.hid B
  have HF4 := Lib.hid F_w4
  have HF5 := Lib.hid F_w5
  have HOG := Lib.hid hog
  have HRW := Lib.hid rw
  clear B F_w4 F_w5 hog rw
  refine wp_region_held_drew (S := (fun w' => w'.cell? ⟨w5.heap.size, 0, none⟩ = some (.slice b2 sn z2) ∧ w'.cell? ⟨w5.heap.size, 1, none⟩ = some (.slice x2 tn s2) ∧ w'.cell? ⟨w5.heap.size, 2, none⟩ = some (.slice r2 rn q2) ∧ w'.cell? ⟨w.heap.size, 0, none⟩ = some (.slice az sn cz) ∧ w'.cell? ⟨w.heap.size, 1, none⟩ = some (.slice ax tn cs) ∧ w'.cell? ⟨w.heap.size, 2, none⟩ = some (.slice ar rn cr))) (by kernel_rfl) ?_ (fun hHeld => ?_)
  · exact ⟨y0, y1, y2, a0, a1, a2⟩
  refine rg_take (v := ?_) 0 rfl (by kernel_rfl) (by kernel_rfl) (by kernel_rfl) (fun _ _ _ h => h) (by kernel_rfl) ?_ (by assumption) ?_
  rotate_left
  · (intro w' hSw; (try dsimp only at hSw); go_simp; first | done | with_reducible rfl)
  simp only [Act.put, List.setIfInBounds_toArray, List.set_cons_zero, List.set_cons_succ]
  refine rg_take (v := ?_) 1 rfl (by kernel_rfl) (by kernel_rfl) (by kernel_rfl) (fun _ _ _ h => h) (by kernel_rfl) ?_ (by assumption) ?_
  rotate_left
  · (intro w' hSw; (try dsimp only at hSw); go_simp; first | done | with_reducible rfl)
  simp only [Act.put, List.setIfInBounds_toArray, List.set_cons_zero, List.set_cons_succ]
  refine rg_run 2 rfl (by kernel_rfl) (by kernel_rfl) (fun K hK => ?_)
  go_simp
  refine (HT.out HOK.out _ (H.out.below (by exact HB.out.drew))).mono ?_
  rintro e w9 ⟨b3, x3, r3, z3, s3, q3, ds3, rfl, ho3, hb⟩
  replace y0 := cell_later hb (by exact y0)
  replace y1 := cell_later hb (by exact y1)
  replace y2 := cell_later hb (by exact y2)
  replace a0 := cell_later hb (by exact a0)
  replace a1 := cell_later hb (by exact a1)
  replace a2 := cell_later hb (by exact a2)
  have HST := Lib.hid (show Below w8.heap.size w8 w9 from below_chain (by exact (Below.refl _ _).drew) hb)
  have m7 := Lib.hid ho3.md
  clear hb ho3
  go_wp2
  clear hHeld
  refine hK.out _ _ ⟨y0, y1, y2, a0, a1, a2⟩ (fun hHeld => ?_)
  clear hK K
  try simp only [Act.put, List.setIfInBounds_toArray, List.set_cons_zero, List.set_cons_succ]
  refine rg_run 3 rfl (by kernel_rfl) (by kernel_rfl) (fun K hK => ?_)
  go_simp
  refine (HE.out HOK.out _ _ _ _ _ _ _ _ _ _ _ _ _ ((m2.out.below HF5.out).below HST.out) m7.out).mono ?_
  rintro e w10 ⟨rfl, hb⟩
  replace y0 := cell_later hb (by exact y0)
  replace y1 := cell_later hb (by exact y1)
  replace y2 := cell_later hb (by exact y2)
  replace a0 := cell_later hb (by exact a0)
  replace a1 := cell_later hb (by exact a1)
  replace a2 := cell_later hb (by exact a2)
  have HST2 := Lib.hid (below_chain HST.out hb)
  clear hb
  go_wp2
  clear hHeld
  refine hK.out _ _ ⟨y0, y1, y2, a0, a1, a2⟩ (fun hHeld => ?_)
  clear hK K
  try simp only [Act.put, List.setIfInBounds_toArray, List.set_cons_zero, List.set_cons_succ]
  refine rg_take (v := ?_) 4 rfl (by kernel_rfl) (by kernel_rfl) (by kernel_rfl) (fun _ _ _ h => h) (by kernel_rfl) ?_ (by assumption) ?_
  rotate_left
  · (intro w' hSw; (try dsimp only at hSw); go_simp; first | done | with_reducible rfl)
  simp only [Act.put, List.setIfInBounds_toArray, List.set_cons_zero, List.set_cons_succ]
  refine wpAnyH_done (by kernel_rfl) ?_ _
  clear hHeld
  have B := below_chain HB.out HST2.out
  have F_w4 := below_chain HF4.out HST2.out
  have F_w5 := below_chain HF5.out HST2.out
  have hog := HOG.out.below HST2.out
  clear HB HF4 HF5 HOG HST HST2 m7
  have hz12 := F_w5.size
  have MX := Lib.hid (X2.out.below F_w5)
  clear F_w5
  go_wp2_with (fail)
  refine (HMM.out HOK.out _ _ _ _ _ _ _ w4.heap.size w5.heap.size _ MX.out hz12).mono ?_
  rintro e w13 ⟨k13, hk13, rfl, hm⟩
  replace hog := (hog.mono (show w5.heap.size ≤ _ by simp) (Nat.le_refl _)).mkHi hm (Nat.le_refl _)
  replace F_w4 := Below.mk F_w4 hm (by omega)
  replace B := Below.mk B hm (by omega)
  replace a0 := hm.cell a0 (by dsimp only; omega)
  replace a1 := hm.cell a1 (by dsimp only; omega)
  replace a2 := hm.cell a2 (by dsimp only; omega)
  replace y0 := hm.cell y0 (by dsimp only; omega)
  replace y1 := hm.cell y1 (by dsimp only; omega)
  replace y2 := hm.cell y2 (by dsimp only; omega)
  clear hm
  clear MX
  go_wp2_with (fail)
  refine (HEL.out _ _ _ _ _ (hog.rd HLL.out.symm) (HRW.out.below F_w4)).mono ?_
  rintro e w15 ⟨rfl, hb⟩
  have hstep : Below w13.heap.size w13 w15 := below_chain (by (repeat (first | exact Below.refl _ _ | assumption | refine below_alloc ?_ _ | refine below_drewN ?_ _ | refine below_set ?_ _ (by simp; try omega) | refine Below.drew ?_))) hb
  replace hog := hog.below hstep
  replace a0 := cell_later hstep a0
  replace a1 := cell_later hstep a1
  replace a2 := cell_later hstep a2
  replace y0 := cell_later hstep y0
  replace y1 := cell_later hstep y1
  replace y2 := cell_later hstep y2
  replace B := below_chain B hstep
  replace F_w4 := below_chain F_w4 hstep
  clear hb hstep
  go_wp2_with (fail)
  refine (HKM.out _ _ _ _ _ hog).mono ?_
  rintro e w16 ⟨rfl, hmk, hm⟩
  replace F_w4 := Below.mk F_w4 hm (by omega)
  replace B := Below.mk B hm (by omega)
  replace a0 := hm.cell a0 (by dsimp only; omega)
  replace a1 := hm.cell a1 (by dsimp only; omega)
  replace a2 := hm.cell a2 (by dsimp only; omega)
  have rm := hmk.rd HLM.out.symm
  clear hm hog hmk y0 y1 y2
  have F_w16 : Below w16.heap.size w16 w16 := Below.refl _ _
  have S_w4_w16 : w4.heap.size ≤ w16.heap.size := F_w4.size
  have S_w_w16 : w.heap.size ≤ w16.heap.size := B.size
  go_wp2_with (fail)
  refine (HKH.out _ _ _ (by exact rm.below F_w16)).mono ?_
  rintro e w17 ⟨rfl, hb⟩
  have hstep : Below w16.heap.size w16 w17 := below_chain (by (repeat (first | exact Below.refl _ _ | assumption | refine below_alloc ?_ _ | refine below_drewN ?_ _ | refine below_set ?_ _ (by simp; try omega) | refine Below.drew ?_))) hb
  replace a0 := cell_later hstep a0
  replace a1 := cell_later hstep a1
  replace a2 := cell_later hstep a2
  replace B := below_chain B hstep
  replace F_w4 := below_chain F_w4 hstep
  replace F_w16 := below_chain F_w16 hstep
  clear hb hstep
  go_wp2_with (fail)
  refine (HT.out HOK.out _ (by exact H.out.below B)).mono ?_
  rintro e w18 ⟨b4, x4, r4, z4, s4, q4, ds4, rfl, ho4, hb⟩
  have hstep : Below w17.heap.size w17 w18 := below_chain (by (repeat (first | exact Below.refl _ _ | assumption | refine below_alloc ?_ _ | refine below_drewN ?_ _ | refine below_set ?_ _ (by simp; try omega) | refine Below.drew ?_))) hb
  replace a0 := cell_later hstep a0
  replace a1 := cell_later hstep a1
  replace a2 := cell_later hstep a2
  replace B := below_chain B hstep
  replace F_w4 := below_chain F_w4 hstep
  replace F_w16 := below_chain F_w16 hstep
  have m4 := ho4.md
  clear ho4
  clear hb hstep
  go_wp2_with (fail)
  refine (HI.out HMO.out _ _ _ _ _ _ _ m4).mono ?_
  rintro e w20 ⟨Ah, dh, rfl, hoh, hb⟩
  have hstep : Below w18.heap.size w18 w20 := below_chain (by (repeat (first | exact Below.refl _ _ | assumption | refine below_alloc ?_ _ | refine below_drewN ?_ _ | refine below_set ?_ _ (by simp; try omega) | refine Below.drew ?_))) hb
  replace m4 := m4.below hstep
  replace a0 := cell_later hstep a0
  replace a1 := cell_later hstep a1
  replace a2 := cell_later hstep a2
  replace B := below_chain B hstep
  replace F_w4 := below_chain F_w4 hstep
  replace F_w16 := below_chain F_w16 hstep
  have rh := hoh.rd HLL.out.symm
  clear hoh
  clear hb hstep
  clear m4
  go_wp2_with (fail)
  refine (HEL.out _ _ _ _ _ rh (HRW.out.below F_w4)).mono ?_
  rintro e w21 ⟨rfl, hb⟩
  have hstep : Below w20.heap.size w20 w21 := below_chain (by (repeat (first | exact Below.refl _ _ | assumption | refine below_alloc ?_ _ | refine below_drewN ?_ _ | refine below_set ?_ _ (by simp; try omega) | refine Below.drew ?_))) hb
  replace a0 := cell_later hstep a0
  replace a1 := cell_later hstep a1
  replace a2 := cell_later hstep a2
  replace B := below_chain B hstep
  replace F_w4 := below_chain F_w4 hstep
  replace F_w16 := below_chain F_w16 hstep
  clear hb hstep
  go_wp2_with (fail)
  refine (HKH.out _ _ _ (by exact rm.below F_w16)).mono ?_
  rintro e w22 ⟨rfl, hb⟩
  have hstep : Below w21.heap.size w21 w22 := below_chain (by (repeat (first | exact Below.refl _ _ | assumption | refine below_alloc ?_ _ | refine below_drewN ?_ _ | refine below_set ?_ _ (by simp; try omega) | refine Below.drew ?_))) hb
  replace a0 := cell_later hstep a0
  replace a1 := cell_later hstep a1
  replace a2 := cell_later hstep a2
  replace B := below_chain B hstep
  replace F_w4 := below_chain F_w4 hstep
  replace F_w16 := below_chain F_w16 hstep
  clear hb hstep
  go_wp2
  go_ret
  exact ⟨rfl, B⟩
end Go.Proofs.YtdjehopcpjkgjaaGreat
