/- The walk of the law FnExactNextStates. No condition but the lengths. -/
import Derived.Test.YtdjehopcpjkgjaaGreatH9
import Derived.Test.YtdjehopcpjkgjaaGreatHLawFol
namespace Go.Proofs.YtdjehopcpjkgjaaGreat
open Go.RowKit

theorem nw_len (m : Mdl) (vs : List Int) : (nwL m vs).length ≤ 200 := by
  unfold nwL
  split
  · rename_i h
    rw [Bool.and_eq_true] at h
    have h2 := h.1
    unfold mdB at h2
    simp only [Bool.and_eq_true, decide_eq_true_eq] at h2
    have h3 := h2.2.2.2.1
    have h4 := ascL_le (nsL m vs)
    rw [nsL_len] at h4
    have h5 := enK_len vs m.rs m.rs.length
    unfold enL at h4
    omega
  · simp
theorem nw_big {m : Mdl} {vs : List Int} {l : List Int} (h : l ∈ nwL m vs) : l.length ≤ 16 := by
  have := nx_each l h
  omega
set_option maxHeartbeats 2000000 in
set_option maxRecDepth 100000 in
theorem law_NextStates (m : Mdl) (az ax ar : Option Addr) (cz cs cr : Nat) (A : Option Addr) (c : Nat) (vs : List Int) (w : World) (hs : MSzOk m) (h : Md w az ax ar m) (hm : vs.length ≤ 9223372036854775807) (hv : Rd w A (ints vs)) :
    Calls Tryz.prog 3 #[mv m az ax ar cz cs cr, .slice A vs.length c] w fun e w' => e = .returned (.bool true) ∧ Below w.heap.size w w' := by
  have HS := Lib.hid hs
  have H := Lib.hid h
  have HV := Lib.hid hv
  clear hs h hv
  have HI := Lib.hid (fun (ok : MOk m) h1 a x r z s q B d w' h hv => c_NextStates m a x r z s q B d vs w' ok h1 h hv)
  have HSI := Lib.hid (fun (ok : MOk m) h1 a x r z s q B d w' h hv => c_sNextStates m a x r z s q B d vs w' ok h1 h hv)
  have HT := Lib.hid (fun (ok : MdlOk m) w' h => c_toModel2 m az ax ar cz cs cr w' ok h)
  have HE := Lib.hid (fun (ok : MdlOk m) a x r a' x' r' z s q z' s' q' w' h h' => c_eqModel m a x r a' x' r' z s q z' s' q' w' ok h h')
  have HZ := Lib.hid (fun w' h => c_szModel m az ax ar cz cs cr 1048576 w' HS.out (by omega) (by omega) h)
  have HTI := Lib.hid (fun w' h1 h => c_toInts2 A c vs w' h1 h)
  have HEI := Lib.hid (fun B B' d d' w' h1 h h' => c_eqInt64S B B' d d' vs.length vs.length vs w' rfl rfl h1 h h')
  have hln := nw_len m vs
  have HEA := Lib.hid (fun l (hl : l ∈ nwL m vs) => Nat.le_trans (nw_big hl) (show 16 ≤ 1048576 by omega))
  have hmn := mkN_bd (nwL m vs) (fun l hl => nw_big hl)
  have HEL := Lib.hid (fun B B' d d' w' h h' => c_eqInt64SS B B' d d' (nwL m vs).length (nwL m vs) w' rfl (by omega) HEA.out h h')
  have HKM := Lib.hid (fun B d base hi w' ho => c_markInt64SS B d (nwL m vs).length base hi 1 (nwL m vs) w' rfl (by omega) (by omega) ho)
  have HKH := Lib.hid (fun B d w' h => c_heldInt64SS B d (nwL m vs).length 1 (nwL m vs) w' rfl (by omega) (by omega) h)
  have HLL := Lib.hid (rfl : (nwL m vs).length = (nwL m vs).length)
  have HLM := Lib.hid (mkS_len ((1 : Nat) : Int) (nwL m vs))
  have HMM := Lib.hid (fun (ok : MdlOk m) a x r z s q ds lo hi w' h hh => c_markModel m a x r z s q ds lo hi w' ok h hh)
  generalize nwL m vs = L at *
  generalize stC m vs = RC at *
  dsimp only [mv] at *
  generalize m.sz.length = sn at *
  generalize m.st.length = tn at *
  generalize m.rs.length = rn at *
  generalize vs.length = vn at *
  generalize hlnn : L.length = ln at *
  replace HLL := Lib.hid hlnn
  clear hlnn
  generalize mkN L = mn at *
  rcases Nat.lt_or_ge 1048576 vn with hvv | hvv
  · skip
    go_enter Tryz.func3, Tryz.ntmps3
    go_wp2
    go_ret
    exact ⟨rfl, by (repeat (first | exact Below.refl _ _ | assumption | refine below_alloc ?_ _ | refine below_drewN ?_ _ | refine below_set ?_ _ (by simp; try omega) | refine Below.drew ?_))⟩
  go_enter Tryz.func3, Tryz.ntmps3
  go_wp2_with (fail)
  refine (HZ.out _ (H.out.alloc _)).mono ?_
  rintro e w1 ⟨u, rfl, hu, hb⟩
  have a0 : w1.cell? ⟨w.heap.size, 0, none⟩ = some (.slice az sn cz) := cell_later hb (by go_simp)
  have a1 : w1.cell? ⟨w.heap.size, 1, none⟩ = some (.slice ax tn cs) := cell_later hb (by go_simp)
  have a2 : w1.cell? ⟨w.heap.size, 2, none⟩ = some (.slice ar rn cr) := cell_later hb (by go_simp)
  have B : Below w.heap.size w w1 := below_chain (by (repeat (first | exact Below.refl _ _ | assumption | refine below_alloc ?_ _ | refine below_drewN ?_ _ | refine below_set ?_ _ (by simp; try omega) | refine Below.drew ?_))) hb
  clear hb
  have hz0 := World.block_lt_of_cell? _ _ a0
  rcases hu with rfl | ⟨u0, u1, hok⟩
  · go_wp2
    go_ret
    exact ⟨rfl, B⟩
  have HOK := Lib.hid hok
  have HMO := Lib.hid (mok_of HS.out hok)
  clear hok
  go_wp2_with (fail)
  refine (HT.out HOK.out _ (by exact H.out.below B)).mono ?_
  rintro e w2 ⟨b1, x1, r1, z1, s1, q1, ds1, rfl, ho1, hb⟩
  have hstep : Below w1.heap.size w1 w2 := below_chain (by (repeat (first | exact Below.refl _ _ | assumption | refine below_alloc ?_ _ | refine below_drewN ?_ _ | refine below_set ?_ _ (by simp; try omega) | refine Below.drew ?_))) hb
  replace a0 := cell_later hstep a0
  replace a1 := cell_later hstep a1
  replace a2 := cell_later hstep a2
  replace B := below_chain B hstep
  have m1 := ho1.md
  clear ho1
  clear hb hstep
  go_wp2_with (fail)
  refine (HTI.out _ hvv (by exact HV.out.below B)).mono ?_
  rintro e w3 ⟨A1, d1, rfl, ho, hb⟩
  have hstep : Below w2.heap.size w2 w3 := below_chain (by (repeat (first | exact Below.refl _ _ | assumption | refine below_alloc ?_ _ | refine below_drewN ?_ _ | refine below_set ?_ _ (by simp; try omega) | refine Below.drew ?_))) hb
  replace m1 := m1.below hstep
  replace a0 := cell_later hstep a0
  replace a1 := cell_later hstep a1
  replace a2 := cell_later hstep a2
  replace B := below_chain B hstep
  have i1 := Rd.own ho
  clear ho
  clear hb hstep
  go_wp2_with (fail)
  refine (HSI.out HMO.out hvv _ _ _ _ _ _ _ _ _ m1 i1).mono ?_
  rintro e w4 ⟨Aw, dw, rfl, rw, hb⟩
  have hstep : Below w3.heap.size w3 w4 := below_chain (by (repeat (first | exact Below.refl _ _ | assumption | refine below_alloc ?_ _ | refine below_drewN ?_ _ | refine below_set ?_ _ (by simp; try omega) | refine Below.drew ?_))) hb
  replace m1 := m1.below hstep
  replace i1 := i1.below hstep
  replace a0 := cell_later hstep a0
  replace a1 := cell_later hstep a1
  replace a2 := cell_later hstep a2
  replace B := below_chain B hstep
  clear hb hstep
  clear m1 i1
  have hz4 := World.block_lt_of_cell? _ _ a0
  dsimp only at hz4
  have F_w4 : Below w4.heap.size w4 w4 := Below.refl _ _
  have S_w_w4 : w.heap.size ≤ w4.heap.size := B.size
  go_wp2_with (fail)
  refine (HT.out HOK.out _ (by exact H.out.below B)).mono ?_
  rintro e w5 ⟨b2, x2, r2, z2, s2, q2, ds2, rfl, ho2, hb⟩
  have hstep : Below w4.heap.size w4 w5 := below_chain (by (repeat (first | exact Below.refl _ _ | assumption | refine below_alloc ?_ _ | refine below_drewN ?_ _ | refine below_set ?_ _ (by simp; try omega) | refine Below.drew ?_))) hb
  replace a0 := cell_later hstep a0
  replace a1 := cell_later hstep a1
  replace a2 := cell_later hstep a2
  replace B := below_chain B hstep
  replace F_w4 := below_chain F_w4 hstep
  have m2 := Lib.hid ho2.md
  have X2 := Lib.hid (ho2.toL HOK.out)
  clear ho2
  clear hb hstep
  have hz5 := World.block_lt_of_cell? _ _ a0
  dsimp only at hz5
  have F_w5 : Below w5.heap.size w5 w5 := Below.refl _ _
  have S_w4_w5 : w4.heap.size ≤ w5.heap.size := F_w4.size
  have S_w_w5 : w.heap.size ≤ w5.heap.size := B.size
  go_wp2_with (fail)
  refine (HTI.out _ hvv (by exact (HV.out.below B).alloc _)).mono ?_
  rintro e w6 ⟨A3, d3, rfl, ho, hb⟩
  have hstep : Below w5.heap.size w5 w6 := below_chain (by (repeat (first | exact Below.refl _ _ | assumption | refine below_alloc ?_ _ | refine below_drewN ?_ _ | refine below_set ?_ _ (by simp; try omega) | refine Below.drew ?_))) hb
  replace a0 := cell_later hstep a0
  replace a1 := cell_later hstep a1
  replace a2 := cell_later hstep a2
  replace B := below_chain B hstep
  replace F_w4 := below_chain F_w4 hstep
  replace F_w5 := below_chain F_w5 hstep
  have i2 := Lib.hid (Rd.own ho)
  have X3 := Lib.hid (OwnL.of_own (own_mono ho (show w5.heap.size + 1 ≤ _ by simp)))
  have hb6 := hb.size
  simp only [World.size_alloc] at hb6
  clear ho
  have y0 : w6.cell? ⟨w5.heap.size, 0, none⟩ = some (.slice b2 sn z2) := cell_later hb (by go_simp)
  have y1 : w6.cell? ⟨w5.heap.size, 1, none⟩ = some (.slice x2 tn s2) := cell_later hb (by go_simp)
  have y2 : w6.cell? ⟨w5.heap.size, 2, none⟩ = some (.slice r2 rn q2) := cell_later hb (by go_simp)
  clear hb hstep
  have F_w6 : Below w6.heap.size w6 w6 := Below.refl _ _
  have S_w4_w6 : w4.heap.size ≤ w6.heap.size := F_w4.size
  have S_w5_w6 : w5.heap.size ≤ w6.heap.size := F_w5.size
  have S_w_w6 : w.heap.size ≤ w6.heap.size := B.size
  go_wp2_with (fail)
  refine (HI.out HMO.out hvv _ _ _ _ _ _ _ _ _ (m2.out.below F_w5) i2.out).mono ?_
  rintro e w7 ⟨Ag, dg, rfl, hog, hb⟩
  have hstep : Below w6.heap.size w6 w7 := below_chain (by (repeat (first | exact Below.refl _ _ | assumption | refine below_alloc ?_ _ | refine below_drewN ?_ _ | refine below_set ?_ _ (by simp; try omega) | refine Below.drew ?_))) hb
  replace a0 := cell_later hstep a0
  replace a1 := cell_later hstep a1
  replace a2 := cell_later hstep a2
  replace y0 := cell_later hstep y0
  replace y1 := cell_later hstep y1
  replace y2 := cell_later hstep y2
  replace B := below_chain B hstep
  replace F_w4 := below_chain F_w4 hstep
  replace F_w5 := below_chain F_w5 hstep
  replace F_w6 := below_chain F_w6 hstep
  clear hb hstep
  go_wp2_with (fail)
  refine (HEL.out _ _ _ _ _ (hog.rd HLL.out.symm) (rw.below F_w4)).mono ?_
  rintro e w8 ⟨rfl, hb⟩
  have hstep : Below w7.heap.size w7 w8 := below_chain (by (repeat (first | exact Below.refl _ _ | assumption | refine below_alloc ?_ _ | refine below_drewN ?_ _ | refine below_set ?_ _ (by simp; try omega) | refine Below.drew ?_))) hb
  replace hog := hog.below hstep
  replace a0 := cell_later hstep a0
  replace a1 := cell_later hstep a1
  replace a2 := cell_later hstep a2
  replace y0 := cell_later hstep y0
  replace y1 := cell_later hstep y1
  replace y2 := cell_later hstep y2
  replace B := below_chain B hstep
  replace F_w4 := below_chain F_w4 hstep
  replace F_w5 := below_chain F_w5 hstep
  replace F_w6 := below_chain F_w6 hstep
  clear hb hstep
  go_wp2_with (fail)
  have HB := Lib.hid B
  have HF4 := Lib.hid F_w4
  have HF5 := Lib.hid F_w5
  have HF6 := Lib.hid F_w6
  have HOG := Lib.hid hog
  have HRW := Lib.hid rw
  clear B F_w4 F_w5 F_w6 hog rw
  refine wp_region_held_drew (S := (fun w' => w'.cell? ⟨w5.heap.size, 0, none⟩ = some (.slice b2 sn z2) ∧ w'.cell? ⟨w5.heap.size, 1, none⟩ = some (.slice x2 tn s2) ∧ w'.cell? ⟨w5.heap.size, 2, none⟩ = some (.slice r2 rn q2) ∧ w'.cell? ⟨w.heap.size, 0, none⟩ = some (.slice az sn cz) ∧ w'.cell? ⟨w.heap.size, 1, none⟩ = some (.slice ax tn cs) ∧ w'.cell? ⟨w.heap.size, 2, none⟩ = some (.slice ar rn cr))) (by kernel_rfl) ?_ (fun hHeld => ?_)
  · exact ⟨y0, y1, y2, a0, a1, a2⟩
  refine rg_take (v := ?_) 0 rfl (by kernel_rfl) (by kernel_rfl) (by kernel_rfl) (fun _ _ _ h => h) (by kernel_rfl) ?_ (by assumption) ?_
  rotate_left
  · (intro w' hSw; (try dsimp only at hSw); go_simp; first | done | with_reducible rfl)
  simp only [Act.put, List.setIfInBounds_toArray, List.set_cons_zero, List.set_cons_succ]
  refine rg_take (v := ?_) 1 rfl (by kernel_rfl) (by kernel_rfl) (by kernel_rfl) (fun _ _ _ h => h) (by kernel_rfl) ?_ (by assumption) ?_
  rotate_left
  · (intro w' hSw; (try dsimp only at hSw); go_simp; first | done | with_reducible rfl)
  simp only [Act.put, List.setIfInBounds_toArray, List.set_cons_zero, List.set_cons_succ]
  refine rg_run 2 rfl (by kernel_rfl) (by kernel_rfl) (fun K hK => ?_)
  go_simp
  refine (HT.out HOK.out _ (H.out.below (by exact HB.out.drew))).mono ?_
  rintro e w9 ⟨b3, x3, r3, z3, s3, q3, ds3, rfl, ho3, hb⟩
  replace y0 := cell_later hb (by exact y0)
  replace y1 := cell_later hb (by exact y1)
  replace y2 := cell_later hb (by exact y2)
  replace a0 := cell_later hb (by exact a0)
  replace a1 := cell_later hb (by exact a1)
  replace a2 := cell_later hb (by exact a2)
  have HST := Lib.hid (show Below w8.heap.size w8 w9 from below_chain (by exact (Below.refl _ _).drew) hb)
  have m7 := Lib.hid ho3.md
  clear hb ho3
  go_wp2
  clear hHeld
  refine hK.out _ _ ⟨y0, y1, y2, a0, a1, a2⟩ (fun hHeld => ?_)
  clear hK K
  try simp only [Act.put, List.setIfInBounds_toArray, List.set_cons_zero, List.set_cons_succ]
  refine rg_run 3 rfl (by kernel_rfl) (by kernel_rfl) (fun K hK => ?_)
  go_simp
  refine (HE.out HOK.out _ _ _ _ _ _ _ _ _ _ _ _ _ ((m2.out.below HF5.out).below HST.out) m7.out).mono ?_
  rintro e w10 ⟨rfl, hb⟩
  replace y0 := cell_later hb (by exact y0)
  replace y1 := cell_later hb (by exact y1)
  replace y2 := cell_later hb (by exact y2)
  replace a0 := cell_later hb (by exact a0)
  replace a1 := cell_later hb (by exact a1)
  replace a2 := cell_later hb (by exact a2)
  have HST2 := Lib.hid (below_chain HST.out hb)
  clear hb
  go_wp2
  clear hHeld
  refine hK.out _ _ ⟨y0, y1, y2, a0, a1, a2⟩ (fun hHeld => ?_)
  clear hK K
  try simp only [Act.put, List.setIfInBounds_toArray, List.set_cons_zero, List.set_cons_succ]
  refine rg_take (v := ?_) 4 rfl (by kernel_rfl) (by kernel_rfl) (by kernel_rfl) (fun _ _ _ h => h) (by kernel_rfl) ?_ (by assumption) ?_
  rotate_left
  · (intro w' hSw; (try dsimp only at hSw); go_simp; first | done | with_reducible rfl)
  simp only [Act.put, List.setIfInBounds_toArray, List.set_cons_zero, List.set_cons_succ]
  refine wpAnyH_done (by kernel_rfl) ?_ _
  clear hHeld
  have B := below_chain HB.out HST2.out
  have F_w4 := below_chain HF4.out HST2.out
  have F_w5 := below_chain HF5.out HST2.out
  have F_w6 := below_chain HF6.out HST2.out
  have hog := HOG.out.below HST2.out
  clear HB HF4 HF5 HF6 HOG HST HST2 m7
  go_wp2_with (fail)
  refine (HTI.out _ hvv (by exact HV.out.below B)).mono ?_
  rintro e w11 ⟨A5, d5, rfl, ho, hb⟩
  have hstep : Below w10.heap.size w10 w11 := below_chain (by (repeat (first | exact Below.refl _ _ | assumption | refine below_alloc ?_ _ | refine below_drewN ?_ _ | refine below_set ?_ _ (by simp; try omega) | refine Below.drew ?_))) hb
  replace hog := hog.below hstep
  replace a0 := cell_later hstep a0
  replace a1 := cell_later hstep a1
  replace a2 := cell_later hstep a2
  replace y0 := cell_later hstep y0
  replace y1 := cell_later hstep y1
  replace y2 := cell_later hstep y2
  replace B := below_chain B hstep
  replace F_w4 := below_chain F_w4 hstep
  replace F_w5 := below_chain F_w5 hstep
  replace F_w6 := below_chain F_w6 hstep
  have i3 := Rd.own ho
  clear ho
  clear hb hstep
  go_wp2_with (fail)
  refine (HEI.out _ _ _ _ _ (by omega) (i2.out.below F_w6) i3).mono ?_
  rintro e w12 ⟨rfl, hb⟩
  have hstep : Below w11.heap.size w11 w12 := below_chain (by (repeat (first | exact Below.refl _ _ | assumption | refine below_alloc ?_ _ | refine below_drewN ?_ _ | refine below_set ?_ _ (by simp; try omega) | refine Below.drew ?_))) hb
  replace hog := hog.below hstep
  replace a0 := cell_later hstep a0
  replace a1 := cell_later hstep a1
  replace a2 := cell_later hstep a2
  replace y0 := cell_later hstep y0
  replace y1 := cell_later hstep y1
  replace y2 := cell_later hstep y2
  replace B := below_chain B hstep
  replace F_w4 := below_chain F_w4 hstep
  replace F_w5 := below_chain F_w5 hstep
  replace F_w6 := below_chain F_w6 hstep
  clear hb hstep
  clear i3
  have hz12 := F_w5.size
  have hz13 := F_w6.size
  have MX := Lib.hid (X2.out.below F_w5)
  have MI := Lib.hid (X3.out.below F_w6)
  clear F_w5 F_w6
  go_wp2_with (fail)
  refine (HMM.out HOK.out _ _ _ _ _ _ _ w4.heap.size w5.heap.size _ MX.out hz12).mono ?_
  rintro e w13 ⟨k13, hk13, rfl, hm⟩
  have MI2 := Lib.hid (MI.out.mk hm)
  replace hog := hog.mkHi hm (by omega)
  replace F_w4 := Below.mk F_w4 hm (by omega)
  replace B := Below.mk B hm (by omega)
  replace a0 := hm.cell a0 (by dsimp only; omega)
  replace a1 := hm.cell a1 (by dsimp only; omega)
  replace a2 := hm.cell a2 (by dsimp only; omega)
  replace y0 := hm.cell y0 (by dsimp only; omega)
  replace y1 := hm.cell y1 (by dsimp only; omega)
  replace y2 := hm.cell y2 (by dsimp only; omega)
  clear hm
  clear MX MI
  go_wp2_with (fail)
  refine (c_markIntsL _ _ _ _ _ k13 _ _ rfl (by omega) hvv MI2.out).mono ?_
  rintro e w14 ⟨k14, hk14, rfl, hm⟩
  replace hog := hog.mkHi hm (by omega)
  replace F_w4 := Below.mk F_w4 hm (by omega)
  replace B := Below.mk B hm (by omega)
  replace a0 := hm.cell a0 (by dsimp only; omega)
  replace a1 := hm.cell a1 (by dsimp only; omega)
  replace a2 := hm.cell a2 (by dsimp only; omega)
  replace y0 := hm.cell y0 (by dsimp only; omega)
  replace y1 := hm.cell y1 (by dsimp only; omega)
  replace y2 := hm.cell y2 (by dsimp only; omega)
  clear hm
  clear MI2
  go_wp2_with (fail)
  refine (HEL.out _ _ _ _ _ (hog.rd HLL.out.symm) (HRW.out.below F_w4)).mono ?_
  rintro e w15 ⟨rfl, hb⟩
  have hstep : Below w14.heap.size w14 w15 := below_chain (by (repeat (first | exact Below.refl _ _ | assumption | refine below_alloc ?_ _ | refine below_drewN ?_ _ | refine below_set ?_ _ (by simp; try omega) | refine Below.drew ?_))) hb
  replace hog := hog.below hstep
  replace a0 := cell_later hstep a0
  replace a1 := cell_later hstep a1
  replace a2 := cell_later hstep a2
  replace y0 := cell_later hstep y0
  replace y1 := cell_later hstep y1
  replace y2 := cell_later hstep y2
  replace B := below_chain B hstep
  replace F_w4 := below_chain F_w4 hstep
  clear hb hstep
  go_wp2_with (fail)
  refine (HKM.out _ _ _ _ _ hog).mono ?_
  rintro e w16 ⟨rfl, hmk, hm⟩
  replace F_w4 := Below.mk F_w4 hm (by omega)
  replace B := Below.mk B hm (by omega)
  replace a0 := hm.cell a0 (by dsimp only; omega)
  replace a1 := hm.cell a1 (by dsimp only; omega)
  replace a2 := hm.cell a2 (by dsimp only; omega)
  have rm := hmk.rd HLM.out.symm
  clear hm hog hmk y0 y1 y2
  have F_w16 : Below w16.heap.size w16 w16 := Below.refl _ _
  have S_w4_w16 : w4.heap.size ≤ w16.heap.size := F_w4.size
  have S_w_w16 : w.heap.size ≤ w16.heap.size := B.size
  go_wp2_with (fail)
  refine (HKH.out _ _ _ (by exact rm.below F_w16)).mono ?_
  rintro e w17 ⟨rfl, hb⟩
  have hstep : Below w16.heap.size w16 w17 := below_chain (by (repeat (first | exact Below.refl _ _ | assumption | refine below_alloc ?_ _ | refine below_drewN ?_ _ | refine below_set ?_ _ (by simp; try omega) | refine Below.drew ?_))) hb
  replace a0 := cell_later hstep a0
  replace a1 := cell_later hstep a1
  replace a2 := cell_later hstep a2
  replace B := below_chain B hstep
  replace F_w4 := below_chain F_w4 hstep
  replace F_w16 := below_chain F_w16 hstep
  clear hb hstep
  go_wp2_with (fail)
  refine (HT.out HOK.out _ (by exact H.out.below B)).mono ?_
  rintro e w18 ⟨b4, x4, r4, z4, s4, q4, ds4, rfl, ho4, hb⟩
  have hstep : Below w17.heap.size w17 w18 := below_chain (by (repeat (first | exact Below.refl _ _ | assumption | refine below_alloc ?_ _ | refine below_drewN ?_ _ | refine below_set ?_ _ (by simp; try omega) | refine Below.drew ?_))) hb
  replace a0 := cell_later hstep a0
  replace a1 := cell_later hstep a1
  replace a2 := cell_later hstep a2
  replace B := below_chain B hstep
  replace F_w4 := below_chain F_w4 hstep
  replace F_w16 := below_chain F_w16 hstep
  have m4 := ho4.md
  clear ho4
  clear hb hstep
  go_wp2_with (fail)
  refine (HTI.out _ hvv (by exact HV.out.below B)).mono ?_
  rintro e w19 ⟨A6, d6, rfl, ho, hb⟩
  have hstep : Below w18.heap.size w18 w19 := below_chain (by (repeat (first | exact Below.refl _ _ | assumption | refine below_alloc ?_ _ | refine below_drewN ?_ _ | refine below_set ?_ _ (by simp; try omega) | refine Below.drew ?_))) hb
  replace m4 := m4.below hstep
  replace a0 := cell_later hstep a0
  replace a1 := cell_later hstep a1
  replace a2 := cell_later hstep a2
  replace B := below_chain B hstep
  replace F_w4 := below_chain F_w4 hstep
  replace F_w16 := below_chain F_w16 hstep
  have i4 := Rd.own ho
  clear ho
  clear hb hstep
  go_wp2_with (fail)
  refine (HI.out HMO.out hvv _ _ _ _ _ _ _ _ _ m4 i4).mono ?_
  rintro e w20 ⟨Ah, dh, rfl, hoh, hb⟩
  have hstep : Below w19.heap.size w19 w20 := below_chain (by (repeat (first | exact Below.refl _ _ | assumption | refine below_alloc ?_ _ | refine below_drewN ?_ _ | refine below_set ?_ _ (by simp; try omega) | refine Below.drew ?_))) hb
  replace m4 := m4.below hstep
  replace i4 := i4.below hstep
  replace a0 := cell_later hstep a0
  replace a1 := cell_later hstep a1
  replace a2 := cell_later hstep a2
  replace B := below_chain B hstep
  replace F_w4 := below_chain F_w4 hstep
  replace F_w16 := below_chain F_w16 hstep
  have rh := hoh.rd HLL.out.symm
  clear hoh
  clear hb hstep
  clear m4 i4
  go_wp2_with (fail)
  refine (HEL.out _ _ _ _ _ rh (HRW.out.below F_w4)).mono ?_
  rintro e w21 ⟨rfl, hb⟩
  have hstep : Below w20.heap.size w20 w21 := below_chain (by (repeat (first | exact Below.refl _ _ | assumption | refine below_alloc ?_ _ | refine below_drewN ?_ _ | refine below_set ?_ _ (by simp; try omega) | refine Below.drew ?_))) hb
  replace a0 := cell_later hstep a0
  replace a1 := cell_later hstep a1
  replace a2 := cell_later hstep a2
  replace B := below_chain B hstep
  replace F_w4 := below_chain F_w4 hstep
  replace F_w16 := below_chain F_w16 hstep
  clear hb hstep
  go_wp2_with (fail)
  refine (HKH.out _ _ _ (by exact rm.below F_w16)).mono ?_
  rintro e w22 ⟨rfl, hb⟩
  have hstep : Below w21.heap.size w21 w22 := below_chain (by (repeat (first | exact Below.refl _ _ | assumption | refine below_alloc ?_ _ | refine below_drewN ?_ _ | refine below_set ?_ _ (by simp; try omega) | refine Below.drew ?_))) hb
  replace a0 := cell_later hstep a0
  replace a1 := cell_later hstep a1
  replace a2 := cell_later hstep a2
  replace B := below_chain B hstep
  replace F_w4 := below_chain F_w4 hstep
  replace F_w16 := below_chain F_w16 hstep
  clear hb hstep
  go_wp2
  go_ret
  exact ⟨rfl, B⟩
end Go.Proofs.YtdjehopcpjkgjaaGreat
