/- The walk of the law FnExactReachedBy (printed by LawRb.py). Condition: the lengths; the keywords. -/
import Derived.Test.YtackekfjalaacaaGreatDoorHRMl
namespace Go.Proofs.YtackekfjalaacaaGreatDoor
open Go.RowKit

theorem c_toProgram2 (nm : ByteArray) (ins vs os : List ByteArray) (gd : ByteArray) (ls : List Lin) (a1 a2 a3 a4 : Option Addr) (c1 c2 c3 c4 : Nat) (w : World) (hs : PgOk ⟨nm, ins, vs, os, gd, ls⟩) (h : PgR w a1 a2 a3 a4 ⟨nm, ins, vs, os, gd, ls⟩) :
    Calls Tryz.prog 8 #[.agg #[.string nm, .slice a1 ins.length c1, .slice a2 vs.length c2, .slice a3 os.length c3, .string gd, .slice a4 ls.length c4]] w fun e w' => ∃ p1 p2 p3 p4 q1 q2 q3 q4 ds, e = .returned (.agg #[.string nm, .slice p1 ins.length q1, .slice p2 vs.length q2, .slice p3 os.length q3, .string gd, .slice p4 ls.length q4]) ∧ POwn w' w.heap.size p1 p2 p3 p4 q1 q2 q3 q4 ⟨nm, ins, vs, os, gd, ls⟩ ds ∧ Below w.heap.size w w' :=
  c_toProgram ⟨nm, ins, vs, os, gd, ls⟩ a1 a2 a3 a4 c1 c2 c3 c4 w hs h
theorem POwn.z {w : World} {base : Nat} {a1 a2 a3 a4 : Option Addr} {c1 c2 c3 c4 : Nat} {p : Prg} {ds : List LiD} (h : POwn w base a1 a2 a3 a4 c1 c2 c3 c4 p ds) : PgZ a1 a2 a3 c1 c2 c3 := ⟨own_none h.i, own_none h.v, own_none h.o⟩
theorem rbL_len (p : Prg) (inp : ByteArray) : (rbL p inp).length ≤ p.vs.length + p.os.length := by
  unfold rbL
  split
  · rw [List.length_append]
    have h1 := List.length_filter_le (rbV p inp) p.vs
    have h2 := List.length_filter_le (rbO p inp) p.os
    omega
  · simp
set_option maxHeartbeats 4000000 in
set_option maxRecDepth 100000 in
theorem law_Reached (p : Prg) (a1 a2 a3 a4 : Option Addr) (c1 c2 c3 c4 : Nat) (inp : ByteArray) (w : World) (hs : PgSz p) (h : PgR w a1 a2 a3 a4 p) (hk : KwR w) (hi : inp.size ≤ 9223372036854775807) :
    Calls Tryz.prog 3 #[pv p a1 a2 a3 a4 c1 c2 c3 c4, .string inp] w fun e w' => e = .returned (.bool true) ∧ Below w.heap.size w w' := by
  have HZ := Lib.hid (fun w' h => c_szProgram p a1 a2 a3 a4 c1 c2 c3 c4 1048576 w' hs (by omega) (by omega) h)
  have HSF := Lib.hid (fun okp b1 b2 b3 b4 q1 q2 q3 q4 w' hz h => c_sReached p b1 b2 b3 b4 q1 q2 q3 q4 inp w' okp hz h)
  have HIF := Lib.hid (fun okp b1 b2 b3 b4 q1 q2 q3 q4 w' hz h hk => c_Reached p b1 b2 b3 b4 q1 q2 q3 q4 inp w' okp hz h hk)
  have HEP := Lib.hid (fun okp b1 b2 b3 b4 b1' b2' b3' b4' q1 q2 q3 q4 q1' q2' q3' q4' w' h h' => c_eqProgram p b1 b2 b3 b4 b1' b2' b3' b4' q1 q2 q3 q4 q1' q2' q3' q4' w' okp h h')
  have HMP := Lib.hid (fun okp b1 b2 b3 b4 q1 q2 q3 q4 ds lo hi w' h hh => c_markProgram p b1 b2 b3 b4 q1 q2 q3 q4 ds lo hi w' okp h hh)
  have HLN := Lib.hid (rbL_len p inp)
  generalize rbL p inp = L at *
  generalize rbC p inp = RC at *
  obtain ⟨nm, ins, vs, os, gd, ls⟩ := p
  have HT := Lib.hid (fun ok w' h => c_toProgram2 nm ins vs os gd ls a1 a2 a3 a4 c1 c2 c3 c4 w' ok h)
  have HEL := Lib.hid (fun B B' d d' n n' w' hn hn' hl h h' => c_eqStringS B B' d d' n n' L w' hn hn' hl h h')
  have hrc : (RC != RC) = false := by simp
  have HRC := Lib.hid hrc
  dsimp only [pv] at *
  have B0 := Lib.hid (below_alloc (Below.refl w.heap.size w) (.cells #[.string nm, .slice a1 ins.length c1, .slice a2 vs.length c2, .slice a3 os.length c3, .string gd, .slice a4 ls.length c4] 25))
  have HW := Lib.hid (h.below B0.out)
  have KW := Lib.hid (hk.below B0.out)
  clear hs h hk hrc
  have k0 : (w.alloc (.cells #[.string nm, .slice a1 ins.length c1, .slice a2 vs.length c2, .slice a3 os.length c3, .string gd, .slice a4 ls.length c4] 25)).cell? ⟨w.heap.size, 0, none⟩ = some (.string nm) := by go_simp
  have K0 := Lib.hid k0
  clear k0
  have k1 : (w.alloc (.cells #[.string nm, .slice a1 ins.length c1, .slice a2 vs.length c2, .slice a3 os.length c3, .string gd, .slice a4 ls.length c4] 25)).cell? ⟨w.heap.size, 1, none⟩ = some (.slice a1 ins.length c1) := by go_simp
  have K1 := Lib.hid k1
  clear k1
  have k2 : (w.alloc (.cells #[.string nm, .slice a1 ins.length c1, .slice a2 vs.length c2, .slice a3 os.length c3, .string gd, .slice a4 ls.length c4] 25)).cell? ⟨w.heap.size, 2, none⟩ = some (.slice a2 vs.length c2) := by go_simp
  have K2 := Lib.hid k2
  clear k2
  have k3 : (w.alloc (.cells #[.string nm, .slice a1 ins.length c1, .slice a2 vs.length c2, .slice a3 os.length c3, .string gd, .slice a4 ls.length c4] 25)).cell? ⟨w.heap.size, 3, none⟩ = some (.slice a3 os.length c3) := by go_simp
  have K3 := Lib.hid k3
  clear k3
  have k4 : (w.alloc (.cells #[.string nm, .slice a1 ins.length c1, .slice a2 vs.length c2, .slice a3 os.length c3, .string gd, .slice a4 ls.length c4] 25)).cell? ⟨w.heap.size, 4, none⟩ = some (.string gd) := by go_simp
  have K4 := Lib.hid k4
  clear k4
  have k5 : (w.alloc (.cells #[.string nm, .slice a1 ins.length c1, .slice a2 vs.length c2, .slice a3 os.length c3, .string gd, .slice a4 ls.length c4] 25)).cell? ⟨w.heap.size, 5, none⟩ = some (.slice a4 ls.length c4) := by go_simp
  have K5 := Lib.hid k5
  clear k5
  go_enter Tryz.func3, Tryz.ntmps3
  go_upto_region 1 with (fail)
  generalize w.alloc (.cells #[.string nm, .slice a1 ins.length c1, .slice a2 vs.length c2, .slice a3 os.length c3, .string gd, .slice a4 ls.length c4] 25) = W at *
  have k0 := K0.out
  have k1 := K1.out
  have k2 := K2.out
  have k3 := K3.out
  have k4 := K4.out
  have k5 := K5.out
  by_cases hz1 : 1048576 < inp.size
  · have hz2 : (1048576 : Int) < (inp.size : Int) := by omega
    clear k0 k1 k2 k3 k4 k5
    go_wp2_with (fail)
    go_ret
    exact ⟨rfl, B0.out⟩
  have hz2 : ¬ (1048576 : Int) < (inp.size : Int) := by omega
  go_wp2_with (fail)
  refine (HZ.out _ HW.out).mono ?_
  rintro e w1 ⟨u, rfl, hu, hb⟩
  have F1 := Lib.hid hb
  clear hb k0 k1 k2 k3 k4 k5
  rcases hu with rfl | ⟨u0, u1, hok⟩
  · go_wp2_with (fail)
    go_ret
    exact ⟨rfl, below_chain B0.out F1.out⟩
  have HOK := Lib.hid hok
  have hn0 : ¬ u < 0 := by omega
  have hll : L.length ≤ 2097152 := by
    have h1 := HLN.out
    have h2 := hok.v.1
    have h3 := hok.o.1
    dsimp only at h1 h2 h3
    omega
  clear hok HLN HZ hi hz1 hz2
  have k0 := cell_later F1.out K0.out
  have k1 := cell_later F1.out K1.out
  have k2 := cell_later F1.out K2.out
  have k3 := cell_later F1.out K3.out
  have k4 := cell_later F1.out K4.out
  have k5 := cell_later F1.out K5.out
  go_wp2_with (fail)
  refine (HT.out HOK.out _ (HW.out.below F1.out)).mono ?_
  rintro e wa ⟨t1, t2, t3, t4, s1, s2, s3, s4, dt, rfl, hoT, hb⟩
  have Fa := Lib.hid (below_chain F1.out hb)
  have HOT := Lib.hid hoT
  clear hb hoT hn0 u0 u1 k0 k1 k2 k3 k4 k5
  go_wp2_with (fail)
  refine (HSF.out HOK.out t1 t2 t3 t4 s1 s2 s3 s4 _ HOT.out.z HOT.out.pg).mono ?_
  rintro e V ⟨Aw, nAw, dw, rfl, hnn, ho, hb⟩
  have FV := Lib.hid (below_chain Fa.out hb)
  have HWV := Lib.hid ho
  have RWV := Lib.hid (Rd.own ho)
  have HOWn := Lib.hid hnn
  clear hb ho hnn HOT Fa F1 HSF
  have k0 := cell_later FV.out K0.out
  have k1 := cell_later FV.out K1.out
  have k2 := cell_later FV.out K2.out
  have k3 := cell_later FV.out K3.out
  have k4 := cell_later FV.out K4.out
  have k5 := cell_later FV.out K5.out
  go_wp2_with (fail)
  refine (HT.out HOK.out _ (HW.out.below FV.out)).mono ?_
  rintro e w9 ⟨p1, p2, p3, p4, q1, q2, q3, q4, ds, rfl, ho, hb⟩
  clear k0 k1 k2 k3 k4 k5
  have hal := below_alloc (Below.refl w9.heap.size w9) (.cells #[.string nm, .slice p1 ins.length q1, .slice p2 vs.length q2, .slice p3 os.length q3, .string gd, .slice p4 ls.length q4] 31)
  have s1 := Lib.hid (show V.heap.size ≤ w9.heap.size from hb.size)
  have POL := Lib.hid ((ho.toL HOK.out).below hal)
  have PRD := Lib.hid ((ho.below hal).pg)
  have PZ := Lib.hid ho.z
  have FA := Lib.hid (below_chain hb hal)
  clear ho hb
  have o0 : (w9.alloc (.cells #[.string nm, .slice p1 ins.length q1, .slice p2 vs.length q2, .slice p3 os.length q3, .string gd, .slice p4 ls.length q4] 31)).cell? ⟨w9.heap.size, 0, none⟩ = some (.string nm) := by go_simp
  have O0 := Lib.hid o0
  clear o0
  have o1 : (w9.alloc (.cells #[.string nm, .slice p1 ins.length q1, .slice p2 vs.length q2, .slice p3 os.length q3, .string gd, .slice p4 ls.length q4] 31)).cell? ⟨w9.heap.size, 1, none⟩ = some (.slice p1 ins.length q1) := by go_simp
  have O1 := Lib.hid o1
  clear o1
  have o2 : (w9.alloc (.cells #[.string nm, .slice p1 ins.length q1, .slice p2 vs.length q2, .slice p3 os.length q3, .string gd, .slice p4 ls.length q4] 31)).cell? ⟨w9.heap.size, 2, none⟩ = some (.slice p2 vs.length q2) := by go_simp
  have O2 := Lib.hid o2
  clear o2
  have o3 : (w9.alloc (.cells #[.string nm, .slice p1 ins.length q1, .slice p2 vs.length q2, .slice p3 os.length q3, .string gd, .slice p4 ls.length q4] 31)).cell? ⟨w9.heap.size, 3, none⟩ = some (.slice p3 os.length q3) := by go_simp
  have O3 := Lib.hid o3
  clear o3
  have o4 : (w9.alloc (.cells #[.string nm, .slice p1 ins.length q1, .slice p2 vs.length q2, .slice p3 os.length q3, .string gd, .slice p4 ls.length q4] 31)).cell? ⟨w9.heap.size, 4, none⟩ = some (.string gd) := by go_simp
  have O4 := Lib.hid o4
  clear o4
  have o5 : (w9.alloc (.cells #[.string nm, .slice p1 ins.length q1, .slice p2 vs.length q2, .slice p3 os.length q3, .string gd, .slice p4 ls.length q4] 31)).cell? ⟨w9.heap.size, 5, none⟩ = some (.slice p4 ls.length q4) := by go_simp
  have O5 := Lib.hid o5
  clear o5
  have s2 := Lib.hid (show w9.heap.size < (w9.alloc (.cells #[.string nm, .slice p1 ins.length q1, .slice p2 vs.length q2, .slice p3 os.length q3, .string gd, .slice p4 ls.length q4] 31)).heap.size by simp)
  clear hal
  go_upto_region 8 with (fail)
  generalize w9.alloc (.cells #[.string nm, .slice p1 ins.length q1, .slice p2 vs.length q2, .slice p3 os.length q3, .string gd, .slice p4 ls.length q4] 31) = VA at *
  have FD := Lib.hid (below_chain FV.out FA.out)
  have o0 := O0.out
  have o1 := O1.out
  have o2 := O2.out
  have o3 := O3.out
  have o4 := O4.out
  have o5 := O5.out
  go_wp2_with (fail)
  refine (HIF.out HOK.out p1 p2 p3 p4 q1 q2 q3 q4 _ PZ.out PRD.out (KW.out.below FD.out)).mono ?_
  rintro e w11 ⟨Ag, ng, dg, rfl, hng, hog, hb⟩
  have E11 := Lib.hid hb
  have HOG := Lib.hid hog
  have HNG := Lib.hid hng
  clear hb hog hng o0 o1 o2 o3 o4 o5
  have hrc := HRC.out
  have RW11 := Lib.hid ((RWV.out.below FA.out).below E11.out)
  go_wp2_with (fail)
  refine (HEL.out _ _ _ _ _ _ _ HNG.out HOWn.out (by have := HNG.out; omega) (Rd.own HOG.out) RW11.out).mono ?_
  rintro e w12 ⟨rfl, hb⟩
  have E12 := Lib.hid (below_chain E11.out hb)
  have HO12 := Lib.hid (own_below HOG.out hb)
  clear hb RW11 HOG
  go_upto_region 11 with (fail)
  clear hrc
  have o0 := cell_later E12.out O0.out
  have o1 := cell_later E12.out O1.out
  have o2 := cell_later E12.out O2.out
  have o3 := cell_later E12.out O3.out
  have o4 := cell_later E12.out O4.out
  have o5 := cell_later E12.out O5.out
  have FF := Lib.hid (below_chain FD.out E12.out)
  have k0 := cell_later FF.out K0.out
  have k1 := cell_later FF.out K1.out
  have k2 := cell_later FF.out K2.out
  have k3 := cell_later FF.out K3.out
  have k4 := cell_later FF.out K4.out
  have k5 := cell_later FF.out K5.out
  refine wp_region_held_drew (S := (fun w' => w'.cell? ⟨w9.heap.size, 0, none⟩ = some (.string nm) ∧ w'.cell? ⟨w9.heap.size, 1, none⟩ = some (.slice p1 ins.length q1) ∧ w'.cell? ⟨w9.heap.size, 2, none⟩ = some (.slice p2 vs.length q2) ∧ w'.cell? ⟨w9.heap.size, 3, none⟩ = some (.slice p3 os.length q3) ∧ w'.cell? ⟨w9.heap.size, 4, none⟩ = some (.string gd) ∧ w'.cell? ⟨w9.heap.size, 5, none⟩ = some (.slice p4 ls.length q4) ∧ w'.cell? ⟨w.heap.size, 0, none⟩ = some (.string nm) ∧ w'.cell? ⟨w.heap.size, 1, none⟩ = some (.slice a1 ins.length c1) ∧ w'.cell? ⟨w.heap.size, 2, none⟩ = some (.slice a2 vs.length c2) ∧ w'.cell? ⟨w.heap.size, 3, none⟩ = some (.slice a3 os.length c3) ∧ w'.cell? ⟨w.heap.size, 4, none⟩ = some (.string gd) ∧ w'.cell? ⟨w.heap.size, 5, none⟩ = some (.slice a4 ls.length c4))) (by kernel_rfl) ?_ (fun hHeld => ?_)
  · exact ⟨o0, o1, o2, o3, o4, o5, k0, k1, k2, k3, k4, k5⟩
  refine rg_take (v := ?_) 0 rfl (by kernel_rfl) (by kernel_rfl) (by kernel_rfl) (fun _ _ _ h => h) (by kernel_rfl) ?_ (by assumption) ?_
  rotate_left
  · (intro w' hSw; (try dsimp only at hSw); go_simp; first | done | with_reducible rfl)
  simp only [Act.put, List.setIfInBounds_toArray, List.set_cons_zero, List.set_cons_succ]
  refine rg_take (v := ?_) 1 rfl (by kernel_rfl) (by kernel_rfl) (by kernel_rfl) (fun _ _ _ h => h) (by kernel_rfl) ?_ (by assumption) ?_
  rotate_left
  · (intro w' hSw; (try dsimp only at hSw); go_simp; first | done | with_reducible rfl)
  simp only [Act.put, List.setIfInBounds_toArray, List.set_cons_zero, List.set_cons_succ]
  refine rg_run 2 rfl (by kernel_rfl) (by kernel_rfl) (fun K hK => ?_)
  go_simp
  refine (HT.out HOK.out _ ((HW.out.below FF.out).below (Below.refl _ _).drew)).mono ?_
  rintro e w13a ⟨t1, t2, t3, t4, s1', s2', s3', s4', dt, rfl, ho, hb⟩
  have G1 := Lib.hid (below_chain (Below.refl w12.heap.size w12).drew hb : Below w12.heap.size w12 w13a)
  have HOX := Lib.hid ho
  clear hb ho
  go_wp2
  have hbs := G1.out
  clear hHeld
  refine hK.out _ _ (⟨cell_later hbs o0, cell_later hbs o1, cell_later hbs o2, cell_later hbs o3, cell_later hbs o4, cell_later hbs o5, cell_later hbs k0, cell_later hbs k1, cell_later hbs k2, cell_later hbs k3, cell_later hbs k4, cell_later hbs k5⟩) (fun hHeld => ?_)
  clear hK K
  try simp only [Act.put, List.setIfInBounds_toArray, List.set_cons_zero, List.set_cons_succ]
  clear hbs
  refine rg_run 3 rfl (by kernel_rfl) (by kernel_rfl) (fun K hK => ?_)
  go_simp
  refine (HEP.out HOK.out _ _ _ _ _ _ _ _ _ _ _ _ _ _ _ _ _ (PRD.out.below (below_chain E12.out G1.out)) HOX.out.pg).mono ?_
  rintro e w13 ⟨rfl, hb⟩
  have G2 := Lib.hid (below_chain G1.out hb)
  clear hb
  go_wp2
  have hbs := G2.out
  clear hHeld
  refine hK.out _ _ (⟨cell_later hbs o0, cell_later hbs o1, cell_later hbs o2, cell_later hbs o3, cell_later hbs o4, cell_later hbs o5, cell_later hbs k0, cell_later hbs k1, cell_later hbs k2, cell_later hbs k3, cell_later hbs k4, cell_later hbs k5⟩) (fun hHeld => ?_)
  clear hK K
  try simp only [Act.put, List.setIfInBounds_toArray, List.set_cons_zero, List.set_cons_succ]
  clear hbs
  refine rg_take (v := ?_) 4 rfl (by kernel_rfl) (by kernel_rfl) (by kernel_rfl) (fun _ _ _ h => h) (by kernel_rfl) ?_ (by assumption) ?_
  rotate_left
  · (intro w' hSw; (try dsimp only at hSw); go_simp; first | done | with_reducible rfl)
  simp only [Act.put, List.setIfInBounds_toArray, List.set_cons_zero, List.set_cons_succ]
  refine wpAnyH_done (by kernel_rfl) ?_ _
  clear hHeld
  have HO13 := Lib.hid (own_below HO12.out G2.out)
  have Ew13 := Lib.hid (below_chain E12.out G2.out)
  clear HOX G1 G2 FF o0 o1 o2 o3 o4 o5 k0 k1 k2 k3 k4 k5 HO12
  have POL2 := Lib.hid (POL.out.below Ew13.out)
  have o0 := cell_later Ew13.out O0.out
  have o1 := cell_later Ew13.out O1.out
  have o2 := cell_later Ew13.out O2.out
  have o3 := cell_later Ew13.out O3.out
  have o4 := cell_later Ew13.out O4.out
  have o5 := cell_later Ew13.out O5.out
  have HO13W := Lib.hid (own_below (own_below HWV.out FA.out) Ew13.out)
  have FF := Lib.hid (below_chain FD.out Ew13.out)
  have sv := Lib.hid (show W.heap.size ≤ V.heap.size from FV.out.size)
  have se := Lib.hid (show VA.heap.size ≤ w13.heap.size from Ew13.out.size)
  clear O0 O1 O2 O3 O4 O5 POL FA FD E11 E12 Ew13 RWV HEP PRD PZ
  go_wp2_with (fail)
  refine (HMP.out HOK.out _ _ _ _ _ _ _ _ _ V.heap.size w9.heap.size _ POL2.out (by have := s2.out; have := se.out; omega)).mono ?_
  rintro e w15 ⟨k15, hk15, rfl, hm⟩
  have HO15 := Lib.hid (hm.ownHi HO13.out (by have := s2.out; omega))
  have HO15W := Lib.hid (hm.own HO13W.out (fun q hq => .inl (HWV.out.lt q hq).2))
  have FF15 := Lib.hid (Below.mk FF.out hm sv.out)
  clear hm o0 o1 o2 o3 o4 o5 POL2 HO13 HO13W FF
  have hk0 : ¬ ((k15 : Int) < 0) := by omega
  have hrc := HRC.out
  go_wp2_with (fail)
  refine (HEL.out _ _ _ _ _ _ _ HNG.out HOWn.out (by have := HNG.out; omega) (Rd.own HO15.out) (Rd.own HO15W.out)).mono ?_
  rintro e w17 ⟨rfl, hb⟩
  have HO17 := Lib.hid (own_below HO15.out hb)
  have HO17W := Lib.hid (own_below HO15W.out hb)
  have FF17 := Lib.hid (below_chain FF15.out hb)
  have hgn : ng ≤ 2097152 := by have := HNG.out; omega
  clear hb HO15 HO15W FF15
  go_wp2_with (fail)
  refine (c_markStringX _ _ _ _ _ 1 _ (by omega) HO17.out).mono ?_
  rintro e w18 ⟨kk, hkq, rfl, hmk, hm⟩
  have FF18 := Lib.hid (Below.mk FF17.out hm (by have := sv.out; have := s1.out; have := s2.out; omega))
  have HO18W := Lib.hid (hm.own HO17W.out (fun q hq => .inl (by have := (HWV.out.lt q hq).2; have := s1.out; have := s2.out; omega)))
  have RM := Lib.hid (Rd.own hmk)
  clear hmk hm HO17 HO17W FF17 hk0 hrc
  have HKQ := Lib.hid hkq
  clear hkq
  have hkk : ((kk : Int) != (kk : Int)) = false := by simp
  have hk0 : ¬ ((kk : Int) < 0) := by omega
  go_wp2_with (fail)
  refine (c_heldStringX _ _ _ 1 _ (by omega) RM.out).mono ?_
  rintro e w19 ⟨kk2, hk2, rfl, hb⟩
  obtain rfl : kk = kk2 := HKQ.out.trans hk2.symm
  clear hk2
  have FF19 := Lib.hid (below_chain FF18.out hb)
  have RM19 := Lib.hid (RM.out.below hb)
  have RW19 := Lib.hid ((Rd.own HO18W.out).below hb)
  clear hb RM HO18W FF18
  have k0 := cell_later FF19.out K0.out
  have k1 := cell_later FF19.out K1.out
  have k2 := cell_later FF19.out K2.out
  have k3 := cell_later FF19.out K3.out
  have k4 := cell_later FF19.out K4.out
  have k5 := cell_later FF19.out K5.out
  go_wp2_with (fail)
  refine (HT.out HOK.out _ (HW.out.below FF19.out)).mono ?_
  rintro e wz ⟨t1, t2, t3, t4, s1', s2', s3', s4', dt, rfl, hoT, hb⟩
  have Gz := Lib.hid hb
  have HOT := Lib.hid hoT
  clear hb hoT k0 k1 k2 k3 k4 k5
  go_wp2_with (fail)
  refine (HIF.out HOK.out t1 t2 t3 t4 s1' s2' s3' s4' _ HOT.out.z HOT.out.pg (KW.out.below (below_chain FF19.out Gz.out))).mono ?_
  rintro e VZ ⟨Ah, nAh, dh, rfl, hnn, ho, hb⟩
  have G3 := Lib.hid (below_chain Gz.out hb)
  have FVZ := Lib.hid (below_chain FF19.out G3.out)
  have HOH := Lib.hid ho
  have HOHn := Lib.hid hnn
  clear hb ho hnn HOT
  have hrc := HRC.out
  go_wp2_with (fail)
  refine (HEL.out _ _ _ _ _ _ _ HOHn.out HOWn.out (by have := HOHn.out; omega) (Rd.own HOH.out) (RW19.out.below G3.out)).mono ?_
  rintro e w20 ⟨rfl, hb⟩
  have FF20 := Lib.hid (below_chain FVZ.out hb)
  have RM20 := Lib.hid (RM19.out.below (below_chain G3.out hb))
  clear hb G3 Gz
  go_wp2_with (fail)
  refine (c_heldStringX _ _ _ 1 _ (by omega) RM20.out).mono ?_
  rintro e w21 ⟨kk2, hk2, rfl, hb⟩
  obtain rfl : kk = kk2 := HKQ.out.trans hk2.symm
  clear hk2
  have FF21 := Lib.hid (below_chain FF20.out hb)
  clear hb
  go_wp2_with (fail)
  go_ret
  exact ⟨rfl, below_chain B0.out FF21.out⟩
end Go.Proofs.YtackekfjalaacaaGreatDoor
