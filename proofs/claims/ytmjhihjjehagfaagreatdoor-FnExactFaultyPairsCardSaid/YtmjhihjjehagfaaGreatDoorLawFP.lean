/- The walk of the law FnExactFaultyPairs (printed by LawFP.py). Condition: the lengths; the keywords. -/
import Derived.Test.YtmjhihjjehagfaaGreatDoorPMl
namespace Go.Proofs.YtmjhihjjehagfaaGreatDoor
open Go.RowKit

theorem c_toProgram2 (nm : ByteArray) (ins vs os : List ByteArray) (gd : ByteArray) (ls : List Lin) (a1 a2 a3 a4 : Option Addr) (c1 c2 c3 c4 : Nat) (w : World) (hs : PgOk ⟨nm, ins, vs, os, gd, ls⟩) (h : PgR w a1 a2 a3 a4 ⟨nm, ins, vs, os, gd, ls⟩) :
    Calls Tryz.prog 7 #[.agg #[.string nm, .slice a1 ins.length c1, .slice a2 vs.length c2, .slice a3 os.length c3, .string gd, .slice a4 ls.length c4]] w fun e w' => ∃ p1 p2 p3 p4 q1 q2 q3 q4 ds, e = .returned (.agg #[.string nm, .slice p1 ins.length q1, .slice p2 vs.length q2, .slice p3 os.length q3, .string gd, .slice p4 ls.length q4]) ∧ POwn w' w.heap.size p1 p2 p3 p4 q1 q2 q3 q4 ⟨nm, ins, vs, os, gd, ls⟩ ds ∧ Below w.heap.size w w' :=
  c_toProgram ⟨nm, ins, vs, os, gd, ls⟩ a1 a2 a3 a4 c1 c2 c3 c4 w hs h
theorem c_toMemory2 (zs : List Int) (bs : List Bs) (a1 a2 : Option Addr) (c1 c2 : Nat) (w : World) (hs : MeOk ⟨zs, bs⟩) (h : MeR w a1 a2 ⟨zs, bs⟩) :
    Calls Tryz.prog 16 #[.agg #[.slice a1 zs.length c1, .slice a2 bs.length c2]] w fun e w' => ∃ y1 y2 e1 e2, e = .returned (.agg #[.slice y1 zs.length e1, .slice y2 bs.length e2]) ∧ MeOwn w' w.heap.size y1 y2 e1 e2 ⟨zs, bs⟩ ∧ Below w.heap.size w w' :=
  c_toMemory ⟨zs, bs⟩ a1 a2 c1 c2 w hs h
theorem POwn.z {w : World} {base : Nat} {a1 a2 a3 a4 : Option Addr} {c1 c2 c3 c4 : Nat} {p : Prg} {ds : List LiD} (h : POwn w base a1 a2 a3 a4 c1 c2 c3 c4 p ds) : PgZ a1 a2 a3 c1 c2 c3 := ⟨own_none h.i, own_none h.v, own_none h.o⟩
theorem fpV_len (p : Prg) (m : Mem) : (fpV p m).length ≤ m.bs.length := by
  unfold fpV
  split
  · exact fpK_len _ _ _
  · simp
set_option maxHeartbeats 4000000 in
set_option maxRecDepth 100000 in
theorem law_FaultyPairs (p : Prg) (m : Mem) (a1 a2 a3 a4 x1 x2 : Option Addr) (c1 c2 c3 c4 d1 d2 : Nat) (w : World) (hs : PgSz p) (hm : MeSz m) (h : PgR w a1 a2 a3 a4 p) (hx : MeR w x1 x2 m) (hk : KwR w) :
    Calls Tryz.prog 4 #[pv p a1 a2 a3 a4 c1 c2 c3 c4, mv m x1 x2 d1 d2] w fun e w' => e = .returned (.bool true) ∧ Below w.heap.size w w' := by
  have HZ := Lib.hid (fun w' h => c_szProgram p a1 a2 a3 a4 c1 c2 c3 c4 1048576 w' hs (by omega) (by omega) h)
  have HZM := Lib.hid (fun u h0 h1 w' => c_szMemory m x1 x2 d1 d2 u w' hm h0 h1)
  have HSF := Lib.hid (fun okp okm b1 b2 b3 b4 y1 y2 q1 q2 q3 q4 e1 e2 w' hz h hx => c_sFaultyPairs p m b1 b2 b3 b4 y1 y2 q1 q2 q3 q4 e1 e2 w' okp hz okm h hx)
  have HIF := Lib.hid (fun okp okm b1 b2 b3 b4 y1 y2 q1 q2 q3 q4 e1 e2 w' hz h hx hk => c_FaultyPairs p m b1 b2 b3 b4 y1 y2 q1 q2 q3 q4 e1 e2 w' okp hz okm h hx hk)
  have HEP := Lib.hid (fun okp b1 b2 b3 b4 b1' b2' b3' b4' q1 q2 q3 q4 q1' q2' q3' q4' w' h h' => c_eqProgram p b1 b2 b3 b4 b1' b2' b3' b4' q1 q2 q3 q4 q1' q2' q3' q4' w' okp h h')
  have HEM := Lib.hid (fun okm b1 b2 b1' b2' q1 q2 q1' q2' w' h h' => c_eqMemory m b1 b2 b1' b2' q1 q2 q1' q2' w' okm h h')
  have HMP := Lib.hid (fun okp b1 b2 b3 b4 q1 q2 q3 q4 ds lo hi w' h hh => c_markProgram p b1 b2 b3 b4 q1 q2 q3 q4 ds lo hi w' okp h hh)
  have HMM := Lib.hid (fun okm b1 b2 q1 q2 lo hi k w' hk h hh => c_markMemory m b1 b2 q1 q2 lo hi k w' hk okm h hh)
  have HLN := Lib.hid (fpV_len p m)
  generalize fpV p m = L at *
  generalize fpC p m = RC at *
  obtain ⟨nm, ins, vs, os, gd, ls⟩ := p
  obtain ⟨zs, bs⟩ := m
  have HT := Lib.hid (fun ok w' h => c_toProgram2 nm ins vs os gd ls a1 a2 a3 a4 c1 c2 c3 c4 w' ok h)
  have HTM := Lib.hid (fun ok w' h => c_toMemory2 zs bs x1 x2 d1 d2 w' ok h)
  have HEL := Lib.hid (fun B B' d d' n n' w' hn hn' hl h h' => c_eqInt64S B B' d d' n n' L w' hn hn' hl h h')
  have hrc : (RC != RC) = false := by simp
  have HRC := Lib.hid hrc
  dsimp only [pv, mv] at *
  have B0 := Lib.hid (below_alloc (below_alloc (Below.refl w.heap.size w) (.cells #[.string nm, .slice a1 ins.length c1, .slice a2 vs.length c2, .slice a3 os.length c3, .string gd, .slice a4 ls.length c4] 25)) (.cells #[.slice x1 zs.length d1, .slice x2 bs.length d2] 41))
  have HW := Lib.hid (h.below B0.out)
  have XW := Lib.hid (hx.below B0.out)
  have KW := Lib.hid (hk.below B0.out)
  clear hs hm h hx hk hrc
  have k0 : ((w.alloc (.cells #[.string nm, .slice a1 ins.length c1, .slice a2 vs.length c2, .slice a3 os.length c3, .string gd, .slice a4 ls.length c4] 25)).alloc (.cells #[.slice x1 zs.length d1, .slice x2 bs.length d2] 41)).cell? ⟨w.heap.size, 0, none⟩ = some (.string nm) := by go_simp
  have K0 := Lib.hid k0
  clear k0
  have k1 : ((w.alloc (.cells #[.string nm, .slice a1 ins.length c1, .slice a2 vs.length c2, .slice a3 os.length c3, .string gd, .slice a4 ls.length c4] 25)).alloc (.cells #[.slice x1 zs.length d1, .slice x2 bs.length d2] 41)).cell? ⟨w.heap.size, 1, none⟩ = some (.slice a1 ins.length c1) := by go_simp
  have K1 := Lib.hid k1
  clear k1
  have k2 : ((w.alloc (.cells #[.string nm, .slice a1 ins.length c1, .slice a2 vs.length c2, .slice a3 os.length c3, .string gd, .slice a4 ls.length c4] 25)).alloc (.cells #[.slice x1 zs.length d1, .slice x2 bs.length d2] 41)).cell? ⟨w.heap.size, 2, none⟩ = some (.slice a2 vs.length c2) := by go_simp
  have K2 := Lib.hid k2
  clear k2
  have k3 : ((w.alloc (.cells #[.string nm, .slice a1 ins.length c1, .slice a2 vs.length c2, .slice a3 os.length c3, .string gd, .slice a4 ls.length c4] 25)).alloc (.cells #[.slice x1 zs.length d1, .slice x2 bs.length d2] 41)).cell? ⟨w.heap.size, 3, none⟩ = some (.slice a3 os.length c3) := by go_simp
  have K3 := Lib.hid k3
  clear k3
  have k4 : ((w.alloc (.cells #[.string nm, .slice a1 ins.length c1, .slice a2 vs.length c2, .slice a3 os.length c3, .string gd, .slice a4 ls.length c4] 25)).alloc (.cells #[.slice x1 zs.length d1, .slice x2 bs.length d2] 41)).cell? ⟨w.heap.size, 4, none⟩ = some (.string gd) := by go_simp
  have K4 := Lib.hid k4
  clear k4
  have k5 : ((w.alloc (.cells #[.string nm, .slice a1 ins.length c1, .slice a2 vs.length c2, .slice a3 os.length c3, .string gd, .slice a4 ls.length c4] 25)).alloc (.cells #[.slice x1 zs.length d1, .slice x2 bs.length d2] 41)).cell? ⟨w.heap.size, 5, none⟩ = some (.slice a4 ls.length c4) := by go_simp
  have K5 := Lib.hid k5
  clear k5
  have y0 : ((w.alloc (.cells #[.string nm, .slice a1 ins.length c1, .slice a2 vs.length c2, .slice a3 os.length c3, .string gd, .slice a4 ls.length c4] 25)).alloc (.cells #[.slice x1 zs.length d1, .slice x2 bs.length d2] 41)).cell? ⟨w.heap.size + 1, 0, none⟩ = some (.slice x1 zs.length d1) := by go_simp
  have Y0 := Lib.hid y0
  clear y0
  have y1 : ((w.alloc (.cells #[.string nm, .slice a1 ins.length c1, .slice a2 vs.length c2, .slice a3 os.length c3, .string gd, .slice a4 ls.length c4] 25)).alloc (.cells #[.slice x1 zs.length d1, .slice x2 bs.length d2] 41)).cell? ⟨w.heap.size + 1, 1, none⟩ = some (.slice x2 bs.length d2) := by go_simp
  have Y1 := Lib.hid y1
  clear y1
  go_enter Tryz.func4, Tryz.ntmps4
  go_upto_region 2 with (fail)
  generalize (w.alloc (.cells #[.string nm, .slice a1 ins.length c1, .slice a2 vs.length c2, .slice a3 os.length c3, .string gd, .slice a4 ls.length c4] 25)).alloc (.cells #[.slice x1 zs.length d1, .slice x2 bs.length d2] 41) = W at *
  have k0 := K0.out
  have k1 := K1.out
  have k2 := K2.out
  have k3 := K3.out
  have k4 := K4.out
  have k5 := K5.out
  go_wp2_with (fail)
  refine (HZ.out _ HW.out).mono ?_
  rintro e w1 ⟨u, rfl, hu, hb⟩
  have F1 := Lib.hid hb
  clear hb k0 k1 k2 k3 k4 k5
  rcases hu with rfl | ⟨u0, u1, hok⟩
  · go_wp2_with (fail)
    go_ret
    exact ⟨rfl, below_chain B0.out F1.out⟩
  have HOK := Lib.hid hok
  have hn0 : ¬ u < 0 := by omega
  clear hok
  have y0 := cell_later F1.out Y0.out
  have y1 := cell_later F1.out Y1.out
  go_wp2_with (fail)
  refine (HZM.out u u0 u1 _).mono ?_
  rintro e w2 ⟨u2, rfl, hu, hb⟩
  have F2 := Lib.hid (below_chain F1.out hb)
  clear hb y0 y1 hn0 u0 u1 F1
  rcases hu with rfl | ⟨u3, u4, hok⟩
  · go_wp2_with (fail)
    go_ret
    exact ⟨rfl, below_chain B0.out F2.out⟩
  have HMK := Lib.hid hok
  have hn0 : ¬ u2 < 0 := by omega
  have hbl := hok.b
  have hll : L.length ≤ 1048576 := Nat.le_trans HLN.out hok.b
  clear hok HLN HZ HZM u3 u4 hbl
  go_upto_region 8 with (fail)
  clear hn0
  have k0 := cell_later F2.out K0.out
  have k1 := cell_later F2.out K1.out
  have k2 := cell_later F2.out K2.out
  have k3 := cell_later F2.out K3.out
  have k4 := cell_later F2.out K4.out
  have k5 := cell_later F2.out K5.out
  have y0 := cell_later F2.out Y0.out
  have y1 := cell_later F2.out Y1.out
  refine wp_region_held_drew (S := (fun w' => w'.cell? ⟨w.heap.size, 0, none⟩ = some (.string nm) ∧ w'.cell? ⟨w.heap.size, 1, none⟩ = some (.slice a1 ins.length c1) ∧ w'.cell? ⟨w.heap.size, 2, none⟩ = some (.slice a2 vs.length c2) ∧ w'.cell? ⟨w.heap.size, 3, none⟩ = some (.slice a3 os.length c3) ∧ w'.cell? ⟨w.heap.size, 4, none⟩ = some (.string gd) ∧ w'.cell? ⟨w.heap.size, 5, none⟩ = some (.slice a4 ls.length c4) ∧ w'.cell? ⟨w.heap.size + 1, 0, none⟩ = some (.slice x1 zs.length d1) ∧ w'.cell? ⟨w.heap.size + 1, 1, none⟩ = some (.slice x2 bs.length d2))) (by kernel_rfl) ?_ (fun hHeld => ?_)
  · exact ⟨k0, k1, k2, k3, k4, k5, y0, y1⟩
  refine rg_take (v := ?_) 0 rfl (by kernel_rfl) (by kernel_rfl) (by kernel_rfl) (fun _ _ _ h => h) (by kernel_rfl) ?_ (by assumption) ?_
  rotate_left
  · (intro w' hSw; (try dsimp only at hSw); go_simp; first | done | with_reducible rfl)
  simp only [Act.put, List.setIfInBounds_toArray, List.set_cons_zero, List.set_cons_succ]
  refine rg_take (v := ?_) 2 rfl (by kernel_rfl) (by kernel_rfl) (by kernel_rfl) (fun _ _ _ h => h) (by kernel_rfl) ?_ (by assumption) ?_
  rotate_left
  · (intro w' hSw; (try dsimp only at hSw); go_simp; first | done | with_reducible rfl)
  simp only [Act.put, List.setIfInBounds_toArray, List.set_cons_zero, List.set_cons_succ]
  refine rg_run 1 rfl (by kernel_rfl) (by kernel_rfl) (fun K hK => ?_)
  go_simp
  refine (HT.out HOK.out _ ((HW.out.below F2.out).below (Below.refl _ _).drew)).mono ?_
  rintro e Va ⟨t1, t2, t3, t4, s1, s2, s3, s4, dt, rfl, hoT, hb⟩
  have G1 := Lib.hid (below_chain (Below.refl w2.heap.size w2).drew hb : Below w2.heap.size w2 Va)
  have HOT := Lib.hid hoT
  clear hb hoT
  go_wp2
  have hbs := G1.out
  clear hHeld
  refine hK.out _ _ (⟨cell_later hbs k0, cell_later hbs k1, cell_later hbs k2, cell_later hbs k3, cell_later hbs k4, cell_later hbs k5, cell_later hbs y0, cell_later hbs y1⟩) (fun hHeld => ?_)
  clear hK K
  try simp only [Act.put, List.setIfInBounds_toArray, List.set_cons_zero, List.set_cons_succ]
  clear hbs
  refine rg_run 3 rfl (by kernel_rfl) (by kernel_rfl) (fun K hK => ?_)
  go_simp
  refine (HTM.out HMK.out _ (XW.out.below (below_chain F2.out G1.out))).mono ?_
  rintro e Vb ⟨v1, v2, f1, f2, rfl, hoM, hb⟩
  have G2 := Lib.hid (below_chain G1.out hb)
  have HOT2 := Lib.hid (HOT.out.below hb)
  have HOM := Lib.hid hoM
  clear hb hoM
  go_wp2
  have hbs := G2.out
  clear hHeld
  refine hK.out _ _ (⟨cell_later hbs k0, cell_later hbs k1, cell_later hbs k2, cell_later hbs k3, cell_later hbs k4, cell_later hbs k5, cell_later hbs y0, cell_later hbs y1⟩) (fun hHeld => ?_)
  clear hK K
  try simp only [Act.put, List.setIfInBounds_toArray, List.set_cons_zero, List.set_cons_succ]
  clear hbs
  refine rg_run 4 rfl (by kernel_rfl) (by kernel_rfl) (fun K hK => ?_)
  go_simp
  refine (HSF.out HOK.out HMK.out t1 t2 t3 t4 v1 v2 s1 s2 s3 s4 f1 f2 _ HOT2.out.z HOT2.out.pg HOM.out.rd).mono ?_
  rintro e V ⟨Aw, nAw, dw, rfl, hnn, ho, hb⟩
  have G3 := Lib.hid (below_chain G2.out hb)
  have HOW := Lib.hid ho
  have HOWn := Lib.hid hnn
  clear hb ho hnn
  go_wp2
  have hbs := G3.out
  clear hHeld
  refine hK.out _ _ (⟨cell_later hbs k0, cell_later hbs k1, cell_later hbs k2, cell_later hbs k3, cell_later hbs k4, cell_later hbs k5, cell_later hbs y0, cell_later hbs y1⟩) (fun hHeld => ?_)
  clear hK K
  try simp only [Act.put, List.setIfInBounds_toArray, List.set_cons_zero, List.set_cons_succ]
  clear hbs
  refine rg_take (v := ?_) 5 rfl (by kernel_rfl) (by kernel_rfl) (by kernel_rfl) (fun _ _ _ h => h) (by kernel_rfl) ?_ (by assumption) ?_
  rotate_left
  · (intro w' hSw; (try dsimp only at hSw); go_simp; first | done | with_reducible rfl)
  simp only [Act.put, List.setIfInBounds_toArray, List.set_cons_zero, List.set_cons_succ]
  refine rg_take (v := ?_) 6 rfl (by kernel_rfl) (by kernel_rfl) (by kernel_rfl) (fun _ _ _ h => h) (by kernel_rfl) ?_ (by assumption) ?_
  rotate_left
  · (intro w' hSw; (try dsimp only at hSw); go_simp; first | done | with_reducible rfl)
  simp only [Act.put, List.setIfInBounds_toArray, List.set_cons_zero, List.set_cons_succ]
  refine rg_take (v := ?_) 7 rfl (by kernel_rfl) (by kernel_rfl) (by kernel_rfl) (fun _ _ _ h => h) (by kernel_rfl) ?_ (by assumption) ?_
  rotate_left
  · (intro w' hSw; (try dsimp only at hSw); go_simp; first | done | with_reducible rfl)
  simp only [Act.put, List.setIfInBounds_toArray, List.set_cons_zero, List.set_cons_succ]
  refine rg_take (v := ?_) 8 rfl (by kernel_rfl) (by kernel_rfl) (by kernel_rfl) (fun _ _ _ h => h) (by kernel_rfl) ?_ (by assumption) ?_
  rotate_left
  · (intro w' hSw; (try dsimp only at hSw); go_simp; first | done | with_reducible rfl)
  simp only [Act.put, List.setIfInBounds_toArray, List.set_cons_zero, List.set_cons_succ]
  refine rg_take (v := ?_) 9 rfl (by kernel_rfl) (by kernel_rfl) (by kernel_rfl) (fun _ _ _ h => h) (by kernel_rfl) ?_ (by assumption) ?_
  rotate_left
  · (intro w' hSw; (try dsimp only at hSw); go_simp; first | done | with_reducible rfl)
  simp only [Act.put, List.setIfInBounds_toArray, List.set_cons_zero, List.set_cons_succ]
  refine wpAnyH_done (by kernel_rfl) ?_ _
  clear hHeld
  have FV := Lib.hid (below_chain F2.out G3.out)
  clear HOT HOT2 HOM k0 k1 k2 k3 k4 k5 y0 y1
  have HWV := Lib.hid HOW.out
  have RWV := Lib.hid (Rd.own HOW.out)
  clear G1 G2 G3 HOW F2 HSF
  have k0 := cell_later FV.out K0.out
  have k1 := cell_later FV.out K1.out
  have k2 := cell_later FV.out K2.out
  have k3 := cell_later FV.out K3.out
  have k4 := cell_later FV.out K4.out
  have k5 := cell_later FV.out K5.out
  go_wp2_with (fail)
  refine (HT.out HOK.out _ (HW.out.below FV.out)).mono ?_
  rintro e w9 ⟨p1, p2, p3, p4, q1, q2, q3, q4, ds, rfl, ho, hb⟩
  clear k0 k1 k2 k3 k4 k5
  have hal := below_alloc (Below.refl w9.heap.size w9) (.cells #[.string nm, .slice p1 ins.length q1, .slice p2 vs.length q2, .slice p3 os.length q3, .string gd, .slice p4 ls.length q4] 32)
  have s1 := Lib.hid (show V.heap.size ≤ w9.heap.size from hb.size)
  have POL := Lib.hid ((ho.toL HOK.out).below hal)
  have PRD := Lib.hid ((ho.below hal).pg)
  have PZ := Lib.hid ho.z
  have FA := Lib.hid (below_chain hb hal)
  clear ho hb
  have o0 : (w9.alloc (.cells #[.string nm, .slice p1 ins.length q1, .slice p2 vs.length q2, .slice p3 os.length q3, .string gd, .slice p4 ls.length q4] 32)).cell? ⟨w9.heap.size, 0, none⟩ = some (.string nm) := by go_simp
  have O0 := Lib.hid o0
  clear o0
  have o1 : (w9.alloc (.cells #[.string nm, .slice p1 ins.length q1, .slice p2 vs.length q2, .slice p3 os.length q3, .string gd, .slice p4 ls.length q4] 32)).cell? ⟨w9.heap.size, 1, none⟩ = some (.slice p1 ins.length q1) := by go_simp
  have O1 := Lib.hid o1
  clear o1
  have o2 : (w9.alloc (.cells #[.string nm, .slice p1 ins.length q1, .slice p2 vs.length q2, .slice p3 os.length q3, .string gd, .slice p4 ls.length q4] 32)).cell? ⟨w9.heap.size, 2, none⟩ = some (.slice p2 vs.length q2) := by go_simp
  have O2 := Lib.hid o2
  clear o2
  have o3 : (w9.alloc (.cells #[.string nm, .slice p1 ins.length q1, .slice p2 vs.length q2, .slice p3 os.length q3, .string gd, .slice p4 ls.length q4] 32)).cell? ⟨w9.heap.size, 3, none⟩ = some (.slice p3 os.length q3) := by go_simp
  have O3 := Lib.hid o3
  clear o3
  have o4 : (w9.alloc (.cells #[.string nm, .slice p1 ins.length q1, .slice p2 vs.length q2, .slice p3 os.length q3, .string gd, .slice p4 ls.length q4] 32)).cell? ⟨w9.heap.size, 4, none⟩ = some (.string gd) := by go_simp
  have O4 := Lib.hid o4
  clear o4
  have o5 : (w9.alloc (.cells #[.string nm, .slice p1 ins.length q1, .slice p2 vs.length q2, .slice p3 os.length q3, .string gd, .slice p4 ls.length q4] 32)).cell? ⟨w9.heap.size, 5, none⟩ = some (.slice p4 ls.length q4) := by go_simp
  have O5 := Lib.hid o5
  clear o5
  have s2 := Lib.hid (show w9.heap.size < (w9.alloc (.cells #[.string nm, .slice p1 ins.length q1, .slice p2 vs.length q2, .slice p3 os.length q3, .string gd, .slice p4 ls.length q4] 32)).heap.size by simp)
  clear hal
  go_upto_region 10 with (fail)
  generalize w9.alloc (.cells #[.string nm, .slice p1 ins.length q1, .slice p2 vs.length q2, .slice p3 os.length q3, .string gd, .slice p4 ls.length q4] 32) = V9 at *
  have FB := Lib.hid (below_chain FV.out FA.out)
  have y0 := cell_later FB.out Y0.out
  have y1 := cell_later FB.out Y1.out
  go_wp2_with (fail)
  refine (HTM.out HMK.out _ (XW.out.below FB.out)).mono ?_
  rintro e w10 ⟨y1', y2', e1, e2, rfl, ho, hb⟩
  clear y0 y1
  have hal := below_alloc (Below.refl w10.heap.size w10) (.cells #[.slice y1' zs.length e1, .slice y2' bs.length e2] 46)
  have s3 := Lib.hid (show V9.heap.size ≤ w10.heap.size from hb.size)
  have MOL := Lib.hid (ho.toL.below hal)
  have MRD := Lib.hid ((ho.below hal).rd)
  have FC := Lib.hid (below_chain hb hal)
  clear ho hb
  have r0 : (w10.alloc (.cells #[.slice y1' zs.length e1, .slice y2' bs.length e2] 46)).cell? ⟨w10.heap.size, 0, none⟩ = some (.slice y1' zs.length e1) := by go_simp
  have R0 := Lib.hid r0
  clear r0
  have r1 : (w10.alloc (.cells #[.slice y1' zs.length e1, .slice y2' bs.length e2] 46)).cell? ⟨w10.heap.size, 1, none⟩ = some (.slice y2' bs.length e2) := by go_simp
  have R1 := Lib.hid r1
  clear r1
  have s4 := Lib.hid (show w10.heap.size < (w10.alloc (.cells #[.slice y1' zs.length e1, .slice y2' bs.length e2] 46)).heap.size by simp)
  clear hal
  go_upto_region 11 with (fail)
  generalize w10.alloc (.cells #[.slice y1' zs.length e1, .slice y2' bs.length e2] 46) = VA at *
  have FD := Lib.hid (below_chain FB.out FC.out)
  have o0 := cell_later FC.out O0.out
  have o1 := cell_later FC.out O1.out
  have o2 := cell_later FC.out O2.out
  have o3 := cell_later FC.out O3.out
  have o4 := cell_later FC.out O4.out
  have o5 := cell_later FC.out O5.out
  have r0 := R0.out
  have r1 := R1.out
  go_wp2_with (fail)
  refine (HIF.out HOK.out HMK.out p1 p2 p3 p4 y1' y2' q1 q2 q3 q4 e1 e2 _ PZ.out (PRD.out.below FC.out) MRD.out (KW.out.below FD.out)).mono ?_
  rintro e w11 ⟨Ag, ng, dg, rfl, hng, hog, hb⟩
  have F11 := Lib.hid (below_chain FD.out hb)
  have E11 := Lib.hid hb
  have HOG := Lib.hid hog
  have HNG := Lib.hid hng
  clear hb hog hng o0 o1 o2 o3 o4 o5 r0 r1
  have hrc := HRC.out
  have RW11 := Lib.hid ((RWV.out.below FA.out).below (below_chain FC.out E11.out))
  go_wp2_with (fail)
  refine (HEL.out _ _ _ _ _ _ _ HNG.out HOWn.out (by omega) (Rd.own HOG.out) RW11.out).mono ?_
  rintro e w12 ⟨rfl, hb⟩
  have E12 := Lib.hid (below_chain E11.out hb)
  have HO12 := Lib.hid (own_below HOG.out hb)
  clear hb RW11 HOG F11
  go_upto_region 14 with (fail)
  clear hrc
  have o0 := cell_later (below_chain FC.out E12.out) O0.out
  have o1 := cell_later (below_chain FC.out E12.out) O1.out
  have o2 := cell_later (below_chain FC.out E12.out) O2.out
  have o3 := cell_later (below_chain FC.out E12.out) O3.out
  have o4 := cell_later (below_chain FC.out E12.out) O4.out
  have o5 := cell_later (below_chain FC.out E12.out) O5.out
  have FF := Lib.hid (below_chain FD.out E12.out)
  have k0 := cell_later FF.out K0.out
  have k1 := cell_later FF.out K1.out
  have k2 := cell_later FF.out K2.out
  have k3 := cell_later FF.out K3.out
  have k4 := cell_later FF.out K4.out
  have k5 := cell_later FF.out K5.out
  refine wp_region_held_drew (S := (fun w' => w'.cell? ⟨w9.heap.size, 0, none⟩ = some (.string nm) ∧ w'.cell? ⟨w9.heap.size, 1, none⟩ = some (.slice p1 ins.length q1) ∧ w'.cell? ⟨w9.heap.size, 2, none⟩ = some (.slice p2 vs.length q2) ∧ w'.cell? ⟨w9.heap.size, 3, none⟩ = some (.slice p3 os.length q3) ∧ w'.cell? ⟨w9.heap.size, 4, none⟩ = some (.string gd) ∧ w'.cell? ⟨w9.heap.size, 5, none⟩ = some (.slice p4 ls.length q4) ∧ w'.cell? ⟨w.heap.size, 0, none⟩ = some (.string nm) ∧ w'.cell? ⟨w.heap.size, 1, none⟩ = some (.slice a1 ins.length c1) ∧ w'.cell? ⟨w.heap.size, 2, none⟩ = some (.slice a2 vs.length c2) ∧ w'.cell? ⟨w.heap.size, 3, none⟩ = some (.slice a3 os.length c3) ∧ w'.cell? ⟨w.heap.size, 4, none⟩ = some (.string gd) ∧ w'.cell? ⟨w.heap.size, 5, none⟩ = some (.slice a4 ls.length c4))) (by kernel_rfl) ?_ (fun hHeld => ?_)
  · exact ⟨o0, o1, o2, o3, o4, o5, k0, k1, k2, k3, k4, k5⟩
  refine rg_take (v := ?_) 0 rfl (by kernel_rfl) (by kernel_rfl) (by kernel_rfl) (fun _ _ _ h => h) (by kernel_rfl) ?_ (by assumption) ?_
  rotate_left
  · (intro w' hSw; (try dsimp only at hSw); go_simp; first | done | with_reducible rfl)
  simp only [Act.put, List.setIfInBounds_toArray, List.set_cons_zero, List.set_cons_succ]
  refine rg_take (v := ?_) 1 rfl (by kernel_rfl) (by kernel_rfl) (by kernel_rfl) (fun _ _ _ h => h) (by kernel_rfl) ?_ (by assumption) ?_
  rotate_left
  · (intro w' hSw; (try dsimp only at hSw); go_simp; first | done | with_reducible rfl)
  simp only [Act.put, List.setIfInBounds_toArray, List.set_cons_zero, List.set_cons_succ]
  refine rg_run 2 rfl (by kernel_rfl) (by kernel_rfl) (fun K hK => ?_)
  go_simp
  refine (HT.out HOK.out _ ((HW.out.below FF.out).below (Below.refl _ _).drew)).mono ?_
  rintro e w13a ⟨t1, t2, t3, t4, s1', s2', s3', s4', dt, rfl, ho, hb⟩
  have G1 := Lib.hid (below_chain (Below.refl w12.heap.size w12).drew hb : Below w12.heap.size w12 w13a)
  have HOX := Lib.hid ho
  clear hb ho
  go_wp2
  have hbs := G1.out
  clear hHeld
  refine hK.out _ _ (⟨cell_later hbs o0, cell_later hbs o1, cell_later hbs o2, cell_later hbs o3, cell_later hbs o4, cell_later hbs o5, cell_later hbs k0, cell_later hbs k1, cell_later hbs k2, cell_later hbs k3, cell_later hbs k4, cell_later hbs k5⟩) (fun hHeld => ?_)
  clear hK K
  try simp only [Act.put, List.setIfInBounds_toArray, List.set_cons_zero, List.set_cons_succ]
  clear hbs
  refine rg_run 3 rfl (by kernel_rfl) (by kernel_rfl) (fun K hK => ?_)
  go_simp
  refine (HEP.out HOK.out _ _ _ _ _ _ _ _ _ _ _ _ _ _ _ _ _ (PRD.out.below (below_chain FC.out (below_chain E12.out G1.out))) HOX.out.pg).mono ?_
  rintro e w13 ⟨rfl, hb⟩
  have G2 := Lib.hid (below_chain G1.out hb)
  clear hb
  go_wp2
  have hbs := G2.out
  clear hHeld
  refine hK.out _ _ (⟨cell_later hbs o0, cell_later hbs o1, cell_later hbs o2, cell_later hbs o3, cell_later hbs o4, cell_later hbs o5, cell_later hbs k0, cell_later hbs k1, cell_later hbs k2, cell_later hbs k3, cell_later hbs k4, cell_later hbs k5⟩) (fun hHeld => ?_)
  clear hK K
  try simp only [Act.put, List.setIfInBounds_toArray, List.set_cons_zero, List.set_cons_succ]
  clear hbs
  refine rg_take (v := ?_) 4 rfl (by kernel_rfl) (by kernel_rfl) (by kernel_rfl) (fun _ _ _ h => h) (by kernel_rfl) ?_ (by assumption) ?_
  rotate_left
  · (intro w' hSw; (try dsimp only at hSw); go_simp; first | done | with_reducible rfl)
  simp only [Act.put, List.setIfInBounds_toArray, List.set_cons_zero, List.set_cons_succ]
  refine wpAnyH_done (by kernel_rfl) ?_ _
  clear hHeld
  have HO13 := Lib.hid (own_below HO12.out G2.out)
  have Ew13 := Lib.hid (below_chain E12.out G2.out)
  clear HOX G1 G2 FF o0 o1 o2 o3 o4 o5 k0 k1 k2 k3 k4 k5 HO12
  go_upto_region 16 with (fail)
  have r0 := cell_later Ew13.out R0.out
  have r1 := cell_later Ew13.out R1.out
  have FF := Lib.hid (below_chain FD.out Ew13.out)
  have y0 := cell_later FF.out Y0.out
  have y1 := cell_later FF.out Y1.out
  refine wp_region_held_drew (S := (fun w' => w'.cell? ⟨w10.heap.size, 0, none⟩ = some (.slice y1' zs.length e1) ∧ w'.cell? ⟨w10.heap.size, 1, none⟩ = some (.slice y2' bs.length e2) ∧ w'.cell? ⟨w.heap.size + 1, 0, none⟩ = some (.slice x1 zs.length d1) ∧ w'.cell? ⟨w.heap.size + 1, 1, none⟩ = some (.slice x2 bs.length d2))) (by kernel_rfl) ?_ (fun hHeld => ?_)
  · exact ⟨r0, r1, y0, y1⟩
  refine rg_take (v := ?_) 0 rfl (by kernel_rfl) (by kernel_rfl) (by kernel_rfl) (fun _ _ _ h => h) (by kernel_rfl) ?_ (by assumption) ?_
  rotate_left
  · (intro w' hSw; (try dsimp only at hSw); go_simp; first | done | with_reducible rfl)
  simp only [Act.put, List.setIfInBounds_toArray, List.set_cons_zero, List.set_cons_succ]
  refine rg_take (v := ?_) 1 rfl (by kernel_rfl) (by kernel_rfl) (by kernel_rfl) (fun _ _ _ h => h) (by kernel_rfl) ?_ (by assumption) ?_
  rotate_left
  · (intro w' hSw; (try dsimp only at hSw); go_simp; first | done | with_reducible rfl)
  simp only [Act.put, List.setIfInBounds_toArray, List.set_cons_zero, List.set_cons_succ]
  refine rg_run 2 rfl (by kernel_rfl) (by kernel_rfl) (fun K hK => ?_)
  go_simp
  refine (HTM.out HMK.out _ ((XW.out.below FF.out).below (Below.refl _ _).drew)).mono ?_
  rintro e w14a ⟨v1, v2, f1, f2, rfl, ho, hb⟩
  have G1 := Lib.hid (below_chain (Below.refl w13.heap.size w13).drew hb : Below w13.heap.size w13 w14a)
  have HOX := Lib.hid ho
  clear hb ho
  go_wp2
  have hbs := G1.out
  clear hHeld
  refine hK.out _ _ (⟨cell_later hbs r0, cell_later hbs r1, cell_later hbs y0, cell_later hbs y1⟩) (fun hHeld => ?_)
  clear hK K
  try simp only [Act.put, List.setIfInBounds_toArray, List.set_cons_zero, List.set_cons_succ]
  clear hbs
  refine rg_run 3 rfl (by kernel_rfl) (by kernel_rfl) (fun K hK => ?_)
  go_simp
  refine (HEM.out HMK.out _ _ _ _ _ _ _ _ _ (MRD.out.below (below_chain Ew13.out G1.out)) HOX.out.rd).mono ?_
  rintro e w14 ⟨rfl, hb⟩
  have G2 := Lib.hid (below_chain G1.out hb)
  clear hb
  go_wp2
  have hbs := G2.out
  clear hHeld
  refine hK.out _ _ (⟨cell_later hbs r0, cell_later hbs r1, cell_later hbs y0, cell_later hbs y1⟩) (fun hHeld => ?_)
  clear hK K
  try simp only [Act.put, List.setIfInBounds_toArray, List.set_cons_zero, List.set_cons_succ]
  clear hbs
  refine rg_take (v := ?_) 4 rfl (by kernel_rfl) (by kernel_rfl) (by kernel_rfl) (fun _ _ _ h => h) (by kernel_rfl) ?_ (by assumption) ?_
  rotate_left
  · (intro w' hSw; (try dsimp only at hSw); go_simp; first | done | with_reducible rfl)
  simp only [Act.put, List.setIfInBounds_toArray, List.set_cons_zero, List.set_cons_succ]
  refine wpAnyH_done (by kernel_rfl) ?_ _
  clear hHeld
  have HO14 := Lib.hid (own_below HO13.out G2.out)
  have Ew14 := Lib.hid (below_chain Ew13.out G2.out)
  clear HOX G1 G2 FF r0 r1 y0 y1 HO13
  have POL2 := Lib.hid (POL.out.below (below_chain FC.out Ew14.out))
  have MOL2 := Lib.hid (MOL.out.below Ew14.out)
  have o0 := cell_later (below_chain FC.out Ew14.out) O0.out
  have o1 := cell_later (below_chain FC.out Ew14.out) O1.out
  have o2 := cell_later (below_chain FC.out Ew14.out) O2.out
  have o3 := cell_later (below_chain FC.out Ew14.out) O3.out
  have o4 := cell_later (below_chain FC.out Ew14.out) O4.out
  have o5 := cell_later (below_chain FC.out Ew14.out) O5.out
  have r0 := cell_later Ew14.out R0.out
  have r1 := cell_later Ew14.out R1.out
  have HO14W := Lib.hid (own_below (own_below HWV.out FA.out) (below_chain FC.out Ew14.out))
  have FF := Lib.hid (below_chain FD.out Ew14.out)
  have sv := Lib.hid (show W.heap.size ≤ V.heap.size from FV.out.size)
  have se := Lib.hid (show VA.heap.size ≤ w14.heap.size from Ew14.out.size)
  clear O0 O1 O2 O3 O4 O5 R0 R1 POL MOL FC FB FA FD E11 E12 Ew13 Ew14 RWV HEP HEM PRD MRD PZ
  go_wp2_with (fail)
  refine (HMP.out HOK.out _ _ _ _ _ _ _ _ _ V.heap.size w9.heap.size _ POL2.out (by have := s2.out; have := s3.out; have := s4.out; have := se.out; omega)).mono ?_
  rintro e w15 ⟨k15, hk15, rfl, hm⟩
  have r0' := hm.cell r0 (.inr (by have := s2.out; have := s3.out; dsimp only; omega))
  have r1' := hm.cell r1 (.inr (by have := s2.out; have := s3.out; dsimp only; omega))
  have MOL3 := Lib.hid (MOL2.out.mkk hm)
  have HO15 := Lib.hid (hm.ownHi HO14.out (by have := s2.out; have := s3.out; have := s4.out; omega))
  have HO15W := Lib.hid (hm.own HO14W.out (fun q hq => .inl (HWV.out.lt q hq).2))
  have FF15 := Lib.hid (Below.mk FF.out hm sv.out)
  have s15 := Lib.hid (show w14.heap.size ≤ w15.heap.size from hm.size)
  clear hm o0 o1 o2 o3 o4 o5 r0 r1 POL2 MOL2 HO14 HO14W FF
  go_wp2_with (fail)
  refine (HMM.out HMK.out _ _ _ _ V9.heap.size w10.heap.size k15 _ hk15 MOL3.out (by have := s4.out; have := se.out; have := s15.out; omega)).mono ?_
  rintro e w16 ⟨k16, hk16, rfl, hm⟩
  have HO16 := Lib.hid (hm.ownHi HO15.out (by have := s4.out; omega))
  have HO16W := Lib.hid (hm.own HO15W.out (fun q hq => .inl (by have := (HWV.out.lt q hq).2; have := s1.out; have := s2.out; omega)))
  have FF16 := Lib.hid (Below.mk FF15.out hm (by have := sv.out; have := s1.out; have := s2.out; omega))
  clear hm r0' r1' MOL3 HO15 HO15W FF15
  have hk0 : ¬ ((k16 : Int) < 0) := by omega
  have hrc := HRC.out
  go_wp2_with (fail)
  refine (HEL.out _ _ _ _ _ _ _ HNG.out HOWn.out (by omega) (Rd.own HO16.out) (Rd.own HO16W.out)).mono ?_
  rintro e w17 ⟨rfl, hb⟩
  have HO17 := Lib.hid (own_below HO16.out hb)
  have HO17W := Lib.hid (own_below HO16W.out hb)
  have FF17 := Lib.hid (below_chain FF16.out hb)
  have hgn : ng ≤ 1048576 := by have := HNG.out; omega
  clear hb HO16 HO16W FF16
  go_wp2_with (fail)
  refine (c_markInt64S _ _ _ _ _ 1 _ (by omega) (by omega) HO17.out).mono ?_
  rintro e w18 ⟨rfl, hmk, hg⟩
  have hm := Mk.of_grown hg HO17.out ⟨_, hmk⟩
  have FF18 := Lib.hid (Below.mk FF17.out hm (by have := sv.out; have := s1.out; have := s2.out; have := s3.out; have := s4.out; omega))
  have HO18W := Lib.hid (hm.own HO17W.out (fun q hq => .inl (by have := (HWV.out.lt q hq).2; have := s1.out; have := s2.out; have := s3.out; have := s4.out; omega)))
  have RM := Lib.hid (Rd.own hmk)
  clear hg hmk hm HO17 HO17W FF17 hk0 hrc
  have hkk : (((1 : Int) + (ng : Int)) != ((1 : Int) + (ng : Int))) = false := by simp
  have hk0 : ¬ ((1 : Int) + (ng : Int) < 0) := by omega
  go_wp2_with (fail)
  refine (c_heldInt64S _ _ _ 1 _ (by omega) (by omega) RM.out).mono ?_
  rintro e w19 ⟨rfl, hb⟩
  have FF19 := Lib.hid (below_chain FF18.out hb)
  have RM19 := Lib.hid (RM.out.below hb)
  have RW19 := Lib.hid ((Rd.own HO18W.out).below hb)
  clear hb RM HO18W FF18
  go_upto_region 31 with (fail)
  have k0 := cell_later FF19.out K0.out
  have k1 := cell_later FF19.out K1.out
  have k2 := cell_later FF19.out K2.out
  have k3 := cell_later FF19.out K3.out
  have k4 := cell_later FF19.out K4.out
  have k5 := cell_later FF19.out K5.out
  have y0 := cell_later FF19.out Y0.out
  have y1 := cell_later FF19.out Y1.out
  refine wp_region_held_drew (S := (fun w' => w'.cell? ⟨w.heap.size, 0, none⟩ = some (.string nm) ∧ w'.cell? ⟨w.heap.size, 1, none⟩ = some (.slice a1 ins.length c1) ∧ w'.cell? ⟨w.heap.size, 2, none⟩ = some (.slice a2 vs.length c2) ∧ w'.cell? ⟨w.heap.size, 3, none⟩ = some (.slice a3 os.length c3) ∧ w'.cell? ⟨w.heap.size, 4, none⟩ = some (.string gd) ∧ w'.cell? ⟨w.heap.size, 5, none⟩ = some (.slice a4 ls.length c4) ∧ w'.cell? ⟨w.heap.size + 1, 0, none⟩ = some (.slice x1 zs.length d1) ∧ w'.cell? ⟨w.heap.size + 1, 1, none⟩ = some (.slice x2 bs.length d2))) (by kernel_rfl) ?_ (fun hHeld => ?_)
  · exact ⟨k0, k1, k2, k3, k4, k5, y0, y1⟩
  refine rg_take (v := ?_) 0 rfl (by kernel_rfl) (by kernel_rfl) (by kernel_rfl) (fun _ _ _ h => h) (by kernel_rfl) ?_ (by assumption) ?_
  rotate_left
  · (intro w' hSw; (try dsimp only at hSw); go_simp; first | done | with_reducible rfl)
  simp only [Act.put, List.setIfInBounds_toArray, List.set_cons_zero, List.set_cons_succ]
  refine rg_take (v := ?_) 2 rfl (by kernel_rfl) (by kernel_rfl) (by kernel_rfl) (fun _ _ _ h => h) (by kernel_rfl) ?_ (by assumption) ?_
  rotate_left
  · (intro w' hSw; (try dsimp only at hSw); go_simp; first | done | with_reducible rfl)
  simp only [Act.put, List.setIfInBounds_toArray, List.set_cons_zero, List.set_cons_succ]
  refine rg_run 1 rfl (by kernel_rfl) (by kernel_rfl) (fun K hK => ?_)
  go_simp
  refine (HT.out HOK.out _ ((HW.out.below FF19.out).below (Below.refl _ _).drew)).mono ?_
  rintro e VZa ⟨t1, t2, t3, t4, s1, s2, s3, s4, dt, rfl, hoT, hb⟩
  have G1 := Lib.hid (below_chain (Below.refl w19.heap.size w19).drew hb : Below w19.heap.size w19 VZa)
  have HOT := Lib.hid hoT
  clear hb hoT
  go_wp2
  have hbs := G1.out
  clear hHeld
  refine hK.out _ _ (⟨cell_later hbs k0, cell_later hbs k1, cell_later hbs k2, cell_later hbs k3, cell_later hbs k4, cell_later hbs k5, cell_later hbs y0, cell_later hbs y1⟩) (fun hHeld => ?_)
  clear hK K
  try simp only [Act.put, List.setIfInBounds_toArray, List.set_cons_zero, List.set_cons_succ]
  clear hbs
  refine rg_run 3 rfl (by kernel_rfl) (by kernel_rfl) (fun K hK => ?_)
  go_simp
  refine (HTM.out HMK.out _ (XW.out.below (below_chain FF19.out G1.out))).mono ?_
  rintro e VZb ⟨v1, v2, f1, f2, rfl, hoM, hb⟩
  have G2 := Lib.hid (below_chain G1.out hb)
  have HOT2 := Lib.hid (HOT.out.below hb)
  have HOM := Lib.hid hoM
  clear hb hoM
  go_wp2
  have hbs := G2.out
  clear hHeld
  refine hK.out _ _ (⟨cell_later hbs k0, cell_later hbs k1, cell_later hbs k2, cell_later hbs k3, cell_later hbs k4, cell_later hbs k5, cell_later hbs y0, cell_later hbs y1⟩) (fun hHeld => ?_)
  clear hK K
  try simp only [Act.put, List.setIfInBounds_toArray, List.set_cons_zero, List.set_cons_succ]
  clear hbs
  refine rg_run 4 rfl (by kernel_rfl) (by kernel_rfl) (fun K hK => ?_)
  go_simp
  refine (HIF.out HOK.out HMK.out t1 t2 t3 t4 v1 v2 s1 s2 s3 s4 f1 f2 _ HOT2.out.z HOT2.out.pg HOM.out.rd (KW.out.below (below_chain FF19.out G2.out))).mono ?_
  rintro e VZ ⟨Ah, nAh, dh, rfl, hnn, ho, hb⟩
  have G3 := Lib.hid (below_chain G2.out hb)
  have HOH := Lib.hid ho
  have HOHn := Lib.hid hnn
  clear hb ho hnn
  go_wp2
  have hbs := G3.out
  clear hHeld
  refine hK.out _ _ (⟨cell_later hbs k0, cell_later hbs k1, cell_later hbs k2, cell_later hbs k3, cell_later hbs k4, cell_later hbs k5, cell_later hbs y0, cell_later hbs y1⟩) (fun hHeld => ?_)
  clear hK K
  try simp only [Act.put, List.setIfInBounds_toArray, List.set_cons_zero, List.set_cons_succ]
  clear hbs
  refine rg_take (v := ?_) 5 rfl (by kernel_rfl) (by kernel_rfl) (by kernel_rfl) (fun _ _ _ h => h) (by kernel_rfl) ?_ (by assumption) ?_
  rotate_left
  · (intro w' hSw; (try dsimp only at hSw); go_simp; first | done | with_reducible rfl)
  simp only [Act.put, List.setIfInBounds_toArray, List.set_cons_zero, List.set_cons_succ]
  refine rg_take (v := ?_) 6 rfl (by kernel_rfl) (by kernel_rfl) (by kernel_rfl) (fun _ _ _ h => h) (by kernel_rfl) ?_ (by assumption) ?_
  rotate_left
  · (intro w' hSw; (try dsimp only at hSw); go_simp; first | done | with_reducible rfl)
  simp only [Act.put, List.setIfInBounds_toArray, List.set_cons_zero, List.set_cons_succ]
  refine rg_take (v := ?_) 7 rfl (by kernel_rfl) (by kernel_rfl) (by kernel_rfl) (fun _ _ _ h => h) (by kernel_rfl) ?_ (by assumption) ?_
  rotate_left
  · (intro w' hSw; (try dsimp only at hSw); go_simp; first | done | with_reducible rfl)
  simp only [Act.put, List.setIfInBounds_toArray, List.set_cons_zero, List.set_cons_succ]
  refine rg_take (v := ?_) 8 rfl (by kernel_rfl) (by kernel_rfl) (by kernel_rfl) (fun _ _ _ h => h) (by kernel_rfl) ?_ (by assumption) ?_
  rotate_left
  · (intro w' hSw; (try dsimp only at hSw); go_simp; first | done | with_reducible rfl)
  simp only [Act.put, List.setIfInBounds_toArray, List.set_cons_zero, List.set_cons_succ]
  refine rg_take (v := ?_) 9 rfl (by kernel_rfl) (by kernel_rfl) (by kernel_rfl) (fun _ _ _ h => h) (by kernel_rfl) ?_ (by assumption) ?_
  rotate_left
  · (intro w' hSw; (try dsimp only at hSw); go_simp; first | done | with_reducible rfl)
  simp only [Act.put, List.setIfInBounds_toArray, List.set_cons_zero, List.set_cons_succ]
  refine wpAnyH_done (by kernel_rfl) ?_ _
  clear hHeld
  have FVZ := Lib.hid (below_chain FF19.out G3.out)
  clear HOT HOT2 HOM k0 k1 k2 k3 k4 k5 y0 y1
  have hrc := HRC.out
  go_wp2_with (fail)
  refine (HEL.out _ _ _ _ _ _ _ HOHn.out HOWn.out (by omega) (Rd.own HOH.out) (RW19.out.below G3.out)).mono ?_
  rintro e w20 ⟨rfl, hb⟩
  have FF20 := Lib.hid (below_chain FVZ.out hb)
  have RM20 := Lib.hid (RM19.out.below (below_chain G3.out hb))
  clear hb G1 G2 G3
  go_wp2_with (fail)
  refine (c_heldInt64S _ _ _ 1 _ (by omega) (by omega) RM20.out).mono ?_
  rintro e w21 ⟨rfl, hb⟩
  have FF21 := Lib.hid (below_chain FF20.out hb)
  clear hb
  go_wp2_with (fail)
  go_ret
  exact ⟨rfl, below_chain B0.out FF21.out⟩
end Go.Proofs.YtmjhihjjehagfaaGreatDoor
