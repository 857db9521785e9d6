/- The walk of the law FnExactReactionTime (printed by LawRt.py). Condition: the lengths; the keywords. -/
import Derived.Test.YtackekfjalaacaaGreatDoorHDlX
namespace Go.Proofs.YtackekfjalaacaaGreatDoor
open Go.RowKit

theorem c_toProgram2 (nm : ByteArray) (ins vs os : List ByteArray) (gd : ByteArray) (ls : List Lin) (a1 a2 a3 a4 : Option Addr) (c1 c2 c3 c4 : Nat) (w : World) (hs : PgOk ⟨nm, ins, vs, os, gd, ls⟩) (h : PgR w a1 a2 a3 a4 ⟨nm, ins, vs, os, gd, ls⟩) :
    Calls Tryz.prog 8 #[.agg #[.string nm, .slice a1 ins.length c1, .slice a2 vs.length c2, .slice a3 os.length c3, .string gd, .slice a4 ls.length c4]] w fun e w' => ∃ p1 p2 p3 p4 q1 q2 q3 q4 ds, e = .returned (.agg #[.string nm, .slice p1 ins.length q1, .slice p2 vs.length q2, .slice p3 os.length q3, .string gd, .slice p4 ls.length q4]) ∧ POwn w' w.heap.size p1 p2 p3 p4 q1 q2 q3 q4 ⟨nm, ins, vs, os, gd, ls⟩ ds ∧ Below w.heap.size w w' :=
  c_toProgram ⟨nm, ins, vs, os, gd, ls⟩ a1 a2 a3 a4 c1 c2 c3 c4 w hs h
theorem POwn.z {w : World} {base : Nat} {a1 a2 a3 a4 : Option Addr} {c1 c2 c3 c4 : Nat} {p : Prg} {ds : List LiD} (h : POwn w base a1 a2 a3 a4 c1 c2 c3 c4 p ds) : PgZ a1 a2 a3 c1 c2 c3 := ⟨own_none h.i, own_none h.v, own_none h.o⟩
set_option maxHeartbeats 4000000 in
set_option maxRecDepth 100000 in
theorem law_React (p : Prg) (a1 a2 a3 a4 : Option Addr) (c1 c2 c3 c4 : Nat) (inp out : ByteArray) (per : Int) (w : World) (hs : PgSz p) (h : PgR w a1 a2 a3 a4 p) (hk : KwR w) (hi : inp.size ≤ 9223372036854775807) (ho : out.size ≤ 9223372036854775807) :
    Calls Tryz.prog 4 #[pv p a1 a2 a3 a4 c1 c2 c3 c4, .string inp, .string out, .int .i64 per] w fun e w' => e = .returned (.bool true) ∧ Below w.heap.size w w' := by
  have HZ := Lib.hid (fun w' h => c_szProgram p a1 a2 a3 a4 c1 c2 c3 c4 1048576 w' hs (by omega) (by omega) h)
  have HSF := Lib.hid (fun okp b1 b2 b3 b4 q1 q2 q3 q4 w' hz h => c_sReact p b1 b2 b3 b4 q1 q2 q3 q4 inp out per w' okp hz h)
  have HIF := Lib.hid (fun okp b1 b2 b3 b4 q1 q2 q3 q4 w' hz h hk hout => c_React p b1 b2 b3 b4 q1 q2 q3 q4 inp out per w' okp hz h hk hout)
  have HEP := Lib.hid (fun okp b1 b2 b3 b4 b1' b2' b3' b4' q1 q2 q3 q4 q1' q2' q3' q4' w' h h' => c_eqProgram p b1 b2 b3 b4 b1' b2' b3' b4' q1 q2 q3 q4 q1' q2' q3' q4' w' okp h h')
  generalize rtV p inp out per = RV at *
  generalize rtC p inp out per = RC at *
  obtain ⟨nm, ins, vs, os, gd, ls⟩ := p
  have HT := Lib.hid (fun ok w' h => c_toProgram2 nm ins vs os gd ls a1 a2 a3 a4 c1 c2 c3 c4 w' ok h)
  have hrc : (RC != RC) = false := by simp
  have hrv : (RV != RV) = false := by simp
  have HRC := Lib.hid hrc
  have HRV := Lib.hid hrv
  dsimp only [pv] at *
  have B0 := Lib.hid (below_alloc (Below.refl w.heap.size w) (.cells #[.string nm, .slice a1 ins.length c1, .slice a2 vs.length c2, .slice a3 os.length c3, .string gd, .slice a4 ls.length c4] 25))
  have HW := Lib.hid (h.below B0.out)
  have KW := Lib.hid (hk.below B0.out)
  clear hs h hk hrc hrv
  have k0 : (w.alloc (.cells #[.string nm, .slice a1 ins.length c1, .slice a2 vs.length c2, .slice a3 os.length c3, .string gd, .slice a4 ls.length c4] 25)).cell? ⟨w.heap.size, 0, none⟩ = some (.string nm) := by go_simp
  have K0 := Lib.hid k0
  clear k0
  have k1 : (w.alloc (.cells #[.string nm, .slice a1 ins.length c1, .slice a2 vs.length c2, .slice a3 os.length c3, .string gd, .slice a4 ls.length c4] 25)).cell? ⟨w.heap.size, 1, none⟩ = some (.slice a1 ins.length c1) := by go_simp
  have K1 := Lib.hid k1
  clear k1
  have k2 : (w.alloc (.cells #[.string nm, .slice a1 ins.length c1, .slice a2 vs.length c2, .slice a3 os.length c3, .string gd, .slice a4 ls.length c4] 25)).cell? ⟨w.heap.size, 2, none⟩ = some (.slice a2 vs.length c2) := by go_simp
  have K2 := Lib.hid k2
  clear k2
  have k3 : (w.alloc (.cells #[.string nm, .slice a1 ins.length c1, .slice a2 vs.length c2, .slice a3 os.length c3, .string gd, .slice a4 ls.length c4] 25)).cell? ⟨w.heap.size, 3, none⟩ = some (.slice a3 os.length c3) := by go_simp
  have K3 := Lib.hid k3
  clear k3
  have k4 : (w.alloc (.cells #[.string nm, .slice a1 ins.length c1, .slice a2 vs.length c2, .slice a3 os.length c3, .string gd, .slice a4 ls.length c4] 25)).cell? ⟨w.heap.size, 4, none⟩ = some (.string gd) := by go_simp
  have K4 := Lib.hid k4
  clear k4
  have k5 : (w.alloc (.cells #[.string nm, .slice a1 ins.length c1, .slice a2 vs.length c2, .slice a3 os.length c3, .string gd, .slice a4 ls.length c4] 25)).cell? ⟨w.heap.size, 5, none⟩ = some (.slice a4 ls.length c4) := by go_simp
  have K5 := Lib.hid k5
  clear k5
  go_enter Tryz.func4, Tryz.ntmps4
  go_upto_region 1 with (fail)
  generalize w.alloc (.cells #[.string nm, .slice a1 ins.length c1, .slice a2 vs.length c2, .slice a3 os.length c3, .string gd, .slice a4 ls.length c4] 25) = W at *
  have k0 := K0.out
  have k1 := K1.out
  have k2 := K2.out
  have k3 := K3.out
  have k4 := K4.out
  have k5 := K5.out
  by_cases hz1 : 1048576 < inp.size
  · have hz2 : (1048576 : Int) < (inp.size : Int) := by omega
    clear k0 k1 k2 k3 k4 k5
    go_wp2_with (fail)
    go_ret
    exact ⟨rfl, B0.out⟩
  by_cases hz3 : 1048576 < out.size
  · have hz2 : ¬ (1048576 : Int) < (inp.size : Int) := by omega
    have hz4 : (1048576 : Int) < (out.size : Int) := by omega
    clear k0 k1 k2 k3 k4 k5
    go_wp2_with (fail)
    go_ret
    exact ⟨rfl, B0.out⟩
  have hz2 : ¬ (1048576 : Int) < (inp.size : Int) := by omega
  have hz4 : ¬ (1048576 : Int) < (out.size : Int) := by omega
  have hout := Lib.hid (show out.size ≤ maxLen by unfold maxLen; omega)
  go_wp2_with (fail)
  refine (HZ.out _ HW.out).mono ?_
  rintro e w1 ⟨u, rfl, hu, hb⟩
  have F1 := Lib.hid hb
  clear hb k0 k1 k2 k3 k4 k5
  rcases hu with rfl | ⟨u0, u1, hok⟩
  · go_wp2_with (fail)
    go_ret
    exact ⟨rfl, below_chain B0.out F1.out⟩
  have HOK := Lib.hid hok
  have hn0 : ¬ u < 0 := by omega
  clear hok HZ hi ho hz1 hz2 hz3 hz4
  have k0 := cell_later F1.out K0.out
  have k1 := cell_later F1.out K1.out
  have k2 := cell_later F1.out K2.out
  have k3 := cell_later F1.out K3.out
  have k4 := cell_later F1.out K4.out
  have k5 := cell_later F1.out K5.out
  go_wp2_with (fail)
  refine (HT.out HOK.out _ (HW.out.below F1.out)).mono ?_
  rintro e wa ⟨t1, t2, t3, t4, s1, s2, s3, s4, dt, rfl, hoT, hb⟩
  have Fa := Lib.hid (below_chain F1.out hb)
  have HOT := Lib.hid hoT
  clear hb hoT hn0 u0 u1 k0 k1 k2 k3 k4 k5
  go_wp2_with (fail)
  refine (HSF.out HOK.out t1 t2 t3 t4 s1 s2 s3 s4 _ HOT.out.z HOT.out.pg).mono ?_
  rintro e V ⟨rfl, hb⟩
  have FV := Lib.hid (below_chain Fa.out hb)
  clear hb HOT Fa F1 HSF
  have k0 := cell_later FV.out K0.out
  have k1 := cell_later FV.out K1.out
  have k2 := cell_later FV.out K2.out
  have k3 := cell_later FV.out K3.out
  have k4 := cell_later FV.out K4.out
  have k5 := cell_later FV.out K5.out
  go_wp2_with (fail)
  refine (HT.out HOK.out _ (HW.out.below FV.out)).mono ?_
  rintro e w9 ⟨p1, p2, p3, p4, q1, q2, q3, q4, ds, rfl, ho, hb⟩
  clear k0 k1 k2 k3 k4 k5
  have hal := below_alloc (Below.refl w9.heap.size w9) (.cells #[.string nm, .slice p1 ins.length q1, .slice p2 vs.length q2, .slice p3 os.length q3, .string gd, .slice p4 ls.length q4] 31)
  have PRD := Lib.hid ((ho.below hal).pg)
  have PZ := Lib.hid ho.z
  have FA := Lib.hid (below_chain hb hal)
  clear ho hb
  have o0 : (w9.alloc (.cells #[.string nm, .slice p1 ins.length q1, .slice p2 vs.length q2, .slice p3 os.length q3, .string gd, .slice p4 ls.length q4] 31)).cell? ⟨w9.heap.size, 0, none⟩ = some (.string nm) := by go_simp
  have O0 := Lib.hid o0
  clear o0
  have o1 : (w9.alloc (.cells #[.string nm, .slice p1 ins.length q1, .slice p2 vs.length q2, .slice p3 os.length q3, .string gd, .slice p4 ls.length q4] 31)).cell? ⟨w9.heap.size, 1, none⟩ = some (.slice p1 ins.length q1) := by go_simp
  have O1 := Lib.hid o1
  clear o1
  have o2 : (w9.alloc (.cells #[.string nm, .slice p1 ins.length q1, .slice p2 vs.length q2, .slice p3 os.length q3, .string gd, .slice p4 ls.length q4] 31)).cell? ⟨w9.heap.size, 2, none⟩ = some (.slice p2 vs.length q2) := by go_simp
  have O2 := Lib.hid o2
  clear o2
  have o3 : (w9.alloc (.cells #[.string nm, .slice p1 ins.length q1, .slice p2 vs.length q2, .slice p3 os.length q3, .string gd, .slice p4 ls.length q4] 31)).cell? ⟨w9.heap.size, 3, none⟩ = some (.slice p3 os.length q3) := by go_simp
  have O3 := Lib.hid o3
  clear o3
  have o4 : (w9.alloc (.cells #[.string nm, .slice p1 ins.length q1, .slice p2 vs.length q2, .slice p3 os.length q3, .string gd, .slice p4 ls.length q4] 31)).cell? ⟨w9.heap.size, 4, none⟩ = some (.string gd) := by go_simp
  have O4 := Lib.hid o4
  clear o4
  have o5 : (w9.alloc (.cells #[.string nm, .slice p1 ins.length q1, .slice p2 vs.length q2, .slice p3 os.length q3, .string gd, .slice p4 ls.length q4] 31)).cell? ⟨w9.heap.size, 5, none⟩ = some (.slice p4 ls.length q4) := by go_simp
  have O5 := Lib.hid o5
  clear o5
  clear hal
  go_upto_region 8 with (fail)
  generalize w9.alloc (.cells #[.string nm, .slice p1 ins.length q1, .slice p2 vs.length q2, .slice p3 os.length q3, .string gd, .slice p4 ls.length q4] 31) = VA at *
  have FD := Lib.hid (below_chain FV.out FA.out)
  have o0 := O0.out
  have o1 := O1.out
  have o2 := O2.out
  have o3 := O3.out
  have o4 := O4.out
  have o5 := O5.out
  go_wp2_with (fail)
  refine (HIF.out HOK.out p1 p2 p3 p4 q1 q2 q3 q4 _ PZ.out PRD.out (KW.out.below FD.out) hout.out).mono ?_
  rintro e w12 ⟨rfl, hb⟩
  have E12 := Lib.hid hb
  have HO12 := Lib.hid trivial
  clear hb o0 o1 o2 o3 o4 o5
  have hrc := HRC.out
  have hrv := HRV.out
  go_upto_region 14 with (fail)
  clear hrc hrv
  have o0 := cell_later E12.out O0.out
  have o1 := cell_later E12.out O1.out
  have o2 := cell_later E12.out O2.out
  have o3 := cell_later E12.out O3.out
  have o4 := cell_later E12.out O4.out
  have o5 := cell_later E12.out O5.out
  have FF := Lib.hid (below_chain FD.out E12.out)
  have k0 := cell_later FF.out K0.out
  have k1 := cell_later FF.out K1.out
  have k2 := cell_later FF.out K2.out
  have k3 := cell_later FF.out K3.out
  have k4 := cell_later FF.out K4.out
  have k5 := cell_later FF.out K5.out
  refine wp_region_held_drew (S := (fun w' => w'.cell? ⟨w9.heap.size, 0, none⟩ = some (.string nm) ∧ w'.cell? ⟨w9.heap.size, 1, none⟩ = some (.slice p1 ins.length q1) ∧ w'.cell? ⟨w9.heap.size, 2, none⟩ = some (.slice p2 vs.length q2) ∧ w'.cell? ⟨w9.heap.size, 3, none⟩ = some (.slice p3 os.length q3) ∧ w'.cell? ⟨w9.heap.size, 4, none⟩ = some (.string gd) ∧ w'.cell? ⟨w9.heap.size, 5, none⟩ = some (.slice p4 ls.length q4) ∧ w'.cell? ⟨w.heap.size, 0, none⟩ = some (.string nm) ∧ w'.cell? ⟨w.heap.size, 1, none⟩ = some (.slice a1 ins.length c1) ∧ w'.cell? ⟨w.heap.size, 2, none⟩ = some (.slice a2 vs.length c2) ∧ w'.cell? ⟨w.heap.size, 3, none⟩ = some (.slice a3 os.length c3) ∧ w'.cell? ⟨w.heap.size, 4, none⟩ = some (.string gd) ∧ w'.cell? ⟨w.heap.size, 5, none⟩ = some (.slice a4 ls.length c4))) (by kernel_rfl) ?_ (fun hHeld => ?_)
  · exact ⟨o0, o1, o2, o3, o4, o5, k0, k1, k2, k3, k4, k5⟩
  refine rg_take (v := ?_) 0 rfl (by kernel_rfl) (by kernel_rfl) (by kernel_rfl) (fun _ _ _ h => h) (by kernel_rfl) ?_ (by assumption) ?_
  rotate_left
  · (intro w' hSw; (try dsimp only at hSw); go_simp; first | done | with_reducible rfl)
  simp only [Act.put, List.setIfInBounds_toArray, List.set_cons_zero, List.set_cons_succ]
  refine rg_take (v := ?_) 1 rfl (by kernel_rfl) (by kernel_rfl) (by kernel_rfl) (fun _ _ _ h => h) (by kernel_rfl) ?_ (by assumption) ?_
  rotate_left
  · (intro w' hSw; (try dsimp only at hSw); go_simp; first | done | with_reducible rfl)
  simp only [Act.put, List.setIfInBounds_toArray, List.set_cons_zero, List.set_cons_succ]
  refine rg_run 2 rfl (by kernel_rfl) (by kernel_rfl) (fun K hK => ?_)
  go_simp
  refine (HT.out HOK.out _ ((HW.out.below FF.out).below (Below.refl _ _).drew)).mono ?_
  rintro e w13a ⟨t1, t2, t3, t4, s1', s2', s3', s4', dt, rfl, ho, hb⟩
  have G1 := Lib.hid (below_chain (Below.refl w12.heap.size w12).drew hb : Below w12.heap.size w12 w13a)
  have HOX := Lib.hid ho
  clear hb ho
  go_wp2
  have hbs := G1.out
  clear hHeld
  refine hK.out _ _ (⟨cell_later hbs o0, cell_later hbs o1, cell_later hbs o2, cell_later hbs o3, cell_later hbs o4, cell_later hbs o5, cell_later hbs k0, cell_later hbs k1, cell_later hbs k2, cell_later hbs k3, cell_later hbs k4, cell_later hbs k5⟩) (fun hHeld => ?_)
  clear hK K
  try simp only [Act.put, List.setIfInBounds_toArray, List.set_cons_zero, List.set_cons_succ]
  clear hbs
  refine rg_run 3 rfl (by kernel_rfl) (by kernel_rfl) (fun K hK => ?_)
  go_simp
  refine (HEP.out HOK.out _ _ _ _ _ _ _ _ _ _ _ _ _ _ _ _ _ (PRD.out.below (below_chain E12.out G1.out)) HOX.out.pg).mono ?_
  rintro e w13 ⟨rfl, hb⟩
  have G2 := Lib.hid (below_chain G1.out hb)
  clear hb
  go_wp2
  have hbs := G2.out
  clear hHeld
  refine hK.out _ _ (⟨cell_later hbs o0, cell_later hbs o1, cell_later hbs o2, cell_later hbs o3, cell_later hbs o4, cell_later hbs o5, cell_later hbs k0, cell_later hbs k1, cell_later hbs k2, cell_later hbs k3, cell_later hbs k4, cell_later hbs k5⟩) (fun hHeld => ?_)
  clear hK K
  try simp only [Act.put, List.setIfInBounds_toArray, List.set_cons_zero, List.set_cons_succ]
  clear hbs
  refine rg_take (v := ?_) 4 rfl (by kernel_rfl) (by kernel_rfl) (by kernel_rfl) (fun _ _ _ h => h) (by kernel_rfl) ?_ (by assumption) ?_
  rotate_left
  · (intro w' hSw; (try dsimp only at hSw); go_simp; first | done | with_reducible rfl)
  simp only [Act.put, List.setIfInBounds_toArray, List.set_cons_zero, List.set_cons_succ]
  refine wpAnyH_done (by kernel_rfl) ?_ _
  clear hHeld
  have Ew13 := Lib.hid (below_chain E12.out G2.out)
  clear HOX G1 G2 FF o0 o1 o2 o3 o4 o5 k0 k1 k2 k3 k4 k5 HO12
  have FF := Lib.hid (below_chain FD.out Ew13.out)
  clear O0 O1 O2 O3 O4 O5 FA FD E12 Ew13 HEP PRD PZ
  go_wp2_with (fail)
  go_ret
  exact ⟨rfl, below_chain B0.out FF.out⟩
end Go.Proofs.YtackekfjalaacaaGreatDoor
