/- The walk of the law FnExactIsSafeModel. No condition but the lengths. -/
import Derived.Test.YtdjehopcpjkgjaaHMSaf
import Derived.Test.YtdjehopcpjkgjaaH4
namespace Go.Proofs.Ytdjehopcpjkgjaa
open Go.RowKit

set_option maxHeartbeats 2000000 in
set_option maxRecDepth 100000 in
theorem law_IsSafeModel (m : Mdl) (az ax ar : Option Addr) (cz cs cr : Nat) (A' : Option Addr) (c' : Nat) (ts : List Tst) (w : World) (hs : MSzOk m) (h : Md w az ax ar m) (hm' : ts.length ≤ 9223372036854775807) (ht : Rd w A' (tstCells ts)) :
    Calls Try.prog 5 #[mv m az ax ar cz cs cr, .slice A' ts.length c'] w fun e w' => e = .returned (.bool true) ∧ Below w.heap.size w w' := by
  have HS := Lib.hid hs
  have H := Lib.hid h
  have HTT := Lib.hid ht
  clear hs h ht
  have HI := Lib.hid (fun (ok : MOk m) h2 a x r z s q B' d' w' h ht => c_IsSafeModel m a x r z s q B' d' ts w' ok h2 h ht)
  have HSI := Lib.hid (fun (ok : MOk m) h2 a x r z s q B' d' w' h ht => c_sIsSafeModel m a x r z s q B' d' ts w' ok h2 h ht)
  have HT := Lib.hid (fun (ok : MdlOk m) w' h => c_toModel2 m az ax ar cz cs cr w' ok h)
  have HE := Lib.hid (fun (ok : MdlOk m) a x r a' x' r' z s q z' s' q' w' h h' => c_eqModel m a x r a' x' r' z s q z' s' q' w' ok h h')
  have HZ := Lib.hid (fun w' h => c_szModel m az ax ar cz cs cr 1048576 w' HS.out (by omega) (by omega) h)
  have HTS := Lib.hid (fun w' h1 h => c_toTests2 A' c' ts w' h1 h)
  have HES := Lib.hid (fun B B' d d' w' h1 h h' => c_eqTestS B B' d d' ts.length ts.length ts w' rfl rfl h1 h h')
  generalize smB m ts = RB at HI HSI
  generalize xmC m ts = RC at HI HSI
  dsimp only [mv] at *
  generalize m.sz.length = sn at *
  generalize m.st.length = tn at *
  generalize m.rs.length = rn at *
  generalize ts.length = ln at *
  go_enter Try.func5, Try.ntmps5
  go_wp2_with (fail)
  refine (HZ.out _ (H.out.alloc _)).mono ?_
  rintro e w1 ⟨u, rfl, hu, hb⟩
  have a0 : w1.cell? ⟨w.heap.size, 0, none⟩ = some (.slice az sn cz) := cell_later hb (by go_simp)
  have a1 : w1.cell? ⟨w.heap.size, 1, none⟩ = some (.slice ax tn cs) := cell_later hb (by go_simp)
  have a2 : w1.cell? ⟨w.heap.size, 2, none⟩ = some (.slice ar rn cr) := cell_later hb (by go_simp)
  have B : Below w.heap.size w w1 := below_chain (by (repeat (first | exact Below.refl _ _ | assumption | refine below_alloc ?_ _ | refine below_drewN ?_ _ | refine below_set ?_ _ (by simp; try omega) | refine Below.drew ?_))) hb
  clear hb
  have hz0 := World.block_lt_of_cell? _ _ a0
  rcases hu with rfl | ⟨u0, u1, hok⟩
  · go_wp2
    go_ret
    exact ⟨rfl, B⟩
  have HOK := Lib.hid hok
  have HMO := Lib.hid (mok_of HS.out hok)
  clear hok
  rcases szI_cases (left := u) (n := ln) with ⟨e1, c1⟩ | ⟨e1, c1⟩
  · go_wp2_with (first
      | (go_at_call 18
         refine (c_szTestS _ _ _ _ _ hm' (by omega) (by omega)).mono ?_
         rintro e w' ⟨rfl, rfl⟩)
      )
    go_ret
    exact ⟨rfl, B⟩
  have hll : ln ≤ 1048576 := by omega
  go_wp2_with (first
    | (go_at_call 18
       refine (c_szTestS _ _ _ _ _ hm' (by omega) (by omega)).mono ?_
       rintro e w' ⟨rfl, rfl⟩)
    )
  clear e1
  refine (HT.out HOK.out _ (by exact H.out.below B)).mono ?_
  rintro e w2 ⟨b1, x1, r1, z1, s1, q1, ds1, rfl, ho1, hb⟩
  replace a0 := cell_later hb a0
  replace a1 := cell_later hb a1
  replace a2 := cell_later hb a2
  replace B := below_chain B hb
  have m1 := ho1.md
  clear hb ho1
  go_wp2_with (fail)
  refine (HTS.out _ hll (by exact HTT.out.below B)).mono ?_
  rintro e w3 ⟨A2, d2, rfl, ho, hb⟩
  have hstep : Below w2.heap.size w2 w3 := below_chain (by (repeat (first | exact Below.refl _ _ | assumption | refine below_alloc ?_ _ | refine below_drewN ?_ _ | refine below_set ?_ _ (by simp; try omega) | refine Below.drew ?_))) hb
  replace m1 := m1.below hstep
  replace a0 := cell_later hstep a0
  replace a1 := cell_later hstep a1
  replace a2 := cell_later hstep a2
  replace B := below_chain B hstep
  have t1 := Rd.own ho
  clear ho
  clear hb hstep
  go_wp2_with (fail)
  refine (HSI.out HMO.out hll _ _ _ _ _ _ _ _ _ m1 t1).mono ?_
  rintro e w5 ⟨rfl, hb⟩
  have hstep : Below w3.heap.size w3 w5 := below_chain (by (repeat (first | exact Below.refl _ _ | assumption | refine below_alloc ?_ _ | refine below_drewN ?_ _ | refine below_set ?_ _ (by simp; try omega) | refine Below.drew ?_))) hb
  replace m1 := m1.below hstep
  replace t1 := t1.below hstep
  replace a0 := cell_later hstep a0
  replace a1 := cell_later hstep a1
  replace a2 := cell_later hstep a2
  replace B := below_chain B hstep
  clear hb hstep
  clear m1 t1
  go_wp2_with (fail)
  refine (HT.out HOK.out _ (by exact H.out.below B)).mono ?_
  rintro e w6 ⟨b2, x2, r2, z2, s2, q2, ds2, rfl, ho2, hb⟩
  have hstep : Below w5.heap.size w5 w6 := below_chain (by (repeat (first | exact Below.refl _ _ | assumption | refine below_alloc ?_ _ | refine below_drewN ?_ _ | refine below_set ?_ _ (by simp; try omega) | refine Below.drew ?_))) hb
  replace a0 := cell_later hstep a0
  replace a1 := cell_later hstep a1
  replace a2 := cell_later hstep a2
  replace B := below_chain B hstep
  have m2 := ho2.md
  clear ho2
  clear hb hstep
  have hz6 := World.block_lt_of_cell? _ _ a0
  go_wp2_with (fail)
  refine (HTS.out _ hll (by exact (HTT.out.below B).alloc _)).mono ?_
  rintro e w7 ⟨A4, d4, rfl, ho, hb⟩
  have hstep : Below w6.heap.size w6 w7 := below_chain (by (repeat (first | exact Below.refl _ _ | assumption | refine below_alloc ?_ _ | refine below_drewN ?_ _ | refine below_set ?_ _ (by simp; try omega) | refine Below.drew ?_))) hb
  replace m2 := m2.below hstep
  replace a0 := cell_later hstep a0
  replace a1 := cell_later hstep a1
  replace a2 := cell_later hstep a2
  replace B := below_chain B hstep
  have t2 := Rd.own ho
  clear ho
  have y0 : w7.cell? ⟨w6.heap.size, 0, none⟩ = some (.slice b2 sn z2) := cell_later hb (by go_simp)
  have y1 : w7.cell? ⟨w6.heap.size, 1, none⟩ = some (.slice x2 tn s2) := cell_later hb (by go_simp)
  have y2 : w7.cell? ⟨w6.heap.size, 2, none⟩ = some (.slice r2 rn q2) := cell_later hb (by go_simp)
  clear hb hstep
  go_wp2_with (fail)
  refine (HI.out HMO.out hll _ _ _ _ _ _ _ _ _ m2 t2).mono ?_
  rintro e w9 ⟨rfl, hb⟩
  have hstep : Below w7.heap.size w7 w9 := below_chain (by (repeat (first | exact Below.refl _ _ | assumption | refine below_alloc ?_ _ | refine below_drewN ?_ _ | refine below_set ?_ _ (by simp; try omega) | refine Below.drew ?_))) hb
  replace m2 := m2.below hstep
  replace t2 := t2.below hstep
  replace a0 := cell_later hstep a0
  replace a1 := cell_later hstep a1
  replace a2 := cell_later hstep a2
  replace y0 := cell_later hstep y0
  replace y1 := cell_later hstep y1
  replace y2 := cell_later hstep y2
  replace B := below_chain B hstep
  clear hb hstep
  go_wp2_with (fail)
  have HB := Lib.hid B
  have M2 := Lib.hid m2
  have T2 := Lib.hid t2
  clear B m2 t2
  refine wp_region_held_drew (S := (fun w' => w'.cell? ⟨w6.heap.size, 0, none⟩ = some (.slice b2 sn z2) ∧ w'.cell? ⟨w6.heap.size, 1, none⟩ = some (.slice x2 tn s2) ∧ w'.cell? ⟨w6.heap.size, 2, none⟩ = some (.slice r2 rn q2) ∧ w'.cell? ⟨w.heap.size, 0, none⟩ = some (.slice az sn cz) ∧ w'.cell? ⟨w.heap.size, 1, none⟩ = some (.slice ax tn cs) ∧ w'.cell? ⟨w.heap.size, 2, none⟩ = some (.slice ar rn cr))) (by kernel_rfl) ?_ (fun hHeld => ?_)
  · exact ⟨y0, y1, y2, a0, a1, a2⟩
  refine rg_take (v := ?_) 0 rfl (by kernel_rfl) (by kernel_rfl) (by kernel_rfl) (fun _ _ _ h => h) (by kernel_rfl) ?_ (by assumption) ?_
  rotate_left
  · (intro w' hSw; (try dsimp only at hSw); go_simp; first | done | with_reducible rfl)
  simp only [Act.put, List.setIfInBounds_toArray, List.set_cons_zero, List.set_cons_succ]
  refine rg_take (v := ?_) 1 rfl (by kernel_rfl) (by kernel_rfl) (by kernel_rfl) (fun _ _ _ h => h) (by kernel_rfl) ?_ (by assumption) ?_
  rotate_left
  · (intro w' hSw; (try dsimp only at hSw); go_simp; first | done | with_reducible rfl)
  simp only [Act.put, List.setIfInBounds_toArray, List.set_cons_zero, List.set_cons_succ]
  refine rg_run 2 rfl (by kernel_rfl) (by kernel_rfl) (fun K hK => ?_)
  go_simp
  refine (HT.out HOK.out _ (H.out.below (by exact HB.out.drew))).mono ?_
  rintro e w10 ⟨b3, x3, r3, z3, s3, q3, ds3, rfl, ho3, hb⟩
  replace y0 := cell_later hb (by exact y0)
  replace y1 := cell_later hb (by exact y1)
  replace y2 := cell_later hb (by exact y2)
  replace a0 := cell_later hb (by exact a0)
  replace a1 := cell_later hb (by exact a1)
  replace a2 := cell_later hb (by exact a2)
  have HST := Lib.hid (show Below w9.heap.size w9 w10 from below_chain (by exact (Below.refl _ _).drew) hb)
  have m7 := Lib.hid ho3.md
  clear hb ho3
  go_wp2
  clear hHeld
  refine hK.out _ _ ⟨y0, y1, y2, a0, a1, a2⟩ (fun hHeld => ?_)
  clear hK K
  try simp only [Act.put, List.setIfInBounds_toArray, List.set_cons_zero, List.set_cons_succ]
  refine rg_run 3 rfl (by kernel_rfl) (by kernel_rfl) (fun K hK => ?_)
  go_simp
  refine (HE.out HOK.out _ _ _ _ _ _ _ _ _ _ _ _ _ (M2.out.below HST.out) m7.out).mono ?_
  rintro e w11 ⟨rfl, hb⟩
  replace y0 := cell_later hb (by exact y0)
  replace y1 := cell_later hb (by exact y1)
  replace y2 := cell_later hb (by exact y2)
  replace a0 := cell_later hb (by exact a0)
  replace a1 := cell_later hb (by exact a1)
  replace a2 := cell_later hb (by exact a2)
  have HST2 := Lib.hid (below_chain HST.out hb)
  clear hb
  go_wp2
  clear hHeld
  refine hK.out _ _ ⟨y0, y1, y2, a0, a1, a2⟩ (fun hHeld => ?_)
  clear hK K
  try simp only [Act.put, List.setIfInBounds_toArray, List.set_cons_zero, List.set_cons_succ]
  refine rg_take (v := ?_) 4 rfl (by kernel_rfl) (by kernel_rfl) (by kernel_rfl) (fun _ _ _ h => h) (by kernel_rfl) ?_ (by assumption) ?_
  rotate_left
  · (intro w' hSw; (try dsimp only at hSw); go_simp; first | done | with_reducible rfl)
  simp only [Act.put, List.setIfInBounds_toArray, List.set_cons_zero, List.set_cons_succ]
  refine wpAnyH_done (by kernel_rfl) ?_ _
  clear hHeld
  have B := below_chain HB.out HST2.out
  have t2 := T2.out.below HST2.out
  clear HB HST HST2 M2 T2 m7 y0 y1 y2 a0 a1 a2
  go_wp2_with (fail)
  refine (HTS.out _ hll (by exact HTT.out.below B)).mono ?_
  rintro e w12 ⟨A6, d6, rfl, ho, hb⟩
  have hstep : Below w11.heap.size w11 w12 := below_chain (by (repeat (first | exact Below.refl _ _ | assumption | refine below_alloc ?_ _ | refine below_drewN ?_ _ | refine below_set ?_ _ (by simp; try omega) | refine Below.drew ?_))) hb
  replace t2 := t2.below hstep
  replace B := below_chain B hstep
  have t3 := Rd.own ho
  clear ho
  clear hb hstep
  go_wp2_with (fail)
  refine (HES.out _ _ _ _ _ (by omega) t2 t3).mono ?_
  rintro e w13 ⟨rfl, hb⟩
  have hstep : Below w12.heap.size w12 w13 := below_chain (by (repeat (first | exact Below.refl _ _ | assumption | refine below_alloc ?_ _ | refine below_drewN ?_ _ | refine below_set ?_ _ (by simp; try omega) | refine Below.drew ?_))) hb
  replace t2 := t2.below hstep
  replace B := below_chain B hstep
  clear hb hstep
  clear t2 t3
  go_wp2
  go_ret
  exact ⟨rfl, B⟩
end Go.Proofs.Ytdjehopcpjkgjaa
