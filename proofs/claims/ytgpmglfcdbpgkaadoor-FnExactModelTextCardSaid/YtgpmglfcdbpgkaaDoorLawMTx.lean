/- The walk of the law FnExactModelText. Condition: the lengths; the table of powers of ten lies there. -/
import Derived.Test.YtgpmglfcdbpgkaaDoorTxK
import Derived.Test.YtgpmglfcdbpgkaaDoorMTo2
namespace Go.Proofs.YtgpmglfcdbpgkaaDoor
open Go.RowKit

set_option maxHeartbeats 1000000 in
set_option maxRecDepth 100000 in
theorem law_ModelText (m : Mdl) (az ax ar : Option Addr) (cz cs cr : Nat) (w : World) (hs : MSzOk m) (h : Md w az ax ar m) (hP : Pw w) :
    Calls Tryd.prog 3 #[mv m az ax ar cz cs cr] w fun e w' => e = .returned (.bool true) ∧ Below w.heap.size w w' := by
  have HS := Lib.hid hs
  have H := Lib.hid h
  have HP := Lib.hid hP
  clear hs h hP
  have HI := Lib.hid (fun (ok : MOk m) a x r z s q w' h hP => c_ModelText m a x r z s q w' ok h hP)
  have HSI := Lib.hid (fun (ok : MOk m) a x r z s q w' h => c_sModelText m a x r z s q w' ok h)
  have HT := Lib.hid (fun (ok : MdlOk m) w' h => c_toModel2 m az ax ar cz cs cr w' ok h)
  have HE := Lib.hid (fun (ok : MdlOk m) a x r a' x' r' z s q z' s' q' w' h h' => c_eqModel m a x r a' x' r' z s q z' s' q' w' ok h h')
  have HZ := Lib.hid (fun w' h => c_szModel m az ax ar cz cs cr 1048576 w' HS.out (by omega) (by omega) h)
  generalize outT m = R at HI HSI
  dsimp only [mv] at *
  generalize m.sz.length = sn at *
  generalize m.st.length = tn at *
  generalize m.rs.length = rn at *
  go_enter Tryd.func3, Tryd.ntmps3
  go_wp2_with (fail)
  refine (HZ.out _ (H.out.alloc _)).mono ?_
  rintro e w1 ⟨u, rfl, hu, hb⟩
  have a0 : w1.cell? ⟨w.heap.size, 0, none⟩ = some (.slice az sn cz) := cell_later hb (by go_simp)
  have a1 : w1.cell? ⟨w.heap.size, 1, none⟩ = some (.slice ax tn cs) := cell_later hb (by go_simp)
  have a2 : w1.cell? ⟨w.heap.size, 2, none⟩ = some (.slice ar rn cr) := cell_later hb (by go_simp)
  have B : Below w.heap.size w w1 := below_chain (by (repeat (first | exact Below.refl _ _ | assumption | refine below_alloc ?_ _ | refine below_drewN ?_ _ | refine below_set ?_ _ (by simp; try omega) | refine Below.drew ?_))) hb
  clear hb
  have hz0 := World.block_lt_of_cell? _ _ a0
  rcases hu with rfl | ⟨u0, u1, hok⟩
  · go_wp2
    go_ret
    exact ⟨rfl, B⟩
  have HOK := Lib.hid hok
  have HMO := Lib.hid (mok_of HS.out hok)
  clear hok
  go_wp2_with (fail)
  refine (HT.out HOK.out _ (H.out.below B)).mono ?_
  rintro e w2 ⟨b1, x1, r1, z1, s1, q1, ds1, rfl, ho1, hb⟩
  have hstep := hb
  replace a0 := cell_later hstep a0
  replace a1 := cell_later hstep a1
  replace a2 := cell_later hstep a2
  replace B := below_chain B hstep
  clear hb hstep
  have m1 := ho1.md
  clear ho1
  go_wp2_with (fail)
  refine (HSI.out HMO.out _ _ _ _ _ _ _ m1).mono ?_
  rintro e w3 ⟨t3, rfl, ht3, hb⟩
  have HT3 := Lib.hid ht3
  clear ht3
  replace a0 := cell_later hb a0
  replace a1 := cell_later hb a1
  replace a2 := cell_later hb a2
  replace B := below_chain B hb
  clear hb m1
  go_wp2_with (fail)
  refine (HT.out HOK.out _ (H.out.below B)).mono ?_
  rintro e w4 ⟨b2, x2, r2, z2, s2, q2, ds2, rfl, ho2, hb⟩
  replace a0 := cell_later hb a0
  replace a1 := cell_later hb a1
  replace a2 := cell_later hb a2
  replace B := below_chain B hb
  clear hb
  have m2 := ho2.md
  clear ho2
  have hz4 := World.block_lt_of_cell? _ _ a0
  go_wp2_with (fail)
  refine (HI.out HMO.out _ _ _ _ _ _ _ (m2.alloc _) ((HP.out.below B).below (below_alloc (Below.refl _ _) _))).mono ?_
  rintro e w5 ⟨t5, rfl, ht5, hb⟩
  obtain rfl : t5 = t3 := (bsT_of ht5).trans (bsT_of HT3.out).symm
  clear ht5
  have x0 : w5.cell? ⟨w4.heap.size, 0, none⟩ = some (.slice b2 sn z2) := cell_later hb (by go_simp)
  have x1 : w5.cell? ⟨w4.heap.size, 1, none⟩ = some (.slice x2 tn s2) := cell_later hb (by go_simp)
  have x2' : w5.cell? ⟨w4.heap.size, 2, none⟩ = some (.slice r2 rn q2) := cell_later hb (by go_simp)
  have hstep : Below w4.heap.size w4 w5 := below_chain (by (repeat (first | exact Below.refl _ _ | assumption | refine below_alloc ?_ _ | refine below_drewN ?_ _ | refine below_set ?_ _ (by simp; try omega) | refine Below.drew ?_))) hb
  replace a0 := cell_later hstep a0
  replace a1 := cell_later hstep a1
  replace a2 := cell_later hstep a2
  replace B := below_chain B hstep
  have m5 := Lib.hid (m2.below hstep)
  clear hb hstep m2
  go_wp2_with (fail)
  have HB := Lib.hid B
  clear B
  refine wp_region_held_drew (S := (fun w' => w'.cell? ⟨w4.heap.size, 0, none⟩ = some (.slice b2 sn z2) ∧ w'.cell? ⟨w4.heap.size, 1, none⟩ = some (.slice x2 tn s2) ∧ w'.cell? ⟨w4.heap.size, 2, none⟩ = some (.slice r2 rn q2) ∧ w'.cell? ⟨w.heap.size, 0, none⟩ = some (.slice az sn cz) ∧ w'.cell? ⟨w.heap.size, 1, none⟩ = some (.slice ax tn cs) ∧ w'.cell? ⟨w.heap.size, 2, none⟩ = some (.slice ar rn cr))) (by kernel_rfl) ?_ (fun hHeld => ?_)
  · exact ⟨x0, x1, x2', a0, a1, a2⟩
  refine rg_take (v := ?_) 0 rfl (by kernel_rfl) (by kernel_rfl) (by kernel_rfl) (fun _ _ _ h => h) (by kernel_rfl) ?_ (by assumption) ?_
  rotate_left
  · (intro w' hSw; (try dsimp only at hSw); go_simp; first | done | with_reducible rfl)
  simp only [Act.put, List.setIfInBounds_toArray, List.set_cons_zero, List.set_cons_succ]
  refine rg_take (v := ?_) 1 rfl (by kernel_rfl) (by kernel_rfl) (by kernel_rfl) (fun _ _ _ h => h) (by kernel_rfl) ?_ (by assumption) ?_
  rotate_left
  · (intro w' hSw; (try dsimp only at hSw); go_simp; first | done | with_reducible rfl)
  simp only [Act.put, List.setIfInBounds_toArray, List.set_cons_zero, List.set_cons_succ]
  refine rg_run 2 rfl (by kernel_rfl) (by kernel_rfl) (fun K hK => ?_)
  go_simp
  refine (HT.out HOK.out _ (H.out.below (by exact HB.out.drew))).mono ?_
  rintro e w6 ⟨b3, x3, r3, z3, s3, q3, ds3, rfl, ho3, hb⟩
  replace x0 := cell_later hb (by exact x0)
  replace x1 := cell_later hb (by exact x1)
  replace x2' := cell_later hb (by exact x2')
  replace a0 := cell_later hb (by exact a0)
  replace a1 := cell_later hb (by exact a1)
  replace a2 := cell_later hb (by exact a2)
  have HB6 := Lib.hid (below_chain (by exact HB.out.drew) hb)
  have m6 := Lib.hid (Md.below (by exact m5.out) (show Below w5.heap.size w5 w6 from below_chain (by exact (Below.refl _ _).drew) hb))
  have m7 := Lib.hid ho3.md
  clear hb ho3 m5
  go_wp2
  clear hHeld
  refine hK.out _ _ ⟨x0, x1, x2', a0, a1, a2⟩ (fun hHeld => ?_)
  clear hK K
  try simp only [Act.put, List.setIfInBounds_toArray, List.set_cons_zero, List.set_cons_succ]
  refine rg_run 3 rfl (by kernel_rfl) (by kernel_rfl) (fun K hK => ?_)
  go_simp
  refine (HE.out HOK.out _ _ _ _ _ _ _ _ _ _ _ _ _ m6.out m7.out).mono ?_
  rintro e w7 ⟨rfl, hb⟩
  replace x0 := cell_later hb (by exact x0)
  replace x1 := cell_later hb (by exact x1)
  replace x2' := cell_later hb (by exact x2')
  replace a0 := cell_later hb (by exact a0)
  replace a1 := cell_later hb (by exact a1)
  replace a2 := cell_later hb (by exact a2)
  have HB7 := Lib.hid (below_chain HB6.out hb)
  clear hb
  go_wp2
  clear hHeld
  refine hK.out _ _ ⟨x0, x1, x2', a0, a1, a2⟩ (fun hHeld => ?_)
  clear hK K
  try simp only [Act.put, List.setIfInBounds_toArray, List.set_cons_zero, List.set_cons_succ]
  refine rg_take (v := ?_) 4 rfl (by kernel_rfl) (by kernel_rfl) (by kernel_rfl) (fun _ _ _ h => h) (by kernel_rfl) ?_ (by assumption) ?_
  rotate_left
  · (intro w' hSw; (try dsimp only at hSw); go_simp; first | done | with_reducible rfl)
  simp only [Act.put, List.setIfInBounds_toArray, List.set_cons_zero, List.set_cons_succ]
  refine wpAnyH_done (by kernel_rfl) ?_ _
  clear hHeld
  go_wp2
  go_ret
  exact ⟨rfl, HB7.out⟩
end Go.Proofs.YtgpmglfcdbpgkaaDoor
