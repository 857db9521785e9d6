/- The walk of the law FnExactFitsPeriod. Condition: the lengths are those of a run; the keywords lie there. -/
import Derived.Test.YtdkclhbonmpcbaaDoorCIf
namespace Go.Proofs.YtdkclhbonmpcbaaDoor
open Go.RowKit

set_option maxHeartbeats 2000000 in
set_option maxRecDepth 100000 in
theorem law_FitsPeriod (c : Cd) (ab as_ : Option Addr) (cb cs : Nat) (p : Int) (w : World) (hs : CdSz c) (h : CdR w ab as_ c) (hk : Strs w 0 17) :
    Calls Tryd.prog 5 #[cv c ab as_ cb cs, .int .i64 p] w fun e w' => e = .returned (.bool true) ∧ Below w.heap.size w w' := by
  have H := Lib.hid h
  have HK := Lib.hid hk
  have HS := Lib.hid hs
  clear hs h hk
  have HZ := Lib.hid (fun w' h => c_szCode c ab as_ cb cs 1048576 w' HS.out (by omega) (by omega) h)
  have HT := Lib.hid (fun w' hok h => c_toCode c ab as_ cb cs w' hok h)
  have HSI := Lib.hid (fun a a' q q' w' hok h => c_sFitsPeriod c a a' q q' p w' hok h)
  have HI := Lib.hid (fun a a' q q' w' hok h hk => c_FitsPeriod c a a' q q' p w' hok h hk)
  have HE := Lib.hid (fun a a' b b' q q' r r' w' hok h h' => c_eqCode c a a' b b' q q' r r' w' hok h h')
  generalize fitsV c p = V at HSI HI
  generalize fitsC c p = E at HSI HI
  have HAB : Hid (Below w.heap.size w (w.alloc (.cells #[.int .i64 c.i, .int .i64 c.v, .int .i64 c.o, .slice ab c.bs.length cb, .slice as_ c.ss.length cs] 25))) := Lib.hid (below_alloc (Below.refl _ _) _)
  have HA : Hid (CB (w.alloc (.cells #[.int .i64 c.i, .int .i64 c.v, .int .i64 c.o, .slice ab c.bs.length cb, .slice as_ c.ss.length cs] 25)) w.heap.size c ab as_ cb cs) := Lib.hid ⟨by go_simp, by go_simp, by go_simp, by go_simp, by go_simp⟩
  go_enter Tryd.func5, Tryd.ntmps5
  dsimp only [cv]
  go_upto_region 1 with (fail)
  generalize w.alloc (.cells #[.int .i64 c.i, .int .i64 c.v, .int .i64 c.o, .slice ab c.bs.length cb, .slice as_ c.ss.length cs] 25) = W at *
  obtain ⟨a0, a1, a2, a3, a4⟩ := HA.out
  go_wp2_with (fail)
  refine (HZ.out _ (H.out.below HAB.out)).mono ?_
  rintro e w1 ⟨u, rfl, hu, hb⟩
  have HB1 := Lib.hid (below_chain HAB.out hb)
  have HA1 := Lib.hid (HA.out.below hb)
  clear hb HA HAB a0 a1 a2 a3 a4 HZ
  rcases hu with rfl | ⟨u0, u1, u2⟩
  · go_wp2_with (fail)
    go_ret
    exact ⟨rfl, HB1.out⟩
  have HOK := Lib.hid u2
  clear u2
  obtain ⟨a0, a1, a2, a3, a4⟩ := HA1.out
  go_wp2_with (fail)
  refine (HT.out _ HOK.out (H.out.below HB1.out)).mono ?_
  rintro e w2 ⟨A1, c1, A2, c2, rfl, ho1, ho2, hb⟩
  have HB2 := Lib.hid (below_chain HB1.out hb)
  have HA2 := Lib.hid (HA1.out.below hb)
  have HM := Lib.hid (show CdR w2 A1 A2 c from ⟨Rd.own ho1, Rd.own ho2⟩)
  clear hb ho1 ho2 HA1 HB1 a0 a1 a2 a3 a4
  dsimp only [cv]
  go_wp2_with (fail)
  refine (HSI.out _ _ _ _ _ HOK.out HM.out).mono ?_
  rintro e w3 ⟨rfl, hb⟩
  have HB3 := Lib.hid (below_chain HB2.out hb)
  have HA3 := Lib.hid (HA2.out.below hb)
  clear hb HA2 HB2 HM
  obtain ⟨a0, a1, a2, a3, a4⟩ := HA3.out
  go_wp2_with (fail)
  refine (HT.out _ HOK.out (H.out.below HB3.out)).mono ?_
  rintro e w4 ⟨A4, c4, A5, c5, rfl, ho1, ho2, hb⟩
  have HB4 := Lib.hid (below_chain HB3.out hb)
  have HA4 := Lib.hid (HA3.out.below hb)
  have HM4 := Lib.hid (show CdR w4 A4 A5 c from ⟨Rd.own ho1, Rd.own ho2⟩)
  clear hb ho1 ho2 HA3 HB3 a0 a1 a2 a3 a4
  dsimp only [cv]
  have HX4 : Hid (CB (w4.alloc (.cells #[.int .i64 c.i, .int .i64 c.v, .int .i64 c.o, .slice A4 c.bs.length c4, .slice A5 c.ss.length c5] 32)) w4.heap.size c A4 A5 c4 c5) := Lib.hid ⟨by go_simp, by go_simp, by go_simp, by go_simp, by go_simp⟩
  have HBa := Lib.hid (below_alloc (Below.refl w4.heap.size w4) (.cells #[.int .i64 c.i, .int .i64 c.v, .int .i64 c.o, .slice A4 c.bs.length c4, .slice A5 c.ss.length c5] 32))
  go_upto_region 7 with (fail)
  generalize w4.alloc (.cells #[.int .i64 c.i, .int .i64 c.v, .int .i64 c.o, .slice A4 c.bs.length c4, .slice A5 c.ss.length c5] 32) = W4 at *
  obtain ⟨x0, x1, x2, x3, x4⟩ := HX4.out
  have HB4a := Lib.hid (below_chain HB4.out HBa.out)
  go_wp2_with (fail)
  refine (HI.out _ _ _ _ _ HOK.out (HM4.out.below HBa.out) (HK.out.below HB4a.out)).mono ?_
  rintro e w5 ⟨rfl, hb⟩
  have HB5 := Lib.hid (below_chain HB4a.out hb)
  have HA5 := Lib.hid ((HA4.out.below HBa.out).below hb)
  have HX5 := Lib.hid (HX4.out.below hb)
  have HM5 := Lib.hid ((HM4.out.below HBa.out).below hb)
  clear hb HA4 HB4 HX4 HM4 HBa HB4a x0 x1 x2 x3 x4
  obtain ⟨a0, a1, a2, a3, a4⟩ := HA5.out
  obtain ⟨x0, x1, x2, x3, x4⟩ := HX5.out
  go_wp2_with (fail)
  refine wp_region_held_drew (S := (fun w' => (w'.cell? ⟨w4.heap.size, 0, none⟩ = some (.int .i64 c.i) ∧ w'.cell? ⟨w4.heap.size, 1, none⟩ = some (.int .i64 c.v) ∧ w'.cell? ⟨w4.heap.size, 2, none⟩ = some (.int .i64 c.o) ∧ w'.cell? ⟨w4.heap.size, 3, none⟩ = some (.slice A4 c.bs.length c4) ∧ w'.cell? ⟨w4.heap.size, 4, none⟩ = some (.slice A5 c.ss.length c5)) ∧ (w'.cell? ⟨w.heap.size, 0, none⟩ = some (.int .i64 c.i) ∧ w'.cell? ⟨w.heap.size, 1, none⟩ = some (.int .i64 c.v) ∧ w'.cell? ⟨w.heap.size, 2, none⟩ = some (.int .i64 c.o) ∧ w'.cell? ⟨w.heap.size, 3, none⟩ = some (.slice ab c.bs.length cb) ∧ w'.cell? ⟨w.heap.size, 4, none⟩ = some (.slice as_ c.ss.length cs)))) (by kernel_rfl) ?_ (fun hHeld => ?_)
  · exact ⟨⟨x0, x1, x2, x3, x4⟩, a0, a1, a2, a3, a4⟩
  refine rg_take (v := ?_) 0 rfl (by kernel_rfl) (by kernel_rfl) (by kernel_rfl) (fun _ _ _ h => h) (by kernel_rfl) ?_ (by assumption) ?_
  rotate_left
  · (intro w' hSw; (try dsimp only at hSw); go_simp; first | done | with_reducible rfl)
  simp only [Act.put, List.setIfInBounds_toArray, List.set_cons_zero, List.set_cons_succ]
  refine rg_take (v := ?_) 1 rfl (by kernel_rfl) (by kernel_rfl) (by kernel_rfl) (fun _ _ _ h => h) (by kernel_rfl) ?_ (by assumption) ?_
  rotate_left
  · (intro w' hSw; (try dsimp only at hSw); go_simp; first | done | with_reducible rfl)
  simp only [Act.put, List.setIfInBounds_toArray, List.set_cons_zero, List.set_cons_succ]
  refine rg_run 2 rfl (by kernel_rfl) (by kernel_rfl) (fun K hK => ?_)
  go_simp
  refine (HT.out _ HOK.out (H.out.below (by exact HB5.out.drew))).mono ?_
  rintro e w6 ⟨A6, c6, A7, c7, rfl, ho1, ho2, hb⟩
  have hbs : Below w5.heap.size w5 w6 := below_chain (Below.refl _ _).drew hb
  have HB6 := Lib.hid (below_chain HB5.out hbs)
  have HA6 := Lib.hid (HA5.out.below hbs)
  have HX6 := Lib.hid (HX5.out.below hbs)
  have HM6 := Lib.hid (HM5.out.below hbs)
  have HN6 := Lib.hid (show CdR w6 A6 A7 c from ⟨Rd.own ho1, Rd.own ho2⟩)
  clear hb hbs ho1 ho2 HA5 HB5 HX5 HM5 a0 a1 a2 a3 a4 x0 x1 x2 x3 x4
  obtain ⟨a0, a1, a2, a3, a4⟩ := HA6.out
  obtain ⟨x0, x1, x2, x3, x4⟩ := HX6.out
  dsimp only [cv]
  go_wp2
  clear hHeld
  refine hK.out _ _ (by exact ⟨⟨x0, x1, x2, x3, x4⟩, a0, a1, a2, a3, a4⟩) (fun hHeld => ?_)
  clear hK K
  try simp only [Act.put, List.setIfInBounds_toArray, List.set_cons_zero, List.set_cons_succ]
  refine rg_run 3 rfl (by kernel_rfl) (by kernel_rfl) (fun K hK => ?_)
  go_simp
  refine (HE.out _ _ _ _ _ _ _ _ _ HOK.out HM6.out HN6.out).mono ?_
  rintro e w7 ⟨rfl, hb⟩
  have HB7 := Lib.hid (below_chain HB6.out hb)
  have HA7 := Lib.hid (HA6.out.below hb)
  have HX7 := Lib.hid (HX6.out.below hb)
  clear hb HA6 HB6 HX6 HM6 HN6 a0 a1 a2 a3 a4 x0 x1 x2 x3 x4
  obtain ⟨a0, a1, a2, a3, a4⟩ := HA7.out
  obtain ⟨x0, x1, x2, x3, x4⟩ := HX7.out
  go_wp2
  clear hHeld
  refine hK.out _ _ (by exact ⟨⟨x0, x1, x2, x3, x4⟩, a0, a1, a2, a3, a4⟩) (fun hHeld => ?_)
  clear hK K
  try simp only [Act.put, List.setIfInBounds_toArray, List.set_cons_zero, List.set_cons_succ]
  refine rg_take (v := ?_) 4 rfl (by kernel_rfl) (by kernel_rfl) (by kernel_rfl) (fun _ _ _ h => h) (by kernel_rfl) ?_ (by assumption) ?_
  rotate_left
  · (intro w' hSw; (try dsimp only at hSw); go_simp; first | done | with_reducible rfl)
  simp only [Act.put, List.setIfInBounds_toArray, List.set_cons_zero, List.set_cons_succ]
  refine wpAnyH_done (by kernel_rfl) ?_ _
  clear hHeld
  go_wp2_with (fail)
  go_ret
  exact ⟨rfl, HB7.out⟩
end Go.Proofs.YtdkclhbonmpcbaaDoor
