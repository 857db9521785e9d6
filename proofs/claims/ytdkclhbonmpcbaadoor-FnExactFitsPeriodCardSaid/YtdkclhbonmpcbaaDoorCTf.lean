/- The reference's TimeOf, ScanTime, FitsPeriod. Condition: the lists' sizes. -/
import Derived.Test.YtdkclhbonmpcbaaDoorCSc
namespace Go.Proofs.YtdkclhbonmpcbaaDoor
open Go.RowKit

theorem hgt_fit {c : Cd} : ∀ (l : List Ins) (n m : Int), hgt c l n = some m → ∀ x ∈ l, fitB c x = true
  | [], _, _, _, x, hx => by simp at hx
  | y :: t, n, m, h, x, hx => by
    unfold hgt at h
    by_cases hc : fitB c y = true ∧ takI c y ≤ n ∧ n - takI c y + givI y ≤ 40
    · rw [if_pos hc] at h
      rcases List.mem_cons.1 hx with rfl | hx
      · exact hc.1
      · exact hgt_fit t _ _ h x hx
    · rw [if_neg hc] at h
      cases h
theorem code_parts {c : Cd} (h : codeB c = true) : Hd c ∧ (∀ t ∈ c.bs, blkB t = true) ∧ (∀ x ∈ c.ss, fitB c x = true) := by
  unfold codeB at h
  simp only [Bool.and_eq_true] at h
  obtain ⟨⟨h1, h2⟩, h3⟩ := h
  exact ⟨head_Hd h1, List.all_eq_true.1 h2, hgt_fit _ _ _ (of_decide_eq_true h3)⟩
def in0 : Ins := ⟨0, 0⟩
def timeC (c : Cd) (s : Int) : Int := if codeB c then (if inB s 0 ((c.ss.length : Int) - 1) then 0 else 4) else 1
def timeV (c : Cd) (s : Int) : Int := if timeC c s = 0 then timI c (c.ss.getD s.toNat in0) else 0
set_option maxHeartbeats 2000000 in
set_option maxRecDepth 100000 in
theorem c_sTimeOf (c : Cd) (ab as_ : Option Addr) (cb cs : Nat) (s : Int) (w : World) (hs : CdOk c) (h : CdR w ab as_ c) :
    Calls Tryd.prog 7 #[cv c ab as_ cb cs, .int .i64 s] w (Ret2 (timeV c s) (timeC c s) w) := by
  have HS := Lib.hid hs
  have HC := Lib.hid h
  have hl2 := hs.2
  have HAB : Hid (Below w.heap.size w (w.alloc (.cells #[.int .i64 c.i, .int .i64 c.v, .int .i64 c.o, .slice ab c.bs.length cb, .slice as_ c.ss.length cs] 32))) := Lib.hid (below_alloc (Below.refl _ _) _)
  have HA : Hid (CB (w.alloc (.cells #[.int .i64 c.i, .int .i64 c.v, .int .i64 c.o, .slice ab c.bs.length cb, .slice as_ c.ss.length cs] 32)) w.heap.size c ab as_ cb cs) := Lib.hid ⟨by go_simp, by go_simp, by go_simp, by go_simp, by go_simp⟩
  clear hs h
  go_enter Tryd.func7, Tryd.ntmps7
  dsimp only [cv]
  go_upto_region 1 with (fail)
  generalize w.alloc (.cells #[.int .i64 c.i, .int .i64 c.v, .int .i64 c.o, .slice ab c.bs.length cb, .slice as_ c.ss.length cs] 32) = W at *
  obtain ⟨a0, a1, a2, a3, a4⟩ := HA.out
  go_wp2_with (fail)
  refine (c_sIsCode c ab as_ cb cs _ HS.out (HC.out.below HAB.out)).mono ?_
  rintro e w1 ⟨rfl, hb⟩
  have HB1 := Lib.hid (below_chain HAB.out hb)
  have HA1 := Lib.hid (HA.out.below hb)
  clear hb HA HAB a0 a1 a2 a3 a4
  obtain ⟨a0, a1, a2, a3, a4⟩ := HA1.out
  rcases hc : codeB c with _ | _
  · have HV : Hid (timeC c s = 1 ∧ timeV c s = 0) := Lib.hid (by unfold timeV timeC; rw [hc]; exact ⟨rfl, rfl⟩)
    go_wp2_with (fail)
    refine bodyPost_ret (v := .tuple #[.int .i64 0, .int .i64 1]) (by simp [results, Tryd.results7, go_sem]) rfl (by rw [HV.out.1, HV.out.2]; exact ⟨rfl, HB1.out⟩)
  obtain ⟨hd, hbl, hft⟩ := code_parts hc
  have HD := Lib.hid hd
  have HBL := Lib.hid hbl
  have HFT := Lib.hid hft
  have HCC := Lib.hid hc
  clear hd hbl hft hc
  have hw : IntKind.i64.wrap ((c.ss.length : Int) - 1) = (c.ss.length : Int) - 1 := IntWalk.i64_in _ (by omega)
  rcases hi : inB s 0 ((c.ss.length : Int) - 1) with _ | _
  · have HV : Hid (timeC c s = 4 ∧ timeV c s = 0) := Lib.hid (by unfold timeV timeC; rw [HCC.out, hi]; exact ⟨rfl, rfl⟩)
    go_wp2_with (first
      | (go_at_call 18
         refine (c_l01In _ _ _ _).mono ?_
         rintro e w' ⟨rfl, rfl⟩)
      )
    refine bodyPost_ret (v := .tuple #[.int .i64 0, .int .i64 4]) (by simp [results, Tryd.results7, go_sem]) rfl (by rw [HV.out.1, HV.out.2]; exact ⟨rfl, HB1.out⟩)
  have hib := of_decide_eq_true hi
  obtain ⟨k, rfl⟩ : ∃ k : Nat, s = k := ⟨s.toNat, by omega⟩
  obtain ⟨x, hx⟩ : ∃ x, c.ss[k]? = some x := ⟨_, List.getElem?_eq_getElem (by omega)⟩
  have HV : Hid (timeC c k = 0 ∧ timeV c k = timI c x) := Lib.hid (by
    have h0 : timeC c k = 0 := by unfold timeC; rw [HCC.out, hi]; rfl
    refine ⟨h0, ?_⟩
    unfold timeV
    rw [if_pos h0, Int.toNat_natCast, List.getD_eq_getElem?_getD, hx]
    rfl)
  have HF1 := Lib.hid (HFT.out x (List.mem_of_getElem? hx))
  obtain ⟨b1, o1, rfl, _, g0, g1⟩ := (HC.out.below HB1.out).s.ins hx
  have hk0 : (0 : Int) ≤ (k : Int) := by omega
  have hk1 : (k : Int) < c.ss.length := by omega
  clear hx
  go_wp2_with (first
    | (go_at_call 18
       refine (c_l01In _ _ _ _).mono ?_
       rintro e w' ⟨rfl, rfl⟩)
    )
  refine wp_region_held_drew (S := (fun w' => (w'.cell? ⟨w.heap.size, 0, none⟩ = some (.int .i64 c.i) ∧ w'.cell? ⟨w.heap.size, 1, none⟩ = some (.int .i64 c.v) ∧ w'.cell? ⟨w.heap.size, 2, none⟩ = some (.int .i64 c.o) ∧ w'.cell? ⟨w.heap.size, 3, none⟩ = some (.slice ab c.bs.length cb) ∧ w'.cell? ⟨w.heap.size, 4, none⟩ = some (.slice (some ⟨b1, o1, none⟩) c.ss.length cs)) ∧ w'.cell? ⟨b1, o1 + k * 2, none⟩ = some (.int .i64 x.o) ∧ w'.cell? ⟨b1, o1 + k * 2 + 1, none⟩ = some (.int .i64 x.a))) (by kernel_rfl) ?_ (fun hHeld => ?_)
  · exact ⟨⟨a0, a1, a2, a3, a4⟩, g0, g1⟩
  refine rg_take (v := ?_) 0 rfl (by kernel_rfl) (by kernel_rfl) (by kernel_rfl) (fun _ _ _ h => h) (by kernel_rfl) ?_ (by assumption) ?_
  rotate_left
  · (intro w' hSw; (try dsimp only at hSw); go_simp; first | done | with_reducible rfl)
  simp only [Act.put, List.setIfInBounds_toArray, List.set_cons_zero, List.set_cons_succ]
  refine rg_take (v := ?_) 1 rfl (by kernel_rfl) (by kernel_rfl) (by kernel_rfl) (fun _ _ _ h => h) (by kernel_rfl) ?_ (by assumption) ?_
  rotate_left
  · (intro w' hSw; (try dsimp only at hSw); go_simp; first | done | with_reducible rfl)
  simp only [Act.put, List.setIfInBounds_toArray, List.set_cons_zero, List.set_cons_succ]
  refine rg_take (v := ?_) 2 rfl (by kernel_rfl) (by kernel_rfl) (by kernel_rfl) (fun _ _ _ h => h) (by kernel_rfl) ?_ (by assumption) ?_
  rotate_left
  · (intro w' hSw; (try dsimp only at hSw); go_simp; first | done | with_reducible rfl)
  simp only [Act.put, List.setIfInBounds_toArray, List.set_cons_zero, List.set_cons_succ]
  refine rg_take (v := ?_) 3 rfl (by kernel_rfl) (by kernel_rfl) (by kernel_rfl) (fun _ _ _ h => h) (by kernel_rfl) ?_ (by assumption) ?_
  rotate_left
  · (intro w' hSw; (try dsimp only at hSw); go_simp; first | done | with_reducible rfl)
  simp only [Act.put, List.setIfInBounds_toArray, List.set_cons_zero, List.set_cons_succ]
  refine rg_take (v := ?_) 4 rfl (by kernel_rfl) (by kernel_rfl) (by kernel_rfl) (fun _ _ _ h => h) (by kernel_rfl) ?_ (by assumption) ?_
  rotate_left
  · (intro w' hSw; (try dsimp only at hSw); go_simp; first | done | with_reducible rfl)
  simp only [Act.put, List.setIfInBounds_toArray, List.set_cons_zero, List.set_cons_succ]
  refine rg_take (v := ?_) 5 rfl (by kernel_rfl) (by kernel_rfl) (by kernel_rfl) (fun _ _ _ h => h) (by kernel_rfl) ?_ (by assumption) ?_
  rotate_left
  · (intro w' hSw; (try dsimp only at hSw); go_simp; first | done | with_reducible rfl)
  simp only [Act.put, List.setIfInBounds_toArray, List.set_cons_zero, List.set_cons_succ]
  refine rg_run 6 rfl (by kernel_rfl) (by kernel_rfl) (fun K hK => ?_)
  go_simp
  refine (c_l19Time c ab (some ⟨b1, o1, none⟩) cb cs x _ HD.out HBL.out HF1.out ((HC.out.below HB1.out).below (Below.refl _ _).drew)).mono ?_
  rintro e w2 ⟨rfl, hb2⟩
  have hbs : Below w1.heap.size w1 w2 := below_chain (Below.refl _ _).drew hb2
  have HB2 := Lib.hid (below_chain HB1.out hbs)
  have HA2 := Lib.hid (HA1.out.below hbs)
  replace g0 := cell_later hbs g0
  replace g1 := cell_later hbs g1
  clear a0 a1 a2 a3 a4 hbs hb2
  obtain ⟨a0, a1, a2, a3, a4⟩ := HA2.out
  go_wp2
  clear hHeld
  refine hK.out _ _ (by exact ⟨⟨a0, a1, a2, a3, a4⟩, g0, g1⟩) (fun hHeld => ?_)
  clear hK K
  try simp only [Act.put, List.setIfInBounds_toArray, List.set_cons_zero, List.set_cons_succ]
  refine rg_take (v := ?_) 7 rfl (by kernel_rfl) (by kernel_rfl) (by kernel_rfl) (fun _ _ _ h => h) (by kernel_rfl) ?_ (by assumption) ?_
  rotate_left
  · (intro w' hSw; (try dsimp only at hSw); go_simp; first | done | with_reducible rfl)
  simp only [Act.put, List.setIfInBounds_toArray, List.set_cons_zero, List.set_cons_succ]
  refine rg_take (v := ?_) 8 rfl (by kernel_rfl) (by kernel_rfl) (by kernel_rfl) (fun _ _ _ h => h) (by kernel_rfl) ?_ (by assumption) ?_
  rotate_left
  · (intro w' hSw; (try dsimp only at hSw); go_simp; first | done | with_reducible rfl)
  simp only [Act.put, List.setIfInBounds_toArray, List.set_cons_zero, List.set_cons_succ]
  refine wpAnyH_done (by kernel_rfl) ?_ _
  clear hHeld
  clear a0 a1 a2 a3 a4 g0 g1
  go_wp2_with (fail)
  refine bodyPost_ret (v := .tuple #[.int .i64 (timI c x), .int .i64 0]) (by simp [results, Tryd.results7, go_sem]) rfl (by rw [HV.out.1, HV.out.2]; exact ⟨rfl, HB2.out⟩)
end Go.Proofs.YtdkclhbonmpcbaaDoor
