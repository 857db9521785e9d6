/- The times on the program's side: time, TimeOf, ScanTime, FitsPeriod. Condition: the lists' sizes; the keywords lie there. -/
import Derived.Test.YtdkclhbonmpcbaaDoorCIe
namespace Go.Proofs.YtdkclhbonmpcbaaDoor
open Go.RowKit

set_option maxHeartbeats 2000000 in
set_option maxRecDepth 100000 in
theorem c_time (c : Cd) (ab as_ : Option Addr) (cb cs : Nat) (w : World) (hd : Hd c) (hbl : ∀ t ∈ c.bs, blkB t = true) (hf : ∀ x ∈ c.ss, fitB c x = true) (h : CdR w ab as_ c) :
    Calls Tryd.prog 29 #[cv c ab as_ cb cs, .slice as_ c.ss.length cs] w fun e w' => e = .returned (.int .i64 (sumK c c.ss.length)) ∧ Below w.heap.size w w' := by
  have HD := Lib.hid hd
  have HC := Lib.hid h
  have HBL := Lib.hid hbl
  have HFT := Lib.hid hf
  have hln := hd.s
  have HAB : Hid (Below w.heap.size w (w.alloc (.cells #[.int .i64 c.i, .int .i64 c.v, .int .i64 c.o, .slice ab c.bs.length cb, .slice as_ c.ss.length cs] 32))) := Lib.hid (below_alloc (Below.refl _ _) _)
  have HA : Hid (CB (w.alloc (.cells #[.int .i64 c.i, .int .i64 c.v, .int .i64 c.o, .slice ab c.bs.length cb, .slice as_ c.ss.length cs] 32)) w.heap.size c ab as_ cb cs) := Lib.hid ⟨by go_simp, by go_simp, by go_simp, by go_simp, by go_simp⟩
  clear hd h hbl hf
  go_enter Tryd.func29, Tryd.ntmps29
  dsimp only [cv]
  go_wp2_with (fail)
  generalize w.alloc (.cells #[.int .i64 c.i, .int .i64 c.v, .int .i64 c.o, .slice ab c.bs.length cb, .slice as_ c.ss.length cs] 32) = W at *
  go_loopw [5, 7, 10] (fun t _ i wr => ∃ k : Nat, k ≤ c.ss.length ∧ i = .int .i64 k ∧ t = .int .i64 (sumK c k) ∧ Hid (Below w.heap.size w wr) ∧ Hid (CB wr w.heap.size c ab as_ cb cs)) (fun _ _ i _ => c.ss.length - (intOf i).toNat)
  case atStart => exact ⟨0, Nat.zero_le _, rfl, rfl, HAB, HA⟩
  case round =>
    obtain ⟨k, hk, rfl, rfl, hb, ha⟩ := hrel
    clear HAB HA
    by_cases hlt : k < c.ss.length
    · obtain ⟨x, hx⟩ : ∃ x, c.ss[k]? = some x := ⟨_, List.getElem?_eq_getElem hlt⟩
      have HX := Lib.hid (sumK_step hx)
      have hsb := sumK_bd HD.out k hk
      have htb := tim_bd HD.out x
      have HF1 := Lib.hid (HFT.out x (List.mem_of_getElem? hx))
      obtain ⟨b1, o1, rfl, _, g0, g1⟩ := (HC.out.below hb.out).s.ins hx
      have hk0 : (0 : Int) ≤ (k : Int) := by omega
      have hk1 : (k : Int) < c.ss.length := by omega
      have HX0 : Hid (XB (wr.alloc (.cells #[.int .i64 x.o, .int .i64 x.a] 46)) wr.heap.size x) := Lib.hid ⟨by go_simp, by go_simp⟩
      have HBa := Lib.hid (below_alloc (Below.refl wr.heap.size wr) (.cells #[.int .i64 x.o, .int .i64 x.a] 46))
      clear hx
      generalize sumK c k = S at *
      go_upto_region 5 with (fail)
      generalize wr.alloc (.cells #[.int .i64 x.o, .int .i64 x.a] 46) = W1 at *
      have HA1 := Lib.hid (ha.out.below HBa.out)
      have HB1 := Lib.hid (below_chain hb.out HBa.out)
      clear ha hb HBa g0 g1
      obtain ⟨a0, a1, a2, a3, a4⟩ := HA1.out
      obtain ⟨g0, g1⟩ := HX0.out
      generalize wr.heap.size = bx at *
      have hw : IntKind.i64.wrap (S + timI c x) = S + timI c x := IntWalk.i64_in _ (by omega)
      go_wp2_with (fail)
      refine (c_timeOf c ab (some ⟨b1, o1, none⟩) cb cs x _ HD.out HBL.out HF1.out (HC.out.below HB1.out)).mono ?_
      rintro e w2 ⟨rfl, hb2⟩
      have HA2 := Lib.hid (HA1.out.below hb2)
      have HB2 := Lib.hid (below_chain HB1.out hb2)
      clear a0 a1 a2 a3 a4 g0 g1 hb2 HA1 HB1 HX0
      go_wp2_with (fail)
      go_roundw
      case rel => exact ⟨k + 1, by omega, by go_num, by rw [HX.out], HB2, HA2⟩
      case measure => simp [intOf]; omega
    · obtain rfl : k = c.ss.length := by omega
      go_wp2_with (fail)
      go_ret
      exact ⟨rfl, hb.out⟩
set_option maxRecDepth 100000 in
theorem c_lengthI (A : Option Addr) (c n : Nat) (w : World) (hn : n ≤ 1048576) : Calls Tryd.prog 24 #[.slice A n c] w fun e w' => e = .returned (.int .i64 n) ∧ w = w' := by
  have hw : IntKind.i64.wrap (n : Int) = n := IntWalk.i64_in _ (by omega)
  go_enter Tryd.func24, Tryd.ntmps24
  go_wp2_with (fail)
  go_ret
  exact ⟨rfl, rfl⟩
set_option maxHeartbeats 2000000 in
set_option maxRecDepth 100000 in
theorem c_ScanTime (c : Cd) (ab as_ : Option Addr) (cb cs : Nat) (w : World) (hs : CdOk c) (h : CdR w ab as_ c) (hk : Strs w 0 17) :
    Calls Tryd.prog 12 #[cv c ab as_ cb cs] w (Ret2 (scanV c) (scanC c) w) := by
  have HS := Lib.hid hs
  have HK := Lib.hid hk
  have HC := Lib.hid h
  have hl2 := hs.2
  have HAB : Hid (Below w.heap.size w (w.alloc (.cells #[.int .i64 c.i, .int .i64 c.v, .int .i64 c.o, .slice ab c.bs.length cb, .slice as_ c.ss.length cs] 32))) := Lib.hid (below_alloc (Below.refl _ _) _)
  have HA : Hid (CB (w.alloc (.cells #[.int .i64 c.i, .int .i64 c.v, .int .i64 c.o, .slice ab c.bs.length cb, .slice as_ c.ss.length cs] 32)) w.heap.size c ab as_ cb cs) := Lib.hid ⟨by go_simp, by go_simp, by go_simp, by go_simp, by go_simp⟩
  clear hs h hk
  go_enter Tryd.func12, Tryd.ntmps12
  dsimp only [cv]
  go_upto_region 1 with (fail)
  generalize w.alloc (.cells #[.int .i64 c.i, .int .i64 c.v, .int .i64 c.o, .slice ab c.bs.length cb, .slice as_ c.ss.length cs] 32) = W at *
  obtain ⟨a0, a1, a2, a3, a4⟩ := HA.out
  go_wp2_with (fail)
  refine (c_IsCode c ab as_ cb cs _ HS.out (HC.out.below HAB.out) (HK.out.below HAB.out)).mono ?_
  rintro e w1 ⟨rfl, hb⟩
  have HB1 := Lib.hid (below_chain HAB.out hb)
  have HA1 := Lib.hid (HA.out.below hb)
  clear hb HA HAB a0 a1 a2 a3 a4
  obtain ⟨a0, a1, a2, a3, a4⟩ := HA1.out
  rcases hc : codeB c with _ | _
  · have HV : Hid (scanC c = 1 ∧ scanV c = 0) := Lib.hid (by unfold scanV scanC; rw [hc]; exact ⟨rfl, rfl⟩)
    go_wp2_with (fail)
    refine bodyPost_ret (v := .tuple #[.int .i64 0, .int .i64 1]) (by simp [results, Tryd.results12, go_sem]) rfl (by rw [HV.out.1, HV.out.2]; exact ⟨rfl, HB1.out⟩)
  obtain ⟨hd, hbl, hft⟩ := code_parts hc
  have HD := Lib.hid hd
  have HBL := Lib.hid hbl
  have HFT := Lib.hid hft
  have HCC := Lib.hid hc
  clear hd hbl hft hc
  have HV : Hid (scanC c = 0 ∧ scanV c = sumK c c.ss.length) := Lib.hid (by unfold scanV scanC; rw [HCC.out]; exact ⟨rfl, rfl⟩)
  go_wp2_with (fail)
  refine (c_time c ab as_ cb cs _ HD.out HBL.out HFT.out (HC.out.below HB1.out)).mono ?_
  rintro e w2 ⟨rfl, hb⟩
  have HB2 := Lib.hid (below_chain HB1.out hb)
  clear hb a0 a1 a2 a3 a4
  go_wp2_with (fail)
  refine bodyPost_ret (v := .tuple #[.int .i64 (sumK c c.ss.length), .int .i64 0]) (by simp [results, Tryd.results12, go_sem]) rfl (by rw [HV.out.1, HV.out.2]; exact ⟨rfl, HB2.out⟩)
set_option maxHeartbeats 2000000 in
set_option maxRecDepth 100000 in
theorem c_FitsPeriod (c : Cd) (ab as_ : Option Addr) (cb cs : Nat) (p : Int) (w : World) (hs : CdOk c) (h : CdR w ab as_ c) (hk : Strs w 0 17) :
    Calls Tryd.prog 14 #[cv c ab as_ cb cs, .int .i64 p] w (RetBC (fitsV c p) (fitsC c p) w) := by
  have HS := Lib.hid hs
  have HK := Lib.hid hk
  have HC := Lib.hid h
  have hl2 := hs.2
  have HAB : Hid (Below w.heap.size w (w.alloc (.cells #[.int .i64 c.i, .int .i64 c.v, .int .i64 c.o, .slice ab c.bs.length cb, .slice as_ c.ss.length cs] 32))) := Lib.hid (below_alloc (Below.refl _ _) _)
  have HA : Hid (CB (w.alloc (.cells #[.int .i64 c.i, .int .i64 c.v, .int .i64 c.o, .slice ab c.bs.length cb, .slice as_ c.ss.length cs] 32)) w.heap.size c ab as_ cb cs) := Lib.hid ⟨by go_simp, by go_simp, by go_simp, by go_simp, by go_simp⟩
  clear hs h hk
  go_enter Tryd.func14, Tryd.ntmps14
  dsimp only [cv]
  go_upto_region 1 with (fail)
  generalize w.alloc (.cells #[.int .i64 c.i, .int .i64 c.v, .int .i64 c.o, .slice ab c.bs.length cb, .slice as_ c.ss.length cs] 32) = W at *
  obtain ⟨a0, a1, a2, a3, a4⟩ := HA.out
  go_wp2_with (fail)
  refine (c_IsCode c ab as_ cb cs _ HS.out (HC.out.below HAB.out) (HK.out.below HAB.out)).mono ?_
  rintro e w1 ⟨rfl, hb⟩
  have HB1 := Lib.hid (below_chain HAB.out hb)
  have HA1 := Lib.hid (HA.out.below hb)
  clear hb HA HAB a0 a1 a2 a3 a4
  obtain ⟨a0, a1, a2, a3, a4⟩ := HA1.out
  rcases hc : codeB c with _ | _
  · have HV : Hid (fitsC c p = 1 ∧ fitsV c p = false) := Lib.hid (by unfold fitsV fitsC; rw [hc]; exact ⟨rfl, rfl⟩)
    go_wp2_with (fail)
    refine bodyPost_ret (v := .tuple #[.bool false, .int .i64 1]) (by simp [results, Tryd.results14, go_sem]) rfl (by rw [HV.out.1, HV.out.2]; exact ⟨rfl, HB1.out⟩)
  obtain ⟨hd, hbl, hft⟩ := code_parts hc
  have HD := Lib.hid hd
  have HBL := Lib.hid hbl
  have HFT := Lib.hid hft
  have HCC := Lib.hid hc
  clear hd hbl hft hc
  rcases hi : inB p 1 1000000 with _ | _
  · have HV : Hid (fitsC c p = 2 ∧ fitsV c p = false) := Lib.hid (by unfold fitsV fitsC; rw [HCC.out, hi]; exact ⟨rfl, rfl⟩)
    go_wp2_with (first
      | (go_at_call 31
         refine (c_isPeriod _ _).mono ?_
         rintro e w' ⟨rfl, rfl⟩)
      )
    refine bodyPost_ret (v := .tuple #[.bool false, .int .i64 2]) (by simp [results, Tryd.results14, go_sem]) rfl (by rw [HV.out.1, HV.out.2]; exact ⟨rfl, HB1.out⟩)
  have HV : Hid (fitsC c p = 0 ∧ fitsV c p = decide (sumK c c.ss.length ≤ p)) := Lib.hid (by
    have h0 : fitsC c p = 0 := by unfold fitsC; rw [HCC.out, hi]; rfl
    exact ⟨h0, by unfold fitsV; rw [if_pos h0]⟩)
  go_wp2_with (first
    | (go_at_call 31
       refine (c_isPeriod _ _).mono ?_
       rintro e w' ⟨rfl, rfl⟩)
    )
  refine (c_time c ab as_ cb cs _ HD.out HBL.out HFT.out (HC.out.below HB1.out)).mono ?_
  rintro e w2 ⟨rfl, hb⟩
  have HB2 := Lib.hid (below_chain HB1.out hb)
  clear hb a0 a1 a2 a3 a4
  go_wp2_with (fail)
  refine bodyPost_ret (v := .tuple #[.bool (decide (sumK c c.ss.length ≤ p)), .int .i64 0]) (by simp [results, Tryd.results14, go_sem]) rfl (by rw [HV.out.1, HV.out.2]; exact ⟨rfl, HB2.out⟩)
set_option maxHeartbeats 2000000 in
set_option maxRecDepth 100000 in
theorem c_TimeOf (c : Cd) (ab as_ : Option Addr) (cb cs : Nat) (s : Int) (w : World) (hs : CdOk c) (h : CdR w ab as_ c) (hk : Strs w 0 17) :
    Calls Tryd.prog 9 #[cv c ab as_ cb cs, .int .i64 s] w (Ret2 (timeV c s) (timeC c s) w) := by
  have HS := Lib.hid hs
  have HK := Lib.hid hk
  have HC := Lib.hid h
  have hl2 := hs.2
  have HAB : Hid (Below w.heap.size w (w.alloc (.cells #[.int .i64 c.i, .int .i64 c.v, .int .i64 c.o, .slice ab c.bs.length cb, .slice as_ c.ss.length cs] 32))) := Lib.hid (below_alloc (Below.refl _ _) _)
  have HA : Hid (CB (w.alloc (.cells #[.int .i64 c.i, .int .i64 c.v, .int .i64 c.o, .slice ab c.bs.length cb, .slice as_ c.ss.length cs] 32)) w.heap.size c ab as_ cb cs) := Lib.hid ⟨by go_simp, by go_simp, by go_simp, by go_simp, by go_simp⟩
  clear hs h hk
  go_enter Tryd.func9, Tryd.ntmps9
  dsimp only [cv]
  go_upto_region 1 with (fail)
  generalize w.alloc (.cells #[.int .i64 c.i, .int .i64 c.v, .int .i64 c.o, .slice ab c.bs.length cb, .slice as_ c.ss.length cs] 32) = W at *
  obtain ⟨a0, a1, a2, a3, a4⟩ := HA.out
  go_wp2_with (fail)
  refine (c_IsCode c ab as_ cb cs _ HS.out (HC.out.below HAB.out) (HK.out.below HAB.out)).mono ?_
  rintro e w1 ⟨rfl, hb⟩
  have HB1 := Lib.hid (below_chain HAB.out hb)
  have HA1 := Lib.hid (HA.out.below hb)
  clear hb HA HAB a0 a1 a2 a3 a4
  obtain ⟨a0, a1, a2, a3, a4⟩ := HA1.out
  rcases hc : codeB c with _ | _
  · have HV : Hid (timeC c s = 1 ∧ timeV c s = 0) := Lib.hid (by unfold timeV timeC; rw [hc]; exact ⟨rfl, rfl⟩)
    go_wp2_with (fail)
    refine bodyPost_ret (v := .tuple #[.int .i64 0, .int .i64 1]) (by simp [results, Tryd.results9, go_sem]) rfl (by rw [HV.out.1, HV.out.2]; exact ⟨rfl, HB1.out⟩)
  obtain ⟨hd, hbl, hft⟩ := code_parts hc
  have HD := Lib.hid hd
  have HBL := Lib.hid hbl
  have HFT := Lib.hid hft
  have HCC := Lib.hid hc
  clear hd hbl hft hc
  have hw : IntKind.i64.wrap ((c.ss.length : Int) - 1) = (c.ss.length : Int) - 1 := IntWalk.i64_in _ (by omega)
  rcases hi : inB s 0 ((c.ss.length : Int) - 1) with _ | _
  · have HV : Hid (timeC c s = 4 ∧ timeV c s = 0) := Lib.hid (by unfold timeV timeC; rw [HCC.out, hi]; exact ⟨rfl, rfl⟩)
    go_wp2_with (first
      | (go_at_call 23
         refine (c_within _ _ _ _).mono ?_
         rintro e w' ⟨rfl, rfl⟩)
      | (go_at_call 24
         refine (c_lengthI _ _ _ _ hl2).mono ?_
         rintro e w' ⟨rfl, rfl⟩)
      )
    refine bodyPost_ret (v := .tuple #[.int .i64 0, .int .i64 4]) (by simp [results, Tryd.results9, go_sem]) rfl (by rw [HV.out.1, HV.out.2]; exact ⟨rfl, HB1.out⟩)
  have hib := of_decide_eq_true hi
  obtain ⟨k, rfl⟩ : ∃ k : Nat, s = k := ⟨s.toNat, by omega⟩
  obtain ⟨x, hx⟩ : ∃ x, c.ss[k]? = some x := ⟨_, List.getElem?_eq_getElem (by omega)⟩
  have HV : Hid (timeC c k = 0 ∧ timeV c k = timI c x) := Lib.hid (by
    have h0 : timeC c k = 0 := by unfold timeC; rw [HCC.out, hi]; rfl
    refine ⟨h0, ?_⟩
    unfold timeV
    rw [if_pos h0, Int.toNat_natCast, List.getD_eq_getElem?_getD, hx]
    rfl)
  have HF1 := Lib.hid (HFT.out x (List.mem_of_getElem? hx))
  obtain ⟨b1, o1, rfl, _, g0, g1⟩ := (HC.out.below HB1.out).s.ins hx
  have hk0 : (0 : Int) ≤ (k : Int) := by omega
  have hk1 : (k : Int) < c.ss.length := by omega
  clear hx
  go_wp2_with (first
    | (go_at_call 23
       refine (c_within _ _ _ _).mono ?_
       rintro e w' ⟨rfl, rfl⟩)
    | (go_at_call 24
       refine (c_lengthI _ _ _ _ hl2).mono ?_
       rintro e w' ⟨rfl, rfl⟩)
    )
  refine wp_region_held_drew (S := (fun w' => (w'.cell? ⟨w.heap.size, 0, none⟩ = some (.int .i64 c.i) ∧ w'.cell? ⟨w.heap.size, 1, none⟩ = some (.int .i64 c.v) ∧ w'.cell? ⟨w.heap.size, 2, none⟩ = some (.int .i64 c.o) ∧ w'.cell? ⟨w.heap.size, 3, none⟩ = some (.slice ab c.bs.length cb) ∧ w'.cell? ⟨w.heap.size, 4, none⟩ = some (.slice (some ⟨b1, o1, none⟩) c.ss.length cs)) ∧ w'.cell? ⟨b1, o1 + k * 2, none⟩ = some (.int .i64 x.o) ∧ w'.cell? ⟨b1, o1 + k * 2 + 1, none⟩ = some (.int .i64 x.a))) (by kernel_rfl) ?_ (fun hHeld => ?_)
  · exact ⟨⟨a0, a1, a2, a3, a4⟩, g0, g1⟩
  refine rg_take (v := ?_) 0 rfl (by kernel_rfl) (by kernel_rfl) (by kernel_rfl) (fun _ _ _ h => h) (by kernel_rfl) ?_ (by assumption) ?_
  rotate_left
  · (intro w' hSw; (try dsimp only at hSw); go_simp; first | done | with_reducible rfl)
  simp only [Act.put, List.setIfInBounds_toArray, List.set_cons_zero, List.set_cons_succ]
  refine rg_take (v := ?_) 1 rfl (by kernel_rfl) (by kernel_rfl) (by kernel_rfl) (fun _ _ _ h => h) (by kernel_rfl) ?_ (by assumption) ?_
  rotate_left
  · (intro w' hSw; (try dsimp only at hSw); go_simp; first | done | with_reducible rfl)
  simp only [Act.put, List.setIfInBounds_toArray, List.set_cons_zero, List.set_cons_succ]
  refine rg_take (v := ?_) 2 rfl (by kernel_rfl) (by kernel_rfl) (by kernel_rfl) (fun _ _ _ h => h) (by kernel_rfl) ?_ (by assumption) ?_
  rotate_left
  · (intro w' hSw; (try dsimp only at hSw); go_simp; first | done | with_reducible rfl)
  simp only [Act.put, List.setIfInBounds_toArray, List.set_cons_zero, List.set_cons_succ]
  refine rg_take (v := ?_) 3 rfl (by kernel_rfl) (by kernel_rfl) (by kernel_rfl) (fun _ _ _ h => h) (by kernel_rfl) ?_ (by assumption) ?_
  rotate_left
  · (intro w' hSw; (try dsimp only at hSw); go_simp; first | done | with_reducible rfl)
  simp only [Act.put, List.setIfInBounds_toArray, List.set_cons_zero, List.set_cons_succ]
  refine rg_take (v := ?_) 4 rfl (by kernel_rfl) (by kernel_rfl) (by kernel_rfl) (fun _ _ _ h => h) (by kernel_rfl) ?_ (by assumption) ?_
  rotate_left
  · (intro w' hSw; (try dsimp only at hSw); go_simp; first | done | with_reducible rfl)
  simp only [Act.put, List.setIfInBounds_toArray, List.set_cons_zero, List.set_cons_succ]
  refine rg_take (v := ?_) 5 rfl (by kernel_rfl) (by kernel_rfl) (by kernel_rfl) (fun _ _ _ h => h) (by kernel_rfl) ?_ (by assumption) ?_
  rotate_left
  · (intro w' hSw; (try dsimp only at hSw); go_simp; first | done | with_reducible rfl)
  simp only [Act.put, List.setIfInBounds_toArray, List.set_cons_zero, List.set_cons_succ]
  refine rg_run 6 rfl (by kernel_rfl) (by kernel_rfl) (fun K hK => ?_)
  go_simp
  refine (c_timeOf c ab (some ⟨b1, o1, none⟩) cb cs x _ HD.out HBL.out HF1.out ((HC.out.below HB1.out).below (Below.refl _ _).drew)).mono ?_
  rintro e w2 ⟨rfl, hb2⟩
  have hbs : Below w1.heap.size w1 w2 := below_chain (Below.refl _ _).drew hb2
  have HB2 := Lib.hid (below_chain HB1.out hbs)
  have HA2 := Lib.hid (HA1.out.below hbs)
  replace g0 := cell_later hbs g0
  replace g1 := cell_later hbs g1
  clear a0 a1 a2 a3 a4 hbs hb2
  obtain ⟨a0, a1, a2, a3, a4⟩ := HA2.out
  go_wp2
  clear hHeld
  refine hK.out _ _ (by exact ⟨⟨a0, a1, a2, a3, a4⟩, g0, g1⟩) (fun hHeld => ?_)
  clear hK K
  try simp only [Act.put, List.setIfInBounds_toArray, List.set_cons_zero, List.set_cons_succ]
  refine rg_take (v := ?_) 7 rfl (by kernel_rfl) (by kernel_rfl) (by kernel_rfl) (fun _ _ _ h => h) (by kernel_rfl) ?_ (by assumption) ?_
  rotate_left
  · (intro w' hSw; (try dsimp only at hSw); go_simp; first | done | with_reducible rfl)
  simp only [Act.put, List.setIfInBounds_toArray, List.set_cons_zero, List.set_cons_succ]
  refine rg_take (v := ?_) 8 rfl (by kernel_rfl) (by kernel_rfl) (by kernel_rfl) (fun _ _ _ h => h) (by kernel_rfl) ?_ (by assumption) ?_
  rotate_left
  · (intro w' hSw; (try dsimp only at hSw); go_simp; first | done | with_reducible rfl)
  simp only [Act.put, List.setIfInBounds_toArray, List.set_cons_zero, List.set_cons_succ]
  refine wpAnyH_done (by kernel_rfl) ?_ _
  clear hHeld
  clear a0 a1 a2 a3 a4 g0 g1
  go_wp2_with (fail)
  refine bodyPost_ret (v := .tuple #[.int .i64 (timI c x), .int .i64 0]) (by simp [results, Tryd.results9, go_sem]) rfl (by rw [HV.out.1, HV.out.2]; exact ⟨rfl, HB2.out⟩)
end Go.Proofs.YtdkclhbonmpcbaaDoor
