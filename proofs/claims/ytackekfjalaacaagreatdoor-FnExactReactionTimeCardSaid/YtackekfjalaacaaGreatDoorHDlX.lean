/- Reaction times, both sides. Condition: the lengths; the keywords lie there. -/
import Derived.Test.YtackekfjalaacaaGreatDoorH2
import Derived.Test.YtackekfjalaacaaGreatDoorQTi
import Derived.Test.YtackekfjalaacaaGreatDoorQCk
namespace Go.Proofs.YtackekfjalaacaaGreatDoor
open Go.RowKit

set_option maxRecDepth 100000 in
theorem c_l19Period (p : Int) (w : World) : Calls Tryz.prog 41 #[.int .i64 p] w fun e w' => e = .returned (.bool (inB p 1 1000000)) ∧ w = w' := by
  go_enter Tryz.func41, Tryz.ntmps41
  go_wp2_with (fail)
  refine (c_l01In _ _ _ _).mono ?_
  rintro e w1 ⟨rfl, rfl⟩
  go_wp2_with (fail)
  go_ret
  exact ⟨rfl, rfl⟩
set_option maxRecDepth 100000 in
theorem c_isPeriod (p : Int) (w : World) : Calls Tryz.prog 46 #[.int .i64 p] w fun e w' => e = .returned (.bool (inB p 1 1000000)) ∧ w = w' := by
  go_enter Tryz.func46, Tryz.ntmps46
  go_wp2_with (fail)
  refine (c_within _ _ _ _).mono ?_
  rintro e w1 ⟨rfl, rfl⟩
  go_wp2_with (fail)
  go_ret
  exact ⟨rfl, rfl⟩
theorem sumT_K (c : Cd) : sumT c c.ss = sumK c c.ss.length := by unfold sumK; rw [List.take_length]
def rtC (p : Prg) (inp out : ByteArray) (per : Int) : Int := if (wrB p && fltB p) then (if inB per 1 1000000 then dlyC p inp out else 2) else dlyC p inp out
def rtV (p : Prg) (inp out : ByteArray) (per : Int) : Int := if rtC p inp out per = 0 then IntKind.i64.wrap (IntKind.i64.wrap (dlyV p inp out * per) + sumK (cmp p) (cmp p).ss.length) else 0
theorem dly_ok {p : Prg} {inp out : ByteArray} (e : dlyC p inp out = 0) : Snd p ∧ PgB p ∧ 0 ≤ ixS (tgs p) out ∧ dlyR p inp out = dlyV p inp out := by
  have e0 := e
  unfold dlyC at e
  by_cases h1 : (wrB p && fltB p) = true
  · rw [if_pos h1] at e
    by_cases h2 : (memS p.ins inp && memS p.os out) = true
    · rw [Bool.and_eq_true] at h2
      exact ⟨snd_of h1, (snd_of h1).b, out_ix h1 h2.2, by unfold dlyR; rw [e0, if_pos rfl]⟩
    · rw [if_neg h2] at e; cases e
  · rw [if_neg h1] at e; cases e
set_option maxHeartbeats 1000000 in
set_option maxRecDepth 100000 in
theorem c_sReact (p : Prg) (a1 a2 a3 a4 : Option Addr) (c1 c2 c3 c4 : Nat) (inp out : ByteArray) (per : Int) (w : World) (hs : PgOk p) (hz : PgZ a1 a2 a3 c1 c2 c3) (h : PgR w a1 a2 a3 a4 p) :
    Calls Tryz.prog 15 #[pv p a1 a2 a3 a4 c1 c2 c3 c4, .string inp, .string out, .int .i64 per] w (RetP (rtV p inp out per) (rtC p inp out per) w) := by
  have H := Lib.hid h
  have HSO := Lib.hid (fun w h => c_sIsSound p a1 a2 a3 a4 c1 c2 c3 c4 w hs hz h)
  have HC := Lib.hid (fun w h => c_l19Code p a1 a2 a3 a4 c1 c2 c3 c4 inp out w hs hz h)
  have HD := Lib.hid (fun w hbd hout h => c_l19Delay p a1 a2 a3 a4 c1 c2 c3 c4 inp out w hs hbd hout h)
  have HCO := Lib.hid (fun w hd h => c_l17Compile p a1 a2 a3 a4 c1 c2 c3 c4 w hs hd h)
  have HSC := Lib.hid (fun ab as_ cb cs w (hd : Snd p) h => c_l19Scan (cmp p) ab as_ cb cs w (hd_cmp hd) (blk_cmp hd) (fit_cmp hd) h)
  have HV : Hid (rtC p inp out per = if (wrB p && fltB p) then (if inB per 1 1000000 then dlyC p inp out else 2) else dlyC p inp out) := Lib.hid rfl
  have HR : Hid (rtV p inp out per = if rtC p inp out per = 0 then IntKind.i64.wrap (IntKind.i64.wrap (dlyV p inp out * per) + sumK (cmp p) (cmp p).ss.length) else 0) := Lib.hid rfl
  have HN1 : Hid ((wrB p && fltB p) = false → dlyC p inp out = 1) := Lib.hid (fun e => by unfold dlyC; rw [if_neg (by rw [e]; decide)])
  have HOK := Lib.hid (dly_ok (p := p) (inp := inp) (out := out))
  have HPE := Lib.hid (fun w => c_l19Period per w)
  generalize rtV p inp out per = V at *
  generalize rtC p inp out per = R at *
  generalize (wrB p && fltB p) = s at *
  generalize inB per 1 1000000 = u at *
  have B0 := Lib.hid (below_alloc (Below.refl w.heap.size w) (.cells #[.string p.nm, .slice a1 p.ins.length c1, .slice a2 p.vs.length c2, .slice a3 p.os.length c3, .string p.gd, .slice a4 p.ls.length c4] 31))
  have HP : Hid (PB (w.alloc (.cells #[.string p.nm, .slice a1 p.ins.length c1, .slice a2 p.vs.length c2, .slice a3 p.os.length c3, .string p.gd, .slice a4 p.ls.length c4] 31)) w.heap.size p a1 a2 a3 a4 c1 c2 c3 c4) := Lib.hid ⟨by go_simp, by go_simp, by go_simp, by go_simp, by go_simp, by go_simp⟩
  clear hs hz h
  dsimp only [pv] at *
  go_enter Tryz.func15, Tryz.ntmps15
  go_upto_region 1 with (fail)
  generalize w.alloc (.cells #[.string p.nm, .slice a1 p.ins.length c1, .slice a2 p.vs.length c2, .slice a3 p.os.length c3, .string p.gd, .slice a4 p.ls.length c4] 31) = W at *
  obtain ⟨k0, k1, k2, k3, k4, k5⟩ := HP.out
  go_wp2_with (fail)
  refine (HSO.out _ (H.out.below B0.out)).mono ?_
  rintro e w1 ⟨rfl, hb⟩
  have B1 := Lib.hid (below_chain B0.out hb)
  replace k0 := cell_later hb (by exact k0)
  replace k1 := cell_later hb (by exact k1)
  replace k2 := cell_later hb (by exact k2)
  replace k3 := cell_later hb (by exact k3)
  replace k4 := cell_later hb (by exact k4)
  replace k5 := cell_later hb (by exact k5)
  clear hb
  cases s
  · have e1 := HN1.out rfl
    obtain rfl : R = 1 := HV.out.trans e1
    obtain rfl : V = 0 := HR.out
    go_wp2_with (fail)
    refine (HC.out _ (H.out.below B1.out)).mono ?_
    rintro e w3 ⟨rfl, hb⟩
    have B3 := Lib.hid (below_chain B1.out hb)
    rw [e1]
    clear hb HV HR HOK HN1 e1 k0 k1 k2 k3 k4 k5
    go_wp2_with (fail)
    go_ret2
    exact retP_of rfl rfl B3.out
  go_wp2_with (fail)
  refine (HPE.out _).mono ?_
  rintro e w2 ⟨rfl, rfl⟩
  cases u
  · obtain rfl : R = 2 := HV.out
    obtain rfl : V = 0 := HR.out
    go_wp2_with (fail)
    go_ret2
    exact retP_of rfl rfl B1.out
  obtain rfl : R = dlyC p inp out := HV.out
  go_wp2_with (fail)
  refine (HC.out _ (H.out.below B1.out)).mono ?_
  rintro e w3 ⟨rfl, hb⟩
  have B3 := Lib.hid (below_chain B1.out hb)
  replace k0 := cell_later hb (by exact k0)
  replace k1 := cell_later hb (by exact k1)
  replace k2 := cell_later hb (by exact k2)
  replace k3 := cell_later hb (by exact k3)
  replace k4 := cell_later hb (by exact k4)
  replace k5 := cell_later hb (by exact k5)
  clear hb HV
  by_cases hr : dlyC p inp out = 0
  rotate_left
  · have HVV : Hid (V = 0) := Lib.hid (by rw [HR.out]; exact if_neg hr)
    have er : (dlyC p inp out != 0) = true := by simpa using hr
    clear HR HOK hr k0 k1 k2 k3 k4 k5
    generalize dlyC p inp out = R at *
    go_wp2_with (fail)
    go_ret2
    exact retP_of HVV.out rfl B3.out
  · have HVV : Hid (V = IntKind.i64.wrap (IntKind.i64.wrap (dlyV p inp out * per) + sumK (cmp p) (cmp p).ss.length)) := Lib.hid (by rw [HR.out]; exact if_pos hr)
    have HO := Lib.hid (HOK.out hr)
    clear HOK HR
    generalize dlyC p inp out = R at *
    subst hr
    obtain ⟨h1, h2, h3, h4⟩ := HO.out
    have HS := Lib.hid h1
    have HPB := Lib.hid h2
    have HIX := Lib.hid h3
    have HT := Lib.hid (fun ab as_ cb cs w h => HSC.out ab as_ cb cs w HS.out h)
    clear h1 h2 h3 h4 HO HSC
    generalize dlyV p inp out = D at *
    go_upto_region 6 with (fail)
    refine wp_region_held_drew (S := (fun w' => w'.cell? ⟨w.heap.size, 0, none⟩ = some (.string p.nm) ∧ w'.cell? ⟨w.heap.size, 1, none⟩ = some (.slice a1 p.ins.length c1) ∧ w'.cell? ⟨w.heap.size, 2, none⟩ = some (.slice a2 p.vs.length c2) ∧ w'.cell? ⟨w.heap.size, 3, none⟩ = some (.slice a3 p.os.length c3) ∧ w'.cell? ⟨w.heap.size, 4, none⟩ = some (.string p.gd) ∧ w'.cell? ⟨w.heap.size, 5, none⟩ = some (.slice a4 p.ls.length c4))) (by kernel_rfl) ?_ (fun hHeld => ?_)
    · exact ⟨k0, k1, k2, k3, k4, k5⟩
    refine rg_take (v := ?_) 0 rfl (by kernel_rfl) (by kernel_rfl) (by kernel_rfl) (fun _ _ _ h => h) (by kernel_rfl) ?_ (by assumption) ?_
    rotate_left
    · (intro w' hSw; (try dsimp only at hSw); go_simp; first | done | with_reducible rfl)
    simp only [Act.put, List.setIfInBounds_toArray, List.set_cons_zero, List.set_cons_succ]
    refine rg_take (v := ?_) 1 rfl (by kernel_rfl) (by kernel_rfl) (by kernel_rfl) (fun _ _ _ h => h) (by kernel_rfl) ?_ (by assumption) ?_
    rotate_left
    · (intro w' hSw; (try dsimp only at hSw); go_simp; first | done | with_reducible rfl)
    simp only [Act.put, List.setIfInBounds_toArray, List.set_cons_zero, List.set_cons_succ]
    refine rg_take (v := ?_) 2 rfl (by kernel_rfl) (by kernel_rfl) (by kernel_rfl) (fun _ _ _ h => h) (by kernel_rfl) ?_ (by assumption) ?_
    rotate_left
    · (intro w' hSw; (try dsimp only at hSw); go_simp; first | done | with_reducible rfl)
    simp only [Act.put, List.setIfInBounds_toArray, List.set_cons_zero, List.set_cons_succ]
    refine rg_take (v := ?_) 4 rfl (by kernel_rfl) (by kernel_rfl) (by kernel_rfl) (fun _ _ _ h => h) (by kernel_rfl) ?_ (by assumption) ?_
    rotate_left
    · (intro w' hSw; (try dsimp only at hSw); go_simp; first | done | with_reducible rfl)
    simp only [Act.put, List.setIfInBounds_toArray, List.set_cons_zero, List.set_cons_succ]
    refine rg_take (v := ?_) 6 rfl (by kernel_rfl) (by kernel_rfl) (by kernel_rfl) (fun _ _ _ h => h) (by kernel_rfl) ?_ (by assumption) ?_
    rotate_left
    · (intro w' hSw; (try dsimp only at hSw); go_simp; first | done | with_reducible rfl)
    simp only [Act.put, List.setIfInBounds_toArray, List.set_cons_zero, List.set_cons_succ]
    refine rg_run 3 rfl (by kernel_rfl) (by kernel_rfl) (fun K hK => ?_)
    go_simp
    refine (HD.out _ HPB.out HIX.out ((H.out.below B3.out).below (Below.refl _ _).drew)).mono ?_
    rintro e w4 ⟨rfl, hb⟩
    have hbs : Below w3.heap.size w3 w4 := below_chain (Below.refl _ _).drew hb
    have B4 := Lib.hid (below_chain B3.out hbs)
    replace k0 := cell_later hbs (by exact k0)
    replace k1 := cell_later hbs (by exact k1)
    replace k2 := cell_later hbs (by exact k2)
    replace k3 := cell_later hbs (by exact k3)
    replace k4 := cell_later hbs (by exact k4)
    replace k5 := cell_later hbs (by exact k5)
    clear hb hbs
    go_wp2
    clear hHeld
    refine hK.out _ _ (by exact ⟨k0, k1, k2, k3, k4, k5⟩) (fun hHeld => ?_)
    clear hK K
    try simp only [Act.put, List.setIfInBounds_toArray, List.set_cons_zero, List.set_cons_succ]
    refine rg_take (v := ?_) 5 rfl (by kernel_rfl) (by kernel_rfl) (by kernel_rfl) (fun _ _ _ h => h) (by kernel_rfl) ?_ (by assumption) ?_
    rotate_left
    · (intro w' hSw; (try dsimp only at hSw); go_simp; first | done | with_reducible rfl)
    simp only [Act.put, List.setIfInBounds_toArray, List.set_cons_zero, List.set_cons_succ]
    refine rg_run 7 rfl (by kernel_rfl) (by kernel_rfl) (fun K hK => ?_)
    go_simp
    refine (HCO.out _ HS.out (H.out.below B4.out)).mono ?_
    rintro e w5 ⟨A1, q1, A2, q2, rfl, hob, hos, hb⟩
    have B5 := Lib.hid (below_chain B4.out hb)
    have HRD : Hid (CdR w5 A1 A2 (cmp p)) := Lib.hid ⟨Rd.own hob, Rd.own hos⟩
    replace k0 := cell_later hb (by exact k0)
    replace k1 := cell_later hb (by exact k1)
    replace k2 := cell_later hb (by exact k2)
    replace k3 := cell_later hb (by exact k3)
    replace k4 := cell_later hb (by exact k4)
    replace k5 := cell_later hb (by exact k5)
    clear hob hos hb
    generalize cmp p = CC at *
    go_wp2
    clear hHeld
    refine hK.out _ _ (by exact ⟨k0, k1, k2, k3, k4, k5⟩) (fun hHeld => ?_)
    clear hK K
    try simp only [Act.put, List.setIfInBounds_toArray, List.set_cons_zero, List.set_cons_succ]
    refine rg_run 8 rfl (by kernel_rfl) (by kernel_rfl) (fun K hK => ?_)
    go_simp
    refine (HT.out _ _ _ _ _ HRD.out).mono ?_
    rintro e w6 ⟨rfl, hb⟩
    have B6 := Lib.hid (below_chain B5.out hb)
    replace k0 := cell_later hb (by exact k0)
    replace k1 := cell_later hb (by exact k1)
    replace k2 := cell_later hb (by exact k2)
    replace k3 := cell_later hb (by exact k3)
    replace k4 := cell_later hb (by exact k4)
    replace k5 := cell_later hb (by exact k5)
    clear hb HRD HT
    generalize sumK CC CC.ss.length = SS at *
    go_wp2
    clear hHeld
    refine hK.out _ _ (by exact ⟨k0, k1, k2, k3, k4, k5⟩) (fun hHeld => ?_)
    clear hK K
    try simp only [Act.put, List.setIfInBounds_toArray, List.set_cons_zero, List.set_cons_succ]
    refine rg_take (v := ?_) 9 rfl (by kernel_rfl) (by kernel_rfl) (by kernel_rfl) (fun _ _ _ h => h) (by kernel_rfl) ?_ (by assumption) ?_
    rotate_left
    · (intro w' hSw; (try dsimp only at hSw); go_simp; first | done | with_reducible rfl)
    simp only [Act.put, List.setIfInBounds_toArray, List.set_cons_zero, List.set_cons_succ]
    refine rg_take (v := ?_) 10 rfl (by kernel_rfl) (by kernel_rfl) (by kernel_rfl) (fun _ _ _ h => h) (by kernel_rfl) ?_ (by assumption) ?_
    rotate_left
    · (intro w' hSw; (try dsimp only at hSw); go_simp; first | done | with_reducible rfl)
    simp only [Act.put, List.setIfInBounds_toArray, List.set_cons_zero, List.set_cons_succ]
    refine rg_take (v := ?_) 11 rfl (by kernel_rfl) (by kernel_rfl) (by kernel_rfl) (fun _ _ _ h => h) (by kernel_rfl) ?_ (by assumption) ?_
    rotate_left
    · (intro w' hSw; (try dsimp only at hSw); go_simp; first | done | with_reducible rfl)
    simp only [Act.put, List.setIfInBounds_toArray, List.set_cons_zero, List.set_cons_succ]
    refine wpAnyH_done (by kernel_rfl) ?_ _
    clear hHeld
    clear k0 k1 k2 k3 k4 k5
    go_wp2_with (fail)
    go_ret2
    exact retP_of HVV.out rfl B6.out
set_option maxHeartbeats 1000000 in
set_option maxRecDepth 100000 in
theorem c_React (p : Prg) (a1 a2 a3 a4 : Option Addr) (c1 c2 c3 c4 : Nat) (inp out : ByteArray) (per : Int) (w : World) (hs : PgOk p) (hz : PgZ a1 a2 a3 c1 c2 c3) (h : PgR w a1 a2 a3 a4 p) (hk : KwR w) (houtz : out.size ≤ maxLen) :
    Calls Tryz.prog 16 #[pv p a1 a2 a3 a4 c1 c2 c3 c4, .string inp, .string out, .int .i64 per] w (RetP (rtV p inp out per) (rtC p inp out per) w) := by
  have H := Lib.hid h
  have HK := Lib.hid hk
  have HSO := Lib.hid (fun w h hk => c_IsSound p a1 a2 a3 a4 c1 c2 c3 c4 w hs hz h hk)
  have HD := Lib.hid (fun w h hk => c_DelayOf p a1 a2 a3 a4 c1 c2 c3 c4 inp out w hs hz h hk houtz)
  have HCO := Lib.hid (fun w hd h => c_compile p a1 a2 a3 a4 c1 c2 c3 c4 w hs hd h)
  have HTI := Lib.hid (fun ab as_ cb cs w (hd : Snd p) h => sumT_K (cmp p) ▸ c_timeG (cmp p) (cmp p).ss ab as_ as_ cb cs cs (cmp p).ss.length w (hd_cmp hd) (blk_cmp hd) rfl (Nat.le_trans (hd_cmp hd).s (by decide)) (fit_cmp hd) h h.s)
  have HV : Hid (rtC p inp out per = if (wrB p && fltB p) then (if inB per 1 1000000 then dlyC p inp out else 2) else dlyC p inp out) := Lib.hid rfl
  have HR : Hid (rtV p inp out per = if rtC p inp out per = 0 then IntKind.i64.wrap (IntKind.i64.wrap (dlyV p inp out * per) + sumK (cmp p) (cmp p).ss.length) else 0) := Lib.hid rfl
  have HN1 : Hid ((wrB p && fltB p) = false → dlyC p inp out = 1) := Lib.hid (fun e => by unfold dlyC; rw [if_neg (by rw [e]; decide)])
  have HOK := Lib.hid (dly_ok (p := p) (inp := inp) (out := out))
  have HPE := Lib.hid (fun w => c_isPeriod per w)
  generalize rtV p inp out per = V at *
  generalize rtC p inp out per = R at *
  generalize (wrB p && fltB p) = s at *
  generalize inB per 1 1000000 = u at *
  have B0 := Lib.hid (below_alloc (Below.refl w.heap.size w) (.cells #[.string p.nm, .slice a1 p.ins.length c1, .slice a2 p.vs.length c2, .slice a3 p.os.length c3, .string p.gd, .slice a4 p.ls.length c4] 31))
  have HP : Hid (PB (w.alloc (.cells #[.string p.nm, .slice a1 p.ins.length c1, .slice a2 p.vs.length c2, .slice a3 p.os.length c3, .string p.gd, .slice a4 p.ls.length c4] 31)) w.heap.size p a1 a2 a3 a4 c1 c2 c3 c4) := Lib.hid ⟨by go_simp, by go_simp, by go_simp, by go_simp, by go_simp, by go_simp⟩
  clear hs hz h hk
  dsimp only [pv] at *
  go_enter Tryz.func16, Tryz.ntmps16
  go_upto_region 1 with (fail)
  generalize w.alloc (.cells #[.string p.nm, .slice a1 p.ins.length c1, .slice a2 p.vs.length c2, .slice a3 p.os.length c3, .string p.gd, .slice a4 p.ls.length c4] 31) = W at *
  obtain ⟨k0, k1, k2, k3, k4, k5⟩ := HP.out
  go_wp2_with (fail)
  refine (HSO.out _ (H.out.below B0.out) (HK.out.below B0.out)).mono ?_
  rintro e w1 ⟨rfl, hb⟩
  have B1 := Lib.hid (below_chain B0.out hb)
  replace k0 := cell_later hb (by exact k0)
  replace k1 := cell_later hb (by exact k1)
  replace k2 := cell_later hb (by exact k2)
  replace k3 := cell_later hb (by exact k3)
  replace k4 := cell_later hb (by exact k4)
  replace k5 := cell_later hb (by exact k5)
  clear hb
  cases s
  · have e1 := HN1.out rfl
    have e2 : dlyR p inp out = 0 := by unfold dlyR; rw [e1, if_neg (by decide)]
    obtain rfl : R = 1 := HV.out.trans e1
    obtain rfl : V = 0 := HR.out
    go_wp2_with (fail)
    refine (HD.out _ (H.out.below B1.out) (HK.out.below B1.out)).mono ?_
    rintro e w3 ⟨rfl, hb⟩
    have B3 := Lib.hid (below_chain B1.out hb)
    rw [e1, e2]
    clear hb HV HR HOK HN1 e1 e2 k0 k1 k2 k3 k4 k5
    go_wp2_with (fail)
    go_ret2
    exact retP_of rfl rfl B3.out
  go_wp2_with (fail)
  refine (HPE.out _).mono ?_
  rintro e w2 ⟨rfl, rfl⟩
  cases u
  · obtain rfl : R = 2 := HV.out
    obtain rfl : V = 0 := HR.out
    go_wp2_with (fail)
    go_ret2
    exact retP_of rfl rfl B1.out
  obtain rfl : R = dlyC p inp out := HV.out
  go_wp2_with (fail)
  refine (HD.out _ (H.out.below B1.out) (HK.out.below B1.out)).mono ?_
  rintro e w3 ⟨rfl, hb⟩
  have B3 := Lib.hid (below_chain B1.out hb)
  replace k0 := cell_later hb (by exact k0)
  replace k1 := cell_later hb (by exact k1)
  replace k2 := cell_later hb (by exact k2)
  replace k3 := cell_later hb (by exact k3)
  replace k4 := cell_later hb (by exact k4)
  replace k5 := cell_later hb (by exact k5)
  clear hb HV
  by_cases hr : dlyC p inp out = 0
  rotate_left
  · have HVV : Hid (V = 0) := Lib.hid (by rw [HR.out]; exact if_neg hr)
    have er : (dlyC p inp out != 0) = true := by simpa using hr
    clear HR HOK hr k0 k1 k2 k3 k4 k5
    generalize dlyC p inp out = R at *
    generalize dlyR p inp out = D at *
    go_wp2_with (fail)
    go_ret2
    exact retP_of HVV.out rfl B3.out
  · obtain ⟨h1, h2, h3, h4⟩ := HOK.out hr
    have HVV : Hid (V = IntKind.i64.wrap (IntKind.i64.wrap (dlyR p inp out * per) + sumK (cmp p) (cmp p).ss.length)) := Lib.hid (by rw [HR.out, h4]; exact if_pos hr)
    have HS := Lib.hid h1
    clear HOK HR h1 h2 h3 h4
    generalize dlyC p inp out = R at *
    subst hr
    generalize dlyR p inp out = D at *
    go_wp2_with (fail)
    refine (HCO.out _ HS.out (H.out.below B3.out)).mono ?_
    rintro e w4 ⟨A1, q1, A2, q2, rfl, hob, hos, hb⟩
    have B4 := Lib.hid (below_chain B3.out hb)
    have HR : Hid (CdR w4 A1 A2 (cmp p)) := Lib.hid ⟨Rd.own hob, Rd.own hos⟩
    clear hob hos hb k0 k1 k2 k3 k4 k5
    have HT := Lib.hid (fun w h => HTI.out A1 A2 q1 q2 w HS.out h)
    clear HTI HS
    generalize cmp p = C at *
    generalize sumK C C.ss.length = S at *
    dsimp only [cv] at *
    have ha := below_alloc (Below.refl w4.heap.size w4) (.cells #[.int .i64 C.i, .int .i64 C.v, .int .i64 C.o, .slice A1 C.bs.length q1, .slice A2 C.ss.length q2] 51)
    have B5 := Lib.hid (below_chain B4.out ha)
    have HRX := Lib.hid (HR.out.below ha)
    have hx : Hid ((w4.alloc (.cells #[.int .i64 C.i, .int .i64 C.v, .int .i64 C.o, .slice A1 C.bs.length q1, .slice A2 C.ss.length q2] 51)).cell? ⟨w4.heap.size, 0, none⟩ = some (.int .i64 C.i) ∧ (w4.alloc (.cells #[.int .i64 C.i, .int .i64 C.v, .int .i64 C.o, .slice A1 C.bs.length q1, .slice A2 C.ss.length q2] 51)).cell? ⟨w4.heap.size, 1, none⟩ = some (.int .i64 C.v) ∧ (w4.alloc (.cells #[.int .i64 C.i, .int .i64 C.v, .int .i64 C.o, .slice A1 C.bs.length q1, .slice A2 C.ss.length q2] 51)).cell? ⟨w4.heap.size, 2, none⟩ = some (.int .i64 C.o) ∧ (w4.alloc (.cells #[.int .i64 C.i, .int .i64 C.v, .int .i64 C.o, .slice A1 C.bs.length q1, .slice A2 C.ss.length q2] 51)).cell? ⟨w4.heap.size, 3, none⟩ = some (.slice A1 C.bs.length q1) ∧ (w4.alloc (.cells #[.int .i64 C.i, .int .i64 C.v, .int .i64 C.o, .slice A1 C.bs.length q1, .slice A2 C.ss.length q2] 51)).cell? ⟨w4.heap.size, 4, none⟩ = some (.slice A2 C.ss.length q2)) := Lib.hid ⟨by go_simp, by go_simp, by go_simp, by go_simp, by go_simp⟩
    clear ha HR
    go_upto_region 8 with (fail)
    generalize w4.alloc (.cells #[.int .i64 C.i, .int .i64 C.v, .int .i64 C.o, .slice A1 C.bs.length q1, .slice A2 C.ss.length q2] 51) = WC at *
    generalize w4.heap.size = bc at *
    obtain ⟨x0, x1, x2, x3, x4⟩ := hx.out
    clear hx
    refine (HT.out _ HRX.out).mono ?_
    rintro e w6 ⟨rfl, hb⟩
    have B6 := Lib.hid (below_chain B5.out hb)
    clear hb x0 x1 x2 x3 x4 HRX HT
    go_wp2_with (fail)
    go_ret2
    exact retP_of (HVV.out.trans (by simp only [wrap64, IntKind.wrap_i64])) rfl B6.out
end Go.Proofs.YtackekfjalaacaaGreatDoor
