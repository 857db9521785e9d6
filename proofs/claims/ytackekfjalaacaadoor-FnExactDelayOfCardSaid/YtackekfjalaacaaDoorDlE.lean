/- The program's delayCode. Condition: the lengths; the keywords lie there. -/
import Derived.Test.YtackekfjalaacaaDoorDlD
import Derived.Test.YtackekfjalaacaaDoorPGb
import Derived.Test.YtackekfjalaacaaDoorDlG
namespace Go.Proofs.YtackekfjalaacaaDoor
open Go.RowKit

set_option maxRecDepth 100000 in
theorem c_dc1 (b n c : Nat) (A : Option Addr) (l : List ByteArray) (s : ByteArray) (w : World) (hn : n = l.length) (hs : n ≤ 1048576) (k3 : w.cell? ⟨b, 3, none⟩ = some (.slice A n c)) (hr : Rd w A (sts l)) :
    Calls Tryd.prog 29 #[.string s, .pointer (some ⟨b, 0, none⟩)] w fun e w' => e = .returned (.bool (!memS l s)) ∧ Below w.heap.size w w' := by
  have HC := Lib.hid (c_ContainsS A c n l s w hn hs hr)
  generalize memS l s = q at *
  clear hn hs hr
  go_enter Tryd.func29, Tryd.ntmps29
  go_wp2_with (fail)
  refine HC.out.mono ?_
  rintro e w1 ⟨rfl, hb⟩
  replace hb := Lib.hid hb
  clear HC k3
  go_wp2_with (fail)
  go_ret
  exact ⟨rfl, hb.out⟩
def dcC (p : Prg) (inp out : ByteArray) : Int := if (wrB p && fltB p) then (if memS p.ins inp && memS p.os out then 0 else 4) else 1
set_option maxHeartbeats 1000000 in
set_option maxRecDepth 100000 in
theorem c_delayCode (p : Prg) (a1 a2 a3 a4 : Option Addr) (c1 c2 c3 c4 : Nat) (inp out : ByteArray) (g : Nat) (w : World) (hs : PgOk p) (hz : PgZ a1 a2 a3 c1 c2 c3) (h : PgR w a1 a2 a3 a4 p) (hk : KwR w) (hg : Rd w (some ⟨g, 0, none⟩) (sts [out])) :
    Calls Tryd.prog 15 #[pv p a1 a2 a3 a4 c1 c2 c3 c4, .string inp, .slice (some ⟨g, 0, none⟩) 1 1] w fun e w' => e = .returned (.int .i64 (dcC p inp out)) ∧ Below w.heap.size w w' := by
  have H := Lib.hid h
  have HK := Lib.hid hk
  have HG := Lib.hid hg
  have HSO := Lib.hid (fun w h hk => c_IsSound p a1 a2 a3 a4 c1 c2 c3 c4 w hs hz h hk)
  have HCI := Lib.hid (fun w h => c_ContainsS a1 c1 _ p.ins inp w rfl hs.i.1 h)
  have HCF := Lib.hid (fun (b : Nat) (w : World) (k3 : w.cell? ⟨b, 3, none⟩ = some (.slice a3 p.os.length c3)) (ho : Rd w a3 (sts p.os)) (hg : Rd w (some ⟨g, 0, none⟩) (sts [out])) =>
    c_ContainsSc 29 (.pointer (some ⟨b, 0, none⟩)) (fun s => !memS p.os s) (some ⟨g, 0, none⟩) 1 1 [out] w rfl (by decide) hg (Lib.hid (fun wr s _ hb => c_dc1 b _ c3 a3 p.os s wr rfl hs.o.1 (cell_later hb k3) (ho.below hb))) (enter_of Tryd.func29 (by kernel_rfl) rfl))
  have hany : ([out].any fun s => !memS p.os s) = !memS p.os out := by simp
  rw [hany] at HCF
  have HV : Hid (dcC p inp out = if (wrB p && fltB p) then (if memS p.ins inp && memS p.os out then 0 else 4) else 1) := Lib.hid rfl
  have hmf : ∀ (fn : Fn) (first cap : Array Value) (w : World), (Instr.makeFunc fn first cap).run Tryd.prog w = .ok (.func fn first cap) w := fun _ _ _ _ => rfl
  clear hany
  generalize dcC p inp out = R at *
  generalize (wrB p && fltB p) = s at *
  generalize memS p.ins inp = u at *
  generalize memS p.os out = v at *
  have B0 := Lib.hid (below_alloc (Below.refl w.heap.size w) (.cells #[.string p.nm, .slice a1 p.ins.length c1, .slice a2 p.vs.length c2, .slice a3 p.os.length c3, .string p.gd, .slice a4 p.ls.length c4] 31))
  have HP : Hid (PB (w.alloc (.cells #[.string p.nm, .slice a1 p.ins.length c1, .slice a2 p.vs.length c2, .slice a3 p.os.length c3, .string p.gd, .slice a4 p.ls.length c4] 31)) w.heap.size p a1 a2 a3 a4 c1 c2 c3 c4) := Lib.hid ⟨by go_simp, by go_simp, by go_simp, by go_simp, by go_simp, by go_simp⟩
  clear hs hz h hk hg
  go_enter Tryd.func15, Tryd.ntmps15
  dsimp only [pv]
  go_upto_region 1 with (fail)
  generalize w.alloc (.cells #[.string p.nm, .slice a1 p.ins.length c1, .slice a2 p.vs.length c2, .slice a3 p.os.length c3, .string p.gd, .slice a4 p.ls.length c4] 31) = W at *
  obtain ⟨k0, k1, k2, k3, k4, k5⟩ := HP.out
  go_wp2_with (fail)
  refine (HSO.out _ (H.out.below B0.out) (HK.out.below B0.out)).mono ?_
  rintro e w1 ⟨rfl, hb⟩
  have B1 := Lib.hid (below_chain B0.out hb)
  replace k0 := cell_later hb (by exact k0)
  replace k1 := cell_later hb (by exact k1)
  replace k2 := cell_later hb (by exact k2)
  replace k3 := cell_later hb (by exact k3)
  replace k4 := cell_later hb (by exact k4)
  replace k5 := cell_later hb (by exact k5)
  clear hb
  cases s
  · obtain rfl : R = 1 := HV.out
    go_wp2_with (fail)
    go_ret
    exact ⟨rfl, B1.out⟩
  go_wp2_with (fail)
  refine (HCI.out _ (H.out.i.below B1.out)).mono ?_
  rintro e w2 ⟨rfl, hb⟩
  have B2 := Lib.hid (below_chain B1.out hb)
  replace k0 := cell_later hb (by exact k0)
  replace k1 := cell_later hb (by exact k1)
  replace k2 := cell_later hb (by exact k2)
  replace k3 := cell_later hb (by exact k3)
  replace k4 := cell_later hb (by exact k4)
  replace k5 := cell_later hb (by exact k5)
  clear hb
  cases u
  · obtain rfl : R = 4 := HV.out
    go_wp2_with (fail)
    go_ret
    exact ⟨rfl, B2.out⟩
  go_wp2_with (fail)
  refine (HCF.out _ _ k3 (H.out.o.below B2.out) (HG.out.below B2.out)).mono ?_
  rintro e w3 ⟨rfl, hb⟩
  have B3 := Lib.hid (below_chain B2.out hb)
  clear hb k0 k1 k2 k3 k4 k5
  cases v
  · obtain rfl : R = 4 := HV.out
    go_wp2_with (fail)
    go_ret
    exact ⟨rfl, B3.out⟩
  · obtain rfl : R = 0 := HV.out
    go_wp2_with (fail)
    go_ret
    exact ⟨rfl, B3.out⟩
theorem dc_ne (p : Prg) (inp out : ByteArray) (h : dcC p inp out ≠ 0) : dlyC p inp out = dcC p inp out ∧ dlyR p inp out = 0 := by
  have e : dlyC p inp out = dcC p inp out := by
    unfold dlyC
    unfold dcC at h ⊢
    by_cases h1 : (wrB p && fltB p) = true
    · rw [if_pos h1] at h ⊢
      rw [if_pos h1]
      by_cases h2 : (memS p.ins inp && memS p.os out) = true
      · rw [if_pos h2] at h; exact absurd rfl h
      · rw [if_neg h2, if_neg h2]
    · rw [if_neg h1, if_neg h1]
  refine ⟨e, ?_⟩
  unfold dlyR
  rw [e, if_neg h]
theorem dc_eq (p : Prg) (inp out : ByteArray) (h : dcC p inp out = 0) : PgB p ∧ Nmd p ∧ inp ∈ p.ins ∧ out ∈ p.os ∧ dlyR p inp out = dlyV p inp out ∧ dlyC p inp out = if dlyV p inp out = 0 then 5 else 0 := by
  unfold dcC at h
  by_cases h1 : (wrB p && fltB p) = true
  · rw [if_pos h1] at h
    by_cases h2 : (memS p.ins inp && memS p.os out) = true
    · have e : dlyC p inp out = if dlyV p inp out = 0 then 5 else 0 := by unfold dlyC; rw [if_pos h1, if_pos h2]
      have h3 := h2
      rw [Bool.and_eq_true] at h3
      refine ⟨(snd_of h1).b, nmd_of h1, memS_iff.1 h3.1, memS_iff.1 h3.2, ?_, e⟩
      unfold dlyR
      rw [e]
      by_cases hd : dlyV p inp out = 0
      · rw [if_pos hd, if_neg (by decide), hd]
      · rw [if_neg hd, if_pos rfl]
    · rw [if_neg h2] at h; cases h
  · rw [if_neg h1] at h; cases h
theorem rd_str1 (W : World) (s : ByteArray) : Rd (W.alloc (.cells #[.string s] 9)) (some ⟨W.heap.size, 0, none⟩) (sts [s]) := by
  refine .inr ⟨W.heap.size, 0, rfl, by simp, fun j u h => ?_⟩
  match j with
  | 0 =>
    simp [sts] at h
    subst h
    go_simp
  | j + 1 => simp [sts] at h
set_option maxHeartbeats 1000000 in
set_option maxRecDepth 100000 in
theorem c_DelayOf (p : Prg) (a1 a2 a3 a4 : Option Addr) (c1 c2 c3 c4 : Nat) (inp out : ByteArray) (w : World) (hs : PgOk p) (hz : PgZ a1 a2 a3 c1 c2 c3) (h : PgR w a1 a2 a3 a4 p) (hk : KwR w) (houtz : out.size ≤ maxLen) :
    Calls Tryd.prog 7 #[pv p a1 a2 a3 a4 c1 c2 c3 c4, .string inp, .string out] w (RetP (dlyR p inp out) (dlyC p inp out) w) := by
  have H := Lib.hid h
  have HK := Lib.hid hk
  have HDC := Lib.hid (fun g w h hk hg => c_delayCode p a1 a2 a3 a4 c1 c2 c3 c4 inp out g w hs hz h hk hg)
  have HDM := Lib.hid (fun w hbd hn hi h => c_delays p a1 a2 a3 a4 c1 c2 c3 c4 inp w hs hbd hn hi h)
  have HNE := Lib.hid (dc_ne p inp out)
  have HEQ := Lib.hid (dc_eq p inp out)
  have B0 := Lib.hid (below_alloc (Below.refl w.heap.size w) (.cells #[.string p.nm, .slice a1 p.ins.length c1, .slice a2 p.vs.length c2, .slice a3 p.os.length c3, .string p.gd, .slice a4 p.ls.length c4] 31))
  have HP : Hid (PB (w.alloc (.cells #[.string p.nm, .slice a1 p.ins.length c1, .slice a2 p.vs.length c2, .slice a3 p.os.length c3, .string p.gd, .slice a4 p.ls.length c4] 31)) w.heap.size p a1 a2 a3 a4 c1 c2 c3 c4) := Lib.hid ⟨by go_simp, by go_simp, by go_simp, by go_simp, by go_simp, by go_simp⟩
  clear hs hz h hk
  dsimp only [pv] at HDC HDM
  go_enter Tryd.func7, Tryd.ntmps7
  dsimp only [pv]
  go_upto_region 1 with (fail)
  generalize w.alloc (.cells #[.string p.nm, .slice a1 p.ins.length c1, .slice a2 p.vs.length c2, .slice a3 p.os.length c3, .string p.gd, .slice a4 p.ls.length c4] 31) = W at *
  obtain ⟨k0, k1, k2, k3, k4, k5⟩ := HP.out
  have B01 := Lib.hid (below_chain B0.out (below_alloc (Below.refl W.heap.size W) (.cells #[.string out] 9)))
  have HRD := Lib.hid (rd_str1 W out)
  have hb01 := below_alloc (Below.refl W.heap.size W) (.cells #[.string out] 9)
  go_wp2_with (fail)
  refine (HDC.out _ _ (H.out.below B01.out) (HK.out.below B01.out) HRD.out).mono ?_
  rintro e w1 ⟨rfl, hb⟩
  have B1 := Lib.hid (below_chain B01.out hb)
  replace hb := below_chain hb01 hb
  replace k0 := cell_later hb (by exact k0)
  replace k1 := cell_later hb (by exact k1)
  replace k2 := cell_later hb (by exact k2)
  replace k3 := cell_later hb (by exact k3)
  replace k4 := cell_later hb (by exact k4)
  replace k5 := cell_later hb (by exact k5)
  clear hb hb01 HDC HRD B01
  by_cases hr : dcC p inp out = 0
  rotate_left
  · obtain ⟨h1, h2⟩ := HNE.out hr
    have HA := Lib.hid h1
    have HB := Lib.hid h2
    have er : (dcC p inp out != 0) = true := by simpa using hr
    clear hr h1 h2 HNE HEQ k0 k1 k2 k3 k4 k5
    generalize dcC p inp out = q at *
    go_wp2_with (fail)
    go_ret2
    exact retP_of HB.out HA.out B1.out
  · obtain ⟨h1, h2, h3, h4, h5, h6⟩ := HEQ.out hr
    have HB := Lib.hid h1
    have HN := Lib.hid h2
    have HI := Lib.hid h3
    have HO := Lib.hid h4
    have HA := Lib.hid h5
    have HC := Lib.hid h6
    clear h1 h2 h3 h4 h5 h6 HNE HEQ
    generalize dcC p inp out = q at *
    subst hr
    go_wp2_with (fail)
    refine (HDM.out _ HB.out HN.out HI.out (H.out.below B1.out)).mono ?_
    rintro e w2 ⟨bm, l, c, f, rfl, hm, hb, hf, hg, hbm⟩
    have B2 := Lib.hid (below_chain B1.out hb)
    have HE : Hid (getE l out = some0 (dlyV p inp out)) := Lib.hid (by
      rw [hg, if_neg (fun e : out = inp => HN.out.in_v HI.out (.inr (e ▸ HO.out)))]
      exact out_is HN.out HI.out hf HO.out)
    have HM := Lib.hid hm
    clear hb hf hg hbm hm k0 k1 k2 k3 k4 k5 HDM
    generalize dlyV p inp out = d at *
    by_cases hd : d = 0
    · subst hd
      have e1 : (getE l out).isSome = false := by rw [HE.out]; rfl
      have e2 : (getE l out).getD 0 = 0 := by rw [HE.out]; rfl
      clear HE
      go_wp2_with (first
        | (at_lookup; refine wpList_lookE2 _ rfl (.tmp 22) (.tmp 23) rfl Tryd.underlying9 Tryd.underlying42 (zero_int _) bm l c rfl HM.out out rfl houtz ?_; rw [e1, e2])
        )
      go_ret2
      exact retP_of HA.out HC.out B2.out
    · have hs0 : some0 d = some d := if_neg hd
      have e1 : (getE l out).isSome = true := by rw [HE.out, hs0]; rfl
      have e2 : (getE l out).getD 0 = d := by rw [HE.out, hs0]; rfl
      have HC2 := Lib.hid (HC.out.trans (if_neg hd))
      clear HE hd hs0 HC
      go_wp2_with (first
        | (at_lookup; refine wpList_lookE2 _ rfl (.tmp 22) (.tmp 23) rfl Tryd.underlying9 Tryd.underlying42 (zero_int _) bm l c rfl HM.out out rfl houtz ?_; rw [e1, e2])
        )
      go_ret2
      exact retP_of HA.out HC2.out B2.out
end Go.Proofs.YtackekfjalaacaaDoor
