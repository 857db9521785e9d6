/- ReachedBy, the program's side. Condition: the lengths; the keywords lie there. -/
import Derived.Test.YtackekfjalaacaaGreatDoorHRbS
namespace Go.Proofs.YtackekfjalaacaaGreatDoor
open Go.RowKit

set_option maxHeartbeats 1000000 in
set_option maxRecDepth 100000 in
theorem c_delayCode0 (p : Prg) (a1 a2 a3 a4 : Option Addr) (c1 c2 c3 c4 : Nat) (inp : ByteArray) (w : World) (hs : PgOk p) (hz : PgZ a1 a2 a3 c1 c2 c3) (h : PgR w a1 a2 a3 a4 p) (hk : KwR w) :
    Calls Tryz.prog 33 #[pv p a1 a2 a3 a4 c1 c2 c3 c4, .string inp, .slice none 0 0] w fun e w' => e = .returned (.int .i64 (rbC p inp)) ∧ Below w.heap.size w w' := by
  have H := Lib.hid h
  have HK := Lib.hid hk
  have HSO := Lib.hid (fun w h hk => c_IsSound p a1 a2 a3 a4 c1 c2 c3 c4 w hs hz h hk)
  have HCI := Lib.hid (fun w h => c_ContainsS a1 c1 _ p.ins inp w rfl hs.i.1 h)
  have HCF := Lib.hid (fun (b : Nat) (w : World) (k3 : w.cell? ⟨b, 3, none⟩ = some (.slice a3 p.os.length c3)) (ho : Rd w a3 (sts p.os)) =>
    c_ContainsSc 63 (.pointer (some ⟨b, 0, none⟩)) (fun s => !memS p.os s) none 0 0 [] w rfl (by decide) (Rd.nil w none) (Lib.hid (fun wr s _ hb => c_dc1 b _ c3 a3 p.os s wr rfl hs.o.1 (cell_later hb k3) (ho.below hb))) (enter_of Tryz.func63 (by kernel_rfl) rfl))
  have HV : Hid (rbC p inp = if (wrB p && fltB p) then (if memS p.ins inp then 0 else 4) else 1) := Lib.hid rfl
  have hmf : ∀ (fn : Fn) (first cap : Array Value) (w : World), (Instr.makeFunc fn first cap).run Tryz.prog w = .ok (.func fn first cap) w := fun _ _ _ _ => rfl
  generalize rbC p inp = R at *
  generalize (wrB p && fltB p) = s at *
  generalize memS p.ins inp = u at *
  have B0 := Lib.hid (below_alloc (Below.refl w.heap.size w) (.cells #[.string p.nm, .slice a1 p.ins.length c1, .slice a2 p.vs.length c2, .slice a3 p.os.length c3, .string p.gd, .slice a4 p.ls.length c4] 31))
  have HP : Hid (PB (w.alloc (.cells #[.string p.nm, .slice a1 p.ins.length c1, .slice a2 p.vs.length c2, .slice a3 p.os.length c3, .string p.gd, .slice a4 p.ls.length c4] 31)) w.heap.size p a1 a2 a3 a4 c1 c2 c3 c4) := Lib.hid ⟨by go_simp, by go_simp, by go_simp, by go_simp, by go_simp, by go_simp⟩
  clear hs hz h hk
  go_enter Tryz.func33, Tryz.ntmps33
  dsimp only [pv]
  go_upto_region 1 with (fail)
  generalize w.alloc (.cells #[.string p.nm, .slice a1 p.ins.length c1, .slice a2 p.vs.length c2, .slice a3 p.os.length c3, .string p.gd, .slice a4 p.ls.length c4] 31) = W at *
  obtain ⟨k0, k1, k2, k3, k4, k5⟩ := HP.out
  go_wp2_with (fail)
  refine (HSO.out _ (H.out.below B0.out) (HK.out.below B0.out)).mono ?_
  rintro e w1 ⟨rfl, hb⟩
  have B1 := Lib.hid (below_chain B0.out hb)
  replace k0 := cell_later hb (by exact k0)
  replace k1 := cell_later hb (by exact k1)
  replace k2 := cell_later hb (by exact k2)
  replace k3 := cell_later hb (by exact k3)
  replace k4 := cell_later hb (by exact k4)
  replace k5 := cell_later hb (by exact k5)
  clear hb
  cases s
  · obtain rfl : R = 1 := HV.out
    go_wp2_with (fail)
    go_ret
    exact ⟨rfl, B1.out⟩
  go_wp2_with (fail)
  refine (HCI.out _ (H.out.i.below B1.out)).mono ?_
  rintro e w2 ⟨rfl, hb⟩
  have B2 := Lib.hid (below_chain B1.out hb)
  replace k0 := cell_later hb (by exact k0)
  replace k1 := cell_later hb (by exact k1)
  replace k2 := cell_later hb (by exact k2)
  replace k3 := cell_later hb (by exact k3)
  replace k4 := cell_later hb (by exact k4)
  replace k5 := cell_later hb (by exact k5)
  clear hb
  cases u
  · obtain rfl : R = 4 := HV.out
    go_wp2_with (fail)
    go_ret
    exact ⟨rfl, B2.out⟩
  go_wp2_with (fail)
  refine (HCF.out _ _ k3 (H.out.o.below B2.out)).mono ?_
  rintro e w3 ⟨rfl, hb⟩
  have B3 := Lib.hid (below_chain B2.out hb)
  clear hb k0 k1 k2 k3 k4 k5
  obtain rfl : R = 0 := HV.out
  go_wp2_with (fail)
  go_ret
  exact ⟨rfl, B3.out⟩
set_option maxHeartbeats 2000000 in
set_option maxRecDepth 100000 in
theorem c_ConcatO (g m c : Nat) (ds : List StD) (w : World) (hm : m = ds.length) (hm1 : m ≤ 100) (hg : ∀ (k : Nat) (d : StD), ds[k]? = some d → w.cell? ⟨g, k, none⟩ = some d.v) (hd : ∀ d ∈ ds, Rd w d.a (sts d.l) ∧ (d.a = none → d.c = 0)) (hN : (catS ds).length ≤ 4000000) :
    Calls Tryz.prog 36 #[.slice (some ⟨g, 0, none⟩) m c] w fun e w' => ∃ A cc, e = .returned (.slice A (catS ds).length cc) ∧ w'.ownsRow w.heap.size 9 1 (.slice A (catS ds).length cc) (catS ds).length (sts (catS ds)) ∧ Below w.heap.size w w' := by
  have HM := Lib.hid hm
  have HG := Lib.hid hg
  have HD := Lib.hid hd
  have HCL := Lib.hid (fun k => cat_le (ds := ds) k)
  have HCS := Lib.hid (fun (k : Nat) (d : StD) (h : ds[k]? = some d) => cat_snoc h)
  clear hm hg hd
  go_enter Tryz.func36, Tryz.ntmps36
  go_wp2_with (fail)
  go_loopw [3, 5, 11] (fun u _ i wr => ∃ k : Nat, k ≤ m ∧ i = .int .i64 k ∧ u = .int .i64 ((catS (ds.take k)).length : Int) ∧ Hid (Below w.heap.size w wr)) (fun _ _ i _ => m - (intOf i).toNat)
  case atStart => exact ⟨0, Nat.zero_le _, rfl, rfl, Lib.hid (by (repeat (first | exact Below.refl _ _ | assumption | refine below_alloc ?_ _ | refine below_drewN ?_ _ | refine below_set ?_ _ (by simp; try omega) | refine Below.drew ?_)))⟩
  case round =>
    obtain ⟨k, hk, rfl, rfl, hb⟩ := hrel
    by_cases hlt : k < m
    · obtain ⟨d, hz⟩ : ∃ z, ds[k]? = some z := ⟨_, List.getElem?_eq_getElem (by have := HM.out; omega)⟩
      have g0 := cell_later hb.out (HG.out k d hz)
      have hcs := HCS.out k d hz
      have hcl := HCL.out k
      have hcl1 := HCL.out (k + 1)
      have hsum : ((catS (ds.take (k + 1))).length : Int) = (catS (ds.take k)).length + d.l.length := by rw [hcs, List.length_append]; omega
      have hk0 : (0 : Int) ≤ (k : Int) := by omega
      have hk1 : (k : Int) < m := by omega
      have hw1 : IntKind.i64.wrap (((catS (ds.take k)).length : Int) + d.l.length) = (catS (ds.take k)).length + d.l.length := IntWalk.i64_in _ (by omega)
      have hnn : ¬ (((catS (ds.take k)).length : Int) + d.l.length < 0) := by omega
      have HSUM := Lib.hid hsum
      unfold StD.v at g0
      clear hz hcs hcl hcl1 hsum
      generalize (catS (ds.take k)).length = sn at *
      generalize d.l.length = dn at *
      go_wp2_with (fail)
      go_roundw
      case rel => exact ⟨k + 1, by omega, by go_num, by rw [HSUM.out], hb⟩
      case measure => simp [intOf]; omega
    · obtain rfl : k = m := by omega
      have htk : ds.take k = ds := List.take_of_length_le (by have := HM.out; omega)
      rw [htk]
      have HGR := Lib.hid (fun w => c_Grow0 (catS ds).length w hN)
      have HTK := Lib.hid htk
      clear htk
      generalize hcn : (catS ds).length = cn at *
      have HCN := Lib.hid hcn
      clear hcn
      go_wp2_with (fail)
      refine (HGR.out _).mono ?_
      rintro e w2 ⟨v, rfl, ho, hb2⟩
      have HB2 := Lib.hid (below_chain hb.out hb2)
      have HO2 := Lib.hid (own_mono ho (base' := w.heap.size) hb.out.size)
      clear ho hb2
      go_wp2_with (fail)
      go_loopw [6, 8, 27] (fun u _ i wq => ∃ k2 : Nat, k2 ≤ k ∧ i = .int .i64 k2 ∧ Hid (wq.ownsRow w.heap.size 9 1 u (catS (ds.take k2)).length (sts (catS (ds.take k2)))) ∧ Hid (Below w.heap.size w wq)) (fun _ _ i _ => k - (intOf i).toNat)
      case atStart => exact ⟨0, Nat.zero_le _, rfl, Lib.hid (by simpa [catS, sts] using HO2.out), HB2⟩
      case round =>
        obtain ⟨k2, hk2, rfl, ho, hb2⟩ := hrel
        by_cases hlt2 : k2 < k
        · obtain ⟨d, hz⟩ : ∃ z, ds[k2]? = some z := ⟨_, List.getElem?_eq_getElem (by have := HM.out; omega)⟩
          have g0 := cell_later hb2.out (HG.out k2 d hz)
          have hdd := HD.out d (List.mem_of_getElem? hz)
          have HRD := Lib.hid (hdd.1.below hb2.out)
          have HZ := Lib.hid hdd.2
          have hcl1 := HCL.out (k2 + 1)
          have HCC := Lib.hid (HCS.out k2 d hz)
          have hln : (catS (ds.take (k2 + 1))).length = (catS (ds.take k2)).length + d.l.length := by rw [HCC.out, List.length_append]
          have hbd : (catS (ds.take k2)).length + d.l.length ≤ 4000000 := by omega
          have HLN := Lib.hid hln
          have hk20 : (0 : Int) ≤ (k2 : Int) := by omega
          have hk21 : (k2 : Int) < k := by omega
          unfold StD.v at g0
          clear hz hdd hcl1 hln
          go_wp2_with (first
            | (at_builtin
               refine app_strs _ rfl (.tmp 31) (.tmp 32) rfl w.heap.size _ _ (catS (ds.take k2)) rfl ho.out d.a _ d.c d.l rfl rfl HRD.out HZ.out hbd hb2.out.size ?_
               intro v7 w7 hown hgrow
               have HB7 := Lib.hid (below_of_grown hb2.out hgrow (fun q hq => (ho.out.lt q hq).1))
               have HO7 := Lib.hid hown
               clear hown hgrow)
            )
          go_roundw
          case rel => exact ⟨k2 + 1, by omega, by go_num, Lib.hid (by rw [HCC.out, List.length_append]; exact HO7.out), HB7⟩
          case measure => simp [intOf]; omega
        · obtain rfl : k2 = k := by omega
          have HO := Lib.hid ho.out
          rw [HTK.out, HCN.out] at HO
          obtain ⟨A9, c9, rfl⟩ := own_shape HO.out
          go_wp2_with (fail)
          go_ret
          exact ⟨A9, c9, by rw [HCN.out]; rfl, by rw [HCN.out]; exact HO.out, hb2.out⟩
theorem scnG_nn (p : Prg) (inp : ByteArray) (k : Nat) : 0 ≤ (scnV p inp).getD k 0 := by
  rw [List.getD_eq_getElem?_getD]
  cases h : (scnV p inp)[k]? with
  | none => exact Int.le_refl _
  | some z => exact (scn_snd p inp _ k z h).1
theorem gd_nn (p : Prg) (inp : ByteArray) : 0 ≤ gdV p inp := by
  unfold gdV
  repeat' split
  all_goals first | omega | exact scnG_nn p inp _
theorem dly_nn (p : Prg) (inp s : ByteArray) : 0 ≤ dlyV p inp s := by
  unfold dlyV
  split
  · exact gd_nn p inp
  · exact scnG_nn p inp _
theorem some0_get (n : Int) : (some0 n).getD 0 = n := by
  unfold some0
  split
  · rename_i h; rw [h]; rfl
  · rfl
theorem zr_is {l : List En} {s : ByteArray} {n : Int} (h : getE l s = some0 n) (hn : 0 ≤ n) : (!zrB l s) = decide (0 < n) := by
  unfold zrB
  rw [h, some0_get]
  by_cases h0 : n = 0
  · subst h0; rfl
  · rw [decide_eq_false h0, decide_eq_true (by omega)]; rfl
theorem rb_filter {p : Prg} {inp : ByteArray} {f : ByteArray → Option Int} {l : List En} (hn : Nmd p) (hi : inp ∈ p.ins) (hf : Fix p inp f) (hg : ∀ s, getE l s = if s = inp then none else fG p f s) : (p.vs ++ p.os).filter (fun s => !zrB l s) = p.vs.filter (rbV p inp) ++ p.os.filter (rbO p inp) := by
  rw [List.filter_append]
  congr 1
  · refine List.filter_congr fun s hs => ?_
    refine zr_is ?_ (scnG_nn p inp _)
    rw [hg, if_neg (fun e : s = inp => hn.in_v hi (.inl (e ▸ hs)))]
    exact var_is hn hi hf hs
  · refine List.filter_congr fun s hs => ?_
    refine zr_is ?_ (dly_nn p inp s)
    rw [hg, if_neg (fun e : s = inp => hn.in_v hi (.inr (e ▸ hs)))]
    exact out_is hn hi hf hs
theorem rbc_ok {p : Prg} {inp : ByteArray} (h : rbC p inp = 0) : PgB p ∧ Nmd p ∧ inp ∈ p.ins := by
  unfold rbC at h
  by_cases h1 : (wrB p && fltB p) = true
  · rw [if_pos h1] at h
    by_cases h2 : memS p.ins inp = true
    · exact ⟨(snd_of h1).b, nmd_of h1, memS_iff.1 h2⟩
    · rw [if_neg h2] at h; cases h
  · rw [if_neg h1] at h; cases h
set_option maxHeartbeats 1000000 in
set_option maxRecDepth 100000 in
theorem c_Reached (p : Prg) (a1 a2 a3 a4 : Option Addr) (c1 c2 c3 c4 : Nat) (inp : ByteArray) (w : World) (hs : PgOk p) (hz : PgZ a1 a2 a3 c1 c2 c3) (h : PgR w a1 a2 a3 a4 p) (hk : KwR w) :
    Calls Tryz.prog 9 #[pv p a1 a2 a3 a4 c1 c2 c3 c4, .string inp] w (RetSC (rbL p inp) (rbC p inp) w) := by
  have H := Lib.hid h
  have HK := Lib.hid hk
  have HDC := Lib.hid (fun w h hk => c_delayCode0 p a1 a2 a3 a4 c1 c2 c3 c4 inp w hs hz h hk)
  have HDM := Lib.hid (fun w hbd hn hi h => c_delays p a1 a2 a3 a4 c1 c2 c3 c4 inp w hs hbd hn hi h)
  have HCC := Lib.hid (fun g w hg hd hl => c_ConcatO g 2 2 [⟨p.vs, a2, c2⟩, ⟨p.os, a3, c3⟩] w rfl (by decide) hg hd hl)
  have hcat : catS [⟨p.vs, a2, c2⟩, ⟨p.os, a3, c3⟩] = p.vs ++ p.os := by simp [catS]
  rw [hcat] at HCC
  have HZS : Hid (∀ s ∈ p.vs ++ p.os, s.size ≤ maxLen) := Lib.hid (fun s h => by
    rcases List.mem_append.1 h with h | h
    · exact Nat.le_trans (hs.v.2 s h) (by decide)
    · exact Nat.le_trans (hs.o.2 s h) (by decide))
  have HPZ := Lib.hid hz
  have HEQ := Lib.hid (rbc_ok (p := p) (inp := inp))
  have HR : Hid (rbL p inp = if rbC p inp = 0 then p.vs.filter (rbV p inp) ++ p.os.filter (rbO p inp) else []) := Lib.hid rfl
  generalize rbL p inp = L at *
  generalize rbC p inp = R at *
  have B0 := Lib.hid (below_alloc (Below.refl w.heap.size w) (.cells #[.string p.nm, .slice a1 p.ins.length c1, .slice a2 p.vs.length c2, .slice a3 p.os.length c3, .string p.gd, .slice a4 p.ls.length c4] 31))
  have HP : Hid (PB (w.alloc (.cells #[.string p.nm, .slice a1 p.ins.length c1, .slice a2 p.vs.length c2, .slice a3 p.os.length c3, .string p.gd, .slice a4 p.ls.length c4] 31)) w.heap.size p a1 a2 a3 a4 c1 c2 c3 c4) := Lib.hid ⟨by go_simp, by go_simp, by go_simp, by go_simp, by go_simp, by go_simp⟩
  have hmf : ∀ (fn : Fn) (first cap : Array Value) (w : World), (Instr.makeFunc fn first cap).run Tryz.prog w = .ok (.func fn first cap) w := fun _ _ _ _ => rfl
  clear hs hz h hk hcat
  dsimp only [pv] at *
  go_enter Tryz.func9, Tryz.ntmps9
  go_upto_region 1 with (fail)
  generalize w.alloc (.cells #[.string p.nm, .slice a1 p.ins.length c1, .slice a2 p.vs.length c2, .slice a3 p.os.length c3, .string p.gd, .slice a4 p.ls.length c4] 31) = W at *
  obtain ⟨k0, k1, k2, k3, k4, k5⟩ := HP.out
  go_wp2_with (fail)
  refine (HDC.out _ (H.out.below B0.out) (HK.out.below B0.out)).mono ?_
  rintro e w1 ⟨rfl, hb⟩
  have B1 := Lib.hid (below_chain B0.out hb)
  replace k0 := cell_later hb (by exact k0)
  replace k1 := cell_later hb (by exact k1)
  replace k2 := cell_later hb (by exact k2)
  replace k3 := cell_later hb (by exact k3)
  replace k4 := cell_later hb (by exact k4)
  replace k5 := cell_later hb (by exact k5)
  clear hb
  by_cases hr : R = 0
  rotate_left
  · have HLL : Hid (L = []) := Lib.hid (by rw [HR.out]; exact if_neg hr)
    have er : (R != 0) = true := by simpa using hr
    clear HR HEQ hr k0 k1 k2 k3 k4 k5
    go_wp2_with (fail)
    go_ret2
    rw [HLL.out]
    exact retSC_nil B1.out
  · obtain ⟨h1, h2, h3⟩ := HEQ.out hr
    have HLL : Hid (L = p.vs.filter (rbV p inp) ++ p.os.filter (rbO p inp)) := Lib.hid (by rw [HR.out]; exact if_pos hr)
    have bv := h1.v
    have bo := h1.o
    have HB := Lib.hid h1
    have HN := Lib.hid h2
    have HI := Lib.hid h3
    clear h1 h2 h3 HEQ HR
    subst hr
    go_wp2_with (fail)
    refine (HDM.out _ HB.out HN.out HI.out (H.out.below B1.out)).mono ?_
    rintro e w2 ⟨bm, l, c, f, rfl, hm, hb, hf, hg, hbm⟩
    have B2 := Lib.hid (below_chain B1.out hb)
    have HFI := Lib.hid (rb_filter HN.out HI.out hf hg)
    have HM := Lib.hid hm
    replace k0 := cell_later hb (by exact k0)
    replace k1 := cell_later hb (by exact k1)
    replace k2 := cell_later hb (by exact k2)
    replace k3 := cell_later hb (by exact k3)
    replace k4 := cell_later hb (by exact k4)
    replace k5 := cell_later hb (by exact k5)
    clear hb hf hg hbm hm HDM
    have hbw := World.block_lt_of_cell? _ _ k0
    have hbm := HM.out.lt
    dsimp only at hbw
    have ha := below_alloc (Below.refl w2.heap.size w2) (.cells #[.map (some bm)] 65)
    have B3 := Lib.hid (below_chain B2.out ha)
    have M3 := Lib.hid (HM.out.below ha)
    have kf : (w2.alloc (.cells #[.map (some bm)] 65)).cell? ⟨w2.heap.size, 0, none⟩ = some (.map (some bm)) := by go_simp
    have HKF := Lib.hid kf
    have HS3 : Hid ((w2.alloc (.cells #[.map (some bm)] 65)).heap.size = w2.heap.size + 1) := Lib.hid (by simp)
    have K2 := Lib.hid (cell_later ha k2)
    have K3 := Lib.hid (cell_later ha k3)
    clear ha k0 k1 k2 k3 k4 k5 kf HM
    go_upto_region 5 with (fail)
    generalize w2.alloc (.cells #[.map (some bm)] 65) = w3 at *
    have k2 := K2.out
    have k3 := K3.out
    have hba := below_alloc (Below.refl w3.heap.size w3) (.cells #[.slice a2 p.vs.length c2, .slice a3 p.os.length c3] 22)
    have B4 := Lib.hid (below_chain B3.out hba)
    have HCD := Lib.hid (HCC.out w3.heap.size (w3.alloc (.cells #[.slice a2 p.vs.length c2, .slice a3 p.os.length c3] 22)) (fun k d hd => by
      match k, hd with
      | 0, hd => simp only [List.getElem?_cons_zero, Option.some.injEq] at hd; subst hd; go_simp; first | done | rfl
      | 1, hd => simp only [List.getElem?_cons_succ, List.getElem?_cons_zero, Option.some.injEq] at hd; subst hd; go_simp; first | done | rfl
      | k + 2, hd => simp at hd) (fun d hd => by
      simp only [List.mem_cons, List.not_mem_nil, or_false] at hd
      rcases hd with rfl | rfl
      · exact ⟨H.out.v.below B4.out, HPZ.out.2.1⟩
      · exact ⟨H.out.o.below B4.out, HPZ.out.2.2⟩) (by rw [List.length_append]; omega))
    have M4 := Lib.hid (M3.out.below hba)
    have KF4 := Lib.hid (cell_later hba HKF.out)
    clear hba HCC M3 HKF
    have hlen : Hid ((p.vs ++ p.os).length ≤ 40) := Lib.hid (by rw [List.length_append]; omega)
    have HB4 : Hid (w2.heap.size < (w3.alloc (.cells #[.slice a2 p.vs.length c2, .slice a3 p.os.length c3] 22)).heap.size) := Lib.hid (by have := HS3.out; simp; omega)
    go_wp2_with (fail)
    refine HCD.out.mono ?_
    rintro e w5 ⟨A7, C7, rfl, ho7, hb⟩
    have B5 := Lib.hid (below_chain B4.out hb)
    have M5 := Lib.hid (M4.out.below hb)
    have KF5 := Lib.hid (cell_later hb KF4.out)
    have HO7 := Lib.hid ho7
    have HBB := Lib.hid B4.out.size
    clear hb ho7 HCD M4 KF4 k2 k3 K2 K3
    generalize (w3.alloc (.cells #[.slice a2 p.vs.length c2, .slice a3 p.os.length c3] 22)).heap.size = base at *
    have HDF := Lib.hid (c_DeleteFunc w2.heap.size bm l c A7 (p.vs ++ p.os).length C7 (p.vs ++ p.os) base w5 (by have := hlen.out; omega) rfl HZS.out KF5.out M5.out HB4.out (by have := HB4.out; omega) HO7.out)
    clear M5 KF5
    generalize (p.vs ++ p.os).length = pl at *
    go_wp2_with (fail)
    refine HDF.out.mono ?_
    rintro e w6 ⟨n, hn, rfl, ho, hg⟩
    have B6 := Lib.hid (below_of_grown B5.out hg (fun q hq => Nat.le_trans HBB.out ((HO7.out.lt q hq).1)))
    have HO6 := Lib.hid (own_mono ho HBB.out)
    have HN6 := Lib.hid hn
    clear ho hg hn HDF
    go_wp2_with (fail)
    go_ret2
    exact retSC_of (HLL.out.trans HFI.out.symm) rfl HN6.out HO6.out B6.out
end Go.Proofs.YtackekfjalaacaaGreatDoor
