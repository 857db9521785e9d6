/- Contracts and helpers (joined texts, part 3). The conditions stand at each theorem. -/
import Derived.Test.YtgpmglfcdbpgkaaGreatDoorH0
import Derived.Test.YtgpmglfcdbpgkaaGreatDoorH2
/- ReadModel: a text as a model, on the reference's side. Condition: the text's length. -/
namespace Go.Proofs.YtgpmglfcdbpgkaaGreatDoor
open Go.RowKit

set_option maxHeartbeats 4000000 in
set_option maxRecDepth 100000 in
theorem c_sReadModel (s : ByteArray) (w : World) (hs : s.size ≤ 1048576) : Calls Tryz.prog 5 #[.string s] w (RetMO (readM s.data.toList) w) := by
  have hSL : s.data.toList.length = s.size := by simp
  have HBX : Hid (Box3 25 (w.alloc (.cells #[.slice none 0 0, .slice none 0 0, .slice none 0 0] 25)) w.heap.size w.heap.size (.slice none 0 0) (.slice none 0 0) (.slice none 0 0)) := Lib.hid (box3_new _ _ _)
  have HB0 := Lib.hid (below_alloc (Below.refl w.heap.size w) (.cells #[.slice none 0 0, .slice none 0 0, .slice none 0 0] 25))
  have HSP := Lib.hid (fun w' => c_l01Split s 10 w' hs)
  obtain ⟨L, hLe⟩ : ∃ L, L = s.data.toList := ⟨_, rfl⟩
  rw [← hLe] at HSP hSL ⊢
  have HLE := Lib.hid hLe
  clear hLe
  have HNT := Lib.hid (fun h => readM_none (modelS_not (s := L) h))
  have HTH := Lib.hid (fun x y h => modelS_two (x := x) (y := y) (s := L) h)
  have HOKM := Lib.hid (fun x y a b rs h ha hb hr => read_ok (s := L) (x := x) (y := y) (a := a) (b := b) (rs := rs) (by omega) h ha hb hr)
  have HNE := Lib.hid (fun x y h => spl_nil_head (s := L) (x := x) (y := y) h)
  have HRN := Lib.hid (fun h => readM_none (s := L) h)
  have HRS := Lib.hid (fun m h hne => readM_some (s := L) (m := m) h hne)
  have HWL := Lib.hid (fun x (h : x ∈ spl 10 L) => spl_len x h)
  have HLL : Hid ((spl 10 L).length ≤ 1048577) := Lib.hid (by have := spl_count 10 L; omega)
  have HNN : Hid (spl 10 L ≠ []) := Lib.hid (spl_ne 10 L)
  rw [hSL] at HWL
  generalize readM L = V at *
  generalize modelS L = U at *
  generalize spl 10 L = ls at *
  clear hSL
  go_enter Tryz.func5, Tryz.ntmps5
  go_upto_region 1 with (fail)
  generalize w.alloc (.cells #[.slice none 0 0, .slice none 0 0, .slice none 0 0] 25) = W at *
  go_wp2_with (fail)
  refine (HSP.out _).mono ?_
  rintro e w1 ⟨Aw, cw, rfl, how, hb⟩
  have HRW := Lib.hid (Rd.own how)
  have HB1 := Lib.hid (below_chain HB0.out hb)
  have HX1 := Lib.hid (HBX.out.below hb)
  clear how hb HB0 HBX HSP
  obtain ⟨l0, lt, rfl⟩ : ∃ l0 lt, ls = l0 :: lt := by
    match ls, HNN.out with
    | l0 :: lt, _ => exact ⟨l0, lt, rfl⟩
  obtain ⟨ln, hln⟩ : ∃ ln, ln = (l0 :: lt).length := ⟨_, rfl⟩
  rw [← hln]
  have HLN := Lib.hid hln
  have hln0 : (0 : Int) < (ln : Int) := by rw [hln]; simp
  clear hln
  obtain ⟨b1, o1, rfl, hb1, y0⟩ := HRW.out.str (k := 0) rfl
  simp only [Nat.add_zero] at y0
  have hl0 := HWL.out l0 (by simp)
  have HSH := Lib.hid (fun w' => c_l01Split (bsT l0) 32 w' (by rw [bsT_size]; omega))
  rw [bsT_list] at HSH
  simp only [List.headD_cons] at HNT HTH HOKM HNE
  have HHM := Lib.hid (fun x (h : x ∈ spl 32 l0) => spl_len x h)
  go_wp2_with (fail)
  refine (HSH.out _).mono ?_
  rintro e w2 ⟨Ah, ch, rfl, how, hb⟩
  have HRH := Lib.hid (Rd.own how)
  have HRW2 := Lib.hid (HRW.out.below hb)
  have HB2 := Lib.hid (below_chain HB1.out hb)
  have HX2 := Lib.hid (HX1.out.below hb)
  clear how hb HB1 HX1 HSH HRW y0 hb1
  generalize spl 32 l0 = hd at *
  obtain ⟨hn, hhn⟩ : ∃ hn, hn = hd.length := ⟨_, rfl⟩
  rw [← hhn]
  by_cases h2 : ¬ hd.length = 2
  · have HN : Hid (V = none) := Lib.hid (HNT.out h2)
    have hq : ((hn : Int) != 2) = true := by simp; omega
    have HF := Lib.hid (Box3.set3 HX2.out (.slice none 0 0) (.slice none 0 0) (.slice none 0 0))
    have HBF := Lib.hid (below_put HB2.out (.slice none 0 0) (.slice none 0 0) (.slice none 0 0) (Nat.le_refl _))
    obtain ⟨v0, v1, v2, f0, f1, f2, _, _⟩ := HX2.out.c
    clear h2 hhn HNT HTH HWL HB2 HRW2 HRH HOKM HNE HRN HRS
    go_wp2_with (fail)
    change bodyPost _ _ _ _ _ (set3 w2 w.heap.size (.slice none 0 0) (.slice none 0 0) (.slice none 0 0))
    generalize set3 w2 w.heap.size (.slice none 0 0) (.slice none 0 0) (.slice none 0 0) = WF at HF HBF ⊢
    obtain ⟨r0, r1, r2, _⟩ := Box3.c HF.out.1
    clear f0 f1 f2 v0 v1 v2
    refine bodyPost_ret (v := .tuple #[.agg #[.slice none 0 0, .slice none 0 0, .slice none 0 0], .bool false]) (by simp [results, Tryz.results5, go_sem, r0, r1, r2]) rfl (retMO_none HN.out HBF.out)
  replace h2 := Decidable.not_not.1 h2
  obtain ⟨x, y, rfl⟩ : ∃ x y, hd = [x, y] := by
    match hd, h2 with
    | [x, y], _ => exact ⟨x, y, rfl⟩
  have hxl := HHM.out x (by simp)
  have hyl := HHM.out y (by simp)
  have HUU := Lib.hid (HTH.out x y rfl)
  have HNE2 := Lib.hid (HNE.out x y rfl)
  have HOK2 := Lib.hid (fun a b rs ha hb hr => HOKM.out x y a b rs rfl ha hb hr)
  obtain ⟨b2, o2, rfl, _, x0⟩ := HRH.out.str (k := 0) rfl
  obtain ⟨_, _, e1, _, x1⟩ := HRH.out.str (k := 1) rfl
  simp only [Option.some.injEq, Addr.mk.injEq, and_true] at e1
  obtain ⟨rfl, rfl⟩ := e1
  simp only [Nat.add_zero] at x0
  have HSX := Lib.hid (fun w' => c_l01Split (bsT x) 44 w' (by rw [bsT_size]; omega))
  have HSY := Lib.hid (fun w' => c_l01Split (bsT y) 44 w' (by rw [bsT_size]; omega))
  rw [bsT_list] at HSX HSY
  have HXM := Lib.hid (fun z (h : z ∈ spl 44 x) => spl_len z h)
  have HYM := Lib.hid (fun z (h : z ∈ spl 44 y) => spl_len z h)
  have HXC := Lib.hid (spl_count 44 x)
  have HYC := Lib.hid (spl_count 44 y)
  simp only [List.length_cons, List.length_nil, Nat.zero_add, Nat.reduceAdd] at hhn
  subst hhn
  clear h2 HTH HNE HOKM HNT HHM HRH
  generalize spl 44 x = xs at *
  generalize spl 44 y = ys at *
  have hxl2 : x.length ≤ 1048576 := by omega
  have hyl2 : y.length ≤ 1048576 := by omega
  go_wp2_with (fail)
  refine (HSX.out _).mono ?_
  rintro e w3 ⟨A3, c3, rfl, how, hb⟩
  have HR3 := Lib.hid (Rd.own how)
  have HRW3 := Lib.hid (HRW2.out.below hb)
  have HB3 := Lib.hid (below_chain HB2.out hb)
  have HX3 := Lib.hid (HX2.out.below hb)
  replace x1 := cell_later hb x1
  clear how hb HB2 HX2 HSX HRW2 x0
  go_wp2_with (fail)
  refine (c_l01Numbers A3 c3 xs.length xs _ rfl (by have := HXC.out; omega) (fun z h => Nat.le_trans (HXM.out z h) (by omega)) HR3.out).mono ?_
  rintro e w4 hret
  obtain ⟨Az, zn, cz, qx, rfl, hq0, hq1, hq2, hb⟩ := hret.both
  have HRW4 := Lib.hid (HRW3.out.below hb)
  have HB4 := Lib.hid (below_chain HB3.out hb)
  have HX4 := Lib.hid (HX3.out.below hb)
  have HQ0 := Lib.hid hq0
  have HQ1 := Lib.hid hq1
  have HQ2 := Lib.hid (fun zs e => own_mono (hq2 zs e) HB3.out.size)
  replace x1 := cell_later hb x1
  clear hret hb HB3 HX3 HRW3 HR3 hq0 hq1 hq2
  go_wp2_with (fail)
  refine (HSY.out _).mono ?_
  rintro e w5 ⟨A5, c5, rfl, how, hb⟩
  have HR5 := Lib.hid (Rd.own how)
  have HRW5 := Lib.hid (HRW4.out.below hb)
  have HB5 := Lib.hid (below_chain HB4.out hb)
  have HX5 := Lib.hid (HX4.out.below hb)
  have HQ5 := Lib.hid (fun zs e => own_below (HQ2.out zs e) hb)
  clear how hb HB4 HX4 HSY HRW4 x1 HQ2
  go_wp2_with (fail)
  refine (c_l01Numbers A5 c5 ys.length ys _ rfl (by have := HYC.out; omega) (fun z h => Nat.le_trans (HYM.out z h) (by omega)) HR5.out).mono ?_
  rintro e w6 hret
  obtain ⟨Ax, xn, cs, qy, rfl, hp0, hp1, hp2, hb⟩ := hret.both
  have HRW6 := Lib.hid (HRW5.out.below hb)
  have HB6 := Lib.hid (below_chain HB5.out hb)
  have HX6 := Lib.hid (HX5.out.below hb)
  have HP0 := Lib.hid hp0
  have HP1 := Lib.hid hp1
  have HP2 := Lib.hid (fun zs e => own_mono (hp2 zs e) HB5.out.size)
  have HQ6 := Lib.hid (fun zs e => own_below (HQ5.out zs e) hb)
  clear hret hb HB5 HX5 HRW5 HR5 hp0 hp1 hp2 HQ5 HXM HYM HXC HYC
  have HUV : Hid (U = match seqO sgnS xs with
    | none => none
    | some a => match seqO sgnS ys with
      | none => none
      | some b => match seqO ruleS (lt.dropLast) with
        | none => none
        | some rs => some ⟨a, b, rs⟩) := HUU
  clear HUU
  generalize seqO sgnS xs = ox at *
  generalize seqO sgnS ys = oy at *
  by_cases hbad : qx = false ∨ qy = false
  · have HN : Hid (V = none) := Lib.hid (HRN.out (by
      rw [HUV.out]
      rcases hbad with h | h
      · rw [HQ0.out h]
      · rw [HP0.out h]
        cases ox <;> rfl))
    have HF := Lib.hid (Box3.set3 HX6.out (.slice none 0 0) (.slice none 0 0) (.slice none 0 0))
    have HBF := Lib.hid (below_put HB6.out (.slice none 0 0) (.slice none 0 0) (.slice none 0 0) (Nat.le_refl _))
    obtain ⟨v0, v1, v2, f0, f1, f2, _, _⟩ := HX6.out.c
    clear HUV HQ0 HQ1 HP0 HP1 HP2 HQ6 HB6 HX6 HRW6
    cases qx
    · clear hbad
      go_wp2_with (fail)
      change bodyPost _ _ _ _ _ (set3 w6 w.heap.size (.slice none 0 0) (.slice none 0 0) (.slice none 0 0))
      generalize set3 w6 w.heap.size (.slice none 0 0) (.slice none 0 0) (.slice none 0 0) = WF at HF HBF ⊢
      obtain ⟨r0, r1, r2, _⟩ := Box3.c HF.out.1
      clear f0 f1 f2 v0 v1 v2
      refine bodyPost_ret (v := .tuple #[.agg #[.slice none 0 0, .slice none 0 0, .slice none 0 0], .bool false]) (by simp [results, Tryz.results5, go_sem, r0, r1, r2]) rfl (retMO_none HN.out HBF.out)
    · obtain rfl : qy = false := by
        rcases hbad with h | h
        · cases h
        · exact h
      clear hbad
      go_wp2_with (fail)
      change bodyPost _ _ _ _ _ (set3 w6 w.heap.size (.slice none 0 0) (.slice none 0 0) (.slice none 0 0))
      generalize set3 w6 w.heap.size (.slice none 0 0) (.slice none 0 0) (.slice none 0 0) = WF at HF HBF ⊢
      obtain ⟨r0, r1, r2, _⟩ := Box3.c HF.out.1
      clear f0 f1 f2 v0 v1 v2
      refine bodyPost_ret (v := .tuple #[.agg #[.slice none 0 0, .slice none 0 0, .slice none 0 0], .bool false]) (by simp [results, Tryz.results5, go_sem, r0, r1, r2]) rfl (retMO_none HN.out HBF.out)
  obtain ⟨rfl, rfl⟩ : qx = true ∧ qy = true := by
    constructor
    · cases qx with | true => rfl | false => exact absurd (.inl rfl) hbad
    · cases qy with | true => rfl | false => exact absurd (.inr rfl) hbad
  obtain ⟨sz, rfl, rfl⟩ := HQ1.out rfl
  obtain ⟨st, rfl, rfl⟩ := HP1.out rfl
  obtain ⟨rl, hrl⟩ : ∃ rl, rl = lt.dropLast := ⟨_, rfl⟩
  have HUR : Hid (U = match seqO ruleS rl with | none => none | some rs => some ⟨sz, st, rs⟩) := Lib.hid (by rw [HUV.out, hrl])
  have HRL : Hid (rl.length = ln - 2) := Lib.hid (by rw [hrl, List.length_dropLast, HLN.out]; rfl)
  have HRA : Hid (∀ k, k + 2 < ln → rl[k]? = (l0 :: lt)[k + 1]?) := Lib.hid (by
    intro k hk
    rw [HLN.out] at hk
    rw [hrl, List.getElem?_cons_succ, List.getElem?_dropLast, if_pos (by simp at hk; omega)])
  have HOK3 := Lib.hid (fun rs h => HOK2.out sz st rs rfl rfl (by rw [List.tail_cons, ← hrl]; exact h))
  have HZ0 := Lib.hid (HQ6.out sz rfl)
  have HS0 := Lib.hid (HP2.out st rfl)
  have hlnb : ln ≤ 1048577 := by have := HLL.out; rw [HLN.out]; exact this
  have HOR : Hid ((w6.alloc (.cells #[] 45)).ownsRow w6.heap.size 45 3 (.slice (some ⟨w6.heap.size, 0, none⟩) 0 0) 0 (rudCells [])) := Lib.hid (by
    have h := World.ownsRow_made (e := 45) (size := 3) (base := w6.heap.size) w6 #[] 0 (Nat.le_refl _) (Nat.zero_le _) rfl
    simpa [rudCells] using h)
  have HBa := Lib.hid (below_alloc (Below.refl w6.heap.size w6) (.cells #[] 45))
  clear hbad HUV hrl HOK2 HQ6 HP2 HQ0 HQ1 HP0 HP1 hxl hyl hxl2 hyl2 HLL HNN hl0
  go_upto_region 10 with (fail)
  generalize w6.alloc (.cells #[] 45) = W6 at *
  go_wp2_with (fail)
  go_loopw [10, 11, 12, 13] (fun v i _ _ wr => ∃ (k j : Nat) (A : Option Addr) (c : Nat) (ds : List RuD), i = .int .i64 j ∧ v = .slice A k c ∧ j = k + 1 ∧ Hid (k ≤ ln - 2) ∧ Hid (ds.length = k) ∧ Hid (seqO ruleS (rl.take k) = some (ds.map RuD.r)) ∧ Hid (wr.ownsRow w6.heap.size 45 3 (.slice A k c) k (rudCells ds)) ∧ Hid (∀ d ∈ ds, Nest wr w6.heap.size d) ∧ Hid (Below w6.heap.size w6 wr)) (fun _ i _ _ _ => ln - (intOf i).toNat)
  case atStart => exact ⟨0, 1, _, _, [], rfl, rfl, rfl, Lib.hid (Nat.zero_le _), Lib.hid rfl, Lib.hid rfl, HOR, Lib.hid (fun _ h => nomatch h), HBa⟩
  case round =>
    obtain ⟨k, j, A, c, ds, rfl, rfl, hj, hk, hds, hz, ho, hnst, hb⟩ := hrel
    clear HOR HBa
    obtain ⟨j1, hj1⟩ : ∃ j1, j1 = j + 1 := ⟨_, rfl⟩
    have hjb : j ≤ 1048578 := by have := hk.out; omega
    have hw1 : IntKind.i64.wrap ((j : Int) + 1) = (j1 : Int) := by rw [IntWalk.i64_in _ (by omega)]; omega
    have HJ := Lib.hid hj
    have HJ1 := Lib.hid hj1
    by_cases hlt : j1 < ln
    · obtain ⟨x, hx⟩ : ∃ z, (l0 :: lt)[j]? = some z := ⟨_, List.getElem?_eq_getElem (by have := HLN.out; omega)⟩
      have HXR : Hid (rl[k]? = some x) := Lib.hid (by rw [HRA.out k (by omega), ← hj]; exact hx)
      have hxl := HWL.out x (List.mem_of_getElem? hx)
      obtain ⟨_, _, e1, _, g0⟩ := (HRW6.out.below hb.out).str hx
      simp only [Option.some.injEq, Addr.mk.injEq, and_true] at e1
      obtain ⟨rfl, rfl⟩ := e1
      have HC := Lib.hid (fun w' => c_l20ReadRule (bsT x) w' (by rw [bsT_size]; omega))
      rw [bsT_list] at HC
      have hk0 : (0 : Int) ≤ (j : Int) := by omega
      have hk1 : (j : Int) < (ln : Int) := by omega
      have hk2 : (j1 : Int) < (ln : Int) := by omega
      clear hx hj hj1 hlt
      go_wp2_with (fail)
      refine (HC.out _).mono ?_
      rintro e w7 hret
      obtain ⟨nm, Ag, gn, cg, Ae, en, ce, q, rfl, hq0, hq1, hq2, hb7⟩ := hret.both
      have HFn : Hid (Box3 45 (w7.alloc (.cells #[.string nm, .slice Ag gn cg, .slice Ae en ce] 45)) w7.heap.size w7.heap.size (.string nm) (.slice Ag gn cg) (.slice Ae en ce)) := Lib.hid (box3_new _ _ _)
      have hb8 := below_alloc (Below.refl w7.heap.size w7) (.cells #[.string nm, .slice Ag gn cg, .slice Ae en ce] 45)
      have hb78 := below_chain hb7 hb8
      have HB8 := Lib.hid (below_chain hb.out hb78)
      have HO8 := Lib.hid (own_below ho.out hb78)
      have HN8 := Lib.hid (fun d h => (hnst.out d h).below hb78)
      have HD8 := Lib.hid (fun r h => ((hq2 r h).below hb8).mono (Nat.le_trans hb.out.size (Nat.le_refl _)))
      have HQ0 := Lib.hid hq0
      have HQ1 := Lib.hid hq1
      clear hret hq0 hq1 hq2 hb7 hb78 hb ho hnst g0 HC hb8
      go_upto_region 14 with (fail)
      generalize w7.alloc (.cells #[.string nm, .slice Ag gn cg, .slice Ae en ce] 45) = w8 at HFn HB8 HO8 HN8 HD8 ⊢
      cases q
      · have HN : Hid (V = none) := Lib.hid (HRN.out (by rw [HUR.out, seqO_bad (List.mem_of_getElem? HXR.out) (HQ0.out rfl)]))
        have HX8 := Lib.hid (HX6.out.below HB8.out)
        have HF := Lib.hid (Box3.set3 HX8.out (.slice none 0 0) (.slice none 0 0) (.slice none 0 0))
        have HBF := Lib.hid (below_put (below_chain HB6.out HB8.out) (.slice none 0 0) (.slice none 0 0) (.slice none 0 0) (Nat.le_refl _))
        obtain ⟨v0, v1, v2, f0, f1, f2, _, _⟩ := HX8.out.c
        clear HX8 HO8 HN8 HD8 HFn HQ0 HQ1 HX6 HB6 HB8
        go_wp2_with (fail)
        change bodyPost _ _ _ _ _ (set3 w8 w.heap.size (.slice none 0 0) (.slice none 0 0) (.slice none 0 0))
        generalize set3 w8 w.heap.size (.slice none 0 0) (.slice none 0 0) (.slice none 0 0) = WF at HF HBF ⊢
        obtain ⟨r0, r1, r2, _⟩ := Box3.c HF.out.1
        clear f0 f1 f2 v0 v1 v2
        refine bodyPost_ret (v := .tuple #[.agg #[.slice none 0 0, .slice none 0 0, .slice none 0 0], .bool false]) (by simp [results, Tryz.results5, go_sem, r0, r1, r2]) rfl (retMO_none HN.out HBF.out)
      · obtain ⟨r, hr, rfl, rfl, rfl⟩ := HQ1.out rfl
        have HZ2 : Hid (seqO ruleS (rl.take (k + 1)) = some ((ds ++ [(⟨r, Ag, cg, Ae, ce⟩ : RuD)]).map RuD.r)) := Lib.hid (by
          rw [List.take_add_one, HXR.out, List.map_append]
          exact seqO_snoc hz.out hr)
        have HDR := Lib.hid (HD8.out r hr)
        obtain ⟨q0, q1, q2, _, _, _, _, _⟩ := HFn.out.c
        have HAL := Lib.hid (below_alloc (Below.refl w8.heap.size w8) (.cells #[.string r.nm, .slice Ag r.gs.length cg, .slice Ae r.es.length ce] 45))
        clear hr HQ0 HQ1 HD8 HFn
        go_wp2_with (first
          | (at_builtin
             refine wpList_push_rul _ rfl (.tmp 67) (.tmp 69) rfl w6.heap.size (.slice A k c) k ds ⟨r, Ag, cg, Ae, ce⟩ w8.heap.size 1 rfl (own_below HO8.out HAL.out) rfl (by go_simp) (by dsimp only [RuD.vg]; go_simp) (by dsimp only [RuD.ve]; go_simp) (by have := hk.out; omega) (Nat.le_trans HB8.out.size HAL.out.size) ?_
             intro v9 w9 hown hgrow
             obtain ⟨A9, c9, rfl⟩ := own_shape hown
             have HO9 := Lib.hid hown
             have HO8A := own_below HO8.out HAL.out
             have HN9 : Hid (∀ d ∈ ds ++ [(⟨r, Ag, cg, Ae, ce⟩ : RuD)], Nest w9 w6.heap.size d) := Lib.hid (fun d hd => by
               rcases List.mem_append.1 hd with hd | hd
               · exact ((HN8.out d hd).below HAL.out).aside HO8A (by decide) (by decide) hgrow
               · rw [List.mem_singleton] at hd
                 subst hd
                 exact (HDR.out.below HAL.out).aside HO8A (by decide) (by decide) hgrow)
             have HB9 := Lib.hid (below_of_grown (below_chain HB8.out HAL.out) hgrow (fun p hp => (HO8.out.lt p hp).1))
             clear hown hgrow HO8A HO8 HN8 HB8 HAL HDR)
          )
        go_roundw
        case rel => exact ⟨k + 1, j1, A9, c9, ds ++ [(⟨r, Ag, cg, Ae, ce⟩ : RuD)], by go_num, rfl, by have := HJ.out; have := HJ1.out; omega, Lib.hid (by have := HJ.out; have := HJ1.out; omega), Lib.hid (by rw [List.length_append, hds.out]; rfl), HZ2, HO9, HN9, HB9⟩
        case measure => have := HJ1.out; simp [intOf]; omega
    · have hk2 : ¬ ((j1 : Int) < (ln : Int)) := by omega
      have hke : ln - 2 ≤ k := by omega
      have HT : Hid (seqO ruleS rl = some (ds.map RuD.r)) := Lib.hid (by rw [← hz.out, List.take_of_length_le (by have := HRL.out; omega)])
      have HU : Hid (U = some ⟨sz, st, ds.map RuD.r⟩) := Lib.hid (by rw [HUR.out, HT.out])
      have HOK := Lib.hid (HOK3.out _ HT.out)
      have HVV := Lib.hid (HRS.out _ HU.out HNE2.out)
      obtain rfl : k = (ds.map RuD.r).length := by rw [List.length_map]; exact hds.out.symm
      have HMO : Hid (MOwn wr w.heap.size Az Ax A cz cs c ⟨sz, st, ds.map RuD.r⟩ ds) := Lib.hid ⟨own_below HZ0.out hb.out, own_below HS0.out hb.out, own_mono ho.out HB6.out.size, rfl, fun d hd => (hnst.out d hd).mono HB6.out.size⟩
      have HX7 := Lib.hid (HX6.out.below hb.out)
      have HB7 := Lib.hid (below_chain HB6.out hb.out)
      clear hb hnst ho HX6 HB6 HZ0 HS0 hz hds hk HT HU HUR HRA HRL HRN HRS HWL HOK3 HRW6 hj hj1 hlt hke HJ HJ1
      obtain ⟨rs, hrs⟩ : ∃ rs, rs = ds.map RuD.r := ⟨_, rfl⟩
      rw [← hrs] at HVV HOK HMO ⊢
      clear hrs
      have HB9 := Lib.hid (below_alloc (Below.refl wr.heap.size wr) (.cells #[.slice Az sz.length cz, .slice Ax st.length cs, .slice A rs.length c] 25))
      have HX9 : Hid (Box3 25 (wr.alloc (.cells #[.slice Az sz.length cz, .slice Ax st.length cs, .slice A rs.length c] 25)) wr.heap.size wr.heap.size (.slice Az sz.length cz) (.slice Ax st.length cs) (.slice A rs.length c)) := Lib.hid (box3_new _ _ _)
      have HM9 := Lib.hid (HMO.out.below HB9.out)
      have HXX := Lib.hid (HX7.out.below HB9.out)
      have HB99 := Lib.hid (below_chain HB7.out HB9.out)
      have hse : s.toList.isEmpty = false := by
        rw [Lib.toList_data, ← HLE.out]
        cases hL : L with
        | nil => exact absurd hL HNE2.out
        | cons => rfl
      have HCM := Lib.hid (fun w' h => c_sModelText ⟨sz, st, rs⟩ Az Ax A cz cs c w' HOK.out h)
      clear HMO HX7 HB9 HB7
      go_upto_region 18 with (fail)
      generalize wr.alloc (.cells #[.slice Az sz.length cz, .slice Ax st.length cs, .slice A rs.length c] 25) = w9 at *
      obtain ⟨p0, p1, p2, _, _, _, _, _⟩ := HX9.out.c
      go_wp2_with (fail)
      refine (HCM.out _ HM9.out.md).mono ?_
      rintro e w10 ⟨t, rfl, ht, hb⟩
      have HM10 := Lib.hid (HM9.out.below hb)
      have HXX10 := Lib.hid (HXX.out.below hb)
      have HB10 := Lib.hid (below_chain HB99.out hb)
      replace p0 := cell_later hb p0
      replace p1 := cell_later hb p1
      replace p2 := cell_later hb p2
      have HTT := Lib.hid ht
      clear hb HM9 HXX HB99 HX9 HCM ht
      by_cases heq : outT ⟨sz, st, rs⟩ = L
      · have HVS : Hid (V = some ⟨sz, st, rs⟩) := Lib.hid (by rw [HVV.out, if_pos heq])
        have hqq : (t.toList == s.toList) = true := by rw [str_eq, HTT.out, heq, HLE.out]; simp
        have hqn : (t.toList != s.toList) = false := by rw [bne, hqq]; rfl
        have HF := Lib.hid (Box3.set3 HXX10.out (.slice Az sz.length cz) (.slice Ax st.length cs) (.slice A rs.length c))
        have HBF := Lib.hid (below_put HB10.out (.slice Az sz.length cz) (.slice Ax st.length cs) (.slice A rs.length c) (Nat.le_refl _))
        have HMF := Lib.hid (HM10.out.boxed HXX10.out (x' := .slice Az sz.length cz) (y' := .slice Ax st.length cs) (z' := .slice A rs.length c))
        obtain ⟨v0, v1, v2, f0, f1, f2, _, _⟩ := HXX10.out.c
        clear heq HM10 HXX10 HB10 HVV HTT
        go_wp2_with (fail)
        change bodyPost _ _ _ _ _ (set3 w10 w.heap.size (.slice Az sz.length cz) (.slice Ax st.length cs) (.slice A rs.length c))
        generalize set3 w10 w.heap.size (.slice Az sz.length cz) (.slice Ax st.length cs) (.slice A rs.length c) = WF at HF HBF HMF ⊢
        obtain ⟨r0, r1, r2, _⟩ := Box3.c HF.out.1
        clear f0 f1 f2 v0 v1 v2
        refine bodyPost_ret (v := .tuple #[.agg #[.slice Az sz.length cz, .slice Ax st.length cs, .slice A rs.length c], .bool true]) (by simp [results, Tryz.results5, go_sem, r0, r1, r2]) rfl (retMO_some HVS.out HMF.out HBF.out)
      · have HN : Hid (V = none) := Lib.hid (by rw [HVV.out, if_neg heq])
        have hqq : (t.toList == s.toList) = false := by rw [str_eq, HTT.out, ← HLE.out]; simpa using heq
        have hqn : (t.toList != s.toList) = true := by rw [bne, hqq]; rfl
        have HF := Lib.hid (Box3.set3 HXX10.out (.slice none 0 0) (.slice none 0 0) (.slice none 0 0))
        have HBF := Lib.hid (below_put HB10.out (.slice none 0 0) (.slice none 0 0) (.slice none 0 0) (Nat.le_refl _))
        obtain ⟨v0, v1, v2, f0, f1, f2, _, _⟩ := HXX10.out.c
        clear heq HM10 HXX10 HB10 HVV HTT
        go_wp2_with (fail)
        change bodyPost _ _ _ _ _ (set3 w10 w.heap.size (.slice none 0 0) (.slice none 0 0) (.slice none 0 0))
        generalize set3 w10 w.heap.size (.slice none 0 0) (.slice none 0 0) (.slice none 0 0) = WF at HF HBF ⊢
        obtain ⟨r0, r1, r2, _⟩ := Box3.c HF.out.1
        clear f0 f1 f2 v0 v1 v2
        refine bodyPost_ret (v := .tuple #[.agg #[.slice none 0 0, .slice none 0 0, .slice none 0 0], .bool false]) (by simp [results, Tryz.results5, go_sem, r0, r1, r2]) rfl (retMO_none HN.out HBF.out)
end Go.Proofs.YtgpmglfcdbpgkaaGreatDoor

/- What both readings of a model hand back, in one form. No condition. -/
namespace Go.Proofs.YtgpmglfcdbpgkaaGreatDoor
open Go.RowKit

/-- What both readings hand back, in one form. -/
def zM : Mdl := ⟨[], [], []⟩
theorem zM_ok : MOk zM := ⟨⟨by decide, by decide, ⟨by decide, fun _ h => nomatch h⟩⟩, fun _ h => nomatch h⟩
def mV (o : Option Mdl) : Mdl := o.getD zM
theorem RetMO.both {o : Option Mdl} {w w' : World} {e : Ending} (h : RetMO o w e w') : ∃ az ax ar cz cs cr ds, e = .returned (.tuple #[mv (mV o) az ax ar cz cs cr, .bool o.isSome]) ∧ MOwn w' w.heap.size az ax ar cz cs cr (mV o) ds ∧ Below w.heap.size w w' := by
  match o, h with
  | none, ⟨h1, h2⟩ => exact ⟨none, none, none, 0, 0, 0, [], h1, ⟨World.ownsRow_nil _ _ _ _, World.ownsRow_nil _ _ _ _, World.ownsRow_nil _ _ _ _, rfl, fun _ h => (nomatch h)⟩, h2⟩
  | some m, ⟨az, ax, ar, cz, cs, cr, ds, h1, h2, h3⟩ => exact ⟨az, ax, ar, cz, cs, cr, ds, h1, h2, h3⟩
theorem RetMS.both {o : Option Mdl} {w w' : World} {e : Ending} (h : RetMS o w e w') : ∃ az ax ar cz cs cr ds, e = .returned (.tuple #[mv (mV o) az ax ar cz cs cr, .bool o.isSome]) ∧ MOwn w' w.heap.size az ax ar cz cs cr (mV o) ds ∧ SepD ds ∧ (∀ q, (Value.slice az (mV o).sz.length cz).ownBlock = some q → (Value.slice ax (mV o).st.length cs).ownBlock ≠ some q) ∧ Below w.heap.size w w' := by
  match o, h with
  | none, ⟨h1, h2⟩ => exact ⟨none, none, none, 0, 0, 0, [], h1, ⟨World.ownsRow_nil _ _ _ _, World.ownsRow_nil _ _ _ _, World.ownsRow_nil _ _ _ _, rfl, fun _ h => (nomatch h)⟩, List.Pairwise.nil, fun q h => by simp [Value.ownBlock] at h, h2⟩
  | some m, ⟨az, ax, ar, cz, cs, cr, ds, h1, h2, h3, h4, h5⟩ => exact ⟨az, ax, ar, cz, cs, cr, ds, h1, h2, h3, h4, h5⟩
theorem read_MN {L : List UInt8} {m : Mdl} (h : readM L = some m) : MdlN m := by
  unfold readM at h
  cases hI : modelI L with
  | none => rw [hI] at h; cases h
  | some m' =>
    rw [hI] at h
    dsimp only at h
    by_cases hc : mdB m' = true ∧ txModel m' = L
    · rw [if_pos hc] at h
      injection h with h
      subst h
      exact valid_N hc.1
    · rw [if_neg hc] at h
      cases h
theorem MdlN.ok {m : Mdl} (hN : MdlN m) : MOk m := by
  refine ⟨⟨?_, ?_, ?_, fun r hr => ?_⟩, fun r hr => ?_⟩
  · have := hN.z; omega
  · have := hN.t; omega
  · have := hN.r; omega
  · have := hN.g r hr; omega
  · have := hN.g r hr; omega
theorem readM_ok (L : List UInt8) : MOk (mV (readM L)) := by
  cases h : readM L with
  | none => exact zM_ok
  | some m => exact (read_MN h).ok
end Go.Proofs.YtgpmglfcdbpgkaaGreatDoor
