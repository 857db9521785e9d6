/- Contracts and helpers (joined texts, part 2). The conditions stand at each theorem. -/
import Derived.Test.YtgpmglfcdbpgkaaGreatDoorH1
/- ReadModel: a text as a model, on the program's side. Condition: the text's length; the library's variables hold what they are set to. -/
namespace Go.Proofs.YtgpmglfcdbpgkaaGreatDoor
open Go.RowKit

theorem c_trim (s : ByteArray) (w : World) (hs : s.size ≤ 1048576) : Calls Tryz.prog 25 #[.string s, .string ⟨#[10]⟩] w fun e w' => e = .returned (.string (bsT (Lib.trimSuffix s.data.toList [10]))) ∧ w' = w := sh_strings_TrimSuffix s ⟨#[10]⟩ w (by omega)
theorem below_drewM (w : World) (n : Nat) : Below w.heap.size w (w.drewN n) := below_drewN (Below.refl _ _) n
theorem c_cut (s : ByteArray) (w : World) (hs : s.size ≤ 1048576) (hG : Gw w) : Calls Tryz.prog 26 #[.string s, .string ⟨#[32]⟩] w fun e w' => ∃ b, e = .returned (.tuple #[.string (bsT (Lib.cut s.data.toList [32]).1), .string (bsT (Lib.cut s.data.toList [32]).2.1), .bool b]) ∧ Below w.heap.size w w' := by
  obtain ⟨m, hm⟩ := hG.m
  refine (sh_strings_Cut s ⟨#[32]⟩ m w (by omega) hm).mono ?_
  rintro e w' ⟨rfl, n, rfl⟩
  exact ⟨_, rfl, below_drewM w n⟩
theorem Rd.tailS {w : World} {b o : Nat} {x : List UInt8} {t : List (List UInt8)} (h : Rd w (some ⟨b, o, none⟩) (strs (x :: t))) : Rd w (some ⟨b, o + 1, none⟩) (strs t) := by
  obtain ⟨b', o', e, hb, hc⟩ := h.some_ (by simp [strs])
  simp only [Option.some.injEq, Addr.mk.injEq, and_true] at e
  obtain ⟨rfl, rfl⟩ := e
  refine .inr ⟨b, o + 1, rfl, hb, fun j u hu => ?_⟩
  have := hc (j + 1) u (by simpa [strs] using hu)
  rwa [show o + (j + 1) = o + 1 + j by omega] at this
set_option maxHeartbeats 4000000 in
set_option maxRecDepth 100000 in
theorem c_ReadModel (s : ByteArray) (w : World) (hs : s.size ≤ 1048576) (hG : Gw w) : Calls Tryz.prog 6 #[.string s] w (RetMS (readM s.data.toList) w) := by
  have hSL : s.data.toList.length = s.size := by simp
  have HBX : Hid (Box3 25 (w.alloc (.cells #[.slice none 0 0, .slice none 0 0, .slice none 0 0] 25)) w.heap.size w.heap.size (.slice none 0 0) (.slice none 0 0) (.slice none 0 0)) := Lib.hid (box3_new _ _ _)
  have HB0 := Lib.hid (below_alloc (Below.refl w.heap.size w) (.cells #[.slice none 0 0, .slice none 0 0, .slice none 0 0] 25))
  have HG0 := Lib.hid (hG.below HB0.out)
  obtain ⟨L, hLe⟩ : ∃ L, L = s.data.toList := ⟨_, rfl⟩
  have HTR := Lib.hid (fun w' => c_trim s w' hs)
  rw [← hLe] at hSL HTR ⊢
  have HLE := Lib.hid hLe
  clear hLe hG
  have HTL : Hid ((Lib.trimSuffix L [10]).length ≤ 1048576) := Lib.hid (by have := trim_len L [10]; omega)
  have HLI : Hid (linesI L = spl 10 (Lib.trimSuffix L [10])) := Lib.hid rfl
  have HME := Lib.hid (modelI_eq L)
  have HRN := Lib.hid (fun h => readM_none2 (s := L) h)
  have HRS := Lib.hid (fun m h => readM_some2 (s := L) (m := m) h)
  have HOK0 := Lib.hid (fun x y a b rs hx hy ha hb hr => readI_ok (s := L) (ls := linesI L) (x := x) (y := y) (a := a) (b := b) (rs := rs) (by omega) rfl hx hy ha hb hr)
  generalize readM L = V at *
  generalize modelI L = U at *
  rw [HLI.out] at HME HOK0
  generalize Lib.trimSuffix L [10] = tr at *
  have HSP := Lib.hid (fun w' => c_split (bsT tr) 10 w' (by rw [bsT_size]; exact HTL.out))
  rw [bsT_list] at HSP
  have HWL := Lib.hid (fun x (h : x ∈ spl 10 tr) => Nat.le_trans (spl_len x h) HTL.out)
  have HLC : Hid ((spl 10 tr).length ≤ 1048577) := Lib.hid (by have := spl_count 10 tr; have := HTL.out; omega)
  have HNN : Hid (spl 10 tr ≠ []) := Lib.hid (spl_ne 10 tr)
  clear HLI hSL HTL
  generalize spl 10 tr = ls at *
  obtain ⟨l0, lt, rfl⟩ : ∃ l0 lt, ls = l0 :: lt := by
    match ls, HNN.out with
    | l0 :: lt, _ => exact ⟨l0, lt, rfl⟩
  simp only [List.headD_cons, List.tail_cons] at HME HOK0
  go_enter Tryz.func6, Tryz.ntmps6
  go_upto_region 1 with (fail)
  generalize w.alloc (.cells #[.slice none 0 0, .slice none 0 0, .slice none 0 0] 25) = W at *
  go_wp2_with (fail)
  refine (HTR.out _).mono ?_
  rintro e w0 ⟨rfl, rfl⟩
  go_wp2_with (fail)
  refine (HSP.out _ HG0.out).mono ?_
  rintro e w1 ⟨Aw, cw, rfl, how, hb⟩
  have hcap := own_cap how
  have HRW := Lib.hid (Rd.own how)
  have HB1 := Lib.hid (below_chain HB0.out hb)
  have HX1 := Lib.hid (HBX.out.below hb)
  have HG1 := Lib.hid (HG0.out.below hb)
  clear how hb HB0 HBX HSP HG0 HTR HNN
  obtain ⟨ln, hln⟩ : ∃ ln, ln = (l0 :: lt).length := ⟨_, rfl⟩
  rw [← hln] at hcap ⊢
  have HLN : Hid (ln = lt.length + 1) := Lib.hid hln
  have hln0 : (0 : Int) < (ln : Int) := by rw [hln]; simp
  clear hln
  obtain ⟨b1, o1, rfl, hb1, y0⟩ := HRW.out.str (k := 0) rfl
  simp only [Nat.add_zero] at y0
  have hl0 := HWL.out l0 (by simp)
  have HCU := Lib.hid (fun w' => c_cut (bsT l0) w' (by rw [bsT_size]; omega))
  rw [bsT_list] at HCU
  have hcl := cut_len l0 [32]
  generalize (Lib.cut l0 [32]).1 = x at *
  generalize (Lib.cut l0 [32]).2.1 = y at *
  go_wp2_with (fail)
  refine (HCU.out _ HG1.out).mono ?_
  rintro e w2 ⟨bq, rfl, hb⟩
  have HRW2 := Lib.hid (HRW.out.below hb)
  have HB2 := Lib.hid (below_chain HB1.out hb)
  have HX2 := Lib.hid (HX1.out.below hb)
  have HG2 := Lib.hid (HG1.out.below hb)
  clear hb HB1 HX1 HCU HRW HG1 y0 hb1
  have hxl : x.length ≤ 1048576 := by omega
  have hyl : y.length ≤ 1048576 := by omega
  have HSX := Lib.hid (fun w' => c_split (bsT x) 44 w' (by rw [bsT_size]; omega))
  have HSY := Lib.hid (fun w' => c_split (bsT y) 44 w' (by rw [bsT_size]; omega))
  rw [bsT_list] at HSX HSY
  have HXM := Lib.hid (fun z (h : z ∈ spl 44 x) => Nat.le_trans (spl_len z h) hxl)
  have HYM := Lib.hid (fun z (h : z ∈ spl 44 y) => Nat.le_trans (spl_len z h) hyl)
  have HXC := Lib.hid (spl_count 44 x)
  have HYC := Lib.hid (spl_count 44 y)
  have HOK1 := Lib.hid (fun a b rs ha hb hr => HOK0.out x y a b rs hxl hyl ha hb hr)
  have HMF : Hid (U = match seqO rdI (spl 44 x) with
    | none => none
    | some a => match seqO rdI (spl 44 y) with
      | none => none
      | some b => match seqO ruleI lt with
        | none => none
        | some rs => some ⟨a, b, rs⟩) := Lib.hid HME.out
  clear HME HOK0 hcl
  generalize spl 44 x = xs at *
  generalize spl 44 y = ys at *
  go_wp2_with (fail)
  refine (HSX.out _ HG2.out).mono ?_
  rintro e w3 ⟨A3, c3, rfl, how, hb⟩
  have HR3 := Lib.hid (Rd.own how)
  have HRW3 := Lib.hid (HRW2.out.below hb)
  have HB3 := Lib.hid (below_chain HB2.out hb)
  have HX3 := Lib.hid (HX2.out.below hb)
  have HG3 := Lib.hid (HG2.out.below hb)
  clear how hb HB2 HX2 HSX HRW2 HG2
  go_wp2_with (fail)
  refine (c_readNumbers A3 c3 xs.length xs _ rfl (by have := HXC.out; omega) (fun z h => HXM.out z h) HR3.out HG3.out).mono ?_
  rintro e w4 hret
  obtain ⟨Az, zn, cz, qx, rfl, hq0, hq1, hq2, hb⟩ := hret.both
  have HRW4 := Lib.hid (HRW3.out.below hb)
  have HB4 := Lib.hid (below_chain HB3.out hb)
  have HX4 := Lib.hid (HX3.out.below hb)
  have HG4 := Lib.hid (HG3.out.below hb)
  have HQ0 := Lib.hid hq0
  have HQ1 := Lib.hid hq1
  have HQ2 := Lib.hid (fun zs e => own_mono (hq2 zs e) HB3.out.size)
  have HQL := Lib.hid (fun zs e q h => ((hq2 zs e).lt q h).2)
  clear hret hb HB3 HX3 HRW3 HR3 HG3 hq0 hq1 hq2
  go_wp2_with (fail)
  refine (HSY.out _ HG4.out).mono ?_
  rintro e w5 ⟨A5, c5, rfl, how, hb⟩
  have HR5 := Lib.hid (Rd.own how)
  have HRW5 := Lib.hid (HRW4.out.below hb)
  have HB5 := Lib.hid (below_chain HB4.out hb)
  have HX5 := Lib.hid (HX4.out.below hb)
  have HG5 := Lib.hid (HG4.out.below hb)
  have HQ5 := Lib.hid (fun zs e => own_below (HQ2.out zs e) hb)
  have HQM := Lib.hid (fun zs e q h => Nat.lt_of_lt_of_le (HQL.out zs e q h) hb.size)
  clear how hb HB4 HX4 HSY HRW4 HG4 HQ2
  go_wp2_with (fail)
  refine (c_readNumbers A5 c5 ys.length ys _ rfl (by have := HYC.out; omega) (fun z h => HYM.out z h) HR5.out HG5.out).mono ?_
  rintro e w6 hret
  obtain ⟨Ax, xn, cs, qy, rfl, hp0, hp1, hp2, hb⟩ := hret.both
  have HRW6 := Lib.hid (HRW5.out.below hb)
  have HB6 := Lib.hid (below_chain HB5.out hb)
  have HX6 := Lib.hid (HX5.out.below hb)
  have HG6 := Lib.hid (HG5.out.below hb)
  have HP0 := Lib.hid hp0
  have HP1 := Lib.hid hp1
  have HP2 := Lib.hid (fun zs e => own_mono (hp2 zs e) HB5.out.size)
  have HAQ := Lib.hid (fun zs zs' e e' q h (h' : (Value.slice Ax xn cs).ownBlock = some q) => Nat.lt_irrefl _ (Nat.lt_of_lt_of_le (HQM.out zs e q h) ((hp2 zs' e').lt q h').1))
  have HQ6 := Lib.hid (fun zs e => own_below (HQ5.out zs e) hb)
  clear hret hb HB5 HX5 HRW5 HR5 HG5 hp0 hp1 hp2 HQ5 HXM HYM HXC HYC
  generalize seqO rdI xs = ox at *
  generalize seqO rdI ys = oy at *
  by_cases hbad : qx = false ∨ qy = false
  · have HN : Hid (V = none) := Lib.hid (HRN.out (by
      rw [HMF.out]
      rcases hbad with h | h
      · rw [HQ0.out h]
      · rw [HP0.out h]
        cases ox <;> rfl))
    cases qx
    · clear hbad
      have HF := Lib.hid (Box3.set3 HX6.out (.slice none 0 0) (.slice none 0 0) (.slice none 0 0))
      have HBF := Lib.hid (below_put HB6.out (.slice none 0 0) (.slice none 0 0) (.slice none 0 0) (Nat.le_refl _))
      obtain ⟨v0, v1, v2, f0, f1, f2, _, _⟩ := HX6.out.c
      clear HMF HQ0 HQ1 HP0 HP1 HP2 HQ6 HB6 HX6 HRW6 HG6 HOK1 HAQ HQM HQL
      go_wp2_with (fail)
      change bodyPost _ _ _ _ _ (set3 w6 w.heap.size (.slice none 0 0) (.slice none 0 0) (.slice none 0 0))
      generalize set3 w6 w.heap.size (.slice none 0 0) (.slice none 0 0) (.slice none 0 0) = WF at HF HBF ⊢
      obtain ⟨r0, r1, r2, _⟩ := Box3.c HF.out.1
      clear f0 f1 f2 v0 v1 v2
      refine bodyPost_ret (v := .tuple #[.agg #[.slice none 0 0, .slice none 0 0, .slice none 0 0], .bool false]) (by simp [results, Tryz.results6, go_sem, r0, r1, r2]) rfl (retMS_none HN.out HBF.out)
    · obtain rfl : qy = false := by
        rcases hbad with h | h
        · cases h
        · exact h
      clear hbad
      have HF := Lib.hid (Box3.set3 HX6.out (.slice none 0 0) (.slice none 0 0) (.slice none 0 0))
      have HBF := Lib.hid (below_put HB6.out (.slice none 0 0) (.slice none 0 0) (.slice none 0 0) (Nat.le_refl _))
      obtain ⟨v0, v1, v2, f0, f1, f2, _, _⟩ := HX6.out.c
      clear HMF HQ0 HQ1 HP0 HP1 HP2 HQ6 HB6 HX6 HRW6 HG6 HOK1 HAQ HQM HQL
      go_wp2_with (fail)
      change bodyPost _ _ _ _ _ (set3 w6 w.heap.size (.slice none 0 0) (.slice none 0 0) (.slice none 0 0))
      generalize set3 w6 w.heap.size (.slice none 0 0) (.slice none 0 0) (.slice none 0 0) = WF at HF HBF ⊢
      obtain ⟨r0, r1, r2, _⟩ := Box3.c HF.out.1
      clear f0 f1 f2 v0 v1 v2
      refine bodyPost_ret (v := .tuple #[.agg #[.slice none 0 0, .slice none 0 0, .slice none 0 0], .bool false]) (by simp [results, Tryz.results6, go_sem, r0, r1, r2]) rfl (retMS_none HN.out HBF.out)
  obtain ⟨rfl, rfl⟩ : qx = true ∧ qy = true := by
    constructor
    · cases qx with | true => rfl | false => exact absurd (.inl rfl) hbad
    · cases qy with | true => rfl | false => exact absurd (.inr rfl) hbad
  obtain ⟨sz, rfl, rfl⟩ := HQ1.out rfl
  obtain ⟨st, rfl, rfl⟩ := HP1.out rfl
  have HUR : Hid (U = match seqO ruleI lt with | none => none | some rs => some ⟨sz, st, rs⟩) := Lib.hid HMF.out
  have HOK3 := Lib.hid (fun rs h => HOK1.out sz st rs rfl rfl h)
  have HZ0 := Lib.hid (HQ6.out sz rfl)
  have HS0 := Lib.hid (HP2.out st rfl)
  have HAP : Hid (∀ q, (Value.slice Az sz.length cz).ownBlock = some q → (Value.slice Ax st.length cs).ownBlock ≠ some q) := Lib.hid (fun q h h' => HAQ.out sz st rfl rfl q h h')
  have hlnb : ln ≤ 1048577 := by have := HLC.out; have := HLN.out; simp at *; omega
  have HBm : Hid (Box3 25 (w6.alloc (.cells #[.slice Az sz.length cz, .slice Ax st.length cs, .slice none 0 0] 25)) w6.heap.size w6.heap.size (.slice Az sz.length cz) (.slice Ax st.length cs) (.slice none 0 0)) := Lib.hid (box3_new _ _ _)
  have HBa := Lib.hid (below_alloc (Below.refl w6.heap.size w6) (.cells #[.slice Az sz.length cz, .slice Ax st.length cs, .slice none 0 0] 25))
  clear hbad HMF HOK1 HQ6 HP2 HQ0 HQ1 HP0 HP1 HAQ HQM HQL HLC hl0 hxl hyl
  go_upto_region 8 with (fail)
  generalize w6.alloc (.cells #[.slice Az sz.length cz, .slice Ax st.length cs, .slice none 0 0] 25) = W6 at *
  have HOR : Hid (W6.ownsRow w6.heap.size 45 3 (.slice none 0 0) 0 (rudCells [])) := Lib.hid (World.ownsRow_nil _ _ _ _)
  obtain ⟨hc1, hc2⟩ := hcap
  have hln1 : 1 ≤ ln := by omega
  have hcwb : cw ≤ 9223372036854775807 := Nat.le_trans hc2 (by decide)
  by_cases hcw1 : cw = 1
  · have HRT : Hid (Rd w6 (some ⟨b1, o1, none⟩) (strs lt)) := Lib.hid (by
      have : lt = [] := List.eq_nil_of_length_eq_zero (by have := HLN.out; omega)
      rw [this]
      exact .inl rfl)
    clear HRW6
    go_wp2_with (fail)
    obtain ⟨tn, htn⟩ : ∃ tn, tn = ln - 1 := ⟨_, rfl⟩
    rw [← htn]
    have HTN : Hid (tn = lt.length) := Lib.hid (by have := HLN.out; omega)
    have htnb : tn ≤ 1048577 := by omega
    clear htn hcw1
    go_loopw [14, 15, 16, 53] (fun _ _ _ i wr => ∃ (k : Nat) (A : Option Addr) (c : Nat) (ds : List RuD), k ≤ tn ∧ i = .int .i64 k ∧ Hid (ds.length = k) ∧ Hid (seqO ruleI (lt.take k) = some (ds.map RuD.r)) ∧ Hid (Box3 25 wr w6.heap.size w6.heap.size (.slice Az sz.length cz) (.slice Ax st.length cs) (.slice A k c)) ∧ Hid (wr.ownsRow w6.heap.size 45 3 (.slice A k c) k (rudCells ds)) ∧ Hid (∀ d ∈ ds, Nest wr w6.heap.size d) ∧ Hid (SepD ds) ∧ Hid (Below w6.heap.size w6 wr)) (fun _ _ _ i _ => tn - (intOf i).toNat)
    case atStart => exact ⟨0, _, _, [], Nat.zero_le _, rfl, Lib.hid rfl, Lib.hid rfl, HBm, HOR, Lib.hid (fun _ h => nomatch h), Lib.hid List.Pairwise.nil, HBa⟩
    case round =>
      obtain ⟨k, A, c, ds, hk, rfl, hds, hz, hx, ho, hnst, hsd, hb⟩ := hrel
      clear HOR HBa HBm
      by_cases hlt : k < tn
      · obtain ⟨x', hxk⟩ : ∃ z, lt[k]? = some z := ⟨_, List.getElem?_eq_getElem (by have := HTN.out; omega)⟩
        have hxl := HWL.out x' (List.mem_cons_of_mem _ (List.mem_of_getElem? hxk))
        obtain ⟨_, _, e1, _, g0⟩ := (HRT.out.below hb.out).str hxk
        simp only [Option.some.injEq, Addr.mk.injEq, and_true] at e1
        obtain ⟨rfl, rfl⟩ := e1
        have HXR := Lib.hid hxk
        have HC := Lib.hid (fun w' => c_readRule (bsT x') w' (by rw [bsT_size]; omega))
        rw [bsT_list] at HC
        have HGK := Lib.hid (HG6.out.below hb.out)
        have hk0 : (0 : Int) ≤ (k : Int) := by omega
        have hk1 : (k : Int) < (tn : Int) := by omega
        clear hxk
        go_wp2_with (fail)
        refine (HC.out _ HGK.out).mono ?_
        rintro e w7 hret
        obtain ⟨nm, Ag, gn, cg, Ae, en, ce, q, rfl, hq0, hq1, hq2, hb7⟩ := hret.both
        have HFn : Hid (Box3 45 (w7.alloc (.cells #[.string nm, .slice Ag gn cg, .slice Ae en ce] 45)) w7.heap.size w7.heap.size (.string nm) (.slice Ag gn cg) (.slice Ae en ce)) := Lib.hid (box3_new _ _ _)
        have hb8 := below_alloc (Below.refl w7.heap.size w7) (.cells #[.string nm, .slice Ag gn cg, .slice Ae en ce] 45)
        have hb78 := below_chain hb7 hb8
        have HB8 := Lib.hid (below_chain hb.out hb78)
        have HO8 := Lib.hid (own_below ho.out hb78)
        have HM8 := Lib.hid (hx.out.below hb78)
        have HN8 := Lib.hid (fun d h => (hnst.out d h).below hb78)
        have HD8 := Lib.hid (fun r h => ((hq2 r h).below hb8).mono (Nat.le_trans hb.out.size (Nat.le_refl _)))
        have HSN := Lib.hid (fun r h => sepD_snoc hsd.out hnst.out (hq2 r h))
        have HQ0 := Lib.hid hq0
        have HQ1 := Lib.hid hq1
        clear hret hq0 hq1 hq2 hb7 hb78 hb ho hx hnst g0 HC hb8 HGK
        go_upto_region 12 with (fail)
        generalize w7.alloc (.cells #[.string nm, .slice Ag gn cg, .slice Ae en ce] 45) = w8 at HFn HB8 HO8 HM8 HN8 HD8 ⊢
        cases q
        · have HN : Hid (V = none) := Lib.hid (HRN.out (by rw [HUR.out, seqO_bad (List.mem_of_getElem? HXR.out) (HQ0.out rfl)]))
          have HX8 := Lib.hid (HX6.out.below HB8.out)
          have HBW := Lib.hid (below_chain HB6.out HB8.out)
          have HF := Lib.hid (Box3.set3 HX8.out (.slice none 0 0) (.slice none 0 0) (.slice none 0 0))
          have HBF := Lib.hid (below_put HBW.out (.slice none 0 0) (.slice none 0 0) (.slice none 0 0) (Nat.le_refl _))
          obtain ⟨v0, v1, v2, f0, f1, f2, _, _⟩ := HX8.out.c
          clear HX8 HO8 HM8 HN8 HD8 HFn HQ0 HQ1 HX6 HB6 HB8
          go_wp2_with (fail)
          change bodyPost _ _ _ _ _ (set3 w8 w.heap.size (.slice none 0 0) (.slice none 0 0) (.slice none 0 0))
          generalize set3 w8 w.heap.size (.slice none 0 0) (.slice none 0 0) (.slice none 0 0) = WF at HF HBF ⊢
          obtain ⟨r0, r1, r2, _⟩ := Box3.c HF.out.1
          clear f0 f1 f2 v0 v1 v2
          refine bodyPost_ret (v := .tuple #[.agg #[.slice none 0 0, .slice none 0 0, .slice none 0 0], .bool false]) (by simp [results, Tryz.results6, go_sem, r0, r1, r2]) rfl (retMS_none HN.out HBF.out)
        · obtain ⟨r, hr, rfl, rfl, rfl⟩ := HQ1.out rfl
          have HZ2 : Hid (seqO ruleI (lt.take (k + 1)) = some ((ds ++ [(⟨r, Ag, cg, Ae, ce⟩ : RuD)]).map RuD.r)) := Lib.hid (by
            rw [List.take_add_one, HXR.out, List.map_append]
            exact seqO_snoc hz.out hr)
          have HDR := Lib.hid (HD8.out r hr)
          have HSN2 := Lib.hid (HSN.out r hr)
          obtain ⟨q0, q1, q2, _, _, _, _, _⟩ := HFn.out.c
          obtain ⟨_, _, n2, _, _, fn2, _, _⟩ := HM8.out.c
          have HAL := Lib.hid (below_alloc (Below.refl w8.heap.size w8) (.cells #[.string r.nm, .slice Ag r.gs.length cg, .slice Ae r.es.length ce] 45))
          clear hr HQ0 HQ1 HD8 HFn HSN
          go_wp2_with (first
            | (at_builtin
               refine wpList_push_rul _ rfl (.tmp 66) (.tmp 68) rfl w6.heap.size (.slice A k c) k ds ⟨r, Ag, cg, Ae, ce⟩ w8.heap.size 1 rfl (own_below HO8.out HAL.out) rfl (by go_simp) (by dsimp only [RuD.vg]; go_simp) (by dsimp only [RuD.ve]; go_simp) (by omega) (Nat.le_trans HB8.out.size HAL.out.size) ?_
               intro v9 w9 hown hgrow
               obtain ⟨A9, c9, rfl⟩ := own_shape hown
               have HO8A := own_below HO8.out HAL.out
               have hx9 : Box3 25 w9 w6.heap.size w6.heap.size (.slice Az sz.length cz) (.slice Ax st.length cs) (.slice A k c) := own_aside (own_below HM8.out HAL.out) HO8A (by decide) hgrow
               have HX9 := Lib.hid (hx9.set2 (.slice A9 (k + 1) c9))
               have hx9' : w9.ownsRow w6.heap.size 25 1 (.slice (some ⟨w6.heap.size, 0, none⟩) 3 3) 3 [.slice Az sz.length cz, .slice Ax st.length cs, .slice A k c] := hx9
               have HO9 := Lib.hid (own_aside hown hx9' (by decide) HX9.out.2)
               have HN9 : Hid (∀ d ∈ ds ++ [(⟨r, Ag, cg, Ae, ce⟩ : RuD)], Nest (w9.setCell ⟨w6.heap.size, 2, none⟩ (.slice A9 (k + 1) c9)) w6.heap.size d) := Lib.hid (fun d hd => by
                 refine Nest.aside ?_ hx9' (by decide) (by decide) HX9.out.2
                 rcases List.mem_append.1 hd with hd | hd
                 · exact ((HN8.out d hd).below HAL.out).aside HO8A (by decide) (by decide) hgrow
                 · rw [List.mem_singleton] at hd
                   subst hd
                   exact (HDR.out.below HAL.out).aside HO8A (by decide) (by decide) hgrow)
               have hb9 := below_of_grown (below_chain HB8.out HAL.out) hgrow (fun p hp => (HO8.out.lt p hp).1)
               have HB9 := Lib.hid (below_set hb9 (p := ⟨w6.heap.size, 2, none⟩) (.slice A9 (k + 1) c9) (Nat.le_refl _))
               obtain ⟨_, _, n2', _, _, fn2', _, _⟩ := hx9.c
               clear hown hgrow HO8A HO8 HN8 HB8 HAL HDR HM8 hx9 hx9' hb9 n2 fn2)
            )
          generalize w9.setCell ⟨w6.heap.size, 2, none⟩ (.slice A9 (k + 1) c9) = w10 at HX9 HO9 HN9 HB9 ⊢
          go_roundw
          case rel => exact ⟨k + 1, A9, c9, ds ++ [(⟨r, Ag, cg, Ae, ce⟩ : RuD)], by omega, by go_num, Lib.hid (by rw [List.length_append, hds.out]; rfl), HZ2, Lib.hid HX9.out.1, HO9, HN9, HSN2, HB9⟩
          case measure => simp [intOf]; omega
      · obtain rfl : k = tn := by omega
        have HT : Hid (seqO ruleI lt = some (ds.map RuD.r)) := Lib.hid (by rw [← hz.out, List.take_of_length_le (by have := HTN.out; omega)])
        have HU : Hid (U = some ⟨sz, st, ds.map RuD.r⟩) := Lib.hid (by rw [HUR.out, HT.out])
        have HOK := Lib.hid (HOK3.out _ HT.out)
        have HVV := Lib.hid (HRS.out _ HU.out)
        obtain rfl : k = (ds.map RuD.r).length := by rw [List.length_map]; exact hds.out.symm
        have HMO : Hid (MOwn wr w.heap.size Az Ax A cz cs c ⟨sz, st, ds.map RuD.r⟩ ds) := Lib.hid ⟨own_below HZ0.out hb.out, own_below HS0.out hb.out, own_mono ho.out HB6.out.size, rfl, fun d hd => (hnst.out d hd).mono HB6.out.size⟩
        have HSD := hsd
        have HX7 := Lib.hid (HX6.out.below hb.out)
        have HB7 := Lib.hid (below_chain HB6.out hb.out)
        have HG7 := Lib.hid (HG6.out.below hb.out)
        obtain ⟨p0, p1, p2, _, _, _, _, _⟩ := hx.out.c
        clear hb hnst hsd ho hx HX6 HB6 HZ0 HS0 hz hds hk HT HU HUR HRN HRS HWL HOK3 HRT hlt HG6 HTN htnb
        obtain ⟨rs, hrs⟩ : ∃ rs, rs = ds.map RuD.r := ⟨_, rfl⟩
        rw [← hrs] at HVV HOK HMO p2 ⊢
        clear hrs
        have HIM := Lib.hid (c_IsModel ⟨sz, st, rs⟩ Az Ax A cz cs c wr HOK.out HMO.out.md)
        cases hmd : mdB ⟨sz, st, rs⟩ with
        | false =>
          have HN : Hid (V = none) := Lib.hid (by rw [HVV.out, if_neg (by rw [hmd]; simp)])
          rw [hmd] at HIM
          clear hmd
          go_wp2_with (fail)
          refine HIM.out.mono ?_
          rintro e w9 ⟨rfl, hb⟩
          have HX8 := Lib.hid (HX7.out.below hb)
          have HBW := Lib.hid (below_chain HB7.out hb)
          clear p0 p1 p2 hb
          have HF := Lib.hid (Box3.set3 HX8.out (.slice none 0 0) (.slice none 0 0) (.slice none 0 0))
          have HBF := Lib.hid (below_put HBW.out (.slice none 0 0) (.slice none 0 0) (.slice none 0 0) (Nat.le_refl _))
          obtain ⟨v0, v1, v2, f0, f1, f2, _, _⟩ := HX8.out.c
          clear HX8 HBW HX7 HB7 HMO HVV HIM
          go_wp2_with (fail)
          change bodyPost _ _ _ _ _ (set3 w9 w.heap.size (.slice none 0 0) (.slice none 0 0) (.slice none 0 0))
          generalize set3 w9 w.heap.size (.slice none 0 0) (.slice none 0 0) (.slice none 0 0) = WF at HF HBF ⊢
          obtain ⟨r0, r1, r2, _⟩ := Box3.c HF.out.1
          clear f0 f1 f2 v0 v1 v2
          refine bodyPost_ret (v := .tuple #[.agg #[.slice none 0 0, .slice none 0 0, .slice none 0 0], .bool false]) (by simp [results, Tryz.results6, go_sem, r0, r1, r2]) rfl (retMS_none HN.out HBF.out)
        | true =>
          have HNN := Lib.hid (valid_N hmd)
          have HV2 : Hid (V = if txModel ⟨sz, st, rs⟩ = L then some ⟨sz, st, rs⟩ else none) := Lib.hid (by rw [HVV.out, hmd]; simp)
          rw [hmd] at HIM
          clear hmd HVV
          go_wp2_with (fail)
          refine HIM.out.mono ?_
          rintro e w9 ⟨rfl, hb⟩
          replace p0 := cell_later hb p0
          replace p1 := cell_later hb p1
          replace p2 := cell_later hb p2
          have HM9 := Lib.hid (HMO.out.below hb)
          have HXX := Lib.hid (HX7.out.below hb)
          have HB99 := Lib.hid (below_chain HB7.out hb)
          have HTX := Lib.hid (c_modelText ⟨sz, st, rs⟩ Az Ax A cz cs c w9 HNN.out HM9.out.md (HG7.out.below hb).p)
          clear hb HIM HMO HX7 HB7 HG7
          go_wp2_with (fail)
          refine HTX.out.mono ?_
          rintro e w10 ⟨t, rfl, ht, hb⟩
          have HM10 := Lib.hid (HM9.out.below hb)
          have HXX10 := Lib.hid (HXX.out.below hb)
          have HB10 := Lib.hid (below_chain HB99.out hb)
          replace p0 := cell_later hb p0
          replace p1 := cell_later hb p1
          replace p2 := cell_later hb p2
          have HTT := Lib.hid ht
          clear hb HM9 HXX HB99 HTX ht
          by_cases heq : txModel ⟨sz, st, rs⟩ = L
          · have HVS : Hid (V = some ⟨sz, st, rs⟩) := Lib.hid (by rw [HV2.out, if_pos heq])
            have hqq : (t.toList == s.toList) = true := by rw [str_eq, HTT.out, heq, HLE.out]; simp
            have hqn : (t.toList != s.toList) = false := by rw [bne, hqq]; rfl
            have HF := Lib.hid (Box3.set3 HXX10.out (.slice Az sz.length cz) (.slice Ax st.length cs) (.slice A rs.length c))
            have HBF := Lib.hid (below_put HB10.out (.slice Az sz.length cz) (.slice Ax st.length cs) (.slice A rs.length c) (Nat.le_refl _))
            have HMF := Lib.hid (HM10.out.boxed HXX10.out (x' := .slice Az sz.length cz) (y' := .slice Ax st.length cs) (z' := .slice A rs.length c))
            obtain ⟨v0, v1, v2, f0, f1, f2, _, _⟩ := HXX10.out.c
            clear heq HM10 HXX10 HB10 HV2 HTT
            go_wp2_with (fail)
            change bodyPost _ _ _ _ _ (set3 w10 w.heap.size (.slice Az sz.length cz) (.slice Ax st.length cs) (.slice A rs.length c))
            generalize set3 w10 w.heap.size (.slice Az sz.length cz) (.slice Ax st.length cs) (.slice A rs.length c) = WF at HF HBF HMF ⊢
            obtain ⟨r0, r1, r2, _⟩ := Box3.c HF.out.1
            clear f0 f1 f2 v0 v1 v2
            refine bodyPost_ret (v := .tuple #[.agg #[.slice Az sz.length cz, .slice Ax st.length cs, .slice A rs.length c], .bool true]) (by simp [results, Tryz.results6, go_sem, r0, r1, r2]) rfl (retMS_some HVS.out HMF.out HSD.out HAP.out HBF.out)
          · have HN : Hid (V = none) := Lib.hid (by rw [HV2.out, if_neg heq])
            have hqq : (t.toList == s.toList) = false := by rw [str_eq, HTT.out, ← HLE.out]; simpa using heq
            have hqn : (t.toList != s.toList) = true := by rw [bne, hqq]; rfl
            clear heq
            have HF := Lib.hid (Box3.set3 HXX10.out (.slice none 0 0) (.slice none 0 0) (.slice none 0 0))
            have HBF := Lib.hid (below_put HB10.out (.slice none 0 0) (.slice none 0 0) (.slice none 0 0) (Nat.le_refl _))
            obtain ⟨v0, v1, v2, f0, f1, f2, _, _⟩ := HXX10.out.c
            clear HM10 HXX10 HB10 HV2 HTT
            go_wp2_with (fail)
            change bodyPost _ _ _ _ _ (set3 w10 w.heap.size (.slice none 0 0) (.slice none 0 0) (.slice none 0 0))
            generalize set3 w10 w.heap.size (.slice none 0 0) (.slice none 0 0) (.slice none 0 0) = WF at HF HBF ⊢
            obtain ⟨r0, r1, r2, _⟩ := Box3.c HF.out.1
            clear f0 f1 f2 v0 v1 v2
            refine bodyPost_ret (v := .tuple #[.agg #[.slice none 0 0, .slice none 0 0, .slice none 0 0], .bool false]) (by simp [results, Tryz.results6, go_sem, r0, r1, r2]) rfl (retMS_none HN.out HBF.out)
  · have hcw2 : 1 < cw := by omega
    have HRT : Hid (Rd w6 (some ⟨b1, o1 + 1, none⟩) (strs lt)) := Lib.hid HRW6.out.tailS
    clear HRW6
    go_wp2_with (fail)
    obtain ⟨tn, htn⟩ : ∃ tn, tn = ln - 1 := ⟨_, rfl⟩
    rw [← htn]
    have HTN : Hid (tn = lt.length) := Lib.hid (by have := HLN.out; omega)
    have htnb : tn ≤ 1048577 := by omega
    clear htn hcw1
    go_loopw [14, 15, 16, 53] (fun _ _ _ i wr => ∃ (k : Nat) (A : Option Addr) (c : Nat) (ds : List RuD), k ≤ tn ∧ i = .int .i64 k ∧ Hid (ds.length = k) ∧ Hid (seqO ruleI (lt.take k) = some (ds.map RuD.r)) ∧ Hid (Box3 25 wr w6.heap.size w6.heap.size (.slice Az sz.length cz) (.slice Ax st.length cs) (.slice A k c)) ∧ Hid (wr.ownsRow w6.heap.size 45 3 (.slice A k c) k (rudCells ds)) ∧ Hid (∀ d ∈ ds, Nest wr w6.heap.size d) ∧ Hid (SepD ds) ∧ Hid (Below w6.heap.size w6 wr)) (fun _ _ _ i _ => tn - (intOf i).toNat)
    case atStart => exact ⟨0, _, _, [], Nat.zero_le _, rfl, Lib.hid rfl, Lib.hid rfl, HBm, HOR, Lib.hid (fun _ h => nomatch h), Lib.hid List.Pairwise.nil, HBa⟩
    case round =>
      obtain ⟨k, A, c, ds, hk, rfl, hds, hz, hx, ho, hnst, hsd, hb⟩ := hrel
      clear HOR HBa HBm
      by_cases hlt : k < tn
      · obtain ⟨x', hxk⟩ : ∃ z, lt[k]? = some z := ⟨_, List.getElem?_eq_getElem (by have := HTN.out; omega)⟩
        have hxl := HWL.out x' (List.mem_cons_of_mem _ (List.mem_of_getElem? hxk))
        obtain ⟨_, _, e1, _, g0⟩ := (HRT.out.below hb.out).str hxk
        simp only [Option.some.injEq, Addr.mk.injEq, and_true] at e1
        obtain ⟨rfl, rfl⟩ := e1
        have HXR := Lib.hid hxk
        have HC := Lib.hid (fun w' => c_readRule (bsT x') w' (by rw [bsT_size]; omega))
        rw [bsT_list] at HC
        have HGK := Lib.hid (HG6.out.below hb.out)
        have hk0 : (0 : Int) ≤ (k : Int) := by omega
        have hk1 : (k : Int) < (tn : Int) := by omega
        clear hxk
        go_wp2_with (fail)
        refine (HC.out _ HGK.out).mono ?_
        rintro e w7 hret
        obtain ⟨nm, Ag, gn, cg, Ae, en, ce, q, rfl, hq0, hq1, hq2, hb7⟩ := hret.both
        have HFn : Hid (Box3 45 (w7.alloc (.cells #[.string nm, .slice Ag gn cg, .slice Ae en ce] 45)) w7.heap.size w7.heap.size (.string nm) (.slice Ag gn cg) (.slice Ae en ce)) := Lib.hid (box3_new _ _ _)
        have hb8 := below_alloc (Below.refl w7.heap.size w7) (.cells #[.string nm, .slice Ag gn cg, .slice Ae en ce] 45)
        have hb78 := below_chain hb7 hb8
        have HB8 := Lib.hid (below_chain hb.out hb78)
        have HO8 := Lib.hid (own_below ho.out hb78)
        have HM8 := Lib.hid (hx.out.below hb78)
        have HN8 := Lib.hid (fun d h => (hnst.out d h).below hb78)
        have HD8 := Lib.hid (fun r h => ((hq2 r h).below hb8).mono (Nat.le_trans hb.out.size (Nat.le_refl _)))
        have HSN := Lib.hid (fun r h => sepD_snoc hsd.out hnst.out (hq2 r h))
        have HQ0 := Lib.hid hq0
        have HQ1 := Lib.hid hq1
        clear hret hq0 hq1 hq2 hb7 hb78 hb ho hx hnst g0 HC hb8 HGK
        go_upto_region 12 with (fail)
        generalize w7.alloc (.cells #[.string nm, .slice Ag gn cg, .slice Ae en ce] 45) = w8 at HFn HB8 HO8 HM8 HN8 HD8 ⊢
        cases q
        · have HN : Hid (V = none) := Lib.hid (HRN.out (by rw [HUR.out, seqO_bad (List.mem_of_getElem? HXR.out) (HQ0.out rfl)]))
          have HX8 := Lib.hid (HX6.out.below HB8.out)
          have HBW := Lib.hid (below_chain HB6.out HB8.out)
          have HF := Lib.hid (Box3.set3 HX8.out (.slice none 0 0) (.slice none 0 0) (.slice none 0 0))
          have HBF := Lib.hid (below_put HBW.out (.slice none 0 0) (.slice none 0 0) (.slice none 0 0) (Nat.le_refl _))
          obtain ⟨v0, v1, v2, f0, f1, f2, _, _⟩ := HX8.out.c
          clear HX8 HO8 HM8 HN8 HD8 HFn HQ0 HQ1 HX6 HB6 HB8
          go_wp2_with (fail)
          change bodyPost _ _ _ _ _ (set3 w8 w.heap.size (.slice none 0 0) (.slice none 0 0) (.slice none 0 0))
          generalize set3 w8 w.heap.size (.slice none 0 0) (.slice none 0 0) (.slice none 0 0) = WF at HF HBF ⊢
          obtain ⟨r0, r1, r2, _⟩ := Box3.c HF.out.1
          clear f0 f1 f2 v0 v1 v2
          refine bodyPost_ret (v := .tuple #[.agg #[.slice none 0 0, .slice none 0 0, .slice none 0 0], .bool false]) (by simp [results, Tryz.results6, go_sem, r0, r1, r2]) rfl (retMS_none HN.out HBF.out)
        · obtain ⟨r, hr, rfl, rfl, rfl⟩ := HQ1.out rfl
          have HZ2 : Hid (seqO ruleI (lt.take (k + 1)) = some ((ds ++ [(⟨r, Ag, cg, Ae, ce⟩ : RuD)]).map RuD.r)) := Lib.hid (by
            rw [List.take_add_one, HXR.out, List.map_append]
            exact seqO_snoc hz.out hr)
          have HDR := Lib.hid (HD8.out r hr)
          have HSN2 := Lib.hid (HSN.out r hr)
          obtain ⟨q0, q1, q2, _, _, _, _, _⟩ := HFn.out.c
          obtain ⟨_, _, n2, _, _, fn2, _, _⟩ := HM8.out.c
          have HAL := Lib.hid (below_alloc (Below.refl w8.heap.size w8) (.cells #[.string r.nm, .slice Ag r.gs.length cg, .slice Ae r.es.length ce] 45))
          clear hr HQ0 HQ1 HD8 HFn HSN
          go_wp2_with (first
            | (at_builtin
               refine wpList_push_rul _ rfl (.tmp 66) (.tmp 68) rfl w6.heap.size (.slice A k c) k ds ⟨r, Ag, cg, Ae, ce⟩ w8.heap.size 1 rfl (own_below HO8.out HAL.out) rfl (by go_simp) (by dsimp only [RuD.vg]; go_simp) (by dsimp only [RuD.ve]; go_simp) (by omega) (Nat.le_trans HB8.out.size HAL.out.size) ?_
               intro v9 w9 hown hgrow
               obtain ⟨A9, c9, rfl⟩ := own_shape hown
               have HO8A := own_below HO8.out HAL.out
               have hx9 : Box3 25 w9 w6.heap.size w6.heap.size (.slice Az sz.length cz) (.slice Ax st.length cs) (.slice A k c) := own_aside (own_below HM8.out HAL.out) HO8A (by decide) hgrow
               have HX9 := Lib.hid (hx9.set2 (.slice A9 (k + 1) c9))
               have hx9' : w9.ownsRow w6.heap.size 25 1 (.slice (some ⟨w6.heap.size, 0, none⟩) 3 3) 3 [.slice Az sz.length cz, .slice Ax st.length cs, .slice A k c] := hx9
               have HO9 := Lib.hid (own_aside hown hx9' (by decide) HX9.out.2)
               have HN9 : Hid (∀ d ∈ ds ++ [(⟨r, Ag, cg, Ae, ce⟩ : RuD)], Nest (w9.setCell ⟨w6.heap.size, 2, none⟩ (.slice A9 (k + 1) c9)) w6.heap.size d) := Lib.hid (fun d hd => by
                 refine Nest.aside ?_ hx9' (by decide) (by decide) HX9.out.2
                 rcases List.mem_append.1 hd with hd | hd
                 · exact ((HN8.out d hd).below HAL.out).aside HO8A (by decide) (by decide) hgrow
                 · rw [List.mem_singleton] at hd
                   subst hd
                   exact (HDR.out.below HAL.out).aside HO8A (by decide) (by decide) hgrow)
               have hb9 := below_of_grown (below_chain HB8.out HAL.out) hgrow (fun p hp => (HO8.out.lt p hp).1)
               have HB9 := Lib.hid (below_set hb9 (p := ⟨w6.heap.size, 2, none⟩) (.slice A9 (k + 1) c9) (Nat.le_refl _))
               obtain ⟨_, _, n2', _, _, fn2', _, _⟩ := hx9.c
               clear hown hgrow HO8A HO8 HN8 HB8 HAL HDR HM8 hx9 hx9' hb9 n2 fn2)
            )
          generalize w9.setCell ⟨w6.heap.size, 2, none⟩ (.slice A9 (k + 1) c9) = w10 at HX9 HO9 HN9 HB9 ⊢
          go_roundw
          case rel => exact ⟨k + 1, A9, c9, ds ++ [(⟨r, Ag, cg, Ae, ce⟩ : RuD)], by omega, by go_num, Lib.hid (by rw [List.length_append, hds.out]; rfl), HZ2, Lib.hid HX9.out.1, HO9, HN9, HSN2, HB9⟩
          case measure => simp [intOf]; omega
      · obtain rfl : k = tn := by omega
        have HT : Hid (seqO ruleI lt = some (ds.map RuD.r)) := Lib.hid (by rw [← hz.out, List.take_of_length_le (by have := HTN.out; omega)])
        have HU : Hid (U = some ⟨sz, st, ds.map RuD.r⟩) := Lib.hid (by rw [HUR.out, HT.out])
        have HOK := Lib.hid (HOK3.out _ HT.out)
        have HVV := Lib.hid (HRS.out _ HU.out)
        obtain rfl : k = (ds.map RuD.r).length := by rw [List.length_map]; exact hds.out.symm
        have HMO : Hid (MOwn wr w.heap.size Az Ax A cz cs c ⟨sz, st, ds.map RuD.r⟩ ds) := Lib.hid ⟨own_below HZ0.out hb.out, own_below HS0.out hb.out, own_mono ho.out HB6.out.size, rfl, fun d hd => (hnst.out d hd).mono HB6.out.size⟩
        have HSD := hsd
        have HX7 := Lib.hid (HX6.out.below hb.out)
        have HB7 := Lib.hid (below_chain HB6.out hb.out)
        have HG7 := Lib.hid (HG6.out.below hb.out)
        obtain ⟨p0, p1, p2, _, _, _, _, _⟩ := hx.out.c
        clear hb hnst hsd ho hx HX6 HB6 HZ0 HS0 hz hds hk HT HU HUR HRN HRS HWL HOK3 HRT hlt HG6 HTN htnb
        obtain ⟨rs, hrs⟩ : ∃ rs, rs = ds.map RuD.r := ⟨_, rfl⟩
        rw [← hrs] at HVV HOK HMO p2 ⊢
        clear hrs
        have HIM := Lib.hid (c_IsModel ⟨sz, st, rs⟩ Az Ax A cz cs c wr HOK.out HMO.out.md)
        cases hmd : mdB ⟨sz, st, rs⟩ with
        | false =>
          have HN : Hid (V = none) := Lib.hid (by rw [HVV.out, if_neg (by rw [hmd]; simp)])
          rw [hmd] at HIM
          clear hmd
          go_wp2_with (fail)
          refine HIM.out.mono ?_
          rintro e w9 ⟨rfl, hb⟩
          have HX8 := Lib.hid (HX7.out.below hb)
          have HBW := Lib.hid (below_chain HB7.out hb)
          clear p0 p1 p2 hb
          have HF := Lib.hid (Box3.set3 HX8.out (.slice none 0 0) (.slice none 0 0) (.slice none 0 0))
          have HBF := Lib.hid (below_put HBW.out (.slice none 0 0) (.slice none 0 0) (.slice none 0 0) (Nat.le_refl _))
          obtain ⟨v0, v1, v2, f0, f1, f2, _, _⟩ := HX8.out.c
          clear HX8 HBW HX7 HB7 HMO HVV HIM
          go_wp2_with (fail)
          change bodyPost _ _ _ _ _ (set3 w9 w.heap.size (.slice none 0 0) (.slice none 0 0) (.slice none 0 0))
          generalize set3 w9 w.heap.size (.slice none 0 0) (.slice none 0 0) (.slice none 0 0) = WF at HF HBF ⊢
          obtain ⟨r0, r1, r2, _⟩ := Box3.c HF.out.1
          clear f0 f1 f2 v0 v1 v2
          refine bodyPost_ret (v := .tuple #[.agg #[.slice none 0 0, .slice none 0 0, .slice none 0 0], .bool false]) (by simp [results, Tryz.results6, go_sem, r0, r1, r2]) rfl (retMS_none HN.out HBF.out)
        | true =>
          have HNN := Lib.hid (valid_N hmd)
          have HV2 : Hid (V = if txModel ⟨sz, st, rs⟩ = L then some ⟨sz, st, rs⟩ else none) := Lib.hid (by rw [HVV.out, hmd]; simp)
          rw [hmd] at HIM
          clear hmd HVV
          go_wp2_with (fail)
          refine HIM.out.mono ?_
          rintro e w9 ⟨rfl, hb⟩
          replace p0 := cell_later hb p0
          replace p1 := cell_later hb p1
          replace p2 := cell_later hb p2
          have HM9 := Lib.hid (HMO.out.below hb)
          have HXX := Lib.hid (HX7.out.below hb)
          have HB99 := Lib.hid (below_chain HB7.out hb)
          have HTX := Lib.hid (c_modelText ⟨sz, st, rs⟩ Az Ax A cz cs c w9 HNN.out HM9.out.md (HG7.out.below hb).p)
          clear hb HIM HMO HX7 HB7 HG7
          go_wp2_with (fail)
          refine HTX.out.mono ?_
          rintro e w10 ⟨t, rfl, ht, hb⟩
          have HM10 := Lib.hid (HM9.out.below hb)
          have HXX10 := Lib.hid (HXX.out.below hb)
          have HB10 := Lib.hid (below_chain HB99.out hb)
          replace p0 := cell_later hb p0
          replace p1 := cell_later hb p1
          replace p2 := cell_later hb p2
          have HTT := Lib.hid ht
          clear hb HM9 HXX HB99 HTX ht
          by_cases heq : txModel ⟨sz, st, rs⟩ = L
          · have HVS : Hid (V = some ⟨sz, st, rs⟩) := Lib.hid (by rw [HV2.out, if_pos heq])
            have hqq : (t.toList == s.toList) = true := by rw [str_eq, HTT.out, heq, HLE.out]; simp
            have hqn : (t.toList != s.toList) = false := by rw [bne, hqq]; rfl
            have HF := Lib.hid (Box3.set3 HXX10.out (.slice Az sz.length cz) (.slice Ax st.length cs) (.slice A rs.length c))
            have HBF := Lib.hid (below_put HB10.out (.slice Az sz.length cz) (.slice Ax st.length cs) (.slice A rs.length c) (Nat.le_refl _))
            have HMF := Lib.hid (HM10.out.boxed HXX10.out (x' := .slice Az sz.length cz) (y' := .slice Ax st.length cs) (z' := .slice A rs.length c))
            obtain ⟨v0, v1, v2, f0, f1, f2, _, _⟩ := HXX10.out.c
            clear heq HM10 HXX10 HB10 HV2 HTT
            go_wp2_with (fail)
            change bodyPost _ _ _ _ _ (set3 w10 w.heap.size (.slice Az sz.length cz) (.slice Ax st.length cs) (.slice A rs.length c))
            generalize set3 w10 w.heap.size (.slice Az sz.length cz) (.slice Ax st.length cs) (.slice A rs.length c) = WF at HF HBF HMF ⊢
            obtain ⟨r0, r1, r2, _⟩ := Box3.c HF.out.1
            clear f0 f1 f2 v0 v1 v2
            refine bodyPost_ret (v := .tuple #[.agg #[.slice Az sz.length cz, .slice Ax st.length cs, .slice A rs.length c], .bool true]) (by simp [results, Tryz.results6, go_sem, r0, r1, r2]) rfl (retMS_some HVS.out HMF.out HSD.out HAP.out HBF.out)
          · have HN : Hid (V = none) := Lib.hid (by rw [HV2.out, if_neg heq])
            have hqq : (t.toList == s.toList) = false := by rw [str_eq, HTT.out, ← HLE.out]; simpa using heq
            have hqn : (t.toList != s.toList) = true := by rw [bne, hqq]; rfl
            clear heq
            have HF := Lib.hid (Box3.set3 HXX10.out (.slice none 0 0) (.slice none 0 0) (.slice none 0 0))
            have HBF := Lib.hid (below_put HB10.out (.slice none 0 0) (.slice none 0 0) (.slice none 0 0) (Nat.le_refl _))
            obtain ⟨v0, v1, v2, f0, f1, f2, _, _⟩ := HXX10.out.c
            clear HM10 HXX10 HB10 HV2 HTT
            go_wp2_with (fail)
            change bodyPost _ _ _ _ _ (set3 w10 w.heap.size (.slice none 0 0) (.slice none 0 0) (.slice none 0 0))
            generalize set3 w10 w.heap.size (.slice none 0 0) (.slice none 0 0) (.slice none 0 0) = WF at HF HBF ⊢
            obtain ⟨r0, r1, r2, _⟩ := Box3.c HF.out.1
            clear f0 f1 f2 v0 v1 v2
            refine bodyPost_ret (v := .tuple #[.agg #[.slice none 0 0, .slice none 0 0, .slice none 0 0], .bool false]) (by simp [results, Tryz.results6, go_sem, r0, r1, r2]) rfl (retMS_none HN.out HBF.out)
end Go.Proofs.YtgpmglfcdbpgkaaGreatDoor

/- Marks of lists of integers. No condition but the sizes. -/
namespace Go.Proofs.YtgpmglfcdbpgkaaGreatDoor
open Go.RowKit

theorem own_zero {w : World} {base : Nat} {e : TypeId} {size c : Nat} {A : Option Addr} {xs : List Value} (h : w.ownsRow base e size (.slice A 0 c) 0 xs) : xs = [] := List.eq_nil_of_length_eq_zero (by simpa using h.1)
def markL (k : Int) (n : Nat) : List Int := (List.range n).map fun (i : Nat) => k + (i : Int)
theorem markL_length (k : Int) (n : Nat) : (markL k n).length = n := by simp [markL]
theorem markL_get {k : Int} {n j : Nat} (h : j < n) : (markL k n)[j]? = some (k + j) := by simp [markL, h]
set_option maxRecDepth 100000 in
theorem c_markInt64S (A : Option Addr) (c n : Nat) (zs : List Int) (base : Nat) (k : Int) (w : World) (hk0 : 0 ≤ k) (hk : k + n ≤ 100000000) (ho : w.ownsRow base 2 1 (.slice A n c) n (ints zs)) :
    Calls Tryz.prog 32 #[.slice A n c, .int .i64 k] w fun e w' => e = .returned (.int .i64 (k + n)) ∧ w'.ownsRow base 2 1 (.slice A n c) n (ints (markL k n)) ∧ w.grownBy w' (Value.slice A n c).ownBlock := by
  obtain ⟨k, rfl⟩ : ∃ k' : Nat, k = k' := ⟨k.toNat, by omega⟩
  have hLZ := Lib.hid (show (ints (markL k n)).length = (ints zs).length by rw [ho.1, ints_length, markL_length]; simp)
  have HL := Lib.hid (show (ints zs).length = n by rw [ho.1]; simp)
  go_enter Tryz.func32, Tryz.ntmps32
  go_wp2
  go_loopw [1, 5] (fun t i wr => ∃ j : Nat, j ≤ n ∧ i = .int .i64 j ∧ t = .int .i64 (k + j) ∧ wr.ownsRow base 2 1 (.slice A n c) n (mix (ints (markL k n)) (ints zs) j) ∧ w.grownBy wr (Value.slice A n c).ownBlock) (fun _ i _ => n - (intOf i).toNat)
  case atStart => exact ⟨0, Nat.zero_le _, rfl, by simp, by rw [mix_zero]; exact ho, World.grownBy.refl _ _⟩
  case round =>
    obtain ⟨j, hj, rfl, rfl, ho1, hg⟩ := hrel
    clear ho
    by_cases hlt : j < n
    · obtain ⟨g, cap, hv, _⟩ := ho1.form (by omega)
      simp only [Value.slice.injEq, true_and] at hv
      obtain ⟨rfl, rfl⟩ := hv
      have hu : (ints (markL k n))[j]? = some (.int .i64 (k + j)) := by simp [ints, markL_get hlt]
      have f0 := ho1.frozenAt j
      obtain ⟨old, hold⟩ := own_cell ho1 (j := j) (by omega)
      have hst := (ho1.stored j (.int .i64 (k + j))).1
      rw [mix_set hLZ.out hu] at hst
      have HST := Lib.hid hst
      have HG := Lib.hid (grown_trans hg (ho1.stored j (.int .i64 (k + j))).2)
      clear hu hst ho1 hg
      go_wp2
      go_roundw
      case rel => exact ⟨j + 1, by omega, by go_num, by go_num, HST.out, HG.out⟩
      case measure => simp [intOf]; omega
    · obtain rfl : j = n := by omega
      have HO := Lib.hid ho1
      have HG := Lib.hid hg
      clear ho1 hg
      go_wp2
      go_ret
      refine ⟨rfl, ?_, HG.out⟩
      have := HO.out
      rwa [mix_all (by rw [hLZ.out, HL.out]; exact Nat.le_refl _) (by rw [HL.out]; exact Nat.le_refl _)] at this
set_option maxRecDepth 100000 in
theorem c_heldInt64S (A : Option Addr) (c n : Nat) (k : Int) (w : World) (hk0 : 0 ≤ k) (hk : k + n ≤ 100000000) (hr : Rd w A (ints (markL k n))) :
    Calls Tryz.prog 34 #[.slice A n c, .int .i64 k] w fun e w' => e = .returned (.int .i64 (k + n)) ∧ Below w.heap.size w w' := by
  obtain ⟨k, rfl⟩ : ∃ k' : Nat, k = k' := ⟨k.toNat, by omega⟩
  go_enter Tryz.func34, Tryz.ntmps34
  go_wp2
  go_loop [1, 5] (fun t i => ∃ j : Nat, j ≤ n ∧ i = .int .i64 j ∧ t = .int .i64 (k + j)) (fun _ i => n - (intOf i).toNat)
  case atStart => exact ⟨0, Nat.zero_le _, rfl, by simp⟩
  case round =>
    obtain ⟨j, hj, rfl, rfl⟩ := hrel
    by_cases hlt : j < n
    · obtain ⟨b, off, rfl, _, g0⟩ := hr.int (markL_get hlt)
      clear hr
      go_wp2
      go_round
      case rel => exact ⟨j + 1, by omega, by go_num, by go_num⟩
      case measure => simp [intOf]; omega
    · obtain rfl : j = n := by omega
      go_wp2
      go_ret
      exact ⟨rfl, Below.refl _ _⟩
theorem cell_mark {w w' : World} {row : Option Nat} {a : Addr} {v : Value} (h : w.cell? a = some v) (hg : w.grownBy w' row) (hne : ∀ q, row = some q → q ≠ a.block) : w'.cell? a = some v :=
  (hg.cell_far a (World.block_lt_of_cell? w a h) (fun h' => hne _ h'.symm rfl)).trans h
end Go.Proofs.YtgpmglfcdbpgkaaGreatDoor

/- Marks of tests and assigns, exact: what is marked is held. No condition but the sizes. -/
namespace Go.Proofs.YtgpmglfcdbpgkaaGreatDoor
open Go.RowKit

def tm (k i : Nat) : Tst := ⟨((k + 3 * i : Nat) : Int), ((k + 3 * i : Nat) : Int) + 1, (((k + 3 * i : Nat) : Int) + 1 + 1).tmod 3 == 0⟩
def mTst (k n : Nat) : List Tst := (List.range n).map (tm k)
theorem mTst_length (k n : Nat) : (mTst k n).length = n := by simp [mTst]
theorem mTst_get {k n j : Nat} (h : j < n) : (mTst k n)[j]? = some (tm k j) := by simp [mTst, h]
def am (k i : Nat) : Asg := ⟨((k + 2 * i : Nat) : Int), ((k + 2 * i : Nat) : Int) + 1⟩
def mAsg (k n : Nat) : List Asg := (List.range n).map (am k)
theorem mAsg_length (k n : Nat) : (mAsg k n).length = n := by simp [mAsg]
theorem mAsg_get {k n j : Nat} (h : j < n) : (mAsg k n)[j]? = some (am k j) := by simp [mAsg, h]
theorem tst_set {x : Tst} : ∀ {l : List Tst} {j : Nat}, j < l.length → (((tstCells l).set (j * 3) (.int .i64 x.v)).set (j * 3 + 1) (.int .i64 x.x)).set (j * 3 + 2) (.bool x.q) = tstCells (l.set j x)
  | [], j, h => by simp at h
  | t :: l, 0, _ => rfl
  | t :: l, j + 1, h => by
    have ih := tst_set (x := x) (l := l) (j := j) (by simpa using h)
    rw [List.set_cons_succ]
    show _ = t.cells ++ tstCells (l.set j x)
    rw [← ih]
    have e : tstCells (t :: l) = .int .i64 t.v :: .int .i64 t.x :: .bool t.q :: tstCells l := rfl
    rw [e, show (j + 1) * 3 = j * 3 + 1 + 1 + 1 by omega]
    rfl
theorem asg_set {x : Asg} : ∀ {l : List Asg} {j : Nat}, j < l.length → ((asgCells l).set (j * 2) (.int .i64 x.v)).set (j * 2 + 1) (.int .i64 x.x) = asgCells (l.set j x)
  | [], j, h => by simp at h
  | t :: l, 0, _ => rfl
  | t :: l, j + 1, h => by
    have ih := asg_set (x := x) (l := l) (j := j) (by simpa using h)
    rw [List.set_cons_succ]
    show _ = t.cells ++ asgCells (l.set j x)
    rw [← ih]
    have e : asgCells (t :: l) = .int .i64 t.v :: .int .i64 t.x :: asgCells l := rfl
    rw [e, show (j + 1) * 2 = j * 2 + 1 + 1 by omega]
    rfl
/-- The first j marked, the others as they were. -/
def mixG {α : Type} (m l : List α) (j : Nat) : List α := m.take j ++ l.drop j
theorem mixG_zero {α : Type} (m l : List α) : mixG m l 0 = l := by simp [mixG]
theorem mixG_all {α : Type} {m l : List α} (h : l.length = m.length) : mixG m l m.length = m := by
  unfold mixG
  rw [List.take_length, List.drop_eq_nil_of_le (by omega), List.append_nil]
theorem set_mid {α : Type} (y x : α) (b : List α) : ∀ a : List α, (a ++ y :: b).set a.length x = a ++ x :: b
  | [] => rfl
  | z :: a => by simp
theorem mixG_length {α : Type} {m l : List α} (h : l.length = m.length) {j : Nat} (hj : j ≤ m.length) : (mixG m l j).length = m.length := by simp [mixG]; omega
theorem mixG_set {α : Type} {m l : List α} (h : l.length = m.length) {j : Nat} {x : α} (hx : m[j]? = some x) : (mixG m l j).set j x = mixG m l (j + 1) := by
  have hj : j < m.length := (List.getElem?_eq_some_iff.1 hx).1
  have e := set_mid l[j] x (l.drop (j + 1)) (m.take j)
  rw [List.length_take, Nat.min_eq_left (Nat.le_of_lt hj)] at e
  unfold mixG
  rw [List.take_add_one, hx, List.drop_eq_getElem_cons (by omega : j < l.length), e]
  simp
set_option maxHeartbeats 1000000 in
set_option maxRecDepth 100000 in
theorem c_markTestX (A : Option Addr) (c n base k : Nat) (ts : List Tst) (w : World) (hk : k ≤ 100000000000000) (hn : n ≤ 1048576) (hl : ts.length = n) (ho : w.ownsRow base 90 3 (.slice A n c) n (tstCells ts)) :
    Calls Tryz.prog 77 #[.slice A n c, .int .i64 k] w fun e w' => e = .returned (.int .i64 ((k + 3 * n : Nat) : Int)) ∧ w'.ownsRow base 90 3 (.slice A n c) n (tstCells (mTst k n)) ∧ w.grownBy w' (Value.slice A n c).ownBlock := by
  have HL := Lib.hid hl
  go_enter Tryz.func77, Tryz.ntmps77
  go_wp2
  go_loopw [1, 5] (fun t i wr => ∃ j kk : Nat, j ≤ n ∧ Hid (kk = k + 3 * j) ∧ i = .int .i64 j ∧ t = .int .i64 kk ∧ Hid (wr.ownsRow base 90 3 (.slice A n c) n (tstCells (mixG (mTst k n) ts j))) ∧ Hid (w.grownBy wr (Value.slice A n c).ownBlock)) (fun _ i _ => n - (intOf i).toNat)
  case atStart => exact ⟨0, k, Nat.zero_le _, Lib.hid rfl, rfl, rfl, Lib.hid (by rw [mixG_zero]; exact ho), Lib.hid (World.grownBy.refl _ _)⟩
  case round =>
    obtain ⟨j, kk, hj, hkk, rfl, rfl, ho1, hg⟩ := hrel
    clear ho
    by_cases hlt : j < n
    · obtain ⟨g, cap, hv, _⟩ := ho1.out.form (by omega)
      simp only [Value.slice.injEq, true_and] at hv
      obtain ⟨rfl, rfl⟩ := hv
      have f0 := ho1.out.frozenAt (j * 3)
      obtain ⟨o0, e0⟩ := own_cell ho1.out (j := j * 3) (by omega)
      have f1 := ho1.out.frozenAt (j * 3 + 1)
      obtain ⟨o1, e1⟩ := own_cell ho1.out (j := j * 3 + 1) (by omega)
      have f2 := ho1.out.frozenAt (j * 3 + 2)
      obtain ⟨o2, e2⟩ := own_cell ho1.out (j := j * 3 + 2) (by omega)
      have HKK : Hid (tm k j = ⟨(kk : Int), (kk : Int) + 1, ((kk : Int) + 1 + 1).tmod 3 == 0⟩) := Lib.hid (by rw [hkk.out]; rfl)
      have HST := Lib.hid (((ho1.out.stored (j * 3) (.int .i64 (tm k j).v)).1.stored (j * 3 + 1) (.int .i64 (tm k j).x)).1.stored (j * 3 + 2) (.bool (tm k j).q)).1
      have HG := Lib.hid (grown_trans (grown_trans (grown_trans hg.out (ho1.out.stored (j * 3) (.int .i64 (tm k j).v)).2) ((ho1.out.stored (j * 3) (.int .i64 (tm k j).v)).1.stored (j * 3 + 1) (.int .i64 (tm k j).x)).2) (((ho1.out.stored (j * 3) (.int .i64 (tm k j).v)).1.stored (j * 3 + 1) (.int .i64 (tm k j).x)).1.stored (j * 3 + 2) (.bool (tm k j).q)).2)
      have HE : Hid ((((tstCells (mixG (mTst k n) ts j)).set (j * 3) (.int .i64 (tm k j).v)).set (j * 3 + 1) (.int .i64 (tm k j).x)).set (j * 3 + 2) (.bool (tm k j).q) = tstCells (mixG (mTst k n) ts (j + 1))) := Lib.hid (by
        rw [tst_set (by rw [mixG_length (by rw [mTst_length]; exact HL.out) (by rw [mTst_length]; omega), mTst_length]; exact hlt), mixG_set (by rw [mTst_length]; exact HL.out) (mTst_get hlt)])
      rw [HE.out] at HST
      rw [HKK.out] at HST HG
      dsimp only at HST HG
      have hkb : kk ≤ 200000000000000 := by have := hkk.out; omega
      clear ho1 hg HKK HE
      go_wp2
      go_roundw
      case rel => exact ⟨j + 1, kk + 3, by omega, Lib.hid (by have := hkk.out; omega), by go_num, by go_num, HST, HG⟩
      case measure => simp [intOf]; omega
    · obtain rfl : j = n := by omega
      have HK := Lib.hid (show ((k + 3 * j : Nat) : Int) = (kk : Int) by rw [hkk.out])
      have HO : Hid (wr.ownsRow base 90 3 (.slice A j c) j (tstCells (mTst k j))) := Lib.hid (by
        have := ho1.out
        have e := mixG_all (m := mTst k j) (l := ts) (by rw [mTst_length]; exact HL.out)
        rw [mTst_length] at e
        rwa [e] at this)
      clear ho1 hkk
      go_wp2
      go_ret
      exact ⟨by rw [← HK.out]; rfl, HO.out, hg.out⟩
set_option maxHeartbeats 1000000 in
set_option maxRecDepth 100000 in
theorem c_markAssignX (A : Option Addr) (c n base k : Nat) (ts : List Asg) (w : World) (hk : k ≤ 100000000000000) (hn : n ≤ 1048576) (hl : ts.length = n) (ho : w.ownsRow base 47 2 (.slice A n c) n (asgCells ts)) :
    Calls Tryz.prog 78 #[.slice A n c, .int .i64 k] w fun e w' => e = .returned (.int .i64 ((k + 2 * n : Nat) : Int)) ∧ w'.ownsRow base 47 2 (.slice A n c) n (asgCells (mAsg k n)) ∧ w.grownBy w' (Value.slice A n c).ownBlock := by
  have HL := Lib.hid hl
  go_enter Tryz.func78, Tryz.ntmps78
  go_wp2
  go_loopw [1, 5] (fun t i wr => ∃ j kk : Nat, j ≤ n ∧ Hid (kk = k + 2 * j) ∧ i = .int .i64 j ∧ t = .int .i64 kk ∧ Hid (wr.ownsRow base 47 2 (.slice A n c) n (asgCells (mixG (mAsg k n) ts j))) ∧ Hid (w.grownBy wr (Value.slice A n c).ownBlock)) (fun _ i _ => n - (intOf i).toNat)
  case atStart => exact ⟨0, k, Nat.zero_le _, Lib.hid rfl, rfl, rfl, Lib.hid (by rw [mixG_zero]; exact ho), Lib.hid (World.grownBy.refl _ _)⟩
  case round =>
    obtain ⟨j, kk, hj, hkk, rfl, rfl, ho1, hg⟩ := hrel
    clear ho
    by_cases hlt : j < n
    · obtain ⟨g, cap, hv, _⟩ := ho1.out.form (by omega)
      simp only [Value.slice.injEq, true_and] at hv
      obtain ⟨rfl, rfl⟩ := hv
      have f0 := ho1.out.frozenAt (j * 2)
      obtain ⟨o0, e0⟩ := own_cell ho1.out (j := j * 2) (by omega)
      have f1 := ho1.out.frozenAt (j * 2 + 1)
      obtain ⟨o1, e1⟩ := own_cell ho1.out (j := j * 2 + 1) (by omega)
      have HKK : Hid (am k j = ⟨(kk : Int), (kk : Int) + 1⟩) := Lib.hid (by rw [hkk.out]; rfl)
      have HST := Lib.hid ((ho1.out.stored (j * 2) (.int .i64 (am k j).v)).1.stored (j * 2 + 1) (.int .i64 (am k j).x)).1
      have HG := Lib.hid (grown_trans (grown_trans hg.out (ho1.out.stored (j * 2) (.int .i64 (am k j).v)).2) ((ho1.out.stored (j * 2) (.int .i64 (am k j).v)).1.stored (j * 2 + 1) (.int .i64 (am k j).x)).2)
      have HE : Hid (((asgCells (mixG (mAsg k n) ts j)).set (j * 2) (.int .i64 (am k j).v)).set (j * 2 + 1) (.int .i64 (am k j).x) = asgCells (mixG (mAsg k n) ts (j + 1))) := Lib.hid (by
        rw [asg_set (by rw [mixG_length (by rw [mAsg_length]; exact HL.out) (by rw [mAsg_length]; omega), mAsg_length]; exact hlt), mixG_set (by rw [mAsg_length]; exact HL.out) (mAsg_get hlt)])
      rw [HE.out] at HST
      rw [HKK.out] at HST HG
      dsimp only at HST HG
      have hkb : kk ≤ 200000000000000 := by have := hkk.out; omega
      clear ho1 hg HKK HE
      go_wp2
      go_roundw
      case rel => exact ⟨j + 1, kk + 2, by omega, Lib.hid (by have := hkk.out; omega), by go_num, by go_num, HST, HG⟩
      case measure => simp [intOf]; omega
    · obtain rfl : j = n := by omega
      have HK := Lib.hid (show ((k + 2 * j : Nat) : Int) = (kk : Int) by rw [hkk.out])
      have HO : Hid (wr.ownsRow base 47 2 (.slice A j c) j (asgCells (mAsg k j))) := Lib.hid (by
        have := ho1.out
        have e := mixG_all (m := mAsg k j) (l := ts) (by rw [mAsg_length]; exact HL.out)
        rw [mAsg_length] at e
        rwa [e] at this)
      clear ho1 hkk
      go_wp2
      go_ret
      exact ⟨by rw [← HK.out]; rfl, HO.out, hg.out⟩
set_option maxHeartbeats 1000000 in
set_option maxRecDepth 100000 in
theorem c_heldTestS (A : Option Addr) (c n k : Nat) (w : World) (hk : k ≤ 100000000000000) (hn : n ≤ 1048576) (hr : Rd w A (tstCells (mTst k n))) :
    Calls Tryz.prog 79 #[.slice A n c, .int .i64 k] w fun e w' => e = .returned (.int .i64 ((k + 3 * n : Nat) : Int)) ∧ Below w.heap.size w w' := by
  have HR := Lib.hid hr
  clear hr
  go_enter Tryz.func79, Tryz.ntmps79
  go_wp2
  go_loopw [1, 5] (fun t i wr => ∃ j kk : Nat, j ≤ n ∧ Hid (kk = k + 3 * j) ∧ i = .int .i64 j ∧ t = .int .i64 kk ∧ Below w.heap.size w wr) (fun _ i _ => n - (intOf i).toNat)
  case atStart => exact ⟨0, k, Nat.zero_le _, Lib.hid rfl, rfl, rfl, Below.refl _ _⟩
  case round =>
    obtain ⟨j, kk, hj, hkk, rfl, rfl, hb⟩ := hrel
    have HB := Lib.hid hb
    clear hb
    have hkb : kk ≤ 200000000000000 := by have := hkk.out; omega
    by_cases hlt : j < n
    · have HKK : Hid (tm k j = ⟨(kk : Int), (kk : Int) + 1, ((kk : Int) + 1 + 1).tmod 3 == 0⟩) := Lib.hid (by rw [hkk.out]; rfl)
      obtain ⟨b, off, rfl, _, g0, g1, g2⟩ := (HR.out.below HB.out).tst (mTst_get hlt)
      rw [HKK.out] at g0 g1 g2
      dsimp only at g0 g1 g2
      obtain ⟨qq, hqq⟩ : ∃ q, q = (((kk : Int) + 1 + 1).tmod 3 == 0) := ⟨_, rfl⟩
      rw [← hqq] at g2
      have hqq2 := hqq.symm
      rw [Int.tmod_eq_emod_of_nonneg (by omega : (0 : Int) ≤ (kk : Int) + 1 + 1)] at hqq2
      clear hqq HKK
      cases qq
      · go_wp2
        go_roundw
        case rel => exact ⟨j + 1, kk + 3, by omega, Lib.hid (by have := hkk.out; omega), by go_num, by go_num, by first | exact HB.out | exact HB.out.drew⟩
        case measure => simp [intOf]; omega
      · go_wp2
        go_roundw
        case rel => exact ⟨j + 1, kk + 3, by omega, Lib.hid (by have := hkk.out; omega), by go_num, by go_num, by first | exact HB.out | exact HB.out.drew⟩
        case measure => simp [intOf]; omega
    · obtain rfl : j = n := by omega
      have HK := Lib.hid (show ((k + 3 * j : Nat) : Int) = (kk : Int) by rw [hkk.out])
      clear hkk
      go_wp2
      go_ret
      exact ⟨by rw [← HK.out]; rfl, HB.out⟩
set_option maxHeartbeats 1000000 in
set_option maxRecDepth 100000 in
theorem c_heldAssignS (A : Option Addr) (c n k : Nat) (w : World) (hk : k ≤ 100000000000000) (hn : n ≤ 1048576) (hr : Rd w A (asgCells (mAsg k n))) :
    Calls Tryz.prog 80 #[.slice A n c, .int .i64 k] w fun e w' => e = .returned (.int .i64 ((k + 2 * n : Nat) : Int)) ∧ Below w.heap.size w w' := by
  have HR := Lib.hid hr
  clear hr
  go_enter Tryz.func80, Tryz.ntmps80
  go_wp2
  go_loop [1, 5] (fun t i => ∃ j kk : Nat, j ≤ n ∧ Hid (kk = k + 2 * j) ∧ i = .int .i64 j ∧ t = .int .i64 kk) (fun _ i => n - (intOf i).toNat)
  case atStart => exact ⟨0, k, Nat.zero_le _, Lib.hid rfl, rfl, rfl⟩
  case round =>
    obtain ⟨j, kk, hj, hkk, rfl, rfl⟩ := hrel
    have hkb : kk ≤ 200000000000000 := by have := hkk.out; omega
    by_cases hlt : j < n
    · have HKK : Hid (am k j = ⟨(kk : Int), (kk : Int) + 1⟩) := Lib.hid (by rw [hkk.out]; rfl)
      obtain ⟨b, off, rfl, _, g0, g1⟩ := HR.out.asg (mAsg_get hlt)
      rw [HKK.out] at g0 g1
      dsimp only at g0 g1
      clear HKK
      go_wp2
      go_round
      case rel => exact ⟨j + 1, kk + 2, by omega, Lib.hid (by have := hkk.out; omega), by go_num, by go_num⟩
      case measure => simp [intOf]; omega
    · obtain rfl : j = n := by omega
      have HK := Lib.hid (show ((k + 2 * j : Nat) : Int) = (kk : Int) by rw [hkk.out])
      clear hkk
      go_wp2
      go_ret
      exact ⟨by rw [← HK.out]; rfl, Below.refl _ _⟩
end Go.Proofs.YtgpmglfcdbpgkaaGreatDoor

/- Marks of rules, exact. No condition but the sizes, and that the rows lie apart. -/
namespace Go.Proofs.YtgpmglfcdbpgkaaGreatDoor
open Go.RowKit

def mtF (j : Nat) (t : ByteArray) : ByteArray := if _h : 0 < j then mtF (j / 10) (strOfNums [48 + (j : Int) % 10] ++ t) else t
termination_by j
decreasing_by exact Nat.div_lt_self (by assumption) (by omega)
theorem mtF_pos {j : Nat} (h : 0 < j) (t : ByteArray) : mtF j t = mtF (j / 10) (strOfNums [48 + (j : Int) % 10] ++ t) := by rw [mtF, dif_pos h]
theorem mtF_zero (t : ByteArray) : mtF 0 t = t := by rw [mtF, dif_neg (by omega)]
/-- The text of a mark. -/
def mtx (k : Nat) : ByteArray := ⟨#[109]⟩ ++ mtF k ⟨#[]⟩
set_option maxHeartbeats 1000000 in
set_option maxRecDepth 100000 in
theorem c_markTextX (k : Nat) (w : World) (hk0 : 0 < k) (hk : k ≤ 1000000000000000) : Calls Tryz.prog 76 #[.int .i64 k] w fun e w' => e = .returned (.string (mtx k)) ∧ Below w.heap.size w w' := by
  have hk1 : ¬ ((k : Nat) : Int) ≤ 0 := by omega
  have HMX : Hid (mtx k = ⟨#[109]⟩ ++ mtF k ⟨#[]⟩) := Lib.hid rfl
  generalize mtx k = R at *
  go_enter Tryz.func76, Tryz.ntmps76
  go_wp2
  go_loopw [0, 3] (fun i s wr => ∃ (j : Nat) (t : ByteArray), j ≤ k ∧ i = .int .i64 j ∧ s = .string t ∧ t.size ≤ k - j ∧ Hid (mtF j t = mtF k ⟨#[]⟩) ∧ Below w.heap.size w wr) (fun i _ _ => (intOf i).toNat)
  case atStart => exact ⟨k, ⟨#[]⟩, Nat.le_refl _, rfl, rfl, Nat.zero_le _, Lib.hid rfl, Below.refl _ _⟩
  case round =>
    obtain ⟨j, t, hj, rfl, rfl, hts, hmt, hb⟩ := hrel
    have HB := Lib.hid hb
    clear hb
    by_cases hlt : 0 < j
    · have hj0 : (0 : Int) < (j : Int) := by omega
      have hj1 : (0 : Int) ≤ (j : Int) := by omega
      have HMT : Hid (mtF (j / 10) (strOfNums [48 + (j : Int) % 10] ++ t) = mtF k ⟨#[]⟩) := Lib.hid (by rw [← mtF_pos hlt]; exact hmt.out)
      obtain ⟨r, hre, hrs, hback⟩ : ∃ r : ByteArray, Hid (r = strOfNums [48 + (j : Int) % 10]) ∧ r.size ≤ 1 ∧ (convert 31 9 (.slice (some ⟨wr.heap.size, 0, none⟩) 1 1)).run Tryz.prog (wr.alloc (Obj.cells #[Value.int .u8 (48 + (j : Int) % 10)] 5)) = .ok (.string r) (wr.alloc (Obj.cells #[Value.int .u8 (48 + (j : Int) % 10)] 5)) :=
        ⟨strOfNums [48 + (j : Int) % 10], Lib.hid rfl, (by show (strOfNums [48 + (j : Int) % 10]).data.size ≤ 1; simp [strOfNums]), run_convert_bytes_arg _ _ 5 Tryz.underlying31 Tryz.underlying5 _ 0 1 1 [48 + (j : Int) % 10] rfl (fun i hi => by
          obtain rfl : i = 0 := by omega
          go_simp) _ Tryz.underlying9⟩
      have hd1 : (j / 10 : Nat) < j := Nat.div_lt_self hlt (by omega)
      have hd2 : ((j : Int) / 10) = ((j / 10 : Nat) : Int) := by omega
      have hd3 : r.size + t.size ≤ 9223372036854775807 := by omega
      have HD2 := Lib.hid hd2
      clear hd2
      go_wp2
      go_roundw
      case rel => exact ⟨j / 10, r ++ t, by omega, by rw [HD2.out], rfl, by rw [ByteArray.size_append]; omega, Lib.hid (by rw [hre.out]; exact HMT.out), below_alloc HB.out _⟩
      case measure => simp [intOf]; omega
    · have hj0 : ¬ (0 : Int) < (j : Int) := by omega
      have hd3 : t.size + 1 ≤ 9223372036854775807 := by omega
      have HR : Hid (R = ⟨#[109]⟩ ++ t) := Lib.hid (by
        rw [HMX.out, ← hmt.out, show j = 0 by omega, mtF_zero])
      go_wp2
      go_ret
      exact ⟨by rw [HR.out]; rfl, HB.out⟩
/-- What a rule's marks count. -/
def rN (d : RuD) : Nat := 1 + 3 * d.r.gs.length + 2 * d.r.es.length
def kAt (k : Nat) (ds : List RuD) (j : Nat) : Nat := (ds.take j).foldl (fun a d => a + rN d) k
theorem kAt_zero (k : Nat) (ds : List RuD) : kAt k ds 0 = k := rfl
theorem kAt_succ {k : Nat} {ds : List RuD} {j : Nat} {d : RuD} (h : ds[j]? = some d) : kAt k ds (j + 1) = kAt k ds j + rN d := by
  unfold kAt
  rw [List.take_add_one, h, List.foldl_append]
  rfl
def mk1 (kk : Nat) (d : RuD) : RuD := ⟨⟨mtx kk, mTst (kk + 1) d.r.gs.length, mAsg (kk + 1 + 3 * d.r.gs.length) d.r.es.length⟩, d.ag, d.cg, d.ae, d.ce⟩
theorem mk1_vg (kk : Nat) (d : RuD) : (mk1 kk d).vg = d.vg := by unfold RuD.vg mk1; simp [mTst_length]
theorem mk1_ve (kk : Nat) (d : RuD) : (mk1 kk d).ve = d.ve := by unfold RuD.ve mk1; simp [mAsg_length]
/-- The rules marked. -/
def mL (k : Nat) (ds : List RuD) : List RuD := ds.mapIdx fun j d => mk1 (kAt k ds j) d
theorem mL_length (k : Nat) (ds : List RuD) : (mL k ds).length = ds.length := by simp [mL]
theorem mL_get {k : Nat} {ds : List RuD} {j : Nat} {d : RuD} (h : ds[j]? = some d) : (mL k ds)[j]? = some (mk1 (kAt k ds j) d) := by simp [mL, h]
theorem rud_set {x d : RuD} : ∀ {l : List RuD} {j : Nat}, l[j]? = some d → x.vg = d.vg → x.ve = d.ve → (rudCells l).set (j * 3) (.string x.r.nm) = rudCells (l.set j x)
  | [], j, h, _, _ => by simp at h
  | t :: l, 0, h, h1, h2 => by
    simp only [List.getElem?_cons_zero, Option.some.injEq] at h
    subst h
    have e : rudCells (t :: l) = .string t.r.nm :: t.vg :: t.ve :: rudCells l := rfl
    have e2 : rudCells ((t :: l).set 0 x) = .string x.r.nm :: x.vg :: x.ve :: rudCells l := rfl
    rw [e, e2, h1, h2]
    rfl
  | t :: l, j + 1, h, h1, h2 => by
    simp only [List.getElem?_cons_succ] at h
    have ih := rud_set (x := x) h h1 h2
    have e : rudCells (t :: l) = .string t.r.nm :: t.vg :: t.ve :: rudCells l := rfl
    rw [List.set_cons_succ]
    have e2 : rudCells (t :: l.set j x) = .string t.r.nm :: t.vg :: t.ve :: rudCells (l.set j x) := rfl
    rw [e2, ← ih, e, show (j + 1) * 3 = j * 3 + 1 + 1 + 1 by omega]
    rfl
theorem mixG_at {α : Type} {m l : List α} (h : l.length = m.length) (j : Nat) : (mixG m l j)[j]? = l[j]? := by
  unfold mixG
  by_cases hj : j ≤ m.length
  · rw [List.getElem?_append_right (by simp; omega)]
    simp [Nat.min_eq_left hj]
  · rw [List.getElem?_eq_none (by simp; omega), List.getElem?_eq_none (by omega)]
theorem sepD_ne {ds : List RuD} (h : SepD ds) {i j : Nat} {a b : RuD} (ha : ds[i]? = some a) (hb : ds[j]? = some b) (hij : i ≠ j) : (∀ q, a.vg.ownBlock = some q → b.vg.ownBlock ≠ some q) ∧ (∀ q, a.ve.ownBlock = some q → b.ve.ownBlock ≠ some q) := by
  obtain ⟨hi, ei⟩ := List.getElem?_eq_some_iff.1 ha
  obtain ⟨hj, ej⟩ := List.getElem?_eq_some_iff.1 hb
  unfold SepD at h
  rw [List.pairwise_iff_getElem] at h
  rcases Nat.lt_or_gt_of_ne hij with hl | hl
  · have := h i j hi hj hl
    rw [ei, ej] at this
    exact this
  · have := h j i hj hi hl
    rw [ei, ej] at this
    exact ⟨fun q h1 h2 => this.1 q h2 h1, fun q h1 h2 => this.2 q h2 h1⟩
/-- A rule of the list half marked lies where the unmarked one lies. -/
theorem mix_same {k : Nat} {ds : List RuD} {j i : Nat} {x : RuD} (h : (mixG (mL k ds) ds j)[i]? = some x) : ∃ d, ds[i]? = some d ∧ x.vg = d.vg ∧ x.ve = d.ve := by
  unfold mixG at h
  have hlen := mL_length k ds
  by_cases hi : i < j
  · by_cases hi2 : i < ds.length
    · rw [List.getElem?_append_left (by simp; omega), List.getElem?_take, if_pos hi] at h
      obtain ⟨d, hd⟩ : ∃ d, ds[i]? = some d := ⟨_, List.getElem?_eq_getElem hi2⟩
      rw [mL_get hd] at h
      simp only [Option.some.injEq] at h
      subst h
      exact ⟨d, hd, mk1_vg _ _, mk1_ve _ _⟩
    · rw [List.getElem?_eq_none (by simp; omega)] at h
      cases h
  · by_cases hj : j ≤ ds.length
    · rw [List.getElem?_append_right (by simp; omega)] at h
      simp only [List.length_take, List.getElem?_drop, hlen, Nat.min_eq_left hj] at h
      rw [show j + (i - j) = i by omega] at h
      exact ⟨x, h, rfl, rfl⟩
    · rw [List.getElem?_eq_none (by simp; omega)] at h
      cases h
end Go.Proofs.YtgpmglfcdbpgkaaGreatDoor

/- markRuleS, exact. No condition but the sizes, and that the rows lie apart. -/
namespace Go.Proofs.YtgpmglfcdbpgkaaGreatDoor
open Go.RowKit

theorem c_markTestXz (A : Option Addr) (c n base k : Nat) (kz : Int) (ts : List Tst) (w : World) (hz : kz = (k : Int)) (hk : k ≤ 100000000000000) (hn : n ≤ 1048576) (hl : ts.length = n) (ho : w.ownsRow base 90 3 (.slice A n c) n (tstCells ts)) :
    Calls Tryz.prog 77 #[.slice A n c, .int .i64 kz] w fun e w' => e = .returned (.int .i64 ((k + 3 * n : Nat) : Int)) ∧ w'.ownsRow base 90 3 (.slice A n c) n (tstCells (mTst k n)) ∧ w.grownBy w' (Value.slice A n c).ownBlock := by subst hz; exact c_markTestX A c n base k ts w hk hn hl ho
theorem rud_row {w : World} {base g n c : Nat} {ds : List RuD} {j : Nat} {d : RuD} (h : w.ownsRow base 45 3 (.slice (some ⟨g, 0, none⟩) n c) n (rudCells ds)) (hd : ds[j]? = some d) : w.cell? ⟨g, j * 3, none⟩ = some (.string d.r.nm) ∧ w.cell? ⟨g, j * 3 + 1, none⟩ = some d.vg ∧ w.cell? ⟨g, j * 3 + 2, none⟩ = some d.ve := by
  obtain ⟨u0, u1, u2⟩ := rudCells_at hd
  have hl := h.1
  have e0 := (List.getElem?_eq_some_iff.1 u0).1
  have e1 := (List.getElem?_eq_some_iff.1 u1).1
  have e2 := (List.getElem?_eq_some_iff.1 u2).1
  exact ⟨(h.cellAt (j * 3) (by omega)).trans u0, (h.cellAt (j * 3 + 1) (by omega)).trans u1, (h.cellAt (j * 3 + 2) (by omega)).trans u2⟩
theorem below_grow {B : Nat} {w a b : World} {row : Option Nat} (h : Below B w a) (hB : B ≤ w.heap.size) (hg : a.grownBy b row) (hr : ∀ k, row = some k → B ≤ k) : Below B w b := h.grown hg (Nat.le_trans hB h.size) hr
set_option maxHeartbeats 2000000 in
set_option maxRecDepth 100000 in
theorem c_markRuleX (A : Option Addr) (c n base k : Nat) (ds : List RuD) (w : World) (hk0 : 0 < k) (hk : k ≤ 10000000000) (hn : n ≤ 1048576) (hds : ds.length = n) (hbd : ∀ d ∈ ds, d.r.gs.length ≤ 1000 ∧ d.r.es.length ≤ 1000) (hbase : base ≤ w.heap.size) (hsep : SepD ds)
    (ho : w.ownsRow base 45 3 (.slice A n c) n (rudCells ds)) (hN : ∀ d ∈ ds, Nest w base d) :
    Calls Tryz.prog 33 #[.slice A n c, .int .i64 k] w fun e w' => e = .returned (.int .i64 (kAt k ds n : Nat)) ∧ w'.ownsRow base 45 3 (.slice A n c) n (rudCells (mL k ds)) ∧ (∀ d ∈ mL k ds, Nest w' base d) ∧ Below base w w' ∧ (∀ (b2 : Nat) (e2 : TypeId) (s2 : Nat) (v2 : Value) (n2 : Nat) (x2 : List Value), e2 ≠ 45 → e2 ≠ 90 → e2 ≠ 47 → w.ownsRow b2 e2 s2 v2 n2 x2 → w'.ownsRow b2 e2 s2 v2 n2 x2) := by
  have HLM : Hid (ds.length = (mL k ds).length) := Lib.hid (mL_length k ds).symm
  have HD := Lib.hid hds
  have HBD := Lib.hid hbd
  have HSEP := Lib.hid hsep
  have HBASE := Lib.hid hbase
  have HO := Lib.hid ho
  have HNN : Hid (∀ (i : Nat) (x : RuD), (mixG (mL k ds) ds 0)[i]? = some x → Nest w base x) := Lib.hid (fun i x h => hN x (List.mem_of_getElem? (by rw [mixG_zero] at h; exact h)))
  clear ho hN hds hsep hbd hbase
  go_enter Tryz.func33, Tryz.ntmps33
  go_wp2
  go_loopw [1, 5] (fun t i wr => ∃ j kk : Nat, j ≤ n ∧ kk ≤ k + j * 5001 ∧ k ≤ kk ∧ Hid (kk = kAt k ds j) ∧ i = .int .i64 j ∧ t = .int .i64 kk ∧ Hid (wr.ownsRow base 45 3 (.slice A n c) n (rudCells (mixG (mL k ds) ds j))) ∧ Hid (∀ (i : Nat) (x : RuD), (mixG (mL k ds) ds j)[i]? = some x → Nest wr base x) ∧ Hid (Below base w wr) ∧ Hid (∀ (b2 : Nat) (e2 : TypeId) (s2 : Nat) (v2 : Value) (n2 : Nat) (x2 : List Value), e2 ≠ 45 → e2 ≠ 90 → e2 ≠ 47 → w.ownsRow b2 e2 s2 v2 n2 x2 → wr.ownsRow b2 e2 s2 v2 n2 x2)) (fun _ i _ => n - (intOf i).toNat)
  case atStart => exact ⟨0, k, Nat.zero_le _, by omega, Nat.le_refl _, Lib.hid rfl, rfl, rfl, Lib.hid (by rw [mixG_zero]; exact HO.out), HNN, Lib.hid (Below.refl _ _), Lib.hid (fun _ _ _ _ _ _ _ _ _ h => h)⟩
  case round =>
    obtain ⟨j, kk, hj, hkk, hkm, hke, rfl, rfl, ho1, hn1, hb, hkeep⟩ := hrel
    clear HO HNN
    by_cases hlt : j < n
    · obtain ⟨d, hd⟩ : ∃ z, ds[j]? = some z := ⟨_, List.getElem?_eq_getElem (by have := HD.out; omega)⟩
      obtain ⟨g, cap, hv, hg1, hg2⟩ := ho1.out.form (by omega)
      simp only [Value.slice.injEq, true_and] at hv
      obtain ⟨rfl, rfl⟩ := hv
      have HDD := Lib.hid hd
      have hbd := HBD.out d (List.mem_of_getElem? hd)
      obtain ⟨hgn, hen⟩ := hbd
      have HX : Hid ((mixG (mL k ds) ds j)[j]? = some d) := Lib.hid (by rw [mixG_at HLM.out]; exact hd)
      have HMJ : Hid ((mL k ds)[j]? = some (mk1 kk d)) := Lib.hid (by rw [hke.out]; exact mL_get hd)
      have HMS : Hid ((mixG (mL k ds) ds j).set j (mk1 kk d) = mixG (mL k ds) ds (j + 1)) := Lib.hid (mixG_set HLM.out HMJ.out)
      have HKN : Hid (kAt k ds (j + 1) = kk + rN d) := Lib.hid (by rw [kAt_succ hd, ← hke.out])
      have hkp : 0 < kk := by omega
      have hkb : kk ≤ 100000000000 := by omega
      clear hd
      go_wp2_with (fail)
      refine (c_markTextX kk _ hkp (by omega)).mono ?_
      rintro e w2 ⟨rfl, hb2⟩
      have HO2 := Lib.hid (own_below ho1.out hb2)
      have HN2 := Lib.hid (fun i x h => (hn1.out i x h).below hb2)
      have HB2 := Lib.hid (hb.out.trans (hb2.mono (Nat.le_trans HBASE.out hb.out.size)))
      have HK2 : Hid (∀ (b2 : Nat) (e2 : TypeId) (s2 : Nat) (v2 : Value) (n2 : Nat) (x2 : List Value), e2 ≠ 45 → e2 ≠ 90 → e2 ≠ 47 → w.ownsRow b2 e2 s2 v2 n2 x2 → w2.ownsRow b2 e2 s2 v2 n2 x2) := Lib.hid (fun b2 e2 s2 v2 n2 x2 h1 h2 h3 h => own_below (hkeep.out b2 e2 s2 v2 n2 x2 h1 h2 h3 h) hb2)
      clear hb2 hb ho1 hn1 hkeep
      have f0 := HO2.out.frozenAt (j * 3)
      obtain ⟨e0, _, _⟩ := rud_row HO2.out HX.out
      have HST := HO2.out.stored (j * 3) (.string (mtx kk))
      have HO3 : Hid ((w2.setCell ⟨g, j * 3, none⟩ (.string (mtx kk))).ownsRow base 45 3 (.slice (some ⟨g, 0, none⟩) n c) n (rudCells (mixG (mL k ds) ds (j + 1)))) := Lib.hid (by
        have h1 := HST.1
        have h2 := rud_set (x := mk1 kk d) HX.out (mk1_vg _ _) (mk1_ve _ _)
        rw [HMS.out] at h2
        rw [← h2]
        exact h1)
      have HN3 := Lib.hid (fun i x h => (HN2.out i x h).aside HO2.out (by decide) (by decide) HST.2)
      have HB3 := Lib.hid (below_grow HB2.out HBASE.out HST.2 (fun q hq => (HO2.out.lt q hq).1))
      have HK3 : Hid (∀ (b2 : Nat) (e2 : TypeId) (s2 : Nat) (v2 : Value) (n2 : Nat) (x2 : List Value), e2 ≠ 45 → e2 ≠ 90 → e2 ≠ 47 → w.ownsRow b2 e2 s2 v2 n2 x2 → (w2.setCell ⟨g, j * 3, none⟩ (.string (mtx kk))).ownsRow b2 e2 s2 v2 n2 x2) := Lib.hid (fun b2 e2 s2 v2 n2 x2 h1 h2 h3 h => own_aside (HK2.out b2 e2 s2 v2 n2 x2 h1 h2 h3 h) HO2.out h1 HST.2)
      clear HST HK2
      go_upto_region 6 with (fail)
      generalize w2.setCell ⟨g, j * 3, none⟩ (.string (mtx kk)) = w3 at *
      have HXV : Hid ((mixG (mL k ds) ds (j + 1))[j]? = some (mk1 kk d)) := Lib.hid (by
        rw [← HMS.out, List.getElem?_set_self (List.getElem?_eq_some_iff.1 HX.out).1])
      obtain ⟨_, l1, _⟩ := rud_row HO3.out HXV.out
      rw [mk1_vg] at l1
      unfold RuD.vg at l1
      have HDN := Lib.hid (HN3.out j d HX.out)
      have hw1 : IntKind.i64.wrap ((kk : Int) + 1) = (kk : Int) + 1 := IntWalk.i64_in _ (by omega)
      clear HO2 HN2 HB2 f0 e0
      go_wp2_with (fail)
      refine (c_markTestXz d.ag d.cg d.r.gs.length base (kk + 1) _ d.r.gs _ (by omega) (by omega) (by omega) rfl HDN.out.1).mono ?_
      rintro e w4 ⟨rfl, ho4, hg4⟩
      have HO4 := Lib.hid (own_aside HO3.out HDN.out.1 (by decide) hg4)
      have HG4 := Lib.hid hg4
      have HT4 := Lib.hid ho4
      have HE4 := Lib.hid (own_aside HDN.out.2 HDN.out.1 (by decide) hg4)
      have HB4 := Lib.hid (below_grow HB3.out HBASE.out hg4 (fun q hq => (HDN.out.1.lt q hq).1))
      have HN4 : Hid (∀ (i : Nat) (x : RuD), i ≠ j → (mixG (mL k ds) ds j)[i]? = some x → Nest w4 base x) := Lib.hid (fun i x hi hx => by
        obtain ⟨d', hd', ev, ee⟩ := mix_same hx
        have h0 := HN3.out i x hx
        have hs := (sepD_ne HSEP.out hd' HDD.out hi).1
        refine ⟨h0.1.kept hg4 ?_, own_aside h0.2 HDN.out.1 (by decide) hg4⟩
        rcases hb : x.vg.ownBlock with _ | q
        · exact .inl rfl
        · rw [ev] at hb
          exact .inr (fun e => hs q hb e.symm))
      have HK5 : Hid (∀ (b2 : Nat) (e2 : TypeId) (s2 : Nat) (v2 : Value) (n2 : Nat) (x2 : List Value), e2 ≠ 45 → e2 ≠ 90 → e2 ≠ 47 → w.ownsRow b2 e2 s2 v2 n2 x2 → w4.ownsRow b2 e2 s2 v2 n2 x2) := Lib.hid (fun b2 e2 s2 v2 n2 x2 h1 h2 h3 h => own_aside (HK3.out b2 e2 s2 v2 n2 x2 h1 h2 h3 h) HDN.out.1 h2 hg4)
      clear ho4 hg4 HO3 HN3 HB3 HK3 l1
      obtain ⟨_, _, l2⟩ := rud_row HO4.out HXV.out
      rw [mk1_ve] at l2
      unfold RuD.ve at l2
      obtain ⟨k4, hk4⟩ : ∃ k4, k4 = kk + 1 + 3 * d.r.gs.length := ⟨_, rfl⟩
      rw [← hk4]
      have hk4b : k4 ≤ 100000010000 := by omega
      have HK4 := Lib.hid hk4
      clear hk4
      go_wp2_with (fail)
      refine (c_markAssignX d.ae d.ce d.r.es.length base k4 d.r.es _ (by omega) (by omega) rfl HE4.out).mono ?_
      rintro e w5 ⟨rfl, ho5, hg5⟩
      have HO5 := Lib.hid (own_aside HO4.out HE4.out (by decide) hg5)
      have HB5 := Lib.hid (below_grow HB4.out HBASE.out hg5 (fun q hq => (HE4.out.lt q hq).1))
      have HN5 : Hid (∀ (i : Nat) (x : RuD), (mixG (mL k ds) ds (j + 1))[i]? = some x → Nest w5 base x) := Lib.hid (fun i x hx => by
        by_cases hi : i = j
        · subst hi
          rw [HXV.out] at hx
          simp only [Option.some.injEq] at hx
          subst hx
          have h1 := own_aside HT4.out HE4.out (by decide) hg5
          have h2 := ho5
          rw [HK4.out] at h2
          have e1 := mTst_length (kk + 1) d.r.gs.length
          have e2 := mAsg_length (kk + 1 + 3 * d.r.gs.length) d.r.es.length
          constructor
          · show World.ownsRow _ _ _ _ (.slice d.ag (mTst (kk + 1) d.r.gs.length).length d.cg) (mTst (kk + 1) d.r.gs.length).length (tstCells (mTst (kk + 1) d.r.gs.length))
            rw [e1]
            exact h1
          · show World.ownsRow _ _ _ _ (.slice d.ae (mAsg (kk + 1 + 3 * d.r.gs.length) d.r.es.length).length d.ce) (mAsg (kk + 1 + 3 * d.r.gs.length) d.r.es.length).length (asgCells (mAsg (kk + 1 + 3 * d.r.gs.length) d.r.es.length))
            rw [e2]
            exact h2
        · rw [← HMS.out, List.getElem?_set_ne (fun e => hi e.symm)] at hx
          obtain ⟨d', hd', ev, ee⟩ := mix_same hx
          have h0 := HN4.out i x hi hx
          have hs := (sepD_ne HSEP.out hd' HDD.out hi).2
          refine ⟨own_aside h0.1 HE4.out (by decide) hg5, h0.2.kept hg5 ?_⟩
          rcases hb : x.ve.ownBlock with _ | q
          · exact .inl rfl
          · rw [ee] at hb
            exact .inr (fun e => hs q hb e.symm))
      have HKE : Hid (k4 + 2 * d.r.es.length = kAt k ds (j + 1)) := Lib.hid (by rw [HKN.out, HK4.out]; unfold rN; omega)
      have hk5 : k4 + 2 * d.r.es.length ≤ k + (j + 1) * 5001 := by have := HK4.out; omega
      have hk6 : k ≤ k4 + 2 * d.r.es.length := by have := HK4.out; omega
      have HK6 : Hid (∀ (b2 : Nat) (e2 : TypeId) (s2 : Nat) (v2 : Value) (n2 : Nat) (x2 : List Value), e2 ≠ 45 → e2 ≠ 90 → e2 ≠ 47 → w.ownsRow b2 e2 s2 v2 n2 x2 → w5.ownsRow b2 e2 s2 v2 n2 x2) := Lib.hid (fun b2 e2 s2 v2 n2 x2 h1 h2 h3 h => own_aside (HK5.out b2 e2 s2 v2 n2 x2 h1 h2 h3 h) HE4.out h3 hg5)
      clear ho5 hg5 HO4 HT4 HE4 HB4 HN4 HK5 l2 HDN
      go_wp2_with (fail)
      go_roundw
      case rel => exact ⟨j + 1, k4 + 2 * d.r.es.length, by omega, hk5, hk6, HKE, by go_num, rfl, HO5, HN5, HB5, HK6⟩
      case measure => simp [intOf]; omega
    · obtain rfl : j = n := by omega
      have HKJ : Hid ((kk : Nat) = kAt k ds j) := hke
      have e := mixG_all (m := mL k ds) (l := ds) HLM.out
      rw [mL_length, HD.out] at e
      rw [e] at ho1 hn1
      clear e hke
      go_wp2
      go_ret
      exact ⟨by rw [← HKJ.out]; rfl, ho1.out, fun d hd => by
        obtain ⟨i, hi⟩ := List.getElem?_of_mem hd
        exact hn1.out i d hi, hb.out, hkeep.out⟩
end Go.Proofs.YtgpmglfcdbpgkaaGreatDoor

/- heldRuleS, markModel, heldModel, exact. No condition but the sizes, and that the rows lie apart. -/
namespace Go.Proofs.YtgpmglfcdbpgkaaGreatDoor
open Go.RowKit

theorem c_heldTestSz (A : Option Addr) (c n k : Nat) (kz : Int) (w : World) (hz : kz = (k : Int)) (hk : k ≤ 100000000000000) (hn : n ≤ 1048576) (hr : Rd w A (tstCells (mTst k n))) :
    Calls Tryz.prog 79 #[.slice A n c, .int .i64 kz] w fun e w' => e = .returned (.int .i64 ((k + 3 * n : Nat) : Int)) ∧ Below w.heap.size w w' := by subst hz; exact c_heldTestS A c n k w hk hn hr
set_option maxHeartbeats 2000000 in
set_option maxRecDepth 100000 in
theorem c_heldRuleS (A : Option Addr) (c n k : Nat) (ds : List RuD) (w : World) (hk0 : 0 < k) (hk : k ≤ 10000000000) (hn : n ≤ 1048576) (hds : ds.length = n) (hbd : ∀ d ∈ ds, d.r.gs.length ≤ 1000 ∧ d.r.es.length ≤ 1000) (hr : Rd w A (rudCells (mL k ds))) (hN : ∀ d ∈ mL k ds, Rd w d.ag (tstCells d.r.gs) ∧ Rd w d.ae (asgCells d.r.es)) :
    Calls Tryz.prog 35 #[.slice A n c, .int .i64 k] w fun e w' => e = .returned (.int .i64 (kAt k ds n : Nat)) ∧ Below w.heap.size w w' := by
  have HD := Lib.hid hds
  have HBD := Lib.hid hbd
  have HR := Lib.hid hr
  have HNN := Lib.hid hN
  clear hds hbd hr hN
  go_enter Tryz.func35, Tryz.ntmps35
  go_wp2
  go_loopw [1, 5] (fun t i wr => ∃ j kk : Nat, j ≤ n ∧ kk ≤ k + j * 5001 ∧ k ≤ kk ∧ Hid (kk = kAt k ds j) ∧ i = .int .i64 j ∧ t = .int .i64 kk ∧ Hid (Below w.heap.size w wr)) (fun _ i _ => n - (intOf i).toNat)
  case atStart => exact ⟨0, k, Nat.zero_le _, by omega, Nat.le_refl _, Lib.hid rfl, rfl, rfl, Lib.hid (Below.refl _ _)⟩
  case round =>
    obtain ⟨j, kk, hj, hkk, hkm, hke, rfl, rfl, hb⟩ := hrel
    by_cases hlt : j < n
    · obtain ⟨d, hd⟩ : ∃ z, ds[j]? = some z := ⟨_, List.getElem?_eq_getElem (by have := HD.out; omega)⟩
      have HMJ : (mL k ds)[j]? = some (mk1 kk d) := by rw [hke.out]; exact mL_get hd
      obtain ⟨u0, u1, u2⟩ := rudCells_at HMJ
      obtain ⟨b, off, rfl, hbl, hc⟩ := (HR.out.below hb.out).some_ (by intro e; rw [e] at u0; simp at u0)
      have g0 := hc _ _ u0
      rw [mk1_vg] at u1
      rw [mk1_ve] at u2
      have g1 : wr.cell? ⟨b, off + j * 3 + 1, none⟩ = some d.vg := hc _ _ u1
      have g2 : wr.cell? ⟨b, off + j * 3 + 2, none⟩ = some d.ve := hc _ _ u2
      unfold RuD.vg at g1
      unfold RuD.ve at g2
      have HNJ := Lib.hid (HNN.out _ (List.mem_of_getElem? HMJ))
      have hbd := HBD.out d (List.mem_of_getElem? hd)
      obtain ⟨hgn, hen⟩ := hbd
      have HKN : Hid (kAt k ds (j + 1) = kk + rN d) := Lib.hid (by rw [kAt_succ hd, ← hke.out])
      have hkp : 0 < kk := by omega
      have hkb : kk ≤ 100000000000 := by omega
      clear hd HMJ u0 u1 u2 hc hbl
      obtain ⟨X, hX⟩ : ∃ X, X = mtx kk := ⟨_, rfl⟩
      have HX := Lib.hid hX
      rw [show (mk1 kk d).r.nm = X from hX.symm] at g0
      have HCT := Lib.hid (fun w' => c_markTextX kk w' hkp (by omega))
      rw [← hX] at HCT
      clear hX
      go_wp2_with (fail)
      refine wp_region_held_drew (S := (fun w' => w'.cell? ⟨b, off + j * 3, none⟩ = some (.string X))) (by kernel_rfl) ?_ (fun hHeld => ?_)
      · exact g0
      refine rg_take (v := ?_) 0 rfl (by kernel_rfl) (by kernel_rfl) (by kernel_rfl) (fun _ _ _ h => h) (by kernel_rfl) ?_ (by assumption) ?_
      rotate_left
      · (intro w' hSw; (try dsimp only at hSw); go_simp; first | done | with_reducible rfl)
      simp only [Act.put, List.setIfInBounds_toArray, List.set_cons_zero, List.set_cons_succ]
      refine rg_take (v := ?_) 1 rfl (by kernel_rfl) (by kernel_rfl) (by kernel_rfl) (fun _ _ _ h => h) (by kernel_rfl) ?_ (by assumption) ?_
      rotate_left
      · (intro w' hSw; (try dsimp only at hSw); go_simp; first | done | with_reducible rfl)
      simp only [Act.put, List.setIfInBounds_toArray, List.set_cons_zero, List.set_cons_succ]
      refine rg_take (v := ?_) 2 rfl (by kernel_rfl) (by kernel_rfl) (by kernel_rfl) (fun _ _ _ h => h) (by kernel_rfl) ?_ (by assumption) ?_
      rotate_left
      · (intro w' hSw; (try dsimp only at hSw); go_simp; first | done | with_reducible rfl)
      simp only [Act.put, List.setIfInBounds_toArray, List.set_cons_zero, List.set_cons_succ]
      refine rg_take (v := ?_) 3 rfl (by kernel_rfl) (by kernel_rfl) (by kernel_rfl) (fun _ _ _ h => h) (by kernel_rfl) ?_ (by assumption) ?_
      rotate_left
      · (intro w' hSw; (try dsimp only at hSw); go_simp; first | done | with_reducible rfl)
      simp only [Act.put, List.setIfInBounds_toArray, List.set_cons_zero, List.set_cons_succ]
      refine rg_take (v := ?_) 4 rfl (by kernel_rfl) (by kernel_rfl) (by kernel_rfl) (fun _ _ _ h => h) (by kernel_rfl) ?_ (by assumption) ?_
      rotate_left
      · (intro w' hSw; (try dsimp only at hSw); go_simp; first | done | with_reducible rfl)
      simp only [Act.put, List.setIfInBounds_toArray, List.set_cons_zero, List.set_cons_succ]
      refine rg_take (v := ?_) 5 rfl (by kernel_rfl) (by kernel_rfl) (by kernel_rfl) (fun _ _ _ h => h) (by kernel_rfl) ?_ (by assumption) ?_
      rotate_left
      · (intro w' hSw; (try dsimp only at hSw); go_simp; first | done | with_reducible rfl)
      simp only [Act.put, List.setIfInBounds_toArray, List.set_cons_zero, List.set_cons_succ]
      refine rg_run 6 rfl (by kernel_rfl) (by kernel_rfl) (fun K hK => ?_)
      go_simp
      refine (HCT.out _).mono ?_
      rintro e w2 ⟨rfl, hb2⟩
      have HS2 := Lib.hid (show Below wr.heap.size wr w2 from below_chain (Below.refl _ _).drew hb2)
      replace g0 := cell_later HS2.out g0
      replace g1 := cell_later HS2.out g1
      replace g2 := cell_later HS2.out g2
      have HB2 := Lib.hid (below_chain hb.out HS2.out)
      clear hb2 hb HS2
      go_wp2
      clear hHeld
      refine hK.out _ _ (by exact g0) (fun hHeld => ?_)
      clear hK K
      try simp only [Act.put, List.setIfInBounds_toArray, List.set_cons_zero, List.set_cons_succ]
      refine rg_take (v := ?_) 7 rfl (by kernel_rfl) (by kernel_rfl) (by kernel_rfl) (fun _ _ _ h => h) (by kernel_rfl) ?_ (by assumption) ?_
      rotate_left
      · (intro w' hSw; (try dsimp only at hSw); go_simp; first | done | with_reducible rfl)
      simp only [Act.put, List.setIfInBounds_toArray, List.set_cons_zero, List.set_cons_succ]
      refine wpAnyH_done (by kernel_rfl) ?_ _
      clear hHeld
      have hw1 : IntKind.i64.wrap ((kk : Int) + 1) = (kk : Int) + 1 := IntWalk.i64_in _ (by omega)
      have hxx : (X.toList != X.toList) = false := by simp
      have HNT : Hid (Rd w d.ag (tstCells (mTst (kk + 1) d.r.gs.length))) := Lib.hid HNJ.out.1
      have HNA : Hid (Rd w d.ae (asgCells (mAsg (kk + 1 + 3 * d.r.gs.length) d.r.es.length))) := Lib.hid HNJ.out.2
      clear HNJ g0
      go_wp2_with (fail)
      refine (c_heldTestSz d.ag d.cg d.r.gs.length (kk + 1) _ _ (by omega) (by omega) (by omega) (HNT.out.below HB2.out)).mono ?_
      rintro e w3 ⟨rfl, hb3⟩
      replace g1 := cell_later hb3 g1
      replace g2 := cell_later hb3 g2
      have HB3 := Lib.hid (below_chain HB2.out hb3)
      clear hb3 HB2
      obtain ⟨k4, hk4⟩ : ∃ k4, k4 = kk + 1 + 3 * d.r.gs.length := ⟨_, rfl⟩
      rw [← hk4] at HNA ⊢
      have hk4b : k4 ≤ 100000010000 := by omega
      have HK4 := Lib.hid hk4
      have hk40 : ¬ ((k4 : Int) < 0) := by omega
      clear hk4
      go_wp2_with (fail)
      refine (c_heldAssignS d.ae d.ce d.r.es.length k4 _ (by omega) (by omega) (HNA.out.below HB3.out)).mono ?_
      rintro e w5 ⟨rfl, hb5⟩
      have HB5 := Lib.hid (below_chain HB3.out hb5)
      obtain ⟨k5, hk5⟩ : ∃ k5, k5 = k4 + 2 * d.r.es.length := ⟨_, rfl⟩
      rw [← hk5]
      have HKE : Hid (k5 = kAt k ds (j + 1)) := Lib.hid (by rw [HKN.out, hk5, HK4.out]; unfold rN; omega)
      have hk51 : k5 ≤ k + (j + 1) * 5001 := by have h4 := HK4.out; omega
      have hk52 : k ≤ k5 := by have h4 := HK4.out; omega
      have hk50 : ¬ ((k5 : Int) < 0) := by omega
      clear hb5 HB3 hk5
      go_wp2_with (fail)
      go_roundw
      case rel => exact ⟨j + 1, k5, by omega, hk51, hk52, HKE, by go_num, rfl, HB5⟩
      case measure => simp [intOf]; omega
    · obtain rfl : j = n := by omega
      have HKJ : Hid ((kk : Nat) = kAt k ds j) := hke
      clear hke
      go_wp2
      go_ret
      exact ⟨by rw [← HKJ.out]; rfl, hb.out⟩
theorem c_markInt64Sz (A : Option Addr) (c n : Nat) (zs : List Int) (base k : Nat) (w : World) (hk : k + n ≤ 100000000) (ho : w.ownsRow base 2 1 (.slice A n c) n (ints zs)) :
    Calls Tryz.prog 32 #[.slice A n c, .int .i64 k] w fun e w' => e = .returned (.int .i64 ((k + n : Nat) : Int)) ∧ w'.ownsRow base 2 1 (.slice A n c) n (ints (markL k n)) ∧ w.grownBy w' (Value.slice A n c).ownBlock :=
  (c_markInt64S A c n zs base k w (by omega) (by omega) ho).mono fun e w' ⟨h, h2⟩ => ⟨by rw [h]; simp, h2⟩
theorem c_heldInt64Sz (A : Option Addr) (c n k : Nat) (w : World) (hk : k + n ≤ 100000000) (hr : Rd w A (ints (markL k n))) :
    Calls Tryz.prog 34 #[.slice A n c, .int .i64 k] w fun e w' => e = .returned (.int .i64 ((k + n : Nat) : Int)) ∧ Below w.heap.size w w' :=
  (c_heldInt64S A c n k w (by omega) (by omega) hr).mono fun e w' ⟨h, h2⟩ => ⟨by rw [h]; simp, h2⟩
/-- A model of few parts. -/
structure MdlB (m : Mdl) : Prop where
  z : m.sz.length ≤ 16
  t : m.st.length ≤ 16
  r : m.rs.length ≤ 200
  g : ∀ r ∈ m.rs, r.gs.length ≤ 24 ∧ r.es.length ≤ 4
/-- The end of the marks of a model. -/
def kM (m : Mdl) (ds : List RuD) : Nat := kAt (1 + m.sz.length + m.st.length) ds m.rs.length
/-- A model that is marked. -/
structure Mkd (w : World) (az ax ar : Option Addr) (m : Mdl) (ds : List RuD) : Prop where
  z : Rd w az (ints (markL (1 : Nat) m.sz.length))
  s : Rd w ax (ints (markL (1 + m.sz.length : Nat) m.st.length))
  r : Rd w ar (rudCells (mL (1 + m.sz.length + m.st.length) ds))
  d : ∀ d ∈ mL (1 + m.sz.length + m.st.length) ds, Rd w d.ag (tstCells d.r.gs) ∧ Rd w d.ae (asgCells d.r.es)
theorem Mkd.below {w w' : World} {az ax ar : Option Addr} {m : Mdl} {ds : List RuD} (h : Mkd w az ax ar m ds) (hb : Below w.heap.size w w') : Mkd w' az ax ar m ds :=
  ⟨h.z.below hb, h.s.below hb, h.r.below hb, fun d hd => ⟨(h.d d hd).1.below hb, (h.d d hd).2.below hb⟩⟩
set_option maxHeartbeats 2000000 in
set_option maxRecDepth 100000 in
theorem c_heldModel (m : Mdl) (az ax ar : Option Addr) (cz cs cr : Nat) (ds : List RuD) (w : World) (hN : MdlB m) (he : ds.map RuD.r = m.rs) (h : Mkd w az ax ar m ds) :
    Calls Tryz.prog 9 #[mv m az ax ar cz cs cr, .int .i64 1] w fun e w' => e = .returned (.int .i64 (kM m ds : Nat)) ∧ Below w.heap.size w w' := by
  have hz := hN.z
  have ht := hN.t
  have hr := hN.r
  have hl : ds.length = m.rs.length := by rw [← he, List.length_map]
  have hbd : ∀ d ∈ ds, d.r.gs.length ≤ 1000 ∧ d.r.es.length ≤ 1000 := fun d hd => by
    have := hN.g d.r (by rw [← he]; exact List.mem_map_of_mem hd)
    omega
  have H1 := Lib.hid h.z
  have H2 := Lib.hid h.s
  have H3 := Lib.hid h.r
  have H4 := Lib.hid h.d
  have HRU := Lib.hid (fun w' hr' hn' => c_heldRuleS ar cr m.rs.length (1 + m.sz.length + m.st.length) ds w' (by omega) (by omega) (by omega) hl hbd hr' hn')
  have HZZ := Lib.hid (fun w' hr' => c_heldInt64Sz az cz m.sz.length 1 w' (by omega) hr')
  have HSS := Lib.hid (fun w' hr' => c_heldInt64Sz ax cs m.st.length (1 + m.sz.length) w' (by omega) hr')
  have HKM : Hid (kM m ds = kAt (1 + m.sz.length + m.st.length) ds m.rs.length) := Lib.hid rfl
  rw [HKM.out]
  generalize kAt (1 + m.sz.length + m.st.length) ds m.rs.length = ke at *
  clear h hbd hl he
  dsimp only [mv]
  obtain ⟨k1, hk1⟩ : ∃ k1, k1 = 1 + m.sz.length := ⟨_, rfl⟩
  obtain ⟨k2, hk2⟩ : ∃ k2, k2 = 1 + m.sz.length + m.st.length := ⟨_, rfl⟩
  have h10 : ¬ ((k1 : Int) < 0) := by omega
  have h20 : ¬ ((k2 : Int) < 0) := by omega
  have h30 : ¬ ((ke : Int) < 0) := by omega
  rw [← hk2] at HRU H3 H4
  rw [← hk1] at HSS HZZ H2 hk2
  rw [← hk2] at HSS
  clear hk1 hk2
  go_enter Tryz.func9, Tryz.ntmps9
  go_wp2_with (fail)
  have HAB := Lib.hid (below_alloc (Below.refl w.heap.size w) (.cells #[.slice az m.sz.length cz, .slice ax m.st.length cs, .slice ar m.rs.length cr] 25))
  refine (HZZ.out _ (H1.out.below HAB.out)).mono ?_
  rintro e w1 ⟨rfl, hb⟩
  have k0 : w1.cell? ⟨w.heap.size, 1, none⟩ = some (.slice ax m.st.length cs) := cell_later hb (by go_simp)
  have k1' : w1.cell? ⟨w.heap.size, 2, none⟩ = some (.slice ar m.rs.length cr) := cell_later hb (by go_simp)
  have HB1 := Lib.hid (below_chain HAB.out hb)
  clear hb HAB HZZ
  go_wp2_with (fail)
  refine (HSS.out _ (H2.out.below HB1.out)).mono ?_
  rintro e w2 ⟨rfl, hb⟩
  replace k1' := cell_later hb k1'
  have HB2 := Lib.hid (below_chain HB1.out hb)
  clear hb HB1 HSS k0
  go_wp2_with (fail)
  refine (HRU.out _ (H3.out.below HB2.out) (fun d hd => ⟨(H4.out d hd).1.below HB2.out, (H4.out d hd).2.below HB2.out⟩)).mono ?_
  rintro e w3 ⟨rfl, hb⟩
  have HB3 := Lib.hid (below_chain HB2.out hb)
  clear hb HB2 HRU
  go_wp2_with (fail)
  go_ret
  exact ⟨rfl, HB3.out⟩
set_option maxHeartbeats 2000000 in
set_option maxRecDepth 100000 in
theorem c_markModelX (m : Mdl) (az ax ar : Option Addr) (cz cs cr base : Nat) (ds : List RuD) (w : World) (hN : MdlB m) (hbase : base ≤ w.heap.size) (ho : MOwn w base az ax ar cz cs cr m ds) (hsep : SepD ds) (hap : ∀ q, (Value.slice az m.sz.length cz).ownBlock = some q → (Value.slice ax m.st.length cs).ownBlock ≠ some q) :
    Calls Tryz.prog 8 #[mv m az ax ar cz cs cr, .int .i64 1] w fun e w' => e = .returned (.int .i64 (kM m ds : Nat)) ∧ Mkd w' az ax ar m ds ∧ Below base w w' ∧ (∀ (b2 : Nat) (e2 : TypeId) (s2 : Nat) (v2 : Value) (n2 : Nat) (x2 : List Value), e2 ≠ 45 → e2 ≠ 90 → e2 ≠ 47 → e2 ≠ 2 → w.ownsRow b2 e2 s2 v2 n2 x2 → w'.ownsRow b2 e2 s2 v2 n2 x2) := by
  have hz := hN.z
  have ht := hN.t
  have hr := hN.r
  have he := ho.e
  have hl : ds.length = m.rs.length := by rw [← he, List.length_map]
  have hbd : ∀ d ∈ ds, d.r.gs.length ≤ 1000 ∧ d.r.es.length ≤ 1000 := fun d hd => by
    have := hN.g d.r (by rw [← he]; exact List.mem_map_of_mem hd)
    omega
  have H := Lib.hid ho
  have HAP := Lib.hid hap
  have HBASE := Lib.hid hbase
  have HRU := Lib.hid (fun w' hb' hr' hn' => c_markRuleX ar cr m.rs.length base (1 + m.sz.length + m.st.length) ds w' (by omega) (by omega) (by omega) hl hbd hb' hsep hr' hn')
  have HZZ := Lib.hid (fun w' hr' => c_markInt64Sz az cz m.sz.length m.sz base 1 w' (by omega) hr')
  have HSS := Lib.hid (fun w' hr' => c_markInt64Sz ax cs m.st.length m.st base (1 + m.sz.length) w' (by omega) hr')
  have HKM : Hid (kM m ds = kAt (1 + m.sz.length + m.st.length) ds m.rs.length) := Lib.hid rfl
  have HMK : Hid (∀ w', Rd w' az (ints (markL (1 : Nat) m.sz.length)) → Rd w' ax (ints (markL (1 + m.sz.length : Nat) m.st.length)) → Rd w' ar (rudCells (mL (1 + m.sz.length + m.st.length) ds)) → (∀ d ∈ mL (1 + m.sz.length + m.st.length) ds, Rd w' d.ag (tstCells d.r.gs) ∧ Rd w' d.ae (asgCells d.r.es)) → Mkd w' az ax ar m ds) := Lib.hid (fun w' a b c d => ⟨a, b, c, d⟩)
  rw [HKM.out]
  generalize kAt (1 + m.sz.length + m.st.length) ds m.rs.length = ke at *
  clear ho hap hbd hl he hsep hbase
  dsimp only [mv]
  obtain ⟨k1, hk1⟩ : ∃ k1, k1 = 1 + m.sz.length := ⟨_, rfl⟩
  obtain ⟨k2, hk2⟩ : ∃ k2, k2 = 1 + m.sz.length + m.st.length := ⟨_, rfl⟩
  rw [← hk2] at HRU HMK
  rw [← hk1] at HSS HZZ HMK hk2
  rw [← hk2] at HSS
  clear hk1 hk2
  go_enter Tryz.func8, Tryz.ntmps8
  go_wp2_with (fail)
  have HAB := Lib.hid (below_alloc (Below.refl w.heap.size w) (.cells #[.slice az m.sz.length cz, .slice ax m.st.length cs, .slice ar m.rs.length cr] 25))
  have HBX : Hid (Box3 25 (w.alloc (.cells #[.slice az m.sz.length cz, .slice ax m.st.length cs, .slice ar m.rs.length cr] 25)) w.heap.size w.heap.size (.slice az m.sz.length cz) (.slice ax m.st.length cs) (.slice ar m.rs.length cr)) := Lib.hid (box3_new _ _ _)
  have HO1 := Lib.hid (H.out.below HAB.out)
  have HB0 := Lib.hid (HAB.out.mono HBASE.out)
  have HAL := HAB
  clear H HAB
  refine (HZZ.out _ HO1.out.z).mono ?_
  rintro e w1 ⟨rfl, hoz, hg⟩
  have HX1 : Hid (Box3 25 w1 w.heap.size w.heap.size (.slice az m.sz.length cz) (.slice ax m.st.length cs) (.slice ar m.rs.length cr)) := Lib.hid (own_aside HBX.out HO1.out.z (by decide) hg)
  have HZ1 := Lib.hid hoz
  have HS1 := Lib.hid (HO1.out.s.kept hg (by
    rcases hb : (Value.slice ax m.st.length cs).ownBlock with _ | q
    · exact .inl rfl
    · exact .inr (fun e => HAP.out q e.symm hb)))
  have HR1 := Lib.hid (own_aside HO1.out.r HO1.out.z (by decide) hg)
  have HN1 := Lib.hid (fun d hd => (HO1.out.d d hd).aside HO1.out.z (by decide) (by decide) hg)
  have HB1 := Lib.hid (below_grow HB0.out HBASE.out hg (fun q hq => (HO1.out.z.lt q hq).1))
  have HT1 : Hid (∀ (b2 : Nat) (e2 : TypeId) (s2 : Nat) (v2 : Value) (n2 : Nat) (x2 : List Value), e2 ≠ 45 → e2 ≠ 90 → e2 ≠ 47 → e2 ≠ 2 → w.ownsRow b2 e2 s2 v2 n2 x2 → w1.ownsRow b2 e2 s2 v2 n2 x2) := Lib.hid (fun b2 e2 s2 v2 n2 x2 h1 h2 h3 h4 h => own_aside (own_below h HAL.out) HO1.out.z h4 hg)
  clear hoz hg HBX HO1 HB0 HZZ HAL
  obtain ⟨_, k0, _⟩ := HX1.out.c
  go_wp2_with (fail)
  refine (HSS.out _ HS1.out).mono ?_
  rintro e w2 ⟨rfl, hos, hg⟩
  have HX2 : Hid (Box3 25 w2 w.heap.size w.heap.size (.slice az m.sz.length cz) (.slice ax m.st.length cs) (.slice ar m.rs.length cr)) := Lib.hid (own_aside HX1.out HS1.out (by decide) hg)
  have HS2 := Lib.hid hos
  have HZ2 := Lib.hid (HZ1.out.kept hg (by
    rcases hb : (Value.slice az m.sz.length cz).ownBlock with _ | q
    · exact .inl rfl
    · exact .inr (fun e => HAP.out q hb e.symm)))
  have HR2 := Lib.hid (own_aside HR1.out HS1.out (by decide) hg)
  have HN2 := Lib.hid (fun d hd => (HN1.out d hd).aside HS1.out (by decide) (by decide) hg)
  have HB2 := Lib.hid (below_grow HB1.out HBASE.out hg (fun q hq => (HS1.out.lt q hq).1))
  have HT2 : Hid (∀ (b2 : Nat) (e2 : TypeId) (s2 : Nat) (v2 : Value) (n2 : Nat) (x2 : List Value), e2 ≠ 45 → e2 ≠ 90 → e2 ≠ 47 → e2 ≠ 2 → w.ownsRow b2 e2 s2 v2 n2 x2 → w2.ownsRow b2 e2 s2 v2 n2 x2) := Lib.hid (fun b2 e2 s2 v2 n2 x2 h1 h2 h3 h4 h => own_aside (HT1.out b2 e2 s2 v2 n2 x2 h1 h2 h3 h4 h) HS1.out h4 hg)
  clear hos hg HX1 HS1 HZ1 HR1 HN1 HB1 HSS HT1 k0
  obtain ⟨_, _, k0, _⟩ := HX2.out.c
  go_wp2_with (fail)
  refine (HRU.out _ (Nat.le_trans HBASE.out HB2.out.size) HR2.out HN2.out).mono ?_
  rintro e w3 ⟨rfl, hor, hn3, hb, hgt⟩
  have HB3 := Lib.hid (HB2.out.trans hb)
  have HZ3 := Lib.hid (Rd.own (hgt _ _ _ _ _ _ (by decide) (by decide) (by decide) HZ2.out))
  have HS3 := Lib.hid (Rd.own (hgt _ _ _ _ _ _ (by decide) (by decide) (by decide) HS2.out))
  have HR3 := Lib.hid (Rd.own hor)
  have HN3 := Lib.hid (fun d hd => (hn3 d hd).rd)
  have HT3 : Hid (∀ (b2 : Nat) (e2 : TypeId) (s2 : Nat) (v2 : Value) (n2 : Nat) (x2 : List Value), e2 ≠ 45 → e2 ≠ 90 → e2 ≠ 47 → e2 ≠ 2 → w.ownsRow b2 e2 s2 v2 n2 x2 → w3.ownsRow b2 e2 s2 v2 n2 x2) := Lib.hid (fun b2 e2 s2 v2 n2 x2 h1 h2 h3 h4 h => hgt b2 e2 s2 v2 n2 x2 h1 h2 h3 (HT2.out b2 e2 s2 v2 n2 x2 h1 h2 h3 h4 h))
  clear hor hn3 hb hgt HX2 HS2 HZ2 HR2 HN2 HB2 HRU HT2 k0
  go_wp2_with (fail)
  go_ret
  exact ⟨rfl, HMK.out _ HZ3.out HS3.out HR3.out HN3.out, HB3.out, HT3.out⟩
end Go.Proofs.YtgpmglfcdbpgkaaGreatDoor
