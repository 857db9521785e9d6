/- Contracts and helpers (joined texts, part 4). The conditions stand at each theorem. -/
import Derived.Test.YtgpmglfcdbpgkaaGreatDoorH3
import Derived.Test.YtgpmglfcdbpgkaaGreatDoorH2
import Derived.Test.YtgpmglfcdbpgkaaGreatDoorMRcD
import Derived.Test.YtgpmglfcdbpgkaaGreatDoorPshM
/- ReadModel: a text as a model, on the program's side. Condition: the text's length; the library's variables hold what they are set to. -/
namespace Go.Proofs.YtgpmglfcdbpgkaaGreatDoor
open Go.RowKit

theorem c_trim (s : ByteArray) (w : World) (hs : s.size ≤ 1048576) : Calls Tryz.prog 25 #[.string s, .string ⟨#[10]⟩] w fun e w' => e = .returned (.string (bsT (Lib.trimSuffix s.data.toList [10]))) ∧ w' = w := sh_strings_TrimSuffix s ⟨#[10]⟩ w (by omega)
theorem below_drewM (w : World) (n : Nat) : Below w.heap.size w (w.drewN n) := below_drewN (Below.refl _ _) n
theorem c_cut (s : ByteArray) (w : World) (hs : s.size ≤ 1048576) (hG : Gw w) : Calls Tryz.prog 26 #[.string s, .string ⟨#[32]⟩] w fun e w' => ∃ b, e = .returned (.tuple #[.string (bsT (Lib.cut s.data.toList [32]).1), .string (bsT (Lib.cut s.data.toList [32]).2.1), .bool b]) ∧ Below w.heap.size w w' := by
  obtain ⟨m, hm⟩ := hG.m
  refine (sh_strings_Cut s ⟨#[32]⟩ m w (by omega) hm).mono ?_
  rintro e w' ⟨rfl, n, rfl⟩
  exact ⟨_, rfl, below_drewM w n⟩
theorem Rd.tailS {w : World} {b o : Nat} {x : List UInt8} {t : List (List UInt8)} (h : Rd w (some ⟨b, o, none⟩) (strs (x :: t))) : Rd w (some ⟨b, o + 1, none⟩) (strs t) := by
  obtain ⟨b', o', e, hb, hc⟩ := h.some_ (by simp [strs])
  simp only [Option.some.injEq, Addr.mk.injEq, and_true] at e
  obtain ⟨rfl, rfl⟩ := e
  refine .inr ⟨b, o + 1, rfl, hb, fun j u hu => ?_⟩
  have := hc (j + 1) u (by simpa [strs] using hu)
  rwa [show o + (j + 1) = o + 1 + j by omega] at this
set_option maxHeartbeats 4000000 in
set_option maxRecDepth 100000 in
theorem c_ReadModel (s : ByteArray) (w : World) (hs : s.size ≤ 1048576) (hG : Gw w) : Calls Tryz.prog 6 #[.string s] w (RetMS (readM s.data.toList) w) := by
  have hSL : s.data.toList.length = s.size := by simp
  have HBX : Hid (Box3 25 (w.alloc (.cells #[.slice none 0 0, .slice none 0 0, .slice none 0 0] 25)) w.heap.size w.heap.size (.slice none 0 0) (.slice none 0 0) (.slice none 0 0)) := Lib.hid (box3_new _ _ _)
  have HB0 := Lib.hid (below_alloc (Below.refl w.heap.size w) (.cells #[.slice none 0 0, .slice none 0 0, .slice none 0 0] 25))
  have HG0 := Lib.hid (hG.below HB0.out)
  obtain ⟨L, hLe⟩ : ∃ L, L = s.data.toList := ⟨_, rfl⟩
  have HTR := Lib.hid (fun w' => c_trim s w' hs)
  rw [← hLe] at hSL HTR ⊢
  have HLE := Lib.hid hLe
  clear hLe hG
  have HTL : Hid ((Lib.trimSuffix L [10]).length ≤ 1048576) := Lib.hid (by have := trim_len L [10]; omega)
  have HLI : Hid (linesI L = spl 10 (Lib.trimSuffix L [10])) := Lib.hid rfl
  have HME := Lib.hid (modelI_eq L)
  have HRN := Lib.hid (fun h => readM_none2 (s := L) h)
  have HRS := Lib.hid (fun m h => readM_some2 (s := L) (m := m) h)
  have HOK0 := Lib.hid (fun x y a b rs hx hy ha hb hr => readI_ok (s := L) (ls := linesI L) (x := x) (y := y) (a := a) (b := b) (rs := rs) (by omega) rfl hx hy ha hb hr)
  generalize readM L = V at *
  generalize modelI L = U at *
  rw [HLI.out] at HME HOK0
  generalize Lib.trimSuffix L [10] = tr at *
  have HSP := Lib.hid (fun w' => c_split (bsT tr) 10 w' (by rw [bsT_size]; exact HTL.out))
  rw [bsT_list] at HSP
  have HWL := Lib.hid (fun x (h : x ∈ spl 10 tr) => Nat.le_trans (spl_len x h) HTL.out)
  have HLC : Hid ((spl 10 tr).length ≤ 1048577) := Lib.hid (by have := spl_count 10 tr; have := HTL.out; omega)
  have HNN : Hid (spl 10 tr ≠ []) := Lib.hid (spl_ne 10 tr)
  clear HLI hSL HTL
  generalize spl 10 tr = ls at *
  obtain ⟨l0, lt, rfl⟩ : ∃ l0 lt, ls = l0 :: lt := by
    match ls, HNN.out with
    | l0 :: lt, _ => exact ⟨l0, lt, rfl⟩
  simp only [List.headD_cons, List.tail_cons] at HME HOK0
  go_enter Tryz.func6, Tryz.ntmps6
  go_upto_region 1 with (fail)
  generalize w.alloc (.cells #[.slice none 0 0, .slice none 0 0, .slice none 0 0] 25) = W at *
  go_wp2_with (fail)
  refine (HTR.out _).mono ?_
  rintro e w0 ⟨rfl, rfl⟩
  go_wp2_with (fail)
  refine (HSP.out _ HG0.out).mono ?_
  rintro e w1 ⟨Aw, cw, rfl, how, hb⟩
  have hcap := own_cap how
  have HRW := Lib.hid (Rd.own how)
  have HB1 := Lib.hid (below_chain HB0.out hb)
  have HX1 := Lib.hid (HBX.out.below hb)
  have HG1 := Lib.hid (HG0.out.below hb)
  clear how hb HB0 HBX HSP HG0 HTR HNN
  obtain ⟨ln, hln⟩ : ∃ ln, ln = (l0 :: lt).length := ⟨_, rfl⟩
  rw [← hln] at hcap ⊢
  have HLN : Hid (ln = lt.length + 1) := Lib.hid hln
  have hln0 : (0 : Int) < (ln : Int) := by rw [hln]; simp
  clear hln
  obtain ⟨b1, o1, rfl, hb1, y0⟩ := HRW.out.str (k := 0) rfl
  simp only [Nat.add_zero] at y0
  have hl0 := HWL.out l0 (by simp)
  have HCU := Lib.hid (fun w' => c_cut (bsT l0) w' (by rw [bsT_size]; omega))
  rw [bsT_list] at HCU
  have hcl := cut_len l0 [32]
  generalize (Lib.cut l0 [32]).1 = x at *
  generalize (Lib.cut l0 [32]).2.1 = y at *
  go_wp2_with (fail)
  refine (HCU.out _ HG1.out).mono ?_
  rintro e w2 ⟨bq, rfl, hb⟩
  have HRW2 := Lib.hid (HRW.out.below hb)
  have HB2 := Lib.hid (below_chain HB1.out hb)
  have HX2 := Lib.hid (HX1.out.below hb)
  have HG2 := Lib.hid (HG1.out.below hb)
  clear hb HB1 HX1 HCU HRW HG1 y0 hb1
  have hxl : x.length ≤ 1048576 := by omega
  have hyl : y.length ≤ 1048576 := by omega
  have HSX := Lib.hid (fun w' => c_split (bsT x) 44 w' (by rw [bsT_size]; omega))
  have HSY := Lib.hid (fun w' => c_split (bsT y) 44 w' (by rw [bsT_size]; omega))
  rw [bsT_list] at HSX HSY
  have HXM := Lib.hid (fun z (h : z ∈ spl 44 x) => Nat.le_trans (spl_len z h) hxl)
  have HYM := Lib.hid (fun z (h : z ∈ spl 44 y) => Nat.le_trans (spl_len z h) hyl)
  have HXC := Lib.hid (spl_count 44 x)
  have HYC := Lib.hid (spl_count 44 y)
  have HOK1 := Lib.hid (fun a b rs ha hb hr => HOK0.out x y a b rs hxl hyl ha hb hr)
  have HMF : Hid (U = match seqO rdI (spl 44 x) with
    | none => none
    | some a => match seqO rdI (spl 44 y) with
      | none => none
      | some b => match seqO ruleI lt with
        | none => none
        | some rs => some ⟨a, b, rs⟩) := Lib.hid HME.out
  clear HME HOK0 hcl
  generalize spl 44 x = xs at *
  generalize spl 44 y = ys at *
  go_wp2_with (fail)
  refine (HSX.out _ HG2.out).mono ?_
  rintro e w3 ⟨A3, c3, rfl, how, hb⟩
  have HR3 := Lib.hid (Rd.own how)
  have HRW3 := Lib.hid (HRW2.out.below hb)
  have HB3 := Lib.hid (below_chain HB2.out hb)
  have HX3 := Lib.hid (HX2.out.below hb)
  have HG3 := Lib.hid (HG2.out.below hb)
  clear how hb HB2 HX2 HSX HRW2 HG2
  go_wp2_with (fail)
  refine (c_readNumbers A3 c3 xs.length xs _ rfl (by have := HXC.out; omega) (fun z h => HXM.out z h) HR3.out HG3.out).mono ?_
  rintro e w4 hret
  obtain ⟨Az, zn, cz, qx, rfl, hq0, hq1, hq2, hb⟩ := hret.both
  have HRW4 := Lib.hid (HRW3.out.below hb)
  have HB4 := Lib.hid (below_chain HB3.out hb)
  have HX4 := Lib.hid (HX3.out.below hb)
  have HG4 := Lib.hid (HG3.out.below hb)
  have HQ0 := Lib.hid hq0
  have HQ1 := Lib.hid hq1
  have HQ2 := Lib.hid (fun zs e => own_mono (hq2 zs e) HB3.out.size)
  have HQL := Lib.hid (fun zs e q h => ((hq2 zs e).lt q h).2)
  clear hret hb HB3 HX3 HRW3 HR3 HG3 hq0 hq1 hq2
  go_wp2_with (fail)
  refine (HSY.out _ HG4.out).mono ?_
  rintro e w5 ⟨A5, c5, rfl, how, hb⟩
  have HR5 := Lib.hid (Rd.own how)
  have HRW5 := Lib.hid (HRW4.out.below hb)
  have HB5 := Lib.hid (below_chain HB4.out hb)
  have HX5 := Lib.hid (HX4.out.below hb)
  have HG5 := Lib.hid (HG4.out.below hb)
  have HQ5 := Lib.hid (fun zs e => own_below (HQ2.out zs e) hb)
  have HQM := Lib.hid (fun zs e q h => Nat.lt_of_lt_of_le (HQL.out zs e q h) hb.size)
  clear how hb HB4 HX4 HSY HRW4 HG4 HQ2
  go_wp2_with (fail)
  refine (c_readNumbers A5 c5 ys.length ys _ rfl (by have := HYC.out; omega) (fun z h => HYM.out z h) HR5.out HG5.out).mono ?_
  rintro e w6 hret
  obtain ⟨Ax, xn, cs, qy, rfl, hp0, hp1, hp2, hb⟩ := hret.both
  have HRW6 := Lib.hid (HRW5.out.below hb)
  have HB6 := Lib.hid (below_chain HB5.out hb)
  have HX6 := Lib.hid (HX5.out.below hb)
  have HG6 := Lib.hid (HG5.out.below hb)
  have HP0 := Lib.hid hp0
  have HP1 := Lib.hid hp1
  have HP2 := Lib.hid (fun zs e => own_mono (hp2 zs e) HB5.out.size)
  have HAQ := Lib.hid (fun zs zs' e e' q h (h' : (Value.slice Ax xn cs).ownBlock = some q) => Nat.lt_irrefl _ (Nat.lt_of_lt_of_le (HQM.out zs e q h) ((hp2 zs' e').lt q h').1))
  have HQ6 := Lib.hid (fun zs e => own_below (HQ5.out zs e) hb)
  clear hret hb HB5 HX5 HRW5 HR5 HG5 hp0 hp1 hp2 HQ5 HXM HYM HXC HYC
  generalize seqO rdI xs = ox at *
  generalize seqO rdI ys = oy at *
  by_cases hbad : qx = false ∨ qy = false
  · have HN : Hid (V = none) := Lib.hid (HRN.out (by
      rw [HMF.out]
      rcases hbad with h | h
      · rw [HQ0.out h]
      · rw [HP0.out h]
        cases ox <;> rfl))
    cases qx
    · clear hbad
      have HF := Lib.hid (Box3.set3 HX6.out (.slice none 0 0) (.slice none 0 0) (.slice none 0 0))
      have HBF := Lib.hid (below_put HB6.out (.slice none 0 0) (.slice none 0 0) (.slice none 0 0) (Nat.le_refl _))
      obtain ⟨v0, v1, v2, f0, f1, f2, _, _⟩ := HX6.out.c
      clear HMF HQ0 HQ1 HP0 HP1 HP2 HQ6 HB6 HX6 HRW6 HG6 HOK1 HAQ HQM HQL
      go_wp2_with (fail)
      change bodyPost _ _ _ _ _ (set3 w6 w.heap.size (.slice none 0 0) (.slice none 0 0) (.slice none 0 0))
      generalize set3 w6 w.heap.size (.slice none 0 0) (.slice none 0 0) (.slice none 0 0) = WF at HF HBF ⊢
      obtain ⟨r0, r1, r2, _⟩ := Box3.c HF.out.1
      clear f0 f1 f2 v0 v1 v2
      refine bodyPost_ret (v := .tuple #[.agg #[.slice none 0 0, .slice none 0 0, .slice none 0 0], .bool false]) (by simp [results, Tryz.results6, go_sem, r0, r1, r2]) rfl (retMS_none HN.out HBF.out)
    · obtain rfl : qy = false := by
        rcases hbad with h | h
        · cases h
        · exact h
      clear hbad
      have HF := Lib.hid (Box3.set3 HX6.out (.slice none 0 0) (.slice none 0 0) (.slice none 0 0))
      have HBF := Lib.hid (below_put HB6.out (.slice none 0 0) (.slice none 0 0) (.slice none 0 0) (Nat.le_refl _))
      obtain ⟨v0, v1, v2, f0, f1, f2, _, _⟩ := HX6.out.c
      clear HMF HQ0 HQ1 HP0 HP1 HP2 HQ6 HB6 HX6 HRW6 HG6 HOK1 HAQ HQM HQL
      go_wp2_with (fail)
      change bodyPost _ _ _ _ _ (set3 w6 w.heap.size (.slice none 0 0) (.slice none 0 0) (.slice none 0 0))
      generalize set3 w6 w.heap.size (.slice none 0 0) (.slice none 0 0) (.slice none 0 0) = WF at HF HBF ⊢
      obtain ⟨r0, r1, r2, _⟩ := Box3.c HF.out.1
      clear f0 f1 f2 v0 v1 v2
      refine bodyPost_ret (v := .tuple #[.agg #[.slice none 0 0, .slice none 0 0, .slice none 0 0], .bool false]) (by simp [results, Tryz.results6, go_sem, r0, r1, r2]) rfl (retMS_none HN.out HBF.out)
  obtain ⟨rfl, rfl⟩ : qx = true ∧ qy = true := by
    constructor
    · cases qx with | true => rfl | false => exact absurd (.inl rfl) hbad
    · cases qy with | true => rfl | false => exact absurd (.inr rfl) hbad
  obtain ⟨sz, rfl, rfl⟩ := HQ1.out rfl
  obtain ⟨st, rfl, rfl⟩ := HP1.out rfl
  have HUR : Hid (U = match seqO ruleI lt with | none => none | some rs => some ⟨sz, st, rs⟩) := Lib.hid HMF.out
  have HOK3 := Lib.hid (fun rs h => HOK1.out sz st rs rfl rfl h)
  have HZ0 := Lib.hid (HQ6.out sz rfl)
  have HS0 := Lib.hid (HP2.out st rfl)
  have HAP : Hid (∀ q, (Value.slice Az sz.length cz).ownBlock = some q → (Value.slice Ax st.length cs).ownBlock ≠ some q) := Lib.hid (fun q h h' => HAQ.out sz st rfl rfl q h h')
  have hlnb : ln ≤ 1048577 := by have := HLC.out; have := HLN.out; simp at *; omega
  have HBm : Hid (Box3 25 (w6.alloc (.cells #[.slice Az sz.length cz, .slice Ax st.length cs, .slice none 0 0] 25)) w6.heap.size w6.heap.size (.slice Az sz.length cz) (.slice Ax st.length cs) (.slice none 0 0)) := Lib.hid (box3_new _ _ _)
  have HBa := Lib.hid (below_alloc (Below.refl w6.heap.size w6) (.cells #[.slice Az sz.length cz, .slice Ax st.length cs, .slice none 0 0] 25))
  clear hbad HMF HOK1 HQ6 HP2 HQ0 HQ1 HP0 HP1 HAQ HQM HQL HLC hl0 hxl hyl
  go_upto_region 8 with (fail)
  generalize w6.alloc (.cells #[.slice Az sz.length cz, .slice Ax st.length cs, .slice none 0 0] 25) = W6 at *
  have HOR : Hid (W6.ownsRow w6.heap.size 45 3 (.slice none 0 0) 0 (rudCells [])) := Lib.hid (World.ownsRow_nil _ _ _ _)
  obtain ⟨hc1, hc2⟩ := hcap
  have hln1 : 1 ≤ ln := by omega
  have hcwb : cw ≤ 9223372036854775807 := Nat.le_trans hc2 (by decide)
  by_cases hcw1 : cw = 1
  · have HRT : Hid (Rd w6 (some ⟨b1, o1, none⟩) (strs lt)) := Lib.hid (by
      have : lt = [] := List.eq_nil_of_length_eq_zero (by have := HLN.out; omega)
      rw [this]
      exact .inl rfl)
    clear HRW6
    go_wp2_with (fail)
    obtain ⟨tn, htn⟩ : ∃ tn, tn = ln - 1 := ⟨_, rfl⟩
    rw [← htn]
    have HTN : Hid (tn = lt.length) := Lib.hid (by have := HLN.out; omega)
    have htnb : tn ≤ 1048577 := by omega
    clear htn hcw1
    go_loopw [14, 15, 16, 53] (fun _ _ _ i wr => ∃ (k : Nat) (A : Option Addr) (c : Nat) (ds : List RuD), k ≤ tn ∧ i = .int .i64 k ∧ Hid (ds.length = k) ∧ Hid (seqO ruleI (lt.take k) = some (ds.map RuD.r)) ∧ Hid (Box3 25 wr w6.heap.size w6.heap.size (.slice Az sz.length cz) (.slice Ax st.length cs) (.slice A k c)) ∧ Hid (wr.ownsRow w6.heap.size 45 3 (.slice A k c) k (rudCells ds)) ∧ Hid (∀ d ∈ ds, Nest wr w6.heap.size d) ∧ Hid (SepD ds) ∧ Hid (Below w6.heap.size w6 wr)) (fun _ _ _ i _ => tn - (intOf i).toNat)
    case atStart => exact ⟨0, _, _, [], Nat.zero_le _, rfl, Lib.hid rfl, Lib.hid rfl, HBm, HOR, Lib.hid (fun _ h => nomatch h), Lib.hid List.Pairwise.nil, HBa⟩
    case round =>
      obtain ⟨k, A, c, ds, hk, rfl, hds, hz, hx, ho, hnst, hsd, hb⟩ := hrel
      clear HOR HBa HBm
      by_cases hlt : k < tn
      · obtain ⟨x', hxk⟩ : ∃ z, lt[k]? = some z := ⟨_, List.getElem?_eq_getElem (by have := HTN.out; omega)⟩
        have hxl := HWL.out x' (List.mem_cons_of_mem _ (List.mem_of_getElem? hxk))
        obtain ⟨_, _, e1, _, g0⟩ := (HRT.out.below hb.out).str hxk
        simp only [Option.some.injEq, Addr.mk.injEq, and_true] at e1
        obtain ⟨rfl, rfl⟩ := e1
        have HXR := Lib.hid hxk
        have HC := Lib.hid (fun w' => c_readRule (bsT x') w' (by rw [bsT_size]; omega))
        rw [bsT_list] at HC
        have HGK := Lib.hid (HG6.out.below hb.out)
        have hk0 : (0 : Int) ≤ (k : Int) := by omega
        have hk1 : (k : Int) < (tn : Int) := by omega
        clear hxk
        go_wp2_with (fail)
        refine (HC.out _ HGK.out).mono ?_
        rintro e w7 hret
        obtain ⟨nm, Ag, gn, cg, Ae, en, ce, q, rfl, hq0, hq1, hq2, hb7⟩ := hret.both
        have HFn : Hid (Box3 45 (w7.alloc (.cells #[.string nm, .slice Ag gn cg, .slice Ae en ce] 45)) w7.heap.size w7.heap.size (.string nm) (.slice Ag gn cg) (.slice Ae en ce)) := Lib.hid (box3_new _ _ _)
        have hb8 := below_alloc (Below.refl w7.heap.size w7) (.cells #[.string nm, .slice Ag gn cg, .slice Ae en ce] 45)
        have hb78 := below_chain hb7 hb8
        have HB8 := Lib.hid (below_chain hb.out hb78)
        have HO8 := Lib.hid (own_below ho.out hb78)
        have HM8 := Lib.hid (hx.out.below hb78)
        have HN8 := Lib.hid (fun d h => (hnst.out d h).below hb78)
        have HD8 := Lib.hid (fun r h => ((hq2 r h).below hb8).mono (Nat.le_trans hb.out.size (Nat.le_refl _)))
        have HSN := Lib.hid (fun r h => sepD_snoc hsd.out hnst.out (hq2 r h))
        have HQ0 := Lib.hid hq0
        have HQ1 := Lib.hid hq1
        clear hret hq0 hq1 hq2 hb7 hb78 hb ho hx hnst g0 HC hb8 HGK
        go_upto_region 12 with (fail)
        generalize w7.alloc (.cells #[.string nm, .slice Ag gn cg, .slice Ae en ce] 45) = w8 at HFn HB8 HO8 HM8 HN8 HD8 ⊢
        cases q
        · have HN : Hid (V = none) := Lib.hid (HRN.out (by rw [HUR.out, seqO_bad (List.mem_of_getElem? HXR.out) (HQ0.out rfl)]))
          have HX8 := Lib.hid (HX6.out.below HB8.out)
          have HBW := Lib.hid (below_chain HB6.out HB8.out)
          have HF := Lib.hid (Box3.set3 HX8.out (.slice none 0 0) (.slice none 0 0) (.slice none 0 0))
          have HBF := Lib.hid (below_put HBW.out (.slice none 0 0) (.slice none 0 0) (.slice none 0 0) (Nat.le_refl _))
          obtain ⟨v0, v1, v2, f0, f1, f2, _, _⟩ := HX8.out.c
          clear HX8 HO8 HM8 HN8 HD8 HFn HQ0 HQ1 HX6 HB6 HB8
          go_wp2_with (fail)
          change bodyPost _ _ _ _ _ (set3 w8 w.heap.size (.slice none 0 0) (.slice none 0 0) (.slice none 0 0))
          generalize set3 w8 w.heap.size (.slice none 0 0) (.slice none 0 0) (.slice none 0 0) = WF at HF HBF ⊢
          obtain ⟨r0, r1, r2, _⟩ := Box3.c HF.out.1
          clear f0 f1 f2 v0 v1 v2
          refine bodyPost_ret (v := .tuple #[.agg #[.slice none 0 0, .slice none 0 0, .slice none 0 0], .bool false]) (by simp [results, Tryz.results6, go_sem, r0, r1, r2]) rfl (retMS_none HN.out HBF.out)
        · obtain ⟨r, hr, rfl, rfl, rfl⟩ := HQ1.out rfl
          have HZ2 : Hid (seqO ruleI (lt.take (k + 1)) = some ((ds ++ [(⟨r, Ag, cg, Ae, ce⟩ : RuD)]).map RuD.r)) := Lib.hid (by
            rw [List.take_add_one, HXR.out, List.map_append]
            exact seqO_snoc hz.out hr)
          have HDR := Lib.hid (HD8.out r hr)
          have HSN2 := Lib.hid (HSN.out r hr)
          obtain ⟨q0, q1, q2, _, _, _, _, _⟩ := HFn.out.c
          obtain ⟨_, _, n2, _, _, fn2, _, _⟩ := HM8.out.c
          have HAL := Lib.hid (below_alloc (Below.refl w8.heap.size w8) (.cells #[.string r.nm, .slice Ag r.gs.length cg, .slice Ae r.es.length ce] 45))
          clear hr HQ0 HQ1 HD8 HFn HSN
          go_wp2_with (first
            | (at_builtin
               refine wpList_push_rul _ rfl (.tmp 66) (.tmp 68) rfl w6.heap.size (.slice A k c) k ds ⟨r, Ag, cg, Ae, ce⟩ w8.heap.size 1 rfl (own_below HO8.out HAL.out) rfl (by go_simp) (by dsimp only [RuD.vg]; go_simp) (by dsimp only [RuD.ve]; go_simp) (by omega) (Nat.le_trans HB8.out.size HAL.out.size) ?_
               intro v9 w9 hown hgrow
               obtain ⟨A9, c9, rfl⟩ := own_shape hown
               have HO8A := own_below HO8.out HAL.out
               have hx9 : Box3 25 w9 w6.heap.size w6.heap.size (.slice Az sz.length cz) (.slice Ax st.length cs) (.slice A k c) := own_aside (own_below HM8.out HAL.out) HO8A (by decide) hgrow
               have HX9 := Lib.hid (hx9.set2 (.slice A9 (k + 1) c9))
               have hx9' : w9.ownsRow w6.heap.size 25 1 (.slice (some ⟨w6.heap.size, 0, none⟩) 3 3) 3 [.slice Az sz.length cz, .slice Ax st.length cs, .slice A k c] := hx9
               have HO9 := Lib.hid (own_aside hown hx9' (by decide) HX9.out.2)
               have HN9 : Hid (∀ d ∈ ds ++ [(⟨r, Ag, cg, Ae, ce⟩ : RuD)], Nest (w9.setCell ⟨w6.heap.size, 2, none⟩ (.slice A9 (k + 1) c9)) w6.heap.size d) := Lib.hid (fun d hd => by
                 refine Nest.aside ?_ hx9' (by decide) (by decide) HX9.out.2
                 rcases List.mem_append.1 hd with hd | hd
                 · exact ((HN8.out d hd).below HAL.out).aside HO8A (by decide) (by decide) hgrow
                 · rw [List.mem_singleton] at hd
                   subst hd
                   exact (HDR.out.below HAL.out).aside HO8A (by decide) (by decide) hgrow)
               have hb9 := below_of_grown (below_chain HB8.out HAL.out) hgrow (fun p hp => (HO8.out.lt p hp).1)
               have HB9 := Lib.hid (below_set hb9 (p := ⟨w6.heap.size, 2, none⟩) (.slice A9 (k + 1) c9) (Nat.le_refl _))
               obtain ⟨_, _, n2', _, _, fn2', _, _⟩ := hx9.c
               clear hown hgrow HO8A HO8 HN8 HB8 HAL HDR HM8 hx9 hx9' hb9 n2 fn2)
            )
          generalize w9.setCell ⟨w6.heap.size, 2, none⟩ (.slice A9 (k + 1) c9) = w10 at HX9 HO9 HN9 HB9 ⊢
          go_roundw
          case rel => exact ⟨k + 1, A9, c9, ds ++ [(⟨r, Ag, cg, Ae, ce⟩ : RuD)], by omega, by go_num, Lib.hid (by rw [List.length_append, hds.out]; rfl), HZ2, Lib.hid HX9.out.1, HO9, HN9, HSN2, HB9⟩
          case measure => simp [intOf]; omega
      · obtain rfl : k = tn := by omega
        have HT : Hid (seqO ruleI lt = some (ds.map RuD.r)) := Lib.hid (by rw [← hz.out, List.take_of_length_le (by have := HTN.out; omega)])
        have HU : Hid (U = some ⟨sz, st, ds.map RuD.r⟩) := Lib.hid (by rw [HUR.out, HT.out])
        have HOK := Lib.hid (HOK3.out _ HT.out)
        have HVV := Lib.hid (HRS.out _ HU.out)
        obtain rfl : k = (ds.map RuD.r).length := by rw [List.length_map]; exact hds.out.symm
        have HMO : Hid (MOwn wr w.heap.size Az Ax A cz cs c ⟨sz, st, ds.map RuD.r⟩ ds) := Lib.hid ⟨own_below HZ0.out hb.out, own_below HS0.out hb.out, own_mono ho.out HB6.out.size, rfl, fun d hd => (hnst.out d hd).mono HB6.out.size⟩
        have HSD := hsd
        have HX7 := Lib.hid (HX6.out.below hb.out)
        have HB7 := Lib.hid (below_chain HB6.out hb.out)
        have HG7 := Lib.hid (HG6.out.below hb.out)
        obtain ⟨p0, p1, p2, _, _, _, _, _⟩ := hx.out.c
        clear hb hnst hsd ho hx HX6 HB6 HZ0 HS0 hz hds hk HT HU HUR HRN HRS HWL HOK3 HRT hlt HG6 HTN htnb
        obtain ⟨rs, hrs⟩ : ∃ rs, rs = ds.map RuD.r := ⟨_, rfl⟩
        rw [← hrs] at HVV HOK HMO p2 ⊢
        clear hrs
        have HIM := Lib.hid (c_IsModel ⟨sz, st, rs⟩ Az Ax A cz cs c wr HOK.out HMO.out.md)
        cases hmd : mdB ⟨sz, st, rs⟩ with
        | false =>
          have HN : Hid (V = none) := Lib.hid (by rw [HVV.out, if_neg (by rw [hmd]; simp)])
          rw [hmd] at HIM
          clear hmd
          go_wp2_with (fail)
          refine HIM.out.mono ?_
          rintro e w9 ⟨rfl, hb⟩
          have HX8 := Lib.hid (HX7.out.below hb)
          have HBW := Lib.hid (below_chain HB7.out hb)
          clear p0 p1 p2 hb
          have HF := Lib.hid (Box3.set3 HX8.out (.slice none 0 0) (.slice none 0 0) (.slice none 0 0))
          have HBF := Lib.hid (below_put HBW.out (.slice none 0 0) (.slice none 0 0) (.slice none 0 0) (Nat.le_refl _))
          obtain ⟨v0, v1, v2, f0, f1, f2, _, _⟩ := HX8.out.c
          clear HX8 HBW HX7 HB7 HMO HVV HIM
          go_wp2_with (fail)
          change bodyPost _ _ _ _ _ (set3 w9 w.heap.size (.slice none 0 0) (.slice none 0 0) (.slice none 0 0))
          generalize set3 w9 w.heap.size (.slice none 0 0) (.slice none 0 0) (.slice none 0 0) = WF at HF HBF ⊢
          obtain ⟨r0, r1, r2, _⟩ := Box3.c HF.out.1
          clear f0 f1 f2 v0 v1 v2
          refine bodyPost_ret (v := .tuple #[.agg #[.slice none 0 0, .slice none 0 0, .slice none 0 0], .bool false]) (by simp [results, Tryz.results6, go_sem, r0, r1, r2]) rfl (retMS_none HN.out HBF.out)
        | true =>
          have HNN := Lib.hid (valid_N hmd)
          have HV2 : Hid (V = if txModel ⟨sz, st, rs⟩ = L then some ⟨sz, st, rs⟩ else none) := Lib.hid (by rw [HVV.out, hmd]; simp)
          rw [hmd] at HIM
          clear hmd HVV
          go_wp2_with (fail)
          refine HIM.out.mono ?_
          rintro e w9 ⟨rfl, hb⟩
          replace p0 := cell_later hb p0
          replace p1 := cell_later hb p1
          replace p2 := cell_later hb p2
          have HM9 := Lib.hid (HMO.out.below hb)
          have HXX := Lib.hid (HX7.out.below hb)
          have HB99 := Lib.hid (below_chain HB7.out hb)
          have HTX := Lib.hid (c_modelText ⟨sz, st, rs⟩ Az Ax A cz cs c w9 HNN.out HM9.out.md (HG7.out.below hb).p)
          clear hb HIM HMO HX7 HB7 HG7
          go_wp2_with (fail)
          refine HTX.out.mono ?_
          rintro e w10 ⟨t, rfl, ht, hb⟩
          have HM10 := Lib.hid (HM9.out.below hb)
          have HXX10 := Lib.hid (HXX.out.below hb)
          have HB10 := Lib.hid (below_chain HB99.out hb)
          replace p0 := cell_later hb p0
          replace p1 := cell_later hb p1
          replace p2 := cell_later hb p2
          have HTT := Lib.hid ht
          clear hb HM9 HXX HB99 HTX ht
          by_cases heq : txModel ⟨sz, st, rs⟩ = L
          · have HVS : Hid (V = some ⟨sz, st, rs⟩) := Lib.hid (by rw [HV2.out, if_pos heq])
            have hqq : (t.toList == s.toList) = true := by rw [str_eq, HTT.out, heq, HLE.out]; simp
            have hqn : (t.toList != s.toList) = false := by rw [bne, hqq]; rfl
            have HF := Lib.hid (Box3.set3 HXX10.out (.slice Az sz.length cz) (.slice Ax st.length cs) (.slice A rs.length c))
            have HBF := Lib.hid (below_put HB10.out (.slice Az sz.length cz) (.slice Ax st.length cs) (.slice A rs.length c) (Nat.le_refl _))
            have HMF := Lib.hid (HM10.out.boxed HXX10.out (x' := .slice Az sz.length cz) (y' := .slice Ax st.length cs) (z' := .slice A rs.length c))
            obtain ⟨v0, v1, v2, f0, f1, f2, _, _⟩ := HXX10.out.c
            clear heq HM10 HXX10 HB10 HV2 HTT
            go_wp2_with (fail)
            change bodyPost _ _ _ _ _ (set3 w10 w.heap.size (.slice Az sz.length cz) (.slice Ax st.length cs) (.slice A rs.length c))
            generalize set3 w10 w.heap.size (.slice Az sz.length cz) (.slice Ax st.length cs) (.slice A rs.length c) = WF at HF HBF HMF ⊢
            obtain ⟨r0, r1, r2, _⟩ := Box3.c HF.out.1
            clear f0 f1 f2 v0 v1 v2
            refine bodyPost_ret (v := .tuple #[.agg #[.slice Az sz.length cz, .slice Ax st.length cs, .slice A rs.length c], .bool true]) (by simp [results, Tryz.results6, go_sem, r0, r1, r2]) rfl (retMS_some HVS.out HMF.out HSD.out HAP.out HBF.out)
          · have HN : Hid (V = none) := Lib.hid (by rw [HV2.out, if_neg heq])
            have hqq : (t.toList == s.toList) = false := by rw [str_eq, HTT.out, ← HLE.out]; simpa using heq
            have hqn : (t.toList != s.toList) = true := by rw [bne, hqq]; rfl
            clear heq
            have HF := Lib.hid (Box3.set3 HXX10.out (.slice none 0 0) (.slice none 0 0) (.slice none 0 0))
            have HBF := Lib.hid (below_put HB10.out (.slice none 0 0) (.slice none 0 0) (.slice none 0 0) (Nat.le_refl _))
            obtain ⟨v0, v1, v2, f0, f1, f2, _, _⟩ := HXX10.out.c
            clear HM10 HXX10 HB10 HV2 HTT
            go_wp2_with (fail)
            change bodyPost _ _ _ _ _ (set3 w10 w.heap.size (.slice none 0 0) (.slice none 0 0) (.slice none 0 0))
            generalize set3 w10 w.heap.size (.slice none 0 0) (.slice none 0 0) (.slice none 0 0) = WF at HF HBF ⊢
            obtain ⟨r0, r1, r2, _⟩ := Box3.c HF.out.1
            clear f0 f1 f2 v0 v1 v2
            refine bodyPost_ret (v := .tuple #[.agg #[.slice none 0 0, .slice none 0 0, .slice none 0 0], .bool false]) (by simp [results, Tryz.results6, go_sem, r0, r1, r2]) rfl (retMS_none HN.out HBF.out)
  · have hcw2 : 1 < cw := by omega
    have HRT : Hid (Rd w6 (some ⟨b1, o1 + 1, none⟩) (strs lt)) := Lib.hid HRW6.out.tailS
    clear HRW6
    go_wp2_with (fail)
    obtain ⟨tn, htn⟩ : ∃ tn, tn = ln - 1 := ⟨_, rfl⟩
    rw [← htn]
    have HTN : Hid (tn = lt.length) := Lib.hid (by have := HLN.out; omega)
    have htnb : tn ≤ 1048577 := by omega
    clear htn hcw1
    go_loopw [14, 15, 16, 53] (fun _ _ _ i wr => ∃ (k : Nat) (A : Option Addr) (c : Nat) (ds : List RuD), k ≤ tn ∧ i = .int .i64 k ∧ Hid (ds.length = k) ∧ Hid (seqO ruleI (lt.take k) = some (ds.map RuD.r)) ∧ Hid (Box3 25 wr w6.heap.size w6.heap.size (.slice Az sz.length cz) (.slice Ax st.length cs) (.slice A k c)) ∧ Hid (wr.ownsRow w6.heap.size 45 3 (.slice A k c) k (rudCells ds)) ∧ Hid (∀ d ∈ ds, Nest wr w6.heap.size d) ∧ Hid (SepD ds) ∧ Hid (Below w6.heap.size w6 wr)) (fun _ _ _ i _ => tn - (intOf i).toNat)
    case atStart => exact ⟨0, _, _, [], Nat.zero_le _, rfl, Lib.hid rfl, Lib.hid rfl, HBm, HOR, Lib.hid (fun _ h => nomatch h), Lib.hid List.Pairwise.nil, HBa⟩
    case round =>
      obtain ⟨k, A, c, ds, hk, rfl, hds, hz, hx, ho, hnst, hsd, hb⟩ := hrel
      clear HOR HBa HBm
      by_cases hlt : k < tn
      · obtain ⟨x', hxk⟩ : ∃ z, lt[k]? = some z := ⟨_, List.getElem?_eq_getElem (by have := HTN.out; omega)⟩
        have hxl := HWL.out x' (List.mem_cons_of_mem _ (List.mem_of_getElem? hxk))
        obtain ⟨_, _, e1, _, g0⟩ := (HRT.out.below hb.out).str hxk
        simp only [Option.some.injEq, Addr.mk.injEq, and_true] at e1
        obtain ⟨rfl, rfl⟩ := e1
        have HXR := Lib.hid hxk
        have HC := Lib.hid (fun w' => c_readRule (bsT x') w' (by rw [bsT_size]; omega))
        rw [bsT_list] at HC
        have HGK := Lib.hid (HG6.out.below hb.out)
        have hk0 : (0 : Int) ≤ (k : Int) := by omega
        have hk1 : (k : Int) < (tn : Int) := by omega
        clear hxk
        go_wp2_with (fail)
        refine (HC.out _ HGK.out).mono ?_
        rintro e w7 hret
        obtain ⟨nm, Ag, gn, cg, Ae, en, ce, q, rfl, hq0, hq1, hq2, hb7⟩ := hret.both
        have HFn : Hid (Box3 45 (w7.alloc (.cells #[.string nm, .slice Ag gn cg, .slice Ae en ce] 45)) w7.heap.size w7.heap.size (.string nm) (.slice Ag gn cg) (.slice Ae en ce)) := Lib.hid (box3_new _ _ _)
        have hb8 := below_alloc (Below.refl w7.heap.size w7) (.cells #[.string nm, .slice Ag gn cg, .slice Ae en ce] 45)
        have hb78 := below_chain hb7 hb8
        have HB8 := Lib.hid (below_chain hb.out hb78)
        have HO8 := Lib.hid (own_below ho.out hb78)
        have HM8 := Lib.hid (hx.out.below hb78)
        have HN8 := Lib.hid (fun d h => (hnst.out d h).below hb78)
        have HD8 := Lib.hid (fun r h => ((hq2 r h).below hb8).mono (Nat.le_trans hb.out.size (Nat.le_refl _)))
        have HSN := Lib.hid (fun r h => sepD_snoc hsd.out hnst.out (hq2 r h))
        have HQ0 := Lib.hid hq0
        have HQ1 := Lib.hid hq1
        clear hret hq0 hq1 hq2 hb7 hb78 hb ho hx hnst g0 HC hb8 HGK
        go_upto_region 12 with (fail)
        generalize w7.alloc (.cells #[.string nm, .slice Ag gn cg, .slice Ae en ce] 45) = w8 at HFn HB8 HO8 HM8 HN8 HD8 ⊢
        cases q
        · have HN : Hid (V = none) := Lib.hid (HRN.out (by rw [HUR.out, seqO_bad (List.mem_of_getElem? HXR.out) (HQ0.out rfl)]))
          have HX8 := Lib.hid (HX6.out.below HB8.out)
          have HBW := Lib.hid (below_chain HB6.out HB8.out)
          have HF := Lib.hid (Box3.set3 HX8.out (.slice none 0 0) (.slice none 0 0) (.slice none 0 0))
          have HBF := Lib.hid (below_put HBW.out (.slice none 0 0) (.slice none 0 0) (.slice none 0 0) (Nat.le_refl _))
          obtain ⟨v0, v1, v2, f0, f1, f2, _, _⟩ := HX8.out.c
          clear HX8 HO8 HM8 HN8 HD8 HFn HQ0 HQ1 HX6 HB6 HB8
          go_wp2_with (fail)
          change bodyPost _ _ _ _ _ (set3 w8 w.heap.size (.slice none 0 0) (.slice none 0 0) (.slice none 0 0))
          generalize set3 w8 w.heap.size (.slice none 0 0) (.slice none 0 0) (.slice none 0 0) = WF at HF HBF ⊢
          obtain ⟨r0, r1, r2, _⟩ := Box3.c HF.out.1
          clear f0 f1 f2 v0 v1 v2
          refine bodyPost_ret (v := .tuple #[.agg #[.slice none 0 0, .slice none 0 0, .slice none 0 0], .bool false]) (by simp [results, Tryz.results6, go_sem, r0, r1, r2]) rfl (retMS_none HN.out HBF.out)
        · obtain ⟨r, hr, rfl, rfl, rfl⟩ := HQ1.out rfl
          have HZ2 : Hid (seqO ruleI (lt.take (k + 1)) = some ((ds ++ [(⟨r, Ag, cg, Ae, ce⟩ : RuD)]).map RuD.r)) := Lib.hid (by
            rw [List.take_add_one, HXR.out, List.map_append]
            exact seqO_snoc hz.out hr)
          have HDR := Lib.hid (HD8.out r hr)
          have HSN2 := Lib.hid (HSN.out r hr)
          obtain ⟨q0, q1, q2, _, _, _, _, _⟩ := HFn.out.c
          obtain ⟨_, _, n2, _, _, fn2, _, _⟩ := HM8.out.c
          have HAL := Lib.hid (below_alloc (Below.refl w8.heap.size w8) (.cells #[.string r.nm, .slice Ag r.gs.length cg, .slice Ae r.es.length ce] 45))
          clear hr HQ0 HQ1 HD8 HFn HSN
          go_wp2_with (first
            | (at_builtin
               refine wpList_push_rul _ rfl (.tmp 66) (.tmp 68) rfl w6.heap.size (.slice A k c) k ds ⟨r, Ag, cg, Ae, ce⟩ w8.heap.size 1 rfl (own_below HO8.out HAL.out) rfl (by go_simp) (by dsimp only [RuD.vg]; go_simp) (by dsimp only [RuD.ve]; go_simp) (by omega) (Nat.le_trans HB8.out.size HAL.out.size) ?_
               intro v9 w9 hown hgrow
               obtain ⟨A9, c9, rfl⟩ := own_shape hown
               have HO8A := own_below HO8.out HAL.out
               have hx9 : Box3 25 w9 w6.heap.size w6.heap.size (.slice Az sz.length cz) (.slice Ax st.length cs) (.slice A k c) := own_aside (own_below HM8.out HAL.out) HO8A (by decide) hgrow
               have HX9 := Lib.hid (hx9.set2 (.slice A9 (k + 1) c9))
               have hx9' : w9.ownsRow w6.heap.size 25 1 (.slice (some ⟨w6.heap.size, 0, none⟩) 3 3) 3 [.slice Az sz.length cz, .slice Ax st.length cs, .slice A k c] := hx9
               have HO9 := Lib.hid (own_aside hown hx9' (by decide) HX9.out.2)
               have HN9 : Hid (∀ d ∈ ds ++ [(⟨r, Ag, cg, Ae, ce⟩ : RuD)], Nest (w9.setCell ⟨w6.heap.size, 2, none⟩ (.slice A9 (k + 1) c9)) w6.heap.size d) := Lib.hid (fun d hd => by
                 refine Nest.aside ?_ hx9' (by decide) (by decide) HX9.out.2
                 rcases List.mem_append.1 hd with hd | hd
                 · exact ((HN8.out d hd).below HAL.out).aside HO8A (by decide) (by decide) hgrow
                 · rw [List.mem_singleton] at hd
                   subst hd
                   exact (HDR.out.below HAL.out).aside HO8A (by decide) (by decide) hgrow)
               have hb9 := below_of_grown (below_chain HB8.out HAL.out) hgrow (fun p hp => (HO8.out.lt p hp).1)
               have HB9 := Lib.hid (below_set hb9 (p := ⟨w6.heap.size, 2, none⟩) (.slice A9 (k + 1) c9) (Nat.le_refl _))
               obtain ⟨_, _, n2', _, _, fn2', _, _⟩ := hx9.c
               clear hown hgrow HO8A HO8 HN8 HB8 HAL HDR HM8 hx9 hx9' hb9 n2 fn2)
            )
          generalize w9.setCell ⟨w6.heap.size, 2, none⟩ (.slice A9 (k + 1) c9) = w10 at HX9 HO9 HN9 HB9 ⊢
          go_roundw
          case rel => exact ⟨k + 1, A9, c9, ds ++ [(⟨r, Ag, cg, Ae, ce⟩ : RuD)], by omega, by go_num, Lib.hid (by rw [List.length_append, hds.out]; rfl), HZ2, Lib.hid HX9.out.1, HO9, HN9, HSN2, HB9⟩
          case measure => simp [intOf]; omega
      · obtain rfl : k = tn := by omega
        have HT : Hid (seqO ruleI lt = some (ds.map RuD.r)) := Lib.hid (by rw [← hz.out, List.take_of_length_le (by have := HTN.out; omega)])
        have HU : Hid (U = some ⟨sz, st, ds.map RuD.r⟩) := Lib.hid (by rw [HUR.out, HT.out])
        have HOK := Lib.hid (HOK3.out _ HT.out)
        have HVV := Lib.hid (HRS.out _ HU.out)
        obtain rfl : k = (ds.map RuD.r).length := by rw [List.length_map]; exact hds.out.symm
        have HMO : Hid (MOwn wr w.heap.size Az Ax A cz cs c ⟨sz, st, ds.map RuD.r⟩ ds) := Lib.hid ⟨own_below HZ0.out hb.out, own_below HS0.out hb.out, own_mono ho.out HB6.out.size, rfl, fun d hd => (hnst.out d hd).mono HB6.out.size⟩
        have HSD := hsd
        have HX7 := Lib.hid (HX6.out.below hb.out)
        have HB7 := Lib.hid (below_chain HB6.out hb.out)
        have HG7 := Lib.hid (HG6.out.below hb.out)
        obtain ⟨p0, p1, p2, _, _, _, _, _⟩ := hx.out.c
        clear hb hnst hsd ho hx HX6 HB6 HZ0 HS0 hz hds hk HT HU HUR HRN HRS HWL HOK3 HRT hlt HG6 HTN htnb
        obtain ⟨rs, hrs⟩ : ∃ rs, rs = ds.map RuD.r := ⟨_, rfl⟩
        rw [← hrs] at HVV HOK HMO p2 ⊢
        clear hrs
        have HIM := Lib.hid (c_IsModel ⟨sz, st, rs⟩ Az Ax A cz cs c wr HOK.out HMO.out.md)
        cases hmd : mdB ⟨sz, st, rs⟩ with
        | false =>
          have HN : Hid (V = none) := Lib.hid (by rw [HVV.out, if_neg (by rw [hmd]; simp)])
          rw [hmd] at HIM
          clear hmd
          go_wp2_with (fail)
          refine HIM.out.mono ?_
          rintro e w9 ⟨rfl, hb⟩
          have HX8 := Lib.hid (HX7.out.below hb)
          have HBW := Lib.hid (below_chain HB7.out hb)
          clear p0 p1 p2 hb
          have HF := Lib.hid (Box3.set3 HX8.out (.slice none 0 0) (.slice none 0 0) (.slice none 0 0))
          have HBF := Lib.hid (below_put HBW.out (.slice none 0 0) (.slice none 0 0) (.slice none 0 0) (Nat.le_refl _))
          obtain ⟨v0, v1, v2, f0, f1, f2, _, _⟩ := HX8.out.c
          clear HX8 HBW HX7 HB7 HMO HVV HIM
          go_wp2_with (fail)
          change bodyPost _ _ _ _ _ (set3 w9 w.heap.size (.slice none 0 0) (.slice none 0 0) (.slice none 0 0))
          generalize set3 w9 w.heap.size (.slice none 0 0) (.slice none 0 0) (.slice none 0 0) = WF at HF HBF ⊢
          obtain ⟨r0, r1, r2, _⟩ := Box3.c HF.out.1
          clear f0 f1 f2 v0 v1 v2
          refine bodyPost_ret (v := .tuple #[.agg #[.slice none 0 0, .slice none 0 0, .slice none 0 0], .bool false]) (by simp [results, Tryz.results6, go_sem, r0, r1, r2]) rfl (retMS_none HN.out HBF.out)
        | true =>
          have HNN := Lib.hid (valid_N hmd)
          have HV2 : Hid (V = if txModel ⟨sz, st, rs⟩ = L then some ⟨sz, st, rs⟩ else none) := Lib.hid (by rw [HVV.out, hmd]; simp)
          rw [hmd] at HIM
          clear hmd HVV
          go_wp2_with (fail)
          refine HIM.out.mono ?_
          rintro e w9 ⟨rfl, hb⟩
          replace p0 := cell_later hb p0
          replace p1 := cell_later hb p1
          replace p2 := cell_later hb p2
          have HM9 := Lib.hid (HMO.out.below hb)
          have HXX := Lib.hid (HX7.out.below hb)
          have HB99 := Lib.hid (below_chain HB7.out hb)
          have HTX := Lib.hid (c_modelText ⟨sz, st, rs⟩ Az Ax A cz cs c w9 HNN.out HM9.out.md (HG7.out.below hb).p)
          clear hb HIM HMO HX7 HB7 HG7
          go_wp2_with (fail)
          refine HTX.out.mono ?_
          rintro e w10 ⟨t, rfl, ht, hb⟩
          have HM10 := Lib.hid (HM9.out.below hb)
          have HXX10 := Lib.hid (HXX.out.below hb)
          have HB10 := Lib.hid (below_chain HB99.out hb)
          replace p0 := cell_later hb p0
          replace p1 := cell_later hb p1
          replace p2 := cell_later hb p2
          have HTT := Lib.hid ht
          clear hb HM9 HXX HB99 HTX ht
          by_cases heq : txModel ⟨sz, st, rs⟩ = L
          · have HVS : Hid (V = some ⟨sz, st, rs⟩) := Lib.hid (by rw [HV2.out, if_pos heq])
            have hqq : (t.toList == s.toList) = true := by rw [str_eq, HTT.out, heq, HLE.out]; simp
            have hqn : (t.toList != s.toList) = false := by rw [bne, hqq]; rfl
            have HF := Lib.hid (Box3.set3 HXX10.out (.slice Az sz.length cz) (.slice Ax st.length cs) (.slice A rs.length c))
            have HBF := Lib.hid (below_put HB10.out (.slice Az sz.length cz) (.slice Ax st.length cs) (.slice A rs.length c) (Nat.le_refl _))
            have HMF := Lib.hid (HM10.out.boxed HXX10.out (x' := .slice Az sz.length cz) (y' := .slice Ax st.length cs) (z' := .slice A rs.length c))
            obtain ⟨v0, v1, v2, f0, f1, f2, _, _⟩ := HXX10.out.c
            clear heq HM10 HXX10 HB10 HV2 HTT
            go_wp2_with (fail)
            change bodyPost _ _ _ _ _ (set3 w10 w.heap.size (.slice Az sz.length cz) (.slice Ax st.length cs) (.slice A rs.length c))
            generalize set3 w10 w.heap.size (.slice Az sz.length cz) (.slice Ax st.length cs) (.slice A rs.length c) = WF at HF HBF HMF ⊢
            obtain ⟨r0, r1, r2, _⟩ := Box3.c HF.out.1
            clear f0 f1 f2 v0 v1 v2
            refine bodyPost_ret (v := .tuple #[.agg #[.slice Az sz.length cz, .slice Ax st.length cs, .slice A rs.length c], .bool true]) (by simp [results, Tryz.results6, go_sem, r0, r1, r2]) rfl (retMS_some HVS.out HMF.out HSD.out HAP.out HBF.out)
          · have HN : Hid (V = none) := Lib.hid (by rw [HV2.out, if_neg heq])
            have hqq : (t.toList == s.toList) = false := by rw [str_eq, HTT.out, ← HLE.out]; simpa using heq
            have hqn : (t.toList != s.toList) = true := by rw [bne, hqq]; rfl
            clear heq
            have HF := Lib.hid (Box3.set3 HXX10.out (.slice none 0 0) (.slice none 0 0) (.slice none 0 0))
            have HBF := Lib.hid (below_put HB10.out (.slice none 0 0) (.slice none 0 0) (.slice none 0 0) (Nat.le_refl _))
            obtain ⟨v0, v1, v2, f0, f1, f2, _, _⟩ := HXX10.out.c
            clear HM10 HXX10 HB10 HV2 HTT
            go_wp2_with (fail)
            change bodyPost _ _ _ _ _ (set3 w10 w.heap.size (.slice none 0 0) (.slice none 0 0) (.slice none 0 0))
            generalize set3 w10 w.heap.size (.slice none 0 0) (.slice none 0 0) (.slice none 0 0) = WF at HF HBF ⊢
            obtain ⟨r0, r1, r2, _⟩ := Box3.c HF.out.1
            clear f0 f1 f2 v0 v1 v2
            refine bodyPost_ret (v := .tuple #[.agg #[.slice none 0 0, .slice none 0 0, .slice none 0 0], .bool false]) (by simp [results, Tryz.results6, go_sem, r0, r1, r2]) rfl (retMS_none HN.out HBF.out)
end Go.Proofs.YtgpmglfcdbpgkaaGreatDoor

/- ReadModel: a text as a model, on the reference's side. Condition: the text's length. -/
namespace Go.Proofs.YtgpmglfcdbpgkaaGreatDoor
open Go.RowKit

set_option maxHeartbeats 4000000 in
set_option maxRecDepth 100000 in
theorem c_sReadModel (s : ByteArray) (w : World) (hs : s.size ≤ 1048576) : Calls Tryz.prog 5 #[.string s] w (RetMO (readM s.data.toList) w) := by
  have hSL : s.data.toList.length = s.size := by simp
  have HBX : Hid (Box3 25 (w.alloc (.cells #[.slice none 0 0, .slice none 0 0, .slice none 0 0] 25)) w.heap.size w.heap.size (.slice none 0 0) (.slice none 0 0) (.slice none 0 0)) := Lib.hid (box3_new _ _ _)
  have HB0 := Lib.hid (below_alloc (Below.refl w.heap.size w) (.cells #[.slice none 0 0, .slice none 0 0, .slice none 0 0] 25))
  have HSP := Lib.hid (fun w' => c_l01Split s 10 w' hs)
  obtain ⟨L, hLe⟩ : ∃ L, L = s.data.toList := ⟨_, rfl⟩
  rw [← hLe] at HSP hSL ⊢
  have HLE := Lib.hid hLe
  clear hLe
  have HNT := Lib.hid (fun h => readM_none (modelS_not (s := L) h))
  have HTH := Lib.hid (fun x y h => modelS_two (x := x) (y := y) (s := L) h)
  have HOKM := Lib.hid (fun x y a b rs h ha hb hr => read_ok (s := L) (x := x) (y := y) (a := a) (b := b) (rs := rs) (by omega) h ha hb hr)
  have HNE := Lib.hid (fun x y h => spl_nil_head (s := L) (x := x) (y := y) h)
  have HRN := Lib.hid (fun h => readM_none (s := L) h)
  have HRS := Lib.hid (fun m h hne => readM_some (s := L) (m := m) h hne)
  have HWL := Lib.hid (fun x (h : x ∈ spl 10 L) => spl_len x h)
  have HLL : Hid ((spl 10 L).length ≤ 1048577) := Lib.hid (by have := spl_count 10 L; omega)
  have HNN : Hid (spl 10 L ≠ []) := Lib.hid (spl_ne 10 L)
  rw [hSL] at HWL
  generalize readM L = V at *
  generalize modelS L = U at *
  generalize spl 10 L = ls at *
  clear hSL
  go_enter Tryz.func5, Tryz.ntmps5
  go_upto_region 1 with (fail)
  generalize w.alloc (.cells #[.slice none 0 0, .slice none 0 0, .slice none 0 0] 25) = W at *
  go_wp2_with (fail)
  refine (HSP.out _).mono ?_
  rintro e w1 ⟨Aw, cw, rfl, how, hb⟩
  have HRW := Lib.hid (Rd.own how)
  have HB1 := Lib.hid (below_chain HB0.out hb)
  have HX1 := Lib.hid (HBX.out.below hb)
  clear how hb HB0 HBX HSP
  obtain ⟨l0, lt, rfl⟩ : ∃ l0 lt, ls = l0 :: lt := by
    match ls, HNN.out with
    | l0 :: lt, _ => exact ⟨l0, lt, rfl⟩
  obtain ⟨ln, hln⟩ : ∃ ln, ln = (l0 :: lt).length := ⟨_, rfl⟩
  rw [← hln]
  have HLN := Lib.hid hln
  have hln0 : (0 : Int) < (ln : Int) := by rw [hln]; simp
  clear hln
  obtain ⟨b1, o1, rfl, hb1, y0⟩ := HRW.out.str (k := 0) rfl
  simp only [Nat.add_zero] at y0
  have hl0 := HWL.out l0 (by simp)
  have HSH := Lib.hid (fun w' => c_l01Split (bsT l0) 32 w' (by rw [bsT_size]; omega))
  rw [bsT_list] at HSH
  simp only [List.headD_cons] at HNT HTH HOKM HNE
  have HHM := Lib.hid (fun x (h : x ∈ spl 32 l0) => spl_len x h)
  go_wp2_with (fail)
  refine (HSH.out _).mono ?_
  rintro e w2 ⟨Ah, ch, rfl, how, hb⟩
  have HRH := Lib.hid (Rd.own how)
  have HRW2 := Lib.hid (HRW.out.below hb)
  have HB2 := Lib.hid (below_chain HB1.out hb)
  have HX2 := Lib.hid (HX1.out.below hb)
  clear how hb HB1 HX1 HSH HRW y0 hb1
  generalize spl 32 l0 = hd at *
  obtain ⟨hn, hhn⟩ : ∃ hn, hn = hd.length := ⟨_, rfl⟩
  rw [← hhn]
  by_cases h2 : ¬ hd.length = 2
  · have HN : Hid (V = none) := Lib.hid (HNT.out h2)
    have hq : ((hn : Int) != 2) = true := by simp; omega
    have HF := Lib.hid (Box3.set3 HX2.out (.slice none 0 0) (.slice none 0 0) (.slice none 0 0))
    have HBF := Lib.hid (below_put HB2.out (.slice none 0 0) (.slice none 0 0) (.slice none 0 0) (Nat.le_refl _))
    obtain ⟨v0, v1, v2, f0, f1, f2, _, _⟩ := HX2.out.c
    clear h2 hhn HNT HTH HWL HB2 HRW2 HRH HOKM HNE HRN HRS
    go_wp2_with (fail)
    change bodyPost _ _ _ _ _ (set3 w2 w.heap.size (.slice none 0 0) (.slice none 0 0) (.slice none 0 0))
    generalize set3 w2 w.heap.size (.slice none 0 0) (.slice none 0 0) (.slice none 0 0) = WF at HF HBF ⊢
    obtain ⟨r0, r1, r2, _⟩ := Box3.c HF.out.1
    clear f0 f1 f2 v0 v1 v2
    refine bodyPost_ret (v := .tuple #[.agg #[.slice none 0 0, .slice none 0 0, .slice none 0 0], .bool false]) (by simp [results, Tryz.results5, go_sem, r0, r1, r2]) rfl (retMO_none HN.out HBF.out)
  replace h2 := Decidable.not_not.1 h2
  obtain ⟨x, y, rfl⟩ : ∃ x y, hd = [x, y] := by
    match hd, h2 with
    | [x, y], _ => exact ⟨x, y, rfl⟩
  have hxl := HHM.out x (by simp)
  have hyl := HHM.out y (by simp)
  have HUU := Lib.hid (HTH.out x y rfl)
  have HNE2 := Lib.hid (HNE.out x y rfl)
  have HOK2 := Lib.hid (fun a b rs ha hb hr => HOKM.out x y a b rs rfl ha hb hr)
  obtain ⟨b2, o2, rfl, _, x0⟩ := HRH.out.str (k := 0) rfl
  obtain ⟨_, _, e1, _, x1⟩ := HRH.out.str (k := 1) rfl
  simp only [Option.some.injEq, Addr.mk.injEq, and_true] at e1
  obtain ⟨rfl, rfl⟩ := e1
  simp only [Nat.add_zero] at x0
  have HSX := Lib.hid (fun w' => c_l01Split (bsT x) 44 w' (by rw [bsT_size]; omega))
  have HSY := Lib.hid (fun w' => c_l01Split (bsT y) 44 w' (by rw [bsT_size]; omega))
  rw [bsT_list] at HSX HSY
  have HXM := Lib.hid (fun z (h : z ∈ spl 44 x) => spl_len z h)
  have HYM := Lib.hid (fun z (h : z ∈ spl 44 y) => spl_len z h)
  have HXC := Lib.hid (spl_count 44 x)
  have HYC := Lib.hid (spl_count 44 y)
  simp only [List.length_cons, List.length_nil, Nat.zero_add, Nat.reduceAdd] at hhn
  subst hhn
  clear h2 HTH HNE HOKM HNT HHM HRH
  generalize spl 44 x = xs at *
  generalize spl 44 y = ys at *
  have hxl2 : x.length ≤ 1048576 := by omega
  have hyl2 : y.length ≤ 1048576 := by omega
  go_wp2_with (fail)
  refine (HSX.out _).mono ?_
  rintro e w3 ⟨A3, c3, rfl, how, hb⟩
  have HR3 := Lib.hid (Rd.own how)
  have HRW3 := Lib.hid (HRW2.out.below hb)
  have HB3 := Lib.hid (below_chain HB2.out hb)
  have HX3 := Lib.hid (HX2.out.below hb)
  replace x1 := cell_later hb x1
  clear how hb HB2 HX2 HSX HRW2 x0
  go_wp2_with (fail)
  refine (c_l01Numbers A3 c3 xs.length xs _ rfl (by have := HXC.out; omega) (fun z h => Nat.le_trans (HXM.out z h) (by omega)) HR3.out).mono ?_
  rintro e w4 hret
  obtain ⟨Az, zn, cz, qx, rfl, hq0, hq1, hq2, hb⟩ := hret.both
  have HRW4 := Lib.hid (HRW3.out.below hb)
  have HB4 := Lib.hid (below_chain HB3.out hb)
  have HX4 := Lib.hid (HX3.out.below hb)
  have HQ0 := Lib.hid hq0
  have HQ1 := Lib.hid hq1
  have HQ2 := Lib.hid (fun zs e => own_mono (hq2 zs e) HB3.out.size)
  replace x1 := cell_later hb x1
  clear hret hb HB3 HX3 HRW3 HR3 hq0 hq1 hq2
  go_wp2_with (fail)
  refine (HSY.out _).mono ?_
  rintro e w5 ⟨A5, c5, rfl, how, hb⟩
  have HR5 := Lib.hid (Rd.own how)
  have HRW5 := Lib.hid (HRW4.out.below hb)
  have HB5 := Lib.hid (below_chain HB4.out hb)
  have HX5 := Lib.hid (HX4.out.below hb)
  have HQ5 := Lib.hid (fun zs e => own_below (HQ2.out zs e) hb)
  clear how hb HB4 HX4 HSY HRW4 x1 HQ2
  go_wp2_with (fail)
  refine (c_l01Numbers A5 c5 ys.length ys _ rfl (by have := HYC.out; omega) (fun z h => Nat.le_trans (HYM.out z h) (by omega)) HR5.out).mono ?_
  rintro e w6 hret
  obtain ⟨Ax, xn, cs, qy, rfl, hp0, hp1, hp2, hb⟩ := hret.both
  have HRW6 := Lib.hid (HRW5.out.below hb)
  have HB6 := Lib.hid (below_chain HB5.out hb)
  have HX6 := Lib.hid (HX5.out.below hb)
  have HP0 := Lib.hid hp0
  have HP1 := Lib.hid hp1
  have HP2 := Lib.hid (fun zs e => own_mono (hp2 zs e) HB5.out.size)
  have HQ6 := Lib.hid (fun zs e => own_below (HQ5.out zs e) hb)
  clear hret hb HB5 HX5 HRW5 HR5 hp0 hp1 hp2 HQ5 HXM HYM HXC HYC
  have HUV : Hid (U = match seqO sgnS xs with
    | none => none
    | some a => match seqO sgnS ys with
      | none => none
      | some b => match seqO ruleS (lt.dropLast) with
        | none => none
        | some rs => some ⟨a, b, rs⟩) := HUU
  clear HUU
  generalize seqO sgnS xs = ox at *
  generalize seqO sgnS ys = oy at *
  by_cases hbad : qx = false ∨ qy = false
  · have HN : Hid (V = none) := Lib.hid (HRN.out (by
      rw [HUV.out]
      rcases hbad with h | h
      · rw [HQ0.out h]
      · rw [HP0.out h]
        cases ox <;> rfl))
    have HF := Lib.hid (Box3.set3 HX6.out (.slice none 0 0) (.slice none 0 0) (.slice none 0 0))
    have HBF := Lib.hid (below_put HB6.out (.slice none 0 0) (.slice none 0 0) (.slice none 0 0) (Nat.le_refl _))
    obtain ⟨v0, v1, v2, f0, f1, f2, _, _⟩ := HX6.out.c
    clear HUV HQ0 HQ1 HP0 HP1 HP2 HQ6 HB6 HX6 HRW6
    cases qx
    · clear hbad
      go_wp2_with (fail)
      change bodyPost _ _ _ _ _ (set3 w6 w.heap.size (.slice none 0 0) (.slice none 0 0) (.slice none 0 0))
      generalize set3 w6 w.heap.size (.slice none 0 0) (.slice none 0 0) (.slice none 0 0) = WF at HF HBF ⊢
      obtain ⟨r0, r1, r2, _⟩ := Box3.c HF.out.1
      clear f0 f1 f2 v0 v1 v2
      refine bodyPost_ret (v := .tuple #[.agg #[.slice none 0 0, .slice none 0 0, .slice none 0 0], .bool false]) (by simp [results, Tryz.results5, go_sem, r0, r1, r2]) rfl (retMO_none HN.out HBF.out)
    · obtain rfl : qy = false := by
        rcases hbad with h | h
        · cases h
        · exact h
      clear hbad
      go_wp2_with (fail)
      change bodyPost _ _ _ _ _ (set3 w6 w.heap.size (.slice none 0 0) (.slice none 0 0) (.slice none 0 0))
      generalize set3 w6 w.heap.size (.slice none 0 0) (.slice none 0 0) (.slice none 0 0) = WF at HF HBF ⊢
      obtain ⟨r0, r1, r2, _⟩ := Box3.c HF.out.1
      clear f0 f1 f2 v0 v1 v2
      refine bodyPost_ret (v := .tuple #[.agg #[.slice none 0 0, .slice none 0 0, .slice none 0 0], .bool false]) (by simp [results, Tryz.results5, go_sem, r0, r1, r2]) rfl (retMO_none HN.out HBF.out)
  obtain ⟨rfl, rfl⟩ : qx = true ∧ qy = true := by
    constructor
    · cases qx with | true => rfl | false => exact absurd (.inl rfl) hbad
    · cases qy with | true => rfl | false => exact absurd (.inr rfl) hbad
  obtain ⟨sz, rfl, rfl⟩ := HQ1.out rfl
  obtain ⟨st, rfl, rfl⟩ := HP1.out rfl
  obtain ⟨rl, hrl⟩ : ∃ rl, rl = lt.dropLast := ⟨_, rfl⟩
  have HUR : Hid (U = match seqO ruleS rl with | none => none | some rs => some ⟨sz, st, rs⟩) := Lib.hid (by rw [HUV.out, hrl])
  have HRL : Hid (rl.length = ln - 2) := Lib.hid (by rw [hrl, List.length_dropLast, HLN.out]; rfl)
  have HRA : Hid (∀ k, k + 2 < ln → rl[k]? = (l0 :: lt)[k + 1]?) := Lib.hid (by
    intro k hk
    rw [HLN.out] at hk
    rw [hrl, List.getElem?_cons_succ, List.getElem?_dropLast, if_pos (by simp at hk; omega)])
  have HOK3 := Lib.hid (fun rs h => HOK2.out sz st rs rfl rfl (by rw [List.tail_cons, ← hrl]; exact h))
  have HZ0 := Lib.hid (HQ6.out sz rfl)
  have HS0 := Lib.hid (HP2.out st rfl)
  have hlnb : ln ≤ 1048577 := by have := HLL.out; rw [HLN.out]; exact this
  have HOR : Hid ((w6.alloc (.cells #[] 45)).ownsRow w6.heap.size 45 3 (.slice (some ⟨w6.heap.size, 0, none⟩) 0 0) 0 (rudCells [])) := Lib.hid (by
    have h := World.ownsRow_made (e := 45) (size := 3) (base := w6.heap.size) w6 #[] 0 (Nat.le_refl _) (Nat.zero_le _) rfl
    simpa [rudCells] using h)
  have HBa := Lib.hid (below_alloc (Below.refl w6.heap.size w6) (.cells #[] 45))
  clear hbad HUV hrl HOK2 HQ6 HP2 HQ0 HQ1 HP0 HP1 hxl hyl hxl2 hyl2 HLL HNN hl0
  go_upto_region 10 with (fail)
  generalize w6.alloc (.cells #[] 45) = W6 at *
  go_wp2_with (fail)
  go_loopw [10, 11, 12, 13] (fun v i _ _ wr => ∃ (k j : Nat) (A : Option Addr) (c : Nat) (ds : List RuD), i = .int .i64 j ∧ v = .slice A k c ∧ j = k + 1 ∧ Hid (k ≤ ln - 2) ∧ Hid (ds.length = k) ∧ Hid (seqO ruleS (rl.take k) = some (ds.map RuD.r)) ∧ Hid (wr.ownsRow w6.heap.size 45 3 (.slice A k c) k (rudCells ds)) ∧ Hid (∀ d ∈ ds, Nest wr w6.heap.size d) ∧ Hid (Below w6.heap.size w6 wr)) (fun _ i _ _ _ => ln - (intOf i).toNat)
  case atStart => exact ⟨0, 1, _, _, [], rfl, rfl, rfl, Lib.hid (Nat.zero_le _), Lib.hid rfl, Lib.hid rfl, HOR, Lib.hid (fun _ h => nomatch h), HBa⟩
  case round =>
    obtain ⟨k, j, A, c, ds, rfl, rfl, hj, hk, hds, hz, ho, hnst, hb⟩ := hrel
    clear HOR HBa
    obtain ⟨j1, hj1⟩ : ∃ j1, j1 = j + 1 := ⟨_, rfl⟩
    have hjb : j ≤ 1048578 := by have := hk.out; omega
    have hw1 : IntKind.i64.wrap ((j : Int) + 1) = (j1 : Int) := by rw [IntWalk.i64_in _ (by omega)]; omega
    have HJ := Lib.hid hj
    have HJ1 := Lib.hid hj1
    by_cases hlt : j1 < ln
    · obtain ⟨x, hx⟩ : ∃ z, (l0 :: lt)[j]? = some z := ⟨_, List.getElem?_eq_getElem (by have := HLN.out; omega)⟩
      have HXR : Hid (rl[k]? = some x) := Lib.hid (by rw [HRA.out k (by omega), ← hj]; exact hx)
      have hxl := HWL.out x (List.mem_of_getElem? hx)
      obtain ⟨_, _, e1, _, g0⟩ := (HRW6.out.below hb.out).str hx
      simp only [Option.some.injEq, Addr.mk.injEq, and_true] at e1
      obtain ⟨rfl, rfl⟩ := e1
      have HC := Lib.hid (fun w' => c_l20ReadRule (bsT x) w' (by rw [bsT_size]; omega))
      rw [bsT_list] at HC
      have hk0 : (0 : Int) ≤ (j : Int) := by omega
      have hk1 : (j : Int) < (ln : Int) := by omega
      have hk2 : (j1 : Int) < (ln : Int) := by omega
      clear hx hj hj1 hlt
      go_wp2_with (fail)
      refine (HC.out _).mono ?_
      rintro e w7 hret
      obtain ⟨nm, Ag, gn, cg, Ae, en, ce, q, rfl, hq0, hq1, hq2, hb7⟩ := hret.both
      have HFn : Hid (Box3 45 (w7.alloc (.cells #[.string nm, .slice Ag gn cg, .slice Ae en ce] 45)) w7.heap.size w7.heap.size (.string nm) (.slice Ag gn cg) (.slice Ae en ce)) := Lib.hid (box3_new _ _ _)
      have hb8 := below_alloc (Below.refl w7.heap.size w7) (.cells #[.string nm, .slice Ag gn cg, .slice Ae en ce] 45)
      have hb78 := below_chain hb7 hb8
      have HB8 := Lib.hid (below_chain hb.out hb78)
      have HO8 := Lib.hid (own_below ho.out hb78)
      have HN8 := Lib.hid (fun d h => (hnst.out d h).below hb78)
      have HD8 := Lib.hid (fun r h => ((hq2 r h).below hb8).mono (Nat.le_trans hb.out.size (Nat.le_refl _)))
      have HQ0 := Lib.hid hq0
      have HQ1 := Lib.hid hq1
      clear hret hq0 hq1 hq2 hb7 hb78 hb ho hnst g0 HC hb8
      go_upto_region 14 with (fail)
      generalize w7.alloc (.cells #[.string nm, .slice Ag gn cg, .slice Ae en ce] 45) = w8 at HFn HB8 HO8 HN8 HD8 ⊢
      cases q
      · have HN : Hid (V = none) := Lib.hid (HRN.out (by rw [HUR.out, seqO_bad (List.mem_of_getElem? HXR.out) (HQ0.out rfl)]))
        have HX8 := Lib.hid (HX6.out.below HB8.out)
        have HF := Lib.hid (Box3.set3 HX8.out (.slice none 0 0) (.slice none 0 0) (.slice none 0 0))
        have HBF := Lib.hid (below_put (below_chain HB6.out HB8.out) (.slice none 0 0) (.slice none 0 0) (.slice none 0 0) (Nat.le_refl _))
        obtain ⟨v0, v1, v2, f0, f1, f2, _, _⟩ := HX8.out.c
        clear HX8 HO8 HN8 HD8 HFn HQ0 HQ1 HX6 HB6 HB8
        go_wp2_with (fail)
        change bodyPost _ _ _ _ _ (set3 w8 w.heap.size (.slice none 0 0) (.slice none 0 0) (.slice none 0 0))
        generalize set3 w8 w.heap.size (.slice none 0 0) (.slice none 0 0) (.slice none 0 0) = WF at HF HBF ⊢
        obtain ⟨r0, r1, r2, _⟩ := Box3.c HF.out.1
        clear f0 f1 f2 v0 v1 v2
        refine bodyPost_ret (v := .tuple #[.agg #[.slice none 0 0, .slice none 0 0, .slice none 0 0], .bool false]) (by simp [results, Tryz.results5, go_sem, r0, r1, r2]) rfl (retMO_none HN.out HBF.out)
      · obtain ⟨r, hr, rfl, rfl, rfl⟩ := HQ1.out rfl
        have HZ2 : Hid (seqO ruleS (rl.take (k + 1)) = some ((ds ++ [(⟨r, Ag, cg, Ae, ce⟩ : RuD)]).map RuD.r)) := Lib.hid (by
          rw [List.take_add_one, HXR.out, List.map_append]
          exact seqO_snoc hz.out hr)
        have HDR := Lib.hid (HD8.out r hr)
        obtain ⟨q0, q1, q2, _, _, _, _, _⟩ := HFn.out.c
        have HAL := Lib.hid (below_alloc (Below.refl w8.heap.size w8) (.cells #[.string r.nm, .slice Ag r.gs.length cg, .slice Ae r.es.length ce] 45))
        clear hr HQ0 HQ1 HD8 HFn
        go_wp2_with (first
          | (at_builtin
             refine wpList_push_rul _ rfl (.tmp 67) (.tmp 69) rfl w6.heap.size (.slice A k c) k ds ⟨r, Ag, cg, Ae, ce⟩ w8.heap.size 1 rfl (own_below HO8.out HAL.out) rfl (by go_simp) (by dsimp only [RuD.vg]; go_simp) (by dsimp only [RuD.ve]; go_simp) (by have := hk.out; omega) (Nat.le_trans HB8.out.size HAL.out.size) ?_
             intro v9 w9 hown hgrow
             obtain ⟨A9, c9, rfl⟩ := own_shape hown
             have HO9 := Lib.hid hown
             have HO8A := own_below HO8.out HAL.out
             have HN9 : Hid (∀ d ∈ ds ++ [(⟨r, Ag, cg, Ae, ce⟩ : RuD)], Nest w9 w6.heap.size d) := Lib.hid (fun d hd => by
               rcases List.mem_append.1 hd with hd | hd
               · exact ((HN8.out d hd).below HAL.out).aside HO8A (by decide) (by decide) hgrow
               · rw [List.mem_singleton] at hd
                 subst hd
                 exact (HDR.out.below HAL.out).aside HO8A (by decide) (by decide) hgrow)
             have HB9 := Lib.hid (below_of_grown (below_chain HB8.out HAL.out) hgrow (fun p hp => (HO8.out.lt p hp).1))
             clear hown hgrow HO8A HO8 HN8 HB8 HAL HDR)
          )
        go_roundw
        case rel => exact ⟨k + 1, j1, A9, c9, ds ++ [(⟨r, Ag, cg, Ae, ce⟩ : RuD)], by go_num, rfl, by have := HJ.out; have := HJ1.out; omega, Lib.hid (by have := HJ.out; have := HJ1.out; omega), Lib.hid (by rw [List.length_append, hds.out]; rfl), HZ2, HO9, HN9, HB9⟩
        case measure => have := HJ1.out; simp [intOf]; omega
    · have hk2 : ¬ ((j1 : Int) < (ln : Int)) := by omega
      have hke : ln - 2 ≤ k := by omega
      have HT : Hid (seqO ruleS rl = some (ds.map RuD.r)) := Lib.hid (by rw [← hz.out, List.take_of_length_le (by have := HRL.out; omega)])
      have HU : Hid (U = some ⟨sz, st, ds.map RuD.r⟩) := Lib.hid (by rw [HUR.out, HT.out])
      have HOK := Lib.hid (HOK3.out _ HT.out)
      have HVV := Lib.hid (HRS.out _ HU.out HNE2.out)
      obtain rfl : k = (ds.map RuD.r).length := by rw [List.length_map]; exact hds.out.symm
      have HMO : Hid (MOwn wr w.heap.size Az Ax A cz cs c ⟨sz, st, ds.map RuD.r⟩ ds) := Lib.hid ⟨own_below HZ0.out hb.out, own_below HS0.out hb.out, own_mono ho.out HB6.out.size, rfl, fun d hd => (hnst.out d hd).mono HB6.out.size⟩
      have HX7 := Lib.hid (HX6.out.below hb.out)
      have HB7 := Lib.hid (below_chain HB6.out hb.out)
      clear hb hnst ho HX6 HB6 HZ0 HS0 hz hds hk HT HU HUR HRA HRL HRN HRS HWL HOK3 HRW6 hj hj1 hlt hke HJ HJ1
      obtain ⟨rs, hrs⟩ : ∃ rs, rs = ds.map RuD.r := ⟨_, rfl⟩
      rw [← hrs] at HVV HOK HMO ⊢
      clear hrs
      have HB9 := Lib.hid (below_alloc (Below.refl wr.heap.size wr) (.cells #[.slice Az sz.length cz, .slice Ax st.length cs, .slice A rs.length c] 25))
      have HX9 : Hid (Box3 25 (wr.alloc (.cells #[.slice Az sz.length cz, .slice Ax st.length cs, .slice A rs.length c] 25)) wr.heap.size wr.heap.size (.slice Az sz.length cz) (.slice Ax st.length cs) (.slice A rs.length c)) := Lib.hid (box3_new _ _ _)
      have HM9 := Lib.hid (HMO.out.below HB9.out)
      have HXX := Lib.hid (HX7.out.below HB9.out)
      have HB99 := Lib.hid (below_chain HB7.out HB9.out)
      have hse : s.toList.isEmpty = false := by
        rw [Lib.toList_data, ← HLE.out]
        cases hL : L with
        | nil => exact absurd hL HNE2.out
        | cons => rfl
      have HCM := Lib.hid (fun w' h => c_sModelText ⟨sz, st, rs⟩ Az Ax A cz cs c w' HOK.out h)
      clear HMO HX7 HB9 HB7
      go_upto_region 18 with (fail)
      generalize wr.alloc (.cells #[.slice Az sz.length cz, .slice Ax st.length cs, .slice A rs.length c] 25) = w9 at *
      obtain ⟨p0, p1, p2, _, _, _, _, _⟩ := HX9.out.c
      go_wp2_with (fail)
      refine (HCM.out _ HM9.out.md).mono ?_
      rintro e w10 ⟨t, rfl, ht, hb⟩
      have HM10 := Lib.hid (HM9.out.below hb)
      have HXX10 := Lib.hid (HXX.out.below hb)
      have HB10 := Lib.hid (below_chain HB99.out hb)
      replace p0 := cell_later hb p0
      replace p1 := cell_later hb p1
      replace p2 := cell_later hb p2
      have HTT := Lib.hid ht
      clear hb HM9 HXX HB99 HX9 HCM ht
      by_cases heq : outT ⟨sz, st, rs⟩ = L
      · have HVS : Hid (V = some ⟨sz, st, rs⟩) := Lib.hid (by rw [HVV.out, if_pos heq])
        have hqq : (t.toList == s.toList) = true := by rw [str_eq, HTT.out, heq, HLE.out]; simp
        have hqn : (t.toList != s.toList) = false := by rw [bne, hqq]; rfl
        have HF := Lib.hid (Box3.set3 HXX10.out (.slice Az sz.length cz) (.slice Ax st.length cs) (.slice A rs.length c))
        have HBF := Lib.hid (below_put HB10.out (.slice Az sz.length cz) (.slice Ax st.length cs) (.slice A rs.length c) (Nat.le_refl _))
        have HMF := Lib.hid (HM10.out.boxed HXX10.out (x' := .slice Az sz.length cz) (y' := .slice Ax st.length cs) (z' := .slice A rs.length c))
        obtain ⟨v0, v1, v2, f0, f1, f2, _, _⟩ := HXX10.out.c
        clear heq HM10 HXX10 HB10 HVV HTT
        go_wp2_with (fail)
        change bodyPost _ _ _ _ _ (set3 w10 w.heap.size (.slice Az sz.length cz) (.slice Ax st.length cs) (.slice A rs.length c))
        generalize set3 w10 w.heap.size (.slice Az sz.length cz) (.slice Ax st.length cs) (.slice A rs.length c) = WF at HF HBF HMF ⊢
        obtain ⟨r0, r1, r2, _⟩ := Box3.c HF.out.1
        clear f0 f1 f2 v0 v1 v2
        refine bodyPost_ret (v := .tuple #[.agg #[.slice Az sz.length cz, .slice Ax st.length cs, .slice A rs.length c], .bool true]) (by simp [results, Tryz.results5, go_sem, r0, r1, r2]) rfl (retMO_some HVS.out HMF.out HBF.out)
      · have HN : Hid (V = none) := Lib.hid (by rw [HVV.out, if_neg heq])
        have hqq : (t.toList == s.toList) = false := by rw [str_eq, HTT.out, ← HLE.out]; simpa using heq
        have hqn : (t.toList != s.toList) = true := by rw [bne, hqq]; rfl
        have HF := Lib.hid (Box3.set3 HXX10.out (.slice none 0 0) (.slice none 0 0) (.slice none 0 0))
        have HBF := Lib.hid (below_put HB10.out (.slice none 0 0) (.slice none 0 0) (.slice none 0 0) (Nat.le_refl _))
        obtain ⟨v0, v1, v2, f0, f1, f2, _, _⟩ := HXX10.out.c
        clear heq HM10 HXX10 HB10 HVV HTT
        go_wp2_with (fail)
        change bodyPost _ _ _ _ _ (set3 w10 w.heap.size (.slice none 0 0) (.slice none 0 0) (.slice none 0 0))
        generalize set3 w10 w.heap.size (.slice none 0 0) (.slice none 0 0) (.slice none 0 0) = WF at HF HBF ⊢
        obtain ⟨r0, r1, r2, _⟩ := Box3.c HF.out.1
        clear f0 f1 f2 v0 v1 v2
        refine bodyPost_ret (v := .tuple #[.agg #[.slice none 0 0, .slice none 0 0, .slice none 0 0], .bool false]) (by simp [results, Tryz.results5, go_sem, r0, r1, r2]) rfl (retMO_none HN.out HBF.out)
end Go.Proofs.YtgpmglfcdbpgkaaGreatDoor

/- What both readings of a model hand back, in one form. No condition. -/
namespace Go.Proofs.YtgpmglfcdbpgkaaGreatDoor
open Go.RowKit

/-- What both readings hand back, in one form. -/
def zM : Mdl := ⟨[], [], []⟩
theorem zM_ok : MOk zM := ⟨⟨by decide, by decide, ⟨by decide, fun _ h => nomatch h⟩⟩, fun _ h => nomatch h⟩
def mV (o : Option Mdl) : Mdl := o.getD zM
theorem RetMO.both {o : Option Mdl} {w w' : World} {e : Ending} (h : RetMO o w e w') : ∃ az ax ar cz cs cr ds, e = .returned (.tuple #[mv (mV o) az ax ar cz cs cr, .bool o.isSome]) ∧ MOwn w' w.heap.size az ax ar cz cs cr (mV o) ds ∧ Below w.heap.size w w' := by
  match o, h with
  | none, ⟨h1, h2⟩ => exact ⟨none, none, none, 0, 0, 0, [], h1, ⟨World.ownsRow_nil _ _ _ _, World.ownsRow_nil _ _ _ _, World.ownsRow_nil _ _ _ _, rfl, fun _ h => (nomatch h)⟩, h2⟩
  | some m, ⟨az, ax, ar, cz, cs, cr, ds, h1, h2, h3⟩ => exact ⟨az, ax, ar, cz, cs, cr, ds, h1, h2, h3⟩
theorem RetMS.both {o : Option Mdl} {w w' : World} {e : Ending} (h : RetMS o w e w') : ∃ az ax ar cz cs cr ds, e = .returned (.tuple #[mv (mV o) az ax ar cz cs cr, .bool o.isSome]) ∧ MOwn w' w.heap.size az ax ar cz cs cr (mV o) ds ∧ SepD ds ∧ (∀ q, (Value.slice az (mV o).sz.length cz).ownBlock = some q → (Value.slice ax (mV o).st.length cs).ownBlock ≠ some q) ∧ Below w.heap.size w w' := by
  match o, h with
  | none, ⟨h1, h2⟩ => exact ⟨none, none, none, 0, 0, 0, [], h1, ⟨World.ownsRow_nil _ _ _ _, World.ownsRow_nil _ _ _ _, World.ownsRow_nil _ _ _ _, rfl, fun _ h => (nomatch h)⟩, List.Pairwise.nil, fun q h => by simp [Value.ownBlock] at h, h2⟩
  | some m, ⟨az, ax, ar, cz, cs, cr, ds, h1, h2, h3, h4, h5⟩ => exact ⟨az, ax, ar, cz, cs, cr, ds, h1, h2, h3, h4, h5⟩
theorem read_MN {L : List UInt8} {m : Mdl} (h : readM L = some m) : MdlN m := by
  unfold readM at h
  cases hI : modelI L with
  | none => rw [hI] at h; cases h
  | some m' =>
    rw [hI] at h
    dsimp only at h
    by_cases hc : mdB m' = true ∧ txModel m' = L
    · rw [if_pos hc] at h
      injection h with h
      subst h
      exact valid_N hc.1
    · rw [if_neg hc] at h
      cases h
theorem MdlN.ok {m : Mdl} (hN : MdlN m) : MOk m := by
  refine ⟨⟨?_, ?_, ?_, fun r hr => ?_⟩, fun r hr => ?_⟩
  · have := hN.z; omega
  · have := hN.t; omega
  · have := hN.r; omega
  · have := hN.g r hr; omega
  · have := hN.g r hr; omega
theorem readM_ok (L : List UInt8) : MOk (mV (readM L)) := by
  cases h : readM L with
  | none => exact zM_ok
  | some m => exact (read_MN h).ok
end Go.Proofs.YtgpmglfcdbpgkaaGreatDoor

/- The source of drawn numbers: its box, and the contract of the next number. Condition: at most 4096 bytes of code. -/
namespace Go.Proofs.YtgpmglfcdbpgkaaGreatDoor
open Go.RowKit

theorem own_three {w : World} (x y z : Value) : (w.alloc (.cells #[x, y, z] 102)).ownsRow w.heap.size 102 1 (.slice (some ⟨w.heap.size, 0, none⟩) 3 3) 3 [x, y, z] := by
  have h := World.ownsRow_lit (e := 102) (size := 1) (base := w.heap.size) w #[x, y, z] 3 (by simp) (by decide) (by simp)
  simpa using h
theorem three_cells {w : World} {base b : Nat} {x y z : Value} (h : w.ownsRow base 102 1 (.slice (some ⟨b, 0, none⟩) 3 3) 3 [x, y, z]) : w.cell? ⟨b, 0, none⟩ = some x ∧ w.cell? ⟨b, 1, none⟩ = some y ∧ w.cell? ⟨b, 2, none⟩ = some z ∧ w.frozen? ⟨b, 0, none⟩ = false ∧ w.frozen? ⟨b, 1, none⟩ = false ∧ w.frozen? ⟨b, 2, none⟩ = false ∧ base ≤ b ∧ b < w.heap.size := by
  have h0 := h.cellAt 0 (by decide)
  have h1 := h.cellAt 1 (by decide)
  have h2 := h.cellAt 2 (by decide)
  exact ⟨h0, h1, h2, h.frozenAt 0, h.frozenAt 1, h.frozenAt 2, own_ge h⟩
/-- The slice holds n bytes, in a block below B. -/
def Bytes (w : World) (B : Nat) (A : Option Addr) (n : Nat) : Prop := ∀ j, j < n → ∃ (b off : Nat) (u : Nat), A = some ⟨b, off, none⟩ ∧ b < B ∧ u < 256 ∧ w.cell? ⟨b, off + j, none⟩ = some (.int .u8 u)
theorem Bytes.keep {w w' : World} {B : Nat} {A : Option Addr} {n : Nat} (h : Bytes w B A n) (hg : w.grownBy w' (some B)) (hB : B ≤ w.heap.size) : Bytes w' B A n := by
  intro j hj
  obtain ⟨b, off, u, e, hb, hu, hc⟩ := h j hj
  refine ⟨b, off, u, e, hb, hu, ?_⟩
  rw [← hc]
  exact hg.cell_far ⟨b, off + j, none⟩ (by simp; omega) (by simp; omega)
structure SrcF (w : World) (B : Nat) (A : Option Addr) (n c : Nat) (at' seed : Int) : Prop where
  own : w.ownsRow B 102 1 (.slice (some ⟨B, 0, none⟩) 3 3) 3 [.slice A n c, .int .i64 at', .int .i64 seed]
  a0 : 0 ≤ at'
  a1 : at' ≤ n
  s0 : 0 ≤ seed
  s1 : seed < 2147483647
  n1 : n ≤ 4096
  by_ : Bytes w B A n
def Src (w : World) (B : Nat) : Prop := ∃ A n c at' seed, SrcF w B A n c at' seed
def NextP (B : Nat) (n : Int) (w : World) (e : Ending) (w' : World) : Prop := ∃ r : Int, e = .returned (.int .i64 r) ∧ 0 ≤ r ∧ (1 < n → r < n) ∧ (n ≤ 1 → r = 0) ∧ Src w' B ∧ w.grownBy w' (some B)
theorem grown_refl (w : World) (row : Option Nat) : w.grownBy w row := grown_of_below (Below.refl _ _) row
theorem SrcF.set_seed {w : World} {B : Nat} {A : Option Addr} {n c : Nat} {at' seed s : Int} (h : SrcF w B A n c at' seed) (h0 : 0 ≤ s) (h1 : s < 2147483647) : SrcF (w.setCell ⟨B, 2, none⟩ (.int .i64 s)) B A n c at' s ∧ w.grownBy (w.setCell ⟨B, 2, none⟩ (.int .i64 s)) (some B) := by
  have hst := h.own.stored 2 (.int .i64 s)
  exact ⟨⟨by simpa using hst.1, h.a0, h.a1, h0, h1, h.n1, h.by_.keep (by simpa using hst.2) (by have := (own_ge h.own).2; omega)⟩, by simpa using hst.2⟩
theorem SrcF.set_at {w : World} {B : Nat} {A : Option Addr} {n c : Nat} {at' seed a : Int} (h : SrcF w B A n c at' seed) (h0 : 0 ≤ a) (h1 : a ≤ n) : SrcF (w.setCell ⟨B, 1, none⟩ (.int .i64 a)) B A n c a seed ∧ w.grownBy (w.setCell ⟨B, 1, none⟩ (.int .i64 a)) (some B) := by
  have hst := h.own.stored 1 (.int .i64 a)
  exact ⟨⟨by simpa using hst.1, h0, h1, h.s0, h.s1, h.n1, h.by_.keep (by simpa using hst.2) (by have := (own_ge h.own).2; omega)⟩, by simpa using hst.2⟩
theorem SrcF.drewN {w : World} {B : Nat} {A : Option Addr} {n c : Nat} {at' seed : Int} (h : SrcF w B A n c at' seed) (k : Nat) : SrcF (w.drewN k) B A n c at' seed :=
  ⟨own_below h.own (below_drewN (Below.refl _ _) k), h.a0, h.a1, h.s0, h.s1, h.n1, h.by_⟩
set_option maxHeartbeats 2000000 in
set_option maxRecDepth 100000 in
theorem c_Next (B : Nat) (n : Int) (w : World) (h : Src w B) (hn : n ≤ 9223372036854775807) : Calls Tryz.prog 38 #[.pointer (some ⟨B, 0, none⟩), .int .i64 n] w (NextP B n w) := by
  obtain ⟨A, m, c, a, seed, hf⟩ := h
  rcases Int.lt_or_le 1 n with hn1 | hn1
  · obtain ⟨v0, v1, v2, f0, f1, f2, _, hlt⟩ := three_cells hf.own
    have hs0 := hf.s0
    have hs1 := hf.s1
    have hn1m := hf.n1
    have ha0 := hf.a0
    have ha1 := hf.a1
    have hr0 := Int.emod_nonneg (seed * 48271 + 29) (b := 2147483647) (by decide)
    have hr1 := Int.emod_lt_of_pos (seed * 48271 + 29) (b := 2147483647) (by decide)
    have HS := Lib.hid (hf.set_seed hr0 hr1)
    clear hf
    go_enter Tryz.func38, Tryz.ntmps38
    go_wp2_with (fail)
    generalize (seed * 48271 + 29) % 2147483647 = s at hr0 hr1 HS ⊢
    have hf := HS.out.1
    have HG := Lib.hid HS.out.2
    generalize w.setCell ⟨B, 2, none⟩ (.int .i64 s) = W at hf HG ⊢
    clear v0 v1 v2 f0 f1 f2 HS hlt
    obtain ⟨v0, v1, v2, f0, f1, f2, _, hlt⟩ := three_cells hf.own
    obtain ⟨k, rfl⟩ : ∃ k : Nat, a = k := ⟨a.toNat, by omega⟩
    have hx0 : 0 ≤ s / 31 := Int.ediv_nonneg hr0 (by decide)
    have hx1 : s / 31 ≤ 2147483647 := by omega
    generalize s / 31 = x at hx0 hx1 ⊢
    by_cases ham : k < m
    · obtain ⟨b, off, u, rfl, hbB, hu, hc⟩ := hf.by_ k ham
      have HF := Lib.hid hf
      have hd : decide ((k : Int) < m) = true := by simp; omega
      clear hf
      go_region_held3 (fun w' => w'.cell? ⟨B, 0, none⟩ = some (.slice (some ⟨b, off, none⟩) m c) ∧ w'.cell? ⟨B, 1, none⟩ = some (.int .i64 k)) (exact ⟨v0, v1⟩) (fail)
      go_wp2_with (fail)
      have hw1 : IntKind.i64.wrap (x + (u : Int)) = x + u := IntWalk.i64_in _ (by omega)
      have hw2 : IntKind.i64.wrap (u : Int) = u := IntWalk.i64_in _ (by omega)
      have hk0 : (0 : Int) ≤ (k : Int) := by omega
      have hk1 : (k : Int) < m := by omega
      go_region_held3 (fun w' => w'.cell? ⟨B, 0, none⟩ = some (.slice (some ⟨b, off, none⟩) m c) ∧ w'.cell? ⟨B, 1, none⟩ = some (.int .i64 k) ∧ w'.cell? ⟨b, off + k, none⟩ = some (.int .u8 u)) (exact ⟨v0, v1, hc⟩) (fail)
      go_wp2_with (fail)
      clear hw1 hw2
      all_goals
        have HS := Lib.hid (HF.out.set_at (a := (k : Int) + 1) (by omega) (by omega))
        have hlt2 : b < W.heap.size := by omega
        have hne : ¬ b = B := by omega
        have hw3 : IntKind.i64.wrap ((k : Int) + 1 - 1) = k := by rw [show (k : Int) + 1 - 1 = k by omega]; exact IntWalk.i64_in _ (by omega)
        have hw5 : IntKind.i64.wrap (k : Int) = k := IntWalk.i64_in _ (by omega)
        have j0 : ((W.setCell ⟨B, 1, none⟩ (.int .i64 ((k : Int) + 1))).drew.drew).cell? ⟨B, 0, none⟩ = some (.slice (some ⟨b, off, none⟩) m c) := by go_simp
        have j1 : ((W.setCell ⟨B, 1, none⟩ (.int .i64 ((k : Int) + 1))).drew.drew).cell? ⟨B, 1, none⟩ = some (.int .i64 ((k : Int) + 1)) := by go_simp
        have j2 : ((W.setCell ⟨B, 1, none⟩ (.int .i64 ((k : Int) + 1))).drew.drew).cell? ⟨b, off + k, none⟩ = some (.int .u8 u) := by go_simp
        have HQ : Hid (Src ((W.setCell ⟨B, 1, none⟩ (.int .i64 ((k : Int) + 1))).drew.drew) B ∧ w.grownBy ((W.setCell ⟨B, 1, none⟩ (.int .i64 ((k : Int) + 1))).drew.drew) (some B)) := Lib.hid ⟨⟨_, _, _, _, _, HS.out.1.drewN 2⟩, grown_trans (grown_trans HG.out HS.out.2) (grown_of_below (Below.refl _ _).drew.drew _)⟩
        generalize ((W.setCell ⟨B, 1, none⟩ (.int .i64 ((k : Int) + 1))).drew.drew) = W2 at j0 j1 j2 HQ ⊢
        clear HS HF hc v0 v1 v2 f0 f1 f2
        have HR := Lib.hid (fun (y : Int) (hy : 0 ≤ y) => (show 0 ≤ y % n ∧ y % n < n from ⟨Int.emod_nonneg y (by omega), Int.emod_lt_of_pos y (by omega)⟩))
      all_goals try
        (go_region_held3 (fun w' => w'.cell? ⟨B, 0, none⟩ = some (.slice (some ⟨b, off, none⟩) m c) ∧ w'.cell? ⟨B, 1, none⟩ = some (.int .i64 ((k : Int) + 1)) ∧ w'.cell? ⟨b, off + k, none⟩ = some (.int .u8 u)) (exact ⟨j0, j1, j2⟩) (fail)
         go_wp2_with (fail)
         go_ret
         exact ⟨(u : Int) % n, rfl, (HR.out _ (by omega)).1, fun _ => (HR.out _ (by omega)).2, fun h => by omega, (let ⟨A, m, c, a, s, h⟩ := HQ.out.1; ⟨A, m, c, a, s, h.drewN 1⟩), grown_trans HQ.out.2 (grown_of_below (Below.refl _ _).drew _)⟩)
      all_goals
        go_ret
        exact ⟨(x + u) % n, rfl, (HR.out _ (by omega)).1, fun _ => (HR.out _ (by omega)).2, fun h => by omega, HQ.out.1, HQ.out.2⟩
    · have hd : decide ((k : Int) < m) = false := by simp; omega
      have HSR := Lib.hid (show Src W B from ⟨A, m, c, k, s, hf⟩)
      have HSD := Lib.hid (show Src W.drew B from ⟨A, m, c, k, s, hf.drewN 1⟩)
      have hq0 := Int.emod_nonneg x (b := n) (by omega)
      have hq1 := Int.emod_lt_of_pos x (b := n) (by omega)
      clear hf
      go_region_held3 (fun w' => w'.cell? ⟨B, 0, none⟩ = some (.slice A m c) ∧ w'.cell? ⟨B, 1, none⟩ = some (.int .i64 k)) (exact ⟨v0, v1⟩) (fail)
      go_wp2_with (fail)
      go_ret
      refine ⟨x % n, rfl, hq0, fun _ => hq1, fun h => by omega, HSD.out, ?_⟩
      exact grown_trans HG.out (grown_of_below (Below.refl _ _).drew _)
  · have HS := Lib.hid (show Src w B from ⟨A, m, c, a, seed, hf⟩)
    go_enter Tryz.func38, Tryz.ntmps38
    go_wp2
    go_ret
    exact ⟨0, rfl, by omega, fun h => by omega, fun _ => rfl, HS.out, grown_refl _ _⟩
end Go.Proofs.YtgpmglfcdbpgkaaGreatDoor

/- The kit's still tail, with the world behind the draw folded. -/
namespace Go.Proofs.YtgpmglfcdbpgkaaGreatDoor
open Go.RowKit

theorem wp_still_drew {P : Program} {id : Nat} {Q : Exit → Act → World → Prop} {a : Act} {w : World} {l : List Oper} (n : Nat) (hm : P.follows .mixedOrders = true) (hB : Region.lexTailB .any l.toArray n = true)
    (h : wpStill P l.toArray w.drew (fun a' => wpList P l.toArray Q (l.drop n) a' w.drew) (l.take n) a) : (Code.region id l.toArray true).wp P Q a w := wp_region_still_tail n hm hB h
end Go.Proofs.YtgpmglfcdbpgkaaGreatDoor

/- Contracts of l01From, l01Pick: the source at its start, one of some numbers. Condition: at most 4096 bytes of code; lists that are not empty. -/
namespace Go.Proofs.YtgpmglfcdbpgkaaGreatDoor
open Go.RowKit

theorem Src.drew {w : World} {B : Nat} (h : Src w B) : Src w.drew B := let ⟨A, m, c, a, s, h⟩ := h; ⟨A, m, c, a, s, h.drewN 1⟩
theorem Src.lt {w : World} {B : Nat} (h : Src w B) : B < w.heap.size := let ⟨_, _, _, _, _, h⟩ := h; (own_ge h.own).2
theorem Src.far {w w' : World} {B : Nat} {row : Option Nat} (h : Src w B) (hg : w.grownBy w' row) (hr : ∀ q, row = some q → B < q) : Src w' B := by
  have hlt := h.lt
  obtain ⟨A, m, c, a, s, h⟩ := h
  refine ⟨A, m, c, a, s, h.own.kept hg (.inr ?_), h.a0, h.a1, h.s0, h.s1, h.n1, ?_⟩
  · intro e
    have := hr B (by rw [← e]; rfl)
    omega
  · intro j hj
    obtain ⟨b, off, u, e, hb, hu, hc⟩ := h.by_ j hj
    refine ⟨b, off, u, e, hb, hu, ?_⟩
    rw [← hc]
    exact hg.cell_far ⟨b, off + j, none⟩ (by simp; omega) (fun e => by have := hr _ e.symm; simp at this; omega)
theorem Src.below {w w' : World} {B : Nat} (h : Src w B) (hb : Below w.heap.size w w') : Src w' B := h.far (grown_of_below hb none) (by simp)
theorem Src.alloc {w : World} {B : Nat} (h : Src w B) (o : Obj) : Src (w.alloc o) B := h.below (below_alloc (Below.refl _ _) o)
set_option maxRecDepth 100000 in
theorem c_From (A : Option Addr) (c n : Nat) (w : World) (hn : n ≤ 4096) (hb : Bytes w w.heap.size A n) :
    Calls Tryz.prog 37 #[.slice A n c] w fun e w' => e = .returned (.pointer (some ⟨w.heap.size, 0, none⟩)) ∧ Src w' w.heap.size ∧ Below w.heap.size w w' := by
  have hown := own_three (w := w) (.slice A n c) (.int .i64 0) (.int .i64 52021)
  have hf : SrcF (w.alloc (.cells #[.slice A n c, .int .i64 0, .int .i64 52021] 102)) w.heap.size A n c 0 52021 :=
    ⟨hown, by omega, by omega, by omega, by omega, hn, hb.keep (grown_of_below (below_alloc (Below.refl _ _) _) _) (Nat.le_refl _)⟩
  have HF := Lib.hid hf
  clear hf hown hb
  go_enter Tryz.func37, Tryz.ntmps37
  go_wp2
  go_loopw [4] (fun v wr => ∃ (k : Nat) (s : Int), k ≤ 64 ∧ k ≤ n ∧ v = .int .i64 k ∧ SrcF wr w.heap.size A n c 0 s ∧ Below w.heap.size w wr) (fun v _ => n - (intOf v).toNat)
  case atStart => exact ⟨0, 52021, by omega, Nat.zero_le _, rfl, HF.out, by (repeat (first | exact Below.refl _ _ | assumption | refine below_alloc ?_ _ | refine below_drewN ?_ _ | refine below_set ?_ _ (by simp; try omega) | refine Below.drew ?_))⟩
  case round =>
    obtain ⟨k, s, hk, hkn, rfl, hf, hb⟩ := hrel
    clear HF
    by_cases hlt : k < n ∧ k < 64
    · obtain ⟨hlt, hlt64⟩ := hlt
      obtain ⟨b, off, u, rfl, hbB, hu, hc⟩ := hf.by_ k hlt
      obtain ⟨v0, v1, v2, f0, f1, f2, _, hltw⟩ := three_cells hf.own
      have hs0 := hf.s0
      have hs1 := hf.s1
      have hr0 := Int.emod_nonneg (s * 59 + (u : Int)) (b := 2147483647) (by decide)
      have hr1 := Int.emod_lt_of_pos (s * 59 + (u : Int)) (b := 2147483647) (by decide)
      have hw1 : IntKind.i64.wrap (s * 59) = s * 59 := IntWalk.i64_in _ (by omega)
      have hw2 : IntKind.i64.wrap (u : Int) = u := IntWalk.i64_in _ (by omega)
      have hw3 : IntKind.i64.wrap (s * 59 + (u : Int)) = s * 59 + u := IntWalk.i64_in _ (by omega)
      have hw4 : (s * 59 + (u : Int)).tmod 2147483647 = (s * 59 + (u : Int)) % 2147483647 := Int.tmod_eq_emod_of_nonneg (by omega)
      have hk0 : (0 : Int) ≤ (k : Int) := by omega
      have hk1 : (k : Int) < n := by omega
      have HS := Lib.hid (hf.set_seed hr0 hr1)
      have HB := Lib.hid hb
      clear hf hb
      go_wp2_with (fail)
      refine wp_still_drew 15 (by kernel_rfl) (by kernel_rfl) ?_
      simp only [List.take_succ_cons, List.take_zero, List.drop_succ_cons, List.drop_zero]
      repeat still_step
      try refine wpStill_nil ?_
      clear hw1 hw2 hw3 hw4
      go_wp2
      have HD : Hid (SrcF ((wr.setCell ⟨w.heap.size, 2, none⟩ (.int .i64 ((s * 59 + (u : Int)) % 2147483647))).drew) w.heap.size (some ⟨b, off, none⟩) n c 0 ((s * 59 + (u : Int)) % 2147483647) ∧ Below w.heap.size w ((wr.setCell ⟨w.heap.size, 2, none⟩ (.int .i64 ((s * 59 + (u : Int)) % 2147483647))).drew)) :=
        Lib.hid ⟨HS.out.1.drewN 1, (below_of_grown HB.out HS.out.2 (by simp)).drew⟩
      go_roundw
      case rel => exact ⟨k + 1, _, by omega, by omega, by go_num, HD.out.1, HD.out.2⟩
      case measure => simp [intOf]; omega
    · have HFF := Lib.hid hf
      have HB := Lib.hid hb
      have hd : (decide ((k : Int) < n) && decide ((k : Int) < 64)) = false := by simp; omega
      clear hf hb
      rcases Nat.lt_or_ge k n with h1 | h1
      · have h2 : ¬ k < 64 := by omega
        go_wp2
        go_ret
        exact ⟨rfl, ⟨_, _, _, _, _, HFF.out⟩, HB.out⟩
      · go_wp2
        go_ret
        exact ⟨rfl, ⟨_, _, _, _, _, HFF.out⟩, HB.out⟩
end Go.Proofs.YtgpmglfcdbpgkaaGreatDoor

/- Contracts of l01Pick, l01Abs at any number, l03Total at any layout, l03DrawInterval. Condition: lists that are not empty. -/
namespace Go.Proofs.YtgpmglfcdbpgkaaGreatDoor
open Go.RowKit

/-- Some number, and the source goes on. -/
def SomeI (B : Nat) (w : World) (e : Ending) (w' : World) : Prop := ∃ z : Int, e = .returned (.int .i64 z) ∧ Src w' B ∧ w.grownBy w' (some B)
def SomeI2 (w : World) (e : Ending) (w' : World) : Prop := ∃ z : Int, e = .returned (.int .i64 z) ∧ -9223372036854775808 ≤ z ∧ z ≤ 9223372036854775807 ∧ Below w.heap.size w w'
set_option maxRecDepth 100000 in
theorem c_Pick (B g c n : Nat) (zs : List Int) (w : World) (h : Src w B) (hg : g ≠ B) (hn : n = zs.length) (hn0 : 0 < n) (hn1 : n ≤ 100) (hr : Rd w (some ⟨g, 0, none⟩) (ints zs)) :
    Calls Tryz.prog 82 #[.pointer (some ⟨B, 0, none⟩), .slice (some ⟨g, 0, none⟩) n c] w (SomeI B w) := by
  have HN := Lib.hid hn
  clear hn
  go_enter Tryz.func82, Tryz.ntmps82
  go_wp2_with (fail)
  refine (c_Next B n w h (by omega)).mono ?_
  rintro e w1 ⟨r, rfl, hr0, hr1, hr2, hs, hgr⟩
  have hrn : r < n := by
    rcases Int.lt_or_le 1 n with h1 | h1
    · exact hr1 h1
    · have := hr2 h1; omega
  obtain ⟨k, rfl⟩ : ∃ k : Nat, r = k := ⟨r.toNat, by omega⟩
  obtain ⟨z, hz⟩ : ∃ z, zs[k]? = some z := ⟨_, List.getElem?_eq_getElem (by have := HN.out; omega)⟩
  obtain ⟨b, off, e, hb, hc⟩ := hr.int hz
  simp only [Option.some.injEq, Addr.mk.injEq, and_true] at e
  obtain ⟨rfl, rfl⟩ := e
  have hc1 : w1.cell? ⟨g, 0 + k, none⟩ = some (.int .i64 z) := cell_mark hc hgr (fun q hq => by simp at hq; simp; omega)
  have HS := Lib.hid hs
  have HG := Lib.hid hgr
  clear hr hz hc hr1 hr2 hs hgr h
  simp only [Nat.zero_add] at hc1
  go_wp2_with (fail)
  go_ret
  exact ⟨z, rfl, HS.out, HG.out⟩
end Go.Proofs.YtgpmglfcdbpgkaaGreatDoor

/- Draws of models: helpers on worlds that grow beside the source; c_PickIn; l20DrawTests. Condition: bounded sizes. -/
namespace Go.Proofs.YtgpmglfcdbpgkaaGreatDoor
open Go.RowKit

/-- The source goes on, and nothing else of before has turned. -/
structure DW (B : Nat) (w wr : World) : Prop where
  s : Src wr B
  g : w.grownBy wr (some B)
theorem DW.start {B : Nat} {w : World} (h : Src w B) : DW B w w := ⟨h, grown_refl _ _⟩
theorem gb_far {w a b : World} {row r2 : Option Nat} (h : w.grownBy a row) (hg : a.grownBy b r2) (hr : ∀ q, r2 = some q → w.heap.size ≤ q) : w.grownBy b row :=
  ⟨hg.os.trans h.os, hg.tape.trans h.tape, hg.output.trans h.output, Nat.le_trans h.size hg.size, fun k hk hne => (hg.block k (Nat.lt_of_lt_of_le hk h.size) (fun e => by have := hr k e.symm; omega)).trans (h.block k hk hne)⟩
theorem DW.far {B : Nat} {w a b : World} {r2 : Option Nat} (h : DW B w a) (hB : B < w.heap.size) (hg : a.grownBy b r2) (hr : ∀ q, r2 = some q → w.heap.size ≤ q) : DW B w b :=
  ⟨h.s.far hg (fun q hq => Nat.lt_of_lt_of_le hB (hr q hq)), gb_far h.g hg hr⟩
theorem DW.below {B : Nat} {w a b : World} (h : DW B w a) (hB : B < w.heap.size) (hb : Below a.heap.size a b) : DW B w b := h.far hB (grown_of_below hb none) (by simp)
theorem DW.alloc {B : Nat} {w a : World} (h : DW B w a) (hB : B < w.heap.size) (o : Obj) : DW B w (a.alloc o) := h.below hB (below_alloc (Below.refl _ _) o)
theorem DW.drew {B : Nat} {w a : World} (h : DW B w a) (hB : B < w.heap.size) : DW B w a.drew := h.below hB (Below.refl _ _).drew
theorem DW.then_ {B : Nat} {w a b : World} (h : DW B w a) (h2 : DW B a b) : DW B w b := ⟨h2.s, grown_trans h.g h2.g⟩
theorem DW.set {B : Nat} {w a : World} (h : DW B w a) (hB : B < w.heap.size) {p : Addr} (v : Value) (hp : w.heap.size ≤ p.block) : DW B w (a.setCell p v) := by
  have hb : Below w.heap.size a (a.setCell p v) := (Below.refl _ _).setCell hp v
  refine ⟨h.s.far (row := some p.block) ⟨hb.os, hb.tape, hb.output, hb.size, fun k hk hne => ?_⟩ (by intro q hq; simp at hq; omega), ?_⟩
  · unfold World.setCell
    simp only
    rw [Array.getElem?_modify, if_neg (by intro e; exact hne (by rw [e]))]
  · exact ⟨hb.os.trans h.g.os, hb.tape.trans h.g.tape, hb.output.trans h.g.output, Nat.le_trans h.g.size hb.size, fun k hk hne => (hb.block k hk).trans (h.g.block k hk hne)⟩
theorem DW.own {B : Nat} {w wr : World} (h : DW B w wr) {base : Nat} {e : TypeId} {size n : Nat} {v : Value} {xs : List Value} (ho : w.ownsRow base e size v n xs) (hB : B < base) : wr.ownsRow base e size v n xs :=
  kept_far ho h.g (fun q hq => by simp at hq; omega)
theorem DW.cell {B : Nat} {w wr : World} (h : DW B w wr) {b j : Nat} {v : Value} (hc : w.cell? ⟨b, j, none⟩ = some v) (hB : B ≠ b) : wr.cell? ⟨b, j, none⟩ = some v :=
  cell_mark hc h.g (fun q hq => by simp at hq; simp; omega)
/-- One of some numbers, and the source goes on. -/
def PickP (B : Nat) (zs : List Int) (w : World) (e : Ending) (w' : World) : Prop := ∃ z : Int, z ∈ zs ∧ e = .returned (.int .i64 z) ∧ DW B w w'
set_option maxRecDepth 100000 in
theorem c_PickIn (B g c n : Nat) (zs : List Int) (w : World) (h : Src w B) (hg : g ≠ B) (hn : n = zs.length) (hn0 : 0 < n) (hn1 : n ≤ 100) (hr : Rd w (some ⟨g, 0, none⟩) (ints zs)) :
    Calls Tryz.prog 82 #[.pointer (some ⟨B, 0, none⟩), .slice (some ⟨g, 0, none⟩) n c] w (PickP B zs w) := by
  have HN := Lib.hid hn
  clear hn
  go_enter Tryz.func82, Tryz.ntmps82
  go_wp2_with (fail)
  refine (c_Next B n w h (by omega)).mono ?_
  rintro e w1 ⟨r, rfl, hr0, hr1, hr2, hs, hgr⟩
  have hrn : r < n := by
    rcases Int.lt_or_le 1 n with h1 | h1
    · exact hr1 h1
    · have := hr2 h1; omega
  obtain ⟨k, rfl⟩ : ∃ k : Nat, r = k := ⟨r.toNat, by omega⟩
  obtain ⟨z, hz⟩ : ∃ z, zs[k]? = some z := ⟨_, List.getElem?_eq_getElem (by have := HN.out; omega)⟩
  have HZ := Lib.hid (List.mem_of_getElem? hz)
  obtain ⟨b, off, e, hb, hc⟩ := hr.int hz
  simp only [Option.some.injEq, Addr.mk.injEq, and_true] at e
  obtain ⟨rfl, rfl⟩ := e
  have hc1 : w1.cell? ⟨g, 0 + k, none⟩ = some (.int .i64 z) := cell_mark hc hgr (fun q hq => by simp at hq; simp; omega)
  have HS := Lib.hid hs
  have HG := Lib.hid hgr
  clear hr hz hc hr1 hr2 hs hgr h
  simp only [Nat.zero_add] at hc1
  go_wp2_with (fail)
  go_ret
  exact ⟨z, HZ.out, rfl, HS.out, HG.out⟩
theorem c_NextD (B : Nat) (n : Int) (w : World) (h : Src w B) (hn : n ≤ 9223372036854775807) : Calls Tryz.prog 38 #[.pointer (some ⟨B, 0, none⟩), .int .i64 n] w fun e w' => ∃ r : Int, e = .returned (.int .i64 r) ∧ 0 ≤ r ∧ (1 ≤ n → r < n) ∧ (n ≤ 1 → r = 0) ∧ DW B w w' :=
  (c_Next B n w h hn).mono fun e w' ⟨r, he, h0, h1, h2, hs, hg⟩ => ⟨r, he, h0, fun hn1 => by
    rcases Int.lt_or_le 1 n with h3 | h3
    · exact h1 h3
    · have := h2 h3; omega, h2, hs, hg⟩
/-- Some tests, and the source goes on. -/
def DrTs (B most : Nat) (w : World) (e : Ending) (w' : World) : Prop :=
  ∃ A c n, ∃ ts : List Tst, e = .returned (.slice A n c) ∧ ts.length = n ∧ n ≤ most ∧ w'.ownsRow w.heap.size 90 3 (.slice A n c) n (tstCells ts) ∧ DW B w w'
set_option maxHeartbeats 1000000 in
set_option maxRecDepth 100000 in
theorem c_l20DrawTests (B most base : Nat) (az ax ar : Option Addr) (cz cs cr n tn rn : Nat) (zs : List Int) (w : World) (h : Src w B) (hm : most ≤ 100) (hn : zs.length = n) (hn0 : 0 < n) (hn1 : n ≤ 1048576) (hz : ∀ z ∈ zs, z ≤ 9223372036854775807) (hB : B < base) (ho : w.ownsRow base 2 1 (.slice az n cz) n (ints zs)) :
    Calls Tryz.prog 105 #[.pointer (some ⟨B, 0, none⟩), .agg #[.slice az n cz, .slice ax tn cs, .slice ar rn cr], .int .i64 most] w (DrTs B most w) := by
  have hBl := h.lt
  have HN := Lib.hid hn
  have HZ := Lib.hid hz
  have HO := Lib.hid ho
  have HD := Lib.hid ((DW.start h).alloc hBl (.cells #[.slice az n cz, .slice ax tn cs, .slice ar rn cr] 25))
  clear hn hz ho h
  go_enter Tryz.func105, Tryz.ntmps105
  go_wp2_with (fail)
  refine (c_NextD B _ _ ((HD.out.alloc hBl _).s) (by omega)).mono ?_
  rintro e w1 ⟨r, rfl, hr0, hr1, _, hd⟩
  have hrm := hr1 (by omega)
  obtain ⟨j, rfl⟩ : ∃ j : Nat, r = j := ⟨r.toNat, by omega⟩
  have hj : j ≤ most := by omega
  have HD1 := Lib.hid ((HD.out.alloc hBl _).then_ hd)
  have k0 : w1.cell? ⟨w.heap.size, 0, none⟩ = some (.slice az n cz) := hd.cell (by go_simp) (by omega)
  have HT : Hid (w1.ownsRow (w.heap.size + 1) 90 3 (.slice (some ⟨w.heap.size + 1, 0, none⟩) 0 0) 0 (tstCells [])) := Lib.hid (hd.own (by
    have := World.ownsRow_made (e := 90) (size := 3) (base := w.heap.size + 1) (w.alloc (.cells #[.slice az n cz, .slice ax tn cs, .slice ar rn cr] 25)) #[] 0 (by simp) (Nat.zero_le _) rfl
    simpa [tstCells] using this) (by omega))
  clear hd hr0 hr1 hrm
  go_wp2
  go_loopw [7, 8] (fun v i wr => ∃ (j k : Nat) (ts : List Tst), j + k ≤ most ∧ i = .int .i64 j ∧ Hid (ts.length = k) ∧ Hid (wr.ownsRow (w.heap.size + 1) 90 3 v k (tstCells ts)) ∧ wr.cell? ⟨w.heap.size, 0, none⟩ = some (.slice az n cz) ∧ Hid (DW B w wr)) (fun _ i _ => (intOf i).toNat)
  case atStart => exact ⟨j, 0, [], by omega, rfl, Lib.hid rfl, HT, k0, HD1⟩
  case round =>
    clear HT HD1 k0 HD hj
    obtain ⟨j, k, ts, hjk, rfl, hts, ht, k0, hd⟩ := hrel
    by_cases hj0 : 0 < j
    · obtain ⟨j, rfl⟩ : ∃ j', j = j' + 1 := ⟨j - 1, by omega⟩
      have hji : (0 : Int) < ((j + 1 : Nat) : Int) := by omega
      have hsz := World.block_lt_of_cell? _ _ k0
      dsimp only at hsz
      go_wp2_with (fail)
      refine (c_NextD B _ _ hd.out.s (by omega)).mono ?_
      rintro e w2 ⟨q, rfl, hq0, hq1, _, hd2⟩
      have hqn := hq1 (by omega)
      obtain ⟨q, rfl⟩ : ∃ q' : Nat, q = q' := ⟨q.toNat, by omega⟩
      obtain ⟨z, hz⟩ : ∃ z, zs[q]? = some z := ⟨_, List.getElem?_eq_getElem (by have := HN.out; omega)⟩
      have HDA := Lib.hid (hd.out.then_ hd2)
      replace k0 := hd2.cell k0 (by omega)
      obtain ⟨zb, zo, rfl, _, z0⟩ := (Rd.own (HDA.out.own HO.out hB)).int hz
      have hzz := HZ.out z (List.mem_of_getElem? hz)
      have HT2 := Lib.hid (hd2.own ht.out (by omega))
      clear hz hd2 hq1 ht hd
      go_wp2_with (fail)
      refine (c_NextD B _ _ HDA.out.s (by omega)).mono ?_
      rintro e w3 ⟨x, rfl, _, _, _, hd3⟩
      have HDB := Lib.hid (HDA.out.then_ hd3)
      replace k0 := hd3.cell k0 (by omega)
      have HT3 := Lib.hid (hd3.own HT2.out (by omega))
      clear hd3 z0 HT2 HDA
      go_wp2_with (fail)
      refine (c_NextD B _ _ HDB.out.s (by omega)).mono ?_
      rintro e w4 ⟨y, rfl, hy0, hy1, _, hd4⟩
      have HDC := Lib.hid (HDB.out.then_ hd4)
      replace k0 := hd4.cell k0 (by omega)
      have HT4 := Lib.hid (hd4.own HT3.out (by omega))
      have hsz4 := World.block_lt_of_cell? _ _ k0
      dsimp only at hsz4
      clear hd4 HT3 HDB hy0 hy1
      obtain ⟨t, htd⟩ : ∃ t : Tst, t = ⟨(q : Int), x, decide (0 < y)⟩ := ⟨_, rfl⟩
      have HTE := Lib.hid htd
      clear htd
      go_wp2_with (first
        | (at_builtin
           refine wpList_push_tst _ (by rfl) (.tmp 24) (.tmp 37) (by rfl) (w.heap.size + 1) _ k ts ⟨(q : Int), x, decide (0 < y)⟩ w4.heap.size 1 (by rfl) (own_below HT4.out (below_alloc (Below.refl _ _) _)) (by rfl) (by go_simp) (by go_simp) (by go_simp) (by omega) (by simp; omega) ?_
           intro v1 w7 hown1 hgrow
           have HW1 := Lib.hid hown1
           have HG7 := Lib.hid hgrow
           clear hown1 hgrow)
        )
      go_roundw
      case rel =>
        have hge := fun q hq => (HT4.out.lt q hq).1
        exact ⟨j, k + 1, _, by omega, by go_num, Lib.hid (by rw [List.length_append, hts.out]; rfl), HW1, HG7.out.cell (cell_later (below_alloc (Below.refl _ _) _) k0) (fun e => by have := hge _ e.symm; dsimp only at this; omega), Lib.hid ((HDC.out.alloc hBl _).far hBl HG7.out (fun q hq => by have := hge q hq; omega))⟩
      case measure => simp [intOf] <;> omega
    · have hj1 : j = 0 := by omega
      subst hj1
      obtain ⟨A2, c2, hv2⟩ := own_shape ht.out
      subst hv2
      have HT2 := ht
      have HD2 := hd
      clear ht hd k0
      go_wp2
      go_ret
      exact ⟨A2, c2, k, ts, rfl, hts.out, by omega, own_mono HT2.out (by omega), HD2.out⟩
end Go.Proofs.YtgpmglfcdbpgkaaGreatDoor

/- l20DrawState. Condition: bounded sizes. -/
namespace Go.Proofs.YtgpmglfcdbpgkaaGreatDoor
open Go.RowKit

theorem rd_lit2 (w : World) (x y : Int) : Rd (w.alloc (.cells #[.int .i64 x, .int .i64 y] 2)) (some ⟨w.heap.size, 0, none⟩) (ints [x, y]) := by
  have h := World.ownsRow_lit (e := 2) (size := 1) (base := w.heap.size) w #[.int .i64 x, .int .i64 y] 2 (by simp) (by decide) (by simp)
  exact Rd.own (by simpa [ints] using h)
theorem rd_lit3 (w : World) (x y z : Int) : Rd (w.alloc (.cells #[.int .i64 x, .int .i64 y, .int .i64 z] 2)) (some ⟨w.heap.size, 0, none⟩) (ints [x, y, z]) := by
  have h := World.ownsRow_lit (e := 2) (size := 1) (base := w.heap.size) w #[.int .i64 x, .int .i64 y, .int .i64 z] 3 (by simp) (by decide) (by simp)
  exact Rd.own (by simpa [ints] using h)
/-- Some numbers, and the source goes on. -/
def DrIs (B most : Nat) (w : World) (e : Ending) (w' : World) : Prop :=
  ∃ A c n, ∃ vs : List Int, e = .returned (.slice A n c) ∧ vs.length = n ∧ n ≤ most ∧ w'.ownsRow w.heap.size 2 1 (.slice A n c) n (ints vs) ∧ DW B w w'
set_option maxHeartbeats 1000000 in
set_option maxRecDepth 100000 in
theorem c_l20DrawState (B base : Nat) (az ax ar : Option Addr) (cz cs cr n tn rn : Nat) (zs : List Int) (w : World) (h : Src w B) (hn : zs.length = n) (hn1 : n ≤ 1048575) (hz : ∀ z ∈ zs, z ≤ 9223372036854775807) (hB : B < base) (ho : w.ownsRow base 2 1 (.slice az n cz) n (ints zs)) :
    Calls Tryz.prog 40 #[.pointer (some ⟨B, 0, none⟩), .agg #[.slice az n cz, .slice ax tn cs, .slice ar rn cr]] w (DrIs B (n + 1) w) := by
  have hBl := h.lt
  have HN := Lib.hid hn
  have HZ := Lib.hid hz
  have HO := Lib.hid ho
  have HD := Lib.hid (((DW.start h).alloc hBl (.cells #[.slice az n cz, .slice ax tn cs, .slice ar rn cr] 25)).alloc hBl (.cells #[] 2))
  have HT : Hid (((w.alloc (.cells #[.slice az n cz, .slice ax tn cs, .slice ar rn cr] 25)).alloc (.cells #[] 2)).ownsRow (w.heap.size + 1) 2 1 (.slice (some ⟨w.heap.size + 1, 0, none⟩) 0 0) 0 (ints [])) := Lib.hid (by
    have := World.ownsRow_made (e := 2) (size := 1) (base := w.heap.size + 1) (w.alloc (.cells #[.slice az n cz, .slice ax tn cs, .slice ar rn cr] 25)) #[] 0 (by simp) (Nat.zero_le _) rfl
    simpa [ints] using this)
  clear hn hz ho h
  go_enter Tryz.func40, Tryz.ntmps40
  go_wp2
  go_loopw [5, 6] (fun v i wr => ∃ (k : Nat) (vs : List Int), k ≤ n ∧ i = .int .i64 k ∧ Hid (vs.length = k) ∧ Hid (wr.ownsRow (w.heap.size + 1) 2 1 v k (ints vs)) ∧ wr.cell? ⟨w.heap.size, 0, none⟩ = some (.slice az n cz) ∧ Hid (DW B w wr)) (fun _ i _ => n - (intOf i).toNat)
  case atStart => exact ⟨0, [], Nat.zero_le _, rfl, Lib.hid rfl, HT, by go_simp, HD⟩
  case round =>
    clear HT HD
    obtain ⟨k, vs, hk, rfl, hts, ht, k0, hd⟩ := hrel
    by_cases hlt : k < n
    · obtain ⟨z, hz⟩ : ∃ z, zs[k]? = some z := ⟨_, List.getElem?_eq_getElem (by have := HN.out; omega)⟩
      obtain ⟨zb, zo, rfl, _, z0⟩ := (Rd.own (hd.out.own HO.out hB)).int hz
      have hzz := HZ.out z (List.mem_of_getElem? hz)
      have hsz := World.block_lt_of_cell? _ _ k0
      dsimp only at hsz
      have hk0 : (0 : Int) ≤ (k : Int) := by omega
      have hk2 : (k : Int) < (n : Int) := by omega
      clear hz
      go_wp2_with (fail)
      refine (c_NextD B _ _ hd.out.s (by omega)).mono ?_
      rintro e w2 ⟨x, rfl, _, _, _, hd2⟩
      have HDA := Lib.hid (hd.out.then_ hd2)
      replace k0 := hd2.cell k0 (by omega)
      have HT2 := Lib.hid (hd2.own ht.out (by omega))
      have hsz2 := World.block_lt_of_cell? _ _ k0
      dsimp only at hsz2
      clear hd2 hd ht z0
      go_wp2_with (first
        | (at_builtin
           refine wpList_push_int _ (by rfl) (.tmp 15) (.tmp 23) (by rfl) (w.heap.size + 1) _ k vs x w2.heap.size 1 (by rfl) (own_below HT2.out (below_alloc (Below.refl _ _) _)) (by rfl) (by go_simp) (by omega) (by simp; omega) ?_
           intro v1 w7 hown1 hgrow _ _
           have HW1 := Lib.hid hown1
           have HG7 := Lib.hid hgrow
           clear hown1 hgrow)
        )
      go_roundw
      case rel =>
        have hge := fun q hq => (HT2.out.lt q hq).1
        exact ⟨k + 1, _, by omega, by go_num, Lib.hid (by rw [List.length_append, hts.out]; rfl), HW1, HG7.out.cell (cell_later (below_alloc (Below.refl _ _) _) k0) (fun e => by have := hge _ e.symm; dsimp only at this; omega), Lib.hid ((HDA.out.alloc hBl _).far hBl HG7.out (fun q hq => by have := hge q hq; omega))⟩
      case measure => simp [intOf] <;> omega
    · have hkn : k = n := by omega
      subst hkn
      obtain ⟨A2, c2, hv2⟩ := own_shape ht.out
      subst hv2
      go_wp2_with (fail)
      refine (c_NextD B _ _ hd.out.s (by omega)).mono ?_
      rintro e w2 ⟨x, rfl, _, _, _, hd2⟩
      have HDA := Lib.hid (hd.out.then_ hd2)
      replace k0 := hd2.cell k0 (by omega)
      have HT2 := Lib.hid (hd2.own ht.out (by omega))
      have hsz := World.block_lt_of_cell? _ _ k0
      dsimp only at hsz
      clear hd2 hd ht
      by_cases hx0 : x = 0
      · subst hx0
        go_wp2_with (first
          | (at_builtin
             refine wpList_push_int _ (by rfl) (.tmp 29) (.tmp 30) (by rfl) (w.heap.size + 1) _ k vs 0 w2.heap.size 1 (by rfl) (own_below HT2.out (below_alloc (Below.refl _ _) _)) (by rfl) (by go_simp) (by omega) (by simp; omega) ?_
             intro v1 w7 hown1 hgrow _ _
             have HW1 := Lib.hid hown1
             have HG7 := Lib.hid hgrow
             clear hown1 hgrow)
          )
        have hge := fun q hq => (HT2.out.lt q hq).1
        have HDF := Lib.hid ((HDA.out.alloc hBl (.cells #[.int .i64 0] 2)).far hBl HG7.out (fun q hq => by have := hge q hq; omega))
        clear hge
        go_ret
        obtain ⟨A3, c3, hv3⟩ := own_shape HW1.out
        subst hv3
        exact ⟨A3, c3, k + 1, _, rfl, by rw [List.length_append, hts.out]; rfl, by omega, own_mono HW1.out (by omega), HDF.out⟩
      · have hx0b : (x == 0) = false := by simpa using hx0
        by_cases hx1 : x = 1
        · subst hx1
          rcases Nat.eq_zero_or_pos k with h0 | h0
          · subst h0
            go_wp2
            go_ret
            exact ⟨A2, c2, 0, vs, rfl, hts.out, by omega, own_mono HT2.out (by omega), HDA.out⟩
          · obtain ⟨y, hy⟩ : ∃ z, zs[0]? = some z := ⟨_, List.getElem?_eq_getElem (by have := HN.out; omega)⟩
            obtain ⟨zb, zo, rfl, _, z0⟩ := (Rd.own (HDA.out.own HO.out hB)).int0 hy
            obtain ⟨k, rfl⟩ : ∃ k', k = k' + 1 := ⟨k - 1, by omega⟩
            obtain ⟨g, cap, hv2⟩ := own_form HT2.out
            simp only [Value.slice.injEq] at hv2
            obtain ⟨rfl, _, rfl⟩ := hv2
            have hkk : (0 : Int) < ((k + 1 : Nat) : Int) := by omega
            have hkk1 : (0 : Int) < (k : Int) + 1 := by omega
            go_wp2_with (fail)
            refine (c_PickIn B _ _ 2 [-1, y] _ (HDA.out.s.alloc _) (by omega) rfl (by omega) (by omega) (rd_lit2 w2 (-1) y)).mono ?_
            rintro e w3 ⟨p, _, rfl, hd3⟩
            have HT3 := Lib.hid (hd3.own (own_below HT2.out (below_alloc (Below.refl _ _) _)) (by omega))
            have HDB := Lib.hid ((HDA.out.alloc hBl _).then_ hd3)
            have hst := HT3.out.stored 0 (.int .i64 p)
            have hfr := HT3.out.frozenAt 0
            have hcc : (w3.cell? ⟨g, 0, none⟩).isSome = true := own_has HT3.out (by have := own_cap HT3.out; omega)
            obtain ⟨old, hold⟩ := Option.isSome_iff_exists.1 hcc
            have hgl := (own_ge HT3.out).1
            have HST := Lib.hid hst
            have HDC := Lib.hid (HDB.out.far hBl hst.2 (fun q hq => by simp at hq; omega))
            clear hd3 hst hcc hy
            rw [ints_set] at HST
            go_wp2
            go_ret
            exact ⟨_, _, _, _, rfl, by rw [List.length_set, hts.out], by omega, own_mono HST.out.1 (by omega), HDC.out⟩
        · have hx1b : (x == 1) = false := by simpa using hx1
          go_wp2
          go_ret
          exact ⟨A2, c2, k, vs, rfl, hts.out, by omega, own_mono HT2.out (by omega), HDA.out⟩
end Go.Proofs.YtgpmglfcdbpgkaaGreatDoor

/- Draws of models: append of an assignment, of a rule; boxes of models; blocks of strings. Condition: bounded sizes. -/
namespace Go.Proofs.YtgpmglfcdbpgkaaGreatDoor
open Go.RowKit

/-- A box of a model, as a row of its three cells. -/
def MBox (w : World) (base p : Nat) (x y z : Value) : Prop := w.ownsRow base 25 1 (.slice (some ⟨p, 0, none⟩) 3 3) 3 [x, y, z]
theorem mbox_new {w : World} (x y z : Value) : MBox (w.alloc (.cells #[x, y, z] 25)) w.heap.size w.heap.size x y z := by
  have h := World.ownsRow_lit (e := 25) (size := 1) (base := w.heap.size) w #[x, y, z] 3 (by simp) (by decide) (by simp)
  simpa [MBox] using h
theorem MBox.c {w : World} {base p : Nat} {x y z : Value} (h : MBox w base p x y z) : w.cell? ⟨p, 0, none⟩ = some x ∧ w.cell? ⟨p, 1, none⟩ = some y ∧ w.cell? ⟨p, 2, none⟩ = some z ∧ w.frozen? ⟨p, 0, none⟩ = false ∧ w.frozen? ⟨p, 1, none⟩ = false ∧ w.frozen? ⟨p, 2, none⟩ = false ∧ base ≤ p ∧ p < w.heap.size :=
  ⟨h.cellAt 0 (by decide), h.cellAt 1 (by decide), h.cellAt 2 (by decide), h.frozenAt 0, h.frozenAt 1, h.frozenAt 2, own_ge h⟩
theorem MBox.set3 {w : World} {base p : Nat} {x y z : Value} (h : MBox w base p x y z) (x' y' z' : Value) : MBox (set3 w p x' y' z') base p x' y' z' ∧ w.grownBy (Go.Proofs.YtgpmglfcdbpgkaaGreatDoor.set3 w p x' y' z') (some p) := by
  have h0 := World.ownsRow.stored h 0 x'
  have h1 := h0.1.stored 1 y'
  have h2 := h1.1.stored 2 z'
  exact ⟨by simpa [Go.Proofs.YtgpmglfcdbpgkaaGreatDoor.set3, MBox] using h2.1, grown_trans (grown_trans h0.2 h1.2) h2.2⟩
theorem DW.set3 {B : Nat} {w a : World} (h : DW B w a) (hB : B < w.heap.size) {p : Nat} (x y z : Value) (hp : w.heap.size ≤ p) : DW B w (Go.Proofs.YtgpmglfcdbpgkaaGreatDoor.set3 a p x y z) :=
  ((h.set hB x (p := ⟨p, 0, none⟩) hp).set hB y (p := ⟨p, 1, none⟩) hp).set hB z (p := ⟨p, 2, none⟩) hp
/-- What a drawn model is. -/
structure DMd (B base : Nat) (w : World) (az ax ar : Option Addr) (cz cs cr sn tn rn : Nat) (m : Mdl) (ds : List RuD) : Prop where
  o : MOwn w base az ax ar cz cs cr m ds
  z : m.sz.length = sn
  s : m.st.length = tn
  r : m.rs.length = rn
  sep : ∀ q, (Value.slice az sn cz).ownBlock = some q → (Value.slice ax tn cs).ownBlock ≠ some q
  zb : ∀ z ∈ m.sz, z ≤ 9223372036854775807
  rb : ∀ d ∈ ds, d.r.gs.length ≤ 1000 ∧ d.r.es.length ≤ 1000 ∧ d.r.nm.size ≤ 1000
  B : B < base
def DrMd (B sn0 sn1 rn1 R : Nat) (w : World) (e : Ending) (w' : World) : Prop :=
  ∃ az ax ar cz cs cr sn tn rn m ds, e = .returned (.agg #[.slice az sn cz, .slice ax tn cs, .slice ar rn cr]) ∧ DMd B w.heap.size w' az ax ar cz cs cr sn tn rn m ds ∧ sn0 ≤ sn ∧ sn ≤ sn1 ∧ sn0 ≤ tn ∧ tn ≤ sn1 ∧ rn ≤ rn1 ∧ (∀ d ∈ ds, d.r.gs.length ≤ R ∧ d.r.es.length ≤ R ∧ d.r.nm.size ≤ R) ∧ DW B w w'
theorem DMd.ok {B base : Nat} {w : World} {az ax ar : Option Addr} {cz cs cr sn tn rn : Nat} {m : Mdl} {ds : List RuD} (h : DMd B base w az ax ar cz cs cr sn tn rn m ds) (h1 : sn ≤ 1048576) (h2 : tn ≤ 1048576) (h3 : rn ≤ 1048576) : MOk m := by
  refine ⟨⟨by rw [h.z]; exact h1, by rw [h.s]; exact h2, by rw [h.r]; exact h3, fun r hr => ?_⟩, fun r hr => ?_⟩
  all_goals
    rw [← h.o.e] at hr
    obtain ⟨d, hd, rfl⟩ := List.mem_map.1 hr
    have := h.rb d hd
    omega
theorem DMd.far {B base : Nat} {w w' : World} {az ax ar : Option Addr} {cz cs cr sn tn rn : Nat} {m : Mdl} {ds : List RuD} (h : DMd B base w az ax ar cz cs cr sn tn rn m ds) (hd : DW B w w') : DMd B base w' az ax ar cz cs cr sn tn rn m ds :=
  ⟨⟨hd.own h.o.z h.B, hd.own h.o.s h.B, hd.own h.o.r h.B, h.o.e, fun d hdd => ⟨hd.own (h.o.d d hdd).1 h.B, hd.own (h.o.d d hdd).2 h.B⟩⟩, h.z, h.s, h.r, h.sep, h.zb, h.rb, h.B⟩
theorem kept_ne {w w' : World} {row : Option Nat} {base : Nat} {e : TypeId} {size n : Nat} {v : Value} {xs : List Value} (h : w.ownsRow base e size v n xs) (hg : w.grownBy w' row) (hne : ∀ q, v.ownBlock = some q → row ≠ some q) : w'.ownsRow base e size v n xs := by
  refine h.kept hg ?_
  rcases hv : v.ownBlock with _ | q
  · exact .inl rfl
  · exact .inr fun e => hne q hv e.symm
theorem MBox.kept {w w' : World} {base p : Nat} {x y z : Value} {row : Option Nat} (h : MBox w base p x y z) (hg : w.grownBy w' row) (hr : ∀ q, row = some q → q ≠ p) : MBox w' base p x y z :=
  kept_ne h hg (fun q hq e => hr q e (by simpa [Value.ownBlock] using hq.symm))
theorem sep_new {w : World} {base : Nat} {v v1 u : Value} {e : TypeId} {n : Nat} {xs : List Value} (hsep : ∀ q, v.ownBlock = some q → u.ownBlock ≠ some q) (hnew : v1.ownBlock = v.ownBlock ∨ v1.ownBlock = some w.heap.size) (hu : w.ownsRow base e 1 u n xs) : ∀ q, v1.ownBlock = some q → u.ownBlock ≠ some q := by
  intro q hq hq2
  rcases hnew with h | h
  · exact hsep q (h.symm.trans hq) hq2
  · rw [h] at hq
    have := (hu.lt q hq2).2
    have := Option.some.inj hq
    omega
theorem sep_new2 {w : World} {base : Nat} {v v1 u : Value} {e : TypeId} {n : Nat} {xs : List Value} (hsep : ∀ q, u.ownBlock = some q → v.ownBlock ≠ some q) (hnew : v1.ownBlock = v.ownBlock ∨ v1.ownBlock = some w.heap.size) (hu : w.ownsRow base e 1 u n xs) : ∀ q, u.ownBlock = some q → v1.ownBlock ≠ some q := by
  intro q hq2 hq
  rcases hnew with h | h
  · exact hsep q hq2 (h.symm.trans hq)
  · rw [h] at hq
    have := (hu.lt q hq2).2
    have := Option.some.inj hq
    omega
theorem strs6_at {w : World} (r : Nat) (hr : r < 6) : ∃ nm : ByteArray, nm.size ≤ 100 ∧ (w.alloc (Obj.cells #[Value.string ⟨#[103, 111]⟩, Value.string ⟨#[115, 116, 111, 112, 95, 49]⟩, Value.string ⟨#[111, 112, 101, 110]⟩, Value.string ⟨#[99, 108, 111, 115, 101]⟩, Value.string ⟨#[102, 97, 105, 108]⟩, Value.string ⟨#[114, 50]⟩] 9)).cell? ⟨w.heap.size, r, none⟩ = some (.string nm) := by
  match r, hr with
  | 0, _ => exact ⟨⟨#[103, 111]⟩, by decide, by go_simp⟩
  | 1, _ => exact ⟨⟨#[115, 116, 111, 112, 95, 49]⟩, by decide, by go_simp⟩
  | 2, _ => exact ⟨⟨#[111, 112, 101, 110]⟩, by decide, by go_simp⟩
  | 3, _ => exact ⟨⟨#[99, 108, 111, 115, 101]⟩, by decide, by go_simp⟩
  | 4, _ => exact ⟨⟨#[102, 97, 105, 108]⟩, by decide, by go_simp⟩
  | 5, _ => exact ⟨⟨#[114, 50]⟩, by decide, by go_simp⟩
theorem put_row {base b2 p n size : Nat} {wD : World} {x y z x' y' z' v : Value} {e : TypeId} {xs : List Value} (h : wD.ownsRow b2 e size v n xs) (hx : MBox wD base p x y z) (he : e ≠ 25) : (set3 wD p x' y' z').ownsRow b2 e size v n xs := by
  have hbo : wD.ownsRow base 25 1 (.slice (some ⟨p, 0, none⟩) 3 3) 3 _ := hx
  have hbx : wD.grownBy (set3 wD p x' y' z') (Value.slice (some ⟨p, 0, none⟩) 3 3).ownBlock := (MBox.set3 hx x' y' z').2
  exact own_keep h hbo he hbx
end Go.Proofs.YtgpmglfcdbpgkaaGreatDoor
