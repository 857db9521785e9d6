/- Is a memory suitable: both sides are suitB (printed by PMy.py). Condition: the blocks are in range. -/
import Derived.Test.YteengjcplmjakaaGreatDoorPPs
namespace Go.Proofs.YteengjcplmjakaaGreatDoor
open Go.RowKit

def allP (ts : List Tm) (bs : List Bs) : Bool := (ts.zip bs).all fun x => possB x.1.k x.1.n x.2
/-- A memory that suits the blocks and the number of variables. -/
def suitB (ts : List Tm) (X : Int) (m : Mem) : Bool := decide (m.bs.length = ts.length) && (bitsB m.vs X && allP ts m.bs)
theorem allP_bad {ts : List Tm} {bs : List Bs} {k : Nat} {t : Tm} {s : Bs} (h1 : ts[k]? = some t) (h2 : bs[k]? = some s) (h : possB t.k t.n s = false) : allP ts bs = false := by
  unfold allP
  rw [List.all_eq_false]
  refine ⟨(t, s), ?_, by simp [h]⟩
  have : (ts.zip bs)[k]? = some (t, s) := by rw [List.getElem?_zip_eq_some]; exact ⟨h1, h2⟩
  exact List.mem_of_getElem? this
theorem allP_all {ts : List Tm} {bs : List Bs} (h : ∀ j t s, j < ts.length → ts[j]? = some t → bs[j]? = some s → possB t.k t.n s = true) : allP ts bs = true := by
  unfold allP
  rw [List.all_eq_true]
  intro x hx
  obtain ⟨j, hj, he⟩ := List.getElem_of_mem hx
  have h1 : (ts.zip bs)[j]? = some x := by rw [List.getElem?_eq_getElem hj, he]
  rw [List.getElem?_zip_eq_some] at h1
  exact h j x.1 x.2 (List.getElem?_eq_some_iff.1 h1.1).1 h1.1 h1.2
/-- The blocks' terms are in range. -/
def BkB (ts : List Tm) : Prop := ∀ t ∈ ts, (7 ≤ t.k ∧ t.k ≤ 12) ∧ (0 ≤ t.n ∧ t.n ≤ 9999)
theorem run_trm : ∀ {l : List Tm} {n : Int}, runH l n ≠ none → ∀ t ∈ l, trmT t.k t.nm t.n = true
  | [], _, _, t, ht => absurd ht (by simp)
  | x :: l, n, h, t, ht => by
    have e : runH (x :: l) n = if trmT x.k x.nm x.n = true ∧ argI x.k ≤ n then runH l (n - argI x.k + 1) else none := rfl
    rw [e] at h
    split at h
    · rename_i hx
      rcases List.mem_cons.1 ht with rfl | ht
      · exact hx.1
      · exact run_trm h t ht
    · exact absurd rfl h
theorem wr_blk {p : Prg} (h : wrB p = true) : BkB (blk p) := by
  intro t ht
  unfold blk at ht
  obtain ⟨l, hl, ht⟩ := List.mem_flatMap.1 ht
  unfold blkL at ht
  obtain ⟨ht, h7⟩ := List.mem_filter.1 ht
  unfold isB at h7
  simp only [decide_eq_true_eq] at h7
  unfold wrB at h
  simp only [Bool.and_eq_true] at h
  have h1 := List.all_eq_true.1 h.2.2.2.2.2.1 l hl
  unfold linB exB at h1
  simp only [Bool.and_eq_true] at h1
  have h2 : trmT t.k t.nm t.n = true := by
    have h0 := h1.2.1
    unfold exF at h0
    refine run_trm (n := 0) ?_ t ht
    intro e
    rw [e] at h0
    cases h0
  unfold trmT inB at h2
  have hk : ¬ t.k = 1 := by omega
  rw [if_neg hk] at h2
  simp only [Bool.and_eq_true, decide_eq_true_eq] at h2
  obtain ⟨h3, _, h4⟩ := h2
  refine ⟨by omega, ?_⟩
  split at h4
  · simp only [decide_eq_true_eq] at h4; omega
  · simp only [decide_eq_true_eq] at h4; omega
theorem blk_len {p : Prg} (h : PgB p) : (blk p).length ≤ 1600 := by
  have hl := h.l
  have ht := h.t
  unfold blk
  have : ∀ l : List Lin, (∀ x ∈ l, x.ts.length ≤ 40) → (l.flatMap blkL).length ≤ 40 * l.length := by
    intro l
    induction l with
    | nil => intro _; simp
    | cons x l ih =>
      intro hx
      rw [List.flatMap_cons, List.length_append, List.length_cons]
      have h1 := ih (fun y hy => hx y (List.mem_cons_of_mem _ hy))
      have h2 := hx x List.mem_cons_self
      have h3 : (blkL x).length ≤ x.ts.length := List.length_filter_le _ _
      omega
  have := this p.ls ht
  omega
set_option maxHeartbeats 2000000 in
set_option maxRecDepth 100000 in
theorem c_l16Memory (p : Prg) (m : Mem) (a1 a2 a3 a4 x1 x2 : Option Addr) (c1 c2 c3 c4 d1 d2 : Nat) (w : World) (hbd : PgB p) (hbk : BkB (blk p)) (hm : MeOk m) (h : PgR w a1 a2 a3 a4 p) (hx : MeR w x1 x2 m) :
    Calls Tryz.prog 62 #[pv p a1 a2 a3 a4 c1 c2 c3 c4, mv m x1 x2 d1 d2] w fun e w' => e = .returned (.bool (suitB (blk p) p.vs.length m)) ∧ Below w.heap.size w w' := by
  have HT := Lib.hid (fun w h => c_l14Blocks p a1 a2 a3 a4 c1 c2 c3 c4 w hbd h)
  have hlen := blk_len hbd
  have HBK := Lib.hid hbk
  have H := Lib.hid h
  have HMR := Lib.hid hx
  have hvl := hbd.v
  have HV := Lib.hid (Eq.refl (suitB (blk p) p.vs.length m))
  generalize blk p = ts at *
  obtain ⟨nm, ins, vs, os, gd, ls⟩ := p
  obtain ⟨zs, bs⟩ := m
  have hzl := hm.v
  have hbl := hm.b
  clear hbd hbk h hx hm
  dsimp only [pv, mv] at *
  have HV : Hid (suitB ts vs.length ⟨zs, bs⟩ = (decide (bs.length = ts.length) && (bitsB zs vs.length && allP ts bs))) := Lib.hid rfl
  generalize suitB ts vs.length ⟨zs, bs⟩ = R at *
  have B0 := Lib.hid (below_alloc (below_alloc (Below.refl w.heap.size w) (.cells #[.string nm, .slice a1 ins.length c1, .slice a2 vs.length c2, .slice a3 os.length c3, .string gd, .slice a4 ls.length c4] 27)) (.cells #[.slice x1 zs.length d1, .slice x2 bs.length d2] 48))
  have k0 : ((w.alloc (.cells #[.string nm, .slice a1 ins.length c1, .slice a2 vs.length c2, .slice a3 os.length c3, .string gd, .slice a4 ls.length c4] 27)).alloc (.cells #[.slice x1 zs.length d1, .slice x2 bs.length d2] 48)).cell? ⟨w.heap.size, 0, none⟩ = some (.string nm) := by go_simp
  have K0 := Lib.hid k0
  have k1 : ((w.alloc (.cells #[.string nm, .slice a1 ins.length c1, .slice a2 vs.length c2, .slice a3 os.length c3, .string gd, .slice a4 ls.length c4] 27)).alloc (.cells #[.slice x1 zs.length d1, .slice x2 bs.length d2] 48)).cell? ⟨w.heap.size, 1, none⟩ = some (.slice a1 ins.length c1) := by go_simp
  have K1 := Lib.hid k1
  have k2 : ((w.alloc (.cells #[.string nm, .slice a1 ins.length c1, .slice a2 vs.length c2, .slice a3 os.length c3, .string gd, .slice a4 ls.length c4] 27)).alloc (.cells #[.slice x1 zs.length d1, .slice x2 bs.length d2] 48)).cell? ⟨w.heap.size, 2, none⟩ = some (.slice a2 vs.length c2) := by go_simp
  have K2 := Lib.hid k2
  have k3 : ((w.alloc (.cells #[.string nm, .slice a1 ins.length c1, .slice a2 vs.length c2, .slice a3 os.length c3, .string gd, .slice a4 ls.length c4] 27)).alloc (.cells #[.slice x1 zs.length d1, .slice x2 bs.length d2] 48)).cell? ⟨w.heap.size, 3, none⟩ = some (.slice a3 os.length c3) := by go_simp
  have K3 := Lib.hid k3
  have k4 : ((w.alloc (.cells #[.string nm, .slice a1 ins.length c1, .slice a2 vs.length c2, .slice a3 os.length c3, .string gd, .slice a4 ls.length c4] 27)).alloc (.cells #[.slice x1 zs.length d1, .slice x2 bs.length d2] 48)).cell? ⟨w.heap.size, 4, none⟩ = some (.string gd) := by go_simp
  have K4 := Lib.hid k4
  have k5 : ((w.alloc (.cells #[.string nm, .slice a1 ins.length c1, .slice a2 vs.length c2, .slice a3 os.length c3, .string gd, .slice a4 ls.length c4] 27)).alloc (.cells #[.slice x1 zs.length d1, .slice x2 bs.length d2] 48)).cell? ⟨w.heap.size, 5, none⟩ = some (.slice a4 ls.length c4) := by go_simp
  have K5 := Lib.hid k5
  have y0 : ((w.alloc (.cells #[.string nm, .slice a1 ins.length c1, .slice a2 vs.length c2, .slice a3 os.length c3, .string gd, .slice a4 ls.length c4] 27)).alloc (.cells #[.slice x1 zs.length d1, .slice x2 bs.length d2] 48)).cell? ⟨w.heap.size + 1, 0, none⟩ = some (.slice x1 zs.length d1) := by go_simp
  have Y0 := Lib.hid y0
  have y1 : ((w.alloc (.cells #[.string nm, .slice a1 ins.length c1, .slice a2 vs.length c2, .slice a3 os.length c3, .string gd, .slice a4 ls.length c4] 27)).alloc (.cells #[.slice x1 zs.length d1, .slice x2 bs.length d2] 48)).cell? ⟨w.heap.size + 1, 1, none⟩ = some (.slice x2 bs.length d2) := by go_simp
  have Y1 := Lib.hid y1
  go_enter Tryz.func62, Tryz.ntmps62
  go_upto_region 1 with (fail)
  generalize (w.alloc (.cells #[.string nm, .slice a1 ins.length c1, .slice a2 vs.length c2, .slice a3 os.length c3, .string gd, .slice a4 ls.length c4] 27)).alloc (.cells #[.slice x1 zs.length d1, .slice x2 bs.length d2] 48) = W at *
  go_wp2_with (fail)
  refine (HT.out _ (H.out.below B0.out)).mono ?_
  rintro e w1 ⟨A, c, rfl, ho, hb⟩
  have B1 := Lib.hid (below_chain B0.out hb)
  have HTR := Lib.hid (Rd.own ho)
  have Y1 := Lib.hid (cell_later hb Y1.out)
  replace y0 := cell_later hb y0
  replace y1 := cell_later hb y1
  replace k2 := cell_later hb k2
  clear hb ho k0 k1 k3 k4 k5
  generalize htn : ts.length = tn at *
  generalize hbn : bs.length = bn at *
  have HTN := Lib.hid htn
  have HBN := Lib.hid hbn
  have HTN := Lib.hid htn.symm
  have HBN := Lib.hid hbn.symm
  clear htn hbn
  by_cases hl : tn = bn
  rotate_left
  · have hne : ((bn : Int) != (tn : Int)) = true := by simp; omega
    obtain rfl : R = false := by rw [HV.out, decide_eq_false (fun e => hl e.symm)]; rfl
    clear HV hl
    go_wp2_with (fail)
    go_ret
    exact ⟨rfl, B1.out⟩
  subst hl
  rw [decide_eq_true rfl, Bool.true_and] at HV
  have HC := Lib.hid (c_l22Bits x1 d1 zs.length zs (vs.length : Int) w1 rfl hzl (HMR.out.v.below B1.out))
  generalize bitsB zs vs.length = u at *
  cases u
  · obtain rfl : R = false := by rw [HV.out]; rfl
    go_wp2_with (first
      | (go_at_call 109
         refine HC.out.mono ?_
         rintro e w2 ⟨rfl, rfl⟩)
      )
    go_ret
    exact ⟨rfl, B1.out⟩
  rw [Bool.true_and] at HV
  go_upto_region 4 with (first
      | (go_at_call 109
         refine HC.out.mono ?_
         rintro e w2 ⟨rfl, rfl⟩)
      )
  go_wp2_with (fail)
  go_loopw [6] (fun i wr => ∃ k : Nat, k ≤ tn ∧ i = .int .i64 k ∧ Hid (∀ j t s, j < k → ts[j]? = some t → bs[j]? = some s → possB t.k t.n s = true) ∧ Hid (Below w1.heap.size w1 wr)) (fun i _ => tn - (intOf i).toNat)
  case atStart => exact ⟨0, Nat.zero_le _, rfl, Lib.hid (fun j t s hj _ _ => absurd hj (by omega)), Lib.hid (Below.refl _ _)⟩
  case round =>
    obtain ⟨k, hk, rfl, ha, hb⟩ := hrel
    clear y0 y1
    by_cases hlt : k < tn
    · obtain ⟨⟨tk, tm, tx⟩, hzt⟩ : ∃ z, ts[k]? = some z := ⟨_, List.getElem?_eq_getElem (by have := HTN.out; omega)⟩
      obtain ⟨⟨sa, sb, sc⟩, hzs⟩ : ∃ z, bs[k]? = some z := ⟨_, List.getElem?_eq_getElem (by have := HBN.out; omega)⟩
      obtain ⟨⟨q1, q2⟩, q3, q4⟩ := HBK.out _ (List.mem_of_getElem? hzt)
      have HZT := Lib.hid hzt
      have HZS := Lib.hid hzs
      dsimp only at q1 q2 q3 q4
      have HP := Lib.hid (fun w => c_l15Possible tk tm tx sa sb sc w ⟨q1, q2⟩ ⟨q3, q4⟩)
      obtain ⟨b1, o1, rfl, m9, m0, m1, m2⟩ := (HTR.out.below hb.out).tm hzt
      obtain ⟨b2, o2, rfl, n9, n0, n1, n2⟩ := ((HMR.out.b.below B1.out).below hb.out).bs hzs
      dsimp only at m0 m1 m2 n0 n1 n2
      have y1 := cell_later hb.out Y1.out
      have hk0 : (0 : Int) ≤ (k : Int) := by omega
      have hk1 : (k : Int) < tn := by omega
      obtain ⟨q, hq⟩ : ∃ q, q = possB tk tx ⟨sa, sb, sc⟩ := ⟨_, rfl⟩
      have HQ := Lib.hid hq
      rw [← hq] at HP
      clear hzt hzs q1 q2 q3 q4 hq
      go_upto_region 7 with (fail)
      refine wp_region_held_drew (S := (fun w' => (w'.cell? ⟨b1, o1 + k * 3, none⟩ = some (.int .i64 tk) ∧ w'.cell? ⟨b1, o1 + k * 3 + 1, none⟩ = some (.string tm) ∧ w'.cell? ⟨b1, o1 + k * 3 + 2, none⟩ = some (.int .i64 tx)) ∧ (w'.cell? ⟨b2, o2 + k * 3, none⟩ = some (.int .i64 sa) ∧ w'.cell? ⟨b2, o2 + k * 3 + 1, none⟩ = some (.int .i64 sb) ∧ w'.cell? ⟨b2, o2 + k * 3 + 2, none⟩ = some (.int .i64 sc)) ∧ w'.cell? ⟨w.heap.size + 1, 1, none⟩ = some (.slice (some ⟨b2, o2, none⟩) tn d2))) (by kernel_rfl) ?_ (fun hHeld => ?_)
      · exact ⟨⟨m0, m1, m2⟩, ⟨n0, n1, n2⟩, y1⟩
      refine rg_take (v := ?_) 0 rfl (by kernel_rfl) (by kernel_rfl) (by kernel_rfl) (fun _ _ _ h => h) (by kernel_rfl) ?_ (by assumption) ?_
      rotate_left
      · (intro w' hSw; (try dsimp only at hSw); go_simp; first | done | with_reducible rfl)
      simp only [Act.put, List.setIfInBounds_toArray, List.set_cons_zero, List.set_cons_succ]
      refine rg_take (v := ?_) 1 rfl (by kernel_rfl) (by kernel_rfl) (by kernel_rfl) (fun _ _ _ h => h) (by kernel_rfl) ?_ (by assumption) ?_
      rotate_left
      · (intro w' hSw; (try dsimp only at hSw); go_simp; first | done | with_reducible rfl)
      simp only [Act.put, List.setIfInBounds_toArray, List.set_cons_zero, List.set_cons_succ]
      refine rg_take (v := ?_) 2 rfl (by kernel_rfl) (by kernel_rfl) (by kernel_rfl) (fun _ _ _ h => h) (by kernel_rfl) ?_ (by assumption) ?_
      rotate_left
      · (intro w' hSw; (try dsimp only at hSw); go_simp; first | done | with_reducible rfl)
      simp only [Act.put, List.setIfInBounds_toArray, List.set_cons_zero, List.set_cons_succ]
      refine rg_take (v := ?_) 3 rfl (by kernel_rfl) (by kernel_rfl) (by kernel_rfl) (fun _ _ _ h => h) (by kernel_rfl) ?_ (by assumption) ?_
      rotate_left
      · (intro w' hSw; (try dsimp only at hSw); go_simp; first | done | with_reducible rfl)
      simp only [Act.put, List.setIfInBounds_toArray, List.set_cons_zero, List.set_cons_succ]
      refine rg_take (v := ?_) 4 rfl (by kernel_rfl) (by kernel_rfl) (by kernel_rfl) (fun _ _ _ h => h) (by kernel_rfl) ?_ (by assumption) ?_
      rotate_left
      · (intro w' hSw; (try dsimp only at hSw); go_simp; first | done | with_reducible rfl)
      simp only [Act.put, List.setIfInBounds_toArray, List.set_cons_zero, List.set_cons_succ]
      refine rg_take (v := ?_) 5 rfl (by kernel_rfl) (by kernel_rfl) (by kernel_rfl) (fun _ _ _ h => h) (by kernel_rfl) ?_ (by assumption) ?_
      rotate_left
      · (intro w' hSw; (try dsimp only at hSw); go_simp; first | done | with_reducible rfl)
      simp only [Act.put, List.setIfInBounds_toArray, List.set_cons_zero, List.set_cons_succ]
      refine rg_take (v := ?_) 6 rfl (by kernel_rfl) (by kernel_rfl) (by kernel_rfl) (fun _ _ _ h => h) (by kernel_rfl) ?_ (by assumption) ?_
      rotate_left
      · (intro w' hSw; (try dsimp only at hSw); go_simp; first | done | with_reducible rfl)
      simp only [Act.put, List.setIfInBounds_toArray, List.set_cons_zero, List.set_cons_succ]
      refine rg_take (v := ?_) 7 rfl (by kernel_rfl) (by kernel_rfl) (by kernel_rfl) (fun _ _ _ h => h) (by kernel_rfl) ?_ (by assumption) ?_
      rotate_left
      · (intro w' hSw; (try dsimp only at hSw); go_simp; first | done | with_reducible rfl)
      simp only [Act.put, List.setIfInBounds_toArray, List.set_cons_zero, List.set_cons_succ]
      refine rg_take (v := ?_) 8 rfl (by kernel_rfl) (by kernel_rfl) (by kernel_rfl) (fun _ _ _ h => h) (by kernel_rfl) ?_ (by assumption) ?_
      rotate_left
      · (intro w' hSw; (try dsimp only at hSw); go_simp; first | done | with_reducible rfl)
      simp only [Act.put, List.setIfInBounds_toArray, List.set_cons_zero, List.set_cons_succ]
      refine rg_run 9 rfl (by kernel_rfl) (by kernel_rfl) (fun K hK => ?_)
      go_simp
      refine (HP.out _).mono ?_
      rintro e w2 ⟨rfl, hb2⟩
      have hbs : Below wr.heap.size wr w2 := below_chain (Below.refl _ _).drew hb2
      have HB2 := Lib.hid (below_chain hb.out hbs)
      have HS2 := Lib.hid hbs
      clear hb2 hbs
      go_wp2
      have hbs := HS2.out
      clear hHeld
      refine hK.out _ _ (⟨⟨cell_later hbs m0, cell_later hbs m1, cell_later hbs m2⟩, ⟨cell_later hbs n0, cell_later hbs n1, cell_later hbs n2⟩, cell_later hbs y1⟩) (fun hHeld => ?_)
      clear hK K
      try simp only [Act.put, List.setIfInBounds_toArray, List.set_cons_zero, List.set_cons_succ]
      refine rg_take (v := ?_) 10 rfl (by kernel_rfl) (by kernel_rfl) (by kernel_rfl) (fun _ _ _ h => h) (by kernel_rfl) ?_ (by assumption) ?_
      rotate_left
      · (intro w' hSw; (try dsimp only at hSw); go_simp; first | done | with_reducible rfl)
      simp only [Act.put, List.setIfInBounds_toArray, List.set_cons_zero, List.set_cons_succ]
      refine wpAnyH_done (by kernel_rfl) ?_ _
      clear hHeld
      clear hbs
      cases q
      · go_wp2_with (fail)
        go_ret
        exact ⟨ret_bool (by rw [HV.out, allP_bad HZT.out HZS.out HQ.out.symm]), below_chain B1.out HB2.out⟩
      · go_wp2_with (fail)
        go_roundw
        case rel =>
          refine ⟨k + 1, by omega, by go_num, Lib.hid (fun j t s hj h1 h2 => ?_), HB2⟩
          rcases Nat.lt_or_ge j k with h | h
          · exact ha.out j t s h h1 h2
          · obtain rfl : j = k := by omega
            rw [HZT.out] at h1
            rw [HZS.out] at h2
            simp only [Option.some.injEq] at h1 h2
            subst h1; subst h2
            exact HQ.out.symm
        case measure => simp [intOf]; omega
    · obtain rfl : k = tn := by omega
      have y1 := cell_later hb.out Y1.out
      go_wp2_with (fail)
      go_ret
      exact ⟨ret_bool (by rw [HV.out, allP_all (fun j t s hj => ha.out j t s (by rw [HTN.out]; exact hj))]), below_chain B1.out hb.out⟩
set_option maxHeartbeats 2000000 in
set_option maxRecDepth 100000 in
theorem c_suits (m : Mem) (x1 x2 A : Option Addr) (d1 d2 c tn : Nat) (X : Int) (ts : List Tm) (w : World) (htn : tn = ts.length) (hlen : tn ≤ 1600) (hbk : BkB ts) (hm : MeOk m) (hr : Rd w A (tmCells ts)) (hx : MeR w x1 x2 m) :
    Calls Tryz.prog 105 #[mv m x1 x2 d1 d2, .int .i64 X, .slice A tn c] w fun e w' => e = .returned (.bool (suitB ts X m)) ∧ Below w.heap.size w w' := by
  have HBK := Lib.hid hbk
  have HMR := Lib.hid hx
  have HTN := Lib.hid htn
  have HTR0 := Lib.hid hr
  obtain ⟨zs, bs⟩ := m
  have hzl := hm.v
  have hbl := hm.b
  clear hbk hx hm htn hr
  dsimp only [mv] at *
  have HV : Hid (suitB ts X ⟨zs, bs⟩ = (decide (bs.length = ts.length) && (bitsB zs X && allP ts bs))) := Lib.hid rfl
  rw [← HTN.out] at HV
  generalize suitB ts X ⟨zs, bs⟩ = R at *
  have B0 := Lib.hid (below_alloc (Below.refl w.heap.size w) (.cells #[.slice x1 zs.length d1, .slice x2 bs.length d2] 48))
  have HTR := Lib.hid (HTR0.out.below B0.out)
  have y0 : (w.alloc (.cells #[.slice x1 zs.length d1, .slice x2 bs.length d2] 48)).cell? ⟨w.heap.size, 0, none⟩ = some (.slice x1 zs.length d1) := by go_simp
  have Y0 := Lib.hid y0
  have y1 : (w.alloc (.cells #[.slice x1 zs.length d1, .slice x2 bs.length d2] 48)).cell? ⟨w.heap.size, 1, none⟩ = some (.slice x2 bs.length d2) := by go_simp
  have Y1 := Lib.hid y1
  clear HTR0
  go_enter Tryz.func105, Tryz.ntmps105
  go_upto_region 1 with (fail)
  generalize w.alloc (.cells #[.slice x1 zs.length d1, .slice x2 bs.length d2] 48) = W at *
  generalize hbn : bs.length = bn at *
  have HBN := Lib.hid hbn.symm
  clear hbn
  have HC := Lib.hid (c_areBits x1 d1 zs.length zs X W rfl hzl (HMR.out.v.below B0.out))
  generalize bitsB zs X = u at *
  cases u
  · obtain rfl : R = false := by rw [HV.out]; simp
    go_wp2_with (first
      | (go_at_call 108
         refine HC.out.mono ?_
         rintro e w2 ⟨rfl, rfl⟩)
      )
    go_ret
    exact ⟨rfl, B0.out⟩
  by_cases hl : tn = bn
  rotate_left
  · have hne : ((bn : Int) != (tn : Int)) = true := by simp; omega
    obtain rfl : R = false := by rw [HV.out, decide_eq_false (fun e => hl e.symm)]; rfl
    clear HV hl
    go_wp2_with (first
      | (go_at_call 108
         refine HC.out.mono ?_
         rintro e w2 ⟨rfl, rfl⟩)
      )
    go_ret
    exact ⟨rfl, B0.out⟩
  subst hl
  rw [decide_eq_true rfl, Bool.true_and, Bool.true_and] at HV
  go_upto_region 3 with (first
      | (go_at_call 108
         refine HC.out.mono ?_
         rintro e w2 ⟨rfl, rfl⟩)
      )
  go_wp2_with (fail)
  go_loopw [7, 8, 24] (fun _ _ i wr => ∃ k : Nat, k ≤ tn ∧ i = .int .i64 k ∧ Hid (∀ j t s, j < k → ts[j]? = some t → bs[j]? = some s → possB t.k t.n s = true) ∧ Hid (Below W.heap.size W wr)) (fun _ _ i _ => tn - (intOf i).toNat)
  case atStart => exact ⟨0, Nat.zero_le _, rfl, Lib.hid (fun j t s hj _ _ => absurd hj (by omega)), Lib.hid (Below.refl _ _)⟩
  case round =>
    obtain ⟨k, hk, rfl, ha, hb⟩ := hrel
    clear y0 y1
    by_cases hlt : k < tn
    · obtain ⟨⟨tk, tm, tx⟩, hzt⟩ : ∃ z, ts[k]? = some z := ⟨_, List.getElem?_eq_getElem (by have := HTN.out; omega)⟩
      obtain ⟨⟨sa, sb, sc⟩, hzs⟩ : ∃ z, bs[k]? = some z := ⟨_, List.getElem?_eq_getElem (by have := HBN.out; omega)⟩
      obtain ⟨⟨q1, q2⟩, q3, q4⟩ := HBK.out _ (List.mem_of_getElem? hzt)
      have HZT := Lib.hid hzt
      have HZS := Lib.hid hzs
      dsimp only at q1 q2 q3 q4
      have HP := Lib.hid (fun w => c_isPossible tk tm tx sa sb sc w ⟨q1, q2⟩ ⟨q3, q4⟩)
      obtain ⟨b1, o1, rfl, m9, m0, m1, m2⟩ := (HTR.out.below hb.out).tm hzt
      obtain ⟨b2, o2, rfl, n9, n0, n1, n2⟩ := ((HMR.out.b.below B0.out).below hb.out).bs hzs
      dsimp only at m0 m1 m2 n0 n1 n2
      have y1 := cell_later hb.out Y1.out
      have hk0 : (0 : Int) ≤ (k : Int) := by omega
      have hk1 : (k : Int) < tn := by omega
      obtain ⟨q, hq⟩ : ∃ q, q = possB tk tx ⟨sa, sb, sc⟩ := ⟨_, rfl⟩
      have HQ := Lib.hid hq
      rw [← hq] at HP
      clear hzt hzs q1 q2 q3 q4 hq
      have halt := below_alloc (Below.refl wr.heap.size wr) (.cells #[.int .i64 tk, .string tm, .int .i64 tx] 60)
      have HBT := Lib.hid (below_chain hb.out halt)
      clear halt
      go_upto_region 6 with (fail)
      have e0 : (wr.alloc (.cells #[.int .i64 tk, .string tm, .int .i64 tx] 60)).cell? ⟨wr.heap.size, 0, none⟩ = some (.int .i64 tk) := by go_simp
      have e1 : (wr.alloc (.cells #[.int .i64 tk, .string tm, .int .i64 tx] 60)).cell? ⟨wr.heap.size, 1, none⟩ = some (.string tm) := by go_simp
      have e2 : (wr.alloc (.cells #[.int .i64 tk, .string tm, .int .i64 tx] 60)).cell? ⟨wr.heap.size, 2, none⟩ = some (.int .i64 tx) := by go_simp
      have bL := below_alloc (Below.refl wr.heap.size wr) (.cells #[.int .i64 tk, .string tm, .int .i64 tx] 60)
      replace n0 := cell_later bL n0
      replace n1 := cell_later bL n1
      replace n2 := cell_later bL n2
      replace y1 := cell_later bL y1
      obtain ⟨g, hg⟩ : ∃ g, g = wr.heap.size := ⟨_, rfl⟩
      rw [← hg] at e0 e1 e2 ⊢
      generalize wr.alloc (.cells #[.int .i64 tk, .string tm, .int .i64 tx] 60) = wl at *
      clear bL m0 m1 m2 hg
      refine wp_region_held_drew (S := (fun w' => (w'.cell? ⟨g, 0, none⟩ = some (.int .i64 tk) ∧ w'.cell? ⟨g, 1, none⟩ = some (.string tm) ∧ w'.cell? ⟨g, 2, none⟩ = some (.int .i64 tx)) ∧ (w'.cell? ⟨b2, o2 + k * 3, none⟩ = some (.int .i64 sa) ∧ w'.cell? ⟨b2, o2 + k * 3 + 1, none⟩ = some (.int .i64 sb) ∧ w'.cell? ⟨b2, o2 + k * 3 + 2, none⟩ = some (.int .i64 sc)) ∧ w'.cell? ⟨w.heap.size, 1, none⟩ = some (.slice (some ⟨b2, o2, none⟩) tn d2))) (by kernel_rfl) ?_ (fun hHeld => ?_)
      · exact ⟨⟨e0, e1, e2⟩, ⟨n0, n1, n2⟩, y1⟩
      refine rg_take (v := ?_) 0 rfl (by kernel_rfl) (by kernel_rfl) (by kernel_rfl) (fun _ _ _ h => h) (by kernel_rfl) ?_ (by assumption) ?_
      rotate_left
      · (intro w' hSw; (try dsimp only at hSw); go_simp; first | done | with_reducible rfl)
      simp only [Act.put, List.setIfInBounds_toArray, List.set_cons_zero, List.set_cons_succ]
      refine rg_take (v := ?_) 1 rfl (by kernel_rfl) (by kernel_rfl) (by kernel_rfl) (fun _ _ _ h => h) (by kernel_rfl) ?_ (by assumption) ?_
      rotate_left
      · (intro w' hSw; (try dsimp only at hSw); go_simp; first | done | with_reducible rfl)
      simp only [Act.put, List.setIfInBounds_toArray, List.set_cons_zero, List.set_cons_succ]
      refine rg_take (v := ?_) 2 rfl (by kernel_rfl) (by kernel_rfl) (by kernel_rfl) (fun _ _ _ h => h) (by kernel_rfl) ?_ (by assumption) ?_
      rotate_left
      · (intro w' hSw; (try dsimp only at hSw); go_simp; first | done | with_reducible rfl)
      simp only [Act.put, List.setIfInBounds_toArray, List.set_cons_zero, List.set_cons_succ]
      refine rg_take (v := ?_) 3 rfl (by kernel_rfl) (by kernel_rfl) (by kernel_rfl) (fun _ _ _ h => h) (by kernel_rfl) ?_ (by assumption) ?_
      rotate_left
      · (intro w' hSw; (try dsimp only at hSw); go_simp; first | done | with_reducible rfl)
      simp only [Act.put, List.setIfInBounds_toArray, List.set_cons_zero, List.set_cons_succ]
      refine rg_take (v := ?_) 4 rfl (by kernel_rfl) (by kernel_rfl) (by kernel_rfl) (fun _ _ _ h => h) (by kernel_rfl) ?_ (by assumption) ?_
      rotate_left
      · (intro w' hSw; (try dsimp only at hSw); go_simp; first | done | with_reducible rfl)
      simp only [Act.put, List.setIfInBounds_toArray, List.set_cons_zero, List.set_cons_succ]
      refine rg_take (v := ?_) 5 rfl (by kernel_rfl) (by kernel_rfl) (by kernel_rfl) (fun _ _ _ h => h) (by kernel_rfl) ?_ (by assumption) ?_
      rotate_left
      · (intro w' hSw; (try dsimp only at hSw); go_simp; first | done | with_reducible rfl)
      simp only [Act.put, List.setIfInBounds_toArray, List.set_cons_zero, List.set_cons_succ]
      refine rg_run 6 rfl (by kernel_rfl) (by kernel_rfl) (fun K hK => ?_)
      go_simp
      refine (HP.out _).mono ?_
      rintro e w2 ⟨rfl, hb2⟩
      have hbs : Below wl.heap.size wl w2 := below_chain (Below.refl _ _).drew hb2
      have HB2 := Lib.hid (below_chain HBT.out hbs)
      have HS2 := Lib.hid hbs
      clear hb2 hbs
      go_wp2
      have hbs := HS2.out
      clear hHeld
      refine hK.out _ _ (⟨⟨cell_later hbs e0, cell_later hbs e1, cell_later hbs e2⟩, ⟨cell_later hbs n0, cell_later hbs n1, cell_later hbs n2⟩, cell_later hbs y1⟩) (fun hHeld => ?_)
      clear hK K
      try simp only [Act.put, List.setIfInBounds_toArray, List.set_cons_zero, List.set_cons_succ]
      refine rg_take (v := ?_) 7 rfl (by kernel_rfl) (by kernel_rfl) (by kernel_rfl) (fun _ _ _ h => h) (by kernel_rfl) ?_ (by assumption) ?_
      rotate_left
      · (intro w' hSw; (try dsimp only at hSw); go_simp; first | done | with_reducible rfl)
      simp only [Act.put, List.setIfInBounds_toArray, List.set_cons_zero, List.set_cons_succ]
      refine wpAnyH_done (by kernel_rfl) ?_ _
      clear hHeld
      clear hbs
      cases q
      · go_wp2_with (fail)
        go_ret
        exact ⟨ret_bool (by rw [HV.out, allP_bad HZT.out HZS.out HQ.out.symm]), below_chain B0.out HB2.out⟩
      · go_wp2_with (fail)
        go_roundw
        case rel =>
          refine ⟨k + 1, by omega, by go_num, Lib.hid (fun j t s hj h1 h2 => ?_), HB2⟩
          rcases Nat.lt_or_ge j k with h | h
          · exact ha.out j t s h h1 h2
          · obtain rfl : j = k := by omega
            rw [HZT.out] at h1
            rw [HZS.out] at h2
            simp only [Option.some.injEq] at h1 h2
            subst h1; subst h2
            exact HQ.out.symm
        case measure => simp [intOf]; omega
    · obtain rfl : k = tn := by omega
      have y1 := cell_later hb.out Y1.out
      go_wp2_with (fail)
      go_ret
      exact ⟨ret_bool (by rw [HV.out, allP_all (fun j t s hj => ha.out j t s (by rw [HTN.out]; exact hj))]), below_chain B0.out hb.out⟩
end Go.Proofs.YteengjcplmjakaaGreatDoor
