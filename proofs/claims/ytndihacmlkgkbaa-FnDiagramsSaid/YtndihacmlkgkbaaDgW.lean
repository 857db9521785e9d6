/- The reference's walk: how much it makes; contracts of l22Walk, l22Canonical, l22Same. Condition: the nodes lead to earlier ones; the sizes. -/
import Derived.Test.YtndihacmlkgkbaaDgS
namespace Go.Proofs.Ytndihacmlkgkbaa
open Go.RowKit

def cnt (names : List Int) : Nat := names.countP fun z => decide (z ≠ 0)
theorem cnt_le (names : List Int) : cnt names ≤ names.length := List.countP_le_length
theorem cnt_set {names : List Int} {r : Nat} {v : Int} (h : r < names.length) (h0 : names.getD r 0 = 0) : cnt (names.set r v) = cnt names + (if v = 0 then 0 else 1) := by
  have e : names[r] = 0 := by simpa [List.getD_eq_getElem?_getD, h] using h0
  unfold cnt
  rw [List.countP_set h, e]
  by_cases hv : v = 0 <;> simp [hv]
structure WBd (nodes : List Nd) (st : Cs) (r : Nat) (R : Cs × Int) : Prop where
  len : R.1.1.length = nodes.length + 2
  nn : ∀ q, 0 ≤ R.1.1.getD q 0
  v : 0 ≤ R.2
  hi : ∀ q, r < q → R.1.1.getD q 0 = st.1.getD q 0
  c : R.1.2.length ≤ cnt R.1.1
theorem wlk_bd {nodes : List Nd} (hg : Good nodes) : ∀ (f : Nat) (st : Cs) (r : Nat), r < f → r < nodes.length + 2 → st.1.length = nodes.length + 2 → (∀ q, 0 ≤ st.1.getD q 0) → st.2.length ≤ cnt st.1 → WBd nodes st r (wlk nodes f st r)
  | 0, _, _, h, _, _, _, _ => by omega
  | f + 1, st, r, hf, hr, hl, hn, hc => by
    unfold wlk
    by_cases h2 : r < 2
    · rw [if_pos h2]
      exact ⟨hl, hn, by simp, fun _ _ => rfl, hc⟩
    · rw [if_neg h2]
      by_cases h3 : 0 < st.1.getD r 0
      · rw [if_pos h3]
        exact ⟨hl, hn, by show 0 ≤ st.1.getD r 0; omega, fun _ _ => rfl, hc⟩
      · rw [if_neg h3]
        have hr0 : st.1.getD r 0 = 0 := by have := hn r; omega
        obtain ⟨x, hx⟩ : ∃ x, nodes[r - 2]? = some x := ⟨_, List.getElem?_eq_getElem (by omega)⟩
        obtain ⟨g1, g2, g3, g4, g5⟩ := hg _ x hx
        rw [getD_nd hx]
        have wa := wlk_bd hg f st x.lo.toNat (by omega) (by omega) hl hn hc
        have wb := wlk_bd hg f (wlk nodes f st x.lo.toNat).1 x.hi.toNat (by omega) (by omega) wa.len wa.nn wa.c
        simp only
        generalize wlk nodes f st x.lo.toNat = Aq at *
        generalize wlk nodes f Aq.1 x.hi.toNat = Bq at *
        have hz : Bq.1.1.getD r 0 = 0 := by rw [wb.hi r (by omega), wa.hi r (by omega)]; exact hr0
        have hlr : r < Bq.1.1.length := by rw [wb.len]; exact hr
        have hv : 0 ≤ (mkN Bq.1.2 ⟨x.i, Aq.2, Bq.2⟩).2 ∧ (mkN Bq.1.2 ⟨x.i, Aq.2, Bq.2⟩).1.length ≤ Bq.1.2.length + (if (mkN Bq.1.2 ⟨x.i, Aq.2, Bq.2⟩).2 = 0 then 0 else 1) := by
          unfold mkN
          split
          · exact ⟨wa.v, by simp⟩
          · split
            · exact ⟨by simp; omega, by simp⟩
            · refine ⟨by simp; omega, ?_⟩
              simp only [List.length_append, List.length_singleton]
              rw [if_neg (by omega)]
              omega
        generalize mkN Bq.1.2 ⟨x.i, Aq.2, Bq.2⟩ = M at *
        refine ⟨by rw [List.length_set]; exact wb.len, fun q => ?_, hv.1, fun q hq => ?_, ?_⟩
        · by_cases e : r = q
          · subst e
            simp only
            rw [getD_set_eq hlr]; exact hv.1
          · simp only
            rw [getD_set_ne2 e]; exact wb.nn q
        · simp only
          rw [getD_set_ne2 (by omega), wb.hi q (by omega), wa.hi q (by omega)]
        · simp only
          rw [cnt_set hlr hz]
          have := wb.c
          have := hv.2
          omega
theorem SB.other {lo bo : Nat} {w w' : World} {out : List Nd} {b2 s2 n2 : Nat} {e2 : TypeId} {v2 : Value} {x2 : List Value} (h : SB lo w bo out) (ho : w.ownsRow b2 e2 s2 v2 n2 x2) (h1 : e2 ≠ 77) (h2 : e2 ≠ 57) (hg : w.grownBy w' v2.ownBlock) : SB lo w' bo out := by
  obtain ⟨v, hb, hr⟩ := h
  refine ⟨v, hb.kept hg ?_, hr.kept hg ?_⟩
  · exact .inr (fun e => own_ne ho hb h1 bo e.symm rfl)
  · rcases hv : v.ownBlock with _ | q
    · exact .inl rfl
    · exact .inr (fun e => own_ne ho hr h2 q e.symm hv)
def PW (lo bn k : Nat) (o : Obj) : Prop := PS lo k o ∨ (lo ≤ k ∧ k = bn)
theorem ints_set (l : List Int) (r : Nat) (v : Int) : (ints l).set r (.int .i64 v) = ints (l.set r v) := by simp [ints, List.map_set]
theorem PW.below {lo bn : Nat} {w a : World} (h : Fr (PW lo bn) w a) (hl : lo ≤ w.heap.size) : Below lo w a := h.below (fun _ _ hp => hp.elim (fun h => h.1) (fun h => h.1)) hl
set_option maxHeartbeats 1000000 in
set_option maxRecDepth 100000 in
theorem c_l22Walk (lo bo bn : Nat) (A : Option Addr) (c n N : Nat) (nodes : List Nd) (W0 : World) (hn : n = nodes.length) (hN : N = n + 2) (hs : n ≤ 1099511627000) (hg : Good nodes) (hrd : Rd W0 A (ndCells nodes)) (hlo : W0.heap.size ≤ lo) :
    ∀ (f : Nat) (st : Cs) (r : Nat) (w : World), r < f → r < n + 2 → st.1.length = n + 2 → (∀ q, 0 ≤ st.1.getD q 0) → st.2.length ≤ cnt st.1 → Below W0.heap.size W0 w → lo ≤ w.heap.size → SB lo w bo st.2 → w.ownsRow lo 2 1 (.slice (some ⟨bn, 0, none⟩) N N) N (ints st.1) →
    Calls Try.prog 69 #[.slice A n c, .pointer (some ⟨bo, 0, none⟩), .slice (some ⟨bn, 0, none⟩) N N, .int .i64 r] w fun e w' => e = .returned (.int .i64 (wlk nodes f st r).2) ∧ SB lo w' bo (wlk nodes f st r).1.2 ∧ w'.ownsRow lo 2 1 (.slice (some ⟨bn, 0, none⟩) N N) N (ints (wlk nodes f st r).1.1) ∧ Fr (PW lo bn) w w'
  | 0, _, _, _, h, _, _, _, _, _, _, _, _ => by omega
  | f + 1, st, r, w, hf, hr, hl, hnn, hc, hb, hlw, hS, hM => by
    have HS := Lib.hid hS
    have HM := Lib.hid hM
    by_cases h2 : r < 2
    · have HV : Hid (wlk nodes (f + 1) st r = (st, (r : Int))) := Lib.hid (by unfold wlk; rw [if_pos h2])
      clear hS hM hrd hg hnn hc
      rw [HV.out]
      go_enter Try.func69, Try.ntmps69
      go_wp2
      go_ret
      exact ⟨rfl, HS.out, HM.out, Fr.refl _ _⟩
    · obtain ⟨z, hz⟩ : ∃ z, st.1[r]? = some z := ⟨_, List.getElem?_eq_getElem (by omega)⟩
      have hzg : st.1.getD r 0 = z := by simp [List.getD_eq_getElem?_getD, hz]
      have g0 : w.cell? ⟨bn, r, none⟩ = some (.int .i64 z) := by rw [hM.cellAt r (by omega)]; simp [ints, hz]
      have hrN : (r : Int) < N := by omega
      have hz0 : 0 ≤ z := by have := hnn r; omega
      by_cases h3 : 0 < z
      · have HV : Hid (wlk nodes (f + 1) st r = (st, z)) := Lib.hid (by unfold wlk; rw [if_neg h2, if_pos (by omega), hzg])
        clear hS hM hrd hg hnn hc hz hzg
        rw [HV.out]
        go_enter Try.func69, Try.ntmps69
        go_wp2
        go_ret
        exact ⟨rfl, HS.out, HM.out, Fr.refl _ _⟩
      · obtain rfl : z = 0 := by omega
        have hf0 := hM.frozenAt r
        obtain ⟨x, hx⟩ : ∃ x, nodes[r - 2]? = some x := ⟨_, List.getElem?_eq_getElem (by omega)⟩
        obtain ⟨q1, q2, q3, q4, q5⟩ := hg _ x hx
        obtain ⟨k, rfl⟩ : ∃ k, r = k + 2 := ⟨r - 2, by omega⟩
        simp only [Nat.add_sub_cancel] at hx q2 q4
        obtain ⟨b1, o1, rfl, hb1, g3, g4, g5⟩ := hrd.nd hx
        obtain ⟨i, lo', hi'⟩ := x
        obtain ⟨a, rfl⟩ : ∃ a : Nat, lo' = a := ⟨lo'.toNat, by dsimp only at q1; omega⟩
        obtain ⟨b, rfl⟩ : ∃ b : Nat, hi' = b := ⟨hi'.toNat, by dsimp only at q3; omega⟩
        dsimp only at q1 q2 q3 q4 q5 g3 g4 g5
        have hxg := getD_nd hx
        have HWa := Lib.hid (wlk_bd hg f st a (by omega) (by omega) (by omega) hnn hc)
        have HWb := Lib.hid (wlk_bd hg f (wlk nodes f st a).1 b (by omega) (by omega) (by rw [HWa.out.len]) HWa.out.nn HWa.out.c)
        have HIA := Lib.hid (c_l22Walk lo bo bn (some ⟨b1, o1, none⟩) c n N nodes W0 hn hN hs hg hrd hlo f st a w (by omega) (by omega) hl hnn hc hb hlw hS hM)
        have HIB := Lib.hid (fun w1 => c_l22Walk lo bo bn (some ⟨b1, o1, none⟩) c n N nodes W0 hn hN hs hg hrd hlo f (wlk nodes f st a).1 b w1 (by omega) (by omega) (by rw [HWa.out.len, hn]) HWa.out.nn HWa.out.c)
        have hV : wlk nodes (f + 1) st (k + 2) = (((wlk nodes f (wlk nodes f st a).1 b).1.1.set (k + 2) (mkN (wlk nodes f (wlk nodes f st a).1 b).1.2 ⟨i, (wlk nodes f st a).2, (wlk nodes f (wlk nodes f st a).1 b).2⟩).2, (mkN (wlk nodes f (wlk nodes f st a).1 b).1.2 ⟨i, (wlk nodes f st a).2, (wlk nodes f (wlk nodes f st a).1 b).2⟩).1), (mkN (wlk nodes f (wlk nodes f st a).1 b).1.2 ⟨i, (wlk nodes f st a).2, (wlk nodes f (wlk nodes f st a).1 b).2⟩).2) := by
          rw [wlk, if_neg (by omega), if_neg (by omega)]
          simp only [Nat.add_sub_cancel, hxg, Int.toNat_natCast]
        have HV := Lib.hid hV
        clear hV
        generalize wlk nodes f st a = A1 at *
        generalize wlk nodes f A1.1 b = B1 at *
        have hkN : (k : Int) < n := by omega
        have hk2 : ((k + 2 : Nat) : Int) = (k : Int) + 2 := by omega
        have e3 := (hb.cell (p := ⟨b1, o1 + k * 3, none⟩) hb1).trans g3
        have e4 := (hb.cell (p := ⟨b1, o1 + k * 3 + 1, none⟩) hb1).trans g4
        have e5 := (hb.cell (p := ⟨b1, o1 + k * 3 + 2, none⟩) hb1).trans g5
        have HBW := Lib.hid hb
        have HNN := Lib.hid hn
        have HNN2 := Lib.hid hN
        clear hS hM hrd hg hnn hc hb g3 g4 g5 hzg hz hx hxg h3 hn hN
        rw [hk2] at hrN ⊢
        go_enter Try.func69, Try.ntmps69
        go_wp2_with (fail)
        refine HIA.out.mono ?_
        rintro e w1 ⟨rfl, hS1, hM1, hF1⟩
        have hbl1 := PW.below hF1 hlw
        have HS1 := Lib.hid hS1
        have HM1 := Lib.hid hM1
        have HF1 := Lib.hid hF1
        have HBW1 := Lib.hid (HBW.out.trans (hbl1.mono hlo))
        have hlw1 : lo ≤ w1.heap.size := Nat.le_trans hlw hF1.size
        replace e3 := (hbl1.cell (p := ⟨b1, o1 + k * 3, none⟩) (Nat.lt_of_lt_of_le hb1 hlo)).trans e3
        replace e4 := (hbl1.cell (p := ⟨b1, o1 + k * 3 + 1, none⟩) (Nat.lt_of_lt_of_le hb1 hlo)).trans e4
        replace e5 := (hbl1.cell (p := ⟨b1, o1 + k * 3 + 2, none⟩) (Nat.lt_of_lt_of_le hb1 hlo)).trans e5
        clear hS1 hM1 hF1 hbl1 HIA HS HM HBW g0 hf0
        go_wp2_with (fail)
        refine (HIB.out w1 HBW1.out hlw1 HS1.out HM1.out).mono ?_
        rintro e w2 ⟨rfl, hS2, hM2, hF2⟩
        have hbl2 := PW.below hF2 hlw1
        have HS2 := Lib.hid hS2
        have HM2 := Lib.hid hM2
        have HF2 := Lib.hid (HF1.out.trans hF2)
        have hlw2 : lo ≤ w2.heap.size := Nat.le_trans hlw1 hF2.size
        replace e3 := (hbl2.cell (p := ⟨b1, o1 + k * 3, none⟩) (Nat.lt_of_lt_of_le hb1 hlo)).trans e3
        clear hS2 hM2 hF2 hbl2 HIB HS1 HM1 HBW1 HF1 e4 e5
        have hBl : B1.1.2.length ≤ 1099511627775 := by
          have h1 := HWb.out.c
          have h2 := cnt_le B1.1.1
          rw [HWb.out.len] at h2
          have := HNN.out
          omega
        go_wp2_with (fail)
        refine (c_l22Node lo bo i A1.2 B1.2 B1.1.2 w2 hBl hlw2 HS2.out).mono ?_
        rintro e w3 ⟨rfl, hS3, hF3⟩
        have HM3 := Lib.hid (hF3.own HM2.out (fun g cur fz _ _ hp => by
          obtain ⟨_, c, fz', h | h⟩ := hp <;> simp at h))
        have HS3 := Lib.hid hS3
        have HF3 := Lib.hid (HF2.out.trans (hF3.mono (Q := PW lo bn) fun _ _ h => .inl h))
        clear hS3 hF3 HS2 HM2 HF2 e3
        generalize hMk : mkN B1.1.2 ⟨i, A1.2, B1.2⟩ = M1 at *
        have hlN : k + 2 < N * 1 := by omega
        have f0 := HM3.out.frozenAt (k + 2)
        obtain ⟨old, hold⟩ := own_cell HM3.out (j := k + 2) hlN
        have hst := HM3.out.stored (k + 2) (.int .i64 M1.2)
        rw [ints_set] at hst
        have HST := Lib.hid hst.1
        have HCL : Hid ((w3.setCell ⟨bn, k + 2, none⟩ (.int .i64 M1.2)).cell? ⟨bn, k + 2, none⟩ = some (.int .i64 M1.2)) := Lib.hid (by
          rw [hst.1.cellAt (k + 2) hlN]
          have h5 := HM3.out.1
          rw [ints_length] at h5
          have h6 : k + 2 < B1.1.1.length := by omega
          simp [ints, h6])
        have HSZ := Lib.hid (HS3.out.other HM3.out (by decide) (by decide) hst.2)
        have HFZ := Lib.hid (HF3.out.trans (Fr.of_grown hst.2 (fun q o hq ho => .inr ⟨(own_kind HM3.out hq ho).1, by simpa [Value.ownBlock] using hq.symm⟩)))
        clear hst HS3 HF3 HM3
        go_wp2_with (fail)
        go_ret
        exact ⟨by rw [HV.out]; rfl, by rw [HV.out]; exact HSZ.out, by rw [HV.out]; exact HST.out, HFZ.out⟩
end Go.Proofs.Ytndihacmlkgkbaa
