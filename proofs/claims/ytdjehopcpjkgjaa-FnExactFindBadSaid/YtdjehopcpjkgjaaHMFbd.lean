/- FindBad on both sides. Condition: the lengths are those that the laws let by. -/
import Derived.Test.YtdjehopcpjkgjaaHMRev
namespace Go.Proofs.Ytdjehopcpjkgjaa
open Go.RowKit

set_option maxRecDepth 100000 in
theorem c_FindBad1 (p : Nat) (a : Option Addr) (c : Nat) (vs : List Int) (A' : Option Addr) (c' : Nat) (l : List Tst) (w : World) (hl : vs.length ≤ 1048576) (hl2 : l.length ≤ 1048576) (hin : TsIn vs.length l) (h : Rd w a (ints vs)) (h' : Rd w A' (tstCells l)) (k0 : w.cell? ⟨p, 0, none⟩ = some (.slice A' l.length c')) :
    Calls Try.prog 77 #[.slice a vs.length c, .pointer (some ⟨p, 0, none⟩)] w fun e w' => e = .returned (.bool (hlB vs l)) ∧ Below w.heap.size w w' := by
  have HC := Lib.hid (fun w' h h' => c_holds a c vs A' c' l w' hl hl2 hin h h')
  have H := Lib.hid h
  have H' := Lib.hid h'
  generalize hlB vs l = R at *
  generalize vs.length = vn at *
  generalize l.length = ln at *
  clear h h' hin
  go_enter Try.func77, Try.ntmps77
  go_wp2_with (fail)
  refine (HC.out _ H.out H'.out).mono ?_
  rintro e w1 ⟨rfl, hb⟩
  have HB := Lib.hid hb
  clear hb
  go_wp2
  go_ret
  exact ⟨rfl, HB.out⟩
def fbC (m : Mdl) (ts : List Tst) : Int := if xmC m ts = 0 then (if badI ts (xmL m ts) < 0 then 4 else 0) else xmC m ts
def fbL (m : Mdl) (ts : List Tst) : List Int := if xmC m ts = 0 then (if badI ts (xmL m ts) < 0 then [] else match (xmL m ts)[(badI ts (xmL m ts)).toNat]? with | some x => x.t | none => []) else []
theorem idxI_lt {α : Type} {pr : α → Bool} {l : List α} (h : ¬ idxI pr l < 0) : ∃ (k : Nat) (x : α), idxI pr l = k ∧ l[k]? = some x := by
  unfold idxI at *
  split at h
  · rename_i k hk
    rw [List.findIdx?_eq_some_iff_getElem] at hk
    obtain ⟨h1, _⟩ := hk
    exact ⟨k, l[k], rfl, List.getElem?_eq_getElem h1⟩
  · omega
set_option maxHeartbeats 1000000 in
set_option maxRecDepth 100000 in
theorem c_FindBad (m : Mdl) (az ax ar : Option Addr) (cz cs cr : Nat) (A : Option Addr) (c : Nat) (ts : List Tst) (w : World) (hok : MOk m) (hl2 : ts.length ≤ 1048576) (h : Md w az ax ar m) (hv : Rd w A (tstCells ts)) :
    Calls Try.prog 25 #[mv m az ax ar cz cs cr, .slice A ts.length c] w (RetIC (fbL m ts).length (fbL m ts) (fbC m ts) w) := by
  have hmf : ∀ (fn : Fn) (first cap : Array Value) (w : World), (Instr.makeFunc fn first cap).run Try.prog w = .ok (.func fn first cap) w := fun _ _ _ _ => rfl
  have HX := Lib.hid (fun w' h hv => c_exploreModel m az ax ar cz cs cr A c ts w' hok hl2 h hv)
  have HM := Lib.hid h
  have HV := Lib.hid hv
  have HFC := Lib.hid (show fbC m ts = if xmC m ts = 0 then (if badI ts (xmL m ts) < 0 then 4 else 0) else xmC m ts from rfl)
  have HFL := Lib.hid (show fbL m ts = if xmC m ts = 0 then (if badI ts (xmL m ts) < 0 then [] else match (xmL m ts)[(badI ts (xmL m ts)).toNat]? with | some x => x.t | none => []) else [] from rfl)
  have HTS := Lib.hid (fun hc => xm_ts (m := m) (ts := ts) hok hc)
  have HINV := Lib.hid (show InvR (xmL m ts) by
    unfold xmL
    split
    · exact xp_inv m
    · exact ⟨by simp, fun i x h => by simp at h, fun x h => by simp at h, fun i x h => by simp at h⟩)
  generalize fbC m ts = FC at *
  generalize fbL m ts = FL at *
  generalize xmL m ts = L at *
  generalize hC : xmC m ts = C at *
  clear h hv hok hC
  dsimp only [mv] at *
  generalize m.sz.length = sn at *
  generalize m.st.length = tn at *
  generalize m.rs.length = rn at *
  by_cases hc : C = 0
  · subst hc
    obtain ⟨hts, hln⟩ := HTS.out rfl
    have HLN := Lib.hid hln
    have HFO := Lib.hid (fun (w' : World) (x : Value) a1 c1 hv hcall => c_firstOf 77 x (fun v => hlB v ts) a1 c1 L w' hln hv (enter_of Try.func77 (by kernel_rfl) rfl) hcall)
    have HS1 := Lib.hid (fun p (t : Rc) (ht : t ∈ L) a c1 w' h h' k0 => c_FindBad1 p a c1 t.v A c ts w' (hts t ht).2 hl2 (hts t ht).1 h h' k0)
    have HBI := Lib.hid (show badI ts L = idxI (fun t => hlB t.v ts) L from rfl)
    have HTR := Lib.hid (fun A1 c1 (k : Nat) (x : Rc) w' hx hv => c_traceTo A1 c1 L k x w' HINV.out hln hx hv)
    rw [← HBI.out] at HFO
    have e1 := HFC.out
    have e2 := HFL.out
    rw [if_pos rfl] at e1 e2
    by_cases hbd : badI ts L < 0
    · rw [if_pos hbd] at e1 e2
      subst e1 e2
      have HBD := Lib.hid hbd
      generalize badI ts L = bi at *
      have hbi := HBD.out
      generalize hxl : L.length = xn at *
      have HXL := Lib.hid hxl
      clear hxl
      clear HTS hts hln HFC HFL HTR HINV
      generalize ts.length = ln at *
      go_enter Try.func25, Try.ntmps25
      go_wp2_with (fail)
      refine (HX.out _ (HM.out.alloc _ |>.alloc _) (HV.out.alloc _ |>.alloc _)).mono ?_
      rintro e w1 ⟨A1, c1, rfl, ho, hb⟩
      have HB := Lib.hid (below_chain (by (repeat (first | exact Below.refl _ _ | assumption | refine below_alloc ?_ _ | refine below_drewN ?_ _ | refine below_set ?_ _ (by simp; try omega) | refine Below.drew ?_)) : Below w.heap.size w _) hb)
      have k0 : w1.cell? ⟨w.heap.size + 1, 0, none⟩ = some (.slice A ln c) := cell_later hb (by go_simp)
      have HO := Lib.hid (ho.rd HXL.out.symm)
      have HK := Lib.hid k0
      clear hb ho
      go_wp2_with (fail)
      refine (HFO.out _ _ _ _ HO.out (Lib.hid fun wr t a c' ht hb hr => HS1.out _ t ht a c' wr hr (HV.out.below (below_chain HB.out hb)) (cell_later hb HK.out))).mono ?_
      rintro e w2 ⟨rfl, hb⟩
      have HB2 := Lib.hid (below_chain HB.out hb)
      clear hb
      go_wp2
      go_ret2
      exact retIC_nil rfl rfl HB2.out
    · rw [if_neg hbd] at e1 e2
      obtain ⟨kb, xb, hk, hxk⟩ := idxI_lt (by rw [HBI.out] at hbd; exact hbd)
      rw [← HBI.out] at hk
      rw [hk, Int.toNat_natCast, hxk] at e2
      have e2' : FL = xb.t := e2
      subst e1 e2'
      rw [hk] at HFO
      have HTK := Lib.hid (fun A1 c1 w' hv => HTR.out A1 c1 kb xb w' hxk hv)
      have hkb0 : (0 : Int) ≤ (kb : Int) := by omega
      have hkb1 : ¬ (kb : Int) < 0 := by omega
      generalize hxl : L.length = xn at *
      have HXL := Lib.hid hxl
      clear hxl
      clear HTS hts hln HFC HFL HTR HINV HBI hbd hk hxk e2
      generalize ts.length = ln at *
      have HXT := Lib.hid (rfl : xb.t.length = xb.t.length)
      generalize xb.t.length = tl at *
      go_enter Try.func25, Try.ntmps25
      go_wp2_with (fail)
      refine (HX.out _ (HM.out.alloc _ |>.alloc _) (HV.out.alloc _ |>.alloc _)).mono ?_
      rintro e w1 ⟨A1, c1, rfl, ho, hb⟩
      have HB := Lib.hid (below_chain (by (repeat (first | exact Below.refl _ _ | assumption | refine below_alloc ?_ _ | refine below_drewN ?_ _ | refine below_set ?_ _ (by simp; try omega) | refine Below.drew ?_)) : Below w.heap.size w _) hb)
      have k0 : w1.cell? ⟨w.heap.size + 1, 0, none⟩ = some (.slice A ln c) := cell_later hb (by go_simp)
      have HO := Lib.hid (ho.rd HXL.out.symm)
      have HK := Lib.hid k0
      clear hb ho
      go_wp2_with (fail)
      refine (HFO.out _ _ _ _ HO.out (Lib.hid fun wr t a c' ht hb hr => HS1.out _ t ht a c' wr hr (HV.out.below (below_chain HB.out hb)) (cell_later hb HK.out))).mono ?_
      rintro e w2 ⟨rfl, hb⟩
      have HB2 := Lib.hid (below_chain HB.out hb)
      have HO2 := Lib.hid (HO.out.below hb)
      clear hb
      go_wp2_with (fail)
      refine (HTK.out _ _ _ HO2.out).mono ?_
      rintro e w3 ⟨A3, c3, rfl, ho, hb⟩
      have HB3 := Lib.hid (below_chain HB2.out hb)
      have HO3 := Lib.hid (own_mono ho HB2.out.size)
      clear hb ho
      go_wp2
      go_ret2
      exact ⟨A3, c3, rfl, HO3.out, HB3.out⟩
  · have e1 := HFC.out
    have e2 := HFL.out
    rw [if_neg hc] at e1 e2
    subst e1 e2
    have hci : (FC == 0) = false := by simpa using hc
    clear HTS HFC HFL HINV
    generalize L.length = xn at *
    generalize ts.length = ln at *
    go_enter Try.func25, Try.ntmps25
    go_wp2_with (fail)
    refine (HX.out _ (HM.out.alloc _ |>.alloc _) (HV.out.alloc _ |>.alloc _)).mono ?_
    rintro e w1 ⟨A1, c1, rfl, ho, hb⟩
    have HB := Lib.hid (below_chain (by (repeat (first | exact Below.refl _ _ | assumption | refine below_alloc ?_ _ | refine below_drewN ?_ _ | refine below_set ?_ _ (by simp; try omega) | refine Below.drew ?_)) : Below w.heap.size w _) hb)
    clear hb ho
    go_wp2
    go_ret2
    exact retIC_nil rfl rfl HB.out
set_option maxHeartbeats 1000000 in
set_option maxRecDepth 100000 in
theorem c_sFindBad (m : Mdl) (az ax ar : Option Addr) (cz cs cr : Nat) (A : Option Addr) (c : Nat) (ts : List Tst) (w : World) (hok : MOk m) (hl2 : ts.length ≤ 1048576) (h : Md w az ax ar m) (hv : Rd w A (tstCells ts)) :
    Calls Try.prog 26 #[mv m az ax ar cz cs cr, .slice A ts.length c] w (RetIC (fbL m ts).length (fbL m ts) (fbC m ts) w) := by
  have HX := Lib.hid (fun w' h hv => c_l21All m az ax ar cz cs cr A c ts w' hok hl2 h hv)
  have HM := Lib.hid h
  have HV := Lib.hid hv
  have HFC := Lib.hid (show fbC m ts = if xmC m ts = 0 then (if badI ts (xmL m ts) < 0 then 4 else 0) else xmC m ts from rfl)
  have HFL := Lib.hid (show fbL m ts = if xmC m ts = 0 then (if badI ts (xmL m ts) < 0 then [] else match (xmL m ts)[(badI ts (xmL m ts)).toNat]? with | some x => x.t | none => []) else [] from rfl)
  have HTS := Lib.hid (fun hc => xm_ts (m := m) (ts := ts) hok hc)
  have HINV := Lib.hid (show InvR (xmL m ts) by
    unfold xmL
    split
    · exact xp_inv m
    · exact ⟨by simp, fun i x h => by simp at h, fun x h => by simp at h, fun i x h => by simp at h⟩)
  generalize fbC m ts = FC at *
  generalize fbL m ts = FL at *
  generalize xmL m ts = L at *
  generalize hC : xmC m ts = C at *
  clear h hv hok hC
  dsimp only [mv] at *
  generalize m.sz.length = sn at *
  generalize m.st.length = tn at *
  generalize m.rs.length = rn at *
  by_cases hc : C = 0
  · subst hc
    obtain ⟨hts, hln⟩ := HTS.out rfl
    have HBD := Lib.hid (fun S w' hst hv => c_l21Bad S (S + 1) A c ts L w' hl2 hln hts hst hv)
    have HBI := Lib.hid (show badI ts L = idxI (fun t => hlB t.v ts) L from rfl)
    have e1 := HFC.out
    have e2 := HFL.out
    rw [if_pos rfl] at e1 e2
    by_cases hbd : badI ts L < 0
    · rw [if_pos hbd] at e1 e2
      subst e1 e2
      generalize badI ts L = bi at *
      clear HTS hts hln HFC HFL HINV
      generalize ts.length = ln at *
      go_enter Try.func26, Try.ntmps26
      go_wp2_with (fail)
      refine (HX.out _ (HM.out.alloc _) (HV.out.alloc _)).mono ?_
      rintro e w1 ⟨p, rfl, hb, hgood, _⟩
      obtain ⟨S, rfl, hst, hS⟩ := hgood rfl
      have HB := Lib.hid (below_chain (by (repeat (first | exact Below.refl _ _ | assumption | refine below_alloc ?_ _ | refine below_drewN ?_ _ | refine below_set ?_ _ (by simp; try omega) | refine Below.drew ?_)) : Below w.heap.size w _) hb)
      have HST := Lib.hid hst
      clear hb hgood hst hS
      go_wp2_with (fail)
      refine (HBD.out S _ HST.out (HV.out.below HB.out)).mono ?_
      rintro e w2 ⟨rfl, hb⟩
      have HB2 := Lib.hid (below_chain HB.out hb)
      clear hb
      go_wp2
      go_ret2
      exact retIC_nil rfl rfl HB2.out
    · rw [if_neg hbd] at e1 e2
      obtain ⟨kb, xb, hk, hxk⟩ := idxI_lt (by rw [HBI.out] at hbd; exact hbd)
      rw [← HBI.out] at hk
      rw [hk, Int.toNat_natCast, hxk] at e2
      have e2' : FL = xb.t := e2
      subst e1 e2'
      rw [hk] at HBD
      have HXK := Lib.hid hxk
      have hkb0 : (0 : Int) ≤ (kb : Int) := by omega
      have hkb1 : ¬ (kb : Int) < 0 := by omega
      have hkl := (List.getElem?_eq_some_iff.1 hxk).1
      have htb : xb.t.length ≤ 100000000 := by
        have h1 := HINV.out.dt xb (List.mem_of_getElem? hxk)
        have h2 := HINV.out.di kb xb hxk
        omega
      clear HTS hts HFC HFL HINV HBI hbd hk hxk e2
      generalize ts.length = ln at *
      go_enter Try.func26, Try.ntmps26
      go_wp2_with (fail)
      refine (HX.out _ (HM.out.alloc _) (HV.out.alloc _)).mono ?_
      rintro e w1 ⟨p, rfl, hb, hgood, _⟩
      obtain ⟨S, rfl, hst, hS⟩ := hgood rfl
      have HB := Lib.hid (below_chain (by (repeat (first | exact Below.refl _ _ | assumption | refine below_alloc ?_ _ | refine below_drewN ?_ _ | refine below_set ?_ _ (by simp; try omega) | refine Below.drew ?_)) : Below w.heap.size w _) hb)
      have HST := Lib.hid hst
      clear hb hgood hst hS
      go_wp2_with (fail)
      refine (HBD.out S _ HST.out (HV.out.below HB.out)).mono ?_
      rintro e w2 ⟨rfl, hb⟩
      have HB2 := Lib.hid (below_chain HB.out hb)
      obtain ⟨Ao, co, At, ct, Ak, ck, hSB⟩ := HST.out.forms
      have hSB2 := hSB.below hb
      obtain ⟨c0, c1, c2, c3⟩ := hSB2.c
      obtain ⟨tg, ta, tc, htg, hge, r0, hto⟩ := hSB2.t.at (k := kb) (l := xb.t) (by rw [List.getElem?_map, HXK.out]; rfl)
      subst htg
      have HTO := Lib.hid hto
      have hkli : (kb : Int) < (L.length : Int) := by omega
      have HOW := Lib.hid (fun w' h => c_l01OwnQ (S + 1) xb.t.length tc ta xb.t w' rfl htb h)
      generalize xb.t.length = tl at *
      generalize L.length = ll at *
      clear hb hSB hSB2 c0 c2 c3 hto
      go_wp2_with (fail)
      refine (HOW.out _ HTO.out).mono ?_
      rintro e w3 ⟨g3, c3, rfl, ho, hb⟩
      have HB3 := Lib.hid (below_chain HB2.out hb)
      have HO3 := Lib.hid (own_mono ho HB2.out.size)
      clear hb ho
      go_wp2
      go_ret2
      exact ⟨_, c3, rfl, HO3.out, HB3.out⟩
  · have e1 := HFC.out
    have e2 := HFL.out
    rw [if_neg hc] at e1 e2
    subst e1 e2
    have hci : (FC == 0) = false := by simpa using hc
    clear HTS HFC HFL HINV
    generalize ts.length = ln at *
    have HC := Lib.hid hc
    go_enter Try.func26, Try.ntmps26
    go_wp2_with (fail)
    refine (HX.out _ (HM.out.alloc _) (HV.out.alloc _)).mono ?_
    rintro e w1 ⟨p, rfl, hb, _, _⟩
    have HB := Lib.hid (below_chain (by (repeat (first | exact Below.refl _ _ | assumption | refine below_alloc ?_ _ | refine below_drewN ?_ _ | refine below_set ?_ _ (by simp; try omega) | refine Below.drew ?_)) : Below w.heap.size w _) hb)
    clear hb
    go_wp2
    go_ret2
    exact retIC_nil rfl rfl HB.out
end Go.Proofs.Ytdjehopcpjkgjaa
