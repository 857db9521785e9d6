/- firstOf (program), l21Bad (reference), IsSafeModel on both sides. Condition: the lengths are those that the laws let by. -/
import Derived.Test.YtdjehopcpjkgjaaHMIdx3
namespace Go.Proofs.Ytdjehopcpjkgjaa
open Go.RowKit

/-- What a function over states answers at a reached one. -/
def ClV (f : Nat) (x : Value) (pr : List Int → Bool) (l : List Rc) (w : World) : Prop :=
  ∀ (wr : World) (t : Rc) (a : Option Addr) (c : Nat), t ∈ l → Below w.heap.size w wr → Rd wr a (ints t.v) → Calls Try.prog f #[.slice a t.v.length c, x] wr fun e w2 => e = .returned (.bool (pr t.v)) ∧ Below wr.heap.size wr w2
set_option maxRecDepth 100000 in
theorem c_firstOf1 (f p : Nat) (x : Value) (b : Bool) (a : Option Addr) (c n : Nat) (fr r d : Int) (w : World) (k0 : w.cell? ⟨p, 0, none⟩ = some (.func (.func f) #[] #[x])) (hent : ∀ (args : Array Value) (w : World), (callFunc f args).run Try.prog w = .ok (.enter f args) w)
    (hcall : ∀ w', Below w.heap.size w w' → Calls Try.prog f #[.slice a n c, x] w' fun e w2 => e = .returned (.bool b) ∧ Below w'.heap.size w' w2) :
    Calls Try.prog 122 #[.agg #[.slice a n c, .int .i64 fr, .int .i64 r, .int .i64 d], .pointer (some ⟨p, 0, none⟩)] w fun e w' => e = .returned (.bool b) ∧ Below w.heap.size w w' := by
  have HC := Lib.hid hcall
  clear hcall
  have hp := World.block_lt_of_cell? _ _ k0
  dsimp only at hp
  go_enter Try.func122, Try.ntmps122
  go_wp2_with (fail)
  refine (HC.out _ (below_alloc (Below.refl _ _) _)).mono ?_
  rintro e w1 ⟨rfl, hb⟩
  have HB := Lib.hid (below_chain (by (repeat (first | exact Below.refl _ _ | assumption | refine below_alloc ?_ _ | refine below_drewN ?_ _ | refine below_set ?_ _ (by simp; try omega) | refine Below.drew ?_)) : Below w.heap.size w _) hb)
  clear hb
  go_wp2
  go_ret
  exact ⟨rfl, HB.out⟩
set_option maxRecDepth 100000 in
theorem c_firstOf (f : Nat) (x : Value) (pr : List Int → Bool) (A : Option Addr) (c : Nat) (l : List Rc) (w : World) (hl : l.length ≤ 1048576) (hv : RdRc w A l) (hent : ∀ (args : Array Value) (w : World), (callFunc f args).run Try.prog w = .ok (.enter f args) w) (hcall : Hid (ClV f x pr l w)) :
    Calls Try.prog 71 #[.slice A l.length c, .func (.func f) #[] #[x]] w fun e w' => e = .returned (.int .i64 (idxI (fun t => pr t.v) l)) ∧ Below w.heap.size w w' := by
  have hmf : ∀ (fn : Fn) (first cap : Array Value) (w : World), (Instr.makeFunc fn first cap).run Try.prog w = .ok (.func fn first cap) w := fun _ _ _ _ => rfl
  have HIX := Lib.hid (fun (w' : World) (y : Value) hv hc => c_IndexRch 122 y (fun t => pr t.v) A c l w' hl hv hc (enter_of Try.func122 (by kernel_rfl) rfl))
  have HV := Lib.hid hv
  have HCC := hcall
  have HEN := Lib.hid hent
  generalize idxI (fun t : Rc => pr t.v) l = R at *
  clear hv hcall hent
  have HLL := Lib.hid (rfl : l.length = l.length)
  generalize l.length = n at *
  go_enter Try.func71, Try.ntmps71
  go_wp2_with (fail)
  refine (HIX.out _ _ (HV.out.below (below_alloc (Below.refl _ _) _)) (Lib.hid fun wr t a c' ht hb hr => c_firstOf1 f _ x (pr t.v) a c' t.v.length t.f t.r t.d wr (cell_later hb (by go_simp)) HEN.out (fun w' hb' => HCC.out w' t a c' ht (below_chain (below_chain (below_alloc (Below.refl _ _) _) hb) hb') (hr.below hb')))).mono ?_
  rintro e w1 ⟨rfl, hb⟩
  have HB := Lib.hid (below_chain (by (repeat (first | exact Below.refl _ _ | assumption | refine below_alloc ?_ _ | refine below_drewN ?_ _ | refine below_set ?_ _ (by simp; try omega) | refine Below.drew ?_)) : Below w.heap.size w _) hb)
  clear hb
  go_wp2
  go_ret
  exact ⟨rfl, HB.out⟩
/-- The index of the first bad state. -/
def badI (ts : List Tst) (L : List Rc) : Int := idxI (fun t => hlB t.v ts) L
set_option maxRecDepth 100000 in
theorem c_IsSafe1 (p : Nat) (a : Option Addr) (c : Nat) (vs : List Int) (A' : Option Addr) (c' : Nat) (l : List Tst) (w : World) (hl : vs.length ≤ 1048576) (hl2 : l.length ≤ 1048576) (hin : TsIn vs.length l) (h : Rd w a (ints vs)) (h' : Rd w A' (tstCells l)) (k0 : w.cell? ⟨p, 0, none⟩ = some (.slice A' l.length c')) :
    Calls Try.prog 72 #[.slice a vs.length c, .pointer (some ⟨p, 0, none⟩)] w fun e w' => e = .returned (.bool (hlB vs l)) ∧ Below w.heap.size w w' := by
  have HC := Lib.hid (fun w' h h' => c_holds a c vs A' c' l w' hl hl2 hin h h')
  have H := Lib.hid h
  have H' := Lib.hid h'
  generalize hlB vs l = R at *
  generalize vs.length = vn at *
  generalize l.length = ln at *
  clear h h' hin
  go_enter Try.func72, Try.ntmps72
  go_wp2_with (fail)
  refine (HC.out _ H.out H'.out).mono ?_
  rintro e w1 ⟨rfl, hb⟩
  have HB := Lib.hid hb
  clear hb
  go_wp2
  go_ret
  exact ⟨rfl, HB.out⟩
def smB (m : Mdl) (ts : List Tst) : Bool := decide (xmC m ts = 0) && decide (badI ts (xmL m ts) < 0)
theorem xm_ts {m : Mdl} {ts : List Tst} (hok : MOk m) (hc : xmC m ts = 0) : (∀ t ∈ xmL m ts, TsIn t.v.length ts ∧ t.v.length ≤ 1048576) ∧ (xmL m ts).length ≤ 1048576 := by
  obtain ⟨h1, h2, h3, h4⟩ := xm_good hc
  rw [h4]
  refine ⟨fun t ht => ?_, Nat.le_trans (xp_len m) (by omega)⟩
  have h5 := st_len (xp_st h1 t ht)
  exact ⟨by rw [h5]; exact tsIn_of h2, by rw [h5]; exact hok.1.1⟩
set_option maxHeartbeats 1000000 in
set_option maxRecDepth 100000 in
theorem c_IsSafeModel (m : Mdl) (az ax ar : Option Addr) (cz cs cr : Nat) (A : Option Addr) (c : Nat) (ts : List Tst) (w : World) (hok : MOk m) (hl2 : ts.length ≤ 1048576) (h : Md w az ax ar m) (hv : Rd w A (tstCells ts)) :
    Calls Try.prog 21 #[mv m az ax ar cz cs cr, .slice A ts.length c] w (RetBC (smB m ts) (xmC m ts) w) := by
  have hmf : ∀ (fn : Fn) (first cap : Array Value) (w : World), (Instr.makeFunc fn first cap).run Try.prog w = .ok (.func fn first cap) w := fun _ _ _ _ => rfl
  have HX := Lib.hid (fun w' h hv => c_exploreModel m az ax ar cz cs cr A c ts w' hok hl2 h hv)
  have HM := Lib.hid h
  have HV := Lib.hid hv
  have HSM := Lib.hid (show smB m ts = (decide (xmC m ts = 0) && decide (badI ts (xmL m ts) < 0)) from rfl)
  have HTS := Lib.hid (fun hc => xm_ts (m := m) (ts := ts) hok hc)
  generalize smB m ts = R at *
  generalize xmL m ts = L at *
  generalize hC : xmC m ts = C at *
  clear h hv hok hC
  dsimp only [mv] at *
  generalize m.sz.length = sn at *
  generalize m.st.length = tn at *
  generalize m.rs.length = rn at *
  by_cases hc : C = 0
  · subst hc
    obtain ⟨hts, hln⟩ := HTS.out rfl
    have HT1 := Lib.hid hts
    have HLN := Lib.hid hln
    have HFO := Lib.hid (fun (w' : World) (x : Value) a1 c1 hv hcall => c_firstOf 72 x (fun v => hlB v ts) a1 c1 L w' hln hv (enter_of Try.func72 (by kernel_rfl) rfl) hcall)
    have e := HSM.out
    rw [decide_eq_true rfl, Bool.true_and] at e
    have HR := Lib.hid e
    have HS1 := Lib.hid (fun p (t : Rc) (ht : t ∈ L) a c1 w' h h' k0 => c_IsSafe1 p a c1 t.v A c ts w' (hts t ht).2 hl2 (hts t ht).1 h h' k0)
    have HBI := Lib.hid (show badI ts L = idxI (fun t => hlB t.v ts) L from rfl)
    rw [← HBI.out] at HFO
    generalize badI ts L = bi at *
    generalize hxl : L.length = xn at *
    have HXL := Lib.hid hxl
    clear hxl
    clear HSM HTS hts hln e
    generalize ts.length = ln at *
    go_enter Try.func21, Try.ntmps21
    go_wp2_with (fail)
    refine (HX.out _ (HM.out.alloc _ |>.alloc _) (HV.out.alloc _ |>.alloc _)).mono ?_
    rintro e w1 ⟨A1, c1, rfl, ho, hb⟩
    have HB := Lib.hid (below_chain (by (repeat (first | exact Below.refl _ _ | assumption | refine below_alloc ?_ _ | refine below_drewN ?_ _ | refine below_set ?_ _ (by simp; try omega) | refine Below.drew ?_)) : Below w.heap.size w _) hb)
    have k0 : w1.cell? ⟨w.heap.size + 1, 0, none⟩ = some (.slice A ln c) := cell_later hb (by go_simp)
    have HO := Lib.hid (ho.rd HXL.out.symm)
    have HK := Lib.hid k0
    clear hb ho
    go_wp2_with (fail)
    refine (HFO.out _ _ _ _ HO.out (Lib.hid fun wr t a c' ht hb hr => HS1.out _ t ht a c' wr hr (HV.out.below (below_chain HB.out hb)) (cell_later hb HK.out))).mono ?_
    rintro e w2 ⟨rfl, hb⟩
    have HB2 := Lib.hid (below_chain HB.out hb)
    clear hb
    go_wp2
    go_ret2
    have e := HR.out
    subst e
    exact ⟨rfl, HB2.out⟩
  · have e := HSM.out
    rw [decide_eq_false hc, Bool.false_and] at e
    subst e
    have hci : (C == 0) = false := by simpa using hc
    clear HSM HTS
    generalize L.length = xn at *
    generalize ts.length = ln at *
    go_enter Try.func21, Try.ntmps21
    go_wp2_with (fail)
    refine (HX.out _ (HM.out.alloc _ |>.alloc _) (HV.out.alloc _ |>.alloc _)).mono ?_
    rintro e w1 ⟨A1, c1, rfl, ho, hb⟩
    have HB := Lib.hid (below_chain (by (repeat (first | exact Below.refl _ _ | assumption | refine below_alloc ?_ _ | refine below_drewN ?_ _ | refine below_set ?_ _ (by simp; try omega) | refine Below.drew ?_)) : Below w.heap.size w _) hb)
    clear hb ho
    go_wp2
    go_ret2
    exact ⟨rfl, HB.out⟩
theorem idx_take {α : Type} {pr : α → Bool} {l : List α} {k : Nat} (h : (l.take k).any pr = false) (hk : l.length ≤ k) : idxI pr l = -1 := by
  rw [List.take_of_length_le hk] at h
  exact idxI_none h
set_option maxHeartbeats 1000000 in
set_option maxRecDepth 100000 in
theorem c_l21Bad (S base : Nat) (A : Option Addr) (c : Nat) (ts : List Tst) (L : List Rc) (w : World) (hl2 : ts.length ≤ 1048576) (hln : L.length ≤ 1048576) (hts : ∀ t ∈ L, TsIn t.v.length ts ∧ t.v.length ≤ 1048576) (hst : StS w S base false L) (hv : Rd w A (tstCells ts)) :
    Calls Try.prog 69 #[.pointer (some ⟨S, 0, none⟩), .slice A ts.length c] w fun e w' => e = .returned (.int .i64 (badI ts L)) ∧ Below w.heap.size w w' := by
  have HR := Lib.hid (rfl : badI ts L = badI ts L)
  generalize hR : badI ts L = R at HR
  replace HR := Lib.hid hR
  clear hR
  have HH := Lib.hid (fun (t : Rc) (ht : t ∈ L) a c1 w' h h' => c_l20Holds a c1 t.v A c ts w' (hts t ht).2 hl2 (hts t ht).1 h h')
  have HV := Lib.hid hv
  obtain ⟨Ao, co, At, ct, Ak, ck, hSB⟩ := hst.forms
  have HSB := Lib.hid hSB
  obtain ⟨c0, c1, c2, c3⟩ := hSB.c
  have hSz := World.block_lt_of_cell? _ _ c0
  dsimp only at hSz
  clear hts hst hv hSB c1 c2 c3
  generalize hxl : L.length = xn at *
  have HXL := Lib.hid hxl
  clear hxl
  generalize ts.length = ln at *
  go_enter Try.func69, Try.ntmps69
  go_wp2
  go_loopw [5] (fun i wr => ∃ k : Nat, k ≤ xn ∧ i = .int .i64 k ∧ Hid ((L.take k).any (fun t => hlB t.v ts) = false) ∧ wr.cell? ⟨S, 0, none⟩ = some (.slice Ao xn co) ∧ Below w.heap.size w wr) (fun i _ => xn - (intOf i).toNat)
  case atStart => exact ⟨0, Nat.zero_le _, rfl, Lib.hid rfl, c0, Below.refl _ _⟩
  case round =>
    obtain ⟨k, hk, rfl, ha, c0, hb⟩ := hrel
    have HB := Lib.hid hb
    clear hb
    by_cases hlt : k < xn
    · obtain ⟨t, hz⟩ : ∃ z, L[k]? = some z := ⟨_, List.getElem?_eq_getElem (by have := HXL.out; omega)⟩
      obtain ⟨lg, ra, rc, hlg, _, g0, hro⟩ := (HSB.out.below HB.out).o.at (k := k) (l := t.v) (by rw [List.getElem?_map, hz]; rfl)
      subst hlg
      have HRO := Lib.hid (Rd.own hro)
      have HZZ := Lib.hid hz
      have HC := Lib.hid (fun w' h h' => HH.out t (List.mem_of_getElem? hz) ra rc w' h h')
      have hk0 : (0 : Int) ≤ (k : Int) := by omega
      have hk1 : (k : Int) < (xn : Int) := by omega
      clear hz hro
      generalize t.v.length = vn at *
      rcases hin : hlB t.v ts with _ | _
      · rw [hin] at HC
        have HI := Lib.hid (show (fun t : Rc => hlB t.v ts) t = false from hin)
        clear hin
        go_wp2_with (fail)
        refine (HC.out _ HRO.out (HV.out.below HB.out)).mono ?_
        rintro e w2 ⟨rfl, hb⟩
        have HB2 := Lib.hid (below_chain HB.out hb)
        replace c0 := cell_later hb c0
        clear hb
        go_wp2
        go_roundw
        case rel => exact ⟨k + 1, by omega, by go_num, Lib.hid (any_take_snoc HZZ.out ha.out HI.out), c0, HB2.out⟩
        case measure => simp [intOf]; omega
      · rw [hin] at HC
        have HI := Lib.hid (show (fun t : Rc => hlB t.v ts) t = true from hin)
        clear hin
        go_wp2_with (fail)
        refine (HC.out _ HRO.out (HV.out.below HB.out)).mono ?_
        rintro e w2 ⟨rfl, hb⟩
        have HB2 := Lib.hid (below_chain HB.out hb)
        clear hb
        go_wp2
        go_ret
        exact ⟨ret_int (by rw [← HR.out]; exact (idxI_found (pr := fun t : Rc => hlB t.v ts) HZZ.out ha.out HI.out).symm), HB2.out⟩
    · have hkn : L.length ≤ k := by have := HXL.out; omega
      have HE := Lib.hid (idx_take ha.out hkn)
      have hki : ¬ (k : Int) < (xn : Int) := by omega
      clear ha hkn
      go_wp2
      go_ret
      exact ⟨ret_int (by rw [← HR.out]; exact HE.out.symm), HB.out⟩
set_option maxHeartbeats 1000000 in
set_option maxRecDepth 100000 in
theorem c_sIsSafeModel (m : Mdl) (az ax ar : Option Addr) (cz cs cr : Nat) (A : Option Addr) (c : Nat) (ts : List Tst) (w : World) (hok : MOk m) (hl2 : ts.length ≤ 1048576) (h : Md w az ax ar m) (hv : Rd w A (tstCells ts)) :
    Calls Try.prog 19 #[mv m az ax ar cz cs cr, .slice A ts.length c] w (RetBC (smB m ts) (xmC m ts) w) := by
  have HX := Lib.hid (fun w' h hv => c_l21All m az ax ar cz cs cr A c ts w' hok hl2 h hv)
  have HM := Lib.hid h
  have HV := Lib.hid hv
  have HSM := Lib.hid (show smB m ts = (decide (xmC m ts = 0) && decide (badI ts (xmL m ts) < 0)) from rfl)
  have HTS := Lib.hid (fun hc => xm_ts (m := m) (ts := ts) hok hc)
  generalize smB m ts = R at *
  generalize xmL m ts = L at *
  generalize hC : xmC m ts = C at *
  clear h hv hok hC
  dsimp only [mv] at *
  generalize m.sz.length = sn at *
  generalize m.st.length = tn at *
  generalize m.rs.length = rn at *
  by_cases hc : C = 0
  · subst hc
    obtain ⟨hts, hln⟩ := HTS.out rfl
    have HBD := Lib.hid (fun S w' hst hv => c_l21Bad S (S + 1) A c ts L w' hl2 hln hts hst hv)
    have e := HSM.out
    rw [decide_eq_true rfl, Bool.true_and] at e
    have HR := Lib.hid e
    generalize badI ts L = bi at *
    clear HSM HTS hts hln e
    generalize ts.length = ln at *
    go_enter Try.func19, Try.ntmps19
    go_wp2_with (fail)
    refine (HX.out _ (HM.out.alloc _) (HV.out.alloc _)).mono ?_
    rintro e w1 ⟨p, rfl, hb, hgood, _⟩
    obtain ⟨S, rfl, hst, hS⟩ := hgood rfl
    have HB := Lib.hid (below_chain (by (repeat (first | exact Below.refl _ _ | assumption | refine below_alloc ?_ _ | refine below_drewN ?_ _ | refine below_set ?_ _ (by simp; try omega) | refine Below.drew ?_)) : Below w.heap.size w _) hb)
    have HST := Lib.hid hst
    clear hb hgood hst hS
    go_wp2_with (fail)
    refine (HBD.out S _ HST.out (HV.out.below HB.out)).mono ?_
    rintro e w2 ⟨rfl, hb⟩
    have HB2 := Lib.hid (below_chain HB.out hb)
    clear hb
    go_wp2
    go_ret2
    have e := HR.out
    subst e
    exact ⟨rfl, HB2.out⟩
  · have e := HSM.out
    rw [decide_eq_false hc, Bool.false_and] at e
    subst e
    have hci : (C == 0) = false := by simpa using hc
    clear HSM HTS
    generalize ts.length = ln at *
    have HC := Lib.hid hc
    go_enter Try.func19, Try.ntmps19
    go_wp2_with (fail)
    refine (HX.out _ (HM.out.alloc _) (HV.out.alloc _)).mono ?_
    rintro e w1 ⟨p, rfl, hb, _, _⟩
    have HB := Lib.hid (below_chain (by (repeat (first | exact Below.refl _ _ | assumption | refine below_alloc ?_ _ | refine below_drewN ?_ _ | refine below_set ?_ _ (by simp; try omega) | refine Below.drew ?_)) : Below w.heap.size w _) hb)
    clear hb
    go_wp2
    go_ret2
    exact ⟨rfl, HB.out⟩
end Go.Proofs.Ytdjehopcpjkgjaa
