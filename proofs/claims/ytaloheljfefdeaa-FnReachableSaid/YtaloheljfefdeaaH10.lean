/- Contracts and helpers (joined texts, part 10). The conditions stand at each theorem. -/
import Derived.Test.YtaloheljfefdeaaH9
/- firstOf (program), l21Bad (reference), IsSafeModel on both sides. Condition: the lengths are those that the laws let by. -/
namespace Go.Proofs.Ytaloheljfefdeaa
open Go.RowKit

/-- What a function over states answers at a reached one. -/
def ClV (f : Nat) (x : Value) (pr : List Int → Bool) (l : List Rc) (w : World) : Prop :=
  ∀ (wr : World) (t : Rc) (a : Option Addr) (c : Nat), t ∈ l → Below w.heap.size w wr → Rd wr a (ints t.v) → Calls Try.prog f #[.slice a t.v.length c, x] wr fun e w2 => e = .returned (.bool (pr t.v)) ∧ Below wr.heap.size wr w2
set_option maxRecDepth 100000 in
theorem c_firstOf1 (f p : Nat) (x : Value) (b : Bool) (a : Option Addr) (c n : Nat) (fr r d : Int) (w : World) (k0 : w.cell? ⟨p, 0, none⟩ = some (.func (.func f) #[] #[x])) (hent : ∀ (args : Array Value) (w : World), (callFunc f args).run Try.prog w = .ok (.enter f args) w)
    (hcall : ∀ w', Below w.heap.size w w' → Calls Try.prog f #[.slice a n c, x] w' fun e w2 => e = .returned (.bool b) ∧ Below w'.heap.size w' w2) :
    Calls Try.prog 95 #[.agg #[.slice a n c, .int .i64 fr, .int .i64 r, .int .i64 d], .pointer (some ⟨p, 0, none⟩)] w fun e w' => e = .returned (.bool b) ∧ Below w.heap.size w w' := by
  have HC := Lib.hid hcall
  clear hcall
  have hp := World.block_lt_of_cell? _ _ k0
  dsimp only at hp
  go_enter Try.func95, Try.ntmps95
  go_wp2_with (fail)
  refine (HC.out _ (below_alloc (Below.refl _ _) _)).mono ?_
  rintro e w1 ⟨rfl, hb⟩
  have HB := Lib.hid (below_chain (by (repeat (first | exact Below.refl _ _ | assumption | refine below_alloc ?_ _ | refine below_drewN ?_ _ | refine below_set ?_ _ (by simp; try omega) | refine Below.drew ?_)) : Below w.heap.size w _) hb)
  clear hb
  go_wp2
  go_ret
  exact ⟨rfl, HB.out⟩
set_option maxRecDepth 100000 in
theorem c_firstOf (f : Nat) (x : Value) (pr : List Int → Bool) (A : Option Addr) (c : Nat) (l : List Rc) (w : World) (hl : l.length ≤ 1048576) (hv : RdRc w A l) (hent : ∀ (args : Array Value) (w : World), (callFunc f args).run Try.prog w = .ok (.enter f args) w) (hcall : Hid (ClV f x pr l w)) :
    Calls Try.prog 49 #[.slice A l.length c, .func (.func f) #[] #[x]] w fun e w' => e = .returned (.int .i64 (idxI (fun t => pr t.v) l)) ∧ Below w.heap.size w w' := by
  have hmf : ∀ (fn : Fn) (first cap : Array Value) (w : World), (Instr.makeFunc fn first cap).run Try.prog w = .ok (.func fn first cap) w := fun _ _ _ _ => rfl
  have HIX := Lib.hid (fun (w' : World) (y : Value) hv hc => c_IndexRch 95 y (fun t => pr t.v) A c l w' hl hv hc (enter_of Try.func95 (by kernel_rfl) rfl))
  have HV := Lib.hid hv
  have HCC := hcall
  have HEN := Lib.hid hent
  generalize idxI (fun t : Rc => pr t.v) l = R at *
  clear hv hcall hent
  have HLL := Lib.hid (rfl : l.length = l.length)
  generalize l.length = n at *
  go_enter Try.func49, Try.ntmps49
  go_wp2_with (fail)
  refine (HIX.out _ _ (HV.out.below (below_alloc (Below.refl _ _) _)) (Lib.hid fun wr t a c' ht hb hr => c_firstOf1 f _ x (pr t.v) a c' t.v.length t.f t.r t.d wr (cell_later hb (by go_simp)) HEN.out (fun w' hb' => HCC.out w' t a c' ht (below_chain (below_chain (below_alloc (Below.refl _ _) _) hb) hb') (hr.below hb')))).mono ?_
  rintro e w1 ⟨rfl, hb⟩
  have HB := Lib.hid (below_chain (by (repeat (first | exact Below.refl _ _ | assumption | refine below_alloc ?_ _ | refine below_drewN ?_ _ | refine below_set ?_ _ (by simp; try omega) | refine Below.drew ?_)) : Below w.heap.size w _) hb)
  clear hb
  go_wp2
  go_ret
  exact ⟨rfl, HB.out⟩
/-- The index of the first bad state. -/
def badI (ts : List Tst) (L : List Rc) : Int := idxI (fun t => hlB t.v ts) L
set_option maxRecDepth 100000 in
theorem c_IsSafe1 (p : Nat) (a : Option Addr) (c : Nat) (vs : List Int) (A' : Option Addr) (c' : Nat) (l : List Tst) (w : World) (hl : vs.length ≤ 1048576) (hl2 : l.length ≤ 1048576) (hin : TsIn vs.length l) (h : Rd w a (ints vs)) (h' : Rd w A' (tstCells l)) (k0 : w.cell? ⟨p, 0, none⟩ = some (.slice A' l.length c')) :
    Calls Try.prog 56 #[.slice a vs.length c, .pointer (some ⟨p, 0, none⟩)] w fun e w' => e = .returned (.bool (hlB vs l)) ∧ Below w.heap.size w w' := by
  have HC := Lib.hid (fun w' h h' => c_holds a c vs A' c' l w' hl hl2 hin h h')
  have H := Lib.hid h
  have H' := Lib.hid h'
  generalize hlB vs l = R at *
  generalize vs.length = vn at *
  generalize l.length = ln at *
  clear h h' hin
  go_enter Try.func56, Try.ntmps56
  go_wp2_with (fail)
  refine (HC.out _ H.out H'.out).mono ?_
  rintro e w1 ⟨rfl, hb⟩
  have HB := Lib.hid hb
  clear hb
  go_wp2
  go_ret
  exact ⟨rfl, HB.out⟩
def smB (m : Mdl) (ts : List Tst) : Bool := decide (xmC m ts = 0) && decide (badI ts (xmL m ts) < 0)
theorem xm_ts {m : Mdl} {ts : List Tst} (hok : MOk m) (hc : xmC m ts = 0) : (∀ t ∈ xmL m ts, TsIn t.v.length ts ∧ t.v.length ≤ 1048576) ∧ (xmL m ts).length ≤ 1048576 := by
  obtain ⟨h1, h2, h3, h4⟩ := xm_good hc
  rw [h4]
  refine ⟨fun t ht => ?_, Nat.le_trans (xp_len m) (by omega)⟩
  have h5 := st_len (xp_st h1 t ht)
  exact ⟨by rw [h5]; exact tsIn_of h2, by rw [h5]; exact hok.1.1⟩
set_option maxHeartbeats 1000000 in
set_option maxRecDepth 100000 in
theorem c_IsSafeModel (m : Mdl) (az ax ar : Option Addr) (cz cs cr : Nat) (A : Option Addr) (c : Nat) (ts : List Tst) (w : World) (hok : MOk m) (hl2 : ts.length ≤ 1048576) (h : Md w az ax ar m) (hv : Rd w A (tstCells ts)) :
    Calls Try.prog 11 #[mv m az ax ar cz cs cr, .slice A ts.length c] w (RetBC (smB m ts) (xmC m ts) w) := by
  have hmf : ∀ (fn : Fn) (first cap : Array Value) (w : World), (Instr.makeFunc fn first cap).run Try.prog w = .ok (.func fn first cap) w := fun _ _ _ _ => rfl
  have HX := Lib.hid (fun w' h hv => c_exploreModel m az ax ar cz cs cr A c ts w' hok hl2 h hv)
  have HM := Lib.hid h
  have HV := Lib.hid hv
  have HSM := Lib.hid (show smB m ts = (decide (xmC m ts = 0) && decide (badI ts (xmL m ts) < 0)) from rfl)
  have HTS := Lib.hid (fun hc => xm_ts (m := m) (ts := ts) hok hc)
  generalize smB m ts = R at *
  generalize xmL m ts = L at *
  generalize hC : xmC m ts = C at *
  clear h hv hok hC
  dsimp only [mv] at *
  generalize m.sz.length = sn at *
  generalize m.st.length = tn at *
  generalize m.rs.length = rn at *
  by_cases hc : C = 0
  · subst hc
    obtain ⟨hts, hln⟩ := HTS.out rfl
    have HT1 := Lib.hid hts
    have HLN := Lib.hid hln
    have HFO := Lib.hid (fun (w' : World) (x : Value) a1 c1 hv hcall => c_firstOf 56 x (fun v => hlB v ts) a1 c1 L w' hln hv (enter_of Try.func56 (by kernel_rfl) rfl) hcall)
    have e := HSM.out
    rw [decide_eq_true rfl, Bool.true_and] at e
    have HR := Lib.hid e
    have HS1 := Lib.hid (fun p (t : Rc) (ht : t ∈ L) a c1 w' h h' k0 => c_IsSafe1 p a c1 t.v A c ts w' (hts t ht).2 hl2 (hts t ht).1 h h' k0)
    have HBI := Lib.hid (show badI ts L = idxI (fun t => hlB t.v ts) L from rfl)
    rw [← HBI.out] at HFO
    generalize badI ts L = bi at *
    generalize hxl : L.length = xn at *
    have HXL := Lib.hid hxl
    clear hxl
    clear HSM HTS hts hln e
    generalize ts.length = ln at *
    go_enter Try.func11, Try.ntmps11
    go_wp2_with (fail)
    refine (HX.out _ (HM.out.alloc _ |>.alloc _) (HV.out.alloc _ |>.alloc _)).mono ?_
    rintro e w1 ⟨A1, c1, rfl, ho, hb⟩
    have HB := Lib.hid (below_chain (by (repeat (first | exact Below.refl _ _ | assumption | refine below_alloc ?_ _ | refine below_drewN ?_ _ | refine below_set ?_ _ (by simp; try omega) | refine Below.drew ?_)) : Below w.heap.size w _) hb)
    have k0 : w1.cell? ⟨w.heap.size + 1, 0, none⟩ = some (.slice A ln c) := cell_later hb (by go_simp)
    have HO := Lib.hid (ho.rd HXL.out.symm)
    have HK := Lib.hid k0
    clear hb ho
    go_wp2_with (fail)
    refine (HFO.out _ _ _ _ HO.out (Lib.hid fun wr t a c' ht hb hr => HS1.out _ t ht a c' wr hr (HV.out.below (below_chain HB.out hb)) (cell_later hb HK.out))).mono ?_
    rintro e w2 ⟨rfl, hb⟩
    have HB2 := Lib.hid (below_chain HB.out hb)
    clear hb
    go_wp2
    go_ret2
    have e := HR.out
    subst e
    exact ⟨rfl, HB2.out⟩
  · have e := HSM.out
    rw [decide_eq_false hc, Bool.false_and] at e
    subst e
    have hci : (C == 0) = false := by simpa using hc
    clear HSM HTS
    generalize L.length = xn at *
    generalize ts.length = ln at *
    go_enter Try.func11, Try.ntmps11
    go_wp2_with (fail)
    refine (HX.out _ (HM.out.alloc _ |>.alloc _) (HV.out.alloc _ |>.alloc _)).mono ?_
    rintro e w1 ⟨A1, c1, rfl, ho, hb⟩
    have HB := Lib.hid (below_chain (by (repeat (first | exact Below.refl _ _ | assumption | refine below_alloc ?_ _ | refine below_drewN ?_ _ | refine below_set ?_ _ (by simp; try omega) | refine Below.drew ?_)) : Below w.heap.size w _) hb)
    clear hb ho
    go_wp2
    go_ret2
    exact ⟨rfl, HB.out⟩
theorem idx_take {α : Type} {pr : α → Bool} {l : List α} {k : Nat} (h : (l.take k).any pr = false) (hk : l.length ≤ k) : idxI pr l = -1 := by
  rw [List.take_of_length_le hk] at h
  exact idxI_none h
set_option maxHeartbeats 1000000 in
set_option maxRecDepth 100000 in
theorem c_l21Bad (S base : Nat) (A : Option Addr) (c : Nat) (ts : List Tst) (L : List Rc) (w : World) (hl2 : ts.length ≤ 1048576) (hln : L.length ≤ 1048576) (hts : ∀ t ∈ L, TsIn t.v.length ts ∧ t.v.length ≤ 1048576) (hst : StS w S base false L) (hv : Rd w A (tstCells ts)) :
    Calls Try.prog 54 #[.pointer (some ⟨S, 0, none⟩), .slice A ts.length c] w fun e w' => e = .returned (.int .i64 (badI ts L)) ∧ Below w.heap.size w w' := by
  have HR := Lib.hid (rfl : badI ts L = badI ts L)
  generalize hR : badI ts L = R at HR
  replace HR := Lib.hid hR
  clear hR
  have HH := Lib.hid (fun (t : Rc) (ht : t ∈ L) a c1 w' h h' => c_l20Holds a c1 t.v A c ts w' (hts t ht).2 hl2 (hts t ht).1 h h')
  have HV := Lib.hid hv
  obtain ⟨Ao, co, At, ct, Ak, ck, hSB⟩ := hst.forms
  have HSB := Lib.hid hSB
  obtain ⟨c0, c1, c2, c3⟩ := hSB.c
  have hSz := World.block_lt_of_cell? _ _ c0
  dsimp only at hSz
  clear hts hst hv hSB c1 c2 c3
  generalize hxl : L.length = xn at *
  have HXL := Lib.hid hxl
  clear hxl
  generalize ts.length = ln at *
  go_enter Try.func54, Try.ntmps54
  go_wp2
  go_loopw [5] (fun i wr => ∃ k : Nat, k ≤ xn ∧ i = .int .i64 k ∧ Hid ((L.take k).any (fun t => hlB t.v ts) = false) ∧ wr.cell? ⟨S, 0, none⟩ = some (.slice Ao xn co) ∧ Below w.heap.size w wr) (fun i _ => xn - (intOf i).toNat)
  case atStart => exact ⟨0, Nat.zero_le _, rfl, Lib.hid rfl, c0, Below.refl _ _⟩
  case round =>
    obtain ⟨k, hk, rfl, ha, c0, hb⟩ := hrel
    have HB := Lib.hid hb
    clear hb
    by_cases hlt : k < xn
    · obtain ⟨t, hz⟩ : ∃ z, L[k]? = some z := ⟨_, List.getElem?_eq_getElem (by have := HXL.out; omega)⟩
      obtain ⟨lg, ra, rc, hlg, _, g0, hro⟩ := (HSB.out.below HB.out).o.at (k := k) (l := t.v) (by rw [List.getElem?_map, hz]; rfl)
      subst hlg
      have HRO := Lib.hid (Rd.own hro)
      have HZZ := Lib.hid hz
      have HC := Lib.hid (fun w' h h' => HH.out t (List.mem_of_getElem? hz) ra rc w' h h')
      have hk0 : (0 : Int) ≤ (k : Int) := by omega
      have hk1 : (k : Int) < (xn : Int) := by omega
      clear hz hro
      generalize t.v.length = vn at *
      rcases hin : hlB t.v ts with _ | _
      · rw [hin] at HC
        have HI := Lib.hid (show (fun t : Rc => hlB t.v ts) t = false from hin)
        clear hin
        go_wp2_with (fail)
        refine (HC.out _ HRO.out (HV.out.below HB.out)).mono ?_
        rintro e w2 ⟨rfl, hb⟩
        have HB2 := Lib.hid (below_chain HB.out hb)
        replace c0 := cell_later hb c0
        clear hb
        go_wp2
        go_roundw
        case rel => exact ⟨k + 1, by omega, by go_num, Lib.hid (any_take_snoc HZZ.out ha.out HI.out), c0, HB2.out⟩
        case measure => simp [intOf]; omega
      · rw [hin] at HC
        have HI := Lib.hid (show (fun t : Rc => hlB t.v ts) t = true from hin)
        clear hin
        go_wp2_with (fail)
        refine (HC.out _ HRO.out (HV.out.below HB.out)).mono ?_
        rintro e w2 ⟨rfl, hb⟩
        have HB2 := Lib.hid (below_chain HB.out hb)
        clear hb
        go_wp2
        go_ret
        exact ⟨ret_int (by rw [← HR.out]; exact (idxI_found (pr := fun t : Rc => hlB t.v ts) HZZ.out ha.out HI.out).symm), HB2.out⟩
    · have hkn : L.length ≤ k := by have := HXL.out; omega
      have HE := Lib.hid (idx_take ha.out hkn)
      have hki : ¬ (k : Int) < (xn : Int) := by omega
      clear ha hkn
      go_wp2
      go_ret
      exact ⟨ret_int (by rw [← HR.out]; exact HE.out.symm), HB.out⟩
set_option maxHeartbeats 1000000 in
set_option maxRecDepth 100000 in
theorem c_sIsSafeModel (m : Mdl) (az ax ar : Option Addr) (cz cs cr : Nat) (A : Option Addr) (c : Nat) (ts : List Tst) (w : World) (hok : MOk m) (hl2 : ts.length ≤ 1048576) (h : Md w az ax ar m) (hv : Rd w A (tstCells ts)) :
    Calls Try.prog 12 #[mv m az ax ar cz cs cr, .slice A ts.length c] w (RetBC (smB m ts) (xmC m ts) w) := by
  have HX := Lib.hid (fun w' h hv => c_l21All m az ax ar cz cs cr A c ts w' hok hl2 h hv)
  have HM := Lib.hid h
  have HV := Lib.hid hv
  have HSM := Lib.hid (show smB m ts = (decide (xmC m ts = 0) && decide (badI ts (xmL m ts) < 0)) from rfl)
  have HTS := Lib.hid (fun hc => xm_ts (m := m) (ts := ts) hok hc)
  generalize smB m ts = R at *
  generalize xmL m ts = L at *
  generalize hC : xmC m ts = C at *
  clear h hv hok hC
  dsimp only [mv] at *
  generalize m.sz.length = sn at *
  generalize m.st.length = tn at *
  generalize m.rs.length = rn at *
  by_cases hc : C = 0
  · subst hc
    obtain ⟨hts, hln⟩ := HTS.out rfl
    have HBD := Lib.hid (fun S w' hst hv => c_l21Bad S (S + 1) A c ts L w' hl2 hln hts hst hv)
    have e := HSM.out
    rw [decide_eq_true rfl, Bool.true_and] at e
    have HR := Lib.hid e
    generalize badI ts L = bi at *
    clear HSM HTS hts hln e
    generalize ts.length = ln at *
    go_enter Try.func12, Try.ntmps12
    go_wp2_with (fail)
    refine (HX.out _ (HM.out.alloc _) (HV.out.alloc _)).mono ?_
    rintro e w1 ⟨p, rfl, hb, hgood, _⟩
    obtain ⟨S, rfl, hst, hS⟩ := hgood rfl
    have HB := Lib.hid (below_chain (by (repeat (first | exact Below.refl _ _ | assumption | refine below_alloc ?_ _ | refine below_drewN ?_ _ | refine below_set ?_ _ (by simp; try omega) | refine Below.drew ?_)) : Below w.heap.size w _) hb)
    have HST := Lib.hid hst
    clear hb hgood hst hS
    go_wp2_with (fail)
    refine (HBD.out S _ HST.out (HV.out.below HB.out)).mono ?_
    rintro e w2 ⟨rfl, hb⟩
    have HB2 := Lib.hid (below_chain HB.out hb)
    clear hb
    go_wp2
    go_ret2
    have e := HR.out
    subst e
    exact ⟨rfl, HB2.out⟩
  · have e := HSM.out
    rw [decide_eq_false hc, Bool.false_and] at e
    subst e
    have hci : (C == 0) = false := by simpa using hc
    clear HSM HTS
    generalize ts.length = ln at *
    have HC := Lib.hid hc
    go_enter Try.func12, Try.ntmps12
    go_wp2_with (fail)
    refine (HX.out _ (HM.out.alloc _) (HV.out.alloc _)).mono ?_
    rintro e w1 ⟨p, rfl, hb, _, _⟩
    have HB := Lib.hid (below_chain (by (repeat (first | exact Below.refl _ _ | assumption | refine below_alloc ?_ _ | refine below_drewN ?_ _ | refine below_set ?_ _ (by simp; try omega) | refine Below.drew ?_)) : Below w.heap.size w _) hb)
    clear hb
    go_wp2
    go_ret2
    exact ⟨rfl, HB.out⟩
end Go.Proofs.Ytaloheljfefdeaa

/- statesOf (program), with a function that holds nothing and with one that holds a place. Condition: the lengths are bounded. -/
namespace Go.Proofs.Ytaloheljfefdeaa
open Go.RowKit

theorem wpList_push_rq (w : World) {ops : Array Oper} {rest : List Oper} {o : Oper} {a : Act} {Q : Exit → Act → World → Prop} (hgd : o.guard = none) (s x : Operand)
    (ho : o.op = .call { callee := .builtin .append, args := #[s, x], argTypes := #[39, 39] })
    (base : Nat) (v : Value) (n : Nat) (ds : List IvD) (d : IvD) (g c : Nat) (hs : a.eval s = v) (hnd : ds.length = n) (h1 : w.ownsRow base 24 1 v n (rowsC ds))
    (hx : a.eval x = .slice (some ⟨g, 0, none⟩) 1 c) (hc : w.cell? ⟨g, 0, none⟩ = some d.v) (hn : n ≤ 1048577) (hbase : base ≤ w.heap.size)
    (h : ∀ v' w', w'.ownsRow base 24 1 v' (n + 1) (rowsC (ds ++ [d])) → w.grownBy w' v.ownBlock → wpList Try.prog ops Q rest (a.put o.dst v') w') : wpList Try.prog ops Q (o :: rest) a w := by
  obtain ⟨i0, hi, hz0, hz1, hz2⟩ := info_parts info_intS
  subst hnd
  refine wpList_push w hgd s x 39 ho base 24 i0 (.slice none 0 0) 1 24 Try.underlying39 hi hz0 hz1 hz2 rfl (by decide) v ds.length (rowsC ds) hs h1 ⟨g, 0, none⟩ c [d.v] hx rfl ?_ ?_ (by unfold maxLen; omega) (by omega) hbase ?_
  · intro j u hu
    match j, hu with
    | 0, hu =>
      simp only [List.getElem?_cons_zero, Option.some.injEq] at hu
      rw [← hu]
      simpa [Addr.add] using hc
  · intro u hu
    simp only [List.mem_singleton] at hu
    subst hu
    rfl
  · intro v' w' hown1 hgrow _ _
    refine h v' w' ?_ hgrow
    have e : rowsC (ds ++ [d]) = rowsC ds ++ [d.v] := by simp [rowsC]
    rw [e]
    exact hown1
/-- The values of a reached state as they lie. -/
def RcD.iv (d : RcD) : IvD := ⟨d.x.v, d.a, d.c⟩
/-- Those of the first k that are as asked. -/
def selD (pr : List Int → Bool) (ds : List RcD) (k : Nat) : List IvD := ((ds.take k).filter fun d => pr d.x.v).map RcD.iv
theorem selD_yes {pr : List Int → Bool} {ds : List RcD} {k : Nat} {d : RcD} (h : ds[k]? = some d) (hp : pr d.x.v = true) : selD pr ds (k + 1) = selD pr ds k ++ [d.iv] := by
  unfold selD
  rw [take_at h, List.filter_append, List.map_append]
  simp [hp]
theorem selD_no {pr : List Int → Bool} {ds : List RcD} {k : Nat} {d : RcD} (h : ds[k]? = some d) (hp : pr d.x.v = false) : selD pr ds (k + 1) = selD pr ds k := by
  unfold selD
  rw [take_at h, List.filter_append, List.map_append]
  simp [hp]
theorem selD_len (pr : List Int → Bool) (ds : List RcD) (k : Nat) : (selD pr ds k).length ≤ k := by
  unfold selD
  rw [List.length_map]
  have h1 := List.length_filter_le (fun d => pr d.x.v) (ds.take k)
  have h2 := List.length_take_le k ds
  omega
def selL (pr : List Int → Bool) (l : List Rc) : List (List Int) := (l.filter fun t => pr t.v).map Rc.v
theorem selL_of {pr : List Int → Bool} {ds : List RcD} : (selD pr ds ds.length).map IvD.l = selL pr (ds.map RcD.x) := by
  unfold selD selL
  rw [List.take_length, List.filter_map, List.map_map, List.map_map]
  rfl
/-- What a list of reached states gives behind the choice. -/
theorem sel_own {w w' : World} {base hi : Nat} {pr : List Int → Bool} {ds : List RcD} {v : Value} (hrow : ∀ d ∈ ds, w.ownsRow base 2 1 d.vv d.x.v.length (ints d.x.v) ∧ ∀ q, d.vv.ownBlock = some q → q < hi)
    (hpw : ds.Pairwise fun a b => ∀ q, a.vv.ownBlock = some q → b.vv.ownBlock ≠ some q) (hb : Below w.heap.size w w') (hbase : base ≤ w.heap.size)
    (ho : w'.ownsRow w.heap.size 24 1 v (selD pr ds ds.length).length (rowsC (selD pr ds ds.length))) : OwnS w' base hi v (selL pr (ds.map RcD.x)) := by
  refine ⟨selD pr ds ds.length, selL_of, ?_, fun d hd => ?_, ?_⟩
  · have : (selL pr (ds.map RcD.x)).length = (selD pr ds ds.length).length := by rw [← selL_of, List.length_map]
    rw [this]
    exact own_mono ho hbase
  · unfold selD at hd
    obtain ⟨d', hd', rfl⟩ := List.mem_map.1 hd
    rw [List.take_length] at hd'
    have h2 := hrow d' (List.mem_filter.1 hd').1
    exact ⟨own_below h2.1 hb, h2.2⟩
  · unfold selD
    rw [List.take_length, List.pairwise_map]
    exact (hpw.sublist List.filter_sublist)
set_option maxHeartbeats 1000000 in
set_option maxRecDepth 100000 in
theorem c_statesOf0 (f : Nat) (pr : List Int → Bool) (base hi : Nat) (A : Option Addr) (c : Nat) (l : List Rc) (w : World) (hl : l.length ≤ 1048576) (hll : ∀ t ∈ l, t.v.length ≤ 1048576) (ho : OwnRc w base hi (.slice A l.length c) l) (hbase : base ≤ w.heap.size) (hent : ∀ (args : Array Value) (w : World), (callFunc f args).run Try.prog w = .ok (.enter f args) w)
    (hcall : ∀ (wr : World) (t : Rc) (a : Option Addr) (c : Nat), t ∈ l → Below w.heap.size w wr → Rd wr a (ints t.v) → Calls Try.prog f #[.slice a t.v.length c] wr fun e w2 => e = .returned (.bool (pr t.v)) ∧ Below wr.heap.size wr w2) :
    Calls Try.prog 87 #[.slice A l.length c, .func (.func f) #[] #[]] w fun e w' => ∃ A' c', e = .returned (.slice A' (ascL (selL pr l)).length c') ∧ OwnS w' base hi (.slice A' (ascL (selL pr l)).length c') (ascL (selL pr l)) ∧ Below w.heap.size w w' := by
  obtain ⟨ds, rfl, h1, hrow, hpw⟩ := ho
  have HSE := Lib.hid (fun w' v hb ho => sel_own (w := w) (w' := w') (base := base) (hi := hi) (pr := pr) (v := v) hrow hpw hb hbase ho)
  have hsl : (selL pr (ds.map RcD.x)).length ≤ 1048577 := by
    rw [← selL_of, List.length_map]
    have := selD_len pr ds ds.length
    rw [List.length_map] at hl
    omega
  have HSO := Lib.hid (fun A' c' w' ho hb => c_sorted base hi A' (selL pr (ds.map RcD.x)).length c' (selL pr (ds.map RcD.x)) w' rfl hsl (fun v hv => by
    unfold selL at hv
    obtain ⟨t, ht, rfl⟩ := List.mem_map.1 hv
    exact hll t (List.mem_filter.1 ht).1) ho hb)
  have HSL := Lib.hid (show (selL pr (ds.map RcD.x)).length = (selD pr ds ds.length).length by rw [← selL_of, List.length_map])
  have HRD := Lib.hid (Rd.own h1)
  have HRO := Lib.hid (fun (d : RcD) (hd : d ∈ ds) => Rd.own (hrow d hd).1)
  have HCC := Lib.hid (fun (d : RcD) (hd : d ∈ ds) wr a c hb hr => hcall wr d.x a c (List.mem_map_of_mem hd) hb hr)
  have HEN := hent
  have HLN := Lib.hid (show ds.length = (ds.map RcD.x).length by simp)
  clear h1 hrow hpw hll hcall hsl
  generalize ascL (selL pr (ds.map RcD.x)) = R at *
  generalize selL pr (ds.map RcD.x) = R0 at *
  generalize (ds.map RcD.x).length = n at *
  rw [HLN.out] at HSL HSE
  generalize hr0 : R0.length = R0n at *
  have HR0 := Lib.hid hr0
  clear hr0
  have HRN := Lib.hid (rfl : R.length = R.length)
  generalize R.length = Rn at *
  go_enter Try.func87, Try.ntmps87
  go_wp2
  go_loopw [5, 10] (fun v i wr => ∃ k : Nat, k ≤ n ∧ i = .int .i64 k ∧ Hid (wr.ownsRow w.heap.size 24 1 v (selD pr ds k).length (rowsC (selD pr ds k))) ∧ Below w.heap.size w wr) (fun _ i _ => n - (intOf i).toNat)
  case atStart => exact ⟨0, Nat.zero_le _, rfl, Lib.hid (World.ownsRow_nil _ _ _ _), Below.refl _ _⟩
  case round =>
    obtain ⟨k, hk, rfl, ho, hb⟩ := hrel
    by_cases hlt : k < n
    · obtain ⟨d, hd⟩ : ∃ d, ds[k]? = some d := ⟨_, List.getElem?_eq_getElem (by have := HLN.out; omega)⟩
      have hmem := List.mem_of_getElem? hd
      obtain ⟨u0, u1, u2, u3⟩ := rcC_at hd
      obtain ⟨b, off, rfl, hbl, hc⟩ := HRD.out.some_ (by intro e; rw [e] at u0; simp at u0)
      have s0 := cell_later hb (hc _ _ u0)
      have s1 := cell_later hb (hc _ _ u1)
      have s2 := cell_later hb (hc _ _ u2)
      have s3 := cell_later hb (hc _ _ u3)
      rw [← Nat.add_assoc] at s1 s2 s3
      have HYES := Lib.hid (fun h => selD_yes (pr := pr) hd h)
      have HNO := Lib.hid (fun h => selD_no (pr := pr) hd h)
      have HSL2 := Lib.hid (selD_len pr ds k)
      have HRX := Lib.hid (HRO.out d hmem)
      have HIS := Lib.hid (fun wr a c hb hr => HCC.out d hmem wr a c hb hr)
      have HOW := Lib.hid ho.out
      have HBE := Lib.hid hb
      dsimp only [RcD.vv] at s0
      have HIV : Hid (d.iv.v = .slice d.a d.x.v.length d.c) := Lib.hid rfl
      generalize d.x.v.length = vn at *
      clear u0 u1 u2 u3 hc hd ho hb HCC HRO
      have hk0 : (0 : Int) ≤ (k : Int) := by omega
      have hk2 : (k : Int) < (n : Int) := by omega
      rcases hp : pr d.x.v with _ | _
      · rw [hp] at HIS
        have HN := Lib.hid (HNO.out hp)
        clear hp HYES HNO
        go_wp2_with (fail)
        refine (HIS.out _ _ _ (below_alloc HBE.out _) ((HRX.out.below HBE.out).alloc _)).mono ?_
        rintro e w5 ⟨rfl, hb⟩
        have HB5 := Lib.hid (below_chain (below_alloc HBE.out _) hb)
        have HO5 := Lib.hid (own_below (own_below HOW.out (below_alloc (Below.refl _ _) _)) hb)
        clear hb
        go_wp2
        go_roundw
        case rel => exact ⟨k + 1, by omega, by go_num, Lib.hid (by rw [HN.out]; exact HO5.out), HB5.out⟩
        case measure => simp [intOf]; omega
      · rw [hp] at HIS
        have HN := Lib.hid (HYES.out hp)
        clear hp HYES HNO
        go_wp2_with (fail)
        refine (HIS.out _ _ _ (below_alloc HBE.out _) ((HRX.out.below HBE.out).alloc _)).mono ?_
        rintro e w5 ⟨rfl, hb⟩
        have q0 : w5.cell? ⟨wr.heap.size, 0, none⟩ = some (.slice d.a vn d.c) := cell_later hb (by go_simp)
        have HB5 := Lib.hid (below_chain (below_alloc HBE.out _) hb)
        have HO5 := Lib.hid (own_below (own_below HOW.out (below_alloc (Below.refl _ _) _)) hb)
        have hs5 := HB5.out.size
        clear hb
        go_wp2_with (first
          | (at_builtin
             refine wpList_push_rq _ (by rfl) (.tmp 18) (.tmp 21) (by rfl) w.heap.size _ _ (selD pr ds k) d.iv w5.heap.size 1 (by rfl) rfl (own_below HO5.out (below_alloc (Below.refl _ _) _)) (by rfl) (by rw [HIV.out]; go_simp) (by have := HSL2.out; omega) (by simp; omega) ?_
             intro v1 w7 hown1 hgrow
             have HW1 := Lib.hid hown1
             have HG7 := Lib.hid hgrow
             clear hown1 hgrow)
          )
        go_roundw
        case rel => exact ⟨k + 1, by omega, by go_num, Lib.hid (by rw [HN.out, List.length_append]; exact HW1.out), below_of_grown (below_alloc HB5.out _) HG7.out (fun q hq => (HO5.out.lt q hq).1)⟩
        case measure => simp [intOf]; omega
    · have hkn : k = n := by omega
      subst hkn
      have HS5 := Lib.hid (HSE.out wr _ hb ho.out)
      obtain ⟨A2, c2, hv2⟩ := HS5.out.form
      rw [HR0.out] at hv2
      subst hv2
      have HB5 := Lib.hid hb
      have HGE := Lib.hid (fun q hq => (ho.out.lt q hq).1)
      have hsb := hb.size
      clear ho hb
      go_wp2_with (fail)
      refine (HSO.out _ _ _ HS5.out (by omega)).mono ?_
      rintro e w6 ⟨rfl, ho, hg⟩
      have HO6 := Lib.hid ho
      have HB6 := Lib.hid (below_of_grown HB5.out hg HGE.out)
      clear ho hg
      go_wp2
      go_ret
      exact ⟨_, _, rfl, HO6.out, HB6.out⟩
set_option maxHeartbeats 1000000 in
set_option maxRecDepth 100000 in
theorem c_statesOf1 (f : Nat) (x : Value) (pr : List Int → Bool) (base hi : Nat) (A : Option Addr) (c : Nat) (l : List Rc) (w : World) (hl : l.length ≤ 1048576) (hll : ∀ t ∈ l, t.v.length ≤ 1048576) (ho : OwnRc w base hi (.slice A l.length c) l) (hbase : base ≤ w.heap.size) (hent : ∀ (args : Array Value) (w : World), (callFunc f args).run Try.prog w = .ok (.enter f args) w)
    (hcall : ∀ (wr : World) (t : Rc) (a : Option Addr) (c : Nat), t ∈ l → Below w.heap.size w wr → Rd wr a (ints t.v) → Calls Try.prog f #[.slice a t.v.length c, x] wr fun e w2 => e = .returned (.bool (pr t.v)) ∧ Below wr.heap.size wr w2) :
    Calls Try.prog 87 #[.slice A l.length c, .func (.func f) #[] #[x]] w fun e w' => ∃ A' c', e = .returned (.slice A' (ascL (selL pr l)).length c') ∧ OwnS w' base hi (.slice A' (ascL (selL pr l)).length c') (ascL (selL pr l)) ∧ Below w.heap.size w w' := by
  obtain ⟨ds, rfl, h1, hrow, hpw⟩ := ho
  have HSE := Lib.hid (fun w' v hb ho => sel_own (w := w) (w' := w') (base := base) (hi := hi) (pr := pr) (v := v) hrow hpw hb hbase ho)
  have hsl : (selL pr (ds.map RcD.x)).length ≤ 1048577 := by
    rw [← selL_of, List.length_map]
    have := selD_len pr ds ds.length
    rw [List.length_map] at hl
    omega
  have HSO := Lib.hid (fun A' c' w' ho hb => c_sorted base hi A' (selL pr (ds.map RcD.x)).length c' (selL pr (ds.map RcD.x)) w' rfl hsl (fun v hv => by
    unfold selL at hv
    obtain ⟨t, ht, rfl⟩ := List.mem_map.1 hv
    exact hll t (List.mem_filter.1 ht).1) ho hb)
  have HSL := Lib.hid (show (selL pr (ds.map RcD.x)).length = (selD pr ds ds.length).length by rw [← selL_of, List.length_map])
  have HRD := Lib.hid (Rd.own h1)
  have HRO := Lib.hid (fun (d : RcD) (hd : d ∈ ds) => Rd.own (hrow d hd).1)
  have HCC := Lib.hid (fun (d : RcD) (hd : d ∈ ds) wr a c hb hr => hcall wr d.x a c (List.mem_map_of_mem hd) hb hr)
  have HEN := hent
  have HLN := Lib.hid (show ds.length = (ds.map RcD.x).length by simp)
  clear h1 hrow hpw hll hcall hsl
  generalize ascL (selL pr (ds.map RcD.x)) = R at *
  generalize selL pr (ds.map RcD.x) = R0 at *
  generalize (ds.map RcD.x).length = n at *
  rw [HLN.out] at HSL HSE
  generalize hr0 : R0.length = R0n at *
  have HR0 := Lib.hid hr0
  clear hr0
  have HRN := Lib.hid (rfl : R.length = R.length)
  generalize R.length = Rn at *
  go_enter Try.func87, Try.ntmps87
  go_wp2
  go_loopw [5, 10] (fun v i wr => ∃ k : Nat, k ≤ n ∧ i = .int .i64 k ∧ Hid (wr.ownsRow w.heap.size 24 1 v (selD pr ds k).length (rowsC (selD pr ds k))) ∧ Below w.heap.size w wr) (fun _ i _ => n - (intOf i).toNat)
  case atStart => exact ⟨0, Nat.zero_le _, rfl, Lib.hid (World.ownsRow_nil _ _ _ _), Below.refl _ _⟩
  case round =>
    obtain ⟨k, hk, rfl, ho, hb⟩ := hrel
    by_cases hlt : k < n
    · obtain ⟨d, hd⟩ : ∃ d, ds[k]? = some d := ⟨_, List.getElem?_eq_getElem (by have := HLN.out; omega)⟩
      have hmem := List.mem_of_getElem? hd
      obtain ⟨u0, u1, u2, u3⟩ := rcC_at hd
      obtain ⟨b, off, rfl, hbl, hc⟩ := HRD.out.some_ (by intro e; rw [e] at u0; simp at u0)
      have s0 := cell_later hb (hc _ _ u0)
      have s1 := cell_later hb (hc _ _ u1)
      have s2 := cell_later hb (hc _ _ u2)
      have s3 := cell_later hb (hc _ _ u3)
      rw [← Nat.add_assoc] at s1 s2 s3
      have HYES := Lib.hid (fun h => selD_yes (pr := pr) hd h)
      have HNO := Lib.hid (fun h => selD_no (pr := pr) hd h)
      have HSL2 := Lib.hid (selD_len pr ds k)
      have HRX := Lib.hid (HRO.out d hmem)
      have HIS := Lib.hid (fun wr a c hb hr => HCC.out d hmem wr a c hb hr)
      have HOW := Lib.hid ho.out
      have HBE := Lib.hid hb
      dsimp only [RcD.vv] at s0
      have HIV : Hid (d.iv.v = .slice d.a d.x.v.length d.c) := Lib.hid rfl
      generalize d.x.v.length = vn at *
      clear u0 u1 u2 u3 hc hd ho hb HCC HRO
      have hk0 : (0 : Int) ≤ (k : Int) := by omega
      have hk2 : (k : Int) < (n : Int) := by omega
      rcases hp : pr d.x.v with _ | _
      · rw [hp] at HIS
        have HN := Lib.hid (HNO.out hp)
        clear hp HYES HNO
        go_wp2_with (fail)
        refine (HIS.out _ _ _ (below_alloc HBE.out _) ((HRX.out.below HBE.out).alloc _)).mono ?_
        rintro e w5 ⟨rfl, hb⟩
        have HB5 := Lib.hid (below_chain (below_alloc HBE.out _) hb)
        have HO5 := Lib.hid (own_below (own_below HOW.out (below_alloc (Below.refl _ _) _)) hb)
        clear hb
        go_wp2
        go_roundw
        case rel => exact ⟨k + 1, by omega, by go_num, Lib.hid (by rw [HN.out]; exact HO5.out), HB5.out⟩
        case measure => simp [intOf]; omega
      · rw [hp] at HIS
        have HN := Lib.hid (HYES.out hp)
        clear hp HYES HNO
        go_wp2_with (fail)
        refine (HIS.out _ _ _ (below_alloc HBE.out _) ((HRX.out.below HBE.out).alloc _)).mono ?_
        rintro e w5 ⟨rfl, hb⟩
        have q0 : w5.cell? ⟨wr.heap.size, 0, none⟩ = some (.slice d.a vn d.c) := cell_later hb (by go_simp)
        have HB5 := Lib.hid (below_chain (below_alloc HBE.out _) hb)
        have HO5 := Lib.hid (own_below (own_below HOW.out (below_alloc (Below.refl _ _) _)) hb)
        have hs5 := HB5.out.size
        clear hb
        go_wp2_with (first
          | (at_builtin
             refine wpList_push_rq _ (by rfl) (.tmp 18) (.tmp 21) (by rfl) w.heap.size _ _ (selD pr ds k) d.iv w5.heap.size 1 (by rfl) rfl (own_below HO5.out (below_alloc (Below.refl _ _) _)) (by rfl) (by rw [HIV.out]; go_simp) (by have := HSL2.out; omega) (by simp; omega) ?_
             intro v1 w7 hown1 hgrow
             have HW1 := Lib.hid hown1
             have HG7 := Lib.hid hgrow
             clear hown1 hgrow)
          )
        go_roundw
        case rel => exact ⟨k + 1, by omega, by go_num, Lib.hid (by rw [HN.out, List.length_append]; exact HW1.out), below_of_grown (below_alloc HB5.out _) HG7.out (fun q hq => (HO5.out.lt q hq).1)⟩
        case measure => simp [intOf]; omega
    · have hkn : k = n := by omega
      subst hkn
      have HS5 := Lib.hid (HSE.out wr _ hb ho.out)
      obtain ⟨A2, c2, hv2⟩ := HS5.out.form
      rw [HR0.out] at hv2
      subst hv2
      have HB5 := Lib.hid hb
      have HGE := Lib.hid (fun q hq => (ho.out.lt q hq).1)
      have hsb := hb.size
      clear ho hb
      go_wp2_with (fail)
      refine (HSO.out _ _ _ HS5.out (by omega)).mono ?_
      rintro e w6 ⟨rfl, ho, hg⟩
      have HO6 := Lib.hid ho
      have HB6 := Lib.hid (below_of_grown HB5.out hg HGE.out)
      clear ho hg
      go_wp2
      go_ret
      exact ⟨_, _, rfl, HO6.out, HB6.out⟩
end Go.Proofs.Ytaloheljfefdeaa

/- ReachableStates and DeadStates on both sides. Condition: the lengths are those that the laws let by. -/
namespace Go.Proofs.Ytaloheljfefdeaa
open Go.RowKit

def rsL (m : Mdl) : List (List Int) := ascL ((xmL m []).map Rc.v)
def deadB (m : Mdl) (vs : List Int) : Bool := decide ((enL vs m.rs).length = 0)
def rdL (m : Mdl) : List (List Int) := ascL (selL (deadB m) (xmL m []))
theorem sel_all (l : List Rc) : selL (fun _ => true) l = l.map Rc.v := by unfold selL; rw [List.filter_eq_self.2 (fun _ _ => rfl)]
theorem rdL_filter (m : Mdl) : rdL m = (rsL m).filter (deadB m) := by
  refine asc_ext (asc_ascL _) ((asc_ascL _).sublist List.filter_sublist) fun x => ?_
  unfold rdL
  rw [mem_ascL, List.mem_filter]
  unfold rsL
  rw [mem_ascL]
  unfold selL
  simp only [List.mem_map, List.mem_filter]
  constructor
  · rintro ⟨t, ⟨h1, h2⟩, rfl⟩
    exact ⟨⟨t, h1, rfl⟩, h2⟩
  · rintro ⟨⟨t, h1, rfl⟩, h2⟩
    exact ⟨t, ⟨h1, h2⟩, rfl⟩
/-- What is known of the states that are found. -/
theorem xm_all {m : Mdl} : (xmL m []).length ≤ 4000 ∧ ∀ t ∈ xmL m [], mdB m = true ∧ stB m.sz t.v = true ∧ 1 ≤ t.v.length ∧ t.v.length ≤ 16 := by
  by_cases hc : xmC m [] = 0
  · obtain ⟨h1, _, _, h4⟩ := xm_good hc
    rw [h4]
    refine ⟨xp_len m, fun t ht => ?_⟩
    have h5 := xp_st h1 t ht
    exact ⟨h1, h5, vs_pos h1 h5⟩
  · rw [xm_bad hc]
    simp
theorem rsL_len (m : Mdl) : (rsL m).length ≤ 4000 := by
  have h1 := ascL_le ((xmL m []).map Rc.v)
  rw [List.length_map] at h1
  exact Nat.le_trans h1 xm_all.1
theorem rsL_mem {m : Mdl} {x : List Int} (h : x ∈ rsL m) : mdB m = true ∧ stB m.sz x = true ∧ 1 ≤ x.length ∧ x.length ≤ 16 := by
  unfold rsL at h
  rw [mem_ascL] at h
  obtain ⟨t, ht, rfl⟩ := List.mem_map.1 h
  exact xm_all.2 t ht
theorem rdL_len (m : Mdl) : (rdL m).length ≤ 4000 := by
  rw [rdL_filter]
  exact Nat.le_trans (List.length_filter_le _ _) (rsL_len m)
theorem rdL_mem {m : Mdl} {x : List Int} (h : x ∈ rdL m) : 1 ≤ x.length ∧ x.length ≤ 16 := by
  rw [rdL_filter] at h
  exact (rsL_mem (List.mem_filter.1 h).1).2.2
set_option maxRecDepth 100000 in
theorem c_Reach1 (v : Value) (w : World) : Calls Try.prog 88 #[v] w fun e w' => e = .returned (.bool true) ∧ Below w.heap.size w w' := by
  go_enter Try.func88, Try.ntmps88
  go_wp2
  go_ret
  exact ⟨rfl, Below.refl _ _⟩
set_option maxRecDepth 100000 in
theorem c_Dead1 (m : Mdl) (p : Nat) (az ax ar : Option Addr) (cz cs cr : Nat) (A : Option Addr) (c : Nat) (vs : List Int) (w : World) (hok : MOk m) (hmd : mdB m = true) (hst : stB m.sz vs = true) (hl : vs.length ≤ 1048576) (h : Md w az ax ar m) (hv : Rd w A (ints vs))
    (k0 : w.cell? ⟨p, 0, none⟩ = some (.slice az m.sz.length cz)) (k1 : w.cell? ⟨p, 1, none⟩ = some (.slice ax m.st.length cs)) (k2 : w.cell? ⟨p, 2, none⟩ = some (.slice ar m.rs.length cr)) :
    Calls Try.prog 91 #[.slice A vs.length c, .pointer (some ⟨p, 0, none⟩)] w fun e w' => e = .returned (.bool (deadB m vs)) ∧ Below w.heap.size w w' := by
  have HEN := Lib.hid (fun w' h hv => c_enabled m az ax ar cz cs cr A c vs w' hok.1.2.2.1 hl (gs_of hmd hst hok) h hv)
  have HD := Lib.hid (show deadB m vs = decide ((enL vs m.rs).length = 0) from rfl)
  have HM := Lib.hid h
  have HV := Lib.hid hv
  clear h hv hok hmd hst
  generalize deadB m vs = R at *
  generalize enL vs m.rs = E at *
  dsimp only [mv] at *
  generalize m.sz.length = sn at *
  generalize m.st.length = tn at *
  generalize m.rs.length = rn at *
  generalize vs.length = vn at *
  go_enter Try.func91, Try.ntmps91
  go_wp2_with (fail)
  refine (HEN.out _ HM.out HV.out).mono ?_
  rintro e w1 ⟨A1, c1, rfl, ho, hb⟩
  have HB := Lib.hid hb
  clear hb ho k0 k1 k2
  by_cases hz : E.length = 0
  · have e := HD.out
    rw [decide_eq_true hz] at e
    subst e
    rw [hz]
    go_wp2
    go_ret
    exact ⟨rfl, HB.out⟩
  · have e := HD.out
    rw [decide_eq_false hz] at e
    subst e
    generalize E.length = en at *
    have hz2 : ((en : Int) == 0) = false := by simpa using hz
    go_wp2
    go_ret
    exact ⟨rfl, HB.out⟩
set_option maxHeartbeats 1000000 in
set_option maxRecDepth 100000 in
theorem c_ReachableStates (m : Mdl) (az ax ar : Option Addr) (cz cs cr : Nat) (w : World) (hok : MOk m) (h : Md w az ax ar m) :
    Calls Try.prog 33 #[mv m az ax ar cz cs cr] w (RetSC (rsL m).length (rsL m) (xmC m []) w) := by
  have HX := Lib.hid (fun w' h => c_exploreModel m az ax ar cz cs cr none 0 [] w' hok (by simp) h (rd_none w'))
  have HM := Lib.hid h
  have HN := Lib.hid (show rsL m = ascL ((xmL m []).map Rc.v) from rfl)
  have hle := (xm_all (m := m)).1
  have HST := Lib.hid (fun base hi A c w' ho hb => c_statesOf0 88 (fun _ => true) base hi A c (xmL m []) w' (by omega) (fun t ht => by have := (xm_all.2 t ht).2.2.2; omega) ho hb (enter_of Try.func88 (by kernel_rfl) rfl) (fun wr t a c _ _ _ => c_Reach1 _ wr))
  rw [sel_all] at HST
  rw [← HN.out] at HST
  clear HN h hok hle
  generalize rsL m = R at *
  generalize xmL m [] = L at *
  generalize xmC m [] = C at *
  dsimp only [mv] at *
  generalize m.sz.length = sn at *
  generalize m.st.length = tn at *
  generalize m.rs.length = rn at *
  generalize L.length = xn at *
  generalize R.length = Rn at *
  go_enter Try.func33, Try.ntmps33
  go_wp2_with (fail)
  refine (HX.out _ (HM.out.alloc _)).mono ?_
  rintro e w1 ⟨A1, c1, rfl, ho, hb⟩
  have HB := Lib.hid (below_chain (by (repeat (first | exact Below.refl _ _ | assumption | refine below_alloc ?_ _ | refine below_drewN ?_ _ | refine below_set ?_ _ (by simp; try omega) | refine Below.drew ?_)) : Below w.heap.size w _) hb)
  have HO := Lib.hid ho
  have hs := hb.size
  clear hb ho
  go_wp2_with (fail)
  refine (HST.out _ _ _ _ _ HO.out hs).mono ?_
  rintro e w2 ⟨A2, c2, rfl, ho, hb⟩
  have HB2 := Lib.hid (below_chain HB.out hb)
  have HO2 := Lib.hid ho
  have hs2 := hb.size
  clear hb ho
  go_wp2
  go_ret2
  exact ⟨A2, c2, rfl, HO2.out.mono (by simp) hs2, HB2.out⟩
set_option maxHeartbeats 1000000 in
set_option maxRecDepth 100000 in
theorem c_DeadStates (m : Mdl) (az ax ar : Option Addr) (cz cs cr : Nat) (w : World) (hok : MOk m) (h : Md w az ax ar m) :
    Calls Try.prog 40 #[mv m az ax ar cz cs cr] w (RetSC (rdL m).length (rdL m) (xmC m []) w) := by
  have hmf : ∀ (fn : Fn) (first cap : Array Value) (w : World), (Instr.makeFunc fn first cap).run Try.prog w = .ok (.func fn first cap) w := fun _ _ _ _ => rfl
  have HX := Lib.hid (fun w' h => c_exploreModel m az ax ar cz cs cr none 0 [] w' hok (by simp) h (rd_none w'))
  have HM := Lib.hid h
  have HN := Lib.hid (show rdL m = ascL (selL (deadB m) (xmL m [])) from rfl)
  have hle := (xm_all (m := m)).1
  have HST := Lib.hid (fun p base hi A c w' ho hb (h' : Md w' az ax ar m) (k0 : w'.cell? ⟨p, 0, none⟩ = some (.slice az m.sz.length cz)) (k1 : w'.cell? ⟨p, 1, none⟩ = some (.slice ax m.st.length cs)) (k2 : w'.cell? ⟨p, 2, none⟩ = some (.slice ar m.rs.length cr)) => c_statesOf1 91 (.pointer (some ⟨p, 0, none⟩)) (deadB m) base hi A c (xmL m []) w' (by omega) (fun t ht => by have := (xm_all.2 t ht).2.2.2; omega) ho hb (enter_of Try.func91 (by kernel_rfl) rfl) (fun wr t a c ht hb hr => c_Dead1 m p az ax ar cz cs cr a c t.v wr hok (xm_all.2 t ht).1 (xm_all.2 t ht).2.1 (by have := (xm_all.2 t ht).2.2.2; omega) (h'.below hb) hr (cell_later hb k0) (cell_later hb k1) (cell_later hb k2)))
  rw [← HN.out] at HST
  clear HN h hok hle
  generalize rdL m = R at *
  generalize xmL m [] = L at *
  generalize xmC m [] = C at *
  dsimp only [mv] at *
  generalize m.sz.length = sn at *
  generalize m.st.length = tn at *
  generalize m.rs.length = rn at *
  generalize L.length = xn at *
  generalize R.length = Rn at *
  go_enter Try.func40, Try.ntmps40
  go_wp2_with (fail)
  refine (HX.out _ (HM.out.alloc _)).mono ?_
  rintro e w1 ⟨A1, c1, rfl, ho, hb⟩
  have k0 : w1.cell? ⟨w.heap.size, 0, none⟩ = some (.slice az sn cz) := cell_later hb (by go_simp)
  have k1 : w1.cell? ⟨w.heap.size, 1, none⟩ = some (.slice ax tn cs) := cell_later hb (by go_simp)
  have k2 : w1.cell? ⟨w.heap.size, 2, none⟩ = some (.slice ar rn cr) := cell_later hb (by go_simp)
  have HB := Lib.hid (below_chain (by (repeat (first | exact Below.refl _ _ | assumption | refine below_alloc ?_ _ | refine below_drewN ?_ _ | refine below_set ?_ _ (by simp; try omega) | refine Below.drew ?_)) : Below w.heap.size w _) hb)
  have HO := Lib.hid ho
  have hs := hb.size
  clear hb ho
  go_wp2_with (fail)
  refine (HST.out _ _ _ _ _ _ HO.out hs (HM.out.below HB.out) k0 k1 k2).mono ?_
  rintro e w2 ⟨A2, c2, rfl, ho, hb⟩
  have HB2 := Lib.hid (below_chain HB.out hb)
  have HO2 := Lib.hid ho
  have hs2 := hb.size
  clear hb ho
  go_wp2
  go_ret2
  exact ⟨A2, c2, rfl, HO2.out.mono (by simp) hs2, HB2.out⟩
end Go.Proofs.Ytaloheljfefdeaa

/- l21Own, ReachableStates, DeadStates (reference). Condition: the lengths are those that the laws let by. -/
namespace Go.Proofs.Ytaloheljfefdeaa
open Go.RowKit

/-- Lists of lists that can be read. -/
def RetQ (n : Nat) (L : List (List Int)) (w : World) (e : Ending) (w' : World) : Prop :=
  ∃ A c, e = .returned (.slice A n c) ∧ RdS w' A L ∧ Below w.heap.size w w'
theorem ownS_made (w : World) {base hi : Nat} (h : base ≤ w.heap.size) : OwnS (w.alloc (.cells #[] 24)) base hi (.slice (some ⟨w.heap.size, 0, none⟩) 0 0) [] :=
  ⟨[], rfl, World.ownsRow_made w #[] 0 h (Nat.zero_le _) rfl, by simp, List.Pairwise.nil⟩
set_option maxHeartbeats 1000000 in
set_option maxRecDepth 100000 in
theorem c_l21Own (A : Option Addr) (c n : Nat) (L : List (List Int)) (w : World) (hn : n = L.length) (hs : n ≤ 1048576) (hl : ∀ l ∈ L, 1 ≤ l.length ∧ l.length ≤ 16) (ho : RdS w A L) :
    Calls Try.prog 89 #[.slice A n c] w (RetQ n L w) := by
  have HN := Lib.hid hn
  have HL := Lib.hid hl
  have HO := Lib.hid ho
  clear hn hl ho
  go_enter Try.func89, Try.ntmps89
  go_wp2
  go_loopw [3, 4] (fun v i wr => ∃ k : Nat, k ≤ n ∧ i = .int .i64 k ∧ Hid (OwnS wr w.heap.size wr.heap.size v (L.take k)) ∧ Below w.heap.size w wr) (fun _ i _ => n - (intOf i).toNat)
  case atStart => exact ⟨0, Nat.zero_le _, rfl, Lib.hid (ownS_made w (Nat.le_refl _)), below_alloc (Below.refl _ _) _⟩
  case round =>
    obtain ⟨k, hk, rfl, ho, hb⟩ := hrel
    by_cases hlt : k < n
    · obtain ⟨y, hz⟩ : ∃ z, L[k]? = some z := ⟨_, List.getElem?_eq_getElem (by have := HN.out; omega)⟩
      obtain ⟨lb, lo, sa, sc, rfl, _, s0, hsv⟩ := (HO.out.below hb).at hz
      obtain ⟨hy1, hy2⟩ := HL.out y (List.mem_of_getElem? hz)
      obtain ⟨sb, so, rfl, _, _⟩ := hsv.some_ (by intro e; have h5 := ints_length y; rw [e] at h5; simp at h5; omega)
      have HTK := Lib.hid (take_at hz)
      have HC := Lib.hid (c_l01Own sb so sc y.length y wr rfl (by omega) hsv)
      have HTL : Hid ((L.take k).length ≤ 1048576) := Lib.hid (by rw [List.length_take]; omega)
      have HBE := Lib.hid hb
      have HOW := Lib.hid ho.out
      have HYL := Lib.hid (rfl : y.length = y.length)
      generalize hyl : y.length = yn at *
      replace HYL := Lib.hid hyl
      have hsb := hb.size
      clear hz hsv hb ho hyl
      have hk0 : (0 : Int) ≤ (k : Int) := by omega
      have hk2 : (k : Int) < (n : Int) := by omega
      go_wp2_with (fail)
      refine HC.out.mono ?_
      rintro e w5 ⟨g3, c3, rfl, hog, hb⟩
      have HB5 := Lib.hid (below_chain HBE.out hb)
      have HST := Lib.hid hb
      have hs6 := hb.size
      have hg3 := hog.lt g3 rfl
      have HOG := Lib.hid hog
      clear hb hog
      go_wp2_with (first
        | (at_builtin
           refine wpList_push_row _ (by rfl) (.tmp 12) (.tmp 18) (by rfl) w.heap.size wr.heap.size w5.heap.size _ (L.take k) ⟨y, some ⟨g3, 0, none⟩, c3⟩ w5.heap.size 1 (by rfl) ((HOW.out.below HST.out).below (below_alloc (Below.refl _ _) _)) (by rfl) (by dsimp only [IvD.v]; rw [HYL.out]; go_simp) (by dsimp only [IvD.v]; rw [HYL.out]; exact own_mono (own_below HOG.out (below_alloc (Below.refl _ _) _)) (by omega)) (fun q hq => by simp [IvD.v, Value.ownBlock] at hq; omega) (by omega) (by have := HTL.out; omega) (by simp; omega) ?_
           intro v1 w7 hown1 hgrow
           have HW1 := Lib.hid hown1
           have HG7 := Lib.hid hgrow
           have hs7 : w5.heap.size ≤ w7.heap.size := Nat.le_trans (by simp) hgrow.size
           clear hown1 hgrow)
        )
      go_roundw
      case rel =>
        have hge := fun q hq => (HOW.out.ge q hq).1
        exact ⟨k + 1, by omega, by go_num, Lib.hid (by rw [HTK.out]; exact HW1.out.mono (Nat.le_refl _) hs7), below_of_grown (below_alloc HB5.out _) HG7.out hge⟩
      case measure => simp [intOf]; omega
    · have hkn : k = n := by omega
      subst hkn
      obtain ⟨A2, c2, hv2⟩ := ho.out.form
      have HO2 := ho
      rw [List.take_of_length_le (by rw [HN.out]; exact Nat.le_refl _)] at HO2 hv2
      rw [← HN.out] at hv2
      subst hv2
      have HB2 := Lib.hid hb
      clear ho hb
      go_wp2
      go_ret
      exact ⟨A2, c2, rfl, HO2.out.rd HN.out, HB2.out⟩
set_option maxHeartbeats 1000000 in
set_option maxRecDepth 100000 in
theorem c_sReachableStates (m : Mdl) (az ax ar : Option Addr) (cz cs cr : Nat) (w : World) (hok : MOk m) (h : Md w az ax ar m) :
    Calls Try.prog 34 #[mv m az ax ar cz cs cr] w (RetSQ (rsL m).length (rsL m) (xmC m []) w) := by
  have HX := Lib.hid (fun w' h => c_l21All m az ax ar cz cs cr none 0 [] w' hok (by simp) h (rd_none w'))
  have HM := Lib.hid h
  have HN := Lib.hid (show rsL m = ascL ((xmL m []).map Rc.v) from rfl)
  have hle := rsL_len m
  have HOW := Lib.hid (fun A c w' ho => c_l21Own A c (rsL m).length (rsL m) w' rfl (by omega) (fun l hl => (rsL_mem hl).2.2) ho)
  have HBAD := Lib.hid (fun h => xm_bad (m := m) (ts := []) h)
  generalize hR : rsL m = R at *
  generalize xmL m [] = L at *
  generalize hC : xmC m [] = C at *
  clear h hok hC hR
  dsimp only [mv] at *
  generalize m.sz.length = sn at *
  generalize m.st.length = tn at *
  generalize m.rs.length = rn at *
  by_cases hc : C = 0
  · subst hc
    have HRN := Lib.hid (rfl : R.length = R.length)
    generalize hrr : R.length = Rn at *
    replace HRN := Lib.hid hrr
    clear HBAD hrr
    go_enter Try.func34, Try.ntmps34
    go_wp2_with (fail)
    refine (HX.out _ (HM.out.alloc _)).mono ?_
    rintro e w1 ⟨p, rfl, hb, hgood, _⟩
    obtain ⟨S, rfl, hst, hS⟩ := hgood rfl
    have HB := Lib.hid (below_chain (by (repeat (first | exact Below.refl _ _ | assumption | refine below_alloc ?_ _ | refine below_drewN ?_ _ | refine below_set ?_ _ (by simp; try omega) | refine Below.drew ?_)) : Below w.heap.size w _) hb)
    obtain ⟨Ao, co, At, ct, Ak, ck, hSB⟩ := hst.forms
    have HKR := Lib.hid (hSB.k.rd rfl)
    obtain ⟨c0, c1, c2, c3⟩ := hSB.c
    rw [← HN.out] at HKR c2
    rw [HRN.out] at c2
    clear hb hst hSB hgood hS c0 c1 c3
    go_wp2_with (fail)
    refine (HOW.out _ _ _ HKR.out).mono ?_
    rintro e w2 ⟨A2, c2', rfl, hr, hb⟩
    have HB2 := Lib.hid (below_chain HB.out hb)
    have HR2 := Lib.hid hr
    clear hb hr
    go_wp2
    go_ret2
    exact ⟨A2, c2', rfl, HR2.out, HB2.out⟩
  · have e := HBAD.out hc
    subst e
    have e := HN.out
    rw [show ascL (([] : List Rc).map Rc.v) = [] from rfl] at e
    subst e
    have hci : (C == 0) = false := by simpa using hc
    clear HBAD HN HOW
    have HC := Lib.hid hc
    go_enter Try.func34, Try.ntmps34
    go_wp2_with (fail)
    refine (HX.out _ (HM.out.alloc _)).mono ?_
    rintro e w1 ⟨p, rfl, hb, _, _⟩
    have HB := Lib.hid (below_chain (by (repeat (first | exact Below.refl _ _ | assumption | refine below_alloc ?_ _ | refine below_drewN ?_ _ | refine below_set ?_ _ (by simp; try omega) | refine Below.drew ?_)) : Below w.heap.size w _) hb)
    clear hb
    go_wp2
    go_ret2
    exact retSQ_nil rfl rfl HB.out
end Go.Proofs.Ytaloheljfefdeaa

/- DeadStates (reference). Condition: the lengths are those that the laws let by. -/
namespace Go.Proofs.Ytaloheljfefdeaa
open Go.RowKit

theorem filt_yes {α : Type} {p : α → Bool} {L : List α} {k : Nat} {y : α} (h : L[k]? = some y) (hp : p y = true) : (L.take (k + 1)).filter p = (L.take k).filter p ++ [y] := by
  rw [take_at h, List.filter_append]; simp [hp]
theorem filt_no {α : Type} {p : α → Bool} {L : List α} {k : Nat} {y : α} (h : L[k]? = some y) (hp : p y = false) : (L.take (k + 1)).filter p = (L.take k).filter p := by
  rw [take_at h, List.filter_append]; simp [hp]
set_option maxHeartbeats 2000000 in
set_option maxRecDepth 100000 in
theorem c_sDeadStates (m : Mdl) (az ax ar : Option Addr) (cz cs cr : Nat) (w : World) (hok : MOk m) (h : Md w az ax ar m) :
    Calls Try.prog 41 #[mv m az ax ar cz cs cr] w (RetSQ (rdL m).length (rdL m) (xmC m []) w) := by
  have HX := Lib.hid (fun w' h => c_l21All m az ax ar cz cs cr none 0 [] w' hok (by simp) h (rd_none w'))
  have HM := Lib.hid h
  have HN := Lib.hid (show rsL m = ascL ((xmL m []).map Rc.v) from rfl)
  have HF := Lib.hid (rdL_filter m)
  have hle := rsL_len m
  have HKL := Lib.hid (fun (l : List Int) (hl : l ∈ rsL m) => (rsL_mem hl).2.2)
  have HBAD := Lib.hid (fun h => xm_bad (m := m) (ts := []) h)
  have HDD := Lib.hid (fun vs => show deadB m vs = decide ((enL vs m.rs).length = 0) from rfl)
  have HEN := Lib.hid (fun (l : List Int) (hl : l ∈ rsL m) A c w' h hv => c_l20Enabled m az ax ar cz cs cr A c l w' hok.1.2.2.1 (by have := (rsL_mem hl).2.2.2; omega) (gs_of (rsL_mem hl).1 (rsL_mem hl).2.1 hok) h hv)
  generalize hR : rsL m = K at *
  generalize hR2 : rdL m = R at *
  generalize xmL m [] = L at *
  generalize hC : xmC m [] = C at *
  generalize deadB m = dd at *
  generalize m.rs = rs at HDD HEN
  clear h hok hC hR hR2
  dsimp only [mv] at *
  generalize m.sz.length = sn at *
  generalize m.st.length = tn at *
  generalize m.rs.length = rn at *
  by_cases hc : C = 0
  · subst hc
    generalize hrr : K.length = Kn at *
    have HKN := Lib.hid hrr
    clear HBAD hrr
    go_enter Try.func41, Try.ntmps41
    go_wp2_with (fail)
    refine (HX.out _ (HM.out.alloc _)).mono ?_
    rintro e w1 ⟨p, rfl, hb, hgood, _⟩
    have k0 : w1.cell? ⟨w.heap.size, 0, none⟩ = some (.slice az sn cz) := cell_later hb (by go_simp)
    have k1 : w1.cell? ⟨w.heap.size, 1, none⟩ = some (.slice ax tn cs) := cell_later hb (by go_simp)
    have k2 : w1.cell? ⟨w.heap.size, 2, none⟩ = some (.slice ar rn cr) := cell_later hb (by go_simp)
    obtain ⟨S, rfl, hst, hS⟩ := hgood rfl
    have HB := Lib.hid (below_chain (by (repeat (first | exact Below.refl _ _ | assumption | refine below_alloc ?_ _ | refine below_drewN ?_ _ | refine below_set ?_ _ (by simp; try omega) | refine Below.drew ?_)) : Below w.heap.size w _) hb)
    obtain ⟨Ao, co, At, ct, Ak, ck, hSB⟩ := hst.forms
    have HKR := Lib.hid (hSB.k.rd rfl)
    obtain ⟨c0, c1, c2, c3⟩ := hSB.c
    rw [← HN.out] at HKR c2
    rw [HKN.out] at c2
    have hs1 := HB.out.size
    have hsS := World.block_lt_of_cell? _ _ c2
    have hsw := World.block_lt_of_cell? _ _ k2
    dsimp only at hsS hsw
    have hneS : S ≠ w1.heap.size := by omega
    have hnew : w.heap.size ≠ w1.heap.size := by omega
    clear hb hst hSB hgood hS c0 c1 c3
    go_wp2
    go_loopw [6, 7] (fun v i wr => ∃ k : Nat, k ≤ Kn ∧ i = .int .i64 k ∧ Hid (OwnS wr w1.heap.size wr.heap.size v ((K.take k).filter dd)) ∧ wr.cell? ⟨w.heap.size, 0, none⟩ = some (.slice az sn cz) ∧ wr.cell? ⟨w.heap.size, 1, none⟩ = some (.slice ax tn cs) ∧ wr.cell? ⟨w.heap.size, 2, none⟩ = some (.slice ar rn cr) ∧ wr.cell? ⟨S, 2, none⟩ = some (.slice Ak Kn ck) ∧ Hid (Below w1.heap.size w1 wr)) (fun _ i _ => Kn - (intOf i).toNat)
    case atStart => exact ⟨0, Nat.zero_le _, rfl, Lib.hid (ownS_made w1 (Nat.le_refl _)), by go_simp, by go_simp, by go_simp, by go_simp, Lib.hid (below_alloc (Below.refl _ _) _)⟩
    case round =>
      clear k0 k1 k2 c2
      obtain ⟨k, hk, rfl, ho, k0, k1, k2, c2, hb⟩ := hrel
      have HBE := Lib.hid hb.out
      clear hb
      by_cases hlt : k < Kn
      · obtain ⟨y, hz⟩ : ∃ z, K[k]? = some z := ⟨_, List.getElem?_eq_getElem (by have := HKN.out; omega)⟩
        have hmem := List.mem_of_getElem? hz
        obtain ⟨lb, lo, sa, sc, rfl, _, s0, hsv⟩ := (HKR.out.below HBE.out).at hz
        obtain ⟨hy1, hy2⟩ := HKL.out y hmem
        obtain ⟨sb, so, rfl, _, _⟩ := hsv.some_ (by intro e; have h5 := ints_length y; rw [e] at h5; simp at h5; omega)
        have HYES := Lib.hid (fun h => filt_yes (p := dd) hz h)
        have HNO := Lib.hid (fun h => filt_no (p := dd) hz h)
        have HDY := Lib.hid (HDD.out y)
        have HENy := Lib.hid (fun A c w' h hv => HEN.out y hmem A c w' h hv)
        have HCO := Lib.hid (fun w' hv => c_l01Own sb so sc y.length y w' rfl (by omega) hv)
        have HSV := Lib.hid hsv
        have HTL : Hid (((K.take k).filter dd).length ≤ 1048576) := Lib.hid (by
          have h1 := List.length_filter_le dd (K.take k)
          rw [List.length_take] at h1
          omega)
        have HOW := Lib.hid ho.out
        have HMW := Lib.hid ((HM.out.below HB.out).below HBE.out)
        generalize enL y rs = E at *
        generalize hyl : y.length = yn at *
        have HYL := Lib.hid hyl
        have hsb := HBE.out.size
        clear hz hsv ho hyl hmem HKL HKR HDD HEN HX
        have hk0 : (0 : Int) ≤ (k : Int) := by omega
        have hk2 : (k : Int) < (Kn : Int) := by omega
        by_cases he : E.length = 0
        · have hdd : dd y = true := by rw [HDY.out]; exact decide_eq_true he
          have HN2 := Lib.hid (HYES.out hdd)
          have HENz : Hid (∀ A c w' (h : Md w' az ax ar m) (hv : Rd w' A (ints y)), Calls Try.prog 75 #[.agg #[.slice az sn cz, .slice ax tn cs, .slice ar rn cr], .slice A yn c] w' fun e w2 => ∃ A1 c1, e = .returned (.slice A1 0 c1) ∧ Below w'.heap.size w' w2) := Lib.hid (fun A c w' h hv => (HENy.out A c w' h hv).mono (by
            rintro e w2 ⟨A1, c1, rfl, _, hb⟩
            exact ⟨A1, c1, by rw [he], hb⟩))
          clear HYES HNO HDY HENy hdd he
          go_wp2
          refine wp_region_held_drew (S := (fun w' => w'.cell? ⟨w.heap.size, 0, none⟩ = some (.slice az sn cz) ∧ w'.cell? ⟨w.heap.size, 1, none⟩ = some (.slice ax tn cs) ∧ w'.cell? ⟨w.heap.size, 2, none⟩ = some (.slice ar rn cr) ∧ w'.cell? ⟨S, 2, none⟩ = some (.slice (some ⟨lb, lo, none⟩) Kn ck) ∧ w'.cell? ⟨lb, lo + k, none⟩ = some (.slice (some ⟨sb, so, none⟩) yn sc))) (by kernel_rfl) ?_ (fun hHeld => ?_)
          · exact ⟨k0, k1, k2, c2, s0⟩
          refine rg_take (v := ?_) 0 rfl (by kernel_rfl) (by kernel_rfl) (by kernel_rfl) (fun _ _ _ h => h) (by kernel_rfl) ?_ (by assumption) ?_
          rotate_left
          · (intro w' hSw; (try dsimp only at hSw); go_simp; first | done | with_reducible rfl)
          simp only [Act.put, List.setIfInBounds_toArray, List.set_cons_zero, List.set_cons_succ]
          refine rg_take (v := ?_) 1 rfl (by kernel_rfl) (by kernel_rfl) (by kernel_rfl) (fun _ _ _ h => h) (by kernel_rfl) ?_ (by assumption) ?_
          rotate_left
          · (intro w' hSw; (try dsimp only at hSw); go_simp; first | done | with_reducible rfl)
          simp only [Act.put, List.setIfInBounds_toArray, List.set_cons_zero, List.set_cons_succ]
          refine rg_take (v := ?_) 2 rfl (by kernel_rfl) (by kernel_rfl) (by kernel_rfl) (fun _ _ _ h => h) (by kernel_rfl) ?_ (by assumption) ?_
          rotate_left
          · (intro w' hSw; (try dsimp only at hSw); go_simp; first | done | with_reducible rfl)
          simp only [Act.put, List.setIfInBounds_toArray, List.set_cons_zero, List.set_cons_succ]
          refine rg_take (v := ?_) 3 rfl (by kernel_rfl) (by kernel_rfl) (by kernel_rfl) (fun _ _ _ h => h) (by kernel_rfl) ?_ (by assumption) ?_
          rotate_left
          · (intro w' hSw; (try dsimp only at hSw); go_simp; first | done | with_reducible rfl)
          simp only [Act.put, List.setIfInBounds_toArray, List.set_cons_zero, List.set_cons_succ]
          refine rg_take (v := ?_) 4 rfl (by kernel_rfl) (by kernel_rfl) (by kernel_rfl) (fun _ _ _ h => h) (by kernel_rfl) ?_ (by assumption) ?_
          rotate_left
          · (intro w' hSw; (try dsimp only at hSw); go_simp; first | done | with_reducible rfl)
          simp only [Act.put, List.setIfInBounds_toArray, List.set_cons_zero, List.set_cons_succ]
          refine rg_take (v := ?_) 5 rfl (by kernel_rfl) (by kernel_rfl) (by kernel_rfl) (fun _ _ _ h => h) (by kernel_rfl) ?_ (by assumption) ?_
          rotate_left
          · (intro w' hSw; (try dsimp only at hSw); go_simp; first | done | with_reducible rfl)
          simp only [Act.put, List.setIfInBounds_toArray, List.set_cons_zero, List.set_cons_succ]
          refine rg_take (v := ?_) 6 rfl (by kernel_rfl) (by kernel_rfl) (by kernel_rfl) (fun _ _ _ h => h) (by kernel_rfl) ?_ (by assumption) ?_
          rotate_left
          · (intro w' hSw; (try dsimp only at hSw); go_simp; first | done | with_reducible rfl)
          simp only [Act.put, List.setIfInBounds_toArray, List.set_cons_zero, List.set_cons_succ]
          refine rg_take (v := ?_) 7 rfl (by kernel_rfl) (by kernel_rfl) (by kernel_rfl) (fun _ _ _ h => h) (by kernel_rfl) ?_ (by assumption) ?_
          rotate_left
          · (intro w' hSw; (try dsimp only at hSw); go_simp; first | done | with_reducible rfl)
          simp only [Act.put, List.setIfInBounds_toArray, List.set_cons_zero, List.set_cons_succ]
          refine rg_run 8 rfl (by kernel_rfl) (by kernel_rfl) (fun K hK => ?_)
          go_simp
          refine (HENz.out _ _ _ (HMW.out.below ((Below.refl _ _).drew)) (HSV.out.drew)).mono ?_
          rintro e w4 ⟨A1, c1, rfl, hb⟩
          have HST4 := Lib.hid (show Below wr.heap.size wr w4 from below_chain ((Below.refl _ _).drew) hb)
          replace k0 := cell_later hb (by exact k0)
          replace k1 := cell_later hb (by exact k1)
          replace k2 := cell_later hb (by exact k2)
          replace c2 := cell_later hb (by exact c2)
          replace s0 := cell_later hb (by exact s0)
          clear hb
          go_wp2
          clear hHeld
          refine hK.out _ _ ⟨k0, k1, k2, c2, s0⟩ (fun hHeld => ?_)
          clear hK K
          try simp only [Act.put, List.setIfInBounds_toArray, List.set_cons_zero, List.set_cons_succ]
          refine rg_take (v := ?_) 9 rfl (by kernel_rfl) (by kernel_rfl) (by kernel_rfl) (fun _ _ _ h => h) (by kernel_rfl) ?_ (by assumption) ?_
          rotate_left
          · (intro w' hSw; (try dsimp only at hSw); go_simp; first | done | with_reducible rfl)
          simp only [Act.put, List.setIfInBounds_toArray, List.set_cons_zero, List.set_cons_succ]
          refine rg_take (v := ?_) 10 rfl (by kernel_rfl) (by kernel_rfl) (by kernel_rfl) (fun _ _ _ h => h) (by kernel_rfl) ?_ (by assumption) ?_
          rotate_left
          · (intro w' hSw; (try dsimp only at hSw); go_simp; first | done | with_reducible rfl)
          simp only [Act.put, List.setIfInBounds_toArray, List.set_cons_zero, List.set_cons_succ]
          refine wpAnyH_done (by kernel_rfl) ?_ _
          clear hHeld
          have HSV4 := Lib.hid (HSV.out.below HST4.out)
          have hs4 := HST4.out.size
          go_wp2_with (fail)
          refine (HCO.out _ HSV4.out).mono ?_
          rintro e w5 ⟨g3, c3, rfl, hog, hb⟩
          have HST := Lib.hid (below_chain HST4.out hb)
          have HB5 := Lib.hid (below_chain HBE.out HST.out)
          have hs6 := hb.size
          have hg3 := hog.lt g3 rfl
          have HOG := Lib.hid hog
          replace k0 := cell_later hb (by exact k0)
          replace k1 := cell_later hb (by exact k1)
          replace k2 := cell_later hb (by exact k2)
          replace c2 := cell_later hb (by exact c2)
          clear hb hog
          go_wp2_with (first
            | (at_builtin
               refine wpList_push_row _ (by rfl) (.tmp 37) (.tmp 46) (by rfl) w1.heap.size wr.heap.size w5.heap.size _ ((K.take k).filter dd) ⟨y, some ⟨g3, 0, none⟩, c3⟩ w5.heap.size 1 (by rfl) ((HOW.out.below HST.out).below (below_alloc (Below.refl _ _) _)) (by rfl) (by dsimp only [IvD.v]; rw [HYL.out]; go_simp) (by dsimp only [IvD.v]; rw [HYL.out]; exact own_mono (own_below HOG.out (below_alloc (Below.refl _ _) _)) (by omega)) (fun q hq => by simp [IvD.v, Value.ownBlock] at hq; omega) (by omega) (by have := HTL.out; omega) (by simp; omega) ?_
               intro v1 w7 hown1 hgrow
               have HW1 := Lib.hid hown1
               have HG7 := Lib.hid hgrow
               have hs7 : w5.heap.size ≤ w7.heap.size := Nat.le_trans (by simp) hgrow.size
               clear hown1 hgrow)
            )
          go_roundw
          case rel =>
            have hge := fun q hq => (HOW.out.ge q hq).1
            have hal := below_alloc (Below.refl w5.heap.size w5) (Obj.cells #[Value.slice (some ⟨g3, 0, none⟩) yn c3] 24)
            have key : ∀ {b j : Nat} {u : Value}, b < w1.heap.size → w5.cell? ⟨b, j, none⟩ = some u → w7.cell? ⟨b, j, none⟩ = some u := fun {b j u} hb h => HG7.out.cell (cell_later hal h) (fun e => by have := hge _ e.symm; dsimp only at this; omega)
            exact ⟨k + 1, by omega, by go_num, Lib.hid (by rw [HN2.out]; exact HW1.out.mono (Nat.le_refl _) hs7), key hsw k0, key hsw k1, key hsw k2, key hsS c2, Lib.hid (below_of_grown (below_alloc HB5.out _) HG7.out hge)⟩
          case measure => simp [intOf]; omega
        · have hdd : dd y = false := by rw [HDY.out]; exact decide_eq_false he
          have HN2 := Lib.hid (HNO.out hdd)
          have HENz : Hid (∀ A c w' (h : Md w' az ax ar m) (hv : Rd w' A (ints y)), Calls Try.prog 75 #[.agg #[.slice az sn cz, .slice ax tn cs, .slice ar rn cr], .slice A yn c] w' fun e w2 => ∃ A1 c1, e = .returned (.slice A1 E.length c1) ∧ Below w'.heap.size w' w2) := Lib.hid (fun A c w' h hv => (HENy.out A c w' h hv).mono (by
            rintro e w2 ⟨A1, c1, rfl, _, hb⟩
            exact ⟨A1, c1, rfl, hb⟩))
          clear HYES HNO HDY HENy hdd
          generalize E.length = en at *
          have hz2 : ((en : Int) == 0) = false := by simpa using he
          go_wp2
          refine wp_region_held_drew (S := (fun w' => w'.cell? ⟨w.heap.size, 0, none⟩ = some (.slice az sn cz) ∧ w'.cell? ⟨w.heap.size, 1, none⟩ = some (.slice ax tn cs) ∧ w'.cell? ⟨w.heap.size, 2, none⟩ = some (.slice ar rn cr) ∧ w'.cell? ⟨S, 2, none⟩ = some (.slice (some ⟨lb, lo, none⟩) Kn ck) ∧ w'.cell? ⟨lb, lo + k, none⟩ = some (.slice (some ⟨sb, so, none⟩) yn sc))) (by kernel_rfl) ?_ (fun hHeld => ?_)
          · exact ⟨k0, k1, k2, c2, s0⟩
          refine rg_take (v := ?_) 0 rfl (by kernel_rfl) (by kernel_rfl) (by kernel_rfl) (fun _ _ _ h => h) (by kernel_rfl) ?_ (by assumption) ?_
          rotate_left
          · (intro w' hSw; (try dsimp only at hSw); go_simp; first | done | with_reducible rfl)
          simp only [Act.put, List.setIfInBounds_toArray, List.set_cons_zero, List.set_cons_succ]
          refine rg_take (v := ?_) 1 rfl (by kernel_rfl) (by kernel_rfl) (by kernel_rfl) (fun _ _ _ h => h) (by kernel_rfl) ?_ (by assumption) ?_
          rotate_left
          · (intro w' hSw; (try dsimp only at hSw); go_simp; first | done | with_reducible rfl)
          simp only [Act.put, List.setIfInBounds_toArray, List.set_cons_zero, List.set_cons_succ]
          refine rg_take (v := ?_) 2 rfl (by kernel_rfl) (by kernel_rfl) (by kernel_rfl) (fun _ _ _ h => h) (by kernel_rfl) ?_ (by assumption) ?_
          rotate_left
          · (intro w' hSw; (try dsimp only at hSw); go_simp; first | done | with_reducible rfl)
          simp only [Act.put, List.setIfInBounds_toArray, List.set_cons_zero, List.set_cons_succ]
          refine rg_take (v := ?_) 3 rfl (by kernel_rfl) (by kernel_rfl) (by kernel_rfl) (fun _ _ _ h => h) (by kernel_rfl) ?_ (by assumption) ?_
          rotate_left
          · (intro w' hSw; (try dsimp only at hSw); go_simp; first | done | with_reducible rfl)
          simp only [Act.put, List.setIfInBounds_toArray, List.set_cons_zero, List.set_cons_succ]
          refine rg_take (v := ?_) 4 rfl (by kernel_rfl) (by kernel_rfl) (by kernel_rfl) (fun _ _ _ h => h) (by kernel_rfl) ?_ (by assumption) ?_
          rotate_left
          · (intro w' hSw; (try dsimp only at hSw); go_simp; first | done | with_reducible rfl)
          simp only [Act.put, List.setIfInBounds_toArray, List.set_cons_zero, List.set_cons_succ]
          refine rg_take (v := ?_) 5 rfl (by kernel_rfl) (by kernel_rfl) (by kernel_rfl) (fun _ _ _ h => h) (by kernel_rfl) ?_ (by assumption) ?_
          rotate_left
          · (intro w' hSw; (try dsimp only at hSw); go_simp; first | done | with_reducible rfl)
          simp only [Act.put, List.setIfInBounds_toArray, List.set_cons_zero, List.set_cons_succ]
          refine rg_take (v := ?_) 6 rfl (by kernel_rfl) (by kernel_rfl) (by kernel_rfl) (fun _ _ _ h => h) (by kernel_rfl) ?_ (by assumption) ?_
          rotate_left
          · (intro w' hSw; (try dsimp only at hSw); go_simp; first | done | with_reducible rfl)
          simp only [Act.put, List.setIfInBounds_toArray, List.set_cons_zero, List.set_cons_succ]
          refine rg_take (v := ?_) 7 rfl (by kernel_rfl) (by kernel_rfl) (by kernel_rfl) (fun _ _ _ h => h) (by kernel_rfl) ?_ (by assumption) ?_
          rotate_left
          · (intro w' hSw; (try dsimp only at hSw); go_simp; first | done | with_reducible rfl)
          simp only [Act.put, List.setIfInBounds_toArray, List.set_cons_zero, List.set_cons_succ]
          refine rg_run 8 rfl (by kernel_rfl) (by kernel_rfl) (fun K hK => ?_)
          go_simp
          refine (HENz.out _ _ _ (HMW.out.below ((Below.refl _ _).drew)) (HSV.out.drew)).mono ?_
          rintro e w4 ⟨A1, c1, rfl, hb⟩
          have HST4 := Lib.hid (show Below wr.heap.size wr w4 from below_chain ((Below.refl _ _).drew) hb)
          replace k0 := cell_later hb (by exact k0)
          replace k1 := cell_later hb (by exact k1)
          replace k2 := cell_later hb (by exact k2)
          replace c2 := cell_later hb (by exact c2)
          replace s0 := cell_later hb (by exact s0)
          clear hb
          go_wp2
          clear hHeld
          refine hK.out _ _ ⟨k0, k1, k2, c2, s0⟩ (fun hHeld => ?_)
          clear hK K
          try simp only [Act.put, List.setIfInBounds_toArray, List.set_cons_zero, List.set_cons_succ]
          refine rg_take (v := ?_) 9 rfl (by kernel_rfl) (by kernel_rfl) (by kernel_rfl) (fun _ _ _ h => h) (by kernel_rfl) ?_ (by assumption) ?_
          rotate_left
          · (intro w' hSw; (try dsimp only at hSw); go_simp; first | done | with_reducible rfl)
          simp only [Act.put, List.setIfInBounds_toArray, List.set_cons_zero, List.set_cons_succ]
          refine rg_take (v := ?_) 10 rfl (by kernel_rfl) (by kernel_rfl) (by kernel_rfl) (fun _ _ _ h => h) (by kernel_rfl) ?_ (by assumption) ?_
          rotate_left
          · (intro w' hSw; (try dsimp only at hSw); go_simp; first | done | with_reducible rfl)
          simp only [Act.put, List.setIfInBounds_toArray, List.set_cons_zero, List.set_cons_succ]
          refine wpAnyH_done (by kernel_rfl) ?_ _
          clear hHeld
          have hs4 := HST4.out.size
          go_wp2
          go_roundw
          case rel => exact ⟨k + 1, by omega, by go_num, Lib.hid (by rw [HN2.out]; exact (HOW.out.below HST4.out).mono (Nat.le_refl _) hs4), k0, k1, k2, c2, Lib.hid (below_chain HBE.out HST4.out)⟩
          case measure => simp [intOf]; omega
      · have hkn : k = Kn := by omega
        subst hkn
        obtain ⟨A2, c2', hv2⟩ := ho.out.form
        have HO2 := ho
        rw [List.take_of_length_le (by rw [HKN.out]; exact Nat.le_refl _), ← HF.out] at HO2 hv2
        subst hv2
        have HB2 := Lib.hid (below_chain HB.out HBE.out)
        clear ho HF HN HKN HKL HEN HDD HKR
        generalize hrl : R.length = Rl at *
        have HRL := Lib.hid hrl
        clear hrl
        go_wp2
        go_ret2
        exact ⟨A2, c2', rfl, HO2.out.rd HRL.out.symm, HB2.out⟩
  · have e := HBAD.out hc
    subst e
    have e := HN.out
    rw [show ascL (([] : List Rc).map Rc.v) = [] from rfl] at e
    subst e
    have e := HF.out
    rw [List.filter_nil] at e
    subst e
    have hci : (C == 0) = false := by simpa using hc
    clear HBAD HN HF HDD HEN HKL
    have HC := Lib.hid hc
    go_enter Try.func41, Try.ntmps41
    go_wp2_with (fail)
    refine (HX.out _ (HM.out.alloc _)).mono ?_
    rintro e w1 ⟨p, rfl, hb, _, _⟩
    have HB := Lib.hid (below_chain (by (repeat (first | exact Below.refl _ _ | assumption | refine below_alloc ?_ _ | refine below_drewN ?_ _ | refine below_set ?_ _ (by simp; try omega) | refine Below.drew ?_)) : Below w.heap.size w _) hb)
    clear hb
    go_wp2
    go_ret2
    exact retSQ_nil rfl rfl HB.out
end Go.Proofs.Ytaloheljfefdeaa

/- Contracts of the laws' own helpers: big, likeInts, likeLists5, hasInt. Condition: bounded sizes. -/
namespace Go.Proofs.Ytaloheljfefdeaa
open Go.RowKit

theorem c_big (A : Option Addr) (c n : Nat) (w : World) : Calls Try.prog 7 #[.slice A n c] w fun e w' => e = .returned (.bool (decide (4096 < n))) ∧ w = w' := by
  go_enter Try.func7, Try.ntmps7
  go_wp2
  go_ret
  exact ⟨ret_bool (by rw [decide_eq_decide]; omega), rfl⟩
theorem take_eq_succ {zs ys : List Int} {k : Nat} {z y : Int} (h : zs.take k = ys.take k) (hz : zs[k]? = some z) (hy : ys[k]? = some y) (e : z = y) : zs.take (k + 1) = ys.take (k + 1) := by
  rw [List.take_add_one, List.take_add_one, h, hz, hy, e]
def likB (zs ys : List Int) : Bool := decide (zs = ys)
theorem likB_ne {zs ys : List Int} {k : Nat} {z y : Int} (hz : zs[k]? = some z) (hy : ys[k]? = some y) (e : ¬ z = y) : likB zs ys = false := by
  unfold likB
  rw [decide_eq_false_iff_not]
  intro h
  rw [h, hy] at hz
  exact e (Option.some.inj hz).symm
theorem likB_len {zs ys : List Int} (h : ¬ zs.length = ys.length) : likB zs ys = false := by
  unfold likB
  rw [decide_eq_false_iff_not]
  intro e
  exact h (by rw [e])
theorem likB_eq {zs ys : List Int} {n : Nat} (h : zs.take n = ys.take n) (h1 : zs.length = n) (h2 : ys.length = n) : likB zs ys = true := by
  unfold likB
  rw [List.take_of_length_le (by omega), List.take_of_length_le (by omega)] at h
  exact decide_eq_true h
set_option maxRecDepth 100000 in
theorem c_likeB (A A' : Option Addr) (c c' n n' : Nat) (zs ys : List Int) (w : World) (hn : n = zs.length) (hn' : n' = ys.length) (hs : n ≤ 1048576) (hs' : n' ≤ 1048576) (hr : Rd w A (ints zs)) (hr' : Rd w A' (ints ys)) :
    Calls Try.prog 14 #[.slice A n c, .slice A' n' c'] w fun e w' => e = .returned (.bool (likB zs ys)) ∧ Below w.heap.size w w' := by
  by_cases hnn : n = n'
  · subst hnn
    have HN := Lib.hid hn
    have HN' := Lib.hid hn'
    clear hn hn' hs'
    go_enter Try.func14, Try.ntmps14
    go_wp2
    go_loopw [5] (fun v wr => ∃ k : Nat, k ≤ n ∧ v = .int .i64 k ∧ Hid (zs.take k = ys.take k) ∧ Below w.heap.size w wr) (fun v _ => n - (intOf v).toNat)
    case atStart => exact ⟨0, Nat.zero_le _, rfl, Lib.hid rfl, by (repeat (first | exact Below.refl _ _ | assumption | refine below_alloc ?_ _ | refine below_drewN ?_ _ | refine below_set ?_ _ (by simp; try omega) | refine Below.drew ?_))⟩
    case round =>
      obtain ⟨k, hk, rfl, ht, hb⟩ := hrel
      by_cases hlt : k < n
      · obtain ⟨z, hz⟩ : ∃ z, zs[k]? = some z := ⟨_, List.getElem?_eq_getElem (by have := HN.out; omega)⟩
        obtain ⟨y, hy⟩ : ∃ z, ys[k]? = some z := ⟨_, List.getElem?_eq_getElem (by have := HN'.out; omega)⟩
        obtain ⟨b1, o1, rfl, _, g1⟩ := (hr.below hb).int hz
        obtain ⟨b2, o2, rfl, _, g2⟩ := (hr'.below hb).int hy
        have hk0 : (0 : Int) ≤ (k : Int) := by omega
        have hk1 : (k : Int) < n := by omega
        have HB := Lib.hid hb
        have HZ := Lib.hid hz
        have HY := Lib.hid hy
        clear hz hy hr hr' hb
        by_cases hzy : z = y
        · subst hzy
          go_wp2_with (fail)
          go_region_held3 (fun w' => w'.cell? ⟨b1, o1 + k, none⟩ = some (.int .i64 z) ∧ w'.cell? ⟨b2, o2 + k, none⟩ = some (.int .i64 z)) (exact ⟨g1, g2⟩) (fail)
          go_wp2_with (fail)
          go_roundw
          case rel => exact ⟨k + 1, by omega, by go_num, Lib.hid (take_eq_succ ht.out HZ.out HY.out rfl), HB.out.drew⟩
          case measure => simp [intOf]; omega
        · have hne : (z != y) = true := by simpa using hzy
          have HL := Lib.hid (likB_ne HZ.out HY.out hzy)
          go_wp2_with (fail)
          go_region_held3 (fun w' => w'.cell? ⟨b1, o1 + k, none⟩ = some (.int .i64 z) ∧ w'.cell? ⟨b2, o2 + k, none⟩ = some (.int .i64 y)) (exact ⟨g1, g2⟩) (fail)
          go_wp2_with (fail)
          go_ret
          exact ⟨by rw [HL.out]; rfl, HB.out.drew⟩
      · obtain rfl : k = n := by omega
        have HL := Lib.hid (likB_eq ht.out HN.out.symm HN'.out.symm)
        go_wp2
        go_ret
        exact ⟨by rw [HL.out]; rfl, hb⟩
  · have HL := Lib.hid (likB_len (zs := zs) (ys := ys) (by omega))
    rw [HL.out]
    have hd : ¬ ((n : Int) = (n' : Int)) := by omega
    clear hn hn'
    go_enter Try.func14, Try.ntmps14
    go_wp2
    go_ret
    exact ⟨rfl, Below.refl _ _⟩
set_option maxRecDepth 100000 in
theorem c_likeLists (A A' : Option Addr) (c c' n n' : Nat) (L : List (List Int)) (w : World) (hn : n = L.length) (hn' : n' = L.length) (hs : n ≤ 1048576) (hl : ∀ l ∈ L, l.length ≤ 1048576) (hr : RdS w A L) (hr' : RdS w A' L) :
    Calls Try.prog 29 #[.slice A n c, .slice A' n' c'] w fun e w' => e = .returned (.bool true) ∧ Below w.heap.size w w' := by
  obtain rfl : n = n' := by omega
  have HN := Lib.hid hn
  have HL := Lib.hid hl
  clear hn hn' hl
  go_enter Try.func29, Try.ntmps29
  go_wp2
  go_loopw [5] (fun v wr => ∃ k : Nat, k ≤ n ∧ v = .int .i64 k ∧ Below w.heap.size w wr) (fun v _ => n - (intOf v).toNat)
  case atStart => exact ⟨0, Nat.zero_le _, rfl, by (repeat (first | exact Below.refl _ _ | assumption | refine below_alloc ?_ _ | refine below_drewN ?_ _ | refine below_set ?_ _ (by simp; try omega) | refine Below.drew ?_))⟩
  case round =>
    obtain ⟨k, hk, rfl, hb⟩ := hrel
    by_cases hlt : k < n
    · obtain ⟨l, hz⟩ : ∃ z, L[k]? = some z := ⟨_, List.getElem?_eq_getElem (by have := HN.out; omega)⟩
      obtain ⟨b1, o1, a1, c1, rfl, _, g1, q1⟩ := (hr.below hb).at hz
      obtain ⟨b2, o2, a2, c2, rfl, _, g2, q2⟩ := (hr'.below hb).at hz
      have hll := HL.out l (List.mem_of_getElem? hz)
      have HK := Lib.hid (fun w' h h' => c_likeB a1 a2 c1 c2 l.length l.length l l w' rfl rfl hll hll h h')
      have e1 : likB l l = true := by unfold likB; simp
      rw [e1] at HK
      have HQ1 := Lib.hid q1
      have HQ2 := Lib.hid q2
      have hk0 : (0 : Int) ≤ (k : Int) := by omega
      have hk1 : (k : Int) < n := by omega
      have HB := Lib.hid hb
      clear hz hr hr' hb q1 q2 e1
      generalize l.length = ln at *
      go_wp2_with (fail)
      refine wp_region_held_drew (S := (fun w' => w'.cell? ⟨b1, o1 + k, none⟩ = some (.slice a1 ln c1) ∧ w'.cell? ⟨b2, o2 + k, none⟩ = some (.slice a2 ln c2))) (by kernel_rfl) ?_ (fun hHeld => ?_)
      · exact ⟨g1, g2⟩
      refine rg_take (v := ?_) 0 rfl (by kernel_rfl) (by kernel_rfl) (by kernel_rfl) (fun _ _ _ h => h) (by kernel_rfl) ?_ (by assumption) ?_
      rotate_left
      · (intro w' hSw; (try dsimp only at hSw); go_simp; first | done | with_reducible rfl)
      simp only [Act.put, List.setIfInBounds_toArray, List.set_cons_zero, List.set_cons_succ]
      refine rg_take (v := ?_) 1 rfl (by kernel_rfl) (by kernel_rfl) (by kernel_rfl) (fun _ _ _ h => h) (by kernel_rfl) ?_ (by assumption) ?_
      rotate_left
      · (intro w' hSw; (try dsimp only at hSw); go_simp; first | done | with_reducible rfl)
      simp only [Act.put, List.setIfInBounds_toArray, List.set_cons_zero, List.set_cons_succ]
      refine rg_take (v := ?_) 2 rfl (by kernel_rfl) (by kernel_rfl) (by kernel_rfl) (fun _ _ _ h => h) (by kernel_rfl) ?_ (by assumption) ?_
      rotate_left
      · (intro w' hSw; (try dsimp only at hSw); go_simp; first | done | with_reducible rfl)
      simp only [Act.put, List.setIfInBounds_toArray, List.set_cons_zero, List.set_cons_succ]
      refine rg_take (v := ?_) 3 rfl (by kernel_rfl) (by kernel_rfl) (by kernel_rfl) (fun _ _ _ h => h) (by kernel_rfl) ?_ (by assumption) ?_
      rotate_left
      · (intro w' hSw; (try dsimp only at hSw); go_simp; first | done | with_reducible rfl)
      simp only [Act.put, List.setIfInBounds_toArray, List.set_cons_zero, List.set_cons_succ]
      refine rg_take (v := ?_) 4 rfl (by kernel_rfl) (by kernel_rfl) (by kernel_rfl) (fun _ _ _ h => h) (by kernel_rfl) ?_ (by assumption) ?_
      rotate_left
      · (intro w' hSw; (try dsimp only at hSw); go_simp; first | done | with_reducible rfl)
      simp only [Act.put, List.setIfInBounds_toArray, List.set_cons_zero, List.set_cons_succ]
      refine rg_take (v := ?_) 5 rfl (by kernel_rfl) (by kernel_rfl) (by kernel_rfl) (fun _ _ _ h => h) (by kernel_rfl) ?_ (by assumption) ?_
      rotate_left
      · (intro w' hSw; (try dsimp only at hSw); go_simp; first | done | with_reducible rfl)
      simp only [Act.put, List.setIfInBounds_toArray, List.set_cons_zero, List.set_cons_succ]
      refine rg_take (v := ?_) 6 rfl (by kernel_rfl) (by kernel_rfl) (by kernel_rfl) (fun _ _ _ h => h) (by kernel_rfl) ?_ (by assumption) ?_
      rotate_left
      · (intro w' hSw; (try dsimp only at hSw); go_simp; first | done | with_reducible rfl)
      simp only [Act.put, List.setIfInBounds_toArray, List.set_cons_zero, List.set_cons_succ]
      refine rg_take (v := ?_) 7 rfl (by kernel_rfl) (by kernel_rfl) (by kernel_rfl) (fun _ _ _ h => h) (by kernel_rfl) ?_ (by assumption) ?_
      rotate_left
      · (intro w' hSw; (try dsimp only at hSw); go_simp; first | done | with_reducible rfl)
      simp only [Act.put, List.setIfInBounds_toArray, List.set_cons_zero, List.set_cons_succ]
      refine rg_run 8 rfl (by kernel_rfl) (by kernel_rfl) (fun K hK => ?_)
      go_simp
      refine (HK.out _ (HQ1.out.drew) (HQ2.out.drew)).mono ?_
      rintro e w2 ⟨rfl, hb⟩
      have hb' : Below wr.heap.size wr w2 := below_chain ((Below.refl _ _).drew) hb
      replace g1 := cell_later hb' g1
      replace g2 := cell_later hb' g2
      have HB2 := Lib.hid (below_chain HB.out hb')
      clear hb hb'
      go_wp2
      clear hHeld
      refine hK.out _ _ ⟨g1, g2⟩ (fun hHeld => ?_)
      clear hK K
      try simp only [Act.put, List.setIfInBounds_toArray, List.set_cons_zero, List.set_cons_succ]
      refine rg_take (v := ?_) 9 rfl (by kernel_rfl) (by kernel_rfl) (by kernel_rfl) (fun _ _ _ h => h) (by kernel_rfl) ?_ (by assumption) ?_
      rotate_left
      · (intro w' hSw; (try dsimp only at hSw); go_simp; first | done | with_reducible rfl)
      simp only [Act.put, List.setIfInBounds_toArray, List.set_cons_zero, List.set_cons_succ]
      refine wpAnyH_done (by kernel_rfl) ?_ _
      clear hHeld
      go_wp2_with (fail)
      go_roundw
      case rel => exact ⟨k + 1, by omega, by go_num, HB2.out⟩
      case measure => simp [intOf]; omega
    · obtain rfl : k = n := by omega
      go_wp2
      go_ret
      exact ⟨rfl, hb⟩
def memB (zs : List Int) (x : Int) : Bool := decide (x ∈ zs)
theorem memB_yes {zs : List Int} {k : Nat} {z : Int} (hz : zs[k]? = some z) : memB zs z = true := by
  unfold memB
  exact decide_eq_true (List.mem_of_getElem? hz)
theorem memB_no {zs : List Int} {x : Int} {n : Nat} (h : ¬ x ∈ zs.take n) (hn : zs.length ≤ n) : memB zs x = false := by
  unfold memB
  rw [List.take_of_length_le hn] at h
  exact decide_eq_false h
theorem not_take {zs : List Int} {k : Nat} {x z : Int} (h : ¬ x ∈ zs.take k) (hz : zs[k]? = some z) (e : ¬ z = x) : ¬ x ∈ zs.take (k + 1) := by
  rw [List.take_add_one, hz]
  intro hm
  rcases List.mem_append.1 hm with hm | hm
  · exact h hm
  · simp at hm
    exact e hm.symm
set_option maxRecDepth 100000 in
theorem c_hasInt (A : Option Addr) (c n : Nat) (zs : List Int) (x : Int) (w : World) (hn : n = zs.length) (hs : n ≤ 1048576) (hr : Rd w A (ints zs)) :
    Calls Try.prog 31 #[.slice A n c, .int .i64 x] w fun e w' => e = .returned (.bool (memB zs x)) ∧ w = w' := by
  have HN := Lib.hid hn
  clear hn
  go_enter Try.func31, Try.ntmps31
  go_wp2
  go_loop [5] (fun v => ∃ k : Nat, k ≤ n ∧ v = .int .i64 k ∧ Hid (¬ x ∈ zs.take k)) (fun v => n - (intOf v).toNat)
  case atStart => exact ⟨0, Nat.zero_le _, rfl, Lib.hid (by simp)⟩
  case round =>
    obtain ⟨k, hk, rfl, ht⟩ := hrel
    by_cases hlt : k < n
    · obtain ⟨z, hz⟩ : ∃ z, zs[k]? = some z := ⟨_, List.getElem?_eq_getElem (by have := HN.out; omega)⟩
      obtain ⟨b1, o1, rfl, _, g1⟩ := hr.int hz
      have HZ := Lib.hid hz
      have hk0 : (0 : Int) ≤ (k : Int) := by omega
      have hk1 : (k : Int) < n := by omega
      clear hz hr
      by_cases hzy : z = x
      · subst hzy
        have HL := Lib.hid (memB_yes HZ.out)
        go_wp2
        go_ret
        exact ⟨by rw [HL.out]; rfl, rfl⟩
      · have hne : (z == x) = false := by simpa using hzy
        go_wp2
        go_round
        case rel => exact ⟨k + 1, by omega, by go_num, Lib.hid (not_take ht.out HZ.out hzy)⟩
        case measure => simp [intOf]; omega
    · obtain rfl : k = n := by omega
      have HL := Lib.hid (memB_no ht.out (by have := HN.out; omega))
      go_wp2
      go_ret
      exact ⟨by rw [HL.out]; rfl, rfl⟩
end Go.Proofs.Ytaloheljfefdeaa
