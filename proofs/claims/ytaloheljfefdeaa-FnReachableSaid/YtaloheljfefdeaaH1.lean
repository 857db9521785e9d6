/- Contracts and helpers (joined texts, part 1). The conditions stand at each theorem. -/
import Derived.Test.YtaloheljfefdeaaH0
import Derived.Lib.Strings
import Derived.Lib.Slices
import Derived.Lib.Walk
import Derived.Lib.Bytealg
import Derived.Deep.RegionHeld3
/- IndexFunc and ContainsFunc at []Test, []int64 (closures with nothing or one thing captured) and []Rule, for whatever closure meets its contract. Condition: the closure's contract. -/
namespace Go.Proofs.Ytaloheljfefdeaa
open Go.RowKit

/-- The index of the first element as asked, -1 if there is none. -/
def idxI {α : Type} (pr : α → Bool) (l : List α) : Int := match l.findIdx? pr with | some k => (k : Int) | none => -1
theorem enter_of {f : FuncId} {fn : Func} {c : Code} (hf : Try.prog.funcs[f]? = some fn) (hname : (fn.name == "runtime.NumGoroutine") = false) (hb : fn.body = some c) (args : Array Value) (w : World) :
    (callFunc f args).run Try.prog w = .ok (.enter f args) w := by
  have h1 : fn.name ≠ "runtime.NumGoroutine" := by simpa using hname
  simp [callFunc, hf, h1, hb]
theorem idxI_none {α : Type} {pr : α → Bool} {l : List α} (h : l.any pr = false) : idxI pr l = -1 := by
  unfold idxI
  rw [List.findIdx?_eq_none_iff.2 (fun x hx => by rw [List.any_eq_false] at h; simpa using h x hx)]
theorem any_take_snoc {α : Type} {pr : α → Bool} {l : List α} {k : Nat} {t : α} (hz : l[k]? = some t) (h : (l.take k).any pr = false) (h2 : pr t = false) : (l.take (k + 1)).any pr = false := by
  rw [List.take_add_one, List.any_append, h, hz]
  simp [h2]
theorem idxI_found {α : Type} {pr : α → Bool} {l : List α} {k : Nat} {t : α} (hz : l[k]? = some t) (h : (l.take k).any pr = false) (h2 : pr t = true) : idxI pr l = k := by
  obtain ⟨hk, e⟩ := List.getElem?_eq_some_iff.1 hz
  have : l.findIdx? pr = some k := by
    rw [List.findIdx?_eq_some_iff_getElem]
    refine ⟨hk, by rw [e, h2], fun j hj => ?_⟩
    rw [List.any_eq_false] at h
    have := h (l[j]'(by omega)) (by
      rw [List.mem_iff_getElem?]
      exact ⟨j, by rw [List.getElem?_take, if_pos hj]; exact List.getElem?_eq_getElem (by omega)⟩)
    simpa using this
  unfold idxI
  rw [this]
theorem idxI_any {α : Type} (pr : α → Bool) (l : List α) : decide (0 ≤ idxI pr l) = l.any pr := by
  unfold idxI
  split
  · rename_i k h
    rw [List.findIdx?_eq_some_iff_getElem] at h
    obtain ⟨hk, hp, _⟩ := h
    have : l.any pr = true := List.any_eq_true.2 ⟨l[k], List.getElem_mem hk, hp⟩
    rw [this]
    simp
  · rename_i h
    rw [List.findIdx?_eq_none_iff] at h
    have : l.any pr = false := List.any_eq_false.2 (fun x hx => by rw [h x hx]; simp)
    rw [this]
    rfl
theorem idxI_ge {α : Type} (pr : α → Bool) (l : List α) : -1 ≤ idxI pr l := by unfold idxI; split <;> omega
/-- What a closure over one captured value answers at a test. -/
def ClT (f : Nat) (x : Value) (pr : Tst → Bool) (l : List Tst) (w : World) : Prop :=
  ∀ (wr : World) (t : Tst), t ∈ l → Below w.heap.size w wr → Calls Try.prog f #[.agg #[.int .i64 t.v, .int .i64 t.x, .bool t.q], x] wr fun e w2 => e = .returned (.bool (pr t)) ∧ Below wr.heap.size wr w2
set_option maxRecDepth 100000 in
theorem c_IndexTest (f : Nat) (x : Value) (pr : Tst → Bool) (A : Option Addr) (c : Nat) (l : List Tst) (w : World) (hl2 : l.length ≤ 1048576) (hv : Rd w A (tstCells l)) (hcall : Hid (ClT f x pr l w)) (hent : ∀ (args : Array Value) (w : World), (callFunc f args).run Try.prog w = .ok (.enter f args) w) :
    Calls Try.prog 118 #[.slice A l.length c, .func (.func f) #[] #[x]] w fun e w' => e = .returned (.int .i64 (idxI pr l)) ∧ Below w.heap.size w w' := by
  have HR := Lib.hid (rfl : idxI pr l = idxI pr l)
  generalize hR : idxI pr l = R at HR
  replace HR := Lib.hid hR
  clear hR
  generalize hvn : l.length = vn at *
  have HVN := Lib.hid hvn
  have HV := Lib.hid hv
  clear hv hvn
  go_enter Try.func118, Try.ntmps118
  go_wp2
  go_loopw [8] (fun i wr => ∃ k : Nat, k ≤ vn ∧ i = .int .i64 k ∧ Hid ((l.take k).any pr = false) ∧ Below w.heap.size w wr) (fun i _ => vn - (intOf i).toNat)
  case atStart => exact ⟨0, Nat.zero_le _, rfl, Lib.hid rfl, by (repeat (first | exact Below.refl _ _ | assumption | refine below_alloc ?_ _ | refine below_drewN ?_ _ | refine below_set ?_ _ (by simp; try omega) | refine Below.drew ?_))⟩
  case round =>
    obtain ⟨k, hk, rfl, ha, hb⟩ := hrel
    by_cases hlt : k < vn
    · obtain ⟨t, hz⟩ : ∃ z, l[k]? = some z := ⟨_, List.getElem?_eq_getElem (by have := HVN.out; omega)⟩
      obtain ⟨b', off, rfl, _, g0, g1, g2⟩ := (HV.out.below hb).tst hz
      have HZZ := Lib.hid hz
      have HBE := Lib.hid hb
      have HC := Lib.hid (hcall.out wr t (List.mem_of_getElem? hz) hb)
      clear hz hb
      rcases hin : pr t with _ | _
      · rw [hin] at HC
        have HI := Lib.hid hin
        clear hin
        go_wp2_with (fail)
        refine HC.out.mono ?_
        rintro e w2 ⟨rfl, hb⟩
        have HB2 := Lib.hid (below_chain HBE.out hb)
        clear hb
        go_wp2
        go_roundw
        case rel => exact ⟨k + 1, by omega, by go_num, Lib.hid (any_take_snoc HZZ.out ha.out HI.out), HB2.out⟩
        case measure => simp [intOf]; omega
      · rw [hin] at HC
        have HI := Lib.hid hin
        clear hin
        go_wp2_with (fail)
        refine HC.out.mono ?_
        rintro e w2 ⟨rfl, hb⟩
        have HB2 := Lib.hid (below_chain HBE.out hb)
        clear hb
        go_wp2
        go_ret
        exact ⟨ret_int (by rw [← HR.out, idxI_found HZZ.out ha.out HI.out]), HB2.out⟩
    · have : k = vn := by omega
      subst this
      have hA := ha.out
      rw [List.take_of_length_le (by have := HVN.out; omega)] at hA
      have HA := Lib.hid hA
      clear hA ha
      go_wp2
      go_ret
      exact ⟨ret_int (by rw [← HR.out, idxI_none HA.out]), hb⟩
set_option maxRecDepth 100000 in
theorem c_ContainsTest (f : Nat) (x : Value) (pr : Tst → Bool) (A : Option Addr) (c : Nat) (l : List Tst) (w : World) (hl2 : l.length ≤ 1048576) (hv : Rd w A (tstCells l)) (hcall : Hid (ClT f x pr l w)) (hent : ∀ (args : Array Value) (w : World), (callFunc f args).run Try.prog w = .ok (.enter f args) w) :
    Calls Try.prog 96 #[.slice A l.length c, .func (.func f) #[] #[x]] w fun e w' => e = .returned (.bool (l.any pr)) ∧ Below w.heap.size w w' := by
  have HC := Lib.hid (c_IndexTest f x pr A c l w hl2 hv hcall hent)
  have HA := Lib.hid (idxI_any pr l)
  generalize idxI pr l = i at HC HA
  generalize l.any pr = r at HA ⊢
  generalize l.length = n at *
  clear hv hcall hent
  go_enter Try.func96, Try.ntmps96
  go_wp2_with (fail)
  refine HC.out.mono ?_
  rintro e w1 ⟨rfl, hb⟩
  have HB := Lib.hid hb
  clear hb
  go_wp2
  go_ret
  exact ⟨ret_bool HA.out, HB.out⟩
end Go.Proofs.Ytaloheljfefdeaa

/- IndexFunc and ContainsFunc at other element types (printed by idx.py). Condition: the closure's contract. -/
namespace Go.Proofs.Ytaloheljfefdeaa
open Go.RowKit

/-- What a closure over one captured value answers at a test. -/
def ClInt0 (f : Nat) (pr : Int → Bool) (l : List Int) (w : World) : Prop :=
  ∀ (wr : World) (t : Int), t ∈ l → Below w.heap.size w wr → Calls Try.prog f #[.int .i64 t] wr fun e w2 => e = .returned (.bool (pr t)) ∧ Below wr.heap.size wr w2
set_option maxRecDepth 100000 in
theorem c_IndexInt0 (f : Nat) (pr : Int → Bool) (A : Option Addr) (c : Nat) (l : List Int) (w : World) (hl2 : l.length ≤ 1048576) (hv : Rd w A (ints l)) (hcall : Hid (ClInt0 f pr l w)) (hent : ∀ (args : Array Value) (w : World), (callFunc f args).run Try.prog w = .ok (.enter f args) w) :
    Calls Try.prog 108 #[.slice A l.length c, .func (.func f) #[] #[]] w fun e w' => e = .returned (.int .i64 (idxI pr l)) ∧ Below w.heap.size w w' := by
  have HR := Lib.hid (rfl : idxI pr l = idxI pr l)
  generalize hR : idxI pr l = R at HR
  replace HR := Lib.hid hR
  clear hR
  generalize hvn : l.length = vn at *
  have HVN := Lib.hid hvn
  have HV := Lib.hid hv
  clear hv hvn
  go_enter Try.func108, Try.ntmps108
  go_wp2
  go_loopw [8] (fun i wr => ∃ k : Nat, k ≤ vn ∧ i = .int .i64 k ∧ Hid ((l.take k).any pr = false) ∧ Below w.heap.size w wr) (fun i _ => vn - (intOf i).toNat)
  case atStart => exact ⟨0, Nat.zero_le _, rfl, Lib.hid rfl, by (repeat (first | exact Below.refl _ _ | assumption | refine below_alloc ?_ _ | refine below_drewN ?_ _ | refine below_set ?_ _ (by simp; try omega) | refine Below.drew ?_))⟩
  case round =>
    obtain ⟨k, hk, rfl, ha, hb⟩ := hrel
    by_cases hlt : k < vn
    · obtain ⟨t, hz⟩ : ∃ z, l[k]? = some z := ⟨_, List.getElem?_eq_getElem (by have := HVN.out; omega)⟩
      obtain ⟨b', off, rfl, _, g0⟩ := (HV.out.below hb).int hz
      have HZZ := Lib.hid hz
      have HBE := Lib.hid hb
      have HC := Lib.hid (hcall.out wr t (List.mem_of_getElem? hz) hb)
      clear hz hb
      rcases hin : pr t with _ | _
      · rw [hin] at HC
        have HI := Lib.hid hin
        clear hin
        go_wp2_with (fail)
        refine HC.out.mono ?_
        rintro e w2 ⟨rfl, hb⟩
        have HB2 := Lib.hid (below_chain HBE.out hb)
        clear hb
        go_wp2
        go_roundw
        case rel => exact ⟨k + 1, by omega, by go_num, Lib.hid (any_take_snoc HZZ.out ha.out HI.out), HB2.out⟩
        case measure => simp [intOf]; omega
      · rw [hin] at HC
        have HI := Lib.hid hin
        clear hin
        go_wp2_with (fail)
        refine HC.out.mono ?_
        rintro e w2 ⟨rfl, hb⟩
        have HB2 := Lib.hid (below_chain HBE.out hb)
        clear hb
        go_wp2
        go_ret
        exact ⟨ret_int (by rw [← HR.out, idxI_found HZZ.out ha.out HI.out]), HB2.out⟩
    · have : k = vn := by omega
      subst this
      have hA := ha.out
      rw [List.take_of_length_le (by have := HVN.out; omega)] at hA
      have HA := Lib.hid hA
      clear hA ha
      go_wp2
      go_ret
      exact ⟨ret_int (by rw [← HR.out, idxI_none HA.out]), hb⟩
set_option maxRecDepth 100000 in
theorem c_ContainsInt0 (f : Nat) (pr : Int → Bool) (A : Option Addr) (c : Nat) (l : List Int) (w : World) (hl2 : l.length ≤ 1048576) (hv : Rd w A (ints l)) (hcall : Hid (ClInt0 f pr l w)) (hent : ∀ (args : Array Value) (w : World), (callFunc f args).run Try.prog w = .ok (.enter f args) w) :
    Calls Try.prog 63 #[.slice A l.length c, .func (.func f) #[] #[]] w fun e w' => e = .returned (.bool (l.any pr)) ∧ Below w.heap.size w w' := by
  have HC := Lib.hid (c_IndexInt0 f pr A c l w hl2 hv hcall hent)
  have HA := Lib.hid (idxI_any pr l)
  generalize idxI pr l = i at HC HA
  generalize l.any pr = r at HA ⊢
  generalize l.length = n at *
  clear hv hcall hent
  go_enter Try.func63, Try.ntmps63
  go_wp2_with (fail)
  refine HC.out.mono ?_
  rintro e w1 ⟨rfl, hb⟩
  have HB := Lib.hid hb
  clear hb
  go_wp2
  go_ret
  exact ⟨ret_bool HA.out, HB.out⟩

/-- What a closure over one captured value answers at a test. -/
def ClInt1 (f : Nat) (x : Value) (pr : Int → Bool) (l : List Int) (w : World) : Prop :=
  ∀ (wr : World) (t : Int), t ∈ l → Below w.heap.size w wr → Calls Try.prog f #[.int .i64 t, x] wr fun e w2 => e = .returned (.bool (pr t)) ∧ Below wr.heap.size wr w2
set_option maxRecDepth 100000 in
theorem c_IndexInt1 (f : Nat) (x : Value) (pr : Int → Bool) (A : Option Addr) (c : Nat) (l : List Int) (w : World) (hl2 : l.length ≤ 1048576) (hv : Rd w A (ints l)) (hcall : Hid (ClInt1 f x pr l w)) (hent : ∀ (args : Array Value) (w : World), (callFunc f args).run Try.prog w = .ok (.enter f args) w) :
    Calls Try.prog 108 #[.slice A l.length c, .func (.func f) #[] #[x]] w fun e w' => e = .returned (.int .i64 (idxI pr l)) ∧ Below w.heap.size w w' := by
  have HR := Lib.hid (rfl : idxI pr l = idxI pr l)
  generalize hR : idxI pr l = R at HR
  replace HR := Lib.hid hR
  clear hR
  generalize hvn : l.length = vn at *
  have HVN := Lib.hid hvn
  have HV := Lib.hid hv
  clear hv hvn
  go_enter Try.func108, Try.ntmps108
  go_wp2
  go_loopw [8] (fun i wr => ∃ k : Nat, k ≤ vn ∧ i = .int .i64 k ∧ Hid ((l.take k).any pr = false) ∧ Below w.heap.size w wr) (fun i _ => vn - (intOf i).toNat)
  case atStart => exact ⟨0, Nat.zero_le _, rfl, Lib.hid rfl, by (repeat (first | exact Below.refl _ _ | assumption | refine below_alloc ?_ _ | refine below_drewN ?_ _ | refine below_set ?_ _ (by simp; try omega) | refine Below.drew ?_))⟩
  case round =>
    obtain ⟨k, hk, rfl, ha, hb⟩ := hrel
    by_cases hlt : k < vn
    · obtain ⟨t, hz⟩ : ∃ z, l[k]? = some z := ⟨_, List.getElem?_eq_getElem (by have := HVN.out; omega)⟩
      obtain ⟨b', off, rfl, _, g0⟩ := (HV.out.below hb).int hz
      have HZZ := Lib.hid hz
      have HBE := Lib.hid hb
      have HC := Lib.hid (hcall.out wr t (List.mem_of_getElem? hz) hb)
      clear hz hb
      rcases hin : pr t with _ | _
      · rw [hin] at HC
        have HI := Lib.hid hin
        clear hin
        go_wp2_with (fail)
        refine HC.out.mono ?_
        rintro e w2 ⟨rfl, hb⟩
        have HB2 := Lib.hid (below_chain HBE.out hb)
        clear hb
        go_wp2
        go_roundw
        case rel => exact ⟨k + 1, by omega, by go_num, Lib.hid (any_take_snoc HZZ.out ha.out HI.out), HB2.out⟩
        case measure => simp [intOf]; omega
      · rw [hin] at HC
        have HI := Lib.hid hin
        clear hin
        go_wp2_with (fail)
        refine HC.out.mono ?_
        rintro e w2 ⟨rfl, hb⟩
        have HB2 := Lib.hid (below_chain HBE.out hb)
        clear hb
        go_wp2
        go_ret
        exact ⟨ret_int (by rw [← HR.out, idxI_found HZZ.out ha.out HI.out]), HB2.out⟩
    · have : k = vn := by omega
      subst this
      have hA := ha.out
      rw [List.take_of_length_le (by have := HVN.out; omega)] at hA
      have HA := Lib.hid hA
      clear hA ha
      go_wp2
      go_ret
      exact ⟨ret_int (by rw [← HR.out, idxI_none HA.out]), hb⟩
set_option maxRecDepth 100000 in
theorem c_ContainsInt1 (f : Nat) (x : Value) (pr : Int → Bool) (A : Option Addr) (c : Nat) (l : List Int) (w : World) (hl2 : l.length ≤ 1048576) (hv : Rd w A (ints l)) (hcall : Hid (ClInt1 f x pr l w)) (hent : ∀ (args : Array Value) (w : World), (callFunc f args).run Try.prog w = .ok (.enter f args) w) :
    Calls Try.prog 63 #[.slice A l.length c, .func (.func f) #[] #[x]] w fun e w' => e = .returned (.bool (l.any pr)) ∧ Below w.heap.size w w' := by
  have HC := Lib.hid (c_IndexInt1 f x pr A c l w hl2 hv hcall hent)
  have HA := Lib.hid (idxI_any pr l)
  generalize idxI pr l = i at HC HA
  generalize l.any pr = r at HA ⊢
  generalize l.length = n at *
  clear hv hcall hent
  go_enter Try.func63, Try.ntmps63
  go_wp2_with (fail)
  refine HC.out.mono ?_
  rintro e w1 ⟨rfl, hb⟩
  have HB := Lib.hid hb
  clear hb
  go_wp2
  go_ret
  exact ⟨ret_bool HA.out, HB.out⟩

/-- What a closure over one captured value answers at a test. -/
def ClRule (f : Nat) (x : Value) (pr : Rul → Bool) (l : List Rul) (w : World) : Prop :=
  ∀ (wr : World) (t : Rul) (ag ae : Option Addr) (cg ce : Nat), t ∈ l → Below w.heap.size w wr → Rd wr ag (tstCells t.gs) → Rd wr ae (asgCells t.es) → Calls Try.prog f #[.agg #[.string t.nm, .slice ag t.gs.length cg, .slice ae t.es.length ce], x] wr fun e w2 => e = .returned (.bool (pr t)) ∧ Below wr.heap.size wr w2
set_option maxRecDepth 100000 in
theorem c_IndexRule (f : Nat) (x : Value) (pr : Rul → Bool) (A : Option Addr) (c : Nat) (l : List Rul) (w : World) (hl2 : l.length ≤ 1048576) (hv : Rl w A l) (hcall : Hid (ClRule f x pr l w)) (hent : ∀ (args : Array Value) (w : World), (callFunc f args).run Try.prog w = .ok (.enter f args) w) :
    Calls Try.prog 120 #[.slice A l.length c, .func (.func f) #[] #[x]] w fun e w' => e = .returned (.int .i64 (idxI pr l)) ∧ Below w.heap.size w w' := by
  have HR := Lib.hid (rfl : idxI pr l = idxI pr l)
  generalize hR : idxI pr l = R at HR
  replace HR := Lib.hid hR
  clear hR
  generalize hvn : l.length = vn at *
  have HVN := Lib.hid hvn
  have HV := Lib.hid hv
  clear hv hvn
  go_enter Try.func120, Try.ntmps120
  go_wp2
  go_loopw [8] (fun i wr => ∃ k : Nat, k ≤ vn ∧ i = .int .i64 k ∧ Hid ((l.take k).any pr = false) ∧ Below w.heap.size w wr) (fun i _ => vn - (intOf i).toNat)
  case atStart => exact ⟨0, Nat.zero_le _, rfl, Lib.hid rfl, by (repeat (first | exact Below.refl _ _ | assumption | refine below_alloc ?_ _ | refine below_drewN ?_ _ | refine below_set ?_ _ (by simp; try omega) | refine Below.drew ?_))⟩
  case round =>
    obtain ⟨k, hk, rfl, ha, hb⟩ := hrel
    by_cases hlt : k < vn
    · obtain ⟨t, hz⟩ : ∃ z, l[k]? = some z := ⟨_, List.getElem?_eq_getElem (by have := HVN.out; omega)⟩
      obtain ⟨b', off, ag, cg, ae, ce, rfl, _, g0, g1, g2, hg, he⟩ := (HV.out.below hb).at hz
      have HZZ := Lib.hid hz
      have HBE := Lib.hid hb
      have HC := Lib.hid (hcall.out wr t ag ae cg ce (List.mem_of_getElem? hz) hb hg he)
      clear hz hb hg he
      rcases hin : pr t with _ | _
      · rw [hin] at HC
        have HI := Lib.hid hin
        clear hin
        go_wp2_with (fail)
        refine HC.out.mono ?_
        rintro e w2 ⟨rfl, hb⟩
        have HB2 := Lib.hid (below_chain HBE.out hb)
        clear hb
        go_wp2
        go_roundw
        case rel => exact ⟨k + 1, by omega, by go_num, Lib.hid (any_take_snoc HZZ.out ha.out HI.out), HB2.out⟩
        case measure => simp [intOf]; omega
      · rw [hin] at HC
        have HI := Lib.hid hin
        clear hin
        go_wp2_with (fail)
        refine HC.out.mono ?_
        rintro e w2 ⟨rfl, hb⟩
        have HB2 := Lib.hid (below_chain HBE.out hb)
        clear hb
        go_wp2
        go_ret
        exact ⟨ret_int (by rw [← HR.out, idxI_found HZZ.out ha.out HI.out]), HB2.out⟩
    · have : k = vn := by omega
      subst this
      have hA := ha.out
      rw [List.take_of_length_le (by have := HVN.out; omega)] at hA
      have HA := Lib.hid hA
      clear hA ha
      go_wp2
      go_ret
      exact ⟨ret_int (by rw [← HR.out, idxI_none HA.out]), hb⟩
set_option maxRecDepth 100000 in
theorem c_ContainsRule (f : Nat) (x : Value) (pr : Rul → Bool) (A : Option Addr) (c : Nat) (l : List Rul) (w : World) (hl2 : l.length ≤ 1048576) (hv : Rl w A l) (hcall : Hid (ClRule f x pr l w)) (hent : ∀ (args : Array Value) (w : World), (callFunc f args).run Try.prog w = .ok (.enter f args) w) :
    Calls Try.prog 105 #[.slice A l.length c, .func (.func f) #[] #[x]] w fun e w' => e = .returned (.bool (l.any pr)) ∧ Below w.heap.size w w' := by
  have HC := Lib.hid (c_IndexRule f x pr A c l w hl2 hv hcall hent)
  have HA := Lib.hid (idxI_any pr l)
  generalize idxI pr l = i at HC HA
  generalize l.any pr = r at HA ⊢
  generalize l.length = n at *
  clear hv hcall hent
  go_enter Try.func105, Try.ntmps105
  go_wp2_with (fail)
  refine HC.out.mono ?_
  rintro e w1 ⟨rfl, hb⟩
  have HB := Lib.hid hb
  clear hb
  go_wp2
  go_ret
  exact ⟨ret_bool HA.out, HB.out⟩

end Go.Proofs.Ytaloheljfefdeaa

/- Contract of the closure of areTests (program). Condition: the sizes lie in 1 .. 32. -/
namespace Go.Proofs.Ytaloheljfefdeaa
open Go.RowKit

set_option maxRecDepth 100000 in
theorem c_areTests1 (m : Mdl) (az ax ar : Option Addr) (cz cs cr : Nat) (p : Nat) (v x : Int) (q : Bool) (w : World) (hs : SzsOk m.sz) (hl : m.sz.length ≤ 1048576) (h : Rd w az (ints m.sz))
    (k0 : w.cell? ⟨p, 0, none⟩ = some (.slice az m.sz.length cz)) (k1 : w.cell? ⟨p, 1, none⟩ = some (.slice ax m.st.length cs)) (k2 : w.cell? ⟨p, 2, none⟩ = some (.slice ar m.rs.length cr)) :
    Calls Try.prog 100 #[.agg #[.int .i64 v, .int .i64 x, .bool q], .pointer (some ⟨p, 0, none⟩)] w fun e w' => e = .returned (.bool (!hasB m.sz v x)) ∧ Below w.heap.size w w' := by
  have HH := Lib.hid (fun (w : World) (h : Rd w az (ints m.sz)) => c_has m az ax ar cz cs cr v x w hs hl h)
  generalize hasB m.sz v x = R at HH ⊢
  obtain ⟨sz, st, rs⟩ := m
  dsimp only [mv] at *
  have H := Lib.hid h
  clear h hs
  have hp := World.block_lt_of_cell? _ _ k0
  generalize sz.length = a at *
  generalize st.length = b at *
  generalize rs.length = c at *
  go_enter Try.func100, Try.ntmps100
  go_wp2_with (fail)
  refine (HH.out _ (H.out.alloc _)).mono ?_
  rintro e w1 ⟨rfl, hb⟩
  have B := below_chain (below_alloc (Below.refl _ _) _) hb
  clear hb
  go_wp2
  go_ret
  exact ⟨rfl, B⟩
end Go.Proofs.Ytaloheljfefdeaa

/- strings.IndexByte by its contract (the shelf's, at this seat). No condition. -/
namespace Go.Proofs.Ytaloheljfefdeaa

set_option maxHeartbeats 1000000 in
set_option maxRecDepth 100000 in
theorem c_sliteIndexByte (s : ByteArray) (c : Int) (w : World) :
    Calls Try.prog 145 #[.string s, .int .u8 c] w fun e w' => e = .returned (.int .i64 (Lib.indexByte s.data.toList c.toNat.toUInt8)) ∧ w = w' := by
  go_enter Try.func145, Try.ntmps145
  go_wp2
  rw [run_callFunc_extern Try.func147 (by kernel_rfl) (by kernel_rfl) (by kernel_rfl) (e := Extern.BytealgIndexByte.indexByte) (by kernel_rfl), Lib.run_indexByteString]
  simp only [Result.andThen]
  rw [Oper.upon_value]
  go_wp2
  go_ret
  exact ⟨rfl, rfl⟩
set_option maxHeartbeats 1000000 in
theorem c_IndexByte (s : ByteArray) (c : Int) (w : World) :
    Calls Try.prog 139 #[.string s, .int .u8 c] w fun e w' => e = .returned (.int .i64 (Lib.indexByte s.data.toList c.toNat.toUInt8)) ∧ w = w' := by
  go_enter Try.func139, Try.ntmps139
  go_wp2_with (first
    | (go_at_call 145
       refine (c_sliteIndexByte _ _ _).mono ?_
       rintro e w' ⟨rfl, rfl⟩)
    )
  go_ret
  exact ⟨rfl, rfl⟩
end Go.Proofs.Ytaloheljfefdeaa

/- areTests (program), the name of a rule (both sides). Condition: the sizes lie in 1 .. 32. -/
namespace Go.Proofs.Ytaloheljfefdeaa
open Go.RowKit

theorem any_not_ts (sz : List Int) (l : List Tst) : l.any (fun t => !hasB sz t.v t.x) = !tsK sz l := by
  unfold tsK
  induction l with
  | nil => rfl
  | cons a t ih => simp [List.any_cons, List.all_cons, ih]
set_option maxRecDepth 100000 in
theorem c_areTests (m : Mdl) (az ax ar : Option Addr) (cz cs cr : Nat) (A : Option Addr) (c : Nat) (l : List Tst) (w : World) (hs : SzsOk m.sz) (hl : m.sz.length ≤ 1048576) (hl2 : l.length ≤ 1048576) (h : Rd w az (ints m.sz)) (hv : Rd w A (tstCells l)) :
    Calls Try.prog 59 #[mv m az ax ar cz cs cr, .slice A l.length c] w fun e w' => e = .returned (.bool (tsB m.sz l)) ∧ Below w.heap.size w w' := by
  have hmf : ∀ (fn : Fn) (first cap : Array Value) (w : World), (Instr.makeFunc fn first cap).run Try.prog w = .ok (.func fn first cap) w := fun _ _ _ _ => rfl
  have HB0 := Lib.hid (show tsB m.sz l = (tsK m.sz l && decide (l.length ≤ 24)) from rfl)
  have HN := Lib.hid (any_not_ts m.sz l)
  have HCC := Lib.hid (fun (w' : World) (x : Value) (hv : Rd w' A (tstCells l)) hc => c_ContainsTest 100 x (fun t => !hasB m.sz t.v t.x) A c l w' hl2 hv hc (enter_of Try.func100 (by kernel_rfl) rfl))
  have HCL := Lib.hid (fun (w' : World) (p v x q) h k0 k1 k2 => c_areTests1 m az ax ar cz cs cr p v x q w' hs hl h k0 k1 k2)
  have HZ := Lib.hid h
  have HV := Lib.hid hv
  generalize tsB m.sz l = R at HB0 ⊢
  clear h hv hs
  generalize hvn : l.length = vn at *
  by_cases h24 : vn ≤ 24
  · have e0 := HB0.out
    rw [decide_eq_true h24, Bool.and_true] at e0
    have E0 := Lib.hid e0
    clear e0 HB0 hvn
    obtain ⟨sz, st, rs⟩ := m
    dsimp only [mv] at *
    generalize sz.length = a at *
    generalize st.length = b at *
    generalize rs.length = d at *
    go_enter Try.func59, Try.ntmps59
    go_wp2_with (fail)
    refine (HCC.out _ _ (by exact HV.out.alloc _) (Lib.hid ?_)).mono ?_
    · intro wr t _ hb
      refine HCL.out wr _ t.v t.x t.q ((HZ.out.alloc _).below hb) (cell_later hb (by go_simp)) (cell_later hb (by go_simp)) (cell_later hb (by go_simp))
    · rintro e w1 ⟨rfl, hb⟩
      have HB := Lib.hid (below_chain (by (repeat (first | exact Below.refl _ _ | assumption | refine below_alloc ?_ _ | refine below_drewN ?_ _ | refine below_set ?_ _ (by simp; try omega) | refine Below.drew ?_)) : Below w.heap.size w _) hb)
      have HN2 := Lib.hid (show List.any l (fun t => !hasB sz t.v t.x) = !R by rw [HN.out, E0.out])
      clear hb
      generalize List.any l (fun t => !hasB sz t.v t.x) = r at HN2 ⊢
      go_wp2
      go_ret
      exact ⟨ret_bool (by rw [HN2.out]; simp), HB.out⟩
  · have e0 := HB0.out
    rw [decide_eq_false h24, Bool.and_false] at e0
    subst e0
    clear HB0 hvn HN HCC HCL
    obtain ⟨sz, st, rs⟩ := m
    dsimp only [mv] at *
    generalize sz.length = a at *
    generalize st.length = b at *
    generalize rs.length = d at *
    go_enter Try.func59, Try.ntmps59
    go_wp2
    go_ret
    exact ⟨rfl, by (repeat (first | exact Below.refl _ _ | assumption | refine below_alloc ?_ _ | refine below_drewN ?_ _ | refine below_set ?_ _ (by simp; try omega) | refine Below.drew ?_))⟩
end Go.Proofs.Ytaloheljfefdeaa

/- The name of a rule, on both sides. No condition. -/
namespace Go.Proofs.Ytaloheljfefdeaa
open Go.RowKit

def wbs : List UInt8 := [97, 98, 99, 100, 101, 102, 103, 104, 105, 106, 107, 108, 109, 110, 111, 112, 113, 114, 115, 116, 117, 118, 119, 120, 121, 122, 48, 49, 50, 51, 52, 53, 54, 55, 56, 57, 95]
def wb (c : UInt8) : Bool := (97 ≤ c.toNat && c.toNat ≤ 122) || (48 ≤ c.toNat && c.toNat ≤ 57) || c.toNat == 95
theorem indexByte_mem (l : List UInt8) (c : UInt8) : decide (0 ≤ Lib.indexByte l c) = l.contains c := by
  induction l with
  | nil => rfl
  | cons b l ih =>
    have := Lib.indexByte_ge l c
    unfold Lib.indexByte
    rw [List.contains_cons]
    by_cases e : b = c
    · subst e; simp
    · have e' : (b == c) = false := by simpa using e
      have e2 : (c == b) = false := by simp; exact fun h => e h.symm
      rw [e', e2, Bool.false_or, ← ih]
      simp only [Bool.false_eq_true, if_false]
      by_cases h : Lib.indexByte l c = -1
      · simp [h]
      · rw [if_neg (by simpa using h)]
        simp
        omega
theorem wbs_wb : ∀ n : Fin 256, wbs.contains (UInt8.ofNat n.val) = wb (UInt8.ofNat n.val) := by decide +kernel
theorem wbs_eq (c : UInt8) : decide (0 ≤ Lib.indexByte wbs c) = wb c := by
  rw [indexByte_mem]
  have := wbs_wb ⟨c.toNat, c.toNat_lt⟩
  simpa using this
def nmB (s : ByteArray) : Bool := inB s.size 1 16 && s.data.toList.all wb
def wbsB : ByteArray := ⟨#[97, 98, 99, 100, 101, 102, 103, 104, 105, 106, 107, 108, 109, 110, 111, 112, 113, 114, 115, 116, 117, 118, 119, 120, 121, 122, 48, 49, 50, 51, 52, 53, 54, 55, 56, 57, 95]⟩
theorem c_IndexByteW (c : UInt8) (w : World) : Calls Try.prog 139 #[.string ⟨#[97, 98, 99, 100, 101, 102, 103, 104, 105, 106, 107, 108, 109, 110, 111, 112, 113, 114, 115, 116, 117, 118, 119, 120, 121, 122, 48, 49, 50, 51, 52, 53, 54, 55, 56, 57, 95]⟩, .int .u8 c.toNat] w
    fun e w' => ∃ n : Int, e = .returned (.int .i64 n) ∧ decide (0 ≤ n) = wb c ∧ w = w' := by
  refine (c_IndexByte wbsB c.toNat w).mono ?_
  rintro e w' ⟨he, hw⟩
  refine ⟨_, he, ?_, hw⟩
  have e1 : (c.toNat : Int).toNat.toUInt8 = c := by simp
  rw [e1]
  exact wbs_eq c
theorem all_take_snoc {l : List UInt8} {p : UInt8 → Bool} {k : Nat} {t : UInt8} (hz : l[k]? = some t) (h : (l.take k).all p = true) (h2 : p t = true) : (l.take (k + 1)).all p = true := by
  rw [List.take_add_one, List.all_append, h, hz]
  simp [h2]
theorem all_bad {l : List UInt8} {p : UInt8 → Bool} {k : Nat} {t : UInt8} (hz : l[k]? = some t) (h2 : p t = false) : l.all p = false := by
  rw [List.all_eq_false]
  exact ⟨t, List.mem_of_getElem? hz, by simp [h2]⟩
set_option maxHeartbeats 2000000 in
set_option maxRecDepth 100000 in
theorem c_l20Name (s : ByteArray) (w : World) (hs : s.size ≤ 9223372036854775807) :
    Calls Try.prog 126 #[.string s] w fun e w' => e = .returned (.bool (nmB s)) ∧ w = w' := by
  have HB0 := Lib.hid (show nmB s = (inB s.size 1 16 && s.data.toList.all wb) from rfl)
  generalize nmB s = R at HB0 ⊢
  go_enter Try.func126, Try.ntmps126
  go_wp2
  go_loop [3] (fun i => ∃ k : Nat, k ≤ s.size ∧ i = .int .i64 k ∧ Hid ((s.data.toList.take k).all wb = true)) (fun i => s.size - (intOf i).toNat)
  case atStart => exact ⟨0, Nat.zero_le _, rfl, Lib.hid rfl⟩
  case round =>
    obtain ⟨k, hk, rfl, ha⟩ := hrel
    by_cases hlt : k < s.size
    · have hz : s.data.toList[k]? = some s[k] := by
        rw [List.getElem?_eq_getElem (by simpa using hlt)]; rfl
      have HZ := Lib.hid hz
      clear hz
      have HX : Hid (((s[k].toNat : Int) < 97 ∨ 122 < (s[k].toNat : Int)) ∧ ((s[k].toNat : Int) < 48 ∨ 57 < (s[k].toNat : Int)) ∧ ((s[k].toNat : Int) < 95 ∨ 95 < (s[k].toNat : Int)) ↔ wb s[k] = false) := Lib.hid (by
        simp only [wb, Bool.or_eq_false_iff, Bool.and_eq_false_iff, decide_eq_false_iff_not, beq_eq_false_iff_ne]
        omega)
      have HT := Lib.hid (fun h : wb s[k] = true => all_take_snoc HZ.out ha.out h)
      have HF := Lib.hid (fun h : wb s[k] = false => show R = false by rw [HB0.out, all_bad HZ.out h, Bool.and_false])
      have h5 : ((s[k].toNat : Int) != 95) = true ∧ ((s[k].toNat : Int) < 95 ∨ 95 < (s[k].toNat : Int)) ∨ ((s[k].toNat : Int) != 95) = false ∧ 95 ≤ (s[k].toNat : Int) ∧ (s[k].toNat : Int) ≤ 95 := by
        by_cases e : (s[k].toNat : Int) = 95
        · right; refine ⟨?_, by omega, by omega⟩; rw [e]; rfl
        · left; refine ⟨?_, by omega⟩; simpa using e
      rcases h5 with ⟨h5, h6⟩ | ⟨h5, h6, h7⟩
      all_goals
        go_wp2
        all_goals first
          | (go_ret
             exact ⟨ret_bool (HF.out (HX.out.1 (by omega))).symm, rfl⟩)
          | (go_round
             case rel => exact ⟨k + 1, by omega, by go_num, Lib.hid (HT.out (by cases h : wb s[k] with | true => rfl | false => exact absurd (HX.out.2 h) (by omega)))⟩
             case measure => simp [intOf]; omega)
          | (exfalso; omega)
    · have : k = s.size := by omega
      subst this
      have hA := ha.out
      rw [List.take_of_length_le (by simp)] at hA
      have HR := Lib.hid (show R = inB s.size 1 16 by rw [HB0.out, hA, Bool.and_true])
      clear hA
      go_wp2_with (first
        | (go_at_call 92
           refine (c_l01In _ _ _ _).mono ?_
           rintro e w' ⟨rfl, rfl⟩)
        )
      go_ret
      exact ⟨ret_bool HR.out.symm, rfl⟩
/-- What run hands back: how many bytes are those of a word. -/
def RunP (s : ByteArray) (w : World) (e : Ending) (w' : World) : Prop := ∃ n : Nat, n ≤ s.size ∧ e = .returned (.int .i64 n) ∧ decide (n = s.size) = s.data.toList.all wb ∧ w = w'
set_option maxRecDepth 100000 in
theorem c_run (s : ByteArray) (w : World) (hs : s.size ≤ 9223372036854775807) :
    Calls Try.prog 127 #[.string s, .int .i64 0, .string ⟨#[97, 98, 99, 100, 101, 102, 103, 104, 105, 106, 107, 108, 109, 110, 111, 112, 113, 114, 115, 116, 117, 118, 119, 120, 121, 122, 48, 49, 50, 51, 52, 53, 54, 55, 56, 57, 95]⟩] w (RunP s w) := by
  have HIB := Lib.hid (fun c w => c_IndexByteW c w)
  go_enter Try.func127, Try.ntmps127
  go_wp2
  go_loop [7] (fun i => ∃ k : Nat, k ≤ s.size ∧ i = .int .i64 k ∧ Hid ((s.data.toList.take k).all wb = true)) (fun i => s.size - (intOf i).toNat)
  case atStart => exact ⟨0, Nat.zero_le _, rfl, Lib.hid rfl⟩
  case round =>
    obtain ⟨k, hk, rfl, ha⟩ := hrel
    by_cases hlt : k < s.size
    · have hz : s.data.toList[k]? = some s[k] := by
        rw [List.getElem?_eq_getElem (by simpa using hlt)]; rfl
      have HZ := Lib.hid hz
      clear hz
      rcases hw : wb s[k] with _ | _
      · have HR := Lib.hid (show decide (k = s.size) = s.data.toList.all wb by rw [all_bad HZ.out hw]; simp; omega)
        have HW := Lib.hid hw
        clear hw
        go_wp2_with (fail)
        refine (HIB.out s[k] _).mono ?_
        rintro e w' ⟨n, rfl, hn, rfl⟩
        rw [HW.out] at hn
        have hn2 : n < 0 := by simpa using hn
        clear hn
        go_wp2
        go_ret
        exact ⟨k, hk, rfl, HR.out, rfl⟩
      · have HA := Lib.hid (all_take_snoc HZ.out ha.out hw)
        have HW := Lib.hid hw
        clear hw
        go_wp2_with (fail)
        refine (HIB.out s[k] _).mono ?_
        rintro e w' ⟨n, rfl, hn, rfl⟩
        rw [HW.out] at hn
        have hn2 : 0 ≤ n := by simpa using hn
        clear hn
        go_wp2
        go_round
        case rel => exact ⟨k + 1, by omega, by go_num, HA⟩
        case measure => simp [intOf]; omega
    · have : k = s.size := by omega
      subst this
      have hA := ha.out
      rw [List.take_of_length_le (by simp)] at hA
      have HR := Lib.hid hA
      clear hA
      go_wp2
      go_ret
      exact ⟨s.size, Nat.le_refl _, rfl, by rw [HR.out]; simp, rfl⟩
theorem c_isRuleName (s : ByteArray) (w : World) (hs : s.size ≤ 9223372036854775807) :
    Calls Try.prog 121 #[.string s] w fun e w' => e = .returned (.bool (nmB s)) ∧ w = w' := by
  have HB0 := Lib.hid (show nmB s = (inB s.size 1 16 && s.data.toList.all wb) from rfl)
  have HRU := Lib.hid (fun w => c_run s w hs)
  generalize nmB s = R at HB0 ⊢
  rcases hi : inB s.size 1 16 with _ | _
  · have e := HB0.out
    rw [hi, Bool.false_and] at e
    subst e
    clear HB0
    go_enter Try.func121, Try.ntmps121
    go_wp2_with (first
      | (go_at_call 65
         refine (c_within _ _ _ _).mono ?_
         rintro e w' ⟨rfl, rfl⟩)
      )
    go_ret
    exact ⟨rfl, rfl⟩
  · have e := HB0.out
    rw [hi, Bool.true_and] at e
    have HE := Lib.hid e
    clear HB0 e
    go_enter Try.func121, Try.ntmps121
    go_wp2_with (first
      | (go_at_call 65
         refine (c_within _ _ _ _).mono ?_
         rintro e w' ⟨rfl, rfl⟩)
      )
    refine (HRU.out _).mono ?_
    rintro e w' ⟨n, hn, rfl, hd, rfl⟩
    have HD := Lib.hid (hd.trans HE.out.symm)
    clear hd
    go_wp2
    go_ret
    exact ⟨ret_bool (by rw [← HD.out]; exact decide_eq_decide.2 (by omega)), rfl⟩
end Go.Proofs.Ytaloheljfefdeaa

/- Laws for a region that draws its order, walked by hand: the next operation is taken, passed over or carried out. No condition. -/
namespace Go.Proofs.Ytaloheljfefdeaa

/-- The operation at a place of a list. -/
def nthO : List Oper → Nat → Option Oper
  | [], _ => none
  | o :: _, 0 => some o
  | _ :: l, i + 1 => nthO l i
theorem nthO_get : ∀ {l : List Oper} {i : Nat} {o : Oper}, nthO l i = some o → (l.toArray)[i]? = some o
  | [], _, _, h => by cases h
  | a :: l, 0, o, h => by simpa [nthO] using h
  | a :: l, i + 1, o, h => by
    have := nthO_get (l := l) (i := i) (o := o) h
    simpa using this
section
variable {P : Program} {l : List Oper} {Q : Exit → Act → World → Prop} {md : Region.Mode} {S : World → Prop} {fuel : Nat} {listed : Array Bool} {a : Act} {w : World}
theorem rg_take {oi : Oper} {v : Value} (i : Nat) (hi : nthO l i = some oi)
    (hs : Region.noSelect l.toArray = true) (hf : Region.free md l.toArray listed i = true) (hr : (Region.ready md l.toArray listed).contains i = true)
    (hQ : ∀ c a w, Q (.panic c) (a.put oi.dst v) w → Q (.panic c) a w) (hw : Region.wanted oi (yielded l.toArray a.tmps) = true) (hy : ∀ w, S w → (execOp a.eval oi).run P w = .ok (.value v) w) (hS : S w)
    (h : wpAnyH P md l.toArray Q S fuel (listed.setIfInBounds i true) (a.put oi.dst v) w) : wpAnyH P md l.toArray Q S (fuel + 1) listed a w :=
  wpAnyH_take (nthO_get hi) hs hf hr hQ (.inl ⟨hw, hy⟩) hS h
theorem rg_skip {oi : Oper} (i : Nat) (hi : nthO l i = some oi)
    (hs : Region.noSelect l.toArray = true) (hf : Region.free md l.toArray listed i = true) (hr : (Region.ready md l.toArray listed).contains i = true)
    (hQ : ∀ c a w, Q (.panic c) (a.put oi.dst undef) w → Q (.panic c) a w) (hw : Region.wanted oi (yielded l.toArray a.tmps) = false) (hS : S w)
    (h : wpAnyH P md l.toArray Q S fuel (listed.setIfInBounds i true) (a.put oi.dst undef) w) : wpAnyH P md l.toArray Q S (fuel + 1) listed a w :=
  wpAnyH_take (nthO_get hi) hs hf hr hQ (.inr ⟨hw, rfl⟩) hS h
theorem rg_run {oi : Oper} (i : Nat) (hi : nthO l i = some oi) (hr : Region.ready md l.toArray listed = [i]) (hw : Region.wanted oi (yielded l.toArray a.tmps) = true)
    (h : ∀ K' : Act → World → Prop, Shut (∀ a w, S w → (S w → wpAnyH P md l.toArray Q S fuel (listed.setIfInBounds i true) a w) → K' a w) → Oper.wp P oi a w K' Q) : wpAnyH P md l.toArray Q S (fuel + 1) listed a w :=
  wpAnyH_ready hr (by simp) (AllReadyH.cons (nthO_get hi) (fun K hK => by rw [if_pos hw]; exact h K hK) AllReadyH.nil)
end
end Go.Proofs.Ytaloheljfefdeaa
