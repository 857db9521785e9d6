/- slices.IndexFunc and slices.ContainsFunc at strings, lines and terms (printed by PCf.py). Condition: the lists' sizes. -/
import Derived.Test.YteengjcplmjakaaGreatDoorPCc
namespace Go.Proofs.YteengjcplmjakaaGreatDoor
open Go.RowKit

/-- The index of the first element as asked, -1 if there is none. -/
def idxI {α : Type} (pr : α → Bool) (l : List α) : Int := match l.findIdx? pr with | some k => (k : Int) | none => -1
theorem enter_of {f : FuncId} {fn : Func} {c : Code} (hf : Tryz.prog.funcs[f]? = some fn) (hname : (fn.name == "runtime.NumGoroutine") = false) (hb : fn.body = some c) (args : Array Value) (w : World) :
    (callFunc f args).run Tryz.prog w = .ok (.enter f args) w := by
  have h1 : fn.name ≠ "runtime.NumGoroutine" := by simpa using hname
  simp [callFunc, hf, h1, hb]
theorem idxI_none {α : Type} {pr : α → Bool} {l : List α} (h : l.any pr = false) : idxI pr l = -1 := by
  unfold idxI
  rw [List.findIdx?_eq_none_iff.2 (fun x hx => by rw [List.any_eq_false] at h; simpa using h x hx)]
theorem any_take_snoc {α : Type} {pr : α → Bool} {l : List α} {k : Nat} {t : α} (hz : l[k]? = some t) (h : (l.take k).any pr = false) (h2 : pr t = false) : (l.take (k + 1)).any pr = false := by
  rw [List.take_add_one, List.any_append, h, hz]
  simp [h2]
theorem idxI_found {α : Type} {pr : α → Bool} {l : List α} {k : Nat} {t : α} (hz : l[k]? = some t) (h : (l.take k).any pr = false) (h2 : pr t = true) : idxI pr l = k := by
  obtain ⟨hk, e⟩ := List.getElem?_eq_some_iff.1 hz
  have : l.findIdx? pr = some k := by
    rw [List.findIdx?_eq_some_iff_getElem]
    refine ⟨hk, by rw [e, h2], fun j hj => ?_⟩
    rw [List.any_eq_false] at h
    have := h (l[j]'(by omega)) (by
      rw [List.mem_iff_getElem?]
      exact ⟨j, by rw [List.getElem?_take, if_pos hj]; exact List.getElem?_eq_getElem (by omega)⟩)
    simpa using this
  unfold idxI
  rw [this]
theorem idxI_any {α : Type} (pr : α → Bool) (l : List α) : decide (0 ≤ idxI pr l) = l.any pr := by
  unfold idxI
  split
  · rename_i k h
    rw [List.findIdx?_eq_some_iff_getElem] at h
    obtain ⟨hk, hp, _⟩ := h
    have : l.any pr = true := List.any_eq_true.2 ⟨l[k], List.getElem_mem hk, hp⟩
    rw [this]
    simp
  · rename_i h
    rw [List.findIdx?_eq_none_iff] at h
    have : l.any pr = false := List.any_eq_false.2 (fun x hx => by rw [h x hx]; simp)
    rw [this]
    rfl
theorem idxI_ge {α : Type} (pr : α → Bool) (l : List α) : -1 ≤ idxI pr l := by unfold idxI; split <;> omega
/-- What a closure answers at an element of the list. -/
def ClS0 (f : Nat) (pr : ByteArray → Bool) (l : List ByteArray) (w : World) : Prop :=
  ∀ (wr : World) (t : ByteArray), t ∈ l → Below w.heap.size w wr → Calls Tryz.prog f #[.string t] wr fun e w2 => e = .returned (.bool (pr t)) ∧ Below wr.heap.size wr w2
set_option maxRecDepth 100000 in
theorem c_IndexS0 (f : Nat) (pr : ByteArray → Bool) (A : Option Addr) (c vn : Nat) (l : List ByteArray) (w : World) (hvn : l.length = vn) (hl2 : vn ≤ 4000000) (hv : Rd w A (sts l)) (hcall : Hid (ClS0 f pr l w)) (hent : ∀ (args : Array Value) (w : World), (callFunc f args).run Tryz.prog w = .ok (.enter f args) w) :
    Calls Tryz.prog 128 #[.slice A vn c, .func (.func f) #[] #[]] w fun e w' => e = .returned (.int .i64 (idxI pr l)) ∧ Below w.heap.size w w' := by
  generalize hR : idxI pr l = R
  have HR := Lib.hid hR
  clear hR
  have HVN := Lib.hid hvn
  have HV := Lib.hid hv
  clear hv hvn
  go_enter Tryz.func128, Tryz.ntmps128
  go_wp2
  go_loopw [8] (fun i wr => ∃ k : Nat, k ≤ vn ∧ i = .int .i64 k ∧ Hid ((l.take k).any pr = false) ∧ Hid (Below w.heap.size w wr)) (fun i _ => vn - (intOf i).toNat)
  case atStart => exact ⟨0, Nat.zero_le _, rfl, Lib.hid rfl, Lib.hid (by (repeat (first | exact Below.refl _ _ | assumption | refine below_alloc ?_ _ | refine below_drewN ?_ _ | refine below_set ?_ _ (by simp; try omega) | refine Below.drew ?_)))⟩
  case round =>
    obtain ⟨k, hk, rfl, ha, hb⟩ := hrel
    by_cases hlt : k < vn
    · obtain ⟨t, hz⟩ : ∃ z, l[k]? = some z := ⟨_, List.getElem?_eq_getElem (by have := HVN.out; omega)⟩
      obtain ⟨b', off, rfl, _, g0⟩ := (HV.out.below hb.out).st hz
      have HZZ := Lib.hid hz
      have HC := Lib.hid (hcall.out wr t (List.mem_of_getElem? hz) hb.out)
      have hk0 : (0 : Int) ≤ (k : Int) := by omega
      have hk1 : (k : Int) < vn := by omega
      clear hz
      rcases hin : pr t with _ | _
      · rw [hin] at HC
        have HI := Lib.hid hin
        clear hin
        go_wp2_with (fail)
        refine HC.out.mono ?_
        rintro e w2 ⟨rfl, hb2⟩
        have HB2 := Lib.hid (below_chain hb.out hb2)
        clear hb2
        go_wp2_with (fail)
        go_roundw
        case rel => exact ⟨k + 1, by omega, by go_num, Lib.hid (any_take_snoc HZZ.out ha.out HI.out), HB2⟩
        case measure => simp [intOf]; omega
      · rw [hin] at HC
        have HI := Lib.hid hin
        clear hin
        go_wp2_with (fail)
        refine HC.out.mono ?_
        rintro e w2 ⟨rfl, hb2⟩
        have HB2 := Lib.hid (below_chain hb.out hb2)
        clear hb2
        go_wp2_with (fail)
        go_ret
        exact ⟨ret_int (by rw [← HR.out, idxI_found HZZ.out ha.out HI.out]), HB2.out⟩
    · obtain rfl : k = vn := by omega
      have hA := ha.out
      rw [List.take_of_length_le (by have := HVN.out; omega)] at hA
      have HA := Lib.hid hA
      clear hA ha
      go_wp2_with (fail)
      go_ret
      exact ⟨ret_int (by rw [← HR.out, idxI_none HA.out]), hb.out⟩
set_option maxRecDepth 100000 in
theorem c_ContainsS0 (f : Nat) (pr : ByteArray → Bool) (A : Option Addr) (c vn : Nat) (l : List ByteArray) (w : World) (hvn : l.length = vn) (hl2 : vn ≤ 4000000) (hv : Rd w A (sts l)) (hcall : Hid (ClS0 f pr l w)) (hent : ∀ (args : Array Value) (w : World), (callFunc f args).run Tryz.prog w = .ok (.enter f args) w) :
    Calls Tryz.prog 123 #[.slice A vn c, .func (.func f) #[] #[]] w fun e w' => e = .returned (.bool (l.any pr)) ∧ Below w.heap.size w w' := by
  have HC := Lib.hid (c_IndexS0 f pr A c vn l w hvn hl2 hv hcall hent)
  have HA := Lib.hid (idxI_any pr l)
  generalize idxI pr l = i at HC HA
  generalize l.any pr = r at HA ⊢
  clear hv hcall hent hvn
  go_enter Tryz.func123, Tryz.ntmps123
  go_wp2_with (fail)
  refine HC.out.mono ?_
  rintro e w1 ⟨rfl, hb⟩
  have HB := Lib.hid hb
  clear hb
  go_wp2_with (fail)
  go_ret
  exact ⟨ret_bool HA.out, HB.out⟩
/-- What a closure answers at an element of the list. -/
def ClSc (f : Nat) (x : Value) (pr : ByteArray → Bool) (l : List ByteArray) (w : World) : Prop :=
  ∀ (wr : World) (t : ByteArray), t ∈ l → Below w.heap.size w wr → Calls Tryz.prog f #[.string t, x] wr fun e w2 => e = .returned (.bool (pr t)) ∧ Below wr.heap.size wr w2
set_option maxRecDepth 100000 in
theorem c_IndexSc (f : Nat) (x : Value) (pr : ByteArray → Bool) (A : Option Addr) (c vn : Nat) (l : List ByteArray) (w : World) (hvn : l.length = vn) (hl2 : vn ≤ 4000000) (hv : Rd w A (sts l)) (hcall : Hid (ClSc f x pr l w)) (hent : ∀ (args : Array Value) (w : World), (callFunc f args).run Tryz.prog w = .ok (.enter f args) w) :
    Calls Tryz.prog 128 #[.slice A vn c, .func (.func f) #[] #[x]] w fun e w' => e = .returned (.int .i64 (idxI pr l)) ∧ Below w.heap.size w w' := by
  generalize hR : idxI pr l = R
  have HR := Lib.hid hR
  clear hR
  have HVN := Lib.hid hvn
  have HV := Lib.hid hv
  clear hv hvn
  go_enter Tryz.func128, Tryz.ntmps128
  go_wp2
  go_loopw [8] (fun i wr => ∃ k : Nat, k ≤ vn ∧ i = .int .i64 k ∧ Hid ((l.take k).any pr = false) ∧ Hid (Below w.heap.size w wr)) (fun i _ => vn - (intOf i).toNat)
  case atStart => exact ⟨0, Nat.zero_le _, rfl, Lib.hid rfl, Lib.hid (by (repeat (first | exact Below.refl _ _ | assumption | refine below_alloc ?_ _ | refine below_drewN ?_ _ | refine below_set ?_ _ (by simp; try omega) | refine Below.drew ?_)))⟩
  case round =>
    obtain ⟨k, hk, rfl, ha, hb⟩ := hrel
    by_cases hlt : k < vn
    · obtain ⟨t, hz⟩ : ∃ z, l[k]? = some z := ⟨_, List.getElem?_eq_getElem (by have := HVN.out; omega)⟩
      obtain ⟨b', off, rfl, _, g0⟩ := (HV.out.below hb.out).st hz
      have HZZ := Lib.hid hz
      have HC := Lib.hid (hcall.out wr t (List.mem_of_getElem? hz) hb.out)
      have hk0 : (0 : Int) ≤ (k : Int) := by omega
      have hk1 : (k : Int) < vn := by omega
      clear hz
      rcases hin : pr t with _ | _
      · rw [hin] at HC
        have HI := Lib.hid hin
        clear hin
        go_wp2_with (fail)
        refine HC.out.mono ?_
        rintro e w2 ⟨rfl, hb2⟩
        have HB2 := Lib.hid (below_chain hb.out hb2)
        clear hb2
        go_wp2_with (fail)
        go_roundw
        case rel => exact ⟨k + 1, by omega, by go_num, Lib.hid (any_take_snoc HZZ.out ha.out HI.out), HB2⟩
        case measure => simp [intOf]; omega
      · rw [hin] at HC
        have HI := Lib.hid hin
        clear hin
        go_wp2_with (fail)
        refine HC.out.mono ?_
        rintro e w2 ⟨rfl, hb2⟩
        have HB2 := Lib.hid (below_chain hb.out hb2)
        clear hb2
        go_wp2_with (fail)
        go_ret
        exact ⟨ret_int (by rw [← HR.out, idxI_found HZZ.out ha.out HI.out]), HB2.out⟩
    · obtain rfl : k = vn := by omega
      have hA := ha.out
      rw [List.take_of_length_le (by have := HVN.out; omega)] at hA
      have HA := Lib.hid hA
      clear hA ha
      go_wp2_with (fail)
      go_ret
      exact ⟨ret_int (by rw [← HR.out, idxI_none HA.out]), hb.out⟩
set_option maxRecDepth 100000 in
theorem c_ContainsSc (f : Nat) (x : Value) (pr : ByteArray → Bool) (A : Option Addr) (c vn : Nat) (l : List ByteArray) (w : World) (hvn : l.length = vn) (hl2 : vn ≤ 4000000) (hv : Rd w A (sts l)) (hcall : Hid (ClSc f x pr l w)) (hent : ∀ (args : Array Value) (w : World), (callFunc f args).run Tryz.prog w = .ok (.enter f args) w) :
    Calls Tryz.prog 123 #[.slice A vn c, .func (.func f) #[] #[x]] w fun e w' => e = .returned (.bool (l.any pr)) ∧ Below w.heap.size w w' := by
  have HC := Lib.hid (c_IndexSc f x pr A c vn l w hvn hl2 hv hcall hent)
  have HA := Lib.hid (idxI_any pr l)
  generalize idxI pr l = i at HC HA
  generalize l.any pr = r at HA ⊢
  clear hv hcall hent hvn
  go_enter Tryz.func123, Tryz.ntmps123
  go_wp2_with (fail)
  refine HC.out.mono ?_
  rintro e w1 ⟨rfl, hb⟩
  have HB := Lib.hid hb
  clear hb
  go_wp2_with (fail)
  go_ret
  exact ⟨ret_bool HA.out, HB.out⟩
/-- What a closure answers at an element of the list. -/
def ClL0 (f : Nat) (pr : Lin → Bool) (l : List Lin) (w : World) : Prop :=
  ∀ (wr : World) (t : Lin) (a : Option Addr) (c : Nat), t ∈ l → Below w.heap.size w wr → Rd wr a (tmCells t.ts) → Calls Tryz.prog f #[.agg #[.string t.tg, .slice a t.ts.length c]] wr fun e w2 => e = .returned (.bool (pr t)) ∧ Below wr.heap.size wr w2
set_option maxRecDepth 100000 in
theorem c_IndexL0 (f : Nat) (pr : Lin → Bool) (A : Option Addr) (c vn : Nat) (l : List Lin) (w : World) (hvn : l.length = vn) (hl2 : vn ≤ 4000000) (hv : Ll w A l) (hcall : Hid (ClL0 f pr l w)) (hent : ∀ (args : Array Value) (w : World), (callFunc f args).run Tryz.prog w = .ok (.enter f args) w) :
    Calls Tryz.prog 167 #[.slice A vn c, .func (.func f) #[] #[]] w fun e w' => e = .returned (.int .i64 (idxI pr l)) ∧ Below w.heap.size w w' := by
  generalize hR : idxI pr l = R
  have HR := Lib.hid hR
  clear hR
  have HVN := Lib.hid hvn
  have HV := Lib.hid hv
  clear hv hvn
  go_enter Tryz.func167, Tryz.ntmps167
  go_wp2
  go_loopw [8] (fun i wr => ∃ k : Nat, k ≤ vn ∧ i = .int .i64 k ∧ Hid ((l.take k).any pr = false) ∧ Hid (Below w.heap.size w wr)) (fun i _ => vn - (intOf i).toNat)
  case atStart => exact ⟨0, Nat.zero_le _, rfl, Lib.hid rfl, Lib.hid (by (repeat (first | exact Below.refl _ _ | assumption | refine below_alloc ?_ _ | refine below_drewN ?_ _ | refine below_set ?_ _ (by simp; try omega) | refine Below.drew ?_)))⟩
  case round =>
    obtain ⟨k, hk, rfl, ha, hb⟩ := hrel
    by_cases hlt : k < vn
    · obtain ⟨t, hz⟩ : ∃ z, l[k]? = some z := ⟨_, List.getElem?_eq_getElem (by have := HVN.out; omega)⟩
      obtain ⟨b', off, la, lc, rfl, _, g0, g1, hrow⟩ := (HV.out.below hb.out).at hz
      have HZZ := Lib.hid hz
      have HC := Lib.hid (hcall.out wr t la lc (List.mem_of_getElem? hz) hb.out hrow)
      have hk0 : (0 : Int) ≤ (k : Int) := by omega
      have hk1 : (k : Int) < vn := by omega
      clear hz
      rcases hin : pr t with _ | _
      · rw [hin] at HC
        have HI := Lib.hid hin
        clear hin
        go_wp2_with (fail)
        refine HC.out.mono ?_
        rintro e w2 ⟨rfl, hb2⟩
        have HB2 := Lib.hid (below_chain hb.out hb2)
        clear hb2
        go_wp2_with (fail)
        go_roundw
        case rel => exact ⟨k + 1, by omega, by go_num, Lib.hid (any_take_snoc HZZ.out ha.out HI.out), HB2⟩
        case measure => simp [intOf]; omega
      · rw [hin] at HC
        have HI := Lib.hid hin
        clear hin
        go_wp2_with (fail)
        refine HC.out.mono ?_
        rintro e w2 ⟨rfl, hb2⟩
        have HB2 := Lib.hid (below_chain hb.out hb2)
        clear hb2
        go_wp2_with (fail)
        go_ret
        exact ⟨ret_int (by rw [← HR.out, idxI_found HZZ.out ha.out HI.out]), HB2.out⟩
    · obtain rfl : k = vn := by omega
      have hA := ha.out
      rw [List.take_of_length_le (by have := HVN.out; omega)] at hA
      have HA := Lib.hid hA
      clear hA ha
      go_wp2_with (fail)
      go_ret
      exact ⟨ret_int (by rw [← HR.out, idxI_none HA.out]), hb.out⟩
set_option maxRecDepth 100000 in
theorem c_ContainsL0 (f : Nat) (pr : Lin → Bool) (A : Option Addr) (c vn : Nat) (l : List Lin) (w : World) (hvn : l.length = vn) (hl2 : vn ≤ 4000000) (hv : Ll w A l) (hcall : Hid (ClL0 f pr l w)) (hent : ∀ (args : Array Value) (w : World), (callFunc f args).run Tryz.prog w = .ok (.enter f args) w) :
    Calls Tryz.prog 115 #[.slice A vn c, .func (.func f) #[] #[]] w fun e w' => e = .returned (.bool (l.any pr)) ∧ Below w.heap.size w w' := by
  have HC := Lib.hid (c_IndexL0 f pr A c vn l w hvn hl2 hv hcall hent)
  have HA := Lib.hid (idxI_any pr l)
  generalize idxI pr l = i at HC HA
  generalize l.any pr = r at HA ⊢
  clear hv hcall hent hvn
  go_enter Tryz.func115, Tryz.ntmps115
  go_wp2_with (fail)
  refine HC.out.mono ?_
  rintro e w1 ⟨rfl, hb⟩
  have HB := Lib.hid hb
  clear hb
  go_wp2_with (fail)
  go_ret
  exact ⟨ret_bool HA.out, HB.out⟩
/-- What a closure answers at an element of the list. -/
def ClLb (f : Nat) (x : Value) (pr : Lin → Bool) (l : List Lin) (w : World) : Prop :=
  ∀ (wr : World) (t : Lin) (a : Option Addr) (c : Nat), t ∈ l → Below w.heap.size w wr → Rd wr a (tmCells t.ts) → Calls Tryz.prog f #[x, .agg #[.string t.tg, .slice a t.ts.length c]] wr fun e w2 => e = .returned (.bool (pr t)) ∧ Below wr.heap.size wr w2
set_option maxRecDepth 100000 in
theorem c_IndexLb (f : Nat) (x : Value) (pr : Lin → Bool) (A : Option Addr) (c vn : Nat) (l : List Lin) (w : World) (hvn : l.length = vn) (hl2 : vn ≤ 4000000) (hv : Ll w A l) (hcall : Hid (ClLb f x pr l w)) (hent : ∀ (args : Array Value) (w : World), (callFunc f args).run Tryz.prog w = .ok (.enter f args) w) :
    Calls Tryz.prog 167 #[.slice A vn c, .func (.func f) #[x] #[]] w fun e w' => e = .returned (.int .i64 (idxI pr l)) ∧ Below w.heap.size w w' := by
  generalize hR : idxI pr l = R
  have HR := Lib.hid hR
  clear hR
  have HVN := Lib.hid hvn
  have HV := Lib.hid hv
  clear hv hvn
  go_enter Tryz.func167, Tryz.ntmps167
  go_wp2
  go_loopw [8] (fun i wr => ∃ k : Nat, k ≤ vn ∧ i = .int .i64 k ∧ Hid ((l.take k).any pr = false) ∧ Hid (Below w.heap.size w wr)) (fun i _ => vn - (intOf i).toNat)
  case atStart => exact ⟨0, Nat.zero_le _, rfl, Lib.hid rfl, Lib.hid (by (repeat (first | exact Below.refl _ _ | assumption | refine below_alloc ?_ _ | refine below_drewN ?_ _ | refine below_set ?_ _ (by simp; try omega) | refine Below.drew ?_)))⟩
  case round =>
    obtain ⟨k, hk, rfl, ha, hb⟩ := hrel
    by_cases hlt : k < vn
    · obtain ⟨t, hz⟩ : ∃ z, l[k]? = some z := ⟨_, List.getElem?_eq_getElem (by have := HVN.out; omega)⟩
      obtain ⟨b', off, la, lc, rfl, _, g0, g1, hrow⟩ := (HV.out.below hb.out).at hz
      have HZZ := Lib.hid hz
      have HC := Lib.hid (hcall.out wr t la lc (List.mem_of_getElem? hz) hb.out hrow)
      have hk0 : (0 : Int) ≤ (k : Int) := by omega
      have hk1 : (k : Int) < vn := by omega
      clear hz
      rcases hin : pr t with _ | _
      · rw [hin] at HC
        have HI := Lib.hid hin
        clear hin
        go_wp2_with (fail)
        refine HC.out.mono ?_
        rintro e w2 ⟨rfl, hb2⟩
        have HB2 := Lib.hid (below_chain hb.out hb2)
        clear hb2
        go_wp2_with (fail)
        go_roundw
        case rel => exact ⟨k + 1, by omega, by go_num, Lib.hid (any_take_snoc HZZ.out ha.out HI.out), HB2⟩
        case measure => simp [intOf]; omega
      · rw [hin] at HC
        have HI := Lib.hid hin
        clear hin
        go_wp2_with (fail)
        refine HC.out.mono ?_
        rintro e w2 ⟨rfl, hb2⟩
        have HB2 := Lib.hid (below_chain hb.out hb2)
        clear hb2
        go_wp2_with (fail)
        go_ret
        exact ⟨ret_int (by rw [← HR.out, idxI_found HZZ.out ha.out HI.out]), HB2.out⟩
    · obtain rfl : k = vn := by omega
      have hA := ha.out
      rw [List.take_of_length_le (by have := HVN.out; omega)] at hA
      have HA := Lib.hid hA
      clear hA ha
      go_wp2_with (fail)
      go_ret
      exact ⟨ret_int (by rw [← HR.out, idxI_none HA.out]), hb.out⟩
set_option maxRecDepth 100000 in
theorem c_ContainsLb (f : Nat) (x : Value) (pr : Lin → Bool) (A : Option Addr) (c vn : Nat) (l : List Lin) (w : World) (hvn : l.length = vn) (hl2 : vn ≤ 4000000) (hv : Ll w A l) (hcall : Hid (ClLb f x pr l w)) (hent : ∀ (args : Array Value) (w : World), (callFunc f args).run Tryz.prog w = .ok (.enter f args) w) :
    Calls Tryz.prog 115 #[.slice A vn c, .func (.func f) #[x] #[]] w fun e w' => e = .returned (.bool (l.any pr)) ∧ Below w.heap.size w w' := by
  have HC := Lib.hid (c_IndexLb f x pr A c vn l w hvn hl2 hv hcall hent)
  have HA := Lib.hid (idxI_any pr l)
  generalize idxI pr l = i at HC HA
  generalize l.any pr = r at HA ⊢
  clear hv hcall hent hvn
  go_enter Tryz.func115, Tryz.ntmps115
  go_wp2_with (fail)
  refine HC.out.mono ?_
  rintro e w1 ⟨rfl, hb⟩
  have HB := Lib.hid hb
  clear hb
  go_wp2_with (fail)
  go_ret
  exact ⟨ret_bool HA.out, HB.out⟩
/-- What a closure answers at an element of the list. -/
def ClTc (f : Nat) (x : Value) (pr : Tm → Bool) (l : List Tm) (w : World) : Prop :=
  ∀ (wr : World) (t : Tm), t ∈ l → Below w.heap.size w wr → Calls Tryz.prog f #[.agg #[.int .i64 t.k, .string t.nm, .int .i64 t.n], x] wr fun e w2 => e = .returned (.bool (pr t)) ∧ Below wr.heap.size wr w2
set_option maxRecDepth 100000 in
theorem c_IndexTc (f : Nat) (x : Value) (pr : Tm → Bool) (A : Option Addr) (c vn : Nat) (l : List Tm) (w : World) (hvn : l.length = vn) (hl2 : vn ≤ 4000000) (hv : Rd w A (tmCells l)) (hcall : Hid (ClTc f x pr l w)) (hent : ∀ (args : Array Value) (w : World), (callFunc f args).run Tryz.prog w = .ok (.enter f args) w) :
    Calls Tryz.prog 146 #[.slice A vn c, .func (.func f) #[] #[x]] w fun e w' => e = .returned (.int .i64 (idxI pr l)) ∧ Below w.heap.size w w' := by
  generalize hR : idxI pr l = R
  have HR := Lib.hid hR
  clear hR
  have HVN := Lib.hid hvn
  have HV := Lib.hid hv
  clear hv hvn
  go_enter Tryz.func146, Tryz.ntmps146
  go_wp2
  go_loopw [8] (fun i wr => ∃ k : Nat, k ≤ vn ∧ i = .int .i64 k ∧ Hid ((l.take k).any pr = false) ∧ Hid (Below w.heap.size w wr)) (fun i _ => vn - (intOf i).toNat)
  case atStart => exact ⟨0, Nat.zero_le _, rfl, Lib.hid rfl, Lib.hid (by (repeat (first | exact Below.refl _ _ | assumption | refine below_alloc ?_ _ | refine below_drewN ?_ _ | refine below_set ?_ _ (by simp; try omega) | refine Below.drew ?_)))⟩
  case round =>
    obtain ⟨k, hk, rfl, ha, hb⟩ := hrel
    by_cases hlt : k < vn
    · obtain ⟨t, hz⟩ : ∃ z, l[k]? = some z := ⟨_, List.getElem?_eq_getElem (by have := HVN.out; omega)⟩
      obtain ⟨b', off, rfl, _, g0, g1, g2⟩ := (HV.out.below hb.out).tm hz
      have HZZ := Lib.hid hz
      have HC := Lib.hid (hcall.out wr t (List.mem_of_getElem? hz) hb.out)
      have hk0 : (0 : Int) ≤ (k : Int) := by omega
      have hk1 : (k : Int) < vn := by omega
      clear hz
      rcases hin : pr t with _ | _
      · rw [hin] at HC
        have HI := Lib.hid hin
        clear hin
        go_wp2_with (fail)
        refine HC.out.mono ?_
        rintro e w2 ⟨rfl, hb2⟩
        have HB2 := Lib.hid (below_chain hb.out hb2)
        clear hb2
        go_wp2_with (fail)
        go_roundw
        case rel => exact ⟨k + 1, by omega, by go_num, Lib.hid (any_take_snoc HZZ.out ha.out HI.out), HB2⟩
        case measure => simp [intOf]; omega
      · rw [hin] at HC
        have HI := Lib.hid hin
        clear hin
        go_wp2_with (fail)
        refine HC.out.mono ?_
        rintro e w2 ⟨rfl, hb2⟩
        have HB2 := Lib.hid (below_chain hb.out hb2)
        clear hb2
        go_wp2_with (fail)
        go_ret
        exact ⟨ret_int (by rw [← HR.out, idxI_found HZZ.out ha.out HI.out]), HB2.out⟩
    · obtain rfl : k = vn := by omega
      have hA := ha.out
      rw [List.take_of_length_le (by have := HVN.out; omega)] at hA
      have HA := Lib.hid hA
      clear hA ha
      go_wp2_with (fail)
      go_ret
      exact ⟨ret_int (by rw [← HR.out, idxI_none HA.out]), hb.out⟩
set_option maxRecDepth 100000 in
theorem c_ContainsTc (f : Nat) (x : Value) (pr : Tm → Bool) (A : Option Addr) (c vn : Nat) (l : List Tm) (w : World) (hvn : l.length = vn) (hl2 : vn ≤ 4000000) (hv : Rd w A (tmCells l)) (hcall : Hid (ClTc f x pr l w)) (hent : ∀ (args : Array Value) (w : World), (callFunc f args).run Tryz.prog w = .ok (.enter f args) w) :
    Calls Tryz.prog 95 #[.slice A vn c, .func (.func f) #[] #[x]] w fun e w' => e = .returned (.bool (l.any pr)) ∧ Below w.heap.size w w' := by
  have HC := Lib.hid (c_IndexTc f x pr A c vn l w hvn hl2 hv hcall hent)
  have HA := Lib.hid (idxI_any pr l)
  generalize idxI pr l = i at HC HA
  generalize l.any pr = r at HA ⊢
  clear hv hcall hent hvn
  go_enter Tryz.func95, Tryz.ntmps95
  go_wp2_with (fail)
  refine HC.out.mono ?_
  rintro e w1 ⟨rfl, hb⟩
  have HB := Lib.hid hb
  clear hb
  go_wp2_with (fail)
  go_ret
  exact ⟨ret_bool HA.out, HB.out⟩
end Go.Proofs.YteengjcplmjakaaGreatDoor
