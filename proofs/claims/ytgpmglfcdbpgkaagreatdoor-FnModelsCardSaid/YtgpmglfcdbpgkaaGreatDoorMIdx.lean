/- IndexFunc and ContainsFunc at []Test, []int64 (closures with nothing or one thing captured) and []Rule, for whatever closure meets its contract. Condition: the closure's contract. -/
import Derived.Test.YtgpmglfcdbpgkaaGreatDoorMTst
namespace Go.Proofs.YtgpmglfcdbpgkaaGreatDoor
open Go.RowKit

/-- The index of the first element as asked, -1 if there is none. -/
def idxI {α : Type} (pr : α → Bool) (l : List α) : Int := match l.findIdx? pr with | some k => (k : Int) | none => -1
theorem enter_of {f : FuncId} {fn : Func} {c : Code} (hf : Tryz.prog.funcs[f]? = some fn) (hname : (fn.name == "runtime.NumGoroutine") = false) (hb : fn.body = some c) (args : Array Value) (w : World) :
    (callFunc f args).run Tryz.prog w = .ok (.enter f args) w := by
  have h1 : fn.name ≠ "runtime.NumGoroutine" := by simpa using hname
  simp [callFunc, hf, h1, hb]
theorem idxI_none {α : Type} {pr : α → Bool} {l : List α} (h : l.any pr = false) : idxI pr l = -1 := by
  unfold idxI
  rw [List.findIdx?_eq_none_iff.2 (fun x hx => by rw [List.any_eq_false] at h; simpa using h x hx)]
theorem any_take_snoc {α : Type} {pr : α → Bool} {l : List α} {k : Nat} {t : α} (hz : l[k]? = some t) (h : (l.take k).any pr = false) (h2 : pr t = false) : (l.take (k + 1)).any pr = false := by
  rw [List.take_add_one, List.any_append, h, hz]
  simp [h2]
theorem idxI_found {α : Type} {pr : α → Bool} {l : List α} {k : Nat} {t : α} (hz : l[k]? = some t) (h : (l.take k).any pr = false) (h2 : pr t = true) : idxI pr l = k := by
  obtain ⟨hk, e⟩ := List.getElem?_eq_some_iff.1 hz
  have : l.findIdx? pr = some k := by
    rw [List.findIdx?_eq_some_iff_getElem]
    refine ⟨hk, by rw [e, h2], fun j hj => ?_⟩
    rw [List.any_eq_false] at h
    have := h (l[j]'(by omega)) (by
      rw [List.mem_iff_getElem?]
      exact ⟨j, by rw [List.getElem?_take, if_pos hj]; exact List.getElem?_eq_getElem (by omega)⟩)
    simpa using this
  unfold idxI
  rw [this]
theorem idxI_any {α : Type} (pr : α → Bool) (l : List α) : decide (0 ≤ idxI pr l) = l.any pr := by
  unfold idxI
  split
  · rename_i k h
    rw [List.findIdx?_eq_some_iff_getElem] at h
    obtain ⟨hk, hp, _⟩ := h
    have : l.any pr = true := List.any_eq_true.2 ⟨l[k], List.getElem_mem hk, hp⟩
    rw [this]
    simp
  · rename_i h
    rw [List.findIdx?_eq_none_iff] at h
    have : l.any pr = false := List.any_eq_false.2 (fun x hx => by rw [h x hx]; simp)
    rw [this]
    rfl
theorem idxI_ge {α : Type} (pr : α → Bool) (l : List α) : -1 ≤ idxI pr l := by unfold idxI; split <;> omega
/-- What a closure over one captured value answers at a test. -/
def ClT (f : Nat) (x : Value) (pr : Tst → Bool) (l : List Tst) (w : World) : Prop :=
  ∀ (wr : World) (t : Tst), t ∈ l → Below w.heap.size w wr → Calls Tryz.prog f #[.agg #[.int .i64 t.v, .int .i64 t.x, .bool t.q], x] wr fun e w2 => e = .returned (.bool (pr t)) ∧ Below wr.heap.size wr w2
set_option maxRecDepth 100000 in
theorem c_IndexTest (f : Nat) (x : Value) (pr : Tst → Bool) (A : Option Addr) (c : Nat) (l : List Tst) (w : World) (hl2 : l.length ≤ 1048576) (hv : Rd w A (tstCells l)) (hcall : Hid (ClT f x pr l w)) (hent : ∀ (args : Array Value) (w : World), (callFunc f args).run Tryz.prog w = .ok (.enter f args) w) :
    Calls Tryz.prog 109 #[.slice A l.length c, .func (.func f) #[] #[x]] w fun e w' => e = .returned (.int .i64 (idxI pr l)) ∧ Below w.heap.size w w' := by
  have HR := Lib.hid (rfl : idxI pr l = idxI pr l)
  generalize hR : idxI pr l = R at HR
  replace HR := Lib.hid hR
  clear hR
  generalize hvn : l.length = vn at *
  have HVN := Lib.hid hvn
  have HV := Lib.hid hv
  clear hv hvn
  go_enter Tryz.func109, Tryz.ntmps109
  go_wp2
  go_loopw [8] (fun i wr => ∃ k : Nat, k ≤ vn ∧ i = .int .i64 k ∧ Hid ((l.take k).any pr = false) ∧ Below w.heap.size w wr) (fun i _ => vn - (intOf i).toNat)
  case atStart => exact ⟨0, Nat.zero_le _, rfl, Lib.hid rfl, by (repeat (first | exact Below.refl _ _ | assumption | refine below_alloc ?_ _ | refine below_drewN ?_ _ | refine below_set ?_ _ (by simp; try omega) | refine Below.drew ?_))⟩
  case round =>
    obtain ⟨k, hk, rfl, ha, hb⟩ := hrel
    by_cases hlt : k < vn
    · obtain ⟨t, hz⟩ : ∃ z, l[k]? = some z := ⟨_, List.getElem?_eq_getElem (by have := HVN.out; omega)⟩
      obtain ⟨b', off, rfl, _, g0, g1, g2⟩ := (HV.out.below hb).tst hz
      have HZZ := Lib.hid hz
      have HBE := Lib.hid hb
      have HC := Lib.hid (hcall.out wr t (List.mem_of_getElem? hz) hb)
      clear hz hb
      rcases hin : pr t with _ | _
      · rw [hin] at HC
        have HI := Lib.hid hin
        clear hin
        go_wp2_with (fail)
        refine HC.out.mono ?_
        rintro e w2 ⟨rfl, hb⟩
        have HB2 := Lib.hid (below_chain HBE.out hb)
        clear hb
        go_wp2
        go_roundw
        case rel => exact ⟨k + 1, by omega, by go_num, Lib.hid (any_take_snoc HZZ.out ha.out HI.out), HB2.out⟩
        case measure => simp [intOf]; omega
      · rw [hin] at HC
        have HI := Lib.hid hin
        clear hin
        go_wp2_with (fail)
        refine HC.out.mono ?_
        rintro e w2 ⟨rfl, hb⟩
        have HB2 := Lib.hid (below_chain HBE.out hb)
        clear hb
        go_wp2
        go_ret
        exact ⟨ret_int (by rw [← HR.out, idxI_found HZZ.out ha.out HI.out]), HB2.out⟩
    · have : k = vn := by omega
      subst this
      have hA := ha.out
      rw [List.take_of_length_le (by have := HVN.out; omega)] at hA
      have HA := Lib.hid hA
      clear hA ha
      go_wp2
      go_ret
      exact ⟨ret_int (by rw [← HR.out, idxI_none HA.out]), hb⟩
set_option maxRecDepth 100000 in
theorem c_ContainsTest (f : Nat) (x : Value) (pr : Tst → Bool) (A : Option Addr) (c : Nat) (l : List Tst) (w : World) (hl2 : l.length ≤ 1048576) (hv : Rd w A (tstCells l)) (hcall : Hid (ClT f x pr l w)) (hent : ∀ (args : Array Value) (w : World), (callFunc f args).run Tryz.prog w = .ok (.enter f args) w) :
    Calls Tryz.prog 85 #[.slice A l.length c, .func (.func f) #[] #[x]] w fun e w' => e = .returned (.bool (l.any pr)) ∧ Below w.heap.size w w' := by
  have HC := Lib.hid (c_IndexTest f x pr A c l w hl2 hv hcall hent)
  have HA := Lib.hid (idxI_any pr l)
  generalize idxI pr l = i at HC HA
  generalize l.any pr = r at HA ⊢
  generalize l.length = n at *
  clear hv hcall hent
  go_enter Tryz.func85, Tryz.ntmps85
  go_wp2_with (fail)
  refine HC.out.mono ?_
  rintro e w1 ⟨rfl, hb⟩
  have HB := Lib.hid hb
  clear hb
  go_wp2
  go_ret
  exact ⟨ret_bool HA.out, HB.out⟩
end Go.Proofs.YtgpmglfcdbpgkaaGreatDoor
