/- IndexFunc and ContainsFunc at other element types (printed by idx.py). Condition: the closure's contract. -/
import Derived.Test.YtgpmglfcdbpgkaaGreatDoorMIdx
namespace Go.Proofs.YtgpmglfcdbpgkaaGreatDoor
open Go.RowKit

/-- What a closure over one captured value answers at a test. -/
def ClInt0 (f : Nat) (pr : Int → Bool) (l : List Int) (w : World) : Prop :=
  ∀ (wr : World) (t : Int), t ∈ l → Below w.heap.size w wr → Calls Tryz.prog f #[.int .i64 t] wr fun e w2 => e = .returned (.bool (pr t)) ∧ Below wr.heap.size wr w2
set_option maxRecDepth 100000 in
theorem c_IndexInt0 (f : Nat) (pr : Int → Bool) (A : Option Addr) (c : Nat) (l : List Int) (w : World) (hl2 : l.length ≤ 1048576) (hv : Rd w A (ints l)) (hcall : Hid (ClInt0 f pr l w)) (hent : ∀ (args : Array Value) (w : World), (callFunc f args).run Tryz.prog w = .ok (.enter f args) w) :
    Calls Tryz.prog 88 #[.slice A l.length c, .func (.func f) #[] #[]] w fun e w' => e = .returned (.int .i64 (idxI pr l)) ∧ Below w.heap.size w w' := by
  have HR := Lib.hid (rfl : idxI pr l = idxI pr l)
  generalize hR : idxI pr l = R at HR
  replace HR := Lib.hid hR
  clear hR
  generalize hvn : l.length = vn at *
  have HVN := Lib.hid hvn
  have HV := Lib.hid hv
  clear hv hvn
  go_enter Tryz.func88, Tryz.ntmps88
  go_wp2
  go_loopw [8] (fun i wr => ∃ k : Nat, k ≤ vn ∧ i = .int .i64 k ∧ Hid ((l.take k).any pr = false) ∧ Below w.heap.size w wr) (fun i _ => vn - (intOf i).toNat)
  case atStart => exact ⟨0, Nat.zero_le _, rfl, Lib.hid rfl, by (repeat (first | exact Below.refl _ _ | assumption | refine below_alloc ?_ _ | refine below_drewN ?_ _ | refine below_set ?_ _ (by simp; try omega) | refine Below.drew ?_))⟩
  case round =>
    obtain ⟨k, hk, rfl, ha, hb⟩ := hrel
    by_cases hlt : k < vn
    · obtain ⟨t, hz⟩ : ∃ z, l[k]? = some z := ⟨_, List.getElem?_eq_getElem (by have := HVN.out; omega)⟩
      obtain ⟨b', off, rfl, _, g0⟩ := (HV.out.below hb).int hz
      have HZZ := Lib.hid hz
      have HBE := Lib.hid hb
      have HC := Lib.hid (hcall.out wr t (List.mem_of_getElem? hz) hb)
      clear hz hb
      rcases hin : pr t with _ | _
      · rw [hin] at HC
        have HI := Lib.hid hin
        clear hin
        go_wp2_with (fail)
        refine HC.out.mono ?_
        rintro e w2 ⟨rfl, hb⟩
        have HB2 := Lib.hid (below_chain HBE.out hb)
        clear hb
        go_wp2
        go_roundw
        case rel => exact ⟨k + 1, by omega, by go_num, Lib.hid (any_take_snoc HZZ.out ha.out HI.out), HB2.out⟩
        case measure => simp [intOf]; omega
      · rw [hin] at HC
        have HI := Lib.hid hin
        clear hin
        go_wp2_with (fail)
        refine HC.out.mono ?_
        rintro e w2 ⟨rfl, hb⟩
        have HB2 := Lib.hid (below_chain HBE.out hb)
        clear hb
        go_wp2
        go_ret
        exact ⟨ret_int (by rw [← HR.out, idxI_found HZZ.out ha.out HI.out]), HB2.out⟩
    · have : k = vn := by omega
      subst this
      have hA := ha.out
      rw [List.take_of_length_le (by have := HVN.out; omega)] at hA
      have HA := Lib.hid hA
      clear hA ha
      go_wp2
      go_ret
      exact ⟨ret_int (by rw [← HR.out, idxI_none HA.out]), hb⟩
set_option maxRecDepth 100000 in
theorem c_ContainsInt0 (f : Nat) (pr : Int → Bool) (A : Option Addr) (c : Nat) (l : List Int) (w : World) (hl2 : l.length ≤ 1048576) (hv : Rd w A (ints l)) (hcall : Hid (ClInt0 f pr l w)) (hent : ∀ (args : Array Value) (w : World), (callFunc f args).run Tryz.prog w = .ok (.enter f args) w) :
    Calls Tryz.prog 58 #[.slice A l.length c, .func (.func f) #[] #[]] w fun e w' => e = .returned (.bool (l.any pr)) ∧ Below w.heap.size w w' := by
  have HC := Lib.hid (c_IndexInt0 f pr A c l w hl2 hv hcall hent)
  have HA := Lib.hid (idxI_any pr l)
  generalize idxI pr l = i at HC HA
  generalize l.any pr = r at HA ⊢
  generalize l.length = n at *
  clear hv hcall hent
  go_enter Tryz.func58, Tryz.ntmps58
  go_wp2_with (fail)
  refine HC.out.mono ?_
  rintro e w1 ⟨rfl, hb⟩
  have HB := Lib.hid hb
  clear hb
  go_wp2
  go_ret
  exact ⟨ret_bool HA.out, HB.out⟩

/-- What a closure over one captured value answers at a test. -/
def ClInt1 (f : Nat) (x : Value) (pr : Int → Bool) (l : List Int) (w : World) : Prop :=
  ∀ (wr : World) (t : Int), t ∈ l → Below w.heap.size w wr → Calls Tryz.prog f #[.int .i64 t, x] wr fun e w2 => e = .returned (.bool (pr t)) ∧ Below wr.heap.size wr w2
set_option maxRecDepth 100000 in
theorem c_IndexInt1 (f : Nat) (x : Value) (pr : Int → Bool) (A : Option Addr) (c : Nat) (l : List Int) (w : World) (hl2 : l.length ≤ 1048576) (hv : Rd w A (ints l)) (hcall : Hid (ClInt1 f x pr l w)) (hent : ∀ (args : Array Value) (w : World), (callFunc f args).run Tryz.prog w = .ok (.enter f args) w) :
    Calls Tryz.prog 88 #[.slice A l.length c, .func (.func f) #[] #[x]] w fun e w' => e = .returned (.int .i64 (idxI pr l)) ∧ Below w.heap.size w w' := by
  have HR := Lib.hid (rfl : idxI pr l = idxI pr l)
  generalize hR : idxI pr l = R at HR
  replace HR := Lib.hid hR
  clear hR
  generalize hvn : l.length = vn at *
  have HVN := Lib.hid hvn
  have HV := Lib.hid hv
  clear hv hvn
  go_enter Tryz.func88, Tryz.ntmps88
  go_wp2
  go_loopw [8] (fun i wr => ∃ k : Nat, k ≤ vn ∧ i = .int .i64 k ∧ Hid ((l.take k).any pr = false) ∧ Below w.heap.size w wr) (fun i _ => vn - (intOf i).toNat)
  case atStart => exact ⟨0, Nat.zero_le _, rfl, Lib.hid rfl, by (repeat (first | exact Below.refl _ _ | assumption | refine below_alloc ?_ _ | refine below_drewN ?_ _ | refine below_set ?_ _ (by simp; try omega) | refine Below.drew ?_))⟩
  case round =>
    obtain ⟨k, hk, rfl, ha, hb⟩ := hrel
    by_cases hlt : k < vn
    · obtain ⟨t, hz⟩ : ∃ z, l[k]? = some z := ⟨_, List.getElem?_eq_getElem (by have := HVN.out; omega)⟩
      obtain ⟨b', off, rfl, _, g0⟩ := (HV.out.below hb).int hz
      have HZZ := Lib.hid hz
      have HBE := Lib.hid hb
      have HC := Lib.hid (hcall.out wr t (List.mem_of_getElem? hz) hb)
      clear hz hb
      rcases hin : pr t with _ | _
      · rw [hin] at HC
        have HI := Lib.hid hin
        clear hin
        go_wp2_with (fail)
        refine HC.out.mono ?_
        rintro e w2 ⟨rfl, hb⟩
        have HB2 := Lib.hid (below_chain HBE.out hb)
        clear hb
        go_wp2
        go_roundw
        case rel => exact ⟨k + 1, by omega, by go_num, Lib.hid (any_take_snoc HZZ.out ha.out HI.out), HB2.out⟩
        case measure => simp [intOf]; omega
      · rw [hin] at HC
        have HI := Lib.hid hin
        clear hin
        go_wp2_with (fail)
        refine HC.out.mono ?_
        rintro e w2 ⟨rfl, hb⟩
        have HB2 := Lib.hid (below_chain HBE.out hb)
        clear hb
        go_wp2
        go_ret
        exact ⟨ret_int (by rw [← HR.out, idxI_found HZZ.out ha.out HI.out]), HB2.out⟩
    · have : k = vn := by omega
      subst this
      have hA := ha.out
      rw [List.take_of_length_le (by have := HVN.out; omega)] at hA
      have HA := Lib.hid hA
      clear hA ha
      go_wp2
      go_ret
      exact ⟨ret_int (by rw [← HR.out, idxI_none HA.out]), hb⟩
set_option maxRecDepth 100000 in
theorem c_ContainsInt1 (f : Nat) (x : Value) (pr : Int → Bool) (A : Option Addr) (c : Nat) (l : List Int) (w : World) (hl2 : l.length ≤ 1048576) (hv : Rd w A (ints l)) (hcall : Hid (ClInt1 f x pr l w)) (hent : ∀ (args : Array Value) (w : World), (callFunc f args).run Tryz.prog w = .ok (.enter f args) w) :
    Calls Tryz.prog 58 #[.slice A l.length c, .func (.func f) #[] #[x]] w fun e w' => e = .returned (.bool (l.any pr)) ∧ Below w.heap.size w w' := by
  have HC := Lib.hid (c_IndexInt1 f x pr A c l w hl2 hv hcall hent)
  have HA := Lib.hid (idxI_any pr l)
  generalize idxI pr l = i at HC HA
  generalize l.any pr = r at HA ⊢
  generalize l.length = n at *
  clear hv hcall hent
  go_enter Tryz.func58, Tryz.ntmps58
  go_wp2_with (fail)
  refine HC.out.mono ?_
  rintro e w1 ⟨rfl, hb⟩
  have HB := Lib.hid hb
  clear hb
  go_wp2
  go_ret
  exact ⟨ret_bool HA.out, HB.out⟩

/-- What a closure over one captured value answers at a test. -/
def ClRule (f : Nat) (x : Value) (pr : Rul → Bool) (l : List Rul) (w : World) : Prop :=
  ∀ (wr : World) (t : Rul) (ag ae : Option Addr) (cg ce : Nat), t ∈ l → Below w.heap.size w wr → Rd wr ag (tstCells t.gs) → Rd wr ae (asgCells t.es) → Calls Tryz.prog f #[.agg #[.string t.nm, .slice ag t.gs.length cg, .slice ae t.es.length ce], x] wr fun e w2 => e = .returned (.bool (pr t)) ∧ Below wr.heap.size wr w2
set_option maxRecDepth 100000 in
theorem c_IndexRule (f : Nat) (x : Value) (pr : Rul → Bool) (A : Option Addr) (c : Nat) (l : List Rul) (w : World) (hl2 : l.length ≤ 1048576) (hv : Rl w A l) (hcall : Hid (ClRule f x pr l w)) (hent : ∀ (args : Array Value) (w : World), (callFunc f args).run Tryz.prog w = .ok (.enter f args) w) :
    Calls Tryz.prog 90 #[.slice A l.length c, .func (.func f) #[] #[x]] w fun e w' => e = .returned (.int .i64 (idxI pr l)) ∧ Below w.heap.size w w' := by
  have HR := Lib.hid (rfl : idxI pr l = idxI pr l)
  generalize hR : idxI pr l = R at HR
  replace HR := Lib.hid hR
  clear hR
  generalize hvn : l.length = vn at *
  have HVN := Lib.hid hvn
  have HV := Lib.hid hv
  clear hv hvn
  go_enter Tryz.func90, Tryz.ntmps90
  go_wp2
  go_loopw [8] (fun i wr => ∃ k : Nat, k ≤ vn ∧ i = .int .i64 k ∧ Hid ((l.take k).any pr = false) ∧ Below w.heap.size w wr) (fun i _ => vn - (intOf i).toNat)
  case atStart => exact ⟨0, Nat.zero_le _, rfl, Lib.hid rfl, by (repeat (first | exact Below.refl _ _ | assumption | refine below_alloc ?_ _ | refine below_drewN ?_ _ | refine below_set ?_ _ (by simp; try omega) | refine Below.drew ?_))⟩
  case round =>
    obtain ⟨k, hk, rfl, ha, hb⟩ := hrel
    by_cases hlt : k < vn
    · obtain ⟨t, hz⟩ : ∃ z, l[k]? = some z := ⟨_, List.getElem?_eq_getElem (by have := HVN.out; omega)⟩
      obtain ⟨b', off, ag, cg, ae, ce, rfl, _, g0, g1, g2, hg, he⟩ := (HV.out.below hb).at hz
      have HZZ := Lib.hid hz
      have HBE := Lib.hid hb
      have HC := Lib.hid (hcall.out wr t ag ae cg ce (List.mem_of_getElem? hz) hb hg he)
      clear hz hb hg he
      rcases hin : pr t with _ | _
      · rw [hin] at HC
        have HI := Lib.hid hin
        clear hin
        go_wp2_with (fail)
        refine HC.out.mono ?_
        rintro e w2 ⟨rfl, hb⟩
        have HB2 := Lib.hid (below_chain HBE.out hb)
        clear hb
        go_wp2
        go_roundw
        case rel => exact ⟨k + 1, by omega, by go_num, Lib.hid (any_take_snoc HZZ.out ha.out HI.out), HB2.out⟩
        case measure => simp [intOf]; omega
      · rw [hin] at HC
        have HI := Lib.hid hin
        clear hin
        go_wp2_with (fail)
        refine HC.out.mono ?_
        rintro e w2 ⟨rfl, hb⟩
        have HB2 := Lib.hid (below_chain HBE.out hb)
        clear hb
        go_wp2
        go_ret
        exact ⟨ret_int (by rw [← HR.out, idxI_found HZZ.out ha.out HI.out]), HB2.out⟩
    · have : k = vn := by omega
      subst this
      have hA := ha.out
      rw [List.take_of_length_le (by have := HVN.out; omega)] at hA
      have HA := Lib.hid hA
      clear hA ha
      go_wp2
      go_ret
      exact ⟨ret_int (by rw [← HR.out, idxI_none HA.out]), hb⟩
set_option maxRecDepth 100000 in
theorem c_ContainsRule (f : Nat) (x : Value) (pr : Rul → Bool) (A : Option Addr) (c : Nat) (l : List Rul) (w : World) (hl2 : l.length ≤ 1048576) (hv : Rl w A l) (hcall : Hid (ClRule f x pr l w)) (hent : ∀ (args : Array Value) (w : World), (callFunc f args).run Tryz.prog w = .ok (.enter f args) w) :
    Calls Tryz.prog 61 #[.slice A l.length c, .func (.func f) #[] #[x]] w fun e w' => e = .returned (.bool (l.any pr)) ∧ Below w.heap.size w w' := by
  have HC := Lib.hid (c_IndexRule f x pr A c l w hl2 hv hcall hent)
  have HA := Lib.hid (idxI_any pr l)
  generalize idxI pr l = i at HC HA
  generalize l.any pr = r at HA ⊢
  generalize l.length = n at *
  clear hv hcall hent
  go_enter Tryz.func61, Tryz.ntmps61
  go_wp2_with (fail)
  refine HC.out.mono ?_
  rintro e w1 ⟨rfl, hb⟩
  have HB := Lib.hid hb
  clear hb
  go_wp2
  go_ret
  exact ⟨ret_bool HA.out, HB.out⟩

end Go.Proofs.YtgpmglfcdbpgkaaGreatDoor
