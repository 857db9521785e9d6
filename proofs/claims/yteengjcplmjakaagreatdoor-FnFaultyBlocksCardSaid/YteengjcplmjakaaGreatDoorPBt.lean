/- Contracts of areBits and l22Bits (turned from DgB). Condition: the list's size. -/
import Derived.Test.YteengjcplmjakaaGreatDoorPMe
namespace Go.Proofs.YteengjcplmjakaaGreatDoor
open Go.RowKit

def nbit (z : Int) : Bool := !inB z 0 1
def bitsB (bs : List Int) (X : Int) : Bool := decide ((bs.length : Int) = X) && !bs.any nbit
def idxNb (zs : List Int) : Int := match zs.findIdx? nbit with | some k => (k : Int) | none => -1
theorem idx_hit {zs : List Int} {k : Nat} {z : Int} (hz : zs[k]? = some z) (hp : nbit z = true) (ha : ∀ j y, j < k → zs[j]? = some y → nbit y = false) : idxNb zs = k := by
  have : zs.findIdx? nbit = some k := by
    have hk := (List.getElem?_eq_some_iff.1 hz)
    have hkl := hk.1
    rw [List.findIdx?_eq_some_iff_getElem]
    refine ⟨hk.1, by rw [hk.2]; exact hp, fun j hj => ?_⟩
    have := ha j (zs[j]'(by omega)) hj (List.getElem?_eq_getElem (by omega))
    simp [this]
  simp [idxNb, this]
theorem idx_none {zs : List Int} (ha : ∀ j y, j < zs.length → zs[j]? = some y → nbit y = false) : idxNb zs = -1 := by
  have : zs.findIdx? nbit = none := by
    rw [List.findIdx?_eq_none_iff]
    intro x hx
    obtain ⟨j, hj, rfl⟩ := List.getElem_of_mem hx
    exact ha j _ hj (List.getElem?_eq_getElem hj)
  simp [idxNb, this]
theorem any_none {zs : List Int} (ha : ∀ j y, j < zs.length → zs[j]? = some y → nbit y = false) : zs.any nbit = false := by
  rw [List.any_eq_false]
  intro x hx
  obtain ⟨j, hj, rfl⟩ := List.getElem_of_mem hx
  rw [ha j _ hj (List.getElem?_eq_getElem hj)]
  decide
theorem any_hit {zs : List Int} {k : Nat} {z : Int} (hz : zs[k]? = some z) (hp : nbit z = true) : zs.any nbit = true :=
  List.any_eq_true.2 ⟨z, List.mem_of_getElem? hz, hp⟩
theorem idx_any {zs : List Int} : decide (0 ≤ idxNb zs) = zs.any nbit := by
  unfold idxNb
  cases h : zs.findIdx? nbit with
  | none =>
    rw [List.findIdx?_eq_none_iff] at h
    have : zs.any nbit = false := by simpa [List.any_eq_false] using h
    simp [this]
  | some k =>
    rw [List.findIdx?_eq_some_iff_getElem] at h
    have : zs.any nbit = true := List.any_eq_true.2 ⟨_, List.getElem_mem h.1, h.2.1⟩
    simp [this]
theorem nbit_eq (z : Int) : nbit z = (z != 0 && z != 1) := by
  unfold nbit inB
  rw [Bool.eq_iff_iff]
  simp
  omega
theorem c_nbit (z : Int) (w : World) : Calls Tryz.prog 162 #[.int .i64 z] w fun e w' => e = .returned (.bool (nbit z)) ∧ w = w' := by
  go_enter Tryz.func162, Tryz.ntmps162
  go_wp2
  all_goals (go_ret)
  all_goals (refine ⟨?_, rfl⟩; rw [nbit_eq]; congr 2; try simp [*])
set_option maxRecDepth 100000 in
theorem c_IndexFunc (A : Option Addr) (c n : Nat) (zs : List Int) (w : World) (hn : n = zs.length) (hs : n ≤ 1048576) (hr : Rd w A (ints zs)) :
    Calls Tryz.prog 183 #[.slice A n c, .func (.func 162) #[] #[]] w fun e w' => e = .returned (.int .i64 (idxNb zs)) ∧ w = w' := by
  have HN := Lib.hid hn
  clear hn
  go_enter Tryz.func183, Tryz.ntmps183
  go_wp2
  go_loop [8] (fun i => ∃ k : Nat, k ≤ n ∧ i = .int .i64 k ∧ Hid (∀ j y, j < k → zs[j]? = some y → nbit y = false)) (fun i => n - (intOf i).toNat)
  case atStart => exact ⟨0, Nat.zero_le _, rfl, fun j y h _ => absurd h (by omega)⟩
  case round =>
    obtain ⟨k, hk, rfl, ha⟩ := hrel
    by_cases hlt : k < n
    · obtain ⟨z, hz⟩ : ∃ z, zs[k]? = some z := ⟨_, List.getElem?_eq_getElem (by have := HN.out; omega)⟩
      have HZ := Lib.hid hz
      obtain ⟨b, off, rfl, _, g0⟩ := hr.int hz
      clear hz hr
      go_wp2_with (fail)
      refine (c_nbit z _).mono ?_
      rintro e w2 ⟨rfl, rfl⟩
      rcases hp : nbit z with _ | _
      · have HP := Lib.hid hp
        clear hp
        go_wp2
        go_round
        case rel =>
          refine ⟨k + 1, by omega, by go_num, fun j y hj hy => ?_⟩
          rcases Nat.lt_or_ge j k with h | h
          · exact ha.out j y h hy
          · obtain rfl : j = k := by omega
            have := HZ.out.symm.trans hy
            simp only [Option.some.injEq] at this
            rw [← this]; exact HP.out
        case measure => simp [intOf]; omega
      · have HP := Lib.hid hp
        clear hp
        go_wp2
        go_ret
        exact ⟨ret_int (idx_hit HZ.out HP.out ha.out).symm, rfl⟩
    · have : k = n := by omega
      subst this
      go_wp2
      go_ret
      exact ⟨ret_int (idx_none (by rw [← HN.out]; exact ha.out)).symm, rfl⟩
theorem c_ContainsFunc (A : Option Addr) (c n : Nat) (zs : List Int) (w : World) (hn : n = zs.length) (hs : n ≤ 1048576) (hr : Rd w A (ints zs)) :
    Calls Tryz.prog 161 #[.slice A n c, .func (.func 162) #[] #[]] w fun e w' => e = .returned (.bool (zs.any nbit)) ∧ w = w' := by
  have HN := Lib.hid hn
  clear hn
  go_enter Tryz.func161, Tryz.ntmps161
  go_wp2_with (first
    | (go_at_call 183
       refine (c_IndexFunc _ _ _ zs _ HN.out hs hr).mono ?_
       rintro e w1 ⟨rfl, rfl⟩)
    )
  go_ret
  exact ⟨ret_bool idx_any, rfl⟩
theorem c_areBits (A : Option Addr) (c n : Nat) (zs : List Int) (X : Int) (w : World) (hn : n = zs.length) (hs : n ≤ 1048576) (hr : Rd w A (ints zs)) :
    Calls Tryz.prog 108 #[.slice A n c, .int .i64 X] w fun e w' => e = .returned (.bool (bitsB zs X)) ∧ w = w' := by
  have HN := Lib.hid hn
  clear hn
  by_cases hX : (n : Int) = X
  · subst hX
    have HV : Hid (bitsB zs (n : Int) = !zs.any nbit) := Lib.hid (by unfold bitsB; rw [decide_eq_true (by rw [HN.out]), Bool.true_and])
    rw [HV.out]
    go_enter Tryz.func108, Tryz.ntmps108
    go_wp2_with (first
      | (go_at_call 161
         refine (c_ContainsFunc _ _ _ zs _ HN.out hs hr).mono ?_
         rintro e w1 ⟨rfl, rfl⟩)
      )
    go_ret
    exact ⟨rfl, rfl⟩
  · have HV : Hid (bitsB zs X = false) := Lib.hid (by unfold bitsB; rw [decide_eq_false (by rw [← HN.out]; exact hX), Bool.false_and])
    have hne : ((n : Int) == X) = false := by simpa using hX
    rw [HV.out]
    clear hX
    go_enter Tryz.func108, Tryz.ntmps108
    go_wp2_with (fail)
    go_ret
    exact ⟨rfl, rfl⟩
set_option maxRecDepth 100000 in
theorem c_l22Bits (A : Option Addr) (c n : Nat) (zs : List Int) (X : Int) (w : World) (hn : n = zs.length) (hs : n ≤ 1048576) (hr : Rd w A (ints zs)) :
    Calls Tryz.prog 109 #[.slice A n c, .int .i64 X] w fun e w' => e = .returned (.bool (bitsB zs X)) ∧ w = w' := by
  have HN := Lib.hid hn
  clear hn
  go_enter Tryz.func109, Tryz.ntmps109
  go_wp2
  go_loop [5] (fun i => ∃ k : Nat, k ≤ n ∧ i = .int .i64 k ∧ Hid (∀ j y, j < k → zs[j]? = some y → nbit y = false)) (fun i => n - (intOf i).toNat)
  case atStart => exact ⟨0, Nat.zero_le _, rfl, fun j y h _ => absurd h (by omega)⟩
  case round =>
    obtain ⟨k, hk, rfl, ha⟩ := hrel
    by_cases hlt : k < n
    · obtain ⟨z, hz⟩ : ∃ z, zs[k]? = some z := ⟨_, List.getElem?_eq_getElem (by have := HN.out; omega)⟩
      have HZ := Lib.hid hz
      obtain ⟨b, off, rfl, _, g0⟩ := hr.int hz
      clear hz hr
      have HP : Hid (nbit z = !inB z 0 1) := Lib.hid rfl
      go_wp2_with (fail)
      refine (c_l01In z 0 1 _).mono ?_
      rintro e w2 ⟨rfl, rfl⟩
      rcases hp : inB z 0 1 with _ | _
      · have HP := Lib.hid (HP.out.trans (by rw [hp]))
        clear hp
        go_wp2
        go_ret
        exact ⟨ret_bool (by unfold bitsB; rw [any_hit HZ.out HP.out]; simp), rfl⟩
      · have HP := Lib.hid (HP.out.trans (by rw [hp]))
        clear hp
        go_wp2
        go_round
        case rel =>
          refine ⟨k + 1, by omega, by go_num, fun j y hj hy => ?_⟩
          rcases Nat.lt_or_ge j k with h | h
          · exact ha.out j y h hy
          · obtain rfl : j = k := by omega
            have := HZ.out.symm.trans hy
            simp only [Option.some.injEq] at this
            rw [← this]; exact HP.out
        case measure => simp [intOf]; omega
    · have : k = n := by omega
      subst this
      by_cases hX : (k : Int) = X
      · subst hX
        go_wp2
        go_ret
        exact ⟨ret_bool (by unfold bitsB; rw [any_none (by rw [← HN.out]; exact ha.out), HN.out]; simp), rfl⟩
      · have hne : ((k : Int) == X) = false := by simpa using hX
        have HX := Lib.hid hX
        clear hX
        go_wp2
        go_ret
        exact ⟨ret_bool (by unfold bitsB; rw [← HN.out, decide_eq_false HX.out]; rfl), rfl⟩
end Go.Proofs.YteengjcplmjakaaGreatDoor
