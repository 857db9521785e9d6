/- Contracts of slices.IndexFunc and slices.ContainsFunc at lists of integers, for whatever function value with one captured variable. No condition but the list's size and what the function value computes. -/
import Derived.Test.YthkghpmfbdojeaaRise
namespace Go.Proofs.Ythkghpmfbdojeaa
open Go.RowKit

/-- The index of the first element that p takes, else -1. -/
def idxOf (p : Int → Bool) (zs : List Int) : Int := match zs.findIdx? p with | some k => (k : Int) | none => -1
theorem idx_hit {p : Int → Bool} {zs : List Int} {k : Nat} {z : Int} (hz : zs[k]? = some z) (hp : p z = true) (ha : ∀ j y, j < k → zs[j]? = some y → p y = false) : idxOf p zs = k := by
  have : zs.findIdx? p = some k := by
    have hk := (List.getElem?_eq_some_iff.1 hz)
    have hkl := hk.1
    rw [List.findIdx?_eq_some_iff_getElem]
    refine ⟨hk.1, by rw [hk.2]; exact hp, fun j hj => ?_⟩
    have := ha j (zs[j]'(by omega)) hj (List.getElem?_eq_getElem (by omega))
    simp [this]
  simp [idxOf, this]
theorem idx_none {p : Int → Bool} {zs : List Int} (ha : ∀ j y, j < zs.length → zs[j]? = some y → p y = false) : idxOf p zs = -1 := by
  have : zs.findIdx? p = none := by
    rw [List.findIdx?_eq_none_iff]
    intro x hx
    obtain ⟨j, hj, rfl⟩ := List.getElem_of_mem hx
    exact ha j _ hj (List.getElem?_eq_getElem hj)
  simp [idxOf, this]
theorem idx_any {p : Int → Bool} {zs : List Int} : decide (0 ≤ idxOf p zs) = zs.any p := by
  unfold idxOf
  cases h : zs.findIdx? p with
  | none =>
    rw [List.findIdx?_eq_none_iff] at h
    have : zs.any p = false := by simpa [List.any_eq_false] using h
    simp [this]
  | some k =>
    rw [List.findIdx?_eq_some_iff_getElem] at h
    have : zs.any p = true := List.any_eq_true.2 ⟨_, List.getElem_mem h.1, h.2.1⟩
    simp [this]
theorem idx_bd {p : Int → Bool} {zs : List Int} : -1 ≤ idxOf p zs ∧ idxOf p zs ≤ zs.length := by
  unfold idxOf
  cases h : zs.findIdx? p with
  | none => simp
  | some k =>
    rw [List.findIdx?_eq_some_iff_getElem] at h
    have := h.1
    simp; omega
/-- What the function value computes, in every later world. -/
def Tests (F : Nat) (v : Value) (p : Int → Bool) (zs : List Int) (w : World) : Prop :=
  ∀ z ∈ zs, ∀ w1, Below w.heap.size w w1 → Calls Try.prog F #[.int .i64 z, v] w1 fun e w2 => e = .returned (.bool (p z)) ∧ Below w1.heap.size w1 w2
set_option maxRecDepth 100000 in
theorem c_IndexFunc (F : Nat) (v : Value) (p : Int → Bool) (A : Option Addr) (c n : Nat) (zs : List Int) (w : World) (hn : n = zs.length) (hs : n ≤ 1048576) (hr : Rd w A (ints zs)) (hF : ∀ args w, (callFunc F args).run Try.prog w = .ok (.enter F args) w) (hf : Tests F v p zs w) :
    Calls Try.prog 74 #[.slice A n c, .func (.func F) #[] #[v]] w fun e w' => e = .returned (.int .i64 (idxOf p zs)) ∧ Below w.heap.size w w' := by
  have HN := Lib.hid hn
  clear hn
  go_enter Try.func74, Try.ntmps74
  go_wp2
  go_loopw [8] (fun i wr => ∃ k : Nat, k ≤ n ∧ i = .int .i64 k ∧ Hid (∀ j y, j < k → zs[j]? = some y → p y = false) ∧ Below w.heap.size w wr) (fun i _ => n - (intOf i).toNat)
  case atStart => exact ⟨0, Nat.zero_le _, rfl, fun j y h _ => absurd h (by omega), Below.refl _ _⟩
  case round =>
    obtain ⟨k, hk, rfl, ha, hb⟩ := hrel
    by_cases hlt : k < n
    · obtain ⟨z, hz⟩ : ∃ z, zs[k]? = some z := ⟨_, List.getElem?_eq_getElem (by have := HN.out; omega)⟩
      have HZ := Lib.hid hz
      obtain ⟨b, off, rfl, _, g0⟩ := (hr.below hb).int hz
      have HB := Lib.hid hb
      clear hz hb hr
      go_wp2_with (fail)
      refine (hf z (List.mem_of_getElem? HZ.out) _ HB.out).mono ?_
      rintro e w2 ⟨rfl, hb2⟩
      have HB2 := Lib.hid (below_chain HB.out hb2)
      clear hb2
      rcases hp : p z with _ | _
      · have HP := Lib.hid hp
        clear hp
        go_wp2
        go_roundw
        case rel =>
          refine ⟨k + 1, by omega, by go_num, fun j y hj hy => ?_, HB2.out⟩
          rcases Nat.lt_or_ge j k with h | h
          · exact ha.out j y h hy
          · obtain rfl : j = k := by omega
            have := HZ.out.symm.trans hy
            simp only [Option.some.injEq] at this
            rw [← this]; exact HP.out
        case measure => simp [intOf]; omega
      · have HP := Lib.hid hp
        clear hp
        go_wp2
        go_ret
        exact ⟨ret_int (idx_hit HZ.out HP.out ha.out).symm, HB2.out⟩
    · have : k = n := by omega
      subst this
      go_wp2
      go_ret
      exact ⟨ret_int (idx_none (by rw [← HN.out]; exact ha.out)).symm, hb⟩
theorem c_ContainsFunc (F : Nat) (v : Value) (p : Int → Bool) (A : Option Addr) (c n : Nat) (zs : List Int) (w : World) (hn : n = zs.length) (hs : n ≤ 1048576) (hr : Rd w A (ints zs)) (hF : ∀ args w, (callFunc F args).run Try.prog w = .ok (.enter F args) w) (hf : Tests F v p zs w) :
    Calls Try.prog 62 #[.slice A n c, .func (.func F) #[] #[v]] w fun e w' => e = .returned (.bool (zs.any p)) ∧ Below w.heap.size w w' := by
  have HN := Lib.hid hn
  clear hn
  go_enter Try.func62, Try.ntmps62
  go_wp2_with (first
    | (go_at_call 74
       refine (c_IndexFunc F v p _ _ _ zs _ HN.out hs hr hF hf).mono ?_
       rintro e w1 ⟨rfl, hb⟩)
    )
  go_ret
  exact ⟨ret_bool idx_any, hb⟩
end Go.Proofs.Ythkghpmfbdojeaa
