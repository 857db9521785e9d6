/- Contracts of IsRising (program and reference). No condition but the list's size. -/
import Derived.Test.YthkghpmfbdojeaaLayW
namespace Go.Proofs.Ythkghpmfbdojeaa
open Go.RowKit

def okAt (zs : List Int) (m : Int) (j : Nat) : Bool := decide (0 ≤ zs.getD j 0) && decide (zs.getD j 0 < m) && (j == 0 || decide (zs.getD (j - 1) 0 < zs.getD j 0))
def risB (zs : List Int) (m : Int) : Bool := (List.range zs.length).all (okAt zs m)
theorem ris_zero (zs : List Int) (m : Int) : (List.range 0).all (okAt zs m) = true := rfl
theorem ris_snoc {zs : List Int} {m : Int} {k : Nat} (h : (List.range k).all (okAt zs m) = true) (hk : okAt zs m k = true) : (List.range (k + 1)).all (okAt zs m) = true := by
  rw [List.range_succ, List.all_append, h]; simp [hk]
theorem ris_bad {zs : List Int} {m : Int} {k : Nat} (hl : k < zs.length) (hk : okAt zs m k = false) : risB zs m = false := by
  rw [← Bool.not_eq_true]
  intro ha
  simp only [risB, List.all_eq_true, List.mem_range] at ha
  rw [ha k hl] at hk
  cases hk
theorem okAt_eq {zs : List Int} {m z y : Int} {k : Nat} (hz : zs[k]? = some z) (hy : 0 < k → zs[k - 1]? = some y) : okAt zs m k = (decide (0 ≤ z) && decide (z < m) && (k == 0 || decide (y < z))) := by
  have e1 : zs.getD k 0 = z := by simp [hz]
  rcases Nat.eq_zero_or_pos k with rfl | h0
  · simp [okAt, hz]
  · have e2 : zs.getD (k - 1) 0 = y := by simp [hy h0]
    simp only [okAt, e1, e2]
theorem okAt_true {zs : List Int} {m z y : Int} {k : Nat} (hz : zs[k]? = some z) (hy : 0 < k → zs[k - 1]? = some y) (h : 0 ≤ z ∧ z < m ∧ (k = 0 ∨ y < z)) : okAt zs m k = true := by
  rw [okAt_eq hz hy]; simp; omega
theorem okAt_false {zs : List Int} {m z y : Int} {k : Nat} (hz : zs[k]? = some z) (hy : 0 < k → zs[k - 1]? = some y) (h : z < 0 ∨ m ≤ z ∨ (0 < k ∧ z ≤ y)) : okAt zs m k = false := by
  rw [okAt_eq hz hy, ← Bool.not_eq_true]; simp; omega
/-- What a rising list is. -/
structure Ris (zs : List Int) (m : Int) : Prop where
  lo : ∀ (j : Nat) (z : Int), zs[j]? = some z → 0 ≤ z
  hi : ∀ (j : Nat) (z : Int), zs[j]? = some z → z < m
  up : ∀ (j : Nat) (y z : Int), zs[j]? = some y → zs[j + 1]? = some z → y < z
theorem risB_iff {zs : List Int} {m : Int} : risB zs m = true ↔ Ris zs m := by
  simp only [risB, List.all_eq_true, List.mem_range]
  constructor
  · intro h
    refine ⟨fun j z hz => ?_, fun j z hz => ?_, fun j y z hy hz => ?_⟩
    · have := h j (List.getElem?_eq_some_iff.1 hz).1
      simp only [okAt, Bool.and_eq_true, decide_eq_true_eq] at this
      have e : zs.getD j 0 = z := by simp [hz]
      rw [e] at this
      exact this.1.1
    · have := h j (List.getElem?_eq_some_iff.1 hz).1
      simp only [okAt, Bool.and_eq_true, decide_eq_true_eq] at this
      have e : zs.getD j 0 = z := by simp [hz]
      rw [e] at this
      exact this.1.2
    · have := h (j + 1) (List.getElem?_eq_some_iff.1 hz).1
      rw [okAt_eq hz (y := y) (fun _ => by simpa using hy)] at this
      simp at this
      exact this.2
  · intro h j hj
    have hz : zs[j]? = some (zs[j]) := List.getElem?_eq_getElem hj
    rcases Nat.eq_zero_or_pos j with rfl | h0
    · rw [okAt_eq hz (y := 0) (fun h => absurd h (by omega))]
      simp [h.lo _ _ hz, h.hi _ _ hz]
    · have hy : zs[j - 1]? = some (zs[j - 1]) := List.getElem?_eq_getElem (by omega)
      rw [okAt_eq hz (fun _ => hy)]
      have := h.up (j - 1) _ _ hy (by rw [show j - 1 + 1 = j from by omega]; exact hz)
      simp [h.lo _ _ hz, h.hi _ _ hz, this]

set_option maxRecDepth 100000 in
theorem c_IsRising (A : Option Addr) (c n : Nat) (zs : List Int) (m : Int) (w : World) (hn : n = zs.length) (hs : n ≤ 1048576) (hr : Rd w A (ints zs)) :
    Calls Try.prog 60 #[.slice A n c, .int .i64 m] w fun e w' => e = .returned (.bool (risB zs m)) ∧ Below w.heap.size w w' := by
  have HN := Lib.hid hn
  clear hn
  go_enter Try.func60, Try.ntmps60
  go_wp2
  go_loopw [9] (fun i wr => ∃ k : Nat, k ≤ n ∧ i = .int .i64 k ∧ Hid ((List.range k).all (okAt zs m) = true) ∧ Below w.heap.size w wr) (fun i _ => n - (intOf i).toNat)
  case atStart => exact ⟨0, Nat.zero_le _, rfl, ris_zero _ _, Below.refl _ _⟩
  case round =>
    obtain ⟨k, hk, rfl, ha, hb⟩ := hrel
    by_cases hlt : k < n
    · obtain ⟨z, hz⟩ : ∃ z, zs[k]? = some z := ⟨_, List.getElem?_eq_getElem (by have := HN.out; omega)⟩
      obtain ⟨y, hy⟩ : ∃ y, zs[k - 1]? = some y := ⟨_, List.getElem?_eq_getElem (by have := HN.out; omega)⟩
      have HKT := Lib.hid (okAt_true (m := m) hz (fun _ => hy))
      have HKF := Lib.hid (okAt_false (m := m) hz (fun _ => hy))
      obtain ⟨b, off, rfl, _, g0⟩ := (hr.below hb).int hz
      obtain ⟨b', off', e', _, g1⟩ := (hr.below hb).int hy
      simp only [Option.some.injEq, Addr.mk.injEq, and_true] at e'
      obtain ⟨rfl, rfl⟩ := e'
      have HB := Lib.hid hb
      clear hz hy hb hr
      go_wp2
      all_goals first
        | (go_roundw
           case rel => exact ⟨k + 1, by omega, by go_num, ris_snoc ha.out (HKT.out (by omega)), HB.out⟩
           case measure => simp [intOf]; omega)
        | (go_ret
           exact ⟨ret_bool (ris_bad (by have := HN.out; omega) (HKF.out (by omega))).symm, HB.out⟩)
    · have : k = n := by omega
      subst this
      go_wp2
      go_ret
      exact ⟨ret_bool (by unfold risB; rw [← HN.out]; exact ha.out.symm), hb⟩
set_option maxRecDepth 100000 in
theorem c_l01Rises (A : Option Addr) (c n : Nat) (zs : List Int) (m : Int) (w : World) (hn : n = zs.length) (hs : n ≤ 1048576) (hr : Rd w A (ints zs)) :
    Calls Try.prog 67 #[.slice A n c, .int .i64 m] w fun e w' => e = .returned (.bool (risB zs m)) ∧ Below w.heap.size w w' := by
  have HN := Lib.hid hn
  clear hn
  go_enter Try.func67, Try.ntmps67
  go_wp2
  go_loopw [5] (fun i wr => ∃ k : Nat, k ≤ n ∧ i = .int .i64 k ∧ Hid ((List.range k).all (okAt zs m) = true) ∧ Below w.heap.size w wr) (fun i _ => n - (intOf i).toNat)
  case atStart => exact ⟨0, Nat.zero_le _, rfl, ris_zero _ _, Below.refl _ _⟩
  case round =>
    obtain ⟨k, hk, rfl, ha, hb⟩ := hrel
    by_cases hlt : k < n
    · obtain ⟨z, hz⟩ : ∃ z, zs[k]? = some z := ⟨_, List.getElem?_eq_getElem (by have := HN.out; omega)⟩
      obtain ⟨y, hy⟩ : ∃ y, zs[k - 1]? = some y := ⟨_, List.getElem?_eq_getElem (by have := HN.out; omega)⟩
      have HKT := Lib.hid (okAt_true (m := m) hz (fun _ => hy))
      have HKF := Lib.hid (okAt_false (m := m) hz (fun _ => hy))
      obtain ⟨b, off, rfl, _, g0⟩ := (hr.below hb).int hz
      obtain ⟨b', off', e', _, g1⟩ := (hr.below hb).int hy
      simp only [Option.some.injEq, Addr.mk.injEq, and_true] at e'
      obtain ⟨rfl, rfl⟩ := e'
      have HB := Lib.hid hb
      clear hz hy hb hr
      go_wp2
      refine wp_region_quiet_lit (by kernel_rfl) (by kernel_rfl) ?_
      (repeat (any_goals (first | go_big_quiet_step (fail) | quiet_step (fail) | (refine wpQuiet_step (fun K hK => ?_); go_simp; split <;> (refine hK _ ?_; clear hK K)))))
      all_goals (refine wpQuiet_nil ?_; intro _ hw'; obtain ⟨nq, hw''⟩ := hw'; subst hw'')
      all_goals go_wp2
      all_goals first
        | (go_roundw
           case rel => exact ⟨k + 1, by omega, by go_num, ris_snoc ha.out (HKT.out (by omega)), below_drewN HB.out _⟩
           case measure => simp [intOf]; omega)
        | (go_ret
           exact ⟨ret_bool (ris_bad (by have := HN.out; omega) (HKF.out (by omega))).symm, below_drewN HB.out _⟩)
    · have : k = n := by omega
      subst this
      go_wp2
      go_ret
      exact ⟨ret_bool (by unfold risB; rw [← HN.out]; exact ha.out.symm), hb⟩
end Go.Proofs.Ythkghpmfbdojeaa
