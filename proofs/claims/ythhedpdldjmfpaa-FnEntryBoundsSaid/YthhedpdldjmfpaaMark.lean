/- Contracts of the laws' own marks: markInt64S, heldInt64S, markSegmentS, markLayout. No condition but the sizes. -/
import Derived.Test.YthhedpdldjmfpaaPosW
namespace Go.Proofs.Ythhedpdldjmfpaa
open Go.RowKit

theorem grown_trans {w a b : World} {row : Option Nat} (h : w.grownBy a row) (h2 : a.grownBy b row) : w.grownBy b row :=
  ⟨h2.os.trans h.os, h2.tape.trans h.tape, h2.output.trans h.output, Nat.le_trans h.size h2.size, fun k hk hne => (h2.block k (Nat.lt_of_lt_of_le hk h.size) hne).trans (h.block k hk hne)⟩
theorem own_zero {w : World} {base : Nat} {e : TypeId} {size c : Nat} {A : Option Addr} {xs : List Value} (h : w.ownsRow base e size (.slice A 0 c) 0 xs) : xs = [] := List.eq_nil_of_length_eq_zero (by simpa using h.1)
def markL (k : Int) (n : Nat) : List Int := (List.range n).map fun (i : Nat) => k + (i : Int)
theorem markL_length (k : Int) (n : Nat) : (markL k n).length = n := by simp [markL]
theorem markL_get {k : Int} {n j : Nat} (h : j < n) : (markL k n)[j]? = some (k + j) := by simp [markL, h]
set_option maxRecDepth 100000 in
theorem c_markInt64S (A : Option Addr) (c n : Nat) (zs : List Int) (base : Nat) (k : Int) (w : World) (hk0 : 0 ≤ k) (hk : k + n ≤ 100000000) (ho : w.ownsRow base 2 1 (.slice A n c) n (ints zs)) :
    Calls Try.prog 35 #[.slice A n c, .int .i64 k] w fun e w' => e = .returned (.int .i64 (k + n)) ∧ w'.ownsRow base 2 1 (.slice A n c) n (ints (markL k n)) ∧ w.grownBy w' (Value.slice A n c).ownBlock := by
  obtain ⟨k, rfl⟩ : ∃ k' : Nat, k = k' := ⟨k.toNat, by omega⟩
  have hLZ := Lib.hid (show (ints (markL k n)).length = (ints zs).length by rw [ho.1, ints_length, markL_length]; simp)
  have HL := Lib.hid (show (ints zs).length = n by rw [ho.1]; simp)
  go_enter Try.func35, Try.ntmps35
  go_wp2
  go_loopw [1, 5] (fun t i wr => ∃ j : Nat, j ≤ n ∧ i = .int .i64 j ∧ t = .int .i64 (k + j) ∧ wr.ownsRow base 2 1 (.slice A n c) n (mix (ints (markL k n)) (ints zs) j) ∧ w.grownBy wr (Value.slice A n c).ownBlock) (fun _ i _ => n - (intOf i).toNat)
  case atStart => exact ⟨0, Nat.zero_le _, rfl, by simp, by rw [mix_zero]; exact ho, World.grownBy.refl _ _⟩
  case round =>
    obtain ⟨j, hj, rfl, rfl, ho1, hg⟩ := hrel
    clear ho
    by_cases hlt : j < n
    · obtain ⟨g, cap, hv, _⟩ := ho1.form (by omega)
      simp only [Value.slice.injEq, true_and] at hv
      obtain ⟨rfl, rfl⟩ := hv
      have hu : (ints (markL k n))[j]? = some (.int .i64 (k + j)) := by simp [ints, markL_get hlt]
      have f0 := ho1.frozenAt j
      obtain ⟨old, hold⟩ := own_cell ho1 (j := j) (by omega)
      have hst := (ho1.stored j (.int .i64 (k + j))).1
      rw [mix_set hLZ.out hu] at hst
      have HST := Lib.hid hst
      have HG := Lib.hid (grown_trans hg (ho1.stored j (.int .i64 (k + j))).2)
      clear hu hst ho1 hg
      go_wp2
      go_roundw
      case rel => exact ⟨j + 1, by omega, by go_num, by go_num, HST.out, HG.out⟩
      case measure => simp [intOf]; omega
    · obtain rfl : j = n := by omega
      have HO := Lib.hid ho1
      have HG := Lib.hid hg
      clear ho1 hg
      go_wp2
      go_ret
      refine ⟨rfl, ?_, HG.out⟩
      have := HO.out
      rwa [mix_all (by rw [hLZ.out, HL.out]; exact Nat.le_refl _) (by rw [HL.out]; exact Nat.le_refl _)] at this
set_option maxRecDepth 100000 in
theorem c_heldInt64S (A : Option Addr) (c n : Nat) (k : Int) (w : World) (hk0 : 0 ≤ k) (hk : k + n ≤ 100000000) (hr : Rd w A (ints (markL k n))) :
    Calls Try.prog 36 #[.slice A n c, .int .i64 k] w fun e w' => e = .returned (.int .i64 (k + n)) ∧ Below w.heap.size w w' := by
  obtain ⟨k, rfl⟩ : ∃ k' : Nat, k = k' := ⟨k.toNat, by omega⟩
  go_enter Try.func36, Try.ntmps36
  go_wp2
  go_loop [1, 5] (fun t i => ∃ j : Nat, j ≤ n ∧ i = .int .i64 j ∧ t = .int .i64 (k + j)) (fun _ i => n - (intOf i).toNat)
  case atStart => exact ⟨0, Nat.zero_le _, rfl, by simp⟩
  case round =>
    obtain ⟨j, hj, rfl, rfl⟩ := hrel
    by_cases hlt : j < n
    · obtain ⟨b, off, rfl, _, g0⟩ := hr.int (markL_get hlt)
      clear hr
      go_wp2
      go_round
      case rel => exact ⟨j + 1, by omega, by go_num, by go_num⟩
      case measure => simp [intOf]; omega
    · obtain rfl : j = n := by omega
      go_wp2
      go_ret
      exact ⟨rfl, Below.refl _ _⟩
set_option maxRecDepth 100000 in
theorem c_markSegmentS (A : Option Addr) (c n : Nat) (xs : List Value) (base : Nat) (k : Int) (w : World) (hk0 : 0 ≤ k) (hk : k + 7 * n ≤ 100000000) (ho : w.ownsRow base 29 7 (.slice A n c) n xs) :
    Calls Try.prog 82 #[.slice A n c, .int .i64 k] w fun e w' => e = .returned (.int .i64 (k + 7 * n)) ∧ w.grownBy w' (Value.slice A n c).ownBlock := by
  obtain ⟨k, rfl⟩ : ∃ k' : Nat, k = k' := ⟨k.toNat, by omega⟩
  go_enter Try.func82, Try.ntmps82
  go_wp2
  go_loopw [1, 5] (fun t i wr => ∃ j : Nat, j ≤ n ∧ i = .int .i64 j ∧ t = .int .i64 (k + 7 * j) ∧ (∃ ys, wr.ownsRow base 29 7 (.slice A n c) n ys) ∧ w.grownBy wr (Value.slice A n c).ownBlock) (fun _ i _ => n - (intOf i).toNat)
  case atStart => exact ⟨0, Nat.zero_le _, rfl, by simp, ⟨_, ho⟩, World.grownBy.refl _ _⟩
  case round =>
    obtain ⟨j, hj, rfl, rfl, ⟨ys, ho1⟩, hg⟩ := hrel
    clear ho
    by_cases hlt : j < n
    · obtain ⟨g, cap, hv, _⟩ := ho1.form (by omega)
      simp only [Value.slice.injEq, true_and] at hv
      obtain ⟨rfl, rfl⟩ := hv
      have f0 := ho1.frozenAt (j * 7)
      obtain ⟨o0, e0⟩ := own_cell ho1 (j := j * 7) (by omega)
      have f1 := ho1.frozenAt (j * 7 + 1)
      obtain ⟨o1, e1⟩ := own_cell ho1 (j := j * 7 + 1) (by omega)
      have f2 := ho1.frozenAt (j * 7 + 2)
      obtain ⟨o2, e2⟩ := own_cell ho1 (j := j * 7 + 2) (by omega)
      have f3 := ho1.frozenAt (j * 7 + 3)
      obtain ⟨o3, e3⟩ := own_cell ho1 (j := j * 7 + 3) (by omega)
      have f4 := ho1.frozenAt (j * 7 + 4)
      obtain ⟨o4, e4⟩ := own_cell ho1 (j := j * 7 + 4) (by omega)
      have f5 := ho1.frozenAt (j * 7 + 5)
      obtain ⟨o5, e5⟩ := own_cell ho1 (j := j * 7 + 5) (by omega)
      have f6 := ho1.frozenAt (j * 7 + 6)
      obtain ⟨o6, e6⟩ := own_cell ho1 (j := j * 7 + 6) (by omega)
      have HST := Lib.hid (((((((ho1.stored (j * 7) (.int .i64 (k + 7 * j))).1.stored (j * 7 + 1) (.int .i64 (k + 7 * j + 1))).1.stored (j * 7 + 2) (.int .i64 (k + 7 * j + 2))).1.stored (j * 7 + 3) (.int .i64 (k + 7 * j + 3))).1.stored (j * 7 + 4) (.int .i64 (k + 7 * j + 4))).1.stored (j * 7 + 5) (.int .i64 (k + 7 * j + 5))).1.stored (j * 7 + 6) (.int .i64 (k + 7 * j + 6))).1
      have HG := Lib.hid (grown_trans (grown_trans (grown_trans (grown_trans (grown_trans (grown_trans (grown_trans hg (ho1.stored (j * 7) (.int .i64 (k + 7 * j))).2) ((ho1.stored (j * 7) (.int .i64 (k + 7 * j))).1.stored (j * 7 + 1) (.int .i64 (k + 7 * j + 1))).2) (((ho1.stored (j * 7) (.int .i64 (k + 7 * j))).1.stored (j * 7 + 1) (.int .i64 (k + 7 * j + 1))).1.stored (j * 7 + 2) (.int .i64 (k + 7 * j + 2))).2) ((((ho1.stored (j * 7) (.int .i64 (k + 7 * j))).1.stored (j * 7 + 1) (.int .i64 (k + 7 * j + 1))).1.stored (j * 7 + 2) (.int .i64 (k + 7 * j + 2))).1.stored (j * 7 + 3) (.int .i64 (k + 7 * j + 3))).2) (((((ho1.stored (j * 7) (.int .i64 (k + 7 * j))).1.stored (j * 7 + 1) (.int .i64 (k + 7 * j + 1))).1.stored (j * 7 + 2) (.int .i64 (k + 7 * j + 2))).1.stored (j * 7 + 3) (.int .i64 (k + 7 * j + 3))).1.stored (j * 7 + 4) (.int .i64 (k + 7 * j + 4))).2) ((((((ho1.stored (j * 7) (.int .i64 (k + 7 * j))).1.stored (j * 7 + 1) (.int .i64 (k + 7 * j + 1))).1.stored (j * 7 + 2) (.int .i64 (k + 7 * j + 2))).1.stored (j * 7 + 3) (.int .i64 (k + 7 * j + 3))).1.stored (j * 7 + 4) (.int .i64 (k + 7 * j + 4))).1.stored (j * 7 + 5) (.int .i64 (k + 7 * j + 5))).2) (((((((ho1.stored (j * 7) (.int .i64 (k + 7 * j))).1.stored (j * 7 + 1) (.int .i64 (k + 7 * j + 1))).1.stored (j * 7 + 2) (.int .i64 (k + 7 * j + 2))).1.stored (j * 7 + 3) (.int .i64 (k + 7 * j + 3))).1.stored (j * 7 + 4) (.int .i64 (k + 7 * j + 4))).1.stored (j * 7 + 5) (.int .i64 (k + 7 * j + 5))).1.stored (j * 7 + 6) (.int .i64 (k + 7 * j + 6))).2)
      clear ho1 hg
      go_wp2
      go_roundw
      case rel => exact ⟨j + 1, by omega, by go_num, by go_num, ⟨_, HST.out⟩, HG.out⟩
      case measure => simp [intOf]; omega
    · obtain rfl : j = n := by omega
      have HG := Lib.hid hg
      clear ho1 hg
      go_wp2
      go_ret
      exact ⟨rfl, HG.out⟩
set_option maxRecDepth 100000 in
theorem c_markLayout (A : Option Addr) (c n : Nat) (xs : List Value) (base : Nat) (k : Int) (w : World) (hk0 : 0 ≤ k) (hk : k + 7 * n ≤ 100000000) (ho : w.ownsRow base 29 7 (.slice A n c) n xs) :
    Calls Try.prog 34 #[.agg #[.slice A n c], .int .i64 k] w fun e w' => e = .returned (.int .i64 (k + 7 * n)) ∧ w.grownBy w' (Value.slice A n c).ownBlock := by
  have HO := Lib.hid (own_below ho (below_alloc (Below.refl _ _) (.cells #[.slice A n c] 40)))
  clear ho
  go_enter Try.func34, Try.ntmps34
  go_wp2_with (first
    | (go_at_call 82
       refine (c_markSegmentS _ _ _ _ _ _ _ hk0 hk HO.out).mono ?_
       rintro e w1 ⟨rfl, hg⟩
       have HG := Lib.hid (grown_trans (grown_of_below (below_alloc (Below.refl _ _) _) _) hg)
       clear hg)
    )
  go_ret
  exact ⟨rfl, HG.out⟩
theorem cell_mark {w w' : World} {row : Option Nat} {a : Addr} {v : Value} (h : w.cell? a = some v) (hg : w.grownBy w' row) (hne : ∀ q, row = some q → q ≠ a.block) : w'.cell? a = some v :=
  (hg.cell_far a (World.block_lt_of_cell? w a h) (fun h' => hne _ h'.symm rfl)).trans h
theorem kept_far {w w' : World} {row : Option Nat} {base : Nat} {e : TypeId} {size n : Nat} {v : Value} {xs : List Value} (h : w.ownsRow base e size v n xs) (hg : w.grownBy w' row) (hlt : ∀ q, row = some q → q < base) : w'.ownsRow base e size v n xs := by
  refine h.kept hg ?_
  rcases hv : v.ownBlock with _ | q
  · exact .inl rfl
  · refine .inr fun h' => ?_
    have := (h.lt q hv).1
    have := hlt q h'.symm
    omega
end Go.Proofs.Ythhedpdldjmfpaa
