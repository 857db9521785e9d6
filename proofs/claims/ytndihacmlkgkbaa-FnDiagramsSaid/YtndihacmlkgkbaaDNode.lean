/- Seat of the diagrams: contracts of within, l01In; nodes as lists of cells; eqNode, eqNodeS, eqDiagram, markDiagram, heldDiagram. No condition but the lists' sizes. -/
import Derived.Test.YtndihacmlkgkbaaRowD
namespace Go.Proofs.Ytndihacmlkgkbaa
open Go.RowKit

def inB (x lo hi : Int) : Bool := decide (lo ≤ x ∧ x ≤ hi)
theorem c_within (x lo hi : Int) (w : World) : Calls Try.prog 43 #[.int .i64 x, .int .i64 lo, .int .i64 hi] w fun e w' => e = .returned (.bool (inB x lo hi)) ∧ w = w' := by
  go_enter Try.func43, Try.ntmps43
  go_wp2
  all_goals (go_ret)
  all_goals (refine ⟨?_, rfl⟩; congr 2; simp [inB]; omega)
theorem c_l01In (x lo hi : Int) (w : World) : Calls Try.prog 38 #[.int .i64 x, .int .i64 lo, .int .i64 hi] w fun e w' => e = .returned (.bool (inB x lo hi)) ∧ w = w' := by
  go_enter Try.func38, Try.ntmps38
  go_wp2
  all_goals (go_ret)
  all_goals (refine ⟨?_, rfl⟩; congr 2; simp [inB]; omega)
set_option maxRecDepth 100000 in
theorem c_eqDiagram (x r : Int) (A A' : Option Addr) (c c' n n' : Nat) (l : List Nd) (w : World) (hn : n = l.length) (hn' : n' = l.length) (hs : l.length ≤ 1048576) (hr : Rd w A (ndCells l)) (hr' : Rd w A' (ndCells l)) :
    Calls Try.prog 15 #[.agg #[.int .i64 x, .slice A n c, .int .i64 r], .agg #[.int .i64 x, .slice A' n' c', .int .i64 r]] w fun e w' => e = .returned (.bool true) ∧ Below w.heap.size w w' := by
  have HN := Lib.hid hn
  have HN' := Lib.hid hn'
  clear hn hn'
  go_enter Try.func15, Try.ntmps15
  go_wp2_with (first
    | (go_at_call 50
       refine (c_eqNodeS _ _ _ _ _ _ l _ HN.out HN'.out hs ((hr.alloc _).alloc _) ((hr'.alloc _).alloc _)).mono ?_
       rintro e w1 ⟨rfl, hb⟩
       have k1 : w1.cell? ⟨w.heap.size, 2, none⟩ = some (.int .i64 r) := cell_later hb (by go_simp)
       have k2 : w1.cell? ⟨w.heap.size + 1, 2, none⟩ = some (.int .i64 r) := cell_later hb (by go_simp)
       have B := below_chain (by (repeat (first | exact Below.refl _ _ | assumption | refine below_alloc ?_ _ | refine below_drewN ?_ _ | refine below_set ?_ _ (by simp; try omega) | refine Below.drew ?_)) : Below w.heap.size w _) hb
       clear hb)
    )
  all_goals go_ret
  all_goals (exact ⟨rfl, B⟩)
theorem grown_trans {w a b : World} {row : Option Nat} (h : w.grownBy a row) (h2 : a.grownBy b row) : w.grownBy b row :=
  ⟨h2.os.trans h.os, h2.tape.trans h.tape, h2.output.trans h.output, Nat.le_trans h.size h2.size, fun k hk hne => (h2.block k (Nat.lt_of_lt_of_le hk h.size) hne).trans (h.block k hk hne)⟩
def markL (k : Int) (n : Nat) : List Int := (List.range n).map fun (i : Nat) => k + (i : Int)
theorem markL_length (k : Int) (n : Nat) : (markL k n).length = n := by simp [markL]
theorem markL_get {k : Int} {n j : Nat} (h : j < n) : (markL k n)[j]? = some (k + j) := by simp [markL, h]
set_option maxRecDepth 100000 in
theorem c_markNodeS (A : Option Addr) (c n : Nat) (xs : List Value) (base : Nat) (k : Int) (w : World) (hk0 : 0 ≤ k) (hk : k + 3 * n ≤ 100000000) (ho : w.ownsRow base 57 3 (.slice A n c) n xs) :
    Calls Try.prog 53 #[.slice A n c, .int .i64 k] w fun e w' => e = .returned (.int .i64 (k + 3 * n)) ∧ w'.ownsRow base 57 3 (.slice A n c) n (ints (markL k (n * 3))) ∧ w.grownBy w' (Value.slice A n c).ownBlock := by
  obtain ⟨k, rfl⟩ : ∃ k' : Nat, k = k' := ⟨k.toNat, by omega⟩
  have hLZ := Lib.hid (show (ints (markL k (n * 3))).length = xs.length by rw [ho.1, ints_length, markL_length])
  have HL := Lib.hid ho.1
  go_enter Try.func53, Try.ntmps53
  go_wp2
  go_loopw [1, 5] (fun t i wr => ∃ j : Nat, j ≤ n ∧ i = .int .i64 j ∧ t = .int .i64 (k + 3 * j) ∧ wr.ownsRow base 57 3 (.slice A n c) n (mix (ints (markL k (n * 3))) xs (j * 3)) ∧ w.grownBy wr (Value.slice A n c).ownBlock) (fun _ i _ => n - (intOf i).toNat)
  case atStart => exact ⟨0, Nat.zero_le _, rfl, by simp, by rw [Nat.zero_mul, mix_zero]; exact ho, World.grownBy.refl _ _⟩
  case round =>
    obtain ⟨j, hj, rfl, rfl, ho1, hg⟩ := hrel
    clear ho
    by_cases hlt : j < n
    · obtain ⟨g, cap, hv, _⟩ := ho1.form (by omega)
      simp only [Value.slice.injEq, true_and] at hv
      obtain ⟨rfl, rfl⟩ := hv
      have f0 := ho1.frozenAt (j * 3)
      obtain ⟨o0, e0⟩ := own_cell ho1 (j := j * 3) (by omega)
      have f1 := ho1.frozenAt (j * 3 + 1)
      obtain ⟨o1, e1⟩ := own_cell ho1 (j := j * 3 + 1) (by omega)
      have f2 := ho1.frozenAt (j * 3 + 2)
      obtain ⟨o2, e2⟩ := own_cell ho1 (j := j * 3 + 2) (by omega)
      have HST := Lib.hid (((ho1.stored (j * 3) (.int .i64 (k + 3 * j))).1.stored (j * 3 + 1) (.int .i64 (k + 3 * j + 1))).1.stored (j * 3 + 2) (.int .i64 (k + 3 * j + 2))).1
      have HG := Lib.hid (grown_trans (grown_trans (grown_trans hg (ho1.stored (j * 3) (.int .i64 (k + 3 * j))).2) ((ho1.stored (j * 3) (.int .i64 (k + 3 * j))).1.stored (j * 3 + 1) (.int .i64 (k + 3 * j + 1))).2) (((ho1.stored (j * 3) (.int .i64 (k + 3 * j))).1.stored (j * 3 + 1) (.int .i64 (k + 3 * j + 1))).1.stored (j * 3 + 2) (.int .i64 (k + 3 * j + 2))).2)
      have HM := Lib.hid (mix_set3 hLZ.out (m := j * 3) (u0 := .int .i64 (k + 3 * j)) (u1 := .int .i64 (k + 3 * j + 1)) (u2 := .int .i64 (k + 3 * j + 2))
        (by simp [ints, markL_get (show j * 3 < n * 3 by omega)]; omega)
        (by simp [ints, markL_get (show j * 3 + 1 < n * 3 by omega)]; omega)
        (by simp [ints, markL_get (show j * 3 + 2 < n * 3 by omega)]; omega))
      clear ho1 hg
      go_wp2
      go_roundw
      case rel => exact ⟨j + 1, by omega, by go_num, by go_num, by rw [show (j + 1) * 3 = j * 3 + 3 from by omega, ← HM.out]; exact HST.out, HG.out⟩
      case measure => simp [intOf]; omega
    · obtain rfl : j = n := by omega
      have HG := Lib.hid hg
      have HO := Lib.hid ho1
      clear ho1 hg
      go_wp2
      go_ret
      refine ⟨rfl, ?_, HG.out⟩
      have := HO.out
      rwa [mix_all (by rw [hLZ.out, HL.out]; exact Nat.le_refl _) (by rw [HL.out]; exact Nat.le_refl _)] at this
set_option maxRecDepth 100000 in
theorem c_heldNodeS (A : Option Addr) (c n : Nat) (k : Int) (w : World) (hk0 : 0 ≤ k) (hk : k + 3 * n ≤ 100000000) (hr : Rd w A (ints (markL k (n * 3)))) :
    Calls Try.prog 57 #[.slice A n c, .int .i64 k] w fun e w' => e = .returned (.int .i64 (k + 3 * n)) ∧ Below w.heap.size w w' := by
  obtain ⟨k, rfl⟩ : ∃ k' : Nat, k = k' := ⟨k.toNat, by omega⟩
  go_enter Try.func57, Try.ntmps57
  go_wp2
  go_loop [1, 5] (fun t i => ∃ j : Nat, j ≤ n ∧ i = .int .i64 j ∧ t = .int .i64 (k + 3 * j)) (fun _ i => n - (intOf i).toNat)
  case atStart => exact ⟨0, Nat.zero_le _, rfl, by simp⟩
  case round =>
    obtain ⟨j, hj, rfl, rfl⟩ := hrel
    by_cases hlt : j < n
    · obtain ⟨b, off, rfl, _, hc⟩ := hr.some_ (by intro e; have := congrArg List.length e; rw [ints_length, markL_length] at this; simp at this; omega)
      have g0 : w.cell? ⟨b, off + j * 3, none⟩ = some (.int .i64 (k + 3 * j)) := hc (j * 3) (.int .i64 (k + 3 * j)) (by simp [ints, markL_get (show j * 3 < n * 3 by omega)]; omega)
      have g1 : w.cell? ⟨b, off + j * 3 + 1, none⟩ = some (.int .i64 (k + 3 * j + 1)) := hc (j * 3 + 1) (.int .i64 (k + 3 * j + 1)) (by simp [ints, markL_get (show j * 3 + 1 < n * 3 by omega)]; omega)
      have g2 : w.cell? ⟨b, off + j * 3 + 2, none⟩ = some (.int .i64 (k + 3 * j + 2)) := hc (j * 3 + 2) (.int .i64 (k + 3 * j + 2)) (by simp [ints, markL_get (show j * 3 + 2 < n * 3 by omega)]; omega)
      clear hr hc
      go_wp2
      go_round
      case rel => exact ⟨j + 1, by omega, by go_num, by go_num⟩
      case measure => simp [intOf]; omega
    · obtain rfl : j = n := by omega
      go_wp2
      go_ret
      exact ⟨rfl, Below.refl _ _⟩
set_option maxRecDepth 100000 in
theorem c_markDiagram (x r : Int) (A : Option Addr) (c n : Nat) (xs : List Value) (base : Nat) (k : Int) (w : World) (hk0 : 0 ≤ k) (hk : k + 3 * n ≤ 100000000) (ho : w.ownsRow base 57 3 (.slice A n c) n xs) :
    Calls Try.prog 21 #[.agg #[.int .i64 x, .slice A n c, .int .i64 r], .int .i64 k] w fun e w' => e = .returned (.int .i64 (k + 3 * n)) ∧ w'.ownsRow base 57 3 (.slice A n c) n (ints (markL k (n * 3))) ∧ w.grownBy w' (Value.slice A n c).ownBlock := by
  have HO := Lib.hid (own_below ho (below_alloc (Below.refl _ _) (.cells #[.int .i64 x, .slice A n c, .int .i64 r] 29)))
  clear ho
  go_enter Try.func21, Try.ntmps21
  go_wp2_with (first
    | (go_at_call 53
       refine (c_markNodeS _ _ _ _ _ _ _ hk0 hk HO.out).mono ?_
       rintro e w1 ⟨rfl, ho1, hg⟩
       have HO1 := Lib.hid ho1
       have HG := Lib.hid (grown_trans (grown_of_below (below_alloc (Below.refl _ _) _) _) hg)
       clear hg ho1)
    )
  go_ret
  exact ⟨rfl, HO1.out, HG.out⟩
set_option maxRecDepth 100000 in
theorem c_heldDiagram (x r : Int) (A : Option Addr) (c n : Nat) (k : Int) (w : World) (hk0 : 0 ≤ k) (hk : k + 3 * n ≤ 100000000) (hr : Rd w A (ints (markL k (n * 3)))) :
    Calls Try.prog 26 #[.agg #[.int .i64 x, .slice A n c, .int .i64 r], .int .i64 k] w fun e w' => e = .returned (.int .i64 (k + 3 * n)) ∧ Below w.heap.size w w' := by
  go_enter Try.func26, Try.ntmps26
  go_wp2_with (first
    | (go_at_call 57
       refine (c_heldNodeS _ _ _ _ _ hk0 hk (hr.alloc _)).mono ?_
       rintro e w1 ⟨rfl, hb⟩
       first | replace B := below_chain B hb | (have B : Below w.heap.size w w1 := below_chain (by (repeat (first | exact Below.refl _ _ | assumption | refine below_alloc ?_ _ | refine below_drewN ?_ _ | refine below_set ?_ _ (by simp; try omega) | refine Below.drew ?_))) hb)
       clear hb)
    )
  go_ret
  exact ⟨rfl, by (repeat (first | exact Below.refl _ _ | assumption | refine below_alloc ?_ _ | refine below_drewN ?_ _ | refine below_set ?_ _ (by simp; try omega) | refine Below.drew ?_))⟩
theorem cell_mark {w w' : World} {row : Option Nat} {a : Addr} {v : Value} (h : w.cell? a = some v) (hg : w.grownBy w' row) (hne : ∀ q, row = some q → q ≠ a.block) : w'.cell? a = some v :=
  (hg.cell_far a (World.block_lt_of_cell? w a h) (fun h' => hne _ h'.symm rfl)).trans h
theorem kept_far {w w' : World} {row : Option Nat} {base : Nat} {e : TypeId} {size n : Nat} {v : Value} {xs : List Value} (h : w.ownsRow base e size v n xs) (hg : w.grownBy w' row) (hlt : ∀ q, row = some q → q < base) : w'.ownsRow base e size v n xs := by
  refine h.kept hg ?_
  rcases hv : v.ownBlock with _ | q
  · exact .inl rfl
  · refine .inr fun h' => ?_
    have := (h.lt q hv).1
    have := hlt q h'.symm
    omega
end Go.Proofs.Ytndihacmlkgkbaa
