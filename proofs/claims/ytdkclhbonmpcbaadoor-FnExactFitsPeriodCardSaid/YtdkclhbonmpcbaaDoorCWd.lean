/- Words and names on the reference's side: some answer, and nothing changes. Condition: the length. -/
import Derived.Test.YtdkclhbonmpcbaaDoorCTo
namespace Go.Proofs.YtdkclhbonmpcbaaDoor
open Go.RowKit

def inB (x lo hi : Int) : Bool := decide (lo ≤ x ∧ x ≤ hi)
theorem c_within (x lo hi : Int) (w : World) : Calls Tryd.prog 23 #[.int .i64 x, .int .i64 lo, .int .i64 hi] w fun e w' => e = .returned (.bool (inB x lo hi)) ∧ w = w' := by
  go_enter Tryd.func23, Tryd.ntmps23
  go_wp2
  all_goals (go_ret)
  all_goals (refine ⟨?_, rfl⟩; congr 2; simp [inB]; omega)
theorem c_l01In (x lo hi : Int) (w : World) : Calls Tryd.prog 18 #[.int .i64 x, .int .i64 lo, .int .i64 hi] w fun e w' => e = .returned (.bool (inB x lo hi)) ∧ w = w' := by
  go_enter Tryd.func18, Tryd.ntmps18
  go_wp2
  all_goals (go_ret)
  all_goals (refine ⟨?_, rfl⟩; congr 2; simp [inB]; omega)
set_option maxRecDepth 100000 in
def SomeB (w : World) (e : Ending) (w' : World) : Prop := ∃ b, e = .returned (.bool b) ∧ Below w.heap.size w w'
set_option maxRecDepth 100000 in
theorem c_l12Letter (u : Int) (w : World) : Calls Tryd.prog 63 #[.int .u8 u] w (SomeB w) := by
  go_enter Tryd.func63, Tryd.ntmps63
  go_wp2
  all_goals go_ret
  all_goals exact ⟨_, rfl, Below.refl _ _⟩
set_option maxRecDepth 100000 in
theorem c_l12Digit (u : Int) (w : World) : Calls Tryd.prog 68 #[.int .u8 u] w (SomeB w) := by
  go_enter Tryd.func68, Tryd.ntmps68
  go_wp2
  all_goals go_ret
  all_goals exact ⟨_, rfl, Below.refl _ _⟩
set_option maxRecDepth 100000 in
theorem c_l12Inner (u : Int) (w : World) : Calls Tryd.prog 62 #[.int .u8 u] w (SomeB w) := by
  go_enter Tryd.func62, Tryd.ntmps62
  go_wp2_with (fail)
  refine (c_l12Letter u _).mono ?_
  rintro e w1 ⟨b1, rfl, hb⟩
  have HB := Lib.hid hb
  clear hb
  cases b1
  · go_wp2_with (fail)
    refine (c_l12Digit u _).mono ?_
    rintro e w2 ⟨b2, rfl, hb⟩
    have HB2 := Lib.hid (below_chain HB.out hb)
    clear hb
    cases b2
    · go_wp2_with (fail)
      go_ret
      exact ⟨_, rfl, HB2.out⟩
    · go_wp2_with (fail)
      go_ret
      exact ⟨_, rfl, HB2.out⟩
  · go_wp2_with (fail)
    go_ret
    exact ⟨_, rfl, HB.out⟩
set_option maxRecDepth 100000 in
theorem c_l12Word (nm : ByteArray) (w : World) (hn : nm.size ≤ 1048576) : Calls Tryd.prog 58 #[.string nm] w (SomeB w) := by
  go_enter Tryd.func58, Tryd.ntmps58
  go_wp2_with (fail)
  go_loopw [3] (fun i wr => ∃ k : Nat, k ≤ nm.size ∧ i = .int .i64 k ∧ Hid (Below w.heap.size w wr)) (fun i _ => nm.size - (intOf i).toNat)
  case atStart => exact ⟨0, Nat.zero_le _, rfl, Lib.hid (Below.refl _ _)⟩
  case round =>
    obtain ⟨k, hk, rfl, hb⟩ := hrel
    by_cases hlt : k < nm.size
    · have hk0 : (0 : Int) ≤ (k : Int) := by omega
      have hk1 : (k : Int) < nm.size := by omega
      go_wp2_with (fail)
      refine (c_l12Inner _ _).mono ?_
      rintro e w1 ⟨b1, rfl, hb1⟩
      have HB := Lib.hid (below_chain hb.out hb1)
      clear hb hb1
      cases b1
      · go_wp2_with (fail)
        go_ret
        exact ⟨_, rfl, HB.out⟩
      · go_wp2_with (fail)
        go_roundw
        case rel => exact ⟨k + 1, by omega, by go_num, HB⟩
        case measure => simp [intOf]; omega
    · obtain rfl : k = nm.size := by omega
      go_wp2_with (fail)
      refine (c_l01In _ _ _ _).mono ?_
      rintro e w1 ⟨rfl, rfl⟩
      rcases hi : inB (nm.size : Int) 1 12 with _ | _
      · go_wp2_with (fail)
        go_ret
        exact ⟨_, rfl, hb.out⟩
      · have hi1 := of_decide_eq_true hi
        have h0 : 0 < nm.size := by omega
        have h0i : (0 : Int) < nm.size := by omega
        clear hi
        go_wp2_with (fail)
        refine (c_l12Letter _ _).mono ?_
        rintro e w1 ⟨b1, rfl, hb1⟩
        have HB := Lib.hid (below_chain hb.out hb1)
        clear hb hb1
        go_wp2_with (fail)
        go_ret
        exact ⟨_, rfl, HB.out⟩
/-- The slice holds strings, in a block of its own. -/
def Strs (w : World) (b n : Nat) : Prop := ∀ k, k < n → ∃ s : ByteArray, w.cell? ⟨b, k, none⟩ = some (.string s)
theorem Strs.below {w w' : World} {b n : Nat} (h : Strs w b n) (hb : Below w.heap.size w w') : Strs w' b n := fun k hk => let ⟨s, hs⟩ := h k hk; ⟨s, cell_later hb hs⟩
set_option maxRecDepth 100000 in
theorem c_l12Keywords (w : World) : Calls Tryd.prog 64 #[] w fun e w' => ∃ b, e = .returned (.slice (some ⟨b, 0, none⟩) 17 17) ∧ Strs w' b 17 ∧ Below w.heap.size w w' := by
  go_enter Tryd.func64, Tryd.ntmps64
  go_wp2_with (fail)
  go_ret
  refine ⟨_, rfl, fun k hk => ?_, by (repeat (first | exact Below.refl _ _ | assumption | refine below_alloc ?_ _ | refine below_drewN ?_ _ | refine below_set ?_ _ (by simp; try omega) | refine Below.drew ?_))⟩
  match k, hk with
  | 0, _ => exact ⟨_, by go_simp; rfl⟩
  | 1, _ => exact ⟨_, by go_simp; rfl⟩
  | 2, _ => exact ⟨_, by go_simp; rfl⟩
  | 3, _ => exact ⟨_, by go_simp; rfl⟩
  | 4, _ => exact ⟨_, by go_simp; rfl⟩
  | 5, _ => exact ⟨_, by go_simp; rfl⟩
  | 6, _ => exact ⟨_, by go_simp; rfl⟩
  | 7, _ => exact ⟨_, by go_simp; rfl⟩
  | 8, _ => exact ⟨_, by go_simp; rfl⟩
  | 9, _ => exact ⟨_, by go_simp; rfl⟩
  | 10, _ => exact ⟨_, by go_simp; rfl⟩
  | 11, _ => exact ⟨_, by go_simp; rfl⟩
  | 12, _ => exact ⟨_, by go_simp; rfl⟩
  | 13, _ => exact ⟨_, by go_simp; rfl⟩
  | 14, _ => exact ⟨_, by go_simp; rfl⟩
  | 15, _ => exact ⟨_, by go_simp; rfl⟩
  | 16, _ => exact ⟨_, by go_simp; rfl⟩
  | k + 17, h => omega
set_option maxRecDepth 100000 in
theorem c_l12Keyword (nm : ByteArray) (w : World) : Calls Tryd.prog 59 #[.string nm] w fun e w' => ∃ z : Int, e = .returned (.int .i64 z) ∧ Below w.heap.size w w' := by
  go_enter Tryd.func59, Tryd.ntmps59
  go_wp2_with (fail)
  refine (c_l12Keywords _).mono ?_
  rintro e w1 ⟨b, rfl, hs, hb⟩
  have HS := Lib.hid hs
  have HB := Lib.hid hb
  clear hs hb
  go_wp2_with (fail)
  go_loopw [4] (fun i wr => ∃ k : Nat, k ≤ 17 ∧ i = .int .i64 k ∧ Hid (Below w1.heap.size w1 wr)) (fun i _ => 17 - (intOf i).toNat)
  case atStart => exact ⟨0, Nat.zero_le _, rfl, Lib.hid (Below.refl _ _)⟩
  case round =>
    obtain ⟨k, hk, rfl, hb⟩ := hrel
    by_cases hlt : k < 17
    · obtain ⟨s, hc⟩ := (HS.out.below hb.out) k hlt
      have hk0 : (0 : Int) ≤ (k : Int) := by omega
      have hk1 : (k : Int) < 17 := by omega
      rcases hq : (s.toList == nm.toList) with _ | _
      · go_wp2_with (fail)
        go_roundw
        case rel => exact ⟨k + 1, by omega, by go_num, hb⟩
        case measure => simp [intOf]; omega
      · go_wp2_with (fail)
        go_ret
        exact ⟨_, rfl, below_chain HB.out hb.out⟩
    · obtain rfl : k = 17 := by omega
      go_wp2_with (fail)
      go_ret
      exact ⟨_, rfl, below_chain HB.out hb.out⟩
set_option maxRecDepth 100000 in
theorem c_l13Name (nm : ByteArray) (w : World) (hn : nm.size ≤ 1048576) : Calls Tryd.prog 52 #[.string nm] w (SomeB w) := by
  go_enter Tryd.func52, Tryd.ntmps52
  go_wp2_with (fail)
  refine (c_l12Word nm _ hn).mono ?_
  rintro e w1 ⟨b1, rfl, hb⟩
  have HB := Lib.hid hb
  clear hb
  cases b1
  · go_wp2_with (fail)
    go_ret
    exact ⟨_, rfl, HB.out⟩
  · go_wp2_with (fail)
    refine (c_l12Keyword nm _).mono ?_
    rintro e w2 ⟨z, rfl, hb⟩
    have HB2 := Lib.hid (below_chain HB.out hb)
    clear hb
    go_wp2_with (fail)
    go_ret
    exact ⟨_, rfl, HB2.out⟩
end Go.Proofs.YtdkclhbonmpcbaaDoor
