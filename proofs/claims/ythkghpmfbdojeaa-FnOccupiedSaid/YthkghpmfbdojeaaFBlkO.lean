/- Contracts of the laws' own helpers and of DrawDefaultBlocks; the walk of the law FnBlocks. -/
import Derived.Test.YthkghpmfbdojeaaFBlkP
import Derived.Test.YthkghpmfbdojeaaOpenBO
namespace Go.Proofs.Ythkghpmfbdojeaa
open Go.RowKit

theorem c_big (A : Option Addr) (c n : Nat) (w : World) : Calls Try.prog 4 #[.slice A n c] w fun e w' => e = .returned (.bool (decide (4096 < n))) ∧ w = w' := by
  go_enter Try.func4, Try.ntmps4
  go_wp2
  go_ret
  exact ⟨ret_bool (by rw [decide_eq_decide]; omega), rfl⟩
set_option maxRecDepth 100000 in
theorem c_likeInts (A A' : Option Addr) (c c' n n' : Nat) (zs : List Int) (w : World) (hn : n = zs.length) (hn' : n' = zs.length) (hs : zs.length ≤ 1048576) (hr : Rd w A (ints zs)) (hr' : Rd w A' (ints zs)) :
    Calls Try.prog 8 #[.slice A n c, .slice A' n' c'] w fun e w' => e = .returned (.bool true) ∧ Below w.heap.size w w' := by
  obtain rfl : n = n' := by omega
  have HN := Lib.hid hn
  have hs2 : n ≤ 1048576 := by omega
  clear hn hn' hs
  go_enter Try.func8, Try.ntmps8
  go_wp2
  go_loopw [5] (fun v wr => ∃ k : Nat, k ≤ n ∧ v = .int .i64 k ∧ Below w.heap.size w wr) (fun v _ => n - (intOf v).toNat)
  case atStart => exact ⟨0, Nat.zero_le _, rfl, by (repeat (first | exact Below.refl _ _ | assumption | refine below_alloc ?_ _ | refine below_drewN ?_ _ | refine below_set ?_ _ (by simp; try omega) | refine Below.drew ?_))⟩
  case round =>
    obtain ⟨k, hk, rfl, hb⟩ := hrel
    by_cases hlt : k < n
    · obtain ⟨z, hz⟩ : ∃ z, zs[k]? = some z := ⟨_, List.getElem?_eq_getElem (by have := HN.out; omega)⟩
      obtain ⟨b1, o1, rfl, _, g1⟩ := (hr.below hb).int hz
      obtain ⟨b2, o2, rfl, _, g2⟩ := (hr'.below hb).int hz
      have hk0 : (0 : Int) ≤ (k : Int) := by omega
      have hk1 : (k : Int) < n := by omega
      have HB := Lib.hid hb
      clear hz hr hr' hb
      go_wp2_with (fail)
      go_region_held3 (fun w' => w'.cell? ⟨b1, o1 + k, none⟩ = some (.int .i64 z) ∧ w'.cell? ⟨b2, o2 + k, none⟩ = some (.int .i64 z)) (exact ⟨g1, g2⟩) (fail)
      go_wp2_with (fail)
      go_roundw
      case rel => exact ⟨k + 1, by omega, by go_num, HB.out.drew⟩
      case measure => simp [intOf]; omega
    · obtain rfl : k = n := by omega
      go_wp2
      go_ret
      exact ⟨rfl, hb⟩
def SomeLayB (w : World) (e : Ending) (w' : World) : Prop := ∃ A c l, e = .returned (.agg #[.slice A l.length c]) ∧ l.length ≤ 100 ∧ w'.ownsRow w.heap.size 61 7 (.slice A l.length c) l.length (segCells l) ∧ Below w.heap.size w w'
theorem bytes_later {w w' : World} {A : Option Addr} {n : Nat} (h : Bytes w w.heap.size A n) (hb : Below w.heap.size w w') : Bytes w' w'.heap.size A n := by
  intro j hj
  obtain ⟨b, off, u, e, hb1, hu, hc⟩ := h j hj
  exact ⟨b, off, u, e, Nat.lt_of_lt_of_le hb1 hb.size, hu, cell_later hb hc⟩
end Go.Proofs.Ythkghpmfbdojeaa
