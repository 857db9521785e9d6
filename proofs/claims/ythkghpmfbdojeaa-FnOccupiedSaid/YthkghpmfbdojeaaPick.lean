/- Contracts of l01Pick, l01Abs at any number, l03Total at any layout, l03DrawInterval. Condition: lists that are not empty. -/
import Derived.Test.YthkghpmfbdojeaaSrcF
namespace Go.Proofs.Ythkghpmfbdojeaa
open Go.RowKit

/-- Some number, and the source goes on. -/
def SomeI (B : Nat) (w : World) (e : Ending) (w' : World) : Prop := ∃ z : Int, e = .returned (.int .i64 z) ∧ Src w' B ∧ w.grownBy w' (some B)
def SomeI2 (w : World) (e : Ending) (w' : World) : Prop := ∃ z : Int, e = .returned (.int .i64 z) ∧ -9223372036854775808 ≤ z ∧ z ≤ 9223372036854775807 ∧ Below w.heap.size w w'
set_option maxRecDepth 100000 in
theorem c_Pick (B g c n : Nat) (zs : List Int) (w : World) (h : Src w B) (hg : g ≠ B) (hn : n = zs.length) (hn0 : 0 < n) (hn1 : n ≤ 100) (hr : Rd w (some ⟨g, 0, none⟩) (ints zs)) :
    Calls Try.prog 34 #[.pointer (some ⟨B, 0, none⟩), .slice (some ⟨g, 0, none⟩) n c] w (SomeI B w) := by
  have HN := Lib.hid hn
  clear hn
  go_enter Try.func34, Try.ntmps34
  go_wp2_with (fail)
  refine (c_Next B n w h (by omega)).mono ?_
  rintro e w1 ⟨r, rfl, hr0, hr1, hr2, hs, hgr⟩
  have hrn : r < n := by
    rcases Int.lt_or_le 1 n with h1 | h1
    · exact hr1 h1
    · have := hr2 h1; omega
  obtain ⟨k, rfl⟩ : ∃ k : Nat, r = k := ⟨r.toNat, by omega⟩
  obtain ⟨z, hz⟩ : ∃ z, zs[k]? = some z := ⟨_, List.getElem?_eq_getElem (by have := HN.out; omega)⟩
  obtain ⟨b, off, e, hb, hc⟩ := hr.int hz
  simp only [Option.some.injEq, Addr.mk.injEq, and_true] at e
  obtain ⟨rfl, rfl⟩ := e
  have hc1 : w1.cell? ⟨g, 0 + k, none⟩ = some (.int .i64 z) := cell_mark hc hgr (fun q hq => by simp at hq; simp; omega)
  have HS := Lib.hid hs
  have HG := Lib.hid hgr
  clear hr hz hc hr1 hr2 hs hgr h
  simp only [Nat.zero_add] at hc1
  go_wp2_with (fail)
  go_ret
  exact ⟨z, rfl, HS.out, HG.out⟩
set_option maxRecDepth 100000 in
theorem c_TotalAny (A : Option Addr) (c n : Nat) (l : List Seg) (w : World) (hn : n = l.length) (hs : n ≤ 1048576) (hr : Rd w A (segCells l)) :
    Calls Try.prog 35 #[.agg #[.slice A n c]] w (SomeI2 w) := by
  have HN := Lib.hid hn
  clear hn
  go_enter Try.func35, Try.ntmps35
  go_wp2
  go_loop [3, 4] (fun t i => ∃ (k : Nat) (z : Int), k ≤ n ∧ i = .int .i64 k ∧ t = .int .i64 z ∧ -9223372036854775808 ≤ z ∧ z ≤ 9223372036854775807) (fun _ i => n - (intOf i).toNat)
  case atStart => exact ⟨0, 0, Nat.zero_le _, rfl, rfl, by omega, by omega⟩
  case round =>
    obtain ⟨k, z, hk, rfl, rfl, hz0, hz1⟩ := hrel
    have HW : Hid (∀ n, -9223372036854775808 ≤ wrap64 n ∧ wrap64 n ≤ 9223372036854775807) := Lib.hid fun n => by unfold wrap64; omega
    by_cases hlt : k < n
    · obtain ⟨s, hz⟩ : ∃ z, l[k]? = some z := ⟨_, List.getElem?_eq_getElem (by have := HN.out; omega)⟩
      obtain ⟨b, off, rfl, _, g0, g1, g2, g3, g4, g5, g6⟩ := hr.seg hz
      clear hz hr
      go_wp2
      go_round
      case rel => exact ⟨k + 1, _, by omega, by go_num, rfl, (HW.out _).1, (HW.out _).2⟩
      case measure => simp [intOf]; omega
    · have : k = n := by omega
      subst this
      go_wp2
      go_ret
      exact ⟨z, rfl, hz0, hz1, by (repeat (first | exact Below.refl _ _ | assumption | refine below_alloc ?_ _ | refine below_drewN ?_ _ | refine below_set ?_ _ (by simp; try omega) | refine Below.drew ?_))⟩
end Go.Proofs.Ythkghpmfbdojeaa
