/- Contracts of the laws' copies and comparisons of lists of integers (the seats without layouts). No condition but the lists' sizes. -/
import Derived.Test.YtjpecddhahedpaaGreatDoorPush
namespace Go.Proofs.YtjpecddhahedpaaGreatDoor
open Go.RowKit

theorem info_int64 : (Tryz.prog.info? 2).map (fun i => (i.zero, i.size, i.bytes)) = some (some (.int .i64 0), 1, 8) := by kernel_rfl
/-- What is handed back is a new list of the call's own that holds zs. -/
def RetInts (zs : List Int) (w : World) (e : Ending) (w' : World) : Prop :=
  ∃ A c, e = .returned (.slice A zs.length c) ∧ w'.ownsRow w.heap.size 2 1 (.slice A zs.length c) zs.length (ints zs) ∧ Below w.heap.size w w'
def szI (left : Int) (n : Nat) : Int := if left - n < 0 then -1 else left - n
set_option maxRecDepth 100000 in
theorem c_eqInt64S (A A' : Option Addr) (c c' n n' : Nat) (zs : List Int) (w : World) (hn : n = zs.length) (hn' : n' = zs.length) (hs : zs.length ≤ 9223372036854775807) (hr : Rd w A (ints zs)) (hr' : Rd w A' (ints zs)) :
    Calls Tryz.prog 10 #[.slice A n c, .slice A' n' c'] w fun e w' => e = .returned (.bool true) ∧ Below w.heap.size w w' := by
  subst hn
  subst hn'
  go_enter Tryz.func10, Tryz.ntmps10
  go_wp2
  go_loopw [5] (fun i wr => ∃ k : Nat, k ≤ zs.length ∧ i = .int .i64 k ∧ Below w.heap.size w wr) (fun i _ => zs.length - (intOf i).toNat)
  case atStart => exact ⟨0, Nat.zero_le _, rfl, Below.refl _ _⟩
  case round =>
    obtain ⟨k, hk, rfl, hb⟩ := hrel
    by_cases hlt : k < zs.length
    · obtain ⟨z, hz⟩ : ∃ z, zs[k]? = some z := ⟨_, List.getElem?_eq_getElem hlt⟩
      obtain ⟨b, off, rfl, _, g0⟩ := (hr.below hb).int hz
      obtain ⟨b', off', rfl, _, g1⟩ := (hr'.below hb).int hz
      have HB := Lib.hid hb
      clear hz hb hr hr'
      go_wp2
      refine wp_region_quiet_lit (by kernel_rfl) (by kernel_rfl) ?_
      (repeat (any_goals (first | go_big_quiet_step (fail) | quiet_step (fail) | (refine wpQuiet_step (fun K hK => ?_); go_simp; split <;> (refine hK _ ?_; clear hK K)))))
      all_goals (refine wpQuiet_nil ?_; intro _ hw'; obtain ⟨nq, hw''⟩ := hw'; subst hw'')
      go_wp2
      go_roundw
      case rel => exact ⟨k + 1, by omega, by go_num, below_drewN HB.out _⟩
      case measure => simp [intOf]; omega
    · have : k = zs.length := by omega
      subst this
      go_wp2
      go_ret
      exact ⟨rfl, hb⟩
end Go.Proofs.YtjpecddhahedpaaGreatDoor
