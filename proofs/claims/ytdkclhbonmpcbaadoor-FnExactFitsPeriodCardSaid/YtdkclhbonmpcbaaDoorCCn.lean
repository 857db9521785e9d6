/- slices.Index and slices.Contains at strings: some answer. Condition: the strings lie there. -/
import Derived.Test.YtdkclhbonmpcbaaDoorCMn
namespace Go.Proofs.YtdkclhbonmpcbaaDoor
open Go.RowKit

set_option maxRecDepth 100000 in
theorem c_IndexS (b n c : Nat) (nm : ByteArray) (w : World) (hn : n ≤ 1048576) (hs : Strs w b n) : Calls Tryd.prog 70 #[.slice (some ⟨b, 0, none⟩) n c, .string nm] w fun e w' => ∃ z : Int, e = .returned (.int .i64 z) ∧ Below w.heap.size w w' := by
  have HS := Lib.hid hs
  clear hs
  go_enter Tryd.func70, Tryd.ntmps70
  go_wp2_with (fail)
  go_loopw [5, 8] (fun _ i wr => ∃ k : Nat, k ≤ n ∧ i = .int .i64 k ∧ Hid (Below w.heap.size w wr)) (fun _ i _ => n - (intOf i).toNat)
  case atStart => exact ⟨0, Nat.zero_le _, rfl, Lib.hid (Below.refl _ _)⟩
  case round =>
    obtain ⟨k, hk, rfl, hb⟩ := hrel
    by_cases hlt : k < n
    · obtain ⟨s, hc⟩ := (HS.out.below hb.out) k hlt
      have hk0 : (0 : Int) ≤ (k : Int) := by omega
      have hk1 : (k : Int) < n := by omega
      rcases hq : (nm.toList == s.toList) with _ | _
      · go_wp2_with (fail)
        go_roundw
        case rel => exact ⟨k + 1, by omega, by go_num, hb⟩
        case measure => simp [intOf]; omega
      · go_wp2_with (fail)
        go_ret
        exact ⟨_, rfl, hb.out⟩
    · obtain rfl : k = n := by omega
      go_wp2_with (fail)
      go_ret
      exact ⟨_, rfl, hb.out⟩
set_option maxRecDepth 100000 in
theorem c_ContainsS (b n c : Nat) (nm : ByteArray) (w : World) (hn : n ≤ 1048576) (hs : Strs w b n) : Calls Tryd.prog 67 #[.slice (some ⟨b, 0, none⟩) n c, .string nm] w (SomeB w) := by
  go_enter Tryd.func67, Tryd.ntmps67
  go_wp2_with (fail)
  refine (c_IndexS b n c nm _ hn hs).mono ?_
  rintro e w1 ⟨z, rfl, hb⟩
  have HB := Lib.hid hb
  clear hb
  go_wp2_with (fail)
  go_ret
  exact ⟨_, rfl, HB.out⟩
end Go.Proofs.YtdkclhbonmpcbaaDoor
