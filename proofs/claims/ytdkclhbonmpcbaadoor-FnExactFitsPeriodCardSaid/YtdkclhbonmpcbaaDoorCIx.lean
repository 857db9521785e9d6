/- Words and names on the program's side: IndexByte, run, isWord, IsKeyword, isName. Condition: the length; the keywords lie there. -/
import Derived.Test.YtdkclhbonmpcbaaDoorCCn
import Derived.Lib.Bytealg
namespace Go.Proofs.YtdkclhbonmpcbaaDoor
open Go.RowKit

set_option maxRecDepth 100000 in
theorem c_sliteIndexByte (s : ByteArray) (c : Int) (w : World) : Calls Tryd.prog 69 #[.string s, .int .u8 c] w fun e w' => e = .returned (.int .i64 (Lib.indexByte s.data.toList c.toNat.toUInt8)) ∧ w = w' := by
  go_enter Tryd.func69, Tryd.ntmps69
  go_wp2_with (fail)
  rw [run_callFunc_extern Tryd.func71 (by kernel_rfl) (by kernel_rfl) (by kernel_rfl) (e := Extern.BytealgIndexByte.indexByte) (by kernel_rfl), Lib.run_indexByteString]
  simp only [Result.andThen]
  rw [Oper.upon_value]
  go_wp2
  go_ret
  exact ⟨rfl, rfl⟩
set_option maxRecDepth 100000 in
theorem c_IndexByte (s : ByteArray) (c : Int) (w : World) : Calls Tryd.prog 65 #[.string s, .int .u8 c] w fun e w' => e = .returned (.int .i64 (Lib.indexByte s.data.toList c.toNat.toUInt8)) ∧ w = w' := by
  go_enter Tryd.func65, Tryd.ntmps65
  go_wp2_with (first
    | (go_at_call 69
       refine (c_sliteIndexByte _ _ _).mono ?_
       rintro e w' ⟨rfl, rfl⟩)
    )
  go_ret
  exact ⟨rfl, rfl⟩
set_option maxRecDepth 100000 in
theorem c_run (nm bs : ByteArray) (w : World) (hn : nm.size ≤ 1048576) : Calls Tryd.prog 66 #[.string nm, .int .i64 0, .string bs] w fun e w' => ∃ z : Int, e = .returned (.int .i64 z) ∧ Below w.heap.size w w' := by
  go_enter Tryd.func66, Tryd.ntmps66
  go_wp2_with (fail)
  go_loopw [7] (fun i wr => ∃ k : Nat, k ≤ nm.size ∧ i = .int .i64 k ∧ Hid (Below w.heap.size w wr)) (fun i _ => nm.size - (intOf i).toNat)
  case atStart => exact ⟨0, Nat.zero_le _, rfl, Lib.hid (Below.refl _ _)⟩
  case round =>
    obtain ⟨k, hk, rfl, hb⟩ := hrel
    by_cases hlt : k < nm.size
    · have hk0 : (0 : Int) ≤ (k : Int) := by omega
      have hk1 : (k : Int) < nm.size := by omega
      go_wp2_with (first
        | (go_at_call 65
           refine (c_IndexByte _ _ _).mono ?_
           rintro e w' ⟨rfl, rfl⟩)
        )
      · go_roundw
        case rel => exact ⟨k + 1, by omega, by go_num, hb⟩
        case measure => simp [intOf]; omega
      · go_ret
        exact ⟨_, rfl, hb.out⟩
    · obtain rfl : k = nm.size := by omega
      go_wp2_with (fail)
      go_ret
      exact ⟨_, rfl, hb.out⟩
set_option maxHeartbeats 1000000 in
set_option maxRecDepth 100000 in
theorem c_isWord (nm : ByteArray) (w : World) (hn : nm.size ≤ 1048576) : Calls Tryd.prog 60 #[.string nm] w (SomeB w) := by
  rcases hi : inB (nm.size : Int) 1 12 with _ | _
  · skip
    go_enter Tryd.func60, Tryd.ntmps60
    go_wp2_with (first
      | (go_at_call 23
         refine (c_within _ _ _ _).mono ?_
         rintro e w' ⟨rfl, rfl⟩)
      )
    go_ret
    exact ⟨_, rfl, Below.refl _ _⟩
  · have hi1 := of_decide_eq_true hi
    have h0 : 0 < nm.size := by omega
    have h0i : (0 : Int) < nm.size := by omega
    clear hi1
    go_enter Tryd.func60, Tryd.ntmps60
    go_wp2_with (first
      | (go_at_call 23
         refine (c_within _ _ _ _).mono ?_
         rintro e w' ⟨rfl, rfl⟩)
      | (go_at_call 65
         refine (c_IndexByte _ _ _).mono ?_
         rintro e w' ⟨rfl, rfl⟩)
      )
    · refine (c_run nm _ _ hn).mono ?_
      rintro e w1 ⟨z, rfl, hb⟩
      have HB := Lib.hid hb
      clear hb
      go_wp2_with (fail)
      go_ret
      exact ⟨_, rfl, HB.out⟩
    · go_ret
      exact ⟨_, rfl, Below.refl _ _⟩
set_option maxRecDepth 100000 in
theorem c_IsKeyword (nm : ByteArray) (w : World) (hk : Strs w 0 17) : Calls Tryd.prog 61 #[.string nm] w (SomeB w) := by
  have HK := Lib.hid hk
  clear hk
  go_enter Tryd.func61, Tryd.ntmps61
  go_wp2_with (fail)
  refine (c_ContainsS 0 17 17 nm _ (by decide) HK.out).mono ?_
  rintro e w1 ⟨b, rfl, hb⟩
  have HB := Lib.hid hb
  clear hb
  go_wp2_with (fail)
  go_ret
  exact ⟨_, rfl, HB.out⟩
set_option maxRecDepth 100000 in
theorem c_isName (nm : ByteArray) (w : World) (hn : nm.size ≤ 1048576) (hk : Strs w 0 17) : Calls Tryd.prog 55 #[.string nm] w (SomeB w) := by
  have HK := Lib.hid hk
  clear hk
  go_enter Tryd.func55, Tryd.ntmps55
  go_wp2_with (fail)
  refine (c_isWord nm _ hn).mono ?_
  rintro e w1 ⟨b1, rfl, hb⟩
  have HB := Lib.hid hb
  clear hb
  cases b1
  · go_wp2_with (fail)
    go_ret
    exact ⟨_, rfl, HB.out⟩
  · go_wp2_with (fail)
    refine (c_IsKeyword nm _ (HK.out.below HB.out)).mono ?_
    rintro e w2 ⟨b2, rfl, hb⟩
    have HB2 := Lib.hid (below_chain HB.out hb)
    clear hb
    go_wp2_with (fail)
    go_ret
    exact ⟨_, rfl, HB2.out⟩
end Go.Proofs.YtdkclhbonmpcbaaDoor
