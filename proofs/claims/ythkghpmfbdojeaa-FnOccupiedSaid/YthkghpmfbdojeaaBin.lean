/- Contract of slices.BinarySearch at lists of integers, and of the two ways to find a block. No condition but that the list is parted at p. -/
import Derived.Test.YthkghpmfbdojeaaSpanS
namespace Go.Proofs.Ythkghpmfbdojeaa
open Go.RowKit

theorem c_Less (a b : Int) (w : World) : Calls Try.prog 71 #[.int .i64 a, .int .i64 b] w fun e w' => e = .returned (.bool (decide (a < b))) ∧ w = w' := by
  go_enter Try.func71, Try.ntmps71
  go_wp2
  go_ret
  exact ⟨rfl, rfl⟩
theorem c_sNaN (a : Int) (w : World) : Calls Try.prog 72 #[.int .i64 a] w fun e w' => e = .returned (.bool false) ∧ w = w' := by
  go_enter Try.func72, Try.ntmps72
  go_wp2
  go_ret
  exact ⟨rfl, rfl⟩
/-- p parts the list at t: what lies before is less, what lies behind is not. -/
structure Parts (zs : List Int) (t : Int) (p : Nat) : Prop where
  le : p ≤ zs.length
  lo : ∀ (j : Nat) (z : Int), j < p → zs[j]? = some z → z < t
  hi : ∀ (j : Nat) (z : Int), p ≤ j → zs[j]? = some z → t ≤ z
def fndB (zs : List Int) (t : Int) (p : Nat) : Bool := zs[p]? == some t
set_option maxRecDepth 100000 in
theorem c_BinarySearch (A : Option Addr) (c n : Nat) (zs : List Int) (t : Int) (p : Nat) (w : World) (hn : n = zs.length) (hs : n ≤ 1048576) (hr : Rd w A (ints zs)) (hp : Parts zs t p) :
    Calls Try.prog 55 #[.slice A n c, .int .i64 t] w fun e w' => e = .returned (.tuple #[.int .i64 p, .bool (fndB zs t p)]) ∧ Below w.heap.size w w' := by
  have HN := Lib.hid hn
  have hpn : p ≤ n := by have := hp.le; omega
  clear hn
  go_enter Try.func55, Try.ntmps55
  go_wp2
  go_loopw [7, 8] (fun a b wr => ∃ i j : Nat, i ≤ p ∧ p ≤ j ∧ j ≤ n ∧ a = .int .i64 i ∧ b = .int .i64 j ∧ Below w.heap.size w wr) (fun a b _ => (intOf b).toNat - (intOf a).toNat)
  case atStart => exact ⟨0, n, Nat.zero_le _, hpn, Nat.le_refl _, rfl, rfl, Below.refl _ _⟩
  case round =>
    obtain ⟨i, j, hi, hj, hjn, rfl, rfl, hb⟩ := hrel
    by_cases hlt : i < j
    · obtain ⟨h, hh⟩ : ∃ h : Nat, h = (i + j) / 2 := ⟨_, rfl⟩
      obtain ⟨z, hz⟩ : ∃ z, zs[h]? = some z := ⟨_, List.getElem?_eq_getElem (by have := HN.out; omega)⟩
      obtain ⟨b, off, rfl, _, g0⟩ := (hr.below hb).int hz
      subst hh
      have HB := Lib.hid hb
      clear hb hr
      rcases Int.lt_or_le z t with hzt | hzt
      · have hip : (i + j) / 2 < p := by
          rcases Nat.lt_or_ge ((i + j) / 2) p with h | h
          · exact h
          · have := hp.hi _ _ h hz
            omega
        clear hz
        go_wp2_with (first
          | (go_at_call 71
             refine (c_Less _ _ _).mono ?_
             rintro e w' ⟨rfl, rfl⟩)
          )
        go_roundw
        case rel => exact ⟨(i + j) / 2 + 1, j, by omega, by omega, by omega, by go_num, rfl, HB.out⟩
        case measure => simp [intOf]; omega
      · have hip : p ≤ (i + j) / 2 := by
          rcases Nat.lt_or_ge ((i + j) / 2) p with h | h
          · have := hp.lo _ _ h hz
            omega
          · exact h
        clear hz
        go_wp2_with (first
          | (go_at_call 71
             refine (c_Less _ _ _).mono ?_
             rintro e w' ⟨rfl, rfl⟩)
          )
        go_roundw
        case rel => exact ⟨i, (i + j) / 2, by omega, by omega, by omega, rfl, by go_num, HB.out⟩
        case measure => simp [intOf]; omega
    · obtain rfl : i = p := by omega
      obtain rfl : i = j := by omega
      have HB := Lib.hid hb
      rcases Nat.lt_or_ge i n with hin | hin
      · obtain ⟨z, hz⟩ : ∃ z, zs[i]? = some z := ⟨_, List.getElem?_eq_getElem (by have := HN.out; omega)⟩
        have HF := Lib.hid (show fndB zs t i = (z == t) by unfold fndB; rw [hz]; rfl)
        obtain ⟨b, off, rfl, _, g0⟩ := (hr.below hb).int hz
        clear hz hb hr
        go_wp2_with (first
          | (go_at_call 72
             refine (c_sNaN _ _).mono ?_
             rintro e w' ⟨rfl, rfl⟩)
          )
        all_goals go_ret2
        all_goals (refine ⟨?_, HB.out⟩; go_light; rw [HF.out]; simp_all)
      · have HF := Lib.hid (show fndB zs t i = false by unfold fndB; rw [List.getElem?_eq_none (by have := HN.out; omega)]; rfl)
        clear hb
        go_wp2
        go_ret2
        refine ⟨?_, HB.out⟩
        rw [HF.out]
        rfl

/-- The block of a segment: how many first segments are at most that segment, less one. -/
def blockOf (fs : List Int) (t : Int) : Int := ((fs.filter fun z => decide (z ≤ t)).length : Int) - 1
theorem ris_mono {zs : List Int} {m : Int} (h : Ris zs m) {i j : Nat} (hij : i < j) {y z : Int} (hy : zs[i]? = some y) (hz : zs[j]? = some z) : y < z := by
  induction j generalizing z with
  | zero => omega
  | succ j ih =>
    obtain ⟨x, hx⟩ : ∃ x, zs[j]? = some x := ⟨_, List.getElem?_eq_getElem (by have := (List.getElem?_eq_some_iff.1 hz).1; omega)⟩
    have h1 := h.up j x z hx hz
    rcases Nat.lt_or_ge i j with h2 | h2
    · have := ih h2 hx
      omega
    · obtain rfl : i = j := by omega
      rw [hy] at hx
      simp only [Option.some.injEq] at hx
      omega
theorem parts_of {zs : List Int} {m : Int} (h : Ris zs m) (t : Int) : ∀ (k : Nat), k ≤ zs.length → ∃ p, p ≤ k ∧ (∀ (j : Nat) (z : Int), j < p → zs[j]? = some z → z < t) ∧ (∀ (j : Nat) (z : Int), p ≤ j → j < k → zs[j]? = some z → t ≤ z)
  | 0, _ => ⟨0, Nat.le_refl _, fun j z h => absurd h (by omega), fun j z _ h => absurd h (by omega)⟩
  | k + 1, hk => by
    obtain ⟨p, hp, h1, h2⟩ := parts_of h t k (by omega)
    have hz : zs[k]? = some zs[k] := List.getElem?_eq_getElem (by omega)
    by_cases hlt : zs[k] < t
    · refine ⟨k + 1, Nat.le_refl _, fun j z hj hjz => ?_, fun j z hj1 hj2 => absurd hj1 (by omega)⟩
      rcases Nat.lt_or_ge j p with hjp | hjp
      · exact h1 j z hjp hjz
      · rcases Nat.lt_or_ge j k with hjk | hjk
        · have := h2 j z hjp hjk hjz
          have hmono := ris_mono h (show j < k from hjk) hjz hz
          omega
        · obtain rfl : j = k := by omega
          rw [hz] at hjz
          simp only [Option.some.injEq] at hjz
          omega
    · refine ⟨p, by omega, h1, fun j z hj1 hj2 hjz => ?_⟩
      rcases Nat.lt_or_ge j k with hjk | hjk
      · exact h2 j z hj1 hjk hjz
      · obtain rfl : j = k := by omega
        rw [hz] at hjz
        simp only [Option.some.injEq] at hjz
        omega
end Go.Proofs.Ythkghpmfbdojeaa
