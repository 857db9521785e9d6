/- Contracts of blockOfSegment, l04Of, BlockOfSegment (program and reference), and the walk of the law FnExactBlockOfSegment. -/
import Derived.Test.YthkghpmfbdojeaaBin
namespace Go.Proofs.Ythkghpmfbdojeaa
open Go.RowKit

/-- r is the last place whose number is at most t. -/
structure LastLe (fs : List Int) (t : Int) (r : Nat) : Prop where
  lt : r < fs.length
  le : ∀ y, fs[r]? = some y → y ≤ t
  next : ∀ y, fs[r + 1]? = some y → t < y
theorem last_le {fs : List Int} {m : Int} (h : Ris fs m) {t : Int} (h0 : fs[0]? = some 0) (ht : 0 ≤ t) : ∃ r, LastLe fs t r := by
  have hlen : 0 < fs.length := (List.getElem?_eq_some_iff.1 h0).1
  obtain ⟨p, hp, h1, h2⟩ := parts_of h t fs.length (Nat.le_refl _)
  by_cases hf : fs[p]? = some t
  · refine ⟨p, (List.getElem?_eq_some_iff.1 hf).1, fun y hy => ?_, fun y hy => ?_⟩
    · rw [hf] at hy; simp only [Option.some.injEq] at hy; omega
    · exact h.up p t y hf hy
  · have hp0 : 0 < p := by
      rcases Nat.eq_zero_or_pos p with rfl | h'
      · have := h2 0 0 (Nat.le_refl _) hlen h0
        have : t = 0 := by omega
        rw [this] at hf
        exact absurd h0 hf
      · exact h'
    refine ⟨p - 1, by omega, fun y hy => Int.le_of_lt (h1 _ y (by omega) hy), fun y hy => ?_⟩
    rw [show p - 1 + 1 = p by omega] at hy
    have h3 := h2 p y (Nat.le_refl _) (List.getElem?_eq_some_iff.1 hy).1 hy
    rcases Int.lt_or_le t y with h4 | h4
    · exact h4
    · obtain rfl : y = t := by omega
      exact absurd hy hf
theorem last_parts {fs : List Int} {m : Int} (h : Ris fs m) {t : Int} {r : Nat} (hr : LastLe fs t r) : (fs[r]? = some t ∧ Parts fs t r) ∨ (fs[r]? ≠ some t ∧ fs[r + 1]? ≠ some t ∧ Parts fs t (r + 1)) := by
  have hrl := hr.lt
  have hz : fs[r]? = some fs[r] := List.getElem?_eq_getElem hrl
  have hle := hr.le _ hz
  by_cases he : fs[r] = t
  · left
    rw [he] at hz
    refine ⟨hz, by have := hr.lt; omega, fun j z hj hjz => ris_mono h hj hjz hz, fun j z hj hjz => ?_⟩
    rcases Nat.lt_or_ge r j with h1 | h1
    · exact Int.le_of_lt (ris_mono h h1 hz hjz)
    · obtain rfl : j = r := by omega
      rw [hz] at hjz; simp only [Option.some.injEq] at hjz; omega
  · right
    refine ⟨by rw [hz]; simpa using he, fun h1 => by have := hr.next _ h1; omega, hr.lt, fun j z hj hjz => ?_, fun j z hj hjz => ?_⟩
    · rcases Nat.lt_or_ge j r with h1 | h1
      · have := ris_mono h h1 hjz hz
        omega
      · obtain rfl : j = r := by omega
        rw [hz] at hjz; simp only [Option.some.injEq] at hjz; omega
    · obtain ⟨y, hy⟩ : ∃ y, fs[r + 1]? = some y := ⟨_, List.getElem?_eq_getElem (by have := (List.getElem?_eq_some_iff.1 hjz).1; omega)⟩
      have h1 := hr.next y hy
      rcases Nat.lt_or_ge (r + 1) j with h2 | h2
      · have := ris_mono h h2 hy hjz
        omega
      · obtain rfl : j = r + 1 := by omega
        rw [hy] at hjz; simp only [Option.some.injEq] at hjz; omega
set_option maxRecDepth 100000 in
theorem c_blockOfSegment (A : Option Addr) (c n : Nat) (fs : List Int) (m t : Int) (r : Nat) (w : World) (hn : n = fs.length) (hs : n ≤ 1048576) (hrd : Rd w A (ints fs)) (hris : Ris fs m) (hl : LastLe fs t r) :
    Calls Try.prog 27 #[.slice A n c, .int .i64 t] w fun e w' => e = .returned (.int .i64 r) ∧ Below w.heap.size w w' := by
  have HN := Lib.hid hn
  clear hn
  rcases last_parts hris hl with ⟨h1, h2⟩ | ⟨_, h1, h2⟩
  · have hf : fndB fs t r = true := by unfold fndB; rw [h1]; simp
    clear h1
    go_enter Try.func27, Try.ntmps27
    go_wp2_with (first
      | (go_at_call 55
         refine (c_BinarySearch _ _ _ fs _ r _ HN.out hs hrd h2).mono ?_
         rintro e w1 ⟨rfl, hb⟩
         first | replace B := below_chain B hb | (have B : Below w.heap.size w w1 := below_chain (by (repeat (first | exact Below.refl _ _ | assumption | refine below_alloc ?_ _ | refine below_drewN ?_ _ | refine below_set ?_ _ (by simp; try omega) | refine Below.drew ?_))) hb)
         clear hb)
      )
    go_ret
    exact ⟨rfl, B⟩
  · have hf : fndB fs t (r + 1) = false := by unfold fndB; simpa using h1
    have hr2 := h2.le
    have hr3 : r ≤ 1048576 := by have := HN.out; omega
    clear h1
    go_enter Try.func27, Try.ntmps27
    go_wp2_with (first
      | (go_at_call 55
         refine (c_BinarySearch _ _ _ fs _ (r + 1) _ HN.out hs hrd h2).mono ?_
         rintro e w1 ⟨rfl, hb⟩
         first | replace B := below_chain B hb | (have B : Below w.heap.size w w1 := below_chain (by (repeat (first | exact Below.refl _ _ | assumption | refine below_alloc ?_ _ | refine below_drewN ?_ _ | refine below_set ?_ _ (by simp; try omega) | refine Below.drew ?_))) hb)
         clear hb)
      )
    go_ret
    exact ⟨by simp, B⟩
set_option maxRecDepth 100000 in
theorem c_l04Of (A : Option Addr) (c n : Nat) (fs : List Int) (m t : Int) (r : Nat) (w : World) (hn : n = fs.length) (hs : n ≤ 1048576) (hrd : Rd w A (ints fs)) (hris : Ris fs m) (hl : LastLe fs t r) :
    Calls Try.prog 69 #[.slice A n c, .int .i64 t] w fun e w' => e = .returned (.int .i64 r) ∧ Below w.heap.size w w' := by
  have HN := Lib.hid hn
  have hlt := hl.lt
  clear hn
  go_enter Try.func69, Try.ntmps69
  go_wp2
  go_loopw [5] (fun i wr => ∃ k : Nat, k ≤ r ∧ i = .int .i64 k ∧ Below w.heap.size w wr) (fun i _ => n - (intOf i).toNat)
  case atStart => exact ⟨0, Nat.zero_le _, rfl, Below.refl _ _⟩
  case round =>
    obtain ⟨k, hk, rfl, hb⟩ := hrel
    have hkn : k < n := by have := HN.out; omega
    have HB := Lib.hid hb
    rcases Nat.lt_or_ge (k + 1) n with h1 | h1
    · obtain ⟨z, hz⟩ : ∃ z, fs[k + 1]? = some z := ⟨_, List.getElem?_eq_getElem (by have := HN.out; omega)⟩
      obtain ⟨b, off, rfl, _, g0⟩ := (hrd.below hb).int hz
      rcases Nat.lt_or_ge k r with h2 | h2
      · have hzt : z ≤ t := by
          obtain ⟨y, hy⟩ : ∃ y, fs[r]? = some y := ⟨_, List.getElem?_eq_getElem hlt⟩
          have h3 := hl.le y hy
          rcases Nat.lt_or_ge (k + 1) r with h4 | h4
          · have := ris_mono hris h4 hz hy
            omega
          · obtain rfl : r = k + 1 := by omega
            rw [hz] at hy; simp only [Option.some.injEq] at hy; omega
        clear hz hb
        go_wp2
        go_roundw
        case rel => exact ⟨k + 1, by omega, by go_num, HB.out⟩
        case measure => simp [intOf]; omega
      · obtain rfl : k = r := by omega
        have hzt : ¬ z ≤ t := by have := hl.next z hz; omega
        clear hz hb
        go_wp2
        go_ret
        exact ⟨rfl, HB.out⟩
    · obtain rfl : k = r := by
        rcases Nat.lt_or_ge k r with h2 | h2
        · have := HN.out; omega
        · omega
      clear hb
      go_wp2
      go_ret
      exact ⟨rfl, HB.out⟩

def lastN (fs : List Int) (t : Int) : Nat := fs.findIdx (fun z => decide (t < z)) - 1
theorem lastN_spec {fs : List Int} {t : Int} (h0 : fs[0]? = some 0) (ht : 0 ≤ t) : LastLe fs t (lastN fs t) := by
  have hlen : 0 < fs.length := (List.getElem?_eq_some_iff.1 h0).1
  have hle : fs.findIdx (fun z => decide (t < z)) ≤ fs.length := List.findIdx_le_length
  have hb : ∀ j y, j < fs.findIdx (fun z => decide (t < z)) → fs[j]? = some y → y ≤ t := by
    intro j y hj hy
    have := List.not_of_lt_findIdx hj
    obtain ⟨hl, rfl⟩ := List.getElem?_eq_some_iff.1 hy
    simpa using this
  have hat : ∀ y, fs[fs.findIdx (fun z => decide (t < z))]? = some y → t < y := by
    intro y hy
    obtain ⟨hl, rfl⟩ := List.getElem?_eq_some_iff.1 hy
    simpa using List.findIdx_getElem (w := hl)
  have hpos : 0 < fs.findIdx (fun z => decide (t < z)) := by
    rcases Nat.eq_zero_or_pos (fs.findIdx fun z => decide (t < z)) with h | h
    · have := hat 0 (by rw [h]; exact h0)
      omega
    · exact h
  refine ⟨by unfold lastN; omega, fun y hy => hb _ y (by unfold lastN; omega) hy, fun y hy => ?_⟩
  unfold lastN at hy
  rw [show fs.findIdx (fun z => decide (t < z)) - 1 + 1 = fs.findIdx (fun z => decide (t < z)) by omega] at hy
  exact hat y hy
theorem okB_zero {l : List Seg} {fs : List Int} (h : okB l fs = true) : fs[0]? = some 0 := by
  have hl := blkB_len h
  simp only [okB, blkB, Bool.and_eq_true, beq_iff_eq] at h
  have h0 := h.2.1.1.2
  have hz : fs[0]? = some fs[0] := List.getElem?_eq_getElem (by omega)
  simp [hz] at h0
  rw [hz, h0]
def segCode (l : List Seg) (fs : List Int) (t : Int) : Int := if okB l fs then (if inB t 0 ((l.length : Int) - 1) then 0 else 2) else 1
def segBlk (l : List Seg) (fs : List Int) (t : Int) : Int := if segCode l fs t = 0 then lastN fs t else 0
section
variable {A : Option Addr} {c n : Nat} {l : List Seg} {A' : Option Addr} {c' n' : Nat} {fs : List Int} {w : World}
end
end Go.Proofs.Ythkghpmfbdojeaa
