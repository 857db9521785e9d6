/- Contracts of blockOfSegment, l04Of, BlockOfSegment (program and reference), and the walk of the law FnExactBlockOfSegment. -/
import Derived.Test.YthhedpdldjmfpaaBin
namespace Go.Proofs.Ythhedpdldjmfpaa
open Go.RowKit

/-- r is the last place whose number is at most t. -/
structure LastLe (fs : List Int) (t : Int) (r : Nat) : Prop where
  lt : r < fs.length
  le : ∀ y, fs[r]? = some y → y ≤ t
  next : ∀ y, fs[r + 1]? = some y → t < y
theorem last_le {fs : List Int} {m : Int} (h : Ris fs m) {t : Int} (h0 : fs[0]? = some 0) (ht : 0 ≤ t) : ∃ r, LastLe fs t r := by
  have hlen : 0 < fs.length := (List.getElem?_eq_some_iff.1 h0).1
  obtain ⟨p, hp, h1, h2⟩ := parts_of h t fs.length (Nat.le_refl _)
  by_cases hf : fs[p]? = some t
  · refine ⟨p, (List.getElem?_eq_some_iff.1 hf).1, fun y hy => ?_, fun y hy => ?_⟩
    · rw [hf] at hy; simp only [Option.some.injEq] at hy; omega
    · exact h.up p t y hf hy
  · have hp0 : 0 < p := by
      rcases Nat.eq_zero_or_pos p with rfl | h'
      · have := h2 0 0 (Nat.le_refl _) hlen h0
        have : t = 0 := by omega
        rw [this] at hf
        exact absurd h0 hf
      · exact h'
    refine ⟨p - 1, by omega, fun y hy => Int.le_of_lt (h1 _ y (by omega) hy), fun y hy => ?_⟩
    rw [show p - 1 + 1 = p by omega] at hy
    have h3 := h2 p y (Nat.le_refl _) (List.getElem?_eq_some_iff.1 hy).1 hy
    rcases Int.lt_or_le t y with h4 | h4
    · exact h4
    · obtain rfl : y = t := by omega
      exact absurd hy hf
theorem last_parts {fs : List Int} {m : Int} (h : Ris fs m) {t : Int} {r : Nat} (hr : LastLe fs t r) : (fs[r]? = some t ∧ Parts fs t r) ∨ (fs[r]? ≠ some t ∧ fs[r + 1]? ≠ some t ∧ Parts fs t (r + 1)) := by
  have hrl := hr.lt
  have hz : fs[r]? = some fs[r] := List.getElem?_eq_getElem hrl
  have hle := hr.le _ hz
  by_cases he : fs[r] = t
  · left
    rw [he] at hz
    refine ⟨hz, by have := hr.lt; omega, fun j z hj hjz => ris_mono h hj hjz hz, fun j z hj hjz => ?_⟩
    rcases Nat.lt_or_ge r j with h1 | h1
    · exact Int.le_of_lt (ris_mono h h1 hz hjz)
    · obtain rfl : j = r := by omega
      rw [hz] at hjz; simp only [Option.some.injEq] at hjz; omega
  · right
    refine ⟨by rw [hz]; simpa using he, fun h1 => by have := hr.next _ h1; omega, hr.lt, fun j z hj hjz => ?_, fun j z hj hjz => ?_⟩
    · rcases Nat.lt_or_ge j r with h1 | h1
      · have := ris_mono h h1 hjz hz
        omega
      · obtain rfl : j = r := by omega
        rw [hz] at hjz; simp only [Option.some.injEq] at hjz; omega
    · obtain ⟨y, hy⟩ : ∃ y, fs[r + 1]? = some y := ⟨_, List.getElem?_eq_getElem (by have := (List.getElem?_eq_some_iff.1 hjz).1; omega)⟩
      have h1 := hr.next y hy
      rcases Nat.lt_or_ge (r + 1) j with h2 | h2
      · have := ris_mono h h2 hy hjz
        omega
      · obtain rfl : j = r + 1 := by omega
        rw [hy] at hjz; simp only [Option.some.injEq] at hjz; omega
set_option maxRecDepth 100000 in
theorem c_blockOfSegment (A : Option Addr) (c n : Nat) (fs : List Int) (m t : Int) (r : Nat) (w : World) (hn : n = fs.length) (hs : n ≤ 1048576) (hrd : Rd w A (ints fs)) (hris : Ris fs m) (hl : LastLe fs t r) :
    Calls Try.prog 95 #[.slice A n c, .int .i64 t] w fun e w' => e = .returned (.int .i64 r) ∧ Below w.heap.size w w' := by
  have HN := Lib.hid hn
  clear hn
  rcases last_parts hris hl with ⟨h1, h2⟩ | ⟨_, h1, h2⟩
  · have hf : fndB fs t r = true := by unfold fndB; rw [h1]; simp
    clear h1
    go_enter Try.func95, Try.ntmps95
    go_wp2_with (first
      | (go_at_call 144
         refine (c_BinarySearch _ _ _ fs _ r _ HN.out hs hrd h2).mono ?_
         rintro e w1 ⟨rfl, hb⟩
         first | replace B := below_chain B hb | (have B : Below w.heap.size w w1 := below_chain (by (repeat (first | exact Below.refl _ _ | assumption | refine below_alloc ?_ _ | refine below_drewN ?_ _ | refine below_set ?_ _ (by simp; try omega) | refine Below.drew ?_))) hb)
         clear hb)
      )
    go_ret
    exact ⟨rfl, B⟩
  · have hf : fndB fs t (r + 1) = false := by unfold fndB; simpa using h1
    have hr2 := h2.le
    have hr3 : r ≤ 1048576 := by have := HN.out; omega
    clear h1
    go_enter Try.func95, Try.ntmps95
    go_wp2_with (first
      | (go_at_call 144
         refine (c_BinarySearch _ _ _ fs _ (r + 1) _ HN.out hs hrd h2).mono ?_
         rintro e w1 ⟨rfl, hb⟩
         first | replace B := below_chain B hb | (have B : Below w.heap.size w w1 := below_chain (by (repeat (first | exact Below.refl _ _ | assumption | refine below_alloc ?_ _ | refine below_drewN ?_ _ | refine below_set ?_ _ (by simp; try omega) | refine Below.drew ?_))) hb)
         clear hb)
      )
    go_ret
    exact ⟨by simp, B⟩
set_option maxRecDepth 100000 in
theorem c_l04Of (A : Option Addr) (c n : Nat) (fs : List Int) (m t : Int) (r : Nat) (w : World) (hn : n = fs.length) (hs : n ≤ 1048576) (hrd : Rd w A (ints fs)) (hris : Ris fs m) (hl : LastLe fs t r) :
    Calls Try.prog 92 #[.slice A n c, .int .i64 t] w fun e w' => e = .returned (.int .i64 r) ∧ Below w.heap.size w w' := by
  have HN := Lib.hid hn
  have hlt := hl.lt
  clear hn
  go_enter Try.func92, Try.ntmps92
  go_wp2
  go_loopw [5] (fun i wr => ∃ k : Nat, k ≤ r ∧ i = .int .i64 k ∧ Below w.heap.size w wr) (fun i _ => n - (intOf i).toNat)
  case atStart => exact ⟨0, Nat.zero_le _, rfl, Below.refl _ _⟩
  case round =>
    obtain ⟨k, hk, rfl, hb⟩ := hrel
    have hkn : k < n := by have := HN.out; omega
    have HB := Lib.hid hb
    rcases Nat.lt_or_ge (k + 1) n with h1 | h1
    · obtain ⟨z, hz⟩ : ∃ z, fs[k + 1]? = some z := ⟨_, List.getElem?_eq_getElem (by have := HN.out; omega)⟩
      obtain ⟨b, off, rfl, _, g0⟩ := (hrd.below hb).int hz
      rcases Nat.lt_or_ge k r with h2 | h2
      · have hzt : z ≤ t := by
          obtain ⟨y, hy⟩ : ∃ y, fs[r]? = some y := ⟨_, List.getElem?_eq_getElem hlt⟩
          have h3 := hl.le y hy
          rcases Nat.lt_or_ge (k + 1) r with h4 | h4
          · have := ris_mono hris h4 hz hy
            omega
          · obtain rfl : r = k + 1 := by omega
            rw [hz] at hy; simp only [Option.some.injEq] at hy; omega
        clear hz hb
        go_wp2
        go_roundw
        case rel => exact ⟨k + 1, by omega, by go_num, HB.out⟩
        case measure => simp [intOf]; omega
      · obtain rfl : k = r := by omega
        have hzt : ¬ z ≤ t := by have := hl.next z hz; omega
        clear hz hb
        go_wp2
        go_ret
        exact ⟨rfl, HB.out⟩
    · obtain rfl : k = r := by
        rcases Nat.lt_or_ge k r with h2 | h2
        · have := HN.out; omega
        · omega
      clear hb
      go_wp2
      go_ret
      exact ⟨rfl, HB.out⟩

def lastN (fs : List Int) (t : Int) : Nat := fs.findIdx (fun z => decide (t < z)) - 1
theorem lastN_spec {fs : List Int} {t : Int} (h0 : fs[0]? = some 0) (ht : 0 ≤ t) : LastLe fs t (lastN fs t) := by
  have hlen : 0 < fs.length := (List.getElem?_eq_some_iff.1 h0).1
  have hle : fs.findIdx (fun z => decide (t < z)) ≤ fs.length := List.findIdx_le_length
  have hb : ∀ j y, j < fs.findIdx (fun z => decide (t < z)) → fs[j]? = some y → y ≤ t := by
    intro j y hj hy
    have := List.not_of_lt_findIdx hj
    obtain ⟨hl, rfl⟩ := List.getElem?_eq_some_iff.1 hy
    simpa using this
  have hat : ∀ y, fs[fs.findIdx (fun z => decide (t < z))]? = some y → t < y := by
    intro y hy
    obtain ⟨hl, rfl⟩ := List.getElem?_eq_some_iff.1 hy
    simpa using List.findIdx_getElem (w := hl)
  have hpos : 0 < fs.findIdx (fun z => decide (t < z)) := by
    rcases Nat.eq_zero_or_pos (fs.findIdx fun z => decide (t < z)) with h | h
    · have := hat 0 (by rw [h]; exact h0)
      omega
    · exact h
  refine ⟨by unfold lastN; omega, fun y hy => hb _ y (by unfold lastN; omega) hy, fun y hy => ?_⟩
  unfold lastN at hy
  rw [show fs.findIdx (fun z => decide (t < z)) - 1 + 1 = fs.findIdx (fun z => decide (t < z)) by omega] at hy
  exact hat y hy
theorem okB_zero {l : List Seg} {fs : List Int} (h : okB l fs = true) : fs[0]? = some 0 := by
  have hl := blkB_len h
  simp only [okB, blkB, Bool.and_eq_true, beq_iff_eq] at h
  have h0 := h.2.1.1.2
  have hz : fs[0]? = some fs[0] := List.getElem?_eq_getElem (by omega)
  simp [hz] at h0
  rw [hz, h0]
def segCode (l : List Seg) (fs : List Int) (t : Int) : Int := if okB l fs then (if inB t 0 ((l.length : Int) - 1) then 0 else 2) else 1
def segBlk (l : List Seg) (fs : List Int) (t : Int) : Int := if segCode l fs t = 0 then lastN fs t else 0
section
variable {A : Option Addr} {c n : Nat} {l : List Seg} {A' : Option Addr} {c' n' : Nat} {fs : List Int} {w : World}
theorem c_BlockOfSegment (c : Nat) (t : Int) (h : LB w A n l A' c' n' fs) :
    Calls Try.prog 45 #[.agg #[.slice A n c], .slice A' n' c', .int .i64 t] w fun e w' => e = .returned (.tuple #[.int .i64 (segBlk l fs t), .int .i64 (segCode l fs t)]) ∧ Below w.heap.size w w' := by
  have hs := h.hs
  have HC := Lib.hid (show segCode l fs t = if okB l fs then (if inB t 0 ((n : Int) - 1) then 0 else 2) else 1 by rw [h.hn]; rfl)
  rcases hok : okB l fs with _ | _
  · have hok' : (layB l && blkB l fs) = false := hok
    have HS : segCode l fs t = 1 := by rw [HC.out, hok]; rfl
    have HB : segBlk l fs t = 0 := by unfold segBlk; rw [if_neg (by rw [HS]; decide)]
    rw [HS, HB]
    clear HS HB
    go_enter Try.func45, Try.ntmps45
    go_wp2_with (first
      | (go_at_call 29
         refine (k_AreBlocks _ (h.alloc _)).mono ?_
         rintro e w1 ⟨rfl, hb⟩
         first | replace B := below_chain B hb | (have B : Below w.heap.size w w1 := below_chain (by (repeat (first | exact Below.refl _ _ | assumption | refine below_alloc ?_ _ | refine below_drewN ?_ _ | refine below_set ?_ _ (by simp; try omega) | refine Below.drew ?_))) hb)
         clear hb)
      )
    go_ret2
    exact ⟨rfl, by (repeat (first | exact Below.refl _ _ | assumption | refine below_alloc ?_ _ | refine below_drewN ?_ _ | refine below_set ?_ _ (by simp; try omega) | refine Below.drew ?_))⟩
  have hok' : (layB l && blkB l fs) = true := hok
  rcases hin : inB t 0 ((n : Int) - 1) with _ | _
  · have HS : segCode l fs t = 2 := by rw [HC.out, hok, hin]; rfl
    have HB : segBlk l fs t = 0 := by unfold segBlk; rw [if_neg (by rw [HS]; decide)]
    rw [HS, HB]
    clear HS HB
    go_enter Try.func45, Try.ntmps45
    go_wp2_with (first
      | (go_at_call 29
         refine (k_AreBlocks _ (h.alloc _)).mono ?_
         rintro e w1 ⟨rfl, hb⟩
         first | replace k0 := cell_later hb k0 | (have k0 : w1.cell? ⟨w.heap.size, 0, none⟩ = some (.slice A n c) := cell_later hb (by go_simp))
         first | replace B := below_chain B hb | (have B : Below w.heap.size w w1 := below_chain (by (repeat (first | exact Below.refl _ _ | assumption | refine below_alloc ?_ _ | refine below_drewN ?_ _ | refine below_set ?_ _ (by simp; try omega) | refine Below.drew ?_))) hb)
         clear hb)
      | (go_at_call 94
         refine (c_length_seg _ _ _ _ (by omega)).mono ?_
         rintro e w' ⟨rfl, rfl⟩)
      | (go_at_call 93
         refine (c_within _ _ _ _).mono ?_
         rintro e w' ⟨rfl, rfl⟩)
      )
    go_ret2
    exact ⟨rfl, by (repeat (first | exact Below.refl _ _ | assumption | refine below_alloc ?_ _ | refine below_drewN ?_ _ | refine below_set ?_ _ (by simp; try omega) | refine Below.drew ?_))⟩
  · have HS : segCode l fs t = 0 := by rw [HC.out, hok, hin]; rfl
    have HB : segBlk l fs t = lastN fs t := by unfold segBlk; rw [if_pos HS]
    rw [HS, HB]
    have ht : 0 ≤ t := by simp [inB] at hin; exact hin.1
    have HL := lastN_spec (okB_zero hok) ht
    have hris := blkB_ris hok
    clear HS HB
    go_enter Try.func45, Try.ntmps45
    go_wp2_with (first
      | (go_at_call 29
         refine (k_AreBlocks _ (h.alloc _)).mono ?_
         rintro e w1 ⟨rfl, hb⟩
         first | replace k0 := cell_later hb k0 | (have k0 : w1.cell? ⟨w.heap.size, 0, none⟩ = some (.slice A n c) := cell_later hb (by go_simp))
         first | replace k0 := cell_later hb k0 | (have k0 : w1.cell? ⟨w.heap.size, 0, none⟩ = some (.slice A n c) := cell_later hb (by go_simp))
         first | replace B := below_chain B hb | (have B : Below w.heap.size w w1 := below_chain (by (repeat (first | exact Below.refl _ _ | assumption | refine below_alloc ?_ _ | refine below_drewN ?_ _ | refine below_set ?_ _ (by simp; try omega) | refine Below.drew ?_))) hb)
         have h' := Lib.hid ((h.alloc _).below hb)
         clear hb)
      | (go_at_call 94
         refine (c_length_seg _ _ _ _ (by omega)).mono ?_
         rintro e w' ⟨rfl, rfl⟩)
      | (go_at_call 93
         refine (c_within _ _ _ _).mono ?_
         rintro e w' ⟨rfl, rfl⟩)
      | (go_at_call 95
         refine (c_blockOfSegment _ _ _ fs _ _ _ _ h'.out.hn' h'.out.hs' h'.out.hr' hris HL).mono ?_
         rintro e w1 ⟨rfl, hb⟩
         first | replace k0 := cell_later hb k0 | (have k0 : w1.cell? ⟨w.heap.size, 0, none⟩ = some (.slice A n c) := cell_later hb (by go_simp))
         first | replace k0 := cell_later hb k0 | (have k0 : w1.cell? ⟨w.heap.size, 0, none⟩ = some (.slice A n c) := cell_later hb (by go_simp))
         first | replace B := below_chain B hb | (have B : Below w.heap.size w w1 := below_chain (by (repeat (first | exact Below.refl _ _ | assumption | refine below_alloc ?_ _ | refine below_drewN ?_ _ | refine below_set ?_ _ (by simp; try omega) | refine Below.drew ?_))) hb)
         clear hb)
      )
    go_ret2
    exact ⟨rfl, by (repeat (first | exact Below.refl _ _ | assumption | refine below_alloc ?_ _ | refine below_drewN ?_ _ | refine below_set ?_ _ (by simp; try omega) | refine Below.drew ?_))⟩
theorem c_sBlockOfSegment (c : Nat) (t : Int) (h : LB w A n l A' c' n' fs) :
    Calls Try.prog 44 #[.agg #[.slice A n c], .slice A' n' c', .int .i64 t] w fun e w' => e = .returned (.tuple #[.int .i64 (segBlk l fs t), .int .i64 (segCode l fs t)]) ∧ Below w.heap.size w w' := by
  have hs := h.hs
  have HC := Lib.hid (show segCode l fs t = if okB l fs then (if inB t 0 ((n : Int) - 1) then 0 else 2) else 1 by rw [h.hn]; rfl)
  rcases hok : okB l fs with _ | _
  · have hok' : (layB l && blkB l fs) = false := hok
    have HS : segCode l fs t = 1 := by rw [HC.out, hok]; rfl
    have HB : segBlk l fs t = 0 := by unfold segBlk; rw [if_neg (by rw [HS]; decide)]
    rw [HS, HB]
    clear HS HB
    go_enter Try.func44, Try.ntmps44
    go_wp2_with (first
      | (go_at_call 26
         refine (k_sAreBlocks _ (h.alloc _)).mono ?_
         rintro e w1 ⟨rfl, hb⟩
         first | replace B := below_chain B hb | (have B : Below w.heap.size w w1 := below_chain (by (repeat (first | exact Below.refl _ _ | assumption | refine below_alloc ?_ _ | refine below_drewN ?_ _ | refine below_set ?_ _ (by simp; try omega) | refine Below.drew ?_))) hb)
         clear hb)
      )
    go_ret2
    exact ⟨rfl, by (repeat (first | exact Below.refl _ _ | assumption | refine below_alloc ?_ _ | refine below_drewN ?_ _ | refine below_set ?_ _ (by simp; try omega) | refine Below.drew ?_))⟩
  have hok' : (layB l && blkB l fs) = true := hok
  rcases hin : inB t 0 ((n : Int) - 1) with _ | _
  · have HS : segCode l fs t = 2 := by rw [HC.out, hok, hin]; rfl
    have HB : segBlk l fs t = 0 := by unfold segBlk; rw [if_neg (by rw [HS]; decide)]
    rw [HS, HB]
    clear HS HB
    go_enter Try.func44, Try.ntmps44
    go_wp2_with (first
      | (go_at_call 26
         refine (k_sAreBlocks _ (h.alloc _)).mono ?_
         rintro e w1 ⟨rfl, hb⟩
         first | replace k0 := cell_later hb k0 | (have k0 : w1.cell? ⟨w.heap.size, 0, none⟩ = some (.slice A n c) := cell_later hb (by go_simp))
         first | replace B := below_chain B hb | (have B : Below w.heap.size w w1 := below_chain (by (repeat (first | exact Below.refl _ _ | assumption | refine below_alloc ?_ _ | refine below_drewN ?_ _ | refine below_set ?_ _ (by simp; try omega) | refine Below.drew ?_))) hb)
         clear hb)
      | (go_at_call 91
         refine (c_l01In _ _ _ _).mono ?_
         rintro e w' ⟨rfl, rfl⟩)
      )
    go_ret2
    exact ⟨rfl, by (repeat (first | exact Below.refl _ _ | assumption | refine below_alloc ?_ _ | refine below_drewN ?_ _ | refine below_set ?_ _ (by simp; try omega) | refine Below.drew ?_))⟩
  · have HS : segCode l fs t = 0 := by rw [HC.out, hok, hin]; rfl
    have HB : segBlk l fs t = lastN fs t := by unfold segBlk; rw [if_pos HS]
    rw [HS, HB]
    have ht : 0 ≤ t := by simp [inB] at hin; exact hin.1
    have HL := lastN_spec (okB_zero hok) ht
    have hris := blkB_ris hok
    clear HS HB
    go_enter Try.func44, Try.ntmps44
    go_wp2_with (first
      | (go_at_call 26
         refine (k_sAreBlocks _ (h.alloc _)).mono ?_
         rintro e w1 ⟨rfl, hb⟩
         first | replace k0 := cell_later hb k0 | (have k0 : w1.cell? ⟨w.heap.size, 0, none⟩ = some (.slice A n c) := cell_later hb (by go_simp))
         first | replace k0 := cell_later hb k0 | (have k0 : w1.cell? ⟨w.heap.size, 0, none⟩ = some (.slice A n c) := cell_later hb (by go_simp))
         first | replace B := below_chain B hb | (have B : Below w.heap.size w w1 := below_chain (by (repeat (first | exact Below.refl _ _ | assumption | refine below_alloc ?_ _ | refine below_drewN ?_ _ | refine below_set ?_ _ (by simp; try omega) | refine Below.drew ?_))) hb)
         have h' := Lib.hid ((h.alloc _).below hb)
         clear hb)
      | (go_at_call 91
         refine (c_l01In _ _ _ _).mono ?_
         rintro e w' ⟨rfl, rfl⟩)
      | (go_at_call 92
         refine (c_l04Of _ _ _ fs _ _ _ _ h'.out.hn' h'.out.hs' h'.out.hr' hris HL).mono ?_
         rintro e w1 ⟨rfl, hb⟩
         first | replace k0 := cell_later hb k0 | (have k0 : w1.cell? ⟨w.heap.size, 0, none⟩ = some (.slice A n c) := cell_later hb (by go_simp))
         first | replace k0 := cell_later hb k0 | (have k0 : w1.cell? ⟨w.heap.size, 0, none⟩ = some (.slice A n c) := cell_later hb (by go_simp))
         first | replace B := below_chain B hb | (have B : Below w.heap.size w w1 := below_chain (by (repeat (first | exact Below.refl _ _ | assumption | refine below_alloc ?_ _ | refine below_drewN ?_ _ | refine below_set ?_ _ (by simp; try omega) | refine Below.drew ?_))) hb)
         clear hb)
      )
    go_ret2
    exact ⟨rfl, by (repeat (first | exact Below.refl _ _ | assumption | refine below_alloc ?_ _ | refine below_drewN ?_ _ | refine below_set ?_ _ (by simp; try omega) | refine Below.drew ?_))⟩
end
set_option maxRecDepth 100000 in
theorem law_BlockOfSegment (A : Option Addr) (c n : Nat) (l : List Seg) (A' : Option Addr) (c' n' : Nat) (fs : List Int) (b : Int) (w : World) (hn : n = l.length) (hm : n ≤ 9223372036854775807) (hr : Rd w A (segCells l)) (hn' : n' = fs.length) (hm' : n' ≤ 9223372036854775807) (hr' : Rd w A' (ints fs)) :
    Calls Try.prog 8 #[.agg #[.slice A n c], .slice A' n' c', .int .i64 b] w fun e w' => e = .returned (.bool true) ∧ Below w.heap.size w w' := by
  have HN := Lib.hid hn
  have HN' := Lib.hid hn'
  clear hn hn'
  rcases Nat.lt_or_ge 1048576 n' with hs' | hs'
  · skip
    go_enter Try.func8, Try.ntmps8
    go_wp2
    go_ret
    exact ⟨rfl, by (repeat (first | exact Below.refl _ _ | assumption | refine below_alloc ?_ _ | refine below_drewN ?_ _ | refine below_set ?_ _ (by simp; try omega) | refine Below.drew ?_))⟩
  rcases Nat.lt_or_ge 1048576 n with hs | hs
  · have hsz : szI 1048576 n = -1 := by unfold szI; rw [if_pos (by omega)]
    go_enter Try.func8, Try.ntmps8
    go_wp2_with (first
      | (go_at_call 25
         refine (c_szLayout _ _ _ _ _ hm (by omega) (by omega)).mono ?_
         rintro e w1 ⟨rfl, hb⟩
         first | replace B := below_chain B hb | (have B : Below w.heap.size w w1 := below_chain (by (repeat (first | exact Below.refl _ _ | assumption | refine below_alloc ?_ _ | refine below_drewN ?_ _ | refine below_set ?_ _ (by simp; try omega) | refine Below.drew ?_))) hb)
         clear hb)
      )
    go_ret
    exact ⟨rfl, by (repeat (first | exact Below.refl _ _ | assumption | refine below_alloc ?_ _ | refine below_drewN ?_ _ | refine below_set ?_ _ (by simp; try omega) | refine Below.drew ?_))⟩
  have hsz : szI 1048576 n = 1048576 - n := by unfold szI; rw [if_neg (by omega)]
  go_enter Try.func8, Try.ntmps8
  go_wp2_with (fail)
  refine (c_szLayout _ _ _ _ _ hm (by omega) (by omega)).mono ?_
  rintro e w1 ⟨rfl, hb⟩
  have hstep : Below w.heap.size w w1 := below_chain (by (repeat (first | exact Below.refl _ _ | assumption | refine below_alloc ?_ _ | refine below_drewN ?_ _ | refine below_set ?_ _ (by simp; try omega) | refine Below.drew ?_))) hb
  replace hr := hr.below hstep
  replace hr' := hr'.below hstep
  have B : Below w.heap.size w w1 := hstep
  have k0 : w1.cell? ⟨w.heap.size, 0, none⟩ = some (.slice A n c) := cell_later hb (by go_simp)
  clear hb hstep
  go_wp2_with (fail)
  refine (c_toLayout _ _ _ l _ HN.out hs hr).mono ?_
  rintro e w2 ⟨A1, c1, rfl, ho, hb⟩
  have hstep : Below w1.heap.size w1 w2 := below_chain (by (repeat (first | exact Below.refl _ _ | assumption | refine below_alloc ?_ _ | refine below_drewN ?_ _ | refine below_set ?_ _ (by simp; try omega) | refine Below.drew ?_))) hb
  replace hr := hr.below hstep
  replace hr' := hr'.below hstep
  replace k0 := cell_later hstep k0
  replace B := below_chain B hstep
  have r1 := Rd.own ho
  clear hb hstep
  go_wp2_with (fail)
  refine (c_toInt64S _ _ _ fs _ HN'.out hs' hr').mono ?_
  rintro e w3 ⟨A2, c2, rfl, ho2, hb⟩
  have hstep : Below w2.heap.size w2 w3 := below_chain (by (repeat (first | exact Below.refl _ _ | assumption | refine below_alloc ?_ _ | refine below_drewN ?_ _ | refine below_set ?_ _ (by simp; try omega) | refine Below.drew ?_))) hb
  replace hr := hr.below hstep
  replace hr' := hr'.below hstep
  replace r1 := r1.below hstep
  replace k0 := cell_later hstep k0
  replace B := below_chain B hstep
  have r2 := Rd.own ho2
  clear hb hstep
  have hcap := own_cap ho2
  unfold maxLen at hcap
  have lb : LB w3 A1 l.length l A2 c2 fs.length fs := ⟨rfl, (by have := HN.out; omega), r1, rfl, (by have := HN'.out; omega), hcap.1, hcap.2, r2⟩
  clear ho ho2 hcap r1 r2
  go_wp2_with (fail)
  refine (c_sBlockOfSegment _ b lb).mono ?_
  rintro e w4 ⟨rfl, hb⟩
  have hstep : Below w3.heap.size w3 w4 := below_chain (by (repeat (first | exact Below.refl _ _ | assumption | refine below_alloc ?_ _ | refine below_drewN ?_ _ | refine below_set ?_ _ (by simp; try omega) | refine Below.drew ?_))) hb
  replace hr := hr.below hstep
  replace hr' := hr'.below hstep
  replace k0 := cell_later hstep k0
  replace B := below_chain B hstep
  clear hb hstep
  clear lb
  go_wp2_with (fail)
  refine (c_toLayout _ _ _ l _ HN.out hs hr).mono ?_
  rintro e w5 ⟨A3, c3, rfl, ho, hb⟩
  have hstep : Below w4.heap.size w4 w5 := below_chain (by (repeat (first | exact Below.refl _ _ | assumption | refine below_alloc ?_ _ | refine below_drewN ?_ _ | refine below_set ?_ _ (by simp; try omega) | refine Below.drew ?_))) hb
  replace hr := hr.below hstep
  replace hr' := hr'.below hstep
  replace k0 := cell_later hstep k0
  replace B := below_chain B hstep
  have r3 := Rd.own ho
  clear hb hstep
  go_wp2_with (fail)
  refine (c_toInt64S _ _ _ fs _ HN'.out hs' (hr'.alloc _)).mono ?_
  rintro e w6 ⟨A4, c4, rfl, ho2, hb⟩
  have hstep : Below w5.heap.size w5 w6 := below_chain (by (repeat (first | exact Below.refl _ _ | assumption | refine below_alloc ?_ _ | refine below_drewN ?_ _ | refine below_set ?_ _ (by simp; try omega) | refine Below.drew ?_))) hb
  replace hr := hr.below hstep
  replace hr' := hr'.below hstep
  replace r3 := r3.below hstep
  replace k0 := cell_later hstep k0
  replace B := below_chain B hstep
  have r4 := Rd.own ho2
  have k1 : w6.cell? ⟨w5.heap.size, 0, none⟩ = some (.slice A3 l.length c3) := cell_later hb (by go_simp)
  clear hb hstep
  have hcap := own_cap ho2
  unfold maxLen at hcap
  have lb : LB w6 A3 l.length l A4 c4 fs.length fs := ⟨rfl, (by have := HN.out; omega), r3, rfl, (by have := HN'.out; omega), hcap.1, hcap.2, r4⟩
  clear ho ho2 hcap
  go_wp2_with (fail)
  refine (c_BlockOfSegment _ b lb).mono ?_
  rintro e w7 ⟨rfl, hb⟩
  have hstep : Below w6.heap.size w6 w7 := below_chain (by (repeat (first | exact Below.refl _ _ | assumption | refine below_alloc ?_ _ | refine below_drewN ?_ _ | refine below_set ?_ _ (by simp; try omega) | refine Below.drew ?_))) hb
  replace hr := hr.below hstep
  replace hr' := hr'.below hstep
  replace r3 := r3.below hstep
  replace r4 := r4.below hstep
  replace k0 := cell_later hstep k0
  replace k1 := cell_later hstep k1
  replace B := below_chain B hstep
  clear hb hstep
  clear lb
  go_wp2_with (fail)
  have HR := Lib.hid hr
  have HR' := Lib.hid hr'
  have HR3 := Lib.hid r3
  have HR4 := Lib.hid r4
  have HB := Lib.hid B
  clear hr hr' r3 r4 B
  go_region_held3 (fun w' => w'.cell? ⟨w5.heap.size, 0, none⟩ = some (.slice A3 l.length c3) ∧ w'.cell? ⟨w.heap.size, 0, none⟩ = some (.slice A n c)) (first | exact ⟨k1, k0⟩ | exact ⟨k3, k2⟩ | exact ⟨k5, k4⟩)
    (first
      | (go_at_call 27
         refine (c_toLayout _ _ _ l _ HN.out hs (by exact HR.out)).mono ?_
         rintro e w8 ⟨A5, c5, rfl, ho, hb⟩
         have r5 := Lib.hid (Rd.own ho)
         have k3 : w8.cell? ⟨w5.heap.size, 0, none⟩ = some (.slice A3 l.length c3) := cell_later hb (by exact k1)
         have k2 : w8.cell? ⟨w.heap.size, 0, none⟩ = some (.slice A n c) := cell_later hb (by exact k0)
         have HB8 := Lib.hid (below_chain (by exact HB.out.drew) hb)
         have HR8 := Lib.hid (Rd.below (by exact HR'.out) hb)
         have H38 := Lib.hid (Rd.below (by exact HR3.out) hb)
         have H48 := Lib.hid (Rd.below (by exact HR4.out) hb)
         clear hb ho)
      | (go_at_call 30
         refine (c_eqLayout _ _ _ _ _ _ l _ rfl rfl (by have := HN.out; omega) H38.out r5.out).mono ?_
         rintro e w9 ⟨rfl, hb⟩
         have k5 := cell_later hb k3
         have k4 := cell_later hb k2
         have HB9 := Lib.hid (below_chain HB8.out hb)
         have HR9 := Lib.hid (HR8.out.below hb)
         have H49 := Lib.hid (H48.out.below hb)
         clear hb))
  have hr' := HR9.out
  have r4 := H49.out
  have B := HB9.out
  clear HR9 HB9 H49 k5 k4 k3 k2 k1 k0 HR HR' HR3 HR4 HB HB8 HR8 H38 H48 r5
  go_wp2_with (fail)
  refine (c_toInt64S _ _ _ fs _ HN'.out hs' hr').mono ?_
  rintro e w10 ⟨A6, c6, rfl, ho, hb⟩
  have hstep : Below w9.heap.size w9 w10 := below_chain (by (repeat (first | exact Below.refl _ _ | assumption | refine below_alloc ?_ _ | refine below_drewN ?_ _ | refine below_set ?_ _ (by simp; try omega) | refine Below.drew ?_))) hb
  replace hr' := hr'.below hstep
  replace r4 := r4.below hstep
  replace B := below_chain B hstep
  have r6 := Rd.own ho
  clear hb hstep
  go_wp2_with (fail)
  refine (c_eqInt64S _ _ _ _ _ _ fs _ rfl rfl (by have := HN'.out; omega) r4 r6).mono ?_
  rintro e w11 ⟨rfl, hb⟩
  have hstep : Below w10.heap.size w10 w11 := below_chain (by (repeat (first | exact Below.refl _ _ | assumption | refine below_alloc ?_ _ | refine below_drewN ?_ _ | refine below_set ?_ _ (by simp; try omega) | refine Below.drew ?_))) hb
  replace hr' := hr'.below hstep
  replace r4 := r4.below hstep
  replace r6 := r6.below hstep
  replace B := below_chain B hstep
  clear hb hstep
  go_wp2_with (fail)
  go_ret
  exact ⟨rfl, B⟩
end Go.Proofs.Ythhedpdldjmfpaa
