/- Contracts of the laws' own helpers and of DrawDefaultBlocks; the walk of the law FnBlocks. -/
import Derived.Test.YthhedpdldjmfpaaFBlkP
import Derived.Test.YthhedpdldjmfpaaOpenB
namespace Go.Proofs.Ythhedpdldjmfpaa
open Go.RowKit

theorem c_big (A : Option Addr) (c n : Nat) (w : World) : Calls Try.prog 39 #[.slice A n c] w fun e w' => e = .returned (.bool (decide (4096 < n))) ∧ w = w' := by
  go_enter Try.func39, Try.ntmps39
  go_wp2
  go_ret
  exact ⟨ret_bool (by rw [decide_eq_decide]; omega), rfl⟩
set_option maxRecDepth 100000 in
theorem c_likeInts (A A' : Option Addr) (c c' n n' : Nat) (zs : List Int) (w : World) (hn : n = zs.length) (hn' : n' = zs.length) (hs : zs.length ≤ 1048576) (hr : Rd w A (ints zs)) (hr' : Rd w A' (ints zs)) :
    Calls Try.prog 41 #[.slice A n c, .slice A' n' c'] w fun e w' => e = .returned (.bool true) ∧ Below w.heap.size w w' := by
  obtain rfl : n = n' := by omega
  have HN := Lib.hid hn
  have hs2 : n ≤ 1048576 := by omega
  clear hn hn' hs
  go_enter Try.func41, Try.ntmps41
  go_wp2
  go_loopw [5] (fun v wr => ∃ k : Nat, k ≤ n ∧ v = .int .i64 k ∧ Below w.heap.size w wr) (fun v _ => n - (intOf v).toNat)
  case atStart => exact ⟨0, Nat.zero_le _, rfl, by (repeat (first | exact Below.refl _ _ | assumption | refine below_alloc ?_ _ | refine below_drewN ?_ _ | refine below_set ?_ _ (by simp; try omega) | refine Below.drew ?_))⟩
  case round =>
    obtain ⟨k, hk, rfl, hb⟩ := hrel
    by_cases hlt : k < n
    · obtain ⟨z, hz⟩ : ∃ z, zs[k]? = some z := ⟨_, List.getElem?_eq_getElem (by have := HN.out; omega)⟩
      obtain ⟨b1, o1, rfl, _, g1⟩ := (hr.below hb).int hz
      obtain ⟨b2, o2, rfl, _, g2⟩ := (hr'.below hb).int hz
      have hk0 : (0 : Int) ≤ (k : Int) := by omega
      have hk1 : (k : Int) < n := by omega
      have HB := Lib.hid hb
      clear hz hr hr' hb
      go_wp2_with (fail)
      go_region_held3 (fun w' => w'.cell? ⟨b1, o1 + k, none⟩ = some (.int .i64 z) ∧ w'.cell? ⟨b2, o2 + k, none⟩ = some (.int .i64 z)) (exact ⟨g1, g2⟩) (fail)
      go_wp2_with (fail)
      go_roundw
      case rel => exact ⟨k + 1, by omega, by go_num, HB.out.drew⟩
      case measure => simp [intOf]; omega
    · obtain rfl : k = n := by omega
      go_wp2
      go_ret
      exact ⟨rfl, hb⟩
def SomeLayB (w : World) (e : Ending) (w' : World) : Prop := ∃ A c l, e = .returned (.agg #[.slice A l.length c]) ∧ l.length ≤ 100 ∧ w'.ownsRow w.heap.size 29 7 (.slice A l.length c) l.length (segCells l) ∧ Below w.heap.size w w'
theorem bytes_later {w w' : World} {A : Option Addr} {n : Nat} (h : Bytes w w.heap.size A n) (hb : Below w.heap.size w w') : Bytes w' w'.heap.size A n := by
  intro j hj
  obtain ⟨b, off, u, e, hb1, hu, hc⟩ := h j hj
  exact ⟨b, off, u, e, Nat.lt_of_lt_of_le hb1 hb.size, hu, cell_later hb hc⟩
set_option maxRecDepth 100000 in
theorem c_DrawDefaultBlocks (A : Option Addr) (c n : Nat) (w : World) (hn : n ≤ 4096) (hb : Bytes w w.heap.size A n) :
    Calls Try.prog 40 #[.slice A n c] w (SomeLayB w) := by
  have hor : (w.alloc (.cells #[.slice none 0 0] 40)).ownsRow w.heap.size 40 1 (.slice (some ⟨w.heap.size, 0, none⟩) 1 1) 1 [.slice none 0 0] := by
    have h := World.ownsRow_lit (e := 40) (size := 1) (base := w.heap.size) w #[.slice none 0 0] 1 (by simp) (by decide) (by simp)
    simpa using h
  have hb1 := bytes_later hb (below_alloc (Below.refl w.heap.size w) (.cells #[.slice none 0 0] 40))
  have hB := below_alloc (Below.refl w.heap.size w) (.cells #[.slice none 0 0] 40)
  clear hb
  go_enter Try.func40, Try.ntmps40
  go_wp2_with (fail)
  have hszw : w.heap.size < (w.alloc (.cells #[.slice none 0 0] 40)).heap.size := by simp
  generalize w.alloc (.cells #[.slice none 0 0] 40) = W at hor hb1 hB hszw ⊢
  refine (c_From A c n W hn hb1).mono ?_
  rintro e w1 ⟨rfl, hs, hb⟩
  replace hB := below_chain hB hb
  replace hor := own_below hor hb
  have hszw1 := hb.size
  clear hb hb1
  go_wp2_with (fail)
  refine (c_l03Draw _ _ hs).mono ?_
  rintro e w2 ⟨A1, c1, l, rfl, hl, ho, hs2, hg⟩
  have HB := Lib.hid (below_of_grown hB hg (by intro q hq; simp at hq; omega))
  have hor2 := hor.kept hg (.inr (by simp [Value.ownBlock]; omega))
  have HO := Lib.hid ho
  clear hs hs2 hg hB hor ho
  have hc0 := hor2.cellAt 0 (by decide)
  have hf0 := hor2.frozenAt 0
  have hst := hor2.stored 0 (.slice A1 l.length c1)
  have hc9 := hst.1.cellAt 0 (by decide)
  have HR := Lib.hid (HO.out.kept hst.2 (.inr (by
    intro e9
    have := (HO.out.lt _ e9).1
    omega)))
  simp only [List.getElem?_cons_zero] at hc0
  have HC9 : Hid ((w2.setCell ⟨w.heap.size, 0, none⟩ (.slice A1 l.length c1)).cell? ⟨w.heap.size, 0, none⟩ = some (.slice A1 l.length c1)) := Lib.hid (by simpa using hc9)
  have HB9 := Lib.hid (below_set HB.out (p := ⟨w.heap.size, 0, none⟩) (.slice A1 l.length c1) (Nat.le_refl _))
  clear hor2 hst hc9
  go_wp2_with (fail)
  have r0 := HC9.out
  have r1 := HR.out
  have r2 := HB9.out
  clear HC9 HR HB9 HB HO hc0 hf0
  generalize w2.setCell ⟨w.heap.size, 0, none⟩ (.slice A1 l.length c1) = WF at r0 r1 r2 ⊢
  refine bodyPost_ret (v := .agg #[.slice A1 l.length c1]) (by simp [results, Try.results40, go_sem, r0]) rfl ⟨_, _, l, rfl, hl, own_mono r1 (by omega), r2⟩
theorem c_TrackLength (A : Option Addr) (c n : Nat) (l : List Seg) (w : World) (hn : n = l.length) (hs : n ≤ 1048576) (hr : Rd w A (segCells l)) (hl : Lay l) :
    Calls Try.prog 42 #[.agg #[.slice A n c]] w fun e w' => e = .returned (.tuple #[.int .i64 (pos l l.length), .int .i64 0]) ∧ Below w.heap.size w w' := by
  have HN := Lib.hid hn
  have hlb := layB_iff.2 hl
  have HI := Lib.hid (fun (w : World) (hr : Rd w A (segCells l)) => c_IsLayout A c n l w HN.out hs hr)
  rw [hlb] at HI
  clear hn hlb
  go_enter Try.func42, Try.ntmps42
  go_wp2_with (first
    | (go_at_call 79
       refine (HI.out _ (hr.alloc _)).mono ?_
       rintro e w1 ⟨rfl, hb⟩
       first | replace k0 := cell_later hb k0 | (have k0 : w1.cell? ⟨w.heap.size, 0, none⟩ = some (.slice A n c) := cell_later hb (by go_simp))
       first | replace B := below_chain B hb | (have B : Below w.heap.size w w1 := below_chain (by (repeat (first | exact Below.refl _ _ | assumption | refine below_alloc ?_ _ | refine below_drewN ?_ _ | refine below_set ?_ _ (by simp; try omega) | refine Below.drew ?_))) hb)
       have g1 := Lib.hid ((hr.alloc _).below hb)
       clear hb)
    | (go_at_call 89
       refine (c_size _ _ _ l _ HN.out hs g1.out hl).mono ?_
       rintro e w1 ⟨rfl, hb⟩
       first | replace k0 := cell_later hb k0 | (have k0 : w1.cell? ⟨w.heap.size, 0, none⟩ = some (.slice A n c) := cell_later hb (by go_simp))
       first | replace B := below_chain B hb | (have B : Below w.heap.size w w1 := below_chain (by (repeat (first | exact Below.refl _ _ | assumption | refine below_alloc ?_ _ | refine below_drewN ?_ _ | refine below_set ?_ _ (by simp; try omega) | refine Below.drew ?_))) hb)
       clear hb)
    )
  go_ret2
  exact ⟨rfl, B⟩
end Go.Proofs.Ythhedpdldjmfpaa
