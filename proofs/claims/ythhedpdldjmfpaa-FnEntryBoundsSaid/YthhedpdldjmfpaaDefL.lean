/- The walk of the law FnExactDefaultBlocks. -/
import Derived.Test.YthhedpdldjmfpaaDef
import Derived.Test.YthhedpdldjmfpaaMark
namespace Go.Proofs.Ythhedpdldjmfpaa
open Go.RowKit

theorem dflR_len (l : List Seg) : (dflR l).length ≤ 8 := by
  have := dfl_len l (l.length - 1)
  by_cases h : dflC l = 0
  · rw [show dflR l = dfl l (l.length - 1) by unfold dflR; rw [if_pos h]]
    unfold dflC at h
    split at h
    · split at h
      · simp at h
      · split at h
        · simp at h
        · omega
    · simp at h
  · rw [show dflR l = [] by unfold dflR; rw [if_neg h]]
    simp
set_option maxRecDepth 100000 in
theorem law_DefaultBlocks (A : Option Addr) (c n : Nat) (l : List Seg) (w : World) (hn : n = l.length) (hm : n ≤ 9223372036854775807) (hr : Rd w A (segCells l)) :
    Calls Try.prog 5 #[.agg #[.slice A n c]] w fun e w' => e = .returned (.bool true) ∧ Below w.heap.size w w' := by
  have HN := Lib.hid hn
  clear hn
  rcases Nat.lt_or_ge 1048576 n with hs | hs
  · have hsz : szI 1048576 n = -1 := by unfold szI; rw [if_pos (by omega)]
    go_enter Try.func5, Try.ntmps5
    go_wp2_with (first
      | (go_at_call 25
         refine (c_szLayout _ _ _ _ _ hm (by omega) (by omega)).mono ?_
         rintro e w1 ⟨rfl, hb⟩
         first | replace B := below_chain B hb | (have B : Below w.heap.size w w1 := below_chain (by (repeat (first | exact Below.refl _ _ | assumption | refine below_alloc ?_ _ | refine below_drewN ?_ _ | refine below_set ?_ _ (by simp; try omega) | refine Below.drew ?_))) hb)
         clear hb)
      )
    go_ret
    exact ⟨rfl, by (repeat (first | exact Below.refl _ _ | assumption | refine below_alloc ?_ _ | refine below_drewN ?_ _ | refine below_set ?_ _ (by simp; try omega) | refine Below.drew ?_))⟩
  have hsz : szI 1048576 n = 1048576 - n := by unfold szI; rw [if_neg (by omega)]
  have HD := Lib.hid (dflR_len l)
  go_enter Try.func5, Try.ntmps5
  go_wp2_with (fail)
  refine (c_szLayout _ _ _ _ _ hm (by omega) (by omega)).mono ?_
  rintro e w1 ⟨rfl, hb⟩
  have hstep : Below w.heap.size w w1 := below_chain (by (repeat (first | exact Below.refl _ _ | assumption | refine below_alloc ?_ _ | refine below_drewN ?_ _ | refine below_set ?_ _ (by simp; try omega) | refine Below.drew ?_))) hb
  have B : Below w.heap.size w w1 := hstep
  have k0 : w1.cell? ⟨w.heap.size, 0, none⟩ = some (.slice A n c) := cell_later hb (by go_simp)
  clear hb hstep
  have hz0 := World.block_lt_of_cell? _ _ k0
  have F_w1 : Below w1.heap.size w1 w1 := Below.refl _ _
  have S_w_w1 : w.heap.size ≤ w1.heap.size := B.size
  go_wp2_with (fail)
  refine (c_toLayout _ _ _ l _ HN.out hs (by exact hr.below B)).mono ?_
  rintro e w2 ⟨A1, c1, rfl, ho, hb⟩
  have hstep : Below w1.heap.size w1 w2 := below_chain (by (repeat (first | exact Below.refl _ _ | assumption | refine below_alloc ?_ _ | refine below_drewN ?_ _ | refine below_set ?_ _ (by simp; try omega) | refine Below.drew ?_))) hb
  replace k0 := cell_later hstep k0
  replace B := below_chain B hstep
  replace F_w1 := below_chain F_w1 hstep
  clear hb hstep
  go_wp2_with (fail)
  refine (c_sDefaultBlocks _ _ _ l _ rfl (by have := HN.out; omega) (own_cap ho).1 (by have := (own_cap ho).2; unfold maxLen at this; omega) (Rd.own ho)).mono ?_
  rintro e w3 ⟨Aw, cw, rfl, how, hb⟩
  have hstep : Below w2.heap.size w2 w3 := below_chain (by (repeat (first | exact Below.refl _ _ | assumption | refine below_alloc ?_ _ | refine below_drewN ?_ _ | refine below_set ?_ _ (by simp; try omega) | refine Below.drew ?_))) hb
  replace k0 := cell_later hstep k0
  replace B := below_chain B hstep
  replace F_w1 := below_chain F_w1 hstep
  have rw3 := Rd.own how
  clear hb hstep
  clear ho how
  have F_w3 : Below w3.heap.size w3 w3 := Below.refl _ _
  have S_w1_w3 : w1.heap.size ≤ w3.heap.size := F_w1.size
  have S_w_w3 : w.heap.size ≤ w3.heap.size := B.size
  go_wp2_with (fail)
  refine (c_toLayout _ _ _ l _ HN.out hs (by exact hr.below B)).mono ?_
  rintro e w4 ⟨Ax, cx, rfl, hox, hb⟩
  have hstep : Below w3.heap.size w3 w4 := below_chain (by (repeat (first | exact Below.refl _ _ | assumption | refine below_alloc ?_ _ | refine below_drewN ?_ _ | refine below_set ?_ _ (by simp; try omega) | refine Below.drew ?_))) hb
  replace k0 := cell_later hstep k0
  replace B := below_chain B hstep
  replace F_w1 := below_chain F_w1 hstep
  replace F_w3 := below_chain F_w3 hstep
  have rx := Rd.own hox
  clear hb hstep
  have hx : Hid (∀ q, (Value.slice Ax l.length cx).ownBlock = some q → w3.heap.size ≤ q ∧ q < w4.heap.size) := Lib.hid hox.lt
  have hcx := own_cap hox
  have F_w4 : Below w4.heap.size w4 w4 := Below.refl _ _
  have S_w1_w4 : w1.heap.size ≤ w4.heap.size := F_w1.size
  have S_w3_w4 : w3.heap.size ≤ w4.heap.size := F_w3.size
  have S_w_w4 : w.heap.size ≤ w4.heap.size := B.size
  go_wp2_with (fail)
  refine (c_DefaultBlocks _ _ _ l _ rfl (by have := HN.out; omega) hcx.1 (by have := hcx.2; unfold maxLen at this; omega) (by exact rx.alloc _)).mono ?_
  rintro e w5 ⟨Ag, cg, rfl, hog, hb⟩
  have hstep : Below w4.heap.size w4 w5 := below_chain (by (repeat (first | exact Below.refl _ _ | assumption | refine below_alloc ?_ _ | refine below_drewN ?_ _ | refine below_set ?_ _ (by simp; try omega) | refine Below.drew ?_))) hb
  replace k0 := cell_later hstep k0
  replace B := below_chain B hstep
  replace F_w1 := below_chain F_w1 hstep
  replace F_w3 := below_chain F_w3 hstep
  replace F_w4 := below_chain F_w4 hstep
  have k1 : w5.cell? ⟨w4.heap.size, 0, none⟩ = some (.slice Ax l.length cx) := cell_later hb (by go_simp)
  have hz1 := World.block_lt_of_cell? _ _ k1
  clear hb hstep
  have F_w5 : Below w5.heap.size w5 w5 := Below.refl _ _
  have S_w1_w5 : w1.heap.size ≤ w5.heap.size := F_w1.size
  have S_w3_w5 : w3.heap.size ≤ w5.heap.size := F_w3.size
  have S_w4_w5 : w4.heap.size ≤ w5.heap.size := F_w4.size
  have S_w_w5 : w.heap.size ≤ w5.heap.size := B.size
  go_wp2_with (fail)
  refine (c_eqInt64S _ _ _ _ _ _ (dflR l) _ rfl rfl (by have := HD.out; omega) (by exact (Rd.own hog).below F_w5) (by exact rw3.below F_w3)).mono ?_
  rintro e w6 ⟨rfl, hb⟩
  have hstep : Below w5.heap.size w5 w6 := below_chain (by (repeat (first | exact Below.refl _ _ | assumption | refine below_alloc ?_ _ | refine below_drewN ?_ _ | refine below_set ?_ _ (by simp; try omega) | refine Below.drew ?_))) hb
  replace k0 := cell_later hstep k0
  replace k1 := cell_later hstep k1
  replace B := below_chain B hstep
  replace F_w1 := below_chain F_w1 hstep
  replace F_w3 := below_chain F_w3 hstep
  replace F_w4 := below_chain F_w4 hstep
  replace F_w5 := below_chain F_w5 hstep
  clear hb hstep
  go_wp2_with (fail)
  have HRX := Lib.hid (rx.below F_w4)
  have HRA := Lib.hid (hr.below B)
  go_region_held3 (fun w' => w'.cell? ⟨w4.heap.size, 0, none⟩ = some (.slice Ax l.length cx) ∧ w'.cell? ⟨w.heap.size, 0, none⟩ = some (.slice A n c)) (first | exact ⟨k1, k0⟩ | exact ⟨k1a, k0a⟩ | exact ⟨k1b, k0b⟩)
    (first
      | (go_at_call 27
         refine (c_toLayout _ _ _ l _ HN.out hs (by exact HRA.out)).mono ?_
         rintro e w7 ⟨A8, c8, rfl, ho8, hb⟩
         have r8 := Lib.hid (Rd.own ho8)
         have k1a := cell_later hb (by exact k1)
         have k0a := cell_later hb (by exact k0)
         have HB8 := Lib.hid (show Below w6.heap.size w6 w7 from below_chain (by exact (Below.refl _ _).drew) hb)
         have HR8 := Lib.hid (Rd.below (by exact HRX.out) HB8.out)
         clear hb ho8)
      | (go_at_call 30
         refine (c_eqLayout _ _ _ _ _ _ l _ rfl rfl (by have := HN.out; omega) HR8.out r8.out).mono ?_
         rintro e w8 ⟨rfl, hb⟩
         have k1b := cell_later hb k1a
         have k0b := cell_later hb k0a
         have HB9 := Lib.hid (below_chain HB8.out hb)
         clear hb))
  have hstep := HB9.out
  clear k1a k1
  have k1 := k1b
  clear k1b
  clear k0a k0
  have k0 := k0b
  clear k0b
  replace F_w1 := below_chain F_w1 hstep
  replace F_w3 := below_chain F_w3 hstep
  replace F_w4 := below_chain F_w4 hstep
  replace F_w5 := below_chain F_w5 hstep
  replace B := below_chain B hstep
  clear hstep HB8 HB9 HR8 r8 HRX HRA
  have hrow := fun q hq => (hx.out q hq).1
  have hrow2 := fun q hq => (hx.out q hq).2
  go_wp2_with (fail)
  refine (c_markLayout _ _ _ _ _ 1 _ (by omega) (by have := HN.out; omega) (by exact own_below hox F_w4)).mono ?_
  rintro e w9 ⟨rfl, hg⟩
  replace hg := grown_trans (grown_of_below (show Below w8.heap.size w8 _ from (by (repeat (first | exact Below.refl _ _ | assumption | refine below_alloc ?_ _ | refine below_drewN ?_ _ | refine below_set ?_ _ (by simp; try omega) | refine Below.drew ?_)))) _) hg
  replace F_w1 := below_of_grown F_w1 hg (fun q hq => Nat.le_trans S_w1_w3 (hrow q hq))
  replace F_w3 := below_of_grown F_w3 hg hrow
  replace B := below_of_grown B hg (fun q hq => Nat.le_trans S_w_w3 (hrow q hq))
  replace k0 := cell_mark k0 hg (by intro q hq; have := hrow q hq; have := hrow2 q hq; (try simp); omega)
  replace k1 := cell_mark k1 hg (by intro q hq; have := hrow q hq; have := hrow2 q hq; (try simp); omega)
  have hog9 := kept_far (own_below hog F_w5) hg (fun q hq => by have := hrow2 q hq; simp; omega)
  clear hg hrow hrow2 F_w4 F_w5
  have F_w9 : Below w9.heap.size w9 w9 := Below.refl _ _
  have S_w1_w9 : w1.heap.size ≤ w9.heap.size := F_w1.size
  have S_w3_w9 : w3.heap.size ≤ w9.heap.size := F_w3.size
  have S_w_w9 : w.heap.size ≤ w9.heap.size := B.size
  go_wp2_with (fail)
  refine (c_eqInt64S _ _ _ _ _ _ (dflR l) _ rfl rfl (by have := HD.out; omega) (by exact (Rd.own hog9).below F_w9) (by exact rw3.below F_w3)).mono ?_
  rintro e w10 ⟨rfl, hb⟩
  have hstep : Below w9.heap.size w9 w10 := below_chain (by (repeat (first | exact Below.refl _ _ | assumption | refine below_alloc ?_ _ | refine below_drewN ?_ _ | refine below_set ?_ _ (by simp; try omega) | refine Below.drew ?_))) hb
  replace k0 := cell_later hstep k0
  replace k1 := cell_later hstep k1
  replace B := below_chain B hstep
  replace F_w1 := below_chain F_w1 hstep
  replace F_w3 := below_chain F_w3 hstep
  replace F_w9 := below_chain F_w9 hstep
  clear hb hstep
  have hg9 : ∀ q, (Value.slice Ag (dflR l).length cg).ownBlock = some q → w4.heap.size + 1 ≤ q ∧ q < w9.heap.size := fun q hq => by have := hog9.lt q hq; simp at this; omega
  have hrow : ∀ q, (Value.slice Ag (dflR l).length cg).ownBlock = some q → w3.heap.size ≤ q := fun q hq => by have := (hg9 q hq).1; omega
  have hrow2 := fun q hq => (hg9 q hq).1
  clear hg9
  go_wp2_with (fail)
  refine (c_markInt64S _ _ _ _ _ 1 _ (by omega) (by have := HD.out; omega) (by exact own_below hog9 F_w9)).mono ?_
  rintro e w11 ⟨rfl, hmk, hg⟩
  replace hg := grown_trans (grown_of_below (show Below w10.heap.size w10 _ from (by (repeat (first | exact Below.refl _ _ | assumption | refine below_alloc ?_ _ | refine below_drewN ?_ _ | refine below_set ?_ _ (by simp; try omega) | refine Below.drew ?_)))) _) hg
  replace F_w1 := below_of_grown F_w1 hg (fun q hq => Nat.le_trans S_w1_w3 (hrow q hq))
  replace F_w3 := below_of_grown F_w3 hg hrow
  replace B := below_of_grown B hg (fun q hq => Nat.le_trans S_w_w3 (hrow q hq))
  replace k0 := cell_mark k0 hg (by intro q hq; have := hrow q hq; have := hrow2 q hq; (try simp); omega)
  replace k1 := cell_mark k1 hg (by intro q hq; have := hrow q hq; have := hrow2 q hq; (try simp); omega)
  clear hg hrow hrow2 F_w9
  have F_w11 : Below w11.heap.size w11 w11 := Below.refl _ _
  have S_w1_w11 : w1.heap.size ≤ w11.heap.size := F_w1.size
  have S_w3_w11 : w3.heap.size ≤ w11.heap.size := F_w3.size
  have S_w_w11 : w.heap.size ≤ w11.heap.size := B.size
  have rm := Rd.own hmk
  go_wp2_with (fail)
  refine (c_heldInt64S _ _ _ 1 _ (by omega) (by have := HD.out; omega) (by exact rm.below F_w11)).mono ?_
  rintro e w12 ⟨rfl, hb⟩
  have hstep : Below w11.heap.size w11 w12 := below_chain (by (repeat (first | exact Below.refl _ _ | assumption | refine below_alloc ?_ _ | refine below_drewN ?_ _ | refine below_set ?_ _ (by simp; try omega) | refine Below.drew ?_))) hb
  replace k0 := cell_later hstep k0
  replace k1 := cell_later hstep k1
  replace B := below_chain B hstep
  replace F_w1 := below_chain F_w1 hstep
  replace F_w3 := below_chain F_w3 hstep
  replace F_w11 := below_chain F_w11 hstep
  clear hb hstep
  go_wp2_with (fail)
  refine (c_toLayout _ _ _ l _ HN.out hs (by exact hr.below B)).mono ?_
  rintro e w13 ⟨A3, c3, rfl, ho, hb⟩
  have hstep : Below w12.heap.size w12 w13 := below_chain (by (repeat (first | exact Below.refl _ _ | assumption | refine below_alloc ?_ _ | refine below_drewN ?_ _ | refine below_set ?_ _ (by simp; try omega) | refine Below.drew ?_))) hb
  replace k0 := cell_later hstep k0
  replace k1 := cell_later hstep k1
  replace B := below_chain B hstep
  replace F_w1 := below_chain F_w1 hstep
  replace F_w3 := below_chain F_w3 hstep
  replace F_w11 := below_chain F_w11 hstep
  clear hb hstep
  go_wp2_with (fail)
  refine (c_DefaultBlocks _ _ _ l _ rfl (by have := HN.out; omega) (own_cap ho).1 (by have := (own_cap ho).2; unfold maxLen at this; omega) (Rd.own ho)).mono ?_
  rintro e w14 ⟨Ah, ch, rfl, hoh, hb⟩
  have hstep : Below w13.heap.size w13 w14 := below_chain (by (repeat (first | exact Below.refl _ _ | assumption | refine below_alloc ?_ _ | refine below_drewN ?_ _ | refine below_set ?_ _ (by simp; try omega) | refine Below.drew ?_))) hb
  replace k0 := cell_later hstep k0
  replace k1 := cell_later hstep k1
  replace B := below_chain B hstep
  replace F_w1 := below_chain F_w1 hstep
  replace F_w3 := below_chain F_w3 hstep
  replace F_w11 := below_chain F_w11 hstep
  clear hb hstep
  go_wp2_with (fail)
  refine (c_eqInt64S _ _ _ _ _ _ (dflR l) _ rfl rfl (by have := HD.out; omega) (by exact Rd.own hoh) (by exact rw3.below F_w3)).mono ?_
  rintro e w15 ⟨rfl, hb⟩
  have hstep : Below w14.heap.size w14 w15 := below_chain (by (repeat (first | exact Below.refl _ _ | assumption | refine below_alloc ?_ _ | refine below_drewN ?_ _ | refine below_set ?_ _ (by simp; try omega) | refine Below.drew ?_))) hb
  replace k0 := cell_later hstep k0
  replace k1 := cell_later hstep k1
  replace B := below_chain B hstep
  replace F_w1 := below_chain F_w1 hstep
  replace F_w3 := below_chain F_w3 hstep
  replace F_w11 := below_chain F_w11 hstep
  clear hb hstep
  go_wp2_with (fail)
  refine (c_heldInt64S _ _ _ 1 _ (by omega) (by have := HD.out; omega) (by exact rm.below F_w11)).mono ?_
  rintro e w16 ⟨rfl, hb⟩
  have hstep : Below w15.heap.size w15 w16 := below_chain (by (repeat (first | exact Below.refl _ _ | assumption | refine below_alloc ?_ _ | refine below_drewN ?_ _ | refine below_set ?_ _ (by simp; try omega) | refine Below.drew ?_))) hb
  replace k0 := cell_later hstep k0
  replace k1 := cell_later hstep k1
  replace B := below_chain B hstep
  replace F_w1 := below_chain F_w1 hstep
  replace F_w3 := below_chain F_w3 hstep
  replace F_w11 := below_chain F_w11 hstep
  clear hb hstep
  go_wp2_with (fail)
  go_ret
  exact ⟨rfl, B⟩
end Go.Proofs.Ythhedpdldjmfpaa
