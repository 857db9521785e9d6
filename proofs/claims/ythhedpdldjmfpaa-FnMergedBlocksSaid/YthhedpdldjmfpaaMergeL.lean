/- The walk of the law FnExactMergeBlocks. -/
import Derived.Test.YthhedpdldjmfpaaMergeS
import Derived.Test.YthhedpdldjmfpaaMark
namespace Go.Proofs.Ythhedpdldjmfpaa
open Go.RowKit

theorem mrgR_len (l : List Seg) (fs : List Int) (b : Int) : (mrgR l fs b).length ≤ fs.length := by
  unfold mrgR
  split
  · rename_i h
    unfold mrgC at h
    split at h
    · rename_i h2
      rcases codeB_cases l fs b with ⟨_, _, h0, h1⟩ | ⟨h9, _⟩
      · simp; omega
      · exact absurd h2 h9
    · rename_i h2
      exact absurd h h2
  · simp
set_option maxRecDepth 100000 in
theorem law_MergeBlocks (A : Option Addr) (c n : Nat) (l : List Seg) (A' : Option Addr) (c' n' : Nat) (fs : List Int) (b : Int) (w : World) (hn : n = l.length) (hm : n ≤ 9223372036854775807) (hr : Rd w A (segCells l)) (hn' : n' = fs.length) (hm' : n' ≤ 9223372036854775807) (hr' : Rd w A' (ints fs)) :
    Calls Try.prog 12 #[.agg #[.slice A n c], .slice A' n' c', .int .i64 b] w fun e w' => e = .returned (.bool true) ∧ Below w.heap.size w w' := by
  have HN := Lib.hid hn
  have HN' := Lib.hid hn'
  clear hn hn'
  rcases Nat.lt_or_ge 1048576 n' with hs' | hs'
  · skip
    go_enter Try.func12, Try.ntmps12
    go_wp2
    go_ret
    exact ⟨rfl, by (repeat (first | exact Below.refl _ _ | assumption | refine below_alloc ?_ _ | refine below_drewN ?_ _ | refine below_set ?_ _ (by simp; try omega) | refine Below.drew ?_))⟩
  rcases Nat.lt_or_ge 1048576 n with hs | hs
  · have hsz : szI 1048576 n = -1 := by unfold szI; rw [if_pos (by omega)]
    go_enter Try.func12, Try.ntmps12
    go_wp2_with (first
      | (go_at_call 25
         refine (c_szLayout _ _ _ _ _ hm (by omega) (by omega)).mono ?_
         rintro e w1 ⟨rfl, hb⟩
         first | replace B := below_chain B hb | (have B : Below w.heap.size w w1 := below_chain (by (repeat (first | exact Below.refl _ _ | assumption | refine below_alloc ?_ _ | refine below_drewN ?_ _ | refine below_set ?_ _ (by simp; try omega) | refine Below.drew ?_))) hb)
         clear hb)
      )
    go_ret
    exact ⟨rfl, by (repeat (first | exact Below.refl _ _ | assumption | refine below_alloc ?_ _ | refine below_drewN ?_ _ | refine below_set ?_ _ (by simp; try omega) | refine Below.drew ?_))⟩
  have hsz : szI 1048576 n = 1048576 - n := by unfold szI; rw [if_neg (by omega)]
  have HD : Hid ((mrgR l fs b).length ≤ 1048576) := Lib.hid (by have := HN'.out; exact (by have := mrgR_len l fs b; omega))
  go_enter Try.func12, Try.ntmps12
  go_wp2_with (fail)
  refine (c_szLayout _ _ _ _ _ hm (by omega) (by omega)).mono ?_
  rintro e w1 ⟨rfl, hb⟩
  have hstep : Below w.heap.size w w1 := below_chain (by (repeat (first | exact Below.refl _ _ | assumption | refine below_alloc ?_ _ | refine below_drewN ?_ _ | refine below_set ?_ _ (by simp; try omega) | refine Below.drew ?_))) hb
  have B : Below w.heap.size w w1 := hstep
  have k0 : w1.cell? ⟨w.heap.size, 0, none⟩ = some (.slice A n c) := cell_later hb (by go_simp)
  clear hb hstep
  have hz0 := World.block_lt_of_cell? _ _ k0
  have F_w1 : Below w1.heap.size w1 w1 := Below.refl _ _
  have S_w_w1 : w.heap.size ≤ w1.heap.size := B.size
  go_wp2_with (fail)
  refine (c_toLayout _ _ _ l _ HN.out hs (by exact hr.below B)).mono ?_
  rintro e w2 ⟨A1, c1, rfl, ho1, hb⟩
  have hstep : Below w1.heap.size w1 w2 := below_chain (by (repeat (first | exact Below.refl _ _ | assumption | refine below_alloc ?_ _ | refine below_drewN ?_ _ | refine below_set ?_ _ (by simp; try omega) | refine Below.drew ?_))) hb
  replace k0 := cell_later hstep k0
  replace B := below_chain B hstep
  replace F_w1 := below_chain F_w1 hstep
  have r1 := Rd.own ho1
  clear hb hstep
  have F_w2 : Below w2.heap.size w2 w2 := Below.refl _ _
  have S_w1_w2 : w1.heap.size ≤ w2.heap.size := F_w1.size
  have S_w_w2 : w.heap.size ≤ w2.heap.size := B.size
  go_wp2_with (fail)
  refine (c_toInt64S _ _ _ fs _ HN'.out hs' (by exact hr'.below B)).mono ?_
  rintro e w3 ⟨A2, c2, rfl, ho2, hb⟩
  have hstep : Below w2.heap.size w2 w3 := below_chain (by (repeat (first | exact Below.refl _ _ | assumption | refine below_alloc ?_ _ | refine below_drewN ?_ _ | refine below_set ?_ _ (by simp; try omega) | refine Below.drew ?_))) hb
  replace k0 := cell_later hstep k0
  replace B := below_chain B hstep
  replace F_w1 := below_chain F_w1 hstep
  replace F_w2 := below_chain F_w2 hstep
  have r2 := Rd.own ho2
  clear hb hstep
  have hcap := own_cap ho2
  unfold maxLen at hcap
  have lb : LB w3 A1 l.length l A2 c2 fs.length fs := ⟨rfl, (by have := HN.out; omega), r1.below F_w2, rfl, (by have := HN'.out; omega), hcap.1, hcap.2, r2⟩
  clear ho1 ho2 hcap r1 r2
  go_wp2_with (fail)
  refine (c_sMergeBlocks _ b lb).mono ?_
  rintro e w4 ⟨Aw, cw, rfl, how, hb⟩
  have hstep : Below w3.heap.size w3 w4 := below_chain (by (repeat (first | exact Below.refl _ _ | assumption | refine below_alloc ?_ _ | refine below_drewN ?_ _ | refine below_set ?_ _ (by simp; try omega) | refine Below.drew ?_))) hb
  replace k0 := cell_later hstep k0
  replace B := below_chain B hstep
  replace F_w1 := below_chain F_w1 hstep
  replace F_w2 := below_chain F_w2 hstep
  have rw4 := Rd.own how
  clear hb hstep
  clear how lb
  have F_w4 : Below w4.heap.size w4 w4 := Below.refl _ _
  have S_w1_w4 : w1.heap.size ≤ w4.heap.size := F_w1.size
  have S_w2_w4 : w2.heap.size ≤ w4.heap.size := F_w2.size
  have S_w_w4 : w.heap.size ≤ w4.heap.size := B.size
  go_wp2_with (fail)
  refine (c_toLayout _ _ _ l _ HN.out hs (by exact hr.below B)).mono ?_
  rintro e w5 ⟨Ax, cx, rfl, hox, hb⟩
  have hstep : Below w4.heap.size w4 w5 := below_chain (by (repeat (first | exact Below.refl _ _ | assumption | refine below_alloc ?_ _ | refine below_drewN ?_ _ | refine below_set ?_ _ (by simp; try omega) | refine Below.drew ?_))) hb
  replace k0 := cell_later hstep k0
  replace B := below_chain B hstep
  replace F_w1 := below_chain F_w1 hstep
  replace F_w2 := below_chain F_w2 hstep
  replace F_w4 := below_chain F_w4 hstep
  have rx := Rd.own hox
  clear hb hstep
  have hx : Hid (∀ q, (Value.slice Ax l.length cx).ownBlock = some q → w4.heap.size ≤ q ∧ q < w5.heap.size) := Lib.hid hox.lt
  have F_w5 : Below w5.heap.size w5 w5 := Below.refl _ _
  have S_w1_w5 : w1.heap.size ≤ w5.heap.size := F_w1.size
  have S_w2_w5 : w2.heap.size ≤ w5.heap.size := F_w2.size
  have S_w4_w5 : w4.heap.size ≤ w5.heap.size := F_w4.size
  have S_w_w5 : w.heap.size ≤ w5.heap.size := B.size
  go_wp2_with (fail)
  refine (c_toInt64S _ _ _ fs _ HN'.out hs' (by exact (hr'.below B).alloc _)).mono ?_
  rintro e w6 ⟨Ay, cy, rfl, hoy, hb⟩
  have hstep : Below w5.heap.size w5 w6 := below_chain (by (repeat (first | exact Below.refl _ _ | assumption | refine below_alloc ?_ _ | refine below_drewN ?_ _ | refine below_set ?_ _ (by simp; try omega) | refine Below.drew ?_))) hb
  replace k0 := cell_later hstep k0
  replace B := below_chain B hstep
  replace F_w1 := below_chain F_w1 hstep
  replace F_w2 := below_chain F_w2 hstep
  replace F_w4 := below_chain F_w4 hstep
  replace F_w5 := below_chain F_w5 hstep
  have ry := Rd.own hoy
  have k1 : w6.cell? ⟨w5.heap.size, 0, none⟩ = some (.slice Ax l.length cx) := cell_later hb (by go_simp)
  have hz1 := World.block_lt_of_cell? _ _ k1
  clear hb hstep
  have hy : Hid (∀ q, (Value.slice Ay fs.length cy).ownBlock = some q → w5.heap.size + 1 ≤ q ∧ q < w6.heap.size) := Lib.hid (fun q hq => by have := hoy.lt q hq; simp at this; omega)
  have hcap := own_cap hoy
  unfold maxLen at hcap
  have F_w6 : Below w6.heap.size w6 w6 := Below.refl _ _
  have S_w1_w6 : w1.heap.size ≤ w6.heap.size := F_w1.size
  have S_w2_w6 : w2.heap.size ≤ w6.heap.size := F_w2.size
  have S_w4_w6 : w4.heap.size ≤ w6.heap.size := F_w4.size
  have S_w5_w6 : w5.heap.size ≤ w6.heap.size := F_w5.size
  have S_w_w6 : w.heap.size ≤ w6.heap.size := B.size
  have lb : LB w6 Ax l.length l Ay cy fs.length fs := ⟨rfl, (by have := HN.out; omega), rx.below F_w5, rfl, (by have := HN'.out; omega), hcap.1, hcap.2, ry⟩
  clear hcap
  go_wp2_with (fail)
  refine (c_MergeBlocks _ b lb).mono ?_
  rintro e w7 ⟨Ag, cg, rfl, hog, hb⟩
  have hstep : Below w6.heap.size w6 w7 := below_chain (by (repeat (first | exact Below.refl _ _ | assumption | refine below_alloc ?_ _ | refine below_drewN ?_ _ | refine below_set ?_ _ (by simp; try omega) | refine Below.drew ?_))) hb
  replace k0 := cell_later hstep k0
  replace k1 := cell_later hstep k1
  replace B := below_chain B hstep
  replace F_w1 := below_chain F_w1 hstep
  replace F_w2 := below_chain F_w2 hstep
  replace F_w4 := below_chain F_w4 hstep
  replace F_w5 := below_chain F_w5 hstep
  replace F_w6 := below_chain F_w6 hstep
  clear hb hstep
  clear lb
  have F_w7 : Below w7.heap.size w7 w7 := Below.refl _ _
  have S_w1_w7 : w1.heap.size ≤ w7.heap.size := F_w1.size
  have S_w2_w7 : w2.heap.size ≤ w7.heap.size := F_w2.size
  have S_w4_w7 : w4.heap.size ≤ w7.heap.size := F_w4.size
  have S_w5_w7 : w5.heap.size ≤ w7.heap.size := F_w5.size
  have S_w6_w7 : w6.heap.size ≤ w7.heap.size := F_w6.size
  have S_w_w7 : w.heap.size ≤ w7.heap.size := B.size
  go_wp2_with (fail)
  refine (c_eqInt64S _ _ _ _ _ _ (mrgR l fs b) _ rfl rfl (by have := HD.out; omega) (by exact (Rd.own hog).below F_w7) (by exact rw4.below F_w4)).mono ?_
  rintro e w8 ⟨rfl, hb⟩
  have hstep : Below w7.heap.size w7 w8 := below_chain (by (repeat (first | exact Below.refl _ _ | assumption | refine below_alloc ?_ _ | refine below_drewN ?_ _ | refine below_set ?_ _ (by simp; try omega) | refine Below.drew ?_))) hb
  replace k0 := cell_later hstep k0
  replace k1 := cell_later hstep k1
  replace B := below_chain B hstep
  replace F_w1 := below_chain F_w1 hstep
  replace F_w2 := below_chain F_w2 hstep
  replace F_w4 := below_chain F_w4 hstep
  replace F_w5 := below_chain F_w5 hstep
  replace F_w6 := below_chain F_w6 hstep
  replace F_w7 := below_chain F_w7 hstep
  clear hb hstep
  go_wp2_with (fail)
  have HRX := Lib.hid (rx.below F_w5)
  have HRA := Lib.hid (hr.below B)
  go_region_held3 (fun w' => w'.cell? ⟨w5.heap.size, 0, none⟩ = some (.slice Ax l.length cx) ∧ w'.cell? ⟨w.heap.size, 0, none⟩ = some (.slice A n c)) (first | exact ⟨k1, k0⟩ | exact ⟨k1a, k0a⟩ | exact ⟨k1b, k0b⟩)
    (first
      | (go_at_call 27
         refine (c_toLayout _ _ _ l _ HN.out hs (by exact HRA.out)).mono ?_
         rintro e w9 ⟨A8, c8, rfl, ho8, hb⟩
         have r8 := Lib.hid (Rd.own ho8)
         have k1a := cell_later hb (by exact k1)
         have k0a := cell_later hb (by exact k0)
         have HB8 := Lib.hid (show Below w8.heap.size w8 w9 from below_chain (by exact (Below.refl _ _).drew) hb)
         have HR8 := Lib.hid (Rd.below (by exact HRX.out) HB8.out)
         clear hb ho8)
      | (go_at_call 30
         refine (c_eqLayout _ _ _ _ _ _ l _ rfl rfl (by have := HN.out; omega) HR8.out r8.out).mono ?_
         rintro e w10 ⟨rfl, hb⟩
         have k1b := cell_later hb k1a
         have k0b := cell_later hb k0a
         have HB9 := Lib.hid (below_chain HB8.out hb)
         clear hb))
  have hstep := HB9.out
  clear k1a k1
  have k1 := k1b
  clear k1b
  clear k0a k0
  have k0 := k0b
  clear k0b
  replace F_w1 := below_chain F_w1 hstep
  replace F_w2 := below_chain F_w2 hstep
  replace F_w4 := below_chain F_w4 hstep
  replace F_w5 := below_chain F_w5 hstep
  replace F_w6 := below_chain F_w6 hstep
  replace F_w7 := below_chain F_w7 hstep
  replace B := below_chain B hstep
  clear hstep HB8 HB9 HR8 r8 HRX HRA
  go_wp2_with (fail)
  refine (c_toInt64S _ _ _ fs _ HN'.out hs' (by exact hr'.below B)).mono ?_
  rintro e w11 ⟨A6, c6, rfl, ho, hb⟩
  have hstep : Below w10.heap.size w10 w11 := below_chain (by (repeat (first | exact Below.refl _ _ | assumption | refine below_alloc ?_ _ | refine below_drewN ?_ _ | refine below_set ?_ _ (by simp; try omega) | refine Below.drew ?_))) hb
  replace k0 := cell_later hstep k0
  replace k1 := cell_later hstep k1
  replace B := below_chain B hstep
  replace F_w1 := below_chain F_w1 hstep
  replace F_w2 := below_chain F_w2 hstep
  replace F_w4 := below_chain F_w4 hstep
  replace F_w5 := below_chain F_w5 hstep
  replace F_w6 := below_chain F_w6 hstep
  replace F_w7 := below_chain F_w7 hstep
  clear hb hstep
  go_wp2_with (fail)
  refine (c_eqInt64S _ _ _ _ _ _ fs _ rfl rfl (by have := HN'.out; omega) (by exact ry.below F_w6) (by exact Rd.own ho)).mono ?_
  rintro e w12 ⟨rfl, hb⟩
  have hstep : Below w11.heap.size w11 w12 := below_chain (by (repeat (first | exact Below.refl _ _ | assumption | refine below_alloc ?_ _ | refine below_drewN ?_ _ | refine below_set ?_ _ (by simp; try omega) | refine Below.drew ?_))) hb
  replace k0 := cell_later hstep k0
  replace k1 := cell_later hstep k1
  replace B := below_chain B hstep
  replace F_w1 := below_chain F_w1 hstep
  replace F_w2 := below_chain F_w2 hstep
  replace F_w4 := below_chain F_w4 hstep
  replace F_w5 := below_chain F_w5 hstep
  replace F_w6 := below_chain F_w6 hstep
  replace F_w7 := below_chain F_w7 hstep
  clear hb hstep
  clear ho
  have hrow := fun q hq => (hx.out q hq).1
  have hrow2 := fun q hq => (hx.out q hq).2
  go_wp2_with (fail)
  refine (c_markLayout _ _ _ _ _ 1 _ (by omega) (by have := HN.out; omega) (by exact own_below hox F_w5)).mono ?_
  rintro e w13 ⟨rfl, hg⟩
  replace hg := grown_trans (grown_of_below (show Below w12.heap.size w12 _ from (by (repeat (first | exact Below.refl _ _ | assumption | refine below_alloc ?_ _ | refine below_drewN ?_ _ | refine below_set ?_ _ (by simp; try omega) | refine Below.drew ?_)))) _) hg
  replace F_w1 := below_of_grown F_w1 hg (fun q hq => Nat.le_trans S_w1_w4 (hrow q hq))
  replace F_w2 := below_of_grown F_w2 hg (fun q hq => Nat.le_trans S_w2_w4 (hrow q hq))
  replace F_w4 := below_of_grown F_w4 hg hrow
  replace B := below_of_grown B hg (fun q hq => Nat.le_trans S_w_w4 (hrow q hq))
  replace k0 := cell_mark k0 hg (by intro q hq; have := hrow q hq; have := hrow2 q hq; (try simp); omega)
  replace k1 := cell_mark k1 hg (by intro q hq; have := hrow q hq; have := hrow2 q hq; (try simp); omega)
  have hog13 := kept_far (own_below hog F_w7) hg (fun q hq => by have := hrow2 q hq; omega)
  have hoy13 := kept_far (own_below hoy F_w6) hg (fun q hq => by have := hrow2 q hq; simp; omega)
  clear hg hrow hrow2 F_w5 F_w6 F_w7
  have F_w13 : Below w13.heap.size w13 w13 := Below.refl _ _
  have S_w1_w13 : w1.heap.size ≤ w13.heap.size := F_w1.size
  have S_w2_w13 : w2.heap.size ≤ w13.heap.size := F_w2.size
  have S_w4_w13 : w4.heap.size ≤ w13.heap.size := F_w4.size
  have S_w_w13 : w.heap.size ≤ w13.heap.size := B.size
  have hrow : ∀ q, (Value.slice Ay fs.length cy).ownBlock = some q → w4.heap.size ≤ q := fun q hq => by have := hy.out q hq; omega
  have hrow2 := hy.out
  go_wp2_with (fail)
  refine (c_markInt64S _ _ _ _ _ _ _ (by omega) (by have := HN.out; have := HN'.out; omega) (by exact own_below hoy13 F_w13)).mono ?_
  rintro e w14 ⟨rfl, _, hg⟩
  replace hg := grown_trans (grown_of_below (show Below w13.heap.size w13 _ from (by (repeat (first | exact Below.refl _ _ | assumption | refine below_alloc ?_ _ | refine below_drewN ?_ _ | refine below_set ?_ _ (by simp; try omega) | refine Below.drew ?_)))) _) hg
  replace F_w1 := below_of_grown F_w1 hg (fun q hq => Nat.le_trans S_w1_w4 (hrow q hq))
  replace F_w2 := below_of_grown F_w2 hg (fun q hq => Nat.le_trans S_w2_w4 (hrow q hq))
  replace F_w4 := below_of_grown F_w4 hg hrow
  replace B := below_of_grown B hg (fun q hq => Nat.le_trans S_w_w4 (hrow q hq))
  replace k0 := cell_mark k0 hg (by intro q hq; have := hrow q hq; have := hrow2 q hq; (try simp); omega)
  replace k1 := cell_mark k1 hg (by intro q hq; have := hrow q hq; have := hrow2 q hq; (try simp); omega)
  have hog14 := kept_far (own_below hog13 F_w13) hg (fun q hq => by have := hrow2 q hq; omega)
  clear hg hrow hrow2 F_w13
  clear hog13 hoy13
  have F_w14 : Below w14.heap.size w14 w14 := Below.refl _ _
  have S_w1_w14 : w1.heap.size ≤ w14.heap.size := F_w1.size
  have S_w2_w14 : w2.heap.size ≤ w14.heap.size := F_w2.size
  have S_w4_w14 : w4.heap.size ≤ w14.heap.size := F_w4.size
  have S_w_w14 : w.heap.size ≤ w14.heap.size := B.size
  go_wp2_with (fail)
  refine (c_eqInt64S _ _ _ _ _ _ (mrgR l fs b) _ rfl rfl (by have := HD.out; omega) (by exact (Rd.own hog14).below F_w14) (by exact rw4.below F_w4)).mono ?_
  rintro e w15 ⟨rfl, hb⟩
  have hstep : Below w14.heap.size w14 w15 := below_chain (by (repeat (first | exact Below.refl _ _ | assumption | refine below_alloc ?_ _ | refine below_drewN ?_ _ | refine below_set ?_ _ (by simp; try omega) | refine Below.drew ?_))) hb
  replace k0 := cell_later hstep k0
  replace k1 := cell_later hstep k1
  replace B := below_chain B hstep
  replace F_w1 := below_chain F_w1 hstep
  replace F_w2 := below_chain F_w2 hstep
  replace F_w4 := below_chain F_w4 hstep
  replace F_w14 := below_chain F_w14 hstep
  clear hb hstep
  have hrow : ∀ q, (Value.slice Ag (mrgR l fs b).length cg).ownBlock = some q → w4.heap.size ≤ q := fun q hq => by have := (hog14.lt q hq).1; omega
  have hrow2 := fun q hq => (hog14.lt q hq).1
  go_wp2_with (fail)
  refine (c_markInt64S _ _ _ _ _ 1 _ (by omega) (by have := HD.out; omega) (by exact own_below hog14 F_w14)).mono ?_
  rintro e w16 ⟨rfl, hmk, hg⟩
  replace hg := grown_trans (grown_of_below (show Below w15.heap.size w15 _ from (by (repeat (first | exact Below.refl _ _ | assumption | refine below_alloc ?_ _ | refine below_drewN ?_ _ | refine below_set ?_ _ (by simp; try omega) | refine Below.drew ?_)))) _) hg
  replace F_w1 := below_of_grown F_w1 hg (fun q hq => Nat.le_trans S_w1_w4 (hrow q hq))
  replace F_w2 := below_of_grown F_w2 hg (fun q hq => Nat.le_trans S_w2_w4 (hrow q hq))
  replace F_w4 := below_of_grown F_w4 hg hrow
  replace B := below_of_grown B hg (fun q hq => Nat.le_trans S_w_w4 (hrow q hq))
  replace k0 := cell_mark k0 hg (by intro q hq; have := hrow q hq; have := hrow2 q hq; (try simp); omega)
  replace k1 := cell_mark k1 hg (by intro q hq; have := hrow q hq; have := hrow2 q hq; (try simp); omega)
  clear hg hrow hrow2 F_w14
  have F_w16 : Below w16.heap.size w16 w16 := Below.refl _ _
  have S_w1_w16 : w1.heap.size ≤ w16.heap.size := F_w1.size
  have S_w2_w16 : w2.heap.size ≤ w16.heap.size := F_w2.size
  have S_w4_w16 : w4.heap.size ≤ w16.heap.size := F_w4.size
  have S_w_w16 : w.heap.size ≤ w16.heap.size := B.size
  have rm := Rd.own hmk
  go_wp2_with (fail)
  refine (c_heldInt64S _ _ _ 1 _ (by omega) (by have := HD.out; omega) (by exact rm.below F_w16)).mono ?_
  rintro e w17 ⟨rfl, hb⟩
  have hstep : Below w16.heap.size w16 w17 := below_chain (by (repeat (first | exact Below.refl _ _ | assumption | refine below_alloc ?_ _ | refine below_drewN ?_ _ | refine below_set ?_ _ (by simp; try omega) | refine Below.drew ?_))) hb
  replace k0 := cell_later hstep k0
  replace k1 := cell_later hstep k1
  replace B := below_chain B hstep
  replace F_w1 := below_chain F_w1 hstep
  replace F_w2 := below_chain F_w2 hstep
  replace F_w4 := below_chain F_w4 hstep
  replace F_w16 := below_chain F_w16 hstep
  clear hb hstep
  go_wp2_with (fail)
  refine (c_toLayout _ _ _ l _ HN.out hs (by exact hr.below B)).mono ?_
  rintro e w18 ⟨A3, c3, rfl, ho3, hb⟩
  have hstep : Below w17.heap.size w17 w18 := below_chain (by (repeat (first | exact Below.refl _ _ | assumption | refine below_alloc ?_ _ | refine below_drewN ?_ _ | refine below_set ?_ _ (by simp; try omega) | refine Below.drew ?_))) hb
  replace k0 := cell_later hstep k0
  replace k1 := cell_later hstep k1
  replace B := below_chain B hstep
  replace F_w1 := below_chain F_w1 hstep
  replace F_w2 := below_chain F_w2 hstep
  replace F_w4 := below_chain F_w4 hstep
  replace F_w16 := below_chain F_w16 hstep
  have r3 := Rd.own ho3
  clear hb hstep
  have F_w18 : Below w18.heap.size w18 w18 := Below.refl _ _
  have S_w1_w18 : w1.heap.size ≤ w18.heap.size := F_w1.size
  have S_w2_w18 : w2.heap.size ≤ w18.heap.size := F_w2.size
  have S_w4_w18 : w4.heap.size ≤ w18.heap.size := F_w4.size
  have S_w16_w18 : w16.heap.size ≤ w18.heap.size := F_w16.size
  have S_w_w18 : w.heap.size ≤ w18.heap.size := B.size
  go_wp2_with (fail)
  refine (c_toInt64S _ _ _ fs _ HN'.out hs' (by exact hr'.below B)).mono ?_
  rintro e w19 ⟨A4, c4, rfl, ho4, hb⟩
  have hstep : Below w18.heap.size w18 w19 := below_chain (by (repeat (first | exact Below.refl _ _ | assumption | refine below_alloc ?_ _ | refine below_drewN ?_ _ | refine below_set ?_ _ (by simp; try omega) | refine Below.drew ?_))) hb
  replace k0 := cell_later hstep k0
  replace k1 := cell_later hstep k1
  replace B := below_chain B hstep
  replace F_w1 := below_chain F_w1 hstep
  replace F_w2 := below_chain F_w2 hstep
  replace F_w4 := below_chain F_w4 hstep
  replace F_w16 := below_chain F_w16 hstep
  replace F_w18 := below_chain F_w18 hstep
  have r4 := Rd.own ho4
  clear hb hstep
  have hcap := own_cap ho4
  unfold maxLen at hcap
  have lb : LB w19 A3 l.length l A4 c4 fs.length fs := ⟨rfl, (by have := HN.out; omega), r3.below F_w18, rfl, (by have := HN'.out; omega), hcap.1, hcap.2, r4⟩
  clear ho3 ho4 hcap r3 r4
  go_wp2_with (fail)
  refine (c_MergeBlocks _ b lb).mono ?_
  rintro e w20 ⟨Ah, ch, rfl, hoh, hb⟩
  have hstep : Below w19.heap.size w19 w20 := below_chain (by (repeat (first | exact Below.refl _ _ | assumption | refine below_alloc ?_ _ | refine below_drewN ?_ _ | refine below_set ?_ _ (by simp; try omega) | refine Below.drew ?_))) hb
  replace k0 := cell_later hstep k0
  replace k1 := cell_later hstep k1
  replace B := below_chain B hstep
  replace F_w1 := below_chain F_w1 hstep
  replace F_w2 := below_chain F_w2 hstep
  replace F_w4 := below_chain F_w4 hstep
  replace F_w16 := below_chain F_w16 hstep
  replace F_w18 := below_chain F_w18 hstep
  clear hb hstep
  clear lb
  go_wp2_with (fail)
  refine (c_eqInt64S _ _ _ _ _ _ (mrgR l fs b) _ rfl rfl (by have := HD.out; omega) (by exact Rd.own hoh) (by exact rw4.below F_w4)).mono ?_
  rintro e w21 ⟨rfl, hb⟩
  have hstep : Below w20.heap.size w20 w21 := below_chain (by (repeat (first | exact Below.refl _ _ | assumption | refine below_alloc ?_ _ | refine below_drewN ?_ _ | refine below_set ?_ _ (by simp; try omega) | refine Below.drew ?_))) hb
  replace k0 := cell_later hstep k0
  replace k1 := cell_later hstep k1
  replace B := below_chain B hstep
  replace F_w1 := below_chain F_w1 hstep
  replace F_w2 := below_chain F_w2 hstep
  replace F_w4 := below_chain F_w4 hstep
  replace F_w16 := below_chain F_w16 hstep
  replace F_w18 := below_chain F_w18 hstep
  clear hb hstep
  go_wp2_with (fail)
  refine (c_heldInt64S _ _ _ 1 _ (by omega) (by have := HD.out; omega) (by exact rm.below F_w16)).mono ?_
  rintro e w22 ⟨rfl, hb⟩
  have hstep : Below w21.heap.size w21 w22 := below_chain (by (repeat (first | exact Below.refl _ _ | assumption | refine below_alloc ?_ _ | refine below_drewN ?_ _ | refine below_set ?_ _ (by simp; try omega) | refine Below.drew ?_))) hb
  replace k0 := cell_later hstep k0
  replace k1 := cell_later hstep k1
  replace B := below_chain B hstep
  replace F_w1 := below_chain F_w1 hstep
  replace F_w2 := below_chain F_w2 hstep
  replace F_w4 := below_chain F_w4 hstep
  replace F_w16 := below_chain F_w16 hstep
  replace F_w18 := below_chain F_w18 hstep
  clear hb hstep
  go_wp2_with (fail)
  go_ret
  exact ⟨rfl, B⟩
end Go.Proofs.Ythhedpdldjmfpaa
