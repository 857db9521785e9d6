/- The walk of the law FnExactEntryBounds. -/
import Derived.Test.YthhedpdldjmfpaaEntB
import Derived.Test.YthhedpdldjmfpaaMark
namespace Go.Proofs.Ythhedpdldjmfpaa
open Go.RowKit

set_option maxRecDepth 100000 in
theorem law_EntryBounds (A : Option Addr) (c n : Nat) (l : List Seg) (A' : Option Addr) (c' n' : Nat) (fs : List Int) (b : Int) (w : World) (hn : n = l.length) (hm : n ≤ 9223372036854775807) (hr : Rd w A (segCells l)) (hn' : n' = fs.length) (hm' : n' ≤ 9223372036854775807) (hr' : Rd w A' (ints fs)) :
    Calls Try.prog 15 #[.agg #[.slice A n c], .slice A' n' c', .int .i64 b] w fun e w' => e = .returned (.bool true) ∧ Below w.heap.size w w' := by
  have HN := Lib.hid hn
  have HN' := Lib.hid hn'
  clear hn hn'
  rcases Nat.lt_or_ge 1048576 n' with hs' | hs'
  · skip
    go_enter Try.func15, Try.ntmps15
    go_wp2
    go_ret
    exact ⟨rfl, by (repeat (first | exact Below.refl _ _ | assumption | refine below_alloc ?_ _ | refine below_drewN ?_ _ | refine below_set ?_ _ (by simp; try omega) | refine Below.drew ?_))⟩
  rcases Nat.lt_or_ge 1048576 n with hs | hs
  · have hsz : szI 1048576 n = -1 := by unfold szI; rw [if_pos (by omega)]
    go_enter Try.func15, Try.ntmps15
    go_wp2_with (first
      | (go_at_call 25
         refine (c_szLayout _ _ _ _ _ hm (by omega) (by omega)).mono ?_
         rintro e w1 ⟨rfl, hb⟩
         first | replace B := below_chain B hb | (have B : Below w.heap.size w w1 := below_chain (by (repeat (first | exact Below.refl _ _ | assumption | refine below_alloc ?_ _ | refine below_drewN ?_ _ | refine below_set ?_ _ (by simp; try omega) | refine Below.drew ?_))) hb)
         clear hb)
      )
    go_ret
    exact ⟨rfl, by (repeat (first | exact Below.refl _ _ | assumption | refine below_alloc ?_ _ | refine below_drewN ?_ _ | refine below_set ?_ _ (by simp; try omega) | refine Below.drew ?_))⟩
  have hsz : szI 1048576 n = 1048576 - n := by unfold szI; rw [if_neg (by omega)]
  go_enter Try.func15, Try.ntmps15
  go_wp2_with (fail)
  refine (c_szLayout _ _ _ _ _ hm (by omega) (by omega)).mono ?_
  rintro e w1 ⟨rfl, hb⟩
  have hstep : Below w.heap.size w w1 := below_chain (by (repeat (first | exact Below.refl _ _ | assumption | refine below_alloc ?_ _ | refine below_drewN ?_ _ | refine below_set ?_ _ (by simp; try omega) | refine Below.drew ?_))) hb
  have B : Below w.heap.size w w1 := hstep
  have k0 : w1.cell? ⟨w.heap.size, 0, none⟩ = some (.slice A n c) := cell_later hb (by go_simp)
  clear hb hstep
  have hz0 := World.block_lt_of_cell? _ _ k0
  have F_w1 : Below w1.heap.size w1 w1 := Below.refl _ _
  have S_w_w1 : w.heap.size ≤ w1.heap.size := B.size
  go_wp2_with (fail)
  refine (c_toLayout _ _ _ l _ HN.out hs (by exact hr.below B)).mono ?_
  rintro e w2 ⟨A1, c1, rfl, ho1, hb⟩
  have hstep : Below w1.heap.size w1 w2 := below_chain (by (repeat (first | exact Below.refl _ _ | assumption | refine below_alloc ?_ _ | refine below_drewN ?_ _ | refine below_set ?_ _ (by simp; try omega) | refine Below.drew ?_))) hb
  replace k0 := cell_later hstep k0
  replace B := below_chain B hstep
  replace F_w1 := below_chain F_w1 hstep
  have r1 := Rd.own ho1
  clear hb hstep
  have F_w2 : Below w2.heap.size w2 w2 := Below.refl _ _
  have S_w1_w2 : w1.heap.size ≤ w2.heap.size := F_w1.size
  have S_w_w2 : w.heap.size ≤ w2.heap.size := B.size
  go_wp2_with (fail)
  refine (c_toInt64S _ _ _ fs _ HN'.out hs' (by exact hr'.below B)).mono ?_
  rintro e w3 ⟨A2, c2, rfl, ho2, hb⟩
  have hstep : Below w2.heap.size w2 w3 := below_chain (by (repeat (first | exact Below.refl _ _ | assumption | refine below_alloc ?_ _ | refine below_drewN ?_ _ | refine below_set ?_ _ (by simp; try omega) | refine Below.drew ?_))) hb
  replace k0 := cell_later hstep k0
  replace B := below_chain B hstep
  replace F_w1 := below_chain F_w1 hstep
  replace F_w2 := below_chain F_w2 hstep
  have r2 := Rd.own ho2
  clear hb hstep
  have hcap := own_cap ho2
  unfold maxLen at hcap
  have lb : LB w3 A1 l.length l A2 c2 fs.length fs := ⟨rfl, (by have := HN.out; omega), r1.below F_w2, rfl, (by have := HN'.out; omega), hcap.1, hcap.2, r2⟩
  clear ho1 ho2 hcap r1 r2
  go_wp2_with (fail)
  refine (c_sEntryBounds _ b lb).mono ?_
  rintro e w4 ⟨rfl, hb⟩
  have hstep : Below w3.heap.size w3 w4 := below_chain (by (repeat (first | exact Below.refl _ _ | assumption | refine below_alloc ?_ _ | refine below_drewN ?_ _ | refine below_set ?_ _ (by simp; try omega) | refine Below.drew ?_))) hb
  replace k0 := cell_later hstep k0
  replace B := below_chain B hstep
  replace F_w1 := below_chain F_w1 hstep
  replace F_w2 := below_chain F_w2 hstep
  clear hb hstep
  clear lb
  have hz4 := World.block_lt_of_cell? _ _ k0
  have F_w4 : Below w4.heap.size w4 w4 := Below.refl _ _
  have S_w1_w4 : w1.heap.size ≤ w4.heap.size := F_w1.size
  have S_w2_w4 : w2.heap.size ≤ w4.heap.size := F_w2.size
  have S_w_w4 : w.heap.size ≤ w4.heap.size := B.size
  go_wp2_with (fail)
  refine (c_toLayout _ _ _ l _ HN.out hs (by exact (hr.below B).alloc _)).mono ?_
  rintro e w5 ⟨Ax, cx, rfl, hox, hb⟩
  have hstep : Below w4.heap.size w4 w5 := below_chain (by (repeat (first | exact Below.refl _ _ | assumption | refine below_alloc ?_ _ | refine below_drewN ?_ _ | refine below_set ?_ _ (by simp; try omega) | refine Below.drew ?_))) hb
  replace k0 := cell_later hstep k0
  replace B := below_chain B hstep
  replace F_w1 := below_chain F_w1 hstep
  replace F_w2 := below_chain F_w2 hstep
  replace F_w4 := below_chain F_w4 hstep
  have rx := Rd.own hox
  have m0 : w5.cell? ⟨w4.heap.size, 0, none⟩ = some (.int .i64 (ebLo l fs b)) := cell_later hb (by go_simp)
  have m1 : w5.cell? ⟨w4.heap.size, 1, none⟩ = some (.int .i64 (ebHi l fs b)) := cell_later hb (by go_simp)
  clear hb hstep
  have hz5 := World.block_lt_of_cell? _ _ m0
  have hz5b := World.block_lt_of_cell? _ _ k0
  have F_w5 : Below w5.heap.size w5 w5 := Below.refl _ _
  have S_w1_w5 : w1.heap.size ≤ w5.heap.size := F_w1.size
  have S_w2_w5 : w2.heap.size ≤ w5.heap.size := F_w2.size
  have S_w4_w5 : w4.heap.size ≤ w5.heap.size := F_w4.size
  have S_w_w5 : w.heap.size ≤ w5.heap.size := B.size
  go_wp2_with (fail)
  refine (c_toInt64S _ _ _ fs _ HN'.out hs' (by exact (hr'.below B).alloc _)).mono ?_
  rintro e w6 ⟨Ay, cy, rfl, hoy, hb⟩
  have hstep : Below w5.heap.size w5 w6 := below_chain (by (repeat (first | exact Below.refl _ _ | assumption | refine below_alloc ?_ _ | refine below_drewN ?_ _ | refine below_set ?_ _ (by simp; try omega) | refine Below.drew ?_))) hb
  replace k0 := cell_later hstep k0
  replace m0 := cell_later hstep m0
  replace m1 := cell_later hstep m1
  replace B := below_chain B hstep
  replace F_w1 := below_chain F_w1 hstep
  replace F_w2 := below_chain F_w2 hstep
  replace F_w4 := below_chain F_w4 hstep
  replace F_w5 := below_chain F_w5 hstep
  have ry := Rd.own hoy
  have k1 : w6.cell? ⟨w5.heap.size, 0, none⟩ = some (.slice Ax l.length cx) := cell_later hb (by go_simp)
  have hz1 := World.block_lt_of_cell? _ _ k1
  clear hb hstep
  have F_w6 : Below w6.heap.size w6 w6 := Below.refl _ _
  have S_w1_w6 : w1.heap.size ≤ w6.heap.size := F_w1.size
  have S_w2_w6 : w2.heap.size ≤ w6.heap.size := F_w2.size
  have S_w4_w6 : w4.heap.size ≤ w6.heap.size := F_w4.size
  have S_w5_w6 : w5.heap.size ≤ w6.heap.size := F_w5.size
  have S_w_w6 : w.heap.size ≤ w6.heap.size := B.size
  have hcap := own_cap hoy
  unfold maxLen at hcap
  have hcx := (own_cap hox).1
  have lb : LB w6 Ax l.length l Ay cy fs.length fs := ⟨rfl, (by have := HN.out; omega), rx.below F_w5, rfl, (by have := HN'.out; omega), hcap.1, hcap.2, ry⟩
  clear hcap
  go_wp2_with (fail)
  refine (c_EntryBounds _ b hcx lb).mono ?_
  rintro e w7 ⟨rfl, hb⟩
  have hstep : Below w6.heap.size w6 w7 := below_chain (by (repeat (first | exact Below.refl _ _ | assumption | refine below_alloc ?_ _ | refine below_drewN ?_ _ | refine below_set ?_ _ (by simp; try omega) | refine Below.drew ?_))) hb
  replace k0 := cell_later hstep k0
  replace m0 := cell_later hstep m0
  replace m1 := cell_later hstep m1
  replace k1 := cell_later hstep k1
  replace B := below_chain B hstep
  replace F_w1 := below_chain F_w1 hstep
  replace F_w2 := below_chain F_w2 hstep
  replace F_w4 := below_chain F_w4 hstep
  replace F_w5 := below_chain F_w5 hstep
  replace F_w6 := below_chain F_w6 hstep
  clear hb hstep
  clear lb
  have hz7a := World.block_lt_of_cell? _ _ k0
  have hz7b := World.block_lt_of_cell? _ _ m0
  have hz7c := World.block_lt_of_cell? _ _ k1
  go_wp2_with (fail)
  refine (c_eqInterval _ _ _).mono ?_
  rintro e w8 ⟨rfl, hb⟩
  have hstep : Below w7.heap.size w7 w8 := below_chain (by (repeat (first | exact Below.refl _ _ | assumption | refine below_alloc ?_ _ | refine below_drewN ?_ _ | refine below_set ?_ _ (by simp; try omega) | refine Below.drew ?_))) hb
  replace k0 := cell_later hstep k0
  replace m0 := cell_later hstep m0
  replace m1 := cell_later hstep m1
  replace k1 := cell_later hstep k1
  replace B := below_chain B hstep
  replace F_w1 := below_chain F_w1 hstep
  replace F_w2 := below_chain F_w2 hstep
  replace F_w4 := below_chain F_w4 hstep
  replace F_w5 := below_chain F_w5 hstep
  replace F_w6 := below_chain F_w6 hstep
  clear hb hstep
  go_wp2_with (fail)
  have HRX := Lib.hid (rx.below F_w5)
  have HRA := Lib.hid (hr.below B)
  go_region_held3 (fun w' => w'.cell? ⟨w5.heap.size, 0, none⟩ = some (.slice Ax l.length cx) ∧ w'.cell? ⟨w.heap.size, 0, none⟩ = some (.slice A n c)) (first | exact ⟨k1, k0⟩ | exact ⟨k1a, k0a⟩ | exact ⟨k1b, k0b⟩)
    (first
      | (go_at_call 27
         refine (c_toLayout _ _ _ l _ HN.out hs (by exact HRA.out)).mono ?_
         rintro e w9 ⟨A8, c8, rfl, ho8, hb⟩
         have r8 := Lib.hid (Rd.own ho8)
         have k1a := cell_later hb (by exact k1)
         have k0a := cell_later hb (by exact k0)
         have HB8 := Lib.hid (show Below w8.heap.size w8 w9 from below_chain (by exact (Below.refl _ _).drew) hb)
         have HR8 := Lib.hid (Rd.below (by exact HRX.out) HB8.out)
         clear hb ho8)
      | (go_at_call 30
         refine (c_eqLayout _ _ _ _ _ _ l _ rfl rfl (by have := HN.out; omega) HR8.out r8.out).mono ?_
         rintro e w10 ⟨rfl, hb⟩
         have k1b := cell_later hb k1a
         have k0b := cell_later hb k0a
         have HB9 := Lib.hid (below_chain HB8.out hb)
         clear hb))
  have hstep := HB9.out
  clear k1a k1
  have k1 := k1b
  clear k1b
  clear k0a k0
  have k0 := k0b
  clear k0b
  replace m0 := cell_later hstep m0
  replace m1 := cell_later hstep m1
  replace F_w1 := below_chain F_w1 hstep
  replace F_w2 := below_chain F_w2 hstep
  replace F_w4 := below_chain F_w4 hstep
  replace F_w5 := below_chain F_w5 hstep
  replace F_w6 := below_chain F_w6 hstep
  replace B := below_chain B hstep
  clear hstep HB8 HB9 HR8 r8 HRX HRA
  go_wp2_with (fail)
  refine (c_toInt64S _ _ _ fs _ HN'.out hs' (by exact hr'.below B)).mono ?_
  rintro e w11 ⟨A6, c6, rfl, ho, hb⟩
  have hstep : Below w10.heap.size w10 w11 := below_chain (by (repeat (first | exact Below.refl _ _ | assumption | refine below_alloc ?_ _ | refine below_drewN ?_ _ | refine below_set ?_ _ (by simp; try omega) | refine Below.drew ?_))) hb
  replace k0 := cell_later hstep k0
  replace m0 := cell_later hstep m0
  replace m1 := cell_later hstep m1
  replace k1 := cell_later hstep k1
  replace B := below_chain B hstep
  replace F_w1 := below_chain F_w1 hstep
  replace F_w2 := below_chain F_w2 hstep
  replace F_w4 := below_chain F_w4 hstep
  replace F_w5 := below_chain F_w5 hstep
  replace F_w6 := below_chain F_w6 hstep
  clear hb hstep
  go_wp2_with (fail)
  refine (c_eqInt64S _ _ _ _ _ _ fs _ rfl rfl (by have := HN'.out; omega) (by exact ry.below F_w6) (by exact Rd.own ho)).mono ?_
  rintro e w12 ⟨rfl, hb⟩
  have hstep : Below w11.heap.size w11 w12 := below_chain (by (repeat (first | exact Below.refl _ _ | assumption | refine below_alloc ?_ _ | refine below_drewN ?_ _ | refine below_set ?_ _ (by simp; try omega) | refine Below.drew ?_))) hb
  replace k0 := cell_later hstep k0
  replace m0 := cell_later hstep m0
  replace m1 := cell_later hstep m1
  replace k1 := cell_later hstep k1
  replace B := below_chain B hstep
  replace F_w1 := below_chain F_w1 hstep
  replace F_w2 := below_chain F_w2 hstep
  replace F_w4 := below_chain F_w4 hstep
  replace F_w5 := below_chain F_w5 hstep
  replace F_w6 := below_chain F_w6 hstep
  clear hb hstep
  go_wp2_with (fail)
  go_ret
  exact ⟨rfl, B⟩
end Go.Proofs.Ythhedpdldjmfpaa
