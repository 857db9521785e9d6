/- The walk of the law FnExactMayEnter. -/
import Derived.Test.YthhedpdldjmfpaaMayS
import Derived.Test.YthhedpdldjmfpaaMark
namespace Go.Proofs.Ythhedpdldjmfpaa
open Go.RowKit

theorem c_toIntervalB (a b : Int) (w : World) : Calls Try.prog 60 #[.agg #[.int .i64 a, .int .i64 b]] w fun e w' => e = .returned (.agg #[.int .i64 a, .int .i64 b]) ∧ Below w.heap.size w w' := by
  refine (c_toInterval a b w).mono ?_
  rintro e w' ⟨rfl, rfl⟩
  exact ⟨rfl, by (repeat (first | exact Below.refl _ _ | assumption | refine below_alloc ?_ _ | refine below_drewN ?_ _ | refine below_set ?_ _ (by simp; try omega) | refine Below.drew ?_))⟩

set_option maxHeartbeats 1000000 in
set_option maxRecDepth 100000 in
theorem law_MayEnter (A : Option Addr) (c n : Nat) (l : List Seg) (A' : Option Addr) (c' n' : Nat) (fs : List Int) (b x y : Int) (w : World) (hn : n = l.length) (hm : n ≤ 9223372036854775807) (hr : Rd w A (segCells l)) (hn' : n' = fs.length) (hm' : n' ≤ 9223372036854775807) (hr' : Rd w A' (ints fs)) :
    Calls Try.prog 16 #[.agg #[.slice A n c], .slice A' n' c', .int .i64 b, .agg #[.int .i64 x, .int .i64 y]] w fun e w' => e = .returned (.bool true) ∧ Below w.heap.size w w' := by
  have HN := Lib.hid hn
  have HN' := Lib.hid hn'
  clear hn hn'
  rcases Nat.lt_or_ge 1048576 n' with hs' | hs'
  · skip
    go_enter Try.func16, Try.ntmps16
    go_wp2
    go_ret
    exact ⟨rfl, by (repeat (first | exact Below.refl _ _ | assumption | refine below_alloc ?_ _ | refine below_drewN ?_ _ | refine below_set ?_ _ (by simp; try omega) | refine Below.drew ?_))⟩
  rcases Nat.lt_or_ge 1048576 n with hs | hs
  · have hsz : szI 1048576 n = -1 := by unfold szI; rw [if_pos (by omega)]
    go_enter Try.func16, Try.ntmps16
    go_wp2_with (first
      | (go_at_call 25
         refine (c_szLayout _ _ _ _ _ hm (by omega) (by omega)).mono ?_
         rintro e w1 ⟨rfl, hb⟩
         first | replace B := below_chain B hb | (have B : Below w.heap.size w w1 := below_chain (by (repeat (first | exact Below.refl _ _ | assumption | refine below_alloc ?_ _ | refine below_drewN ?_ _ | refine below_set ?_ _ (by simp; try omega) | refine Below.drew ?_))) hb)
         clear hb)
      )
    go_ret
    exact ⟨rfl, by (repeat (first | exact Below.refl _ _ | assumption | refine below_alloc ?_ _ | refine below_drewN ?_ _ | refine below_set ?_ _ (by simp; try omega) | refine Below.drew ?_))⟩
  have hsz : szI 1048576 n = 1048576 - n := by unfold szI; rw [if_neg (by omega)]
  go_enter Try.func16, Try.ntmps16
  go_wp2_with (fail)
  refine (c_szLayout _ _ _ _ _ hm (by omega) (by omega)).mono ?_
  rintro e w1 ⟨rfl, hb⟩
  have hstep : Below w.heap.size w w1 := below_chain (by (repeat (first | exact Below.refl _ _ | assumption | refine below_alloc ?_ _ | refine below_drewN ?_ _ | refine below_set ?_ _ (by simp; try omega) | refine Below.drew ?_))) hb
  have B : Below w.heap.size w w1 := hstep
  have k0 : w1.cell? ⟨w.heap.size, 0, none⟩ = some (.slice A n c) := cell_later hb (by go_simp)
  have e0 : w1.cell? ⟨w.heap.size + 1, 0, none⟩ = some (.int .i64 x) := cell_later hb (by go_simp)
  have e1 : w1.cell? ⟨w.heap.size + 1, 1, none⟩ = some (.int .i64 y) := cell_later hb (by go_simp)
  clear hb hstep
  have hz0 := World.block_lt_of_cell? _ _ k0
  have hz0e := World.block_lt_of_cell? _ _ e0
  go_wp2_with (fail)
  have HB := Lib.hid B
  go_region_held3 (fun w' => w'.cell? ⟨w.heap.size, 0, none⟩ = some (.slice A n c) ∧ w'.cell? ⟨w.heap.size + 1, 0, none⟩ = some (.int .i64 x) ∧ w'.cell? ⟨w.heap.size + 1, 1, none⟩ = some (.int .i64 y)) (first | exact ⟨k0, e0, e1⟩ | exact ⟨k2, e02, e12⟩ | exact ⟨k3, e03, e13⟩ | exact ⟨k4, e04, e14⟩ | exact ⟨k5, e05, e15⟩)
    (first
      | (go_at_call 27
         refine (c_toLayout _ _ _ l _ HN.out hs (by exact hr.below HB.out.drew)).mono ?_
         rintro e w2 ⟨A1, c1, rfl, ho1, hb⟩
         have HB2 := Lib.hid (below_chain (by exact HB.out.drew) hb)
         have HO2 := Lib.hid ho1
         have k2 := cell_later hb (by exact k0)
         have e02 := cell_later hb (by exact e0)
         have e12 := cell_later hb (by exact e1)
         clear hb ho1)
      | (go_at_call 28
         refine (c_toInt64S _ _ _ fs _ HN'.out hs' (by exact hr'.below HB2.out)).mono ?_
         rintro e w3 ⟨A2, c2, rfl, ho2, hb⟩
         have HB3 := Lib.hid (below_chain HB2.out hb)
         have HL := Lib.hid (show LB w3 A1 l.length l A2 c2 fs.length fs from ⟨rfl, (by have := HN.out; omega), (Rd.own HO2.out).below hb, rfl, (by have := HN'.out; omega), (own_cap ho2).1, (by have := (own_cap ho2).2; unfold maxLen at this; exact this), Rd.own ho2⟩)
         have k3 := cell_later hb (by exact k2)
         have e03 := cell_later hb (by exact e02)
         have e13 := cell_later hb (by exact e12)
         clear hb ho2)
      | (go_at_call 60
         refine (c_toIntervalB _ _ _).mono ?_
         rintro e w4 ⟨rfl, hb⟩
         have HB4 := Lib.hid (below_chain HB3.out hb)
         have HL4 := Lib.hid (HL.out.below hb)
         have k4 := cell_later hb (by exact k3)
         have e04 := cell_later hb (by exact e03)
         have e14 := cell_later hb (by exact e13)
         clear hb)
      | (go_at_call 59
         refine (c_sMayEnter _ b x y HL4.out).mono ?_
         rintro e w5 ⟨rfl, hb⟩
         have HB5 := Lib.hid (below_chain HB4.out hb)
         have k5 := cell_later hb (by exact k4)
         have e05 := cell_later hb (by exact e04)
         have e15 := cell_later hb (by exact e14)
         clear hb))
  have B5 := HB5.out
  clear B k0 e0 e1 k2 e02 e12 k3 e03 e13 k4 e04 e14
  have B := B5
  clear B5
  have k0 := k5
  have e0 := e05
  have e1 := e15
  clear k5 e05 e15
  go_wp2_with (fail)
  refine (c_toLayout _ _ _ l _ HN.out hs (by exact hr.below B)).mono ?_
  rintro e w6 ⟨Ax, cx, rfl, hox, hb⟩
  have hstep : Below w5.heap.size w5 w6 := below_chain (by (repeat (first | exact Below.refl _ _ | assumption | refine below_alloc ?_ _ | refine below_drewN ?_ _ | refine below_set ?_ _ (by simp; try omega) | refine Below.drew ?_))) hb
  replace k0 := cell_later hstep k0
  replace e0 := cell_later hstep e0
  replace e1 := cell_later hstep e1
  replace B := below_chain B hstep
  have rx := Rd.own hox
  clear hb hstep
  have F_w6 : Below w6.heap.size w6 w6 := Below.refl _ _
  have S_w_w6 : w.heap.size ≤ w6.heap.size := B.size
  have hz6 := World.block_lt_of_cell? _ _ k0
  have hz6e := World.block_lt_of_cell? _ _ e0
  go_wp2_with (fail)
  refine (c_toInt64S _ _ _ fs _ HN'.out hs' (by exact (hr'.below B).alloc _)).mono ?_
  rintro e w7 ⟨Ay, cy, rfl, hoy, hb⟩
  have hstep : Below w6.heap.size w6 w7 := below_chain (by (repeat (first | exact Below.refl _ _ | assumption | refine below_alloc ?_ _ | refine below_drewN ?_ _ | refine below_set ?_ _ (by simp; try omega) | refine Below.drew ?_))) hb
  replace k0 := cell_later hstep k0
  replace e0 := cell_later hstep e0
  replace e1 := cell_later hstep e1
  replace B := below_chain B hstep
  replace F_w6 := below_chain F_w6 hstep
  have ry := Rd.own hoy
  have k1 : w7.cell? ⟨w6.heap.size, 0, none⟩ = some (.slice Ax l.length cx) := cell_later hb (by go_simp)
  clear hb hstep
  have F_w7 : Below w7.heap.size w7 w7 := Below.refl _ _
  have S_w6_w7 : w6.heap.size ≤ w7.heap.size := F_w6.size
  have S_w_w7 : w.heap.size ≤ w7.heap.size := B.size
  have hcap := own_cap hoy
  unfold maxLen at hcap
  have hcx := (own_cap hox).1
  have lb : LB w7 Ax l.length l Ay cy fs.length fs := ⟨rfl, (by have := HN.out; omega), rx.below F_w6, rfl, (by have := HN'.out; omega), hcap.1, hcap.2, ry⟩
  clear hcap
  have hz7a := World.block_lt_of_cell? _ _ k0
  have hz7b := World.block_lt_of_cell? _ _ e0
  have hz7c := World.block_lt_of_cell? _ _ k1
  go_wp2_with (fail)
  have HL7 := Lib.hid lb
  clear lb
  go_region_held3 (fun w' => w'.cell? ⟨w6.heap.size, 0, none⟩ = some (.slice Ax l.length cx) ∧ w'.cell? ⟨w.heap.size, 0, none⟩ = some (.slice A n c) ∧ w'.cell? ⟨w.heap.size + 1, 0, none⟩ = some (.int .i64 x) ∧ w'.cell? ⟨w.heap.size + 1, 1, none⟩ = some (.int .i64 y)) (first | exact ⟨k1, k0, e0, e1⟩ | exact ⟨k18, k08, e08, e18⟩ | exact ⟨k19, k09, e09, e19⟩)
    (first
      | (go_at_call 60
         refine (c_toIntervalB _ _ _).mono ?_
         rintro e w8 ⟨rfl, hb⟩
         have HB8 := Lib.hid (show Below w7.heap.size w7 w8 from below_chain (by exact (Below.refl _ _).drew) hb)
         have HL8 := Lib.hid (HL7.out.below HB8.out)
         have k18 := cell_later hb (by exact k1)
         have k08 := cell_later hb (by exact k0)
         have e08 := cell_later hb (by exact e0)
         have e18 := cell_later hb (by exact e1)
         clear hb)
      | (go_at_call 61
         refine (c_MayEnter _ b x y hcx HL8.out).mono ?_
         rintro e w9 ⟨rfl, hb⟩
         have HB9 := Lib.hid (below_chain HB8.out hb)
         have k19 := cell_later hb (by exact k18)
         have k09 := cell_later hb (by exact k08)
         have e09 := cell_later hb (by exact e08)
         have e19 := cell_later hb (by exact e18)
         clear hb))
  have hstep := HB9.out
  clear k1 k0 e0 e1 k18 k08 e08 e18 HL7 HL8 HB8
  have k1 := k19
  have k0 := k09
  have e0 := e09
  have e1 := e19
  clear k19 k09 e09 e19
  replace F_w6 := below_chain F_w6 hstep
  replace F_w7 := below_chain F_w7 hstep
  replace B := below_chain B hstep
  clear hstep HB9
  have hz9a := World.block_lt_of_cell? _ _ k0
  have hz9b := World.block_lt_of_cell? _ _ k1
  go_wp2_with (fail)
  have HRX := Lib.hid (rx.below F_w6)
  have HRA := Lib.hid (hr.below B)
  go_region_held3 (fun w' => w'.cell? ⟨w6.heap.size, 0, none⟩ = some (.slice Ax l.length cx) ∧ w'.cell? ⟨w.heap.size, 0, none⟩ = some (.slice A n c)) (first | exact ⟨k1, k0⟩ | exact ⟨k1a, k0a⟩ | exact ⟨k1b, k0b⟩)
    (first
      | (go_at_call 27
         refine (c_toLayout _ _ _ l _ HN.out hs (by exact HRA.out)).mono ?_
         rintro e w10 ⟨A8, c8, rfl, ho8, hb⟩
         have r8 := Lib.hid (Rd.own ho8)
         have k1a := cell_later hb (by exact k1)
         have k0a := cell_later hb (by exact k0)
         have HB8 := Lib.hid (show Below w9.heap.size w9 w10 from below_chain (by exact (Below.refl _ _).drew) hb)
         have HR8 := Lib.hid (Rd.below (by exact HRX.out) HB8.out)
         clear hb ho8)
      | (go_at_call 30
         refine (c_eqLayout _ _ _ _ _ _ l _ rfl rfl (by have := HN.out; omega) HR8.out r8.out).mono ?_
         rintro e w11 ⟨rfl, hb⟩
         have k1b := cell_later hb k1a
         have k0b := cell_later hb k0a
         have HB9 := Lib.hid (below_chain HB8.out hb)
         clear hb))
  have hstep := HB9.out
  clear k1a k1
  have k1 := k1b
  clear k1b
  clear k0a k0
  have k0 := k0b
  clear k0b
  replace e0 := cell_later hstep e0
  replace e1 := cell_later hstep e1
  replace F_w6 := below_chain F_w6 hstep
  replace F_w7 := below_chain F_w7 hstep
  replace B := below_chain B hstep
  clear hstep HB8 HB9 HR8 r8 HRX HRA
  go_wp2_with (fail)
  refine (c_toInt64S _ _ _ fs _ HN'.out hs' (by exact hr'.below B)).mono ?_
  rintro e w12 ⟨A6, c6, rfl, ho, hb⟩
  have hstep : Below w11.heap.size w11 w12 := below_chain (by (repeat (first | exact Below.refl _ _ | assumption | refine below_alloc ?_ _ | refine below_drewN ?_ _ | refine below_set ?_ _ (by simp; try omega) | refine Below.drew ?_))) hb
  replace k0 := cell_later hstep k0
  replace e0 := cell_later hstep e0
  replace e1 := cell_later hstep e1
  replace k1 := cell_later hstep k1
  replace B := below_chain B hstep
  replace F_w6 := below_chain F_w6 hstep
  replace F_w7 := below_chain F_w7 hstep
  clear hb hstep
  go_wp2_with (fail)
  refine (c_eqInt64S _ _ _ _ _ _ fs _ rfl rfl (by have := HN'.out; omega) (by exact ry.below F_w7) (by exact Rd.own ho)).mono ?_
  rintro e w13 ⟨rfl, hb⟩
  have hstep : Below w12.heap.size w12 w13 := below_chain (by (repeat (first | exact Below.refl _ _ | assumption | refine below_alloc ?_ _ | refine below_drewN ?_ _ | refine below_set ?_ _ (by simp; try omega) | refine Below.drew ?_))) hb
  replace k0 := cell_later hstep k0
  replace e0 := cell_later hstep e0
  replace e1 := cell_later hstep e1
  replace k1 := cell_later hstep k1
  replace B := below_chain B hstep
  replace F_w6 := below_chain F_w6 hstep
  replace F_w7 := below_chain F_w7 hstep
  clear hb hstep
  go_wp2_with (fail)
  go_ret
  exact ⟨rfl, B⟩
end Go.Proofs.Ythhedpdldjmfpaa
