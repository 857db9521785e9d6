/- Contracts of AreBlocks (program and reference) and the walk of the law FnExactAreBlocks. -/
import Derived.Test.YthhedpdldjmfpaaBlk
import Derived.Deep.RegionHeld3
namespace Go.Proofs.Ythhedpdldjmfpaa
open Go.RowKit

set_option maxRecDepth 100000 in
theorem c_AreBlocks (A : Option Addr) (c n : Nat) (l : List Seg) (A' : Option Addr) (c' n' : Nat) (fs : List Int) (w : World) (hn : n = l.length) (hs : n ≤ 1048576) (hr : Rd w A (segCells l)) (hn' : n' = fs.length) (hs' : n' ≤ 1048576) (hc' : n' ≤ c') (hm' : c' ≤ 9223372036854775807) (hr' : Rd w A' (ints fs)) :
    Calls Try.prog 29 #[.agg #[.slice A n c], .slice A' n' c'] w fun e w' => e = .returned (.bool (layB l && blkB l fs)) ∧ Below w.heap.size w w' := by
  have HN := Lib.hid hn
  have HN' := Lib.hid hn'
  clear hn hn'
  go_enter Try.func29, Try.ntmps29
  go_wp2_with (first
    | (go_at_call 79
       refine (c_IsLayout _ _ _ l _ HN.out hs (hr.alloc _)).mono ?_
       rintro e w1 ⟨rfl, hb⟩
       first | replace k0 := cell_later hb k0 | (have k0 : w1.cell? ⟨w.heap.size, 0, none⟩ = some (.slice A n c) := cell_later hb (by go_simp))
       first | replace B := below_chain B hb | (have B : Below w.heap.size w w1 := below_chain (by (repeat (first | exact Below.refl _ _ | assumption | refine below_alloc ?_ _ | refine below_drewN ?_ _ | refine below_set ?_ _ (by simp; try omega) | refine Below.drew ?_))) hb)
       have hr2 := Lib.hid ((hr'.alloc _).below hb)
       have hr1 := Lib.hid ((hr.alloc _).below hb)
       clear hb)
    | (go_at_call 80
       refine (c_areBlocks _ _ _ l _ _ _ fs _ HN.out hs hr1.out HN'.out hs' hc' hm' hr2.out).mono ?_
       rintro e w1 ⟨rfl, hb⟩
       first | replace k0 := cell_later hb k0 | (have k0 : w1.cell? ⟨w.heap.size, 0, none⟩ = some (.slice A n c) := cell_later hb (by go_simp))
       first | replace B := below_chain B hb | (have B : Below w.heap.size w w1 := below_chain (by (repeat (first | exact Below.refl _ _ | assumption | refine below_alloc ?_ _ | refine below_drewN ?_ _ | refine below_set ?_ _ (by simp; try omega) | refine Below.drew ?_))) hb)
       clear hb)
    )
  all_goals go_ret
  all_goals (refine ⟨ret_bool ?_, by (repeat (first | exact Below.refl _ _ | assumption | refine below_alloc ?_ _ | refine below_drewN ?_ _ | refine below_set ?_ _ (by simp; try omega) | refine Below.drew ?_))⟩)
  all_goals go_light
  all_goals simp_all
set_option maxRecDepth 100000 in
theorem c_sAreBlocks (A : Option Addr) (c n : Nat) (l : List Seg) (A' : Option Addr) (c' n' : Nat) (fs : List Int) (w : World) (hn : n = l.length) (hs : n ≤ 1048576) (hr : Rd w A (segCells l)) (hn' : n' = fs.length) (hs' : n' ≤ 1048576) (hr' : Rd w A' (ints fs)) :
    Calls Try.prog 26 #[.agg #[.slice A n c], .slice A' n' c'] w fun e w' => e = .returned (.bool (layB l && blkB l fs)) ∧ Below w.heap.size w w' := by
  have HN := Lib.hid hn
  have HN' := Lib.hid hn'
  clear hn hn'
  go_enter Try.func26, Try.ntmps26
  go_wp2_with (first
    | (go_at_call 76
       refine (c_sIsLayout _ _ _ l _ HN.out hs (hr.alloc _)).mono ?_
       rintro e w1 ⟨rfl, hb⟩
       first | replace k0 := cell_later hb k0 | (have k0 : w1.cell? ⟨w.heap.size, 0, none⟩ = some (.slice A n c) := cell_later hb (by go_simp))
       first | replace B := below_chain B hb | (have B : Below w.heap.size w w1 := below_chain (by (repeat (first | exact Below.refl _ _ | assumption | refine below_alloc ?_ _ | refine below_drewN ?_ _ | refine below_set ?_ _ (by simp; try omega) | refine Below.drew ?_))) hb)
       have hr2 := Lib.hid ((hr'.alloc _).below hb)
       have hr1 := Lib.hid ((hr.alloc _).below hb)
       clear hb)
    | (go_at_call 77
       refine (c_l04Blocks _ _ _ l _ _ _ fs _ HN.out hs hr1.out HN'.out hs' hr2.out).mono ?_
       rintro e w1 ⟨rfl, hb⟩
       first | replace k0 := cell_later hb k0 | (have k0 : w1.cell? ⟨w.heap.size, 0, none⟩ = some (.slice A n c) := cell_later hb (by go_simp))
       first | replace B := below_chain B hb | (have B : Below w.heap.size w w1 := below_chain (by (repeat (first | exact Below.refl _ _ | assumption | refine below_alloc ?_ _ | refine below_drewN ?_ _ | refine below_set ?_ _ (by simp; try omega) | refine Below.drew ?_))) hb)
       clear hb)
    )
  all_goals go_ret
  all_goals (refine ⟨ret_bool ?_, by (repeat (first | exact Below.refl _ _ | assumption | refine below_alloc ?_ _ | refine below_drewN ?_ _ | refine below_set ?_ _ (by simp; try omega) | refine Below.drew ?_))⟩)
  all_goals go_light
  all_goals simp_all

set_option maxRecDepth 100000 in
theorem law_AreBlocks (A : Option Addr) (c n : Nat) (l : List Seg) (A' : Option Addr) (c' n' : Nat) (fs : List Int) (w : World) (hn : n = l.length) (hm : n ≤ 9223372036854775807) (hr : Rd w A (segCells l)) (hn' : n' = fs.length) (hm' : n' ≤ 9223372036854775807) (hr' : Rd w A' (ints fs)) :
    Calls Try.prog 4 #[.agg #[.slice A n c], .slice A' n' c'] w fun e w' => e = .returned (.bool true) ∧ Below w.heap.size w w' := by
  have HN := Lib.hid hn
  have HN' := Lib.hid hn'
  clear hn hn'
  rcases Nat.lt_or_ge 1048576 n' with hs' | hs'
  · skip
    go_enter Try.func4, Try.ntmps4
    go_wp2
    go_ret
    exact ⟨rfl, by (repeat (first | exact Below.refl _ _ | assumption | refine below_alloc ?_ _ | refine below_drewN ?_ _ | refine below_set ?_ _ (by simp; try omega) | refine Below.drew ?_))⟩
  rcases Nat.lt_or_ge 1048576 n with hs | hs
  · have hsz : szI 1048576 n = -1 := by unfold szI; rw [if_pos (by omega)]
    go_enter Try.func4, Try.ntmps4
    go_wp2_with (first
      | (go_at_call 25
         refine (c_szLayout _ _ _ _ _ hm (by omega) (by omega)).mono ?_
         rintro e w1 ⟨rfl, hb⟩
         first | replace B := below_chain B hb | (have B : Below w.heap.size w w1 := below_chain (by (repeat (first | exact Below.refl _ _ | assumption | refine below_alloc ?_ _ | refine below_drewN ?_ _ | refine below_set ?_ _ (by simp; try omega) | refine Below.drew ?_))) hb)
         clear hb)
      )
    go_ret
    exact ⟨rfl, by (repeat (first | exact Below.refl _ _ | assumption | refine below_alloc ?_ _ | refine below_drewN ?_ _ | refine below_set ?_ _ (by simp; try omega) | refine Below.drew ?_))⟩
  have hsz : szI 1048576 n = 1048576 - n := by unfold szI; rw [if_neg (by omega)]
  go_enter Try.func4, Try.ntmps4
  go_wp2_with (fail)
  refine (c_szLayout _ _ _ _ _ hm (by omega) (by omega)).mono ?_
  rintro e w1 ⟨rfl, hb⟩
  have hstep : Below w.heap.size w w1 := below_chain (by (repeat (first | exact Below.refl _ _ | assumption | refine below_alloc ?_ _ | refine below_drewN ?_ _ | refine below_set ?_ _ (by simp; try omega) | refine Below.drew ?_))) hb
  replace hr := hr.below hstep
  replace hr' := hr'.below hstep
  have B : Below w.heap.size w w1 := hstep
  have k0 : w1.cell? ⟨w.heap.size, 0, none⟩ = some (.slice A n c) := cell_later hb (by go_simp)
  clear hb hstep
  go_wp2_with (fail)
  refine (c_toLayout _ _ _ l _ HN.out hs hr).mono ?_
  rintro e w2 ⟨A1, c1, rfl, ho, hb⟩
  have hstep : Below w1.heap.size w1 w2 := below_chain (by (repeat (first | exact Below.refl _ _ | assumption | refine below_alloc ?_ _ | refine below_drewN ?_ _ | refine below_set ?_ _ (by simp; try omega) | refine Below.drew ?_))) hb
  replace hr := hr.below hstep
  replace hr' := hr'.below hstep
  replace k0 := cell_later hstep k0
  replace B := below_chain B hstep
  have r1 := Rd.own ho
  clear hb hstep
  go_wp2_with (fail)
  refine (c_toInt64S _ _ _ fs _ HN'.out hs' hr').mono ?_
  rintro e w3 ⟨A2, c2, rfl, ho2, hb⟩
  have hstep : Below w2.heap.size w2 w3 := below_chain (by (repeat (first | exact Below.refl _ _ | assumption | refine below_alloc ?_ _ | refine below_drewN ?_ _ | refine below_set ?_ _ (by simp; try omega) | refine Below.drew ?_))) hb
  replace hr := hr.below hstep
  replace hr' := hr'.below hstep
  replace r1 := r1.below hstep
  replace k0 := cell_later hstep k0
  replace B := below_chain B hstep
  have r2 := Rd.own ho2
  clear hb hstep
  go_wp2_with (fail)
  refine (c_sAreBlocks _ _ _ l _ _ _ fs _ rfl (by have := HN.out; omega) r1 rfl (by have := HN'.out; omega) r2).mono ?_
  rintro e w4 ⟨rfl, hb⟩
  have hstep : Below w3.heap.size w3 w4 := below_chain (by (repeat (first | exact Below.refl _ _ | assumption | refine below_alloc ?_ _ | refine below_drewN ?_ _ | refine below_set ?_ _ (by simp; try omega) | refine Below.drew ?_))) hb
  replace hr := hr.below hstep
  replace hr' := hr'.below hstep
  replace r1 := r1.below hstep
  replace r2 := r2.below hstep
  replace k0 := cell_later hstep k0
  replace B := below_chain B hstep
  clear hb hstep
  clear r1 r2 ho ho2
  go_wp2_with (fail)
  refine (c_toLayout _ _ _ l _ HN.out hs hr).mono ?_
  rintro e w5 ⟨A3, c3, rfl, ho, hb⟩
  have hstep : Below w4.heap.size w4 w5 := below_chain (by (repeat (first | exact Below.refl _ _ | assumption | refine below_alloc ?_ _ | refine below_drewN ?_ _ | refine below_set ?_ _ (by simp; try omega) | refine Below.drew ?_))) hb
  replace hr := hr.below hstep
  replace hr' := hr'.below hstep
  replace k0 := cell_later hstep k0
  replace B := below_chain B hstep
  have r3 := Rd.own ho
  clear hb hstep
  go_wp2_with (fail)
  refine (c_toInt64S _ _ _ fs _ HN'.out hs' (hr'.alloc _)).mono ?_
  rintro e w6 ⟨A4, c4, rfl, ho2, hb⟩
  have hstep : Below w5.heap.size w5 w6 := below_chain (by (repeat (first | exact Below.refl _ _ | assumption | refine below_alloc ?_ _ | refine below_drewN ?_ _ | refine below_set ?_ _ (by simp; try omega) | refine Below.drew ?_))) hb
  replace hr := hr.below hstep
  replace hr' := hr'.below hstep
  replace r3 := r3.below hstep
  replace k0 := cell_later hstep k0
  replace B := below_chain B hstep
  have r4 := Rd.own ho2
  have k1 : w6.cell? ⟨w5.heap.size, 0, none⟩ = some (.slice A3 l.length c3) := cell_later hb (by go_simp)
  clear hb hstep
  have hcap := own_cap ho2
  unfold maxLen at hcap
  clear ho ho2
  go_wp2_with (fail)
  refine (c_AreBlocks _ _ _ l _ _ _ fs _ rfl (by have := HN.out; omega) r3 rfl (by have := HN'.out; omega) hcap.1 hcap.2 r4).mono ?_
  rintro e w7 ⟨rfl, hb⟩
  have hstep : Below w6.heap.size w6 w7 := below_chain (by (repeat (first | exact Below.refl _ _ | assumption | refine below_alloc ?_ _ | refine below_drewN ?_ _ | refine below_set ?_ _ (by simp; try omega) | refine Below.drew ?_))) hb
  replace hr := hr.below hstep
  replace hr' := hr'.below hstep
  replace r3 := r3.below hstep
  replace r4 := r4.below hstep
  replace k0 := cell_later hstep k0
  replace k1 := cell_later hstep k1
  replace B := below_chain B hstep
  clear hb hstep
  clear hcap
  go_wp2_with (fail)
  have HR := Lib.hid hr
  have HR' := Lib.hid hr'
  have HR3 := Lib.hid r3
  have HR4 := Lib.hid r4
  have HB := Lib.hid B
  clear hr hr' r3 r4 B
  go_region_held3 (fun w' => w'.cell? ⟨w5.heap.size, 0, none⟩ = some (.slice A3 l.length c3) ∧ w'.cell? ⟨w.heap.size, 0, none⟩ = some (.slice A n c)) (first | exact ⟨k1, k0⟩ | exact ⟨k3, k2⟩ | exact ⟨k5, k4⟩)
    (first
      | (go_at_call 27
         refine (c_toLayout _ _ _ l _ HN.out hs (by exact HR.out)).mono ?_
         rintro e w8 ⟨A5, c5, rfl, ho, hb⟩
         have r5 := Lib.hid (Rd.own ho)
         have k3 : w8.cell? ⟨w5.heap.size, 0, none⟩ = some (.slice A3 l.length c3) := cell_later hb (by exact k1)
         have k2 : w8.cell? ⟨w.heap.size, 0, none⟩ = some (.slice A n c) := cell_later hb (by exact k0)
         have HB8 := Lib.hid (below_chain (by exact HB.out.drew) hb)
         have HR8 := Lib.hid (Rd.below (by exact HR'.out) hb)
         have H38 := Lib.hid (Rd.below (by exact HR3.out) hb)
         have H48 := Lib.hid (Rd.below (by exact HR4.out) hb)
         clear hb ho)
      | (go_at_call 30
         refine (c_eqLayout _ _ _ _ _ _ l _ rfl rfl (by have := HN.out; omega) H38.out r5.out).mono ?_
         rintro e w9 ⟨rfl, hb⟩
         have k5 := cell_later hb k3
         have k4 := cell_later hb k2
         have HB9 := Lib.hid (below_chain HB8.out hb)
         have HR9 := Lib.hid (HR8.out.below hb)
         have H49 := Lib.hid (H48.out.below hb)
         clear hb))
  have hr' := HR9.out
  have r4 := H49.out
  have B := HB9.out
  clear HR9 HB9 H49 k5 k4 k3 k2 k1 k0 HR HR' HR3 HR4 HB HB8 HR8 H38 H48 r5
  go_wp2_with (fail)
  refine (c_toInt64S _ _ _ fs _ HN'.out hs' hr').mono ?_
  rintro e w10 ⟨A6, c6, rfl, ho, hb⟩
  have hstep : Below w9.heap.size w9 w10 := below_chain (by (repeat (first | exact Below.refl _ _ | assumption | refine below_alloc ?_ _ | refine below_drewN ?_ _ | refine below_set ?_ _ (by simp; try omega) | refine Below.drew ?_))) hb
  replace hr' := hr'.below hstep
  replace r4 := r4.below hstep
  replace B := below_chain B hstep
  have r6 := Rd.own ho
  clear hb hstep
  go_wp2_with (fail)
  refine (c_eqInt64S _ _ _ _ _ _ fs _ rfl rfl (by have := HN'.out; omega) r4 r6).mono ?_
  rintro e w11 ⟨rfl, hb⟩
  have hstep : Below w10.heap.size w10 w11 := below_chain (by (repeat (first | exact Below.refl _ _ | assumption | refine below_alloc ?_ _ | refine below_drewN ?_ _ | refine below_set ?_ _ (by simp; try omega) | refine Below.drew ?_))) hb
  replace hr' := hr'.below hstep
  replace r4 := r4.below hstep
  replace r6 := r6.below hstep
  replace B := below_chain B hstep
  clear hb hstep
  go_wp2_with (fail)
  go_ret
  exact ⟨rfl, B⟩
end Go.Proofs.Ythhedpdldjmfpaa
