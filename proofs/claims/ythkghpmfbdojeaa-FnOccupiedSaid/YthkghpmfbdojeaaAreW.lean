/- Contracts of AreBlocks (program and reference) and the walk of the law FnExactAreBlocks. -/
import Derived.Test.YthkghpmfbdojeaaBlk
import Derived.Deep.RegionHeld3
namespace Go.Proofs.Ythkghpmfbdojeaa
open Go.RowKit

set_option maxRecDepth 100000 in
theorem c_AreBlocks (A : Option Addr) (c n : Nat) (l : List Seg) (A' : Option Addr) (c' n' : Nat) (fs : List Int) (w : World) (hn : n = l.length) (hs : n ≤ 1048576) (hr : Rd w A (segCells l)) (hn' : n' = fs.length) (hs' : n' ≤ 1048576) (hc' : n' ≤ c') (hm' : c' ≤ 9223372036854775807) (hr' : Rd w A' (ints fs)) :
    Calls Try.prog 17 #[.agg #[.slice A n c], .slice A' n' c'] w fun e w' => e = .returned (.bool (layB l && blkB l fs)) ∧ Below w.heap.size w w' := by
  have HN := Lib.hid hn
  have HN' := Lib.hid hn'
  clear hn hn'
  go_enter Try.func17, Try.ntmps17
  go_wp2_with (first
    | (go_at_call 37
       refine (c_IsLayout _ _ _ l _ HN.out hs (hr.alloc _)).mono ?_
       rintro e w1 ⟨rfl, hb⟩
       first | replace k0 := cell_later hb k0 | (have k0 : w1.cell? ⟨w.heap.size, 0, none⟩ = some (.slice A n c) := cell_later hb (by go_simp))
       first | replace B := below_chain B hb | (have B : Below w.heap.size w w1 := below_chain (by (repeat (first | exact Below.refl _ _ | assumption | refine below_alloc ?_ _ | refine below_drewN ?_ _ | refine below_set ?_ _ (by simp; try omega) | refine Below.drew ?_))) hb)
       have hr2 := Lib.hid ((hr'.alloc _).below hb)
       have hr1 := Lib.hid ((hr.alloc _).below hb)
       clear hb)
    | (go_at_call 38
       refine (c_areBlocks _ _ _ l _ _ _ fs _ HN.out hs hr1.out HN'.out hs' hc' hm' hr2.out).mono ?_
       rintro e w1 ⟨rfl, hb⟩
       first | replace k0 := cell_later hb k0 | (have k0 : w1.cell? ⟨w.heap.size, 0, none⟩ = some (.slice A n c) := cell_later hb (by go_simp))
       first | replace B := below_chain B hb | (have B : Below w.heap.size w w1 := below_chain (by (repeat (first | exact Below.refl _ _ | assumption | refine below_alloc ?_ _ | refine below_drewN ?_ _ | refine below_set ?_ _ (by simp; try omega) | refine Below.drew ?_))) hb)
       clear hb)
    )
  all_goals go_ret
  all_goals (refine ⟨ret_bool ?_, by (repeat (first | exact Below.refl _ _ | assumption | refine below_alloc ?_ _ | refine below_drewN ?_ _ | refine below_set ?_ _ (by simp; try omega) | refine Below.drew ?_))⟩)
  all_goals go_light
  all_goals simp_all
set_option maxRecDepth 100000 in
theorem c_sAreBlocks (A : Option Addr) (c n : Nat) (l : List Seg) (A' : Option Addr) (c' n' : Nat) (fs : List Int) (w : World) (hn : n = l.length) (hs : n ≤ 1048576) (hr : Rd w A (segCells l)) (hn' : n' = fs.length) (hs' : n' ≤ 1048576) (hr' : Rd w A' (ints fs)) :
    Calls Try.prog 20 #[.agg #[.slice A n c], .slice A' n' c'] w fun e w' => e = .returned (.bool (layB l && blkB l fs)) ∧ Below w.heap.size w w' := by
  have HN := Lib.hid hn
  have HN' := Lib.hid hn'
  clear hn hn'
  go_enter Try.func20, Try.ntmps20
  go_wp2_with (first
    | (go_at_call 41
       refine (c_sIsLayout _ _ _ l _ HN.out hs (hr.alloc _)).mono ?_
       rintro e w1 ⟨rfl, hb⟩
       first | replace k0 := cell_later hb k0 | (have k0 : w1.cell? ⟨w.heap.size, 0, none⟩ = some (.slice A n c) := cell_later hb (by go_simp))
       first | replace B := below_chain B hb | (have B : Below w.heap.size w w1 := below_chain (by (repeat (first | exact Below.refl _ _ | assumption | refine below_alloc ?_ _ | refine below_drewN ?_ _ | refine below_set ?_ _ (by simp; try omega) | refine Below.drew ?_))) hb)
       have hr2 := Lib.hid ((hr'.alloc _).below hb)
       have hr1 := Lib.hid ((hr.alloc _).below hb)
       clear hb)
    | (go_at_call 42
       refine (c_l04Blocks _ _ _ l _ _ _ fs _ HN.out hs hr1.out HN'.out hs' hr2.out).mono ?_
       rintro e w1 ⟨rfl, hb⟩
       first | replace k0 := cell_later hb k0 | (have k0 : w1.cell? ⟨w.heap.size, 0, none⟩ = some (.slice A n c) := cell_later hb (by go_simp))
       first | replace B := below_chain B hb | (have B : Below w.heap.size w w1 := below_chain (by (repeat (first | exact Below.refl _ _ | assumption | refine below_alloc ?_ _ | refine below_drewN ?_ _ | refine below_set ?_ _ (by simp; try omega) | refine Below.drew ?_))) hb)
       clear hb)
    )
  all_goals go_ret
  all_goals (refine ⟨ret_bool ?_, by (repeat (first | exact Below.refl _ _ | assumption | refine below_alloc ?_ _ | refine below_drewN ?_ _ | refine below_set ?_ _ (by simp; try omega) | refine Below.drew ?_))⟩)
  all_goals go_light
  all_goals simp_all

end Go.Proofs.Ythkghpmfbdojeaa
