/- The walk of the law FnExactConstantDiagram. -/
import Derived.Test.YtbiodieekommdaaInpD
namespace Go.Proofs.Ytbiodieekommdaa
open Go.RowKit

set_option maxHeartbeats 1000000 in
set_option maxRecDepth 100000 in
theorem law_ConstantDiagram (n : Int) (v : Bool) (w : World) :
    Calls Try.prog 4 #[.int .i64 n, .bool v] w fun e w' => e = .returned (.bool true) ∧ Below w.heap.size w w' := by
  have HS := Lib.hid (fun w => r_sConstantDiagram n v w)
  have HI := Lib.hid (fun w => r_ConstantDiagram n v w)
  have HD := Lib.hid (show (([] : List Nd)).length ≤ 1 by simp)
  generalize ([] : List Nd) = l at HS HI HD
  generalize cdN n = x at HS HI
  generalize cdR n v = r at HS HI
  generalize cdC n = c at HS HI
  go_enter Try.func4, Try.ntmps4
  go_wp2_with (fail)
  refine (HS.out _).mono ?_
  rintro e w1 ⟨Aw, cw, rfl, how, hb⟩
  have hstep : Below w.heap.size w w1 := below_chain (by (repeat (first | exact Below.refl _ _ | assumption | refine below_alloc ?_ _ | refine below_drewN ?_ _ | refine below_set ?_ _ (by simp; try omega) | refine Below.drew ?_))) hb
  have B : Below w.heap.size w w1 := hstep
  have rw1 := Rd.own how
  clear hb hstep
  clear how
  have F_w1 : Below w1.heap.size w1 w1 := Below.refl _ _
  have S_w_w1 : w.heap.size ≤ w1.heap.size := B.size
  go_wp2_with (fail)
  refine (HI.out _).mono ?_
  rintro e w2 ⟨Ag, cg, rfl, hog, hb⟩
  have hstep : Below w1.heap.size w1 w2 := below_chain (by (repeat (first | exact Below.refl _ _ | assumption | refine below_alloc ?_ _ | refine below_drewN ?_ _ | refine below_set ?_ _ (by simp; try omega) | refine Below.drew ?_))) hb
  replace B := below_chain B hstep
  replace F_w1 := below_chain F_w1 hstep
  have k0 : w2.cell? ⟨w1.heap.size, 0, none⟩ = some (.int .i64 x) := cell_later hb (by go_simp)
  have k1 : w2.cell? ⟨w1.heap.size, 1, none⟩ = some (.slice Aw l.length cw) := cell_later hb (by go_simp)
  have k2 : w2.cell? ⟨w1.heap.size, 2, none⟩ = some (.int .i64 r) := cell_later hb (by go_simp)
  clear hb hstep
  have hz1 := World.block_lt_of_cell? _ _ k0
  have F_w2 : Below w2.heap.size w2 w2 := Below.refl _ _
  have S_w1_w2 : w1.heap.size ≤ w2.heap.size := F_w1.size
  have S_w_w2 : w.heap.size ≤ w2.heap.size := B.size
  have rg2 := Rd.own hog
  have hlt := hog.lt
  have HLT := Lib.hid hlt
  clear hlt
  go_wp2_with (fail)
  refine (c_eqDiagram _ _ _ _ _ _ _ _ l _ rfl rfl (by have := HD.out; omega) (by exact rg2.alloc _) (by exact (rw1.below F_w1).alloc _)).mono ?_
  rintro e w3 ⟨rfl, hb⟩
  have hstep : Below w2.heap.size w2 w3 := below_chain (by (repeat (first | exact Below.refl _ _ | assumption | refine below_alloc ?_ _ | refine below_drewN ?_ _ | refine below_set ?_ _ (by simp; try omega) | refine Below.drew ?_))) hb
  replace k0 := cell_later hstep k0
  replace k1 := cell_later hstep k1
  replace k2 := cell_later hstep k2
  replace B := below_chain B hstep
  replace F_w1 := below_chain F_w1 hstep
  replace F_w2 := below_chain F_w2 hstep
  have j0 : w3.cell? ⟨w2.heap.size, 0, none⟩ = some (.int .i64 x) := cell_later hb (by go_simp)
  have j1 : w3.cell? ⟨w2.heap.size, 1, none⟩ = some (.slice Ag l.length cg) := cell_later hb (by go_simp)
  have j2 : w3.cell? ⟨w2.heap.size, 2, none⟩ = some (.int .i64 r) := cell_later hb (by go_simp)
  clear hb hstep
  have hl : ∀ q, (Value.slice Ag l.length cg).ownBlock = some q → w1.heap.size + 1 ≤ q ∧ q < w2.heap.size := fun q hq => by have := HLT.out q hq; simp at this; omega
  have hrow : ∀ q, (Value.slice Ag l.length cg).ownBlock = some q → w1.heap.size ≤ q := fun q hq => by have := hl q hq; omega
  have hrow2 := hl
  clear hl HLT
  go_wp2_with (fail)
  refine (c_markDiagram _ _ _ _ _ _ _ 1 _ (by omega) (by have := HD.out; omega) (by exact own_below hog F_w2)).mono ?_
  rintro e w4 ⟨rfl, hmk, hg⟩
  replace hg := grown_trans (grown_of_below (show Below w3.heap.size w3 _ from (by (repeat (first | exact Below.refl _ _ | assumption | refine below_alloc ?_ _ | refine below_drewN ?_ _ | refine below_set ?_ _ (by simp; try omega) | refine Below.drew ?_)))) _) hg
  replace F_w1 := below_of_grown F_w1 hg hrow
  replace B := below_of_grown B hg (fun q hq => Nat.le_trans S_w_w1 (hrow q hq))
  replace k0 := cell_mark k0 hg (by intro q hq; have := hrow q hq; have := hrow2 q hq; (try simp); omega)
  replace k1 := cell_mark k1 hg (by intro q hq; have := hrow q hq; have := hrow2 q hq; (try simp); omega)
  replace k2 := cell_mark k2 hg (by intro q hq; have := hrow q hq; have := hrow2 q hq; (try simp); omega)
  replace j0 := cell_mark j0 hg (by intro q hq; have := hrow q hq; have := hrow2 q hq; (try simp); omega)
  replace j1 := cell_mark j1 hg (by intro q hq; have := hrow q hq; have := hrow2 q hq; (try simp); omega)
  replace j2 := cell_mark j2 hg (by intro q hq; have := hrow q hq; have := hrow2 q hq; (try simp); omega)
  clear hg hrow hrow2 F_w2
  clear hog
  have F_w4 : Below w4.heap.size w4 w4 := Below.refl _ _
  have S_w1_w4 : w1.heap.size ≤ w4.heap.size := F_w1.size
  have S_w_w4 : w.heap.size ≤ w4.heap.size := B.size
  have rm := Rd.own hmk
  clear hmk
  go_wp2_with (fail)
  refine (c_heldDiagram _ _ _ _ _ 1 _ (by omega) (by have := HD.out; omega) (by exact rm.below F_w4)).mono ?_
  rintro e w5 ⟨rfl, hb⟩
  have hstep : Below w4.heap.size w4 w5 := below_chain (by (repeat (first | exact Below.refl _ _ | assumption | refine below_alloc ?_ _ | refine below_drewN ?_ _ | refine below_set ?_ _ (by simp; try omega) | refine Below.drew ?_))) hb
  replace k0 := cell_later hstep k0
  replace k1 := cell_later hstep k1
  replace k2 := cell_later hstep k2
  replace j0 := cell_later hstep j0
  replace j1 := cell_later hstep j1
  replace j2 := cell_later hstep j2
  replace B := below_chain B hstep
  replace F_w1 := below_chain F_w1 hstep
  replace F_w4 := below_chain F_w4 hstep
  clear hb hstep
  go_wp2_with (fail)
  refine (HI.out _).mono ?_
  rintro e w6 ⟨Ah, ch, rfl, hoh, hb⟩
  have hstep : Below w5.heap.size w5 w6 := below_chain (by (repeat (first | exact Below.refl _ _ | assumption | refine below_alloc ?_ _ | refine below_drewN ?_ _ | refine below_set ?_ _ (by simp; try omega) | refine Below.drew ?_))) hb
  replace k0 := cell_later hstep k0
  replace k1 := cell_later hstep k1
  replace k2 := cell_later hstep k2
  replace j0 := cell_later hstep j0
  replace j1 := cell_later hstep j1
  replace j2 := cell_later hstep j2
  replace B := below_chain B hstep
  replace F_w1 := below_chain F_w1 hstep
  replace F_w4 := below_chain F_w4 hstep
  have rh := Rd.own hoh
  clear hb hstep
  clear hoh
  have hz6 := World.block_lt_of_cell? _ _ k0
  have hz7 := World.block_lt_of_cell? _ _ j0
  have F_w6 : Below w6.heap.size w6 w6 := Below.refl _ _
  have S_w1_w6 : w1.heap.size ≤ w6.heap.size := F_w1.size
  have S_w4_w6 : w4.heap.size ≤ w6.heap.size := F_w4.size
  have S_w_w6 : w.heap.size ≤ w6.heap.size := B.size
  go_wp2_with (fail)
  refine (c_eqDiagram _ _ _ _ _ _ _ _ l _ rfl rfl (by have := HD.out; omega) (by exact rh.alloc _) (by exact (rw1.below F_w1).alloc _)).mono ?_
  rintro e w7 ⟨rfl, hb⟩
  have hstep : Below w6.heap.size w6 w7 := below_chain (by (repeat (first | exact Below.refl _ _ | assumption | refine below_alloc ?_ _ | refine below_drewN ?_ _ | refine below_set ?_ _ (by simp; try omega) | refine Below.drew ?_))) hb
  replace k0 := cell_later hstep k0
  replace k1 := cell_later hstep k1
  replace k2 := cell_later hstep k2
  replace j0 := cell_later hstep j0
  replace j1 := cell_later hstep j1
  replace j2 := cell_later hstep j2
  replace B := below_chain B hstep
  replace F_w1 := below_chain F_w1 hstep
  replace F_w4 := below_chain F_w4 hstep
  replace F_w6 := below_chain F_w6 hstep
  clear hb hstep
  go_wp2_with (fail)
  refine (c_heldDiagram _ _ _ _ _ 1 _ (by omega) (by have := HD.out; omega) (by exact rm.below F_w4)).mono ?_
  rintro e w8 ⟨rfl, hb⟩
  have hstep : Below w7.heap.size w7 w8 := below_chain (by (repeat (first | exact Below.refl _ _ | assumption | refine below_alloc ?_ _ | refine below_drewN ?_ _ | refine below_set ?_ _ (by simp; try omega) | refine Below.drew ?_))) hb
  replace k0 := cell_later hstep k0
  replace k1 := cell_later hstep k1
  replace k2 := cell_later hstep k2
  replace j0 := cell_later hstep j0
  replace j1 := cell_later hstep j1
  replace j2 := cell_later hstep j2
  replace B := below_chain B hstep
  replace F_w1 := below_chain F_w1 hstep
  replace F_w4 := below_chain F_w4 hstep
  replace F_w6 := below_chain F_w6 hstep
  clear hb hstep
  go_wp2_with (fail)
  go_ret
  exact ⟨rfl, B⟩
end Go.Proofs.Ytbiodieekommdaa
