/- Contracts of IsEnergy (program and reference) and of the code of a block and an energy. No condition but the sizes. -/
import Derived.Test.YthhedpdldjmfpaaEntB
namespace Go.Proofs.Ythhedpdldjmfpaa
open Go.RowKit

def enB (x y : Int) : Bool := iwB x y 0 10000000000
theorem enB_eq (x y : Int) : enB x y = (ivB x y && wiB x y 0 10000000000) := by
  have : ivB 0 10000000000 = true := by decide
  simp [enB, iwB, this]
theorem enB_bd {x y : Int} (h : enB x y = true) : 0 ≤ x ∧ x ≤ y ∧ y ≤ 10000000000 := by
  rw [enB_eq] at h
  simp [ivB, wiB, leB] at h
  omega
theorem c_IsEnergy (x y : Int) (w : World) : Calls Try.prog 150 #[.agg #[.int .i64 x, .int .i64 y]] w fun e w' => e = .returned (.bool (enB x y)) ∧ Below w.heap.size w w' := by
  go_enter Try.func150, Try.ntmps150
  go_wp2_with (first
    | (go_at_call 133
       refine (c_IsWithin _ _ _ _ _).mono ?_
       rintro e w1 ⟨rfl, hb⟩
       first | replace B := below_chain B hb | (have B : Below w.heap.size w w1 := below_chain (by (repeat (first | exact Below.refl _ _ | assumption | refine below_alloc ?_ _ | refine below_drewN ?_ _ | refine below_set ?_ _ (by simp; try omega) | refine Below.drew ?_))) hb)
       clear hb)
    )
  all_goals go_ret
  all_goals (exact ⟨rfl, by (repeat (first | exact Below.refl _ _ | assumption | refine below_alloc ?_ _ | refine below_drewN ?_ _ | refine below_set ?_ _ (by simp; try omega) | refine Below.drew ?_))⟩)
theorem c_sIsEnergy (x y : Int) (w : World) : Calls Try.prog 111 #[.agg #[.int .i64 x, .int .i64 y]] w fun e w' => e = .returned (.bool (enB x y)) ∧ Below w.heap.size w w' := by
  go_enter Try.func111, Try.ntmps111
  go_wp2_with (first
    | (go_at_call 132
       refine (c_l03Within _ _ _ _ _).mono ?_
       rintro e w1 ⟨rfl, hb⟩
       first | replace B := below_chain B hb | (have B : Below w.heap.size w w1 := below_chain (by (repeat (first | exact Below.refl _ _ | assumption | refine below_alloc ?_ _ | refine below_drewN ?_ _ | refine below_set ?_ _ (by simp; try omega) | refine Below.drew ?_))) hb)
       clear hb)
    )
  all_goals go_ret
  all_goals (exact ⟨ret_bool (enB_eq x y).symm, by (repeat (first | exact Below.refl _ _ | assumption | refine below_alloc ?_ _ | refine below_drewN ?_ _ | refine below_set ?_ _ (by simp; try omega) | refine Below.drew ?_))⟩)
def ecC (l : List Seg) (fs : List Int) (b x y : Int) : Int := if okB l fs && enB x y then codeB l fs b else 1
section
variable {A : Option Addr} {c n : Nat} {l : List Seg} {A' : Option Addr} {c' n' : Nat} {fs : List Int} {w : World}
set_option maxRecDepth 100000 in
theorem c_entryCode (c : Nat) (b x y : Int) (h : LB w A n l A' c' n' fs) :
    Calls Try.prog 112 #[.agg #[.slice A n c], .slice A' n' c', .int .i64 b, .agg #[.int .i64 x, .int .i64 y]] w fun e w' => e = .returned (.int .i64 (ecC l fs b x y)) ∧ Below w.heap.size w w' := by
  have HN' := Lib.hid h.hn'
  have hs' := h.hs'
  rcases hok : okB l fs with _ | _
  · have HC := Lib.hid (show ecC l fs b x y = 1 by simp [ecC, hok])
    have hok' : (layB l && blkB l fs) = false := hok
    go_enter Try.func112, Try.ntmps112
    go_wp2_with (first
      | (go_at_call 29
         refine (k_AreBlocks _ ((h.alloc _).alloc _)).mono ?_
         rintro e w1 ⟨rfl, hb⟩
         first | replace B := below_chain B hb | (have B : Below w.heap.size w w1 := below_chain (by (repeat (first | exact Below.refl _ _ | assumption | refine below_alloc ?_ _ | refine below_drewN ?_ _ | refine below_set ?_ _ (by simp; try omega) | refine Below.drew ?_))) hb)
         clear hb)
      )
    go_ret
    exact ⟨ret_int HC.out.symm, by (repeat (first | exact Below.refl _ _ | assumption | refine below_alloc ?_ _ | refine below_drewN ?_ _ | refine below_set ?_ _ (by simp; try omega) | refine Below.drew ?_))⟩
  have hok' : (layB l && blkB l fs) = true := hok
  rcases hen : enB x y with _ | _
  · have HC := Lib.hid (show ecC l fs b x y = 1 by simp [ecC, hen])
    go_enter Try.func112, Try.ntmps112
    go_wp2_with (first
      | (go_at_call 29
         refine (k_AreBlocks _ ((h.alloc _).alloc _)).mono ?_
         rintro e w1 ⟨rfl, hb⟩
         first | replace k0 := cell_later hb k0 | (have k0 : w1.cell? ⟨w.heap.size + 1, 0, none⟩ = some (.int .i64 x) := cell_later hb (by go_simp))
         first | replace k1 := cell_later hb k1 | (have k1 : w1.cell? ⟨w.heap.size + 1, 1, none⟩ = some (.int .i64 y) := cell_later hb (by go_simp))
         first | replace B := below_chain B hb | (have B : Below w.heap.size w w1 := below_chain (by (repeat (first | exact Below.refl _ _ | assumption | refine below_alloc ?_ _ | refine below_drewN ?_ _ | refine below_set ?_ _ (by simp; try omega) | refine Below.drew ?_))) hb)
         clear hb)
      | (go_at_call 150
         refine (c_IsEnergy _ _ _).mono ?_
         rintro e w1 ⟨rfl, hb⟩
         first | replace k0 := cell_later hb k0 | (have k0 : w1.cell? ⟨w.heap.size + 1, 0, none⟩ = some (.int .i64 x) := cell_later hb (by go_simp))
         first | replace k1 := cell_later hb k1 | (have k1 : w1.cell? ⟨w.heap.size + 1, 1, none⟩ = some (.int .i64 y) := cell_later hb (by go_simp))
         first | replace B := below_chain B hb | (have B : Below w.heap.size w w1 := below_chain (by (repeat (first | exact Below.refl _ _ | assumption | refine below_alloc ?_ _ | refine below_drewN ?_ _ | refine below_set ?_ _ (by simp; try omega) | refine Below.drew ?_))) hb)
         clear hb)
      )
    go_ret
    exact ⟨ret_int HC.out.symm, by (repeat (first | exact Below.refl _ _ | assumption | refine below_alloc ?_ _ | refine below_drewN ?_ _ | refine below_set ?_ _ (by simp; try omega) | refine Below.drew ?_))⟩
  · have HC := Lib.hid (show ecC l fs b x y = if inB b 0 ((n' : Int) - 1) then 0 else 2 by simp [ecC, hok, hen, codeB, HN'.out])
    rcases hin : inB b 0 ((n' : Int) - 1) with _ | _
    all_goals rw [hin] at HC
    all_goals
     skip
     go_enter Try.func112, Try.ntmps112
     go_wp2_with (first
      | (go_at_call 29
         refine (k_AreBlocks _ ((h.alloc _).alloc _)).mono ?_
         rintro e w1 ⟨rfl, hb⟩
         first | replace k0 := cell_later hb k0 | (have k0 : w1.cell? ⟨w.heap.size + 1, 0, none⟩ = some (.int .i64 x) := cell_later hb (by go_simp))
         first | replace k1 := cell_later hb k1 | (have k1 : w1.cell? ⟨w.heap.size + 1, 1, none⟩ = some (.int .i64 y) := cell_later hb (by go_simp))
         first | replace k0 := cell_later hb k0 | (have k0 : w1.cell? ⟨w.heap.size + 1, 0, none⟩ = some (.int .i64 x) := cell_later hb (by go_simp))
         first | replace k1 := cell_later hb k1 | (have k1 : w1.cell? ⟨w.heap.size + 1, 1, none⟩ = some (.int .i64 y) := cell_later hb (by go_simp))
         first | replace B := below_chain B hb | (have B : Below w.heap.size w w1 := below_chain (by (repeat (first | exact Below.refl _ _ | assumption | refine below_alloc ?_ _ | refine below_drewN ?_ _ | refine below_set ?_ _ (by simp; try omega) | refine Below.drew ?_))) hb)
         clear hb)
      | (go_at_call 150
         refine (c_IsEnergy _ _ _).mono ?_
         rintro e w1 ⟨rfl, hb⟩
         first | replace k0 := cell_later hb k0 | (have k0 : w1.cell? ⟨w.heap.size + 1, 0, none⟩ = some (.int .i64 x) := cell_later hb (by go_simp))
         first | replace k1 := cell_later hb k1 | (have k1 : w1.cell? ⟨w.heap.size + 1, 1, none⟩ = some (.int .i64 y) := cell_later hb (by go_simp))
         first | replace k0 := cell_later hb k0 | (have k0 : w1.cell? ⟨w.heap.size + 1, 0, none⟩ = some (.int .i64 x) := cell_later hb (by go_simp))
         first | replace k1 := cell_later hb k1 | (have k1 : w1.cell? ⟨w.heap.size + 1, 1, none⟩ = some (.int .i64 y) := cell_later hb (by go_simp))
         first | replace B := below_chain B hb | (have B : Below w.heap.size w w1 := below_chain (by (repeat (first | exact Below.refl _ _ | assumption | refine below_alloc ?_ _ | refine below_drewN ?_ _ | refine below_set ?_ _ (by simp; try omega) | refine Below.drew ?_))) hb)
         clear hb)
      | (go_at_call 103
         refine (c_length_int64 _ _ _ _ (by omega)).mono ?_
         rintro e w' ⟨rfl, rfl⟩)
      | (go_at_call 93
         refine (c_within _ _ _ _).mono ?_
         rintro e w' ⟨rfl, rfl⟩)
      )
     go_ret
     exact ⟨ret_int (by rw [HC.out]; rfl), by (repeat (first | exact Below.refl _ _ | assumption | refine below_alloc ?_ _ | refine below_drewN ?_ _ | refine below_set ?_ _ (by simp; try omega) | refine Below.drew ?_))⟩
end
end Go.Proofs.Ythhedpdldjmfpaa
