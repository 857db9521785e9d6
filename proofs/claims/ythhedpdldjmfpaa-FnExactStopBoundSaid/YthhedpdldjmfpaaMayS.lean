/- Contract of the reference's MayEnter. No condition but the sizes. -/
import Derived.Test.YthhedpdldjmfpaaMayF
namespace Go.Proofs.Ythhedpdldjmfpaa
open Go.RowKit

theorem meB_spec {l : List Seg} {fs : List Int} {q : Nat} {x y lo hi : Int} (hxy : x ≤ y) (hS : entS (l.drop (fstN fs q)) (endN l fs q - 1 - fstN fs q) (segN l (endN l fs q - 1)) = (lo, hi)) : meB l fs q x y = (decide (lo ≤ x) && decide (y ≤ hi)) := by
  have hag := ent_agree (l.drop (fstN fs q)) (endN l fs q - 1 - fstN fs q) (segN l (endN l fs q - 1))
  rw [hS] at hag
  unfold meB entL wiB
  rcases hag with ⟨a1, a2, a3, a4⟩ | ⟨a1, a2⟩
  · rw [a1, ← a3, ← a4]; simp
  · rw [a1]
    simp only at a2
    by_cases h1 : lo ≤ x
    · by_cases h2 : y ≤ hi
      · omega
      · simp [h2]
    · simp [h1]
section
variable {A : Option Addr} {c n : Nat} {l : List Seg} {A' : Option Addr} {c' n' : Nat} {fs : List Int} {w : World}
set_option maxRecDepth 100000 in
theorem c_sMayEnter (c : Nat) (b x y : Int) (h : LB w A n l A' c' n' fs) :
    Calls Try.prog 59 #[.agg #[.slice A n c], .slice A' n' c', .int .i64 b, .agg #[.int .i64 x, .int .i64 y]] w fun e w' => e = .returned (.tuple #[.bool (mbB l fs b x y), .int .i64 (ecC l fs b x y)]) ∧ Below w.heap.size w w' := by
  rcases hok : okB l fs with _ | _
  · have hok' : (layB l && blkB l fs) = false := hok
    have HC := Lib.hid (show ecC l fs b x y = 1 by simp [ecC, hok])
    have HM := Lib.hid (show mbB l fs b x y = false by unfold mbB; rw [HC.out]; rfl)
    go_enter Try.func59, Try.ntmps59
    go_wp2_with (first
      | (go_at_call 26
         refine (k_sAreBlocks _ ((h.alloc _).alloc _)).mono ?_
         rintro e w1 ⟨rfl, hb⟩
         first | replace B := below_chain B hb | (have B : Below w.heap.size w w1 := below_chain (by (repeat (first | exact Below.refl _ _ | assumption | refine below_alloc ?_ _ | refine below_drewN ?_ _ | refine below_set ?_ _ (by simp; try omega) | refine Below.drew ?_))) hb)
         clear hb)
      )
    go_ret2
    refine ⟨?_, by (repeat (first | exact Below.refl _ _ | assumption | refine below_alloc ?_ _ | refine below_drewN ?_ _ | refine below_set ?_ _ (by simp; try omega) | refine Below.drew ?_))⟩
    rw [HM.out, HC.out]
    rfl
  have hok' : (layB l && blkB l fs) = true := hok
  rcases hen : enB x y with _ | _
  · have HC := Lib.hid (show ecC l fs b x y = 1 by simp [ecC, hen])
    have HM := Lib.hid (show mbB l fs b x y = false by unfold mbB; rw [HC.out]; rfl)
    go_enter Try.func59, Try.ntmps59
    go_wp2_with (first
      | (go_at_call 26
         refine (k_sAreBlocks _ ((h.alloc _).alloc _)).mono ?_
         rintro e w1 ⟨rfl, hb⟩
         first | replace k0 := cell_later hb k0 | (have k0 : w1.cell? ⟨w.heap.size, 0, none⟩ = some (.slice A n c) := cell_later hb (by go_simp))
         first | replace k1 := cell_later hb k1 | (have k1 : w1.cell? ⟨w.heap.size + 1, 0, none⟩ = some (.int .i64 x) := cell_later hb (by go_simp))
         first | replace k2 := cell_later hb k2 | (have k2 : w1.cell? ⟨w.heap.size + 1, 1, none⟩ = some (.int .i64 y) := cell_later hb (by go_simp))
         first | replace B := below_chain B hb | (have B : Below w.heap.size w w1 := below_chain (by (repeat (first | exact Below.refl _ _ | assumption | refine below_alloc ?_ _ | refine below_drewN ?_ _ | refine below_set ?_ _ (by simp; try omega) | refine Below.drew ?_))) hb)
         clear hb)
      | (go_at_call 111
         refine (c_sIsEnergy _ _ _).mono ?_
         rintro e w1 ⟨rfl, hb⟩
         first | replace k0 := cell_later hb k0 | (have k0 : w1.cell? ⟨w.heap.size, 0, none⟩ = some (.slice A n c) := cell_later hb (by go_simp))
         first | replace k1 := cell_later hb k1 | (have k1 : w1.cell? ⟨w.heap.size + 1, 0, none⟩ = some (.int .i64 x) := cell_later hb (by go_simp))
         first | replace k2 := cell_later hb k2 | (have k2 : w1.cell? ⟨w.heap.size + 1, 1, none⟩ = some (.int .i64 y) := cell_later hb (by go_simp))
         first | replace B := below_chain B hb | (have B : Below w.heap.size w w1 := below_chain (by (repeat (first | exact Below.refl _ _ | assumption | refine below_alloc ?_ _ | refine below_drewN ?_ _ | refine below_set ?_ _ (by simp; try omega) | refine Below.drew ?_))) hb)
         clear hb)
      )
    go_ret2
    refine ⟨?_, by (repeat (first | exact Below.refl _ _ | assumption | refine below_alloc ?_ _ | refine below_drewN ?_ _ | refine below_set ?_ _ (by simp; try omega) | refine Below.drew ?_))⟩
    rw [HM.out, HC.out]
    rfl
  have HE : Hid (ecC l fs b x y = codeB l fs b) := Lib.hid (by simp [ecC, hok, hen])
  rcases codeB_cases l fs b with ⟨hc, _, h0, h1⟩ | ⟨hc, _⟩
  · obtain ⟨q, rfl⟩ : ∃ q : Nat, b = q := ⟨b.toNat, by omega⟩
    have hq : q < n' := by have := h.hn'; omega
    generalize hS : entS (l.drop (fstN fs q)) (endN l fs q - 1 - fstN fs q) (segN l (endN l fs q - 1)) = S
    obtain ⟨lo, hi⟩ := S
    have HM : Hid (mbB l fs q x y = (decide (lo ≤ x) && decide (y ≤ hi))) := Lib.hid (by unfold mbB; rw [HE.out, if_pos hc, Int.toNat_natCast]; exact meB_spec (enB_bd hen).2.1 hS)
    have HX := fun (w : World) (h : LB w A n l A' c' n' fs) => c_l07Entry (w := w) c q (fstN fs q) (endN l fs q) hok hq h rfl rfl
    rw [hS] at HX
    simp only at HX
    clear hS
    go_enter Try.func59, Try.ntmps59
    go_wp2_with (first
      | (go_at_call 26
         refine (k_sAreBlocks _ ((h.alloc _).alloc _)).mono ?_
         rintro e w1 ⟨rfl, hb⟩
         first | replace k0 := cell_later hb k0 | (have k0 : w1.cell? ⟨w.heap.size, 0, none⟩ = some (.slice A n c) := cell_later hb (by go_simp))
         first | replace k1 := cell_later hb k1 | (have k1 : w1.cell? ⟨w.heap.size + 1, 0, none⟩ = some (.int .i64 x) := cell_later hb (by go_simp))
         first | replace k2 := cell_later hb k2 | (have k2 : w1.cell? ⟨w.heap.size + 1, 1, none⟩ = some (.int .i64 y) := cell_later hb (by go_simp))
         first | replace k0 := cell_later hb k0 | (have k0 : w1.cell? ⟨w.heap.size, 0, none⟩ = some (.slice A n c) := cell_later hb (by go_simp))
         first | replace k1 := cell_later hb k1 | (have k1 : w1.cell? ⟨w.heap.size + 1, 0, none⟩ = some (.int .i64 x) := cell_later hb (by go_simp))
         first | replace k2 := cell_later hb k2 | (have k2 : w1.cell? ⟨w.heap.size + 1, 1, none⟩ = some (.int .i64 y) := cell_later hb (by go_simp))
         first | replace B := below_chain B hb | (have B : Below w.heap.size w w1 := below_chain (by (repeat (first | exact Below.refl _ _ | assumption | refine below_alloc ?_ _ | refine below_drewN ?_ _ | refine below_set ?_ _ (by simp; try omega) | refine Below.drew ?_))) hb)
         have g1 := Lib.hid (((h.alloc _).alloc _).below hb)
         clear hb)
      | (go_at_call 111
         refine (c_sIsEnergy _ _ _).mono ?_
         rintro e w1 ⟨rfl, hb⟩
         first | replace k0 := cell_later hb k0 | (have k0 : w1.cell? ⟨w.heap.size, 0, none⟩ = some (.slice A n c) := cell_later hb (by go_simp))
         first | replace k1 := cell_later hb k1 | (have k1 : w1.cell? ⟨w.heap.size + 1, 0, none⟩ = some (.int .i64 x) := cell_later hb (by go_simp))
         first | replace k2 := cell_later hb k2 | (have k2 : w1.cell? ⟨w.heap.size + 1, 1, none⟩ = some (.int .i64 y) := cell_later hb (by go_simp))
         first | replace k0 := cell_later hb k0 | (have k0 : w1.cell? ⟨w.heap.size, 0, none⟩ = some (.slice A n c) := cell_later hb (by go_simp))
         first | replace k1 := cell_later hb k1 | (have k1 : w1.cell? ⟨w.heap.size + 1, 0, none⟩ = some (.int .i64 x) := cell_later hb (by go_simp))
         first | replace k2 := cell_later hb k2 | (have k2 : w1.cell? ⟨w.heap.size + 1, 1, none⟩ = some (.int .i64 y) := cell_later hb (by go_simp))
         first | replace B := below_chain B hb | (have B : Below w.heap.size w w1 := below_chain (by (repeat (first | exact Below.refl _ _ | assumption | refine below_alloc ?_ _ | refine below_drewN ?_ _ | refine below_set ?_ _ (by simp; try omega) | refine Below.drew ?_))) hb)
         have g2 := Lib.hid (g1.out.below hb)
         clear hb)
      | (go_at_call 83
         refine (c_l04Block _ _ g2.out).mono ?_
         rintro e w1 ⟨rfl, hb⟩
         first | replace k0 := cell_later hb k0 | (have k0 : w1.cell? ⟨w.heap.size, 0, none⟩ = some (.slice A n c) := cell_later hb (by go_simp))
         first | replace k1 := cell_later hb k1 | (have k1 : w1.cell? ⟨w.heap.size + 1, 0, none⟩ = some (.int .i64 x) := cell_later hb (by go_simp))
         first | replace k2 := cell_later hb k2 | (have k2 : w1.cell? ⟨w.heap.size + 1, 1, none⟩ = some (.int .i64 y) := cell_later hb (by go_simp))
         first | replace k0 := cell_later hb k0 | (have k0 : w1.cell? ⟨w.heap.size, 0, none⟩ = some (.slice A n c) := cell_later hb (by go_simp))
         first | replace k1 := cell_later hb k1 | (have k1 : w1.cell? ⟨w.heap.size + 1, 0, none⟩ = some (.int .i64 x) := cell_later hb (by go_simp))
         first | replace k2 := cell_later hb k2 | (have k2 : w1.cell? ⟨w.heap.size + 1, 1, none⟩ = some (.int .i64 y) := cell_later hb (by go_simp))
         first | replace B := below_chain B hb | (have B : Below w.heap.size w w1 := below_chain (by (repeat (first | exact Below.refl _ _ | assumption | refine below_alloc ?_ _ | refine below_drewN ?_ _ | refine below_set ?_ _ (by simp; try omega) | refine Below.drew ?_))) hb)
         have g3 := Lib.hid (g2.out.below hb)
         clear hb)
      | (go_at_call 109
         refine (HX _ g3.out).mono ?_
         rintro e w1 ⟨rfl, hb⟩
         first | replace k0 := cell_later hb k0 | (have k0 : w1.cell? ⟨w.heap.size, 0, none⟩ = some (.slice A n c) := cell_later hb (by go_simp))
         first | replace k1 := cell_later hb k1 | (have k1 : w1.cell? ⟨w.heap.size + 1, 0, none⟩ = some (.int .i64 x) := cell_later hb (by go_simp))
         first | replace k2 := cell_later hb k2 | (have k2 : w1.cell? ⟨w.heap.size + 1, 1, none⟩ = some (.int .i64 y) := cell_later hb (by go_simp))
         first | replace k0 := cell_later hb k0 | (have k0 : w1.cell? ⟨w.heap.size, 0, none⟩ = some (.slice A n c) := cell_later hb (by go_simp))
         first | replace k1 := cell_later hb k1 | (have k1 : w1.cell? ⟨w.heap.size + 1, 0, none⟩ = some (.int .i64 x) := cell_later hb (by go_simp))
         first | replace k2 := cell_later hb k2 | (have k2 : w1.cell? ⟨w.heap.size + 1, 1, none⟩ = some (.int .i64 y) := cell_later hb (by go_simp))
         first | replace B := below_chain B hb | (have B : Below w.heap.size w w1 := below_chain (by (repeat (first | exact Below.refl _ _ | assumption | refine below_alloc ?_ _ | refine below_drewN ?_ _ | refine below_set ?_ _ (by simp; try omega) | refine Below.drew ?_))) hb)
         clear hb)
      )
    all_goals go_ret2
    all_goals (refine ⟨?_, by (repeat (first | exact Below.refl _ _ | assumption | refine below_alloc ?_ _ | refine below_drewN ?_ _ | refine below_set ?_ _ (by simp; try omega) | refine Below.drew ?_))⟩; rw [HM.out, HE.out]; simp [*] <;> (intros; simp_all) <;> omega)
  · have hc' : (codeB l fs b == 0) = false := by simp [hc]
    have HM := Lib.hid (show mbB l fs b x y = false by unfold mbB; rw [HE.out, if_neg hc])
    clear hc
    go_enter Try.func59, Try.ntmps59
    go_wp2_with (first
      | (go_at_call 26
         refine (k_sAreBlocks _ ((h.alloc _).alloc _)).mono ?_
         rintro e w1 ⟨rfl, hb⟩
         first | replace k0 := cell_later hb k0 | (have k0 : w1.cell? ⟨w.heap.size, 0, none⟩ = some (.slice A n c) := cell_later hb (by go_simp))
         first | replace k1 := cell_later hb k1 | (have k1 : w1.cell? ⟨w.heap.size + 1, 0, none⟩ = some (.int .i64 x) := cell_later hb (by go_simp))
         first | replace k2 := cell_later hb k2 | (have k2 : w1.cell? ⟨w.heap.size + 1, 1, none⟩ = some (.int .i64 y) := cell_later hb (by go_simp))
         first | replace k0 := cell_later hb k0 | (have k0 : w1.cell? ⟨w.heap.size, 0, none⟩ = some (.slice A n c) := cell_later hb (by go_simp))
         first | replace k1 := cell_later hb k1 | (have k1 : w1.cell? ⟨w.heap.size + 1, 0, none⟩ = some (.int .i64 x) := cell_later hb (by go_simp))
         first | replace k2 := cell_later hb k2 | (have k2 : w1.cell? ⟨w.heap.size + 1, 1, none⟩ = some (.int .i64 y) := cell_later hb (by go_simp))
         first | replace k0 := cell_later hb k0 | (have k0 : w1.cell? ⟨w.heap.size, 0, none⟩ = some (.slice A n c) := cell_later hb (by go_simp))
         first | replace k1 := cell_later hb k1 | (have k1 : w1.cell? ⟨w.heap.size + 1, 0, none⟩ = some (.int .i64 x) := cell_later hb (by go_simp))
         first | replace k2 := cell_later hb k2 | (have k2 : w1.cell? ⟨w.heap.size + 1, 1, none⟩ = some (.int .i64 y) := cell_later hb (by go_simp))
         first | replace B := below_chain B hb | (have B : Below w.heap.size w w1 := below_chain (by (repeat (first | exact Below.refl _ _ | assumption | refine below_alloc ?_ _ | refine below_drewN ?_ _ | refine below_set ?_ _ (by simp; try omega) | refine Below.drew ?_))) hb)
         have g1 := Lib.hid (((h.alloc _).alloc _).below hb)
         clear hb)
      | (go_at_call 111
         refine (c_sIsEnergy _ _ _).mono ?_
         rintro e w1 ⟨rfl, hb⟩
         first | replace k0 := cell_later hb k0 | (have k0 : w1.cell? ⟨w.heap.size, 0, none⟩ = some (.slice A n c) := cell_later hb (by go_simp))
         first | replace k1 := cell_later hb k1 | (have k1 : w1.cell? ⟨w.heap.size + 1, 0, none⟩ = some (.int .i64 x) := cell_later hb (by go_simp))
         first | replace k2 := cell_later hb k2 | (have k2 : w1.cell? ⟨w.heap.size + 1, 1, none⟩ = some (.int .i64 y) := cell_later hb (by go_simp))
         first | replace k0 := cell_later hb k0 | (have k0 : w1.cell? ⟨w.heap.size, 0, none⟩ = some (.slice A n c) := cell_later hb (by go_simp))
         first | replace k1 := cell_later hb k1 | (have k1 : w1.cell? ⟨w.heap.size + 1, 0, none⟩ = some (.int .i64 x) := cell_later hb (by go_simp))
         first | replace k2 := cell_later hb k2 | (have k2 : w1.cell? ⟨w.heap.size + 1, 1, none⟩ = some (.int .i64 y) := cell_later hb (by go_simp))
         first | replace k0 := cell_later hb k0 | (have k0 : w1.cell? ⟨w.heap.size, 0, none⟩ = some (.slice A n c) := cell_later hb (by go_simp))
         first | replace k1 := cell_later hb k1 | (have k1 : w1.cell? ⟨w.heap.size + 1, 0, none⟩ = some (.int .i64 x) := cell_later hb (by go_simp))
         first | replace k2 := cell_later hb k2 | (have k2 : w1.cell? ⟨w.heap.size + 1, 1, none⟩ = some (.int .i64 y) := cell_later hb (by go_simp))
         first | replace B := below_chain B hb | (have B : Below w.heap.size w w1 := below_chain (by (repeat (first | exact Below.refl _ _ | assumption | refine below_alloc ?_ _ | refine below_drewN ?_ _ | refine below_set ?_ _ (by simp; try omega) | refine Below.drew ?_))) hb)
         have g2 := Lib.hid (g1.out.below hb)
         clear hb)
      | (go_at_call 83
         refine (c_l04Block _ _ g2.out).mono ?_
         rintro e w1 ⟨rfl, hb⟩
         first | replace k0 := cell_later hb k0 | (have k0 : w1.cell? ⟨w.heap.size, 0, none⟩ = some (.slice A n c) := cell_later hb (by go_simp))
         first | replace k1 := cell_later hb k1 | (have k1 : w1.cell? ⟨w.heap.size + 1, 0, none⟩ = some (.int .i64 x) := cell_later hb (by go_simp))
         first | replace k2 := cell_later hb k2 | (have k2 : w1.cell? ⟨w.heap.size + 1, 1, none⟩ = some (.int .i64 y) := cell_later hb (by go_simp))
         first | replace k0 := cell_later hb k0 | (have k0 : w1.cell? ⟨w.heap.size, 0, none⟩ = some (.slice A n c) := cell_later hb (by go_simp))
         first | replace k1 := cell_later hb k1 | (have k1 : w1.cell? ⟨w.heap.size + 1, 0, none⟩ = some (.int .i64 x) := cell_later hb (by go_simp))
         first | replace k2 := cell_later hb k2 | (have k2 : w1.cell? ⟨w.heap.size + 1, 1, none⟩ = some (.int .i64 y) := cell_later hb (by go_simp))
         first | replace k0 := cell_later hb k0 | (have k0 : w1.cell? ⟨w.heap.size, 0, none⟩ = some (.slice A n c) := cell_later hb (by go_simp))
         first | replace k1 := cell_later hb k1 | (have k1 : w1.cell? ⟨w.heap.size + 1, 0, none⟩ = some (.int .i64 x) := cell_later hb (by go_simp))
         first | replace k2 := cell_later hb k2 | (have k2 : w1.cell? ⟨w.heap.size + 1, 1, none⟩ = some (.int .i64 y) := cell_later hb (by go_simp))
         first | replace B := below_chain B hb | (have B : Below w.heap.size w w1 := below_chain (by (repeat (first | exact Below.refl _ _ | assumption | refine below_alloc ?_ _ | refine below_drewN ?_ _ | refine below_set ?_ _ (by simp; try omega) | refine Below.drew ?_))) hb)
         clear hb)
      )
    go_ret2
    refine ⟨?_, by (repeat (first | exact Below.refl _ _ | assumption | refine below_alloc ?_ _ | refine below_drewN ?_ _ | refine below_set ?_ _ (by simp; try omega) | refine Below.drew ?_))⟩
    rw [HM.out, HE.out]
    rfl
end
end Go.Proofs.Ythhedpdldjmfpaa
