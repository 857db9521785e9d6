/- Contracts of MayEnter (program and reference). Condition: the layout's slice ends within its row. -/
import Derived.Test.YthhedpdldjmfpaaMayE
namespace Go.Proofs.Ythhedpdldjmfpaa
open Go.RowKit

def meB (l : List Seg) (fs : List Int) (q : Nat) (x y : Int) : Bool := (entL l fs q).2.2 && wiB x y (entL l fs q).1 (entL l fs q).2.1
section
variable {A : Option Addr} {c n : Nat} {l : List Seg} {A' : Option Addr} {c' n' : Nat} {fs : List Int} {w : World}
set_option maxRecDepth 100000 in
theorem c_mayEnter (c q : Nat) (x y : Int) (hok : okB l fs = true) (hq : q < n') (hcn : n ≤ c) (h : LB w A n l A' c' n' fs) :
    Calls Try.prog 113 #[.agg #[.slice A n c], .slice A' n' c', .int .i64 q, .agg #[.int .i64 x, .int .i64 y]] w fun e w' => e = .returned (.bool (meB l fs q x y)) ∧ Below w.heap.size w w' := by
  have HM := Lib.hid (show meB l fs q x y = ((entL l fs q).2.2 && wiB x y (entL l fs q).1 (entL l fs q).2.1) from rfl)
  have HX := fun (w : World) (h : LB w A n l A' c' n' fs) => c_entry (w := w) c q (fstN fs q) (endN l fs q) hok hq hcn h rfl rfl
  have HEN := Lib.hid (show entL l fs q = entT (l.drop (fstN fs q)) (endN l fs q - 1 - fstN fs q) (segN l (endN l fs q - 1)) from rfl)
  rw [← HEN.out] at HX
  generalize entL l fs q = E at HM HX HEN
  obtain ⟨lo, hi, ok⟩ := E
  simp only at HM HX
  clear HEN
  cases ok
  all_goals
    skip
    go_enter Try.func113, Try.ntmps113
    go_wp2_with (first
      | (go_at_call 110
         refine (HX _ ((h.alloc _).alloc _)).mono ?_
         rintro e w1 ⟨rfl, hb⟩
         first | replace k0 := cell_later hb k0 | (have k0 : w1.cell? ⟨w.heap.size + 1, 0, none⟩ = some (.int .i64 x) := cell_later hb (by go_simp))
         first | replace k1 := cell_later hb k1 | (have k1 : w1.cell? ⟨w.heap.size + 1, 1, none⟩ = some (.int .i64 y) := cell_later hb (by go_simp))
         first | replace B := below_chain B hb | (have B : Below w.heap.size w w1 := below_chain (by (repeat (first | exact Below.refl _ _ | assumption | refine below_alloc ?_ _ | refine below_drewN ?_ _ | refine below_set ?_ _ (by simp; try omega) | refine Below.drew ?_))) hb)
         have hlt1 : w.heap.size + 1 < w1.heap.size := World.block_lt_of_cell? _ _ k0
         clear hb)
      | (go_at_call 151
         refine (c_isWithin _ _ _ _ _).mono ?_
         rintro e w1 ⟨rfl, hb⟩
         first | replace k0 := cell_later hb k0 | (have k0 : w1.cell? ⟨w.heap.size + 1, 0, none⟩ = some (.int .i64 x) := cell_later hb (by go_simp))
         first | replace k1 := cell_later hb k1 | (have k1 : w1.cell? ⟨w.heap.size + 1, 1, none⟩ = some (.int .i64 y) := cell_later hb (by go_simp))
         first | replace B := below_chain B hb | (have B : Below w.heap.size w w1 := below_chain (by (repeat (first | exact Below.refl _ _ | assumption | refine below_alloc ?_ _ | refine below_drewN ?_ _ | refine below_set ?_ _ (by simp; try omega) | refine Below.drew ?_))) hb)
         clear hb)
      )
    all_goals go_ret
    all_goals (refine ⟨ret_bool ?_, by (repeat (first | exact Below.refl _ _ | assumption | refine below_alloc ?_ _ | refine below_drewN ?_ _ | refine below_set ?_ _ (by simp; try omega) | refine Below.drew ?_))⟩; rw [HM.out]; simp [*])
def mbB (l : List Seg) (fs : List Int) (b x y : Int) : Bool := if ecC l fs b x y = 0 then meB l fs b.toNat x y else false
theorem ecC_cases (l : List Seg) (fs : List Int) (b x y : Int) : (ecC l fs b x y = 0 ∧ okB l fs = true ∧ enB x y = true ∧ codeB l fs b = 0 ∧ 0 ≤ b ∧ b < fs.length) ∨ ecC l fs b x y ≠ 0 := by
  unfold ecC
  rcases hok : okB l fs with _ | _
  · right; simp
  · rcases hen : enB x y with _ | _
    · right; simp
    · rcases codeB_cases l fs b with ⟨h1, _, h2, h3⟩ | ⟨h1, _⟩
      · left; exact ⟨by simp [h1], rfl, rfl, h1, h2, h3⟩
      · right; simpa using h1
set_option maxRecDepth 100000 in
theorem c_MayEnter (c : Nat) (b x y : Int) (hcn : n ≤ c) (h : LB w A n l A' c' n' fs) :
    Calls Try.prog 61 #[.agg #[.slice A n c], .slice A' n' c', .int .i64 b, .agg #[.int .i64 x, .int .i64 y]] w fun e w' => e = .returned (.tuple #[.bool (mbB l fs b x y), .int .i64 (ecC l fs b x y)]) ∧ Below w.heap.size w w' := by
  rcases ecC_cases l fs b x y with ⟨hc, hok, hen, hcb, h0, h1⟩ | hc
  · obtain ⟨q, rfl⟩ : ∃ q : Nat, b = q := ⟨b.toNat, by omega⟩
    have hq : q < n' := by have := h.hn'; omega
    have HM := Lib.hid (show mbB l fs q x y = meB l fs q x y by unfold mbB; rw [if_pos hc, Int.toNat_natCast])
    go_enter Try.func61, Try.ntmps61
    go_wp2_with (first
      | (go_at_call 112
         refine (c_entryCode _ _ _ _ ((h.alloc _).alloc _)).mono ?_
         rintro e w1 ⟨rfl, hb⟩
         first | replace k0 := cell_later hb k0 | (have k0 : w1.cell? ⟨w.heap.size, 0, none⟩ = some (.slice A n c) := cell_later hb (by go_simp))
         first | replace k1 := cell_later hb k1 | (have k1 : w1.cell? ⟨w.heap.size + 1, 0, none⟩ = some (.int .i64 x) := cell_later hb (by go_simp))
         first | replace k2 := cell_later hb k2 | (have k2 : w1.cell? ⟨w.heap.size + 1, 1, none⟩ = some (.int .i64 y) := cell_later hb (by go_simp))
         first | replace B := below_chain B hb | (have B : Below w.heap.size w w1 := below_chain (by (repeat (first | exact Below.refl _ _ | assumption | refine below_alloc ?_ _ | refine below_drewN ?_ _ | refine below_set ?_ _ (by simp; try omega) | refine Below.drew ?_))) hb)
         have h1' := Lib.hid (((h.alloc _).alloc _).below hb)
         clear hb)
      | (go_at_call 113
         refine (c_mayEnter _ _ _ _ hok hq hcn h1'.out).mono ?_
         rintro e w1 ⟨rfl, hb⟩
         first | replace k0 := cell_later hb k0 | (have k0 : w1.cell? ⟨w.heap.size, 0, none⟩ = some (.slice A n c) := cell_later hb (by go_simp))
         first | replace k1 := cell_later hb k1 | (have k1 : w1.cell? ⟨w.heap.size + 1, 0, none⟩ = some (.int .i64 x) := cell_later hb (by go_simp))
         first | replace k2 := cell_later hb k2 | (have k2 : w1.cell? ⟨w.heap.size + 1, 1, none⟩ = some (.int .i64 y) := cell_later hb (by go_simp))
         first | replace B := below_chain B hb | (have B : Below w.heap.size w w1 := below_chain (by (repeat (first | exact Below.refl _ _ | assumption | refine below_alloc ?_ _ | refine below_drewN ?_ _ | refine below_set ?_ _ (by simp; try omega) | refine Below.drew ?_))) hb)
         clear hb)
      )
    go_ret2
    refine ⟨?_, by (repeat (first | exact Below.refl _ _ | assumption | refine below_alloc ?_ _ | refine below_drewN ?_ _ | refine below_set ?_ _ (by simp; try omega) | refine Below.drew ?_))⟩
    rw [HM.out]
    simp [hc]
  · have hc' : (ecC l fs b x y == 0) = false := by simp [hc]
    have HM := Lib.hid (show mbB l fs b x y = false by unfold mbB; rw [if_neg hc])
    clear hc
    go_enter Try.func61, Try.ntmps61
    go_wp2_with (first
      | (go_at_call 112
         refine (c_entryCode _ _ _ _ ((h.alloc _).alloc _)).mono ?_
         rintro e w1 ⟨rfl, hb⟩
         first | replace k0 := cell_later hb k0 | (have k0 : w1.cell? ⟨w.heap.size, 0, none⟩ = some (.slice A n c) := cell_later hb (by go_simp))
         first | replace k1 := cell_later hb k1 | (have k1 : w1.cell? ⟨w.heap.size + 1, 0, none⟩ = some (.int .i64 x) := cell_later hb (by go_simp))
         first | replace k2 := cell_later hb k2 | (have k2 : w1.cell? ⟨w.heap.size + 1, 1, none⟩ = some (.int .i64 y) := cell_later hb (by go_simp))
         first | replace B := below_chain B hb | (have B : Below w.heap.size w w1 := below_chain (by (repeat (first | exact Below.refl _ _ | assumption | refine below_alloc ?_ _ | refine below_drewN ?_ _ | refine below_set ?_ _ (by simp; try omega) | refine Below.drew ?_))) hb)
         clear hb)
      )
    go_ret2
    refine ⟨?_, by (repeat (first | exact Below.refl _ _ | assumption | refine below_alloc ?_ _ | refine below_drewN ?_ _ | refine below_set ?_ _ (by simp; try omega) | refine Below.drew ?_))⟩
    rw [HM.out]
    rfl
end
end Go.Proofs.Ythhedpdldjmfpaa
