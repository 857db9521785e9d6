/- Contracts of InputDiagram (program and reference). No condition. -/
import Derived.Test.YtbiodieekommdaaConD
namespace Go.Proofs.Ytbiodieekommdaa
open Go.RowKit

/-- What is handed back: a diagram with a new list of nodes of the call's own, and a code. -/
def RetD (x : Int) (l : List Nd) (r c : Int) (w : World) (e : Ending) (w' : World) : Prop :=
  ∃ A cp, e = .returned (.tuple #[.agg #[.int .i64 x, .slice A l.length cp, .int .i64 r], .int .i64 c]) ∧ w'.ownsRow w.heap.size 60 3 (.slice A l.length cp) l.length (ndCells l) ∧ Below w.heap.size w w'
theorem r_ConstantDiagram (n : Int) (v : Bool) (w : World) : Calls Try.prog 19 #[.int .i64 n, .bool v] w (RetD (cdN n) [] (cdR n v) (cdC n) w) := by
  refine (c_ConstantDiagram n v w).mono ?_
  rintro e w1 ⟨rfl, hb⟩
  exact ⟨none, 0, rfl, ⟨rfl, .inl ⟨rfl, rfl⟩⟩, hb⟩
theorem r_sConstantDiagram (n : Int) (v : Bool) (w : World) : Calls Try.prog 18 #[.int .i64 n, .bool v] w (RetD (cdN n) [] (cdR n v) (cdC n) w) := by
  refine (c_sConstantDiagram n v w).mono ?_
  rintro e w1 ⟨rfl, hb⟩
  exact ⟨none, 0, rfl, ⟨rfl, .inl ⟨rfl, rfl⟩⟩, hb⟩
theorem wrap_pred {n : Int} (h : inB n 0 20 = true) : wrap64 (n - 1) = n - 1 := by
  simp only [inB, decide_eq_true_eq] at h
  exact IntWalk.wrap64_in _ ⟨by omega, by omega⟩
def idB (n x : Int) : Bool := inB n 0 20 && inB x 0 (n - 1)
def idN (n x : Int) : Int := if idB n x then n else 0
def idL (n x : Int) : List Nd := if idB n x then [⟨x, 0, 1⟩] else []
def idR (n x : Int) : Int := if idB n x then 2 else 0
def idC (n x : Int) : Int := if idB n x then 0 else 2
theorem ret_no (w : World) {n x : Int} (h : idB n x = false) {W : World} (hb : Below w.heap.size w W) : RetD (idN n x) (idL n x) (idR n x) (idC n x) w (.returned (.tuple #[.agg #[.int .i64 0, .slice none 0 0, .int .i64 0], .int .i64 2])) W := by
  have h1 : idN n x = 0 := by simp [idN, h]
  have h2 : idL n x = [] := by simp [idL, h]
  have h3 : idR n x = 0 := by simp [idR, h]
  have h4 : idC n x = 2 := by simp [idC, h]
  rw [h1, h2, h3, h4]
  exact ⟨none, 0, rfl, ⟨rfl, .inl ⟨rfl, rfl⟩⟩, hb⟩
theorem ret_yes (w : World) {n x : Int} (h : idB n x = true) {g : Nat} {W : World} (ho : W.ownsRow w.heap.size 60 3 (.slice (some ⟨g, 0, none⟩) 1 1) 1 [.int .i64 x, .int .i64 0, .int .i64 1]) (hb : Below w.heap.size w W) : RetD (idN n x) (idL n x) (idR n x) (idC n x) w (.returned (.tuple #[.agg #[.int .i64 n, .slice (some ⟨g, 0, none⟩) 1 1, .int .i64 2], .int .i64 0])) W := by
  have h1 : idN n x = n := by simp [idN, h]
  have h2 : idL n x = [⟨x, 0, 1⟩] := by simp [idL, h]
  have h3 : idR n x = 2 := by simp [idR, h]
  have h4 : idC n x = 0 := by simp [idC, h]
  rw [h1, h2, h3, h4]
  exact ⟨_, _, rfl, ho, hb⟩
set_option maxRecDepth 100000 in
theorem c_InputDiagram (n x : Int) (w : World) : Calls Try.prog 14 #[.int .i64 n, .int .i64 x] w (RetD (idN n x) (idL n x) (idR n x) (idC n x) w) := by
  rcases h : inB n 0 20 with _ | _
  · have hid : idB n x = false := by simp [idB, h]
    go_enter Try.func14, Try.ntmps14
    go_wp2_with (first
      | (go_at_call 44
         refine (c_isInputs _ _).mono ?_
         rintro e w' ⟨rfl, rfl⟩)
      )
    refine bodyPost_ret (v := .tuple #[.agg #[.int .i64 0, .slice none 0 0, .int .i64 0], .int .i64 2]) (by simp [results, Try.results14, go_sem]) rfl (ret_no w hid (by (repeat (first | exact Below.refl _ _ | assumption | refine below_alloc ?_ _ | refine below_drewN ?_ _ | refine below_set ?_ _ (by simp; try omega) | refine Below.drew ?_))))
  have hw := wrap_pred h
  rcases h2 : inB x 0 (n - 1) with _ | _
  · have hid : idB n x = false := by simp [idB, h2]
    go_enter Try.func14, Try.ntmps14
    go_wp2_with (first
      | (go_at_call 44
         refine (c_isInputs _ _).mono ?_
         rintro e w' ⟨rfl, rfl⟩)
      | (go_at_call 45
         refine (c_within _ _ _ _).mono ?_
         rintro e w' ⟨rfl, rfl⟩)
      )
    refine bodyPost_ret (v := .tuple #[.agg #[.int .i64 0, .slice none 0 0, .int .i64 0], .int .i64 2]) (by simp [results, Try.results14, go_sem]) rfl (ret_no w hid (by (repeat (first | exact Below.refl _ _ | assumption | refine below_alloc ?_ _ | refine below_drewN ?_ _ | refine below_set ?_ _ (by simp; try omega) | refine Below.drew ?_))))
  · have hid : idB n x = true := by simp [idB, h, h2]
    go_enter Try.func14, Try.ntmps14
    go_wp2_with (first
      | (go_at_call 44
         refine (c_isInputs _ _).mono ?_
         rintro e w' ⟨rfl, rfl⟩)
      | (go_at_call 45
         refine (c_within _ _ _ _).mono ?_
         rintro e w' ⟨rfl, rfl⟩)
      )
    have ho := World.ownsRow_lit (e := 60) (size := 3) (base := w.heap.size) (w.alloc (.cells #[.int .i64 n, .slice (some ⟨w.heap.size + 1, 0, none⟩) 1 1, .int .i64 2] 24)) #[.int .i64 x, .int .i64 0, .int .i64 1] 1 (by simp) (by decide) (by simp)
    simp only [World.size_alloc] at ho
    refine bodyPost_ret (v := .tuple #[.agg #[.int .i64 n, .slice (some ⟨w.heap.size + 1, 0, none⟩) 1 1, .int .i64 2], .int .i64 0]) (by simp [results, Try.results14, go_sem]) rfl (ret_yes w hid ho (by (repeat (first | exact Below.refl _ _ | assumption | refine below_alloc ?_ _ | refine below_drewN ?_ _ | refine below_set ?_ _ (by simp; try omega) | refine Below.drew ?_))))
set_option maxRecDepth 100000 in
theorem c_sInputDiagram (n x : Int) (w : World) : Calls Try.prog 13 #[.int .i64 n, .int .i64 x] w (RetD (idN n x) (idL n x) (idR n x) (idC n x) w) := by
  rcases h : inB n 0 20 with _ | _
  · have hid : idB n x = false := by simp [idB, h]
    go_enter Try.func13, Try.ntmps13
    go_wp2_with (first
      | (go_at_call 43
         refine (c_l01In _ _ _ _).mono ?_
         rintro e w' ⟨rfl, rfl⟩)
      )
    refine bodyPost_ret (v := .tuple #[.agg #[.int .i64 0, .slice none 0 0, .int .i64 0], .int .i64 2]) (by simp [results, Try.results13, go_sem]) rfl (ret_no w hid (by (repeat (first | exact Below.refl _ _ | assumption | refine below_alloc ?_ _ | refine below_drewN ?_ _ | refine below_set ?_ _ (by simp; try omega) | refine Below.drew ?_))))
  have hw := wrap_pred h
  rcases h2 : inB x 0 (n - 1) with _ | _
  · have hid : idB n x = false := by simp [idB, h2]
    go_enter Try.func13, Try.ntmps13
    go_wp2_with (first
      | (go_at_call 43
         refine (c_l01In _ _ _ _).mono ?_
         rintro e w' ⟨rfl, rfl⟩)
      )
    refine bodyPost_ret (v := .tuple #[.agg #[.int .i64 0, .slice none 0 0, .int .i64 0], .int .i64 2]) (by simp [results, Try.results13, go_sem]) rfl (ret_no w hid (by (repeat (first | exact Below.refl _ _ | assumption | refine below_alloc ?_ _ | refine below_drewN ?_ _ | refine below_set ?_ _ (by simp; try omega) | refine Below.drew ?_))))
  · have hid : idB n x = true := by simp [idB, h, h2]
    go_enter Try.func13, Try.ntmps13
    go_wp2_with (first
      | (go_at_call 43
         refine (c_l01In _ _ _ _).mono ?_
         rintro e w' ⟨rfl, rfl⟩)
      )
    have ho := World.ownsRow_lit (e := 60) (size := 3) (base := w.heap.size) (w.alloc (.cells #[.int .i64 n, .slice (some ⟨w.heap.size + 1, 0, none⟩) 1 1, .int .i64 2] 24)) #[.int .i64 x, .int .i64 0, .int .i64 1] 1 (by simp) (by decide) (by simp)
    simp only [World.size_alloc] at ho
    refine bodyPost_ret (v := .tuple #[.agg #[.int .i64 n, .slice (some ⟨w.heap.size + 1, 0, none⟩) 1 1, .int .i64 2], .int .i64 0]) (by simp [results, Try.results13, go_sem]) rfl (ret_yes w hid ho (by (repeat (first | exact Below.refl _ _ | assumption | refine below_alloc ?_ _ | refine below_drewN ?_ _ | refine below_set ?_ _ (by simp; try omega) | refine Below.drew ?_))))
end Go.Proofs.Ytbiodieekommdaa
