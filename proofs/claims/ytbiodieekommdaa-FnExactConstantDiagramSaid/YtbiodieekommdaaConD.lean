/- Contracts of ConstantDiagram (program and reference) and the walk of the law FnExactConstantDiagram. No condition. -/
import Derived.Test.YtbiodieekommdaaDNode
namespace Go.Proofs.Ytbiodieekommdaa
open Go.RowKit

theorem c_isInputs (n : Int) (w : World) : Calls Try.prog 44 #[.int .i64 n] w fun e w' => e = .returned (.bool (inB n 0 20)) ∧ w = w' := by
  go_enter Try.func44, Try.ntmps44
  go_wp2_with (first
    | (go_at_call 45
       refine (c_within _ _ _ _).mono ?_
       rintro e w' ⟨rfl, rfl⟩)
    )
  go_ret
  exact ⟨rfl, rfl⟩
def bitI (b : Bool) : Int := if b then 1 else 0
theorem c_truth (b : Bool) (w : World) : Calls Try.prog 49 #[.bool b] w fun e w' => e = .returned (.int .i64 (bitI b)) ∧ w = w' := by
  cases b
  all_goals skip
  · skip
    go_enter Try.func49, Try.ntmps49
    go_wp2
    go_ret
    exact ⟨rfl, rfl⟩
  · skip
    go_enter Try.func49, Try.ntmps49
    go_wp2
    go_ret
    exact ⟨rfl, rfl⟩
def cdN (n : Int) : Int := if inB n 0 20 then n else 0
def cdR (n : Int) (v : Bool) : Int := if inB n 0 20 then bitI v else 0
def cdC (n : Int) : Int := if inB n 0 20 then 0 else 2
theorem c_ConstantDiagram (n : Int) (v : Bool) (w : World) : Calls Try.prog 19 #[.int .i64 n, .bool v] w fun e w' => e = .returned (.tuple #[.agg #[.int .i64 (cdN n), .slice none 0 0, .int .i64 (cdR n v)], .int .i64 (cdC n)]) ∧ Below w.heap.size w w' := by
  rcases h : inB n 0 20 with _ | _
  · have h1 : cdN n = 0 := by simp [cdN, h]
    have h2 : cdR n v = 0 := by simp [cdR, h]
    have h3 : cdC n = 2 := by simp [cdC, h]
    rw [h1, h2, h3]
    go_enter Try.func19, Try.ntmps19
    go_wp2_with (first
      | (go_at_call 44
         refine (c_isInputs _ _).mono ?_
         rintro e w' ⟨rfl, rfl⟩)
      )
    refine bodyPost_ret (v := .tuple #[.agg #[.int .i64 0, .slice none 0 0, .int .i64 0], .int .i64 2]) (by simp [results, Try.results19, go_sem]) rfl ⟨rfl, by (repeat (first | exact Below.refl _ _ | assumption | refine below_alloc ?_ _ | refine below_drewN ?_ _ | refine below_set ?_ _ (by simp; try omega) | refine Below.drew ?_))⟩
  · have h1 : cdN n = n := by simp [cdN, h]
    have h2 : cdR n v = bitI v := by simp [cdR, h]
    have h3 : cdC n = 0 := by simp [cdC, h]
    rw [h1, h2, h3]
    go_enter Try.func19, Try.ntmps19
    go_wp2_with (first
      | (go_at_call 44
         refine (c_isInputs _ _).mono ?_
         rintro e w' ⟨rfl, rfl⟩)
      | (go_at_call 49
         refine (c_truth _ _).mono ?_
         rintro e w' ⟨rfl, rfl⟩)
      )
    refine bodyPost_ret (v := .tuple #[.agg #[.int .i64 n, .slice none 0 0, .int .i64 (bitI v)], .int .i64 0]) (by simp [results, Try.results19, go_sem]) rfl ⟨rfl, by (repeat (first | exact Below.refl _ _ | assumption | refine below_alloc ?_ _ | refine below_drewN ?_ _ | refine below_set ?_ _ (by simp; try omega) | refine Below.drew ?_))⟩
theorem c_sConstantDiagram (n : Int) (v : Bool) (w : World) : Calls Try.prog 18 #[.int .i64 n, .bool v] w fun e w' => e = .returned (.tuple #[.agg #[.int .i64 (cdN n), .slice none 0 0, .int .i64 (cdR n v)], .int .i64 (cdC n)]) ∧ Below w.heap.size w w' := by
  rcases h : inB n 0 20 with _ | _
  · have h1 : cdN n = 0 := by simp [cdN, h]
    have h2 : cdR n v = 0 := by simp [cdR, h]
    have h3 : cdC n = 2 := by simp [cdC, h]
    rw [h1, h2, h3]
    go_enter Try.func18, Try.ntmps18
    go_wp2_with (first
      | (go_at_call 43
         refine (c_l01In _ _ _ _).mono ?_
         rintro e w' ⟨rfl, rfl⟩)
      )
    refine bodyPost_ret (v := .tuple #[.agg #[.int .i64 0, .slice none 0 0, .int .i64 0], .int .i64 2]) (by simp [results, Try.results18, go_sem]) rfl ⟨rfl, by (repeat (first | exact Below.refl _ _ | assumption | refine below_alloc ?_ _ | refine below_drewN ?_ _ | refine below_set ?_ _ (by simp; try omega) | refine Below.drew ?_))⟩
  · have h1 : cdN n = n := by simp [cdN, h]
    have h3 : cdC n = 0 := by simp [cdC, h]
    rcases v with _ | _
    · have h2 : cdR n false = 0 := by simp [cdR, h, bitI]
      rw [h1, h2, h3]
      go_enter Try.func18, Try.ntmps18
      go_wp2_with (first
        | (go_at_call 43
           refine (c_l01In _ _ _ _).mono ?_
           rintro e w' ⟨rfl, rfl⟩)
        )
      refine bodyPost_ret (v := .tuple #[.agg #[.int .i64 n, .slice none 0 0, .int .i64 0], .int .i64 0]) (by simp [results, Try.results18, go_sem]) rfl ⟨rfl, by (repeat (first | exact Below.refl _ _ | assumption | refine below_alloc ?_ _ | refine below_drewN ?_ _ | refine below_set ?_ _ (by simp; try omega) | refine Below.drew ?_))⟩
    · have h2 : cdR n true = 1 := by simp [cdR, h, bitI]
      rw [h1, h2, h3]
      go_enter Try.func18, Try.ntmps18
      go_wp2_with (first
        | (go_at_call 43
           refine (c_l01In _ _ _ _).mono ?_
           rintro e w' ⟨rfl, rfl⟩)
        )
      refine bodyPost_ret (v := .tuple #[.agg #[.int .i64 n, .slice none 0 0, .int .i64 1], .int .i64 0]) (by simp [results, Try.results18, go_sem]) rfl ⟨rfl, by (repeat (first | exact Below.refl _ _ | assumption | refine below_alloc ?_ _ | refine below_drewN ?_ _ | refine below_set ?_ _ (by simp; try omega) | refine Below.drew ?_))⟩
end Go.Proofs.Ytbiodieekommdaa
