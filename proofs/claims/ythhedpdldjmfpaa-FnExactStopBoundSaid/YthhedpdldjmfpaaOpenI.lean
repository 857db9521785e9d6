/- How an interval reads as an argument of a law. No condition. -/
import Derived.Test.YthhedpdldjmfpaaOpen
namespace Go.Proofs.Ythhedpdldjmfpaa
open Go.ChangeShapes Go.WideShapes Go.ChangeAt Go.RowKit Go.Deep

section
variable {H : Type} {enc : TypeId × Value → H} {W : World} {base : Nat}
set_option maxRecDepth 100000 in
theorem open_iv {v : Value} {d : DataW H} {p : List MemPlace} (hv : Value.okWide Try.prog W .any base 23 v) (h : DataW.Trod enc Try.prog W 0 (fun _ => true) true 23 v d p) :
    ∃ a b : Int, v = .agg #[.int .i64 a, .int .i64 b] ∧ wfB a ∧ wfB b := by
  obtain ⟨cs, rfl, hsz⟩ := okWide_struct Try.underlying23 hv
  obtain ⟨fuel, hf⟩ := h
  obtain ⟨L⟩ := cs
  rw [cells_lInterval] at hsz
  match L, hsz with
  | [c0, c1], _ =>
    obtain ⟨a, b, rfl, rfl, wa, wb⟩ := trod_iv hf
    exact ⟨a, b, rfl, wa, wb⟩
end
end Go.Proofs.Ythhedpdldjmfpaa
