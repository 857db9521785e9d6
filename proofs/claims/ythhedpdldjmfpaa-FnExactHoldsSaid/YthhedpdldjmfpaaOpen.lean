/- How the arguments of the laws read: segments, intervals, layouts, lists of integers. No condition. -/
import Derived.Test.YthhedpdldjmfpaaSeg
import Derived.Test.YthhedpdldjmfpaaFacts
import Derived.ProofKit
import Derived.OpenShut
import Derived.ShutString
import Derived.ChangeOld
import Derived.Deep.Slices
namespace Go.Proofs.Ythhedpdldjmfpaa
open Go.ChangeShapes Go.WideShapes Go.ChangeAt Go.RowKit Go.Deep

theorem own : ownKnob Try.prog.godebug = none := by kernel_rfl
theorem laidOut : laidOutB Try.prog = true := by kernel_rfl
def wfB (n : Int) : Prop := (Lit.int .i64 n).wf = true
theorem wfB.bd {n : Int} (h : wfB n) : -9223372036854775808 ≤ n ∧ n ≤ 9223372036854775807 := by
  simpa [wfB, Lit.wf, IntKind.min, IntKind.max, IntKind.signed, IntKind.bits] using h
def Seg.wf (s : Seg) : Prop := wfB s.k ∧ wfB s.l ∧ wfB s.r ∧ wfB s.a ∧ wfB s.b ∧ wfB s.c ∧ wfB s.d
def Seg.cells (s : Seg) : List Value := [.int .i64 s.k, .int .i64 s.l, .int .i64 s.r, .int .i64 s.a, .int .i64 s.b, .int .i64 s.c, .int .i64 s.d]
theorem cells_int64 : Try.prog.cellsOf 2 = 1 := by kernel_rfl
theorem cells_lInterval : Try.prog.cellsOf 23 = 2 := by kernel_rfl
theorem cells_lSegment : Try.prog.cellsOf 25 = 7 := by kernel_rfl
section
variable {H : Type} {enc : TypeId × Value → H} {W : World} {base : Nat} {spare : Nat → Bool} {held : Bool}
set_option maxRecDepth 100000 in
theorem trod_iv {n : Nat} {c0 c1 : Value} {x : DataW H × List MemPlace} (h : DataW.trod enc Try.prog W base spare held n 23 [c0, c1] = some x) :
    ∃ a b, c0 = .int .i64 a ∧ c1 = .int .i64 b ∧ wfB a ∧ wfB b := by
  obtain ⟨xs, m, _, _, _, hlen, hg⟩ := DataW.trod_struct Try.underlying23 h
  match xs, hlen with
  | [y0, y1], _ =>
    have g0 : DataW.trod enc Try.prog W base spare held m 2 (List.take (Try.prog.cellsOf 2) [c0, c1]) = some y0 := hg 0 _ rfl
    have g1 : DataW.trod enc Try.prog W base spare held m 2 (List.take (Try.prog.cellsOf 2) [c1]) = some y1 := hg 1 _ rfl
    rw [cells_int64] at g0 g1
    obtain ⟨a, e0, _, wa⟩ := DataW.trod_int Try.underlying2 g0
    obtain ⟨b, e1, _, wb⟩ := DataW.trod_int Try.underlying2 g1
    simp at e0 e1
    exact ⟨a, b, e0, e1, wa, wb⟩
set_option maxRecDepth 100000 in
theorem trod_seg {n : Nat} {cs : List Value} {x : DataW H × List MemPlace} (h : DataW.trod enc Try.prog W base spare held n 25 cs = some x) :
    ∃ s : Seg, cs = s.cells ∧ s.wf := by
  obtain ⟨xs, m, _, _, hl, hlen, hg⟩ := DataW.trod_struct Try.underlying25 h
  rw [cells_lSegment] at hl
  match cs, hl, xs, hlen with
  | [c0, c1, c2, c3, c4, c5, c6], _, [y0, y1, y2, y3, y4], _ =>
    have g0 : DataW.trod enc Try.prog W base spare held m 2 (List.take (Try.prog.cellsOf 2) [c0, c1, c2, c3, c4, c5, c6]) = some y0 := hg 0 _ rfl
    have g1 : DataW.trod enc Try.prog W base spare held m 2 (List.take (Try.prog.cellsOf 2) [c1, c2, c3, c4, c5, c6]) = some y1 := hg 1 _ rfl
    have g2 : DataW.trod enc Try.prog W base spare held m 2 (List.take (Try.prog.cellsOf 2) [c2, c3, c4, c5, c6]) = some y2 := hg 2 _ rfl
    have g3 : DataW.trod enc Try.prog W base spare held m 23 (List.take (Try.prog.cellsOf 23) [c3, c4, c5, c6]) = some y3 := hg 3 _ rfl
    have g4 : DataW.trod enc Try.prog W base spare held m 23 (List.take (Try.prog.cellsOf 23) [c5, c6]) = some y4 := hg 4 _ rfl
    rw [cells_int64] at g0 g1 g2
    rw [cells_lInterval] at g3 g4
    obtain ⟨k, e0, _, w0⟩ := DataW.trod_int Try.underlying2 g0
    obtain ⟨l, e1, _, w1⟩ := DataW.trod_int Try.underlying2 g1
    obtain ⟨r, e2, _, w2⟩ := DataW.trod_int Try.underlying2 g2
    obtain ⟨a, b, e3, e4, w3, w4⟩ := trod_iv g3
    obtain ⟨c, d, e5, e6, w5, w6⟩ := trod_iv g4
    simp at e0 e1 e2
    subst e0 e1 e2 e3 e4 e5 e6
    exact ⟨⟨k, l, r, a, b, c, d⟩, rfl, w0, w1, w2, w3, w4, w5, w6⟩
set_option maxRecDepth 100000 in
theorem open_seg {v : Value} {d : DataW H} {p : List MemPlace} (hv : Value.okWide Try.prog W .any base 25 v) (h : DataW.Trod enc Try.prog W 0 (fun _ => true) true 25 v d p) :
    ∃ s : Seg, v = s.val ∧ s.wf := by
  obtain ⟨cs, rfl, hsz⟩ := okWide_struct Try.underlying25 hv
  obtain ⟨fuel, hf⟩ := h
  obtain ⟨s, e, hw⟩ := trod_seg hf
  refine ⟨s, ?_, hw⟩
  have : cs.toList = s.cells := by simpa [Value.cells] using e
  have e2 : cs = s.cells.toArray := by rw [← this]
  rw [e2]; rfl
end
end Go.Proofs.Ythhedpdldjmfpaa
