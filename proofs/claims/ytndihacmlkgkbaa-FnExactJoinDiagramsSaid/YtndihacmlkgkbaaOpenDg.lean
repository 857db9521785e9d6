/- How diagrams read as arguments of the laws. No condition. -/
import Derived.Test.YtndihacmlkgkbaaOpenR
import Derived.Test.YtndihacmlkgkbaaDNode
namespace Go.Proofs.Ytndihacmlkgkbaa
open Go.ChangeShapes Go.WideShapes Go.ChangeAt Go.RowKit Go.Deep

theorem cells_lNode : Try.prog.cellsOf 91 = 3 := by kernel_rfl
theorem cells_lDiagram : Try.prog.cellsOf 24 = 3 := by kernel_rfl
theorem cells_lNodeS : Try.prog.cellsOf 22 = 1 := by kernel_rfl
section
variable {H : Type} {enc : TypeId × Value → H} {W : World} {base : Nat} {spare : Nat → Bool} {held : Bool}
set_option maxRecDepth 100000 in
theorem trod_nd {n : Nat} {cs : List Value} {x : DataW H × List MemPlace} (h : DataW.trod enc Try.prog W base spare held n 91 cs = some x) :
    ∃ s : Nd, cs = s.cells ∧ wfB s.i ∧ wfB s.lo ∧ wfB s.hi := by
  obtain ⟨xs, m, _, _, hl, hlen, hg⟩ := DataW.trod_struct Try.underlying91 h
  rw [cells_lNode] at hl
  match cs, hl, xs, hlen with
  | [c0, c1, c2], _, [y0, y1, y2], _ =>
    have g0 : DataW.trod enc Try.prog W base spare held m 2 (List.take (Try.prog.cellsOf 2) [c0, c1, c2]) = some y0 := hg 0 _ rfl
    have g1 : DataW.trod enc Try.prog W base spare held m 2 (List.take (Try.prog.cellsOf 2) [c1, c2]) = some y1 := hg 1 _ rfl
    have g2 : DataW.trod enc Try.prog W base spare held m 2 (List.take (Try.prog.cellsOf 2) [c2]) = some y2 := hg 2 _ rfl
    rw [cells_int64] at g0 g1 g2
    obtain ⟨k, e0, _, w0⟩ := DataW.trod_int Try.underlying2 g0
    obtain ⟨l, e1, _, w1⟩ := DataW.trod_int Try.underlying2 g1
    obtain ⟨r, e2, _, w2⟩ := DataW.trod_int Try.underlying2 g2
    simp at e0 e1 e2
    subst e0 e1 e2
    exact ⟨⟨k, l, r⟩, rfl, w0, w1, w2⟩
theorem trod_ndS {n : Nat} {c0 : Value} {x : DataW H × List MemPlace} (h : DataW.trod enc Try.prog W 0 (fun _ => true) true n 22 [c0] = some x) :
    ∃ (A : Option Addr) (n c : Nat) (l : List Nd), c0 = .slice A n c ∧ n = l.length ∧ n ≤ 9223372036854775807 ∧ Rd W A (ndCells l) ∧ ∀ s ∈ l, wfB s.i ∧ wfB s.lo ∧ wfB s.hi :=
  open_rows Nd.cells (fun s => wfB s.i ∧ wfB s.lo ∧ wfB s.hi) Try.underlying22 cells_lNode (by omega) (fun _ => rfl) (fun _ _ _ h => trod_nd h) h
set_option maxRecDepth 100000 in
theorem open_diagram {v : Value} {d : DataW H} {p : List MemPlace} (hv : Value.okWide Try.prog W .any base 24 v) (h : DataW.Trod enc Try.prog W 0 (fun _ => true) true 24 v d p) :
    ∃ X A n c R l, v = .agg #[.int .i64 X, .slice A n c, .int .i64 R] ∧ n = l.length ∧ n ≤ 9223372036854775807 ∧ Rd W A (ndCells l) ∧ wfB X ∧ wfB R := by
  obtain ⟨cs, rfl, hsz⟩ := okWide_struct Try.underlying24 hv
  obtain ⟨fuel, hf⟩ := h
  rw [cells_lDiagram] at hsz
  obtain ⟨xs, m, _, _, hl, hlen, hg⟩ := DataW.trod_struct Try.underlying24 hf
  obtain ⟨L⟩ := cs
  match L, hsz, xs, hlen with
  | [c0, c1, c2], _, [y0, y1, y2], _ =>
    have g0 : DataW.trod enc Try.prog W 0 (fun _ => true) true m 2 (List.take (Try.prog.cellsOf 2) [c0, c1, c2]) = some y0 := hg 0 _ rfl
    have g1 : DataW.trod enc Try.prog W 0 (fun _ => true) true m 22 (List.take (Try.prog.cellsOf 22) [c1, c2]) = some y1 := hg 1 _ rfl
    have g2 : DataW.trod enc Try.prog W 0 (fun _ => true) true m 2 (List.take (Try.prog.cellsOf 2) [c2]) = some y2 := hg 2 _ rfl
    rw [cells_int64] at g0 g2
    rw [cells_lNodeS] at g1
    obtain ⟨k, e0, _, w0⟩ := DataW.trod_int Try.underlying2 g0
    obtain ⟨A1, n1, c1', l1, rfl, hn1, hm1, hr1, hw1⟩ := trod_ndS g1
    obtain ⟨r, e2, _, w2⟩ := DataW.trod_int Try.underlying2 g2
    simp at e0 e2
    subst e0 e2
    exact ⟨k, A1, n1, c1', r, l1, rfl, hn1, hm1, hr1, w0, w2⟩
end
end Go.Proofs.Ytndihacmlkgkbaa
