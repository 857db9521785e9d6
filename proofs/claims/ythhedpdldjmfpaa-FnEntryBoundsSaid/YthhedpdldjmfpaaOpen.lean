/- How the arguments of the laws read: segments, intervals, layouts, lists of integers. No condition. -/
import Derived.Test.YthhedpdldjmfpaaSeg
import Derived.Test.YthhedpdldjmfpaaFacts
import Derived.ProofKit
import Derived.OpenShut
import Derived.ShutString
import Derived.ChangeOld
import Derived.Deep.Slices
namespace Go.Proofs.Ythhedpdldjmfpaa
open Go.ChangeShapes Go.WideShapes Go.ChangeAt Go.RowKit Go.Deep

theorem own : ownKnob Try.prog.godebug = none := by kernel_rfl
theorem laidOut : laidOutB Try.prog = true := by kernel_rfl
def wfB (n : Int) : Prop := (Lit.int .i64 n).wf = true
theorem wfB.bd {n : Int} (h : wfB n) : -9223372036854775808 ≤ n ∧ n ≤ 9223372036854775807 := by
  simpa [wfB, Lit.wf, IntKind.min, IntKind.max, IntKind.signed, IntKind.bits] using h
def Seg.wf (s : Seg) : Prop := wfB s.k ∧ wfB s.l ∧ wfB s.r ∧ wfB s.a ∧ wfB s.b ∧ wfB s.c ∧ wfB s.d
theorem cells_int64 : Try.prog.cellsOf 2 = 1 := by kernel_rfl
theorem cells_lInterval : Try.prog.cellsOf 23 = 2 := by kernel_rfl
theorem cells_lSegment : Try.prog.cellsOf 25 = 7 := by kernel_rfl
section
variable {H : Type} {enc : TypeId × Value → H} {W : World} {base : Nat} {spare : Nat → Bool} {held : Bool}
set_option maxRecDepth 100000 in
theorem trod_iv {n : Nat} {c0 c1 : Value} {x : DataW H × List MemPlace} (h : DataW.trod enc Try.prog W base spare held n 23 [c0, c1] = some x) :
    ∃ a b, c0 = .int .i64 a ∧ c1 = .int .i64 b ∧ wfB a ∧ wfB b := by
  obtain ⟨xs, m, _, _, _, hlen, hg⟩ := DataW.trod_struct Try.underlying23 h
  match xs, hlen with
  | [y0, y1], _ =>
    have g0 : DataW.trod enc Try.prog W base spare held m 2 (List.take (Try.prog.cellsOf 2) [c0, c1]) = some y0 := hg 0 _ rfl
    have g1 : DataW.trod enc Try.prog W base spare held m 2 (List.take (Try.prog.cellsOf 2) [c1]) = some y1 := hg 1 _ rfl
    rw [cells_int64] at g0 g1
    obtain ⟨a, e0, _, wa⟩ := DataW.trod_int Try.underlying2 g0
    obtain ⟨b, e1, _, wb⟩ := DataW.trod_int Try.underlying2 g1
    simp at e0 e1
    exact ⟨a, b, e0, e1, wa, wb⟩
set_option maxRecDepth 100000 in
theorem trod_seg {n : Nat} {cs : List Value} {x : DataW H × List MemPlace} (h : DataW.trod enc Try.prog W base spare held n 25 cs = some x) :
    ∃ s : Seg, cs = s.cells ∧ s.wf := by
  obtain ⟨xs, m, _, _, hl, hlen, hg⟩ := DataW.trod_struct Try.underlying25 h
  rw [cells_lSegment] at hl
  match cs, hl, xs, hlen with
  | [c0, c1, c2, c3, c4, c5, c6], _, [y0, y1, y2, y3, y4], _ =>
    have g0 : DataW.trod enc Try.prog W base spare held m 2 (List.take (Try.prog.cellsOf 2) [c0, c1, c2, c3, c4, c5, c6]) = some y0 := hg 0 _ rfl
    have g1 : DataW.trod enc Try.prog W base spare held m 2 (List.take (Try.prog.cellsOf 2) [c1, c2, c3, c4, c5, c6]) = some y1 := hg 1 _ rfl
    have g2 : DataW.trod enc Try.prog W base spare held m 2 (List.take (Try.prog.cellsOf 2) [c2, c3, c4, c5, c6]) = some y2 := hg 2 _ rfl
    have g3 : DataW.trod enc Try.prog W base spare held m 23 (List.take (Try.prog.cellsOf 23) [c3, c4, c5, c6]) = some y3 := hg 3 _ rfl
    have g4 : DataW.trod enc Try.prog W base spare held m 23 (List.take (Try.prog.cellsOf 23) [c5, c6]) = some y4 := hg 4 _ rfl
    rw [cells_int64] at g0 g1 g2
    rw [cells_lInterval] at g3 g4
    obtain ⟨k, e0, _, w0⟩ := DataW.trod_int Try.underlying2 g0
    obtain ⟨l, e1, _, w1⟩ := DataW.trod_int Try.underlying2 g1
    obtain ⟨r, e2, _, w2⟩ := DataW.trod_int Try.underlying2 g2
    obtain ⟨a, b, e3, e4, w3, w4⟩ := trod_iv g3
    obtain ⟨c, d, e5, e6, w5, w6⟩ := trod_iv g4
    simp at e0 e1 e2
    subst e0 e1 e2 e3 e4 e5 e6
    exact ⟨⟨k, l, r, a, b, c, d⟩, rfl, w0, w1, w2, w3, w4, w5, w6⟩
set_option maxRecDepth 100000 in
theorem open_seg {v : Value} {d : DataW H} {p : List MemPlace} (hv : Value.okWide Try.prog W .any base 25 v) (h : DataW.Trod enc Try.prog W 0 (fun _ => true) true 25 v d p) :
    ∃ s : Seg, v = s.val ∧ s.wf := by
  obtain ⟨cs, rfl, hsz⟩ := okWide_struct Try.underlying25 hv
  obtain ⟨fuel, hf⟩ := h
  obtain ⟨s, e, hw⟩ := trod_seg hf
  refine ⟨s, ?_, hw⟩
  have : cs.toList = s.cells := by simpa [Value.cells] using e
  have e2 : cs = s.cells.toArray := by rw [← this]
  rw [e2]; rfl
theorem choose_list {α : Type} {P : Nat → α → Prop} : ∀ (n : Nat), (∀ i, i < n → ∃ s, P i s) → ∃ l : List α, l.length = n ∧ ∀ i s, l[i]? = some s → P i s
  | 0, _ => ⟨[], rfl, fun i s h => by simp at h⟩
  | n + 1, h => by
    obtain ⟨l, hl, hp⟩ := choose_list n fun i hi => h i (by omega)
    obtain ⟨s, hs⟩ := h n (by omega)
    refine ⟨l ++ [s], by simp [hl], fun i t ht => ?_⟩
    rcases Nat.lt_or_ge i n with hi | hi
    · rw [List.getElem?_append_left (by omega)] at ht
      exact hp i t ht
    · rw [List.getElem?_append_right (by omega)] at ht
      have : i = n := by
        have := (List.getElem?_eq_some_iff.1 ht).1
        simp at this
        omega
      subst this
      rw [hl] at ht
      simp at ht
      rw [← ht]; exact hs
theorem add_plain' (b off n : Nat) : (⟨b, off, none⟩ : Addr).add n = ⟨b, off + n, none⟩ := by
  unfold Addr.add
  split <;> simp_all
/-- A row of cells that a slice leads to, as a reading. -/
theorem rd_of {W : World} {a : Addr} {xs : List Value} (h : ∀ j u, xs[j]? = some u → W.cell? (a.add j) = some u) : Rd W (some a) xs := by
  cases xs with
  | nil => exact .inl rfl
  | cons x t =>
    right
    have h0 := h 0 x rfl
    obtain ⟨b, off, spot⟩ := a
    have hspot : spot = none := by simpa [Addr.add] using World.cell?_spot h0
    subst hspot
    refine ⟨b, off, rfl, by simpa [Addr.add] using World.block_lt_of_cell? W _ h0, fun j u hu => ?_⟩
    rw [← add_plain']
    exact h j u hu
set_option maxRecDepth 100000 in
theorem open_intS {v : Value} {d : DataW H} {p : List MemPlace} (hv : Value.okWide Try.prog W .any base 35 v) (h : DataW.Trod enc Try.prog W 0 (fun _ => true) true 35 v d p) :
    ∃ A n c zs, v = .slice A n c ∧ n = zs.length ∧ n ≤ c ∧ n ≤ 9223372036854775807 ∧ Rd W A (ints zs) ∧ ∀ z ∈ zs, wfB z := by
  obtain ⟨A, n, c, rfl⟩ := okWide_slice Try.underlying35 hv
  obtain ⟨fuel, hf⟩ := h
  rcases open_ints Try.underlying35 Try.underlying2 cells_int64 hf with ⟨hcs, _⟩ | ⟨a, n', c', zs, hcs, _, hl, hm, hz, _, hcell, hwz⟩
  · simp [Value.cells] at hcs
    obtain ⟨rfl, rfl, rfl⟩ := hcs
    exact ⟨_, _, _, [], rfl, rfl, by omega, by omega, .inl rfl, by simp⟩
  · simp [Value.cells] at hcs
    obtain ⟨rfl, rfl, rfl⟩ := hcs
    unfold maxLen at hm
    simp only [if_true] at hz
    refine ⟨_, _, _, zs.take n, rfl, by simp; omega, hl, by omega, rd_of fun j u hu => ?_, fun z hz => hwz z (List.mem_of_mem_take hz)⟩
    simp only [ints, List.getElem?_map, Option.map_eq_some_iff] at hu
    obtain ⟨z, hz', rfl⟩ := hu
    rw [List.getElem?_take] at hz'
    split at hz'
    · rw [hcell j (List.getElem?_eq_some_iff.1 hz').1]
      simp [hz']
    · cases hz'
theorem cells_lSegmentS : Try.prog.cellsOf 32 = 1 := by kernel_rfl
theorem cells_lLayout : Try.prog.cellsOf 34 = 1 := by kernel_rfl
set_option maxRecDepth 100000 in
theorem open_layout {v : Value} {d : DataW H} {p : List MemPlace} (hv : Value.okWide Try.prog W .any base 34 v) (h : DataW.Trod enc Try.prog W 0 (fun _ => true) true 34 v d p) :
    ∃ A n c l, v = .agg #[.slice A n c] ∧ n = l.length ∧ n ≤ 9223372036854775807 ∧ Rd W A (segCells l) ∧ ∀ s ∈ l, s.wf := by
  obtain ⟨cs, rfl, hsz⟩ := okWide_struct Try.underlying34 hv
  obtain ⟨fuel, hf⟩ := h
  rw [cells_lLayout] at hsz
  obtain ⟨xs, m, _, _, hl, hlen, hg⟩ := DataW.trod_struct Try.underlying34 hf
  obtain ⟨L⟩ := cs
  match L, hsz, xs, hlen with
  | [c0], _, [y0], _ =>
    have g0 : DataW.trod enc Try.prog W 0 (fun _ => true) true m 32 (List.take (Try.prog.cellsOf 32) [c0]) = some y0 := hg 0 _ rfl
    rw [cells_lSegmentS] at g0
    rcases open_slice Try.underlying32 g0 with ⟨hcs, _⟩ | ⟨a, n, c, mm, k, D, Pl, hcs, _, hlc, hm, hmm, _, hi⟩
    · simp at hcs
      subst hcs
      exact ⟨none, 0, 0, [], rfl, rfl, by omega, .inl rfl, by simp⟩
    · simp at hcs
      subst hcs
      simp only [if_true] at hmm
      unfold maxLen at hm
      obtain ⟨l, hll, hP⟩ := choose_list (P := fun i (s : Seg) => s.wf ∧ ∀ j u, s.cells[j]? = some u → W.cell? ((a.add (i * 7)).add j) = some u) n fun i hin => by
        obtain ⟨cs', hc1, ht⟩ := hi i (by omega)
        obtain ⟨s, rfl, hw⟩ := trod_seg ht
        obtain ⟨_, hlc', hat⟩ := World.cells?_some hc1
        rw [cells_lSegment] at hlc' hat
        exact ⟨s, hw, fun j u hu => by
          rw [hat j (by have := (List.getElem?_eq_some_iff.1 hu).1; omega)]
          exact hu⟩
      refine ⟨_, n, _, l, rfl, hll.symm, by omega, rd_of fun j u hu => ?_, fun s hs => ?_⟩
      · have hj : j < l.length * 7 := by
          have := (List.getElem?_eq_some_iff.1 hu).1
          rwa [segCells_length] at this
        obtain ⟨s, hs⟩ : ∃ s, l[j / 7]? = some s := ⟨_, List.getElem?_eq_getElem (by omega)⟩
        have e := segCells_get (i := j % 7) (by omega) hs
        rw [show j / 7 * 7 + j % 7 = j by omega, hu] at e
        have := (hP _ _ hs).2 (j % 7) u e.symm
        rw [← this]
        congr 1
        unfold Addr.add
        split <;> split <;> split <;> simp_all <;> omega
      · obtain ⟨i, hi', rfl⟩ := List.getElem_of_mem hs
        exact (hP i _ (List.getElem?_eq_getElem hi')).1
end
end Go.Proofs.Ythhedpdldjmfpaa
