/- Contracts of the energy that segments need (program and reference). Condition: the segments are valid, at most 24. -/
import Derived.Test.YthkghpmfbdojeaaChg2
namespace Go.Proofs.Ythkghpmfbdojeaa
open Go.RowKit

def sC (g : Seg → Int) (l : List Seg) : Nat → Int
  | 0 => 0
  | j + 1 => sC g l j + g (l.getD j Seg.none)
def mxN (l : List Seg) : Nat → Int
  | 0 => 0
  | j + 1 => max (mxN l j) (-(sC cLo l (j + 1)))
def mxP (l : List Seg) : Nat → Int
  | 0 => 0
  | j + 1 => max (mxP l j) (sC cHi l (j + 1))
theorem sC_succ {g : Seg → Int} {l : List Seg} {j : Nat} {s : Seg} (h : l[j]? = some s) : sC g l (j + 1) = sC g l j + g s := by
  rw [sC, List.getD_eq_getElem?_getD, h]
  rfl
theorem ok_at {l : List Seg} {j : Nat} {s : Seg} (h : l.all segOk = true) (hz : l[j]? = some s) : segOk s = true := List.all_eq_true.1 h _ (List.mem_of_getElem? hz)
theorem sC_bd {g : Seg → Int} {l : List Seg} (h : l.all segOk = true) (hg : ∀ s, SegBd s → -10000000000 ≤ g s ∧ g s ≤ 2000000000) : ∀ {j : Nat}, j ≤ l.length → -10000000000 * (j : Int) ≤ sC g l j ∧ sC g l j ≤ 2000000000 * (j : Int)
  | 0, _ => by simp [sC]
  | j + 1, hj => by
    have hz : l[j]? = some l[j] := List.getElem?_eq_getElem (by omega)
    have h1 := sC_bd h hg (j := j) (by omega)
    have h2 := hg _ (segBd (ok_at h hz))
    rw [sC_succ hz]
    omega
theorem mxN_bd {l : List Seg} (h : l.all segOk = true) : ∀ {j : Nat}, j ≤ l.length → 0 ≤ mxN l j ∧ mxN l j ≤ 10000000000 * (j : Int)
  | 0, _ => by simp [mxN]
  | j + 1, hj => by
    have h1 := mxN_bd h (j := j) (by omega)
    have h2 := sC_bd h (fun s => cLo_bd) (j := j + 1) hj
    rw [mxN]
    omega
theorem mxP_bd {l : List Seg} (h : l.all segOk = true) : ∀ {j : Nat}, j ≤ l.length → 0 ≤ mxP l j ∧ mxP l j ≤ 2000000000 * (j : Int)
  | 0, _ => by simp [mxP]
  | j + 1, hj => by
    have h1 := mxP_bd h (j := j) (by omega)
    have h2 := sC_bd h (fun s => cHi_bd) (j := j + 1) hj
    rw [mxP]
    omega
theorem own_two {w : World} (x y : Int) : (w.alloc (.cells #[.int .i64 x, .int .i64 y] 59)).ownsRow w.heap.size 59 1 (.slice (some ⟨w.heap.size, 0, none⟩) 2 2) 2 [.int .i64 x, .int .i64 y] := by
  have h := World.ownsRow_lit (e := 59) (size := 1) (base := w.heap.size) w #[.int .i64 x, .int .i64 y] 2 (by simp) (by decide) (by simp)
  simpa using h
theorem two_cells {w : World} {base b : Nat} {x y : Int} (h : w.ownsRow base 59 1 (.slice (some ⟨b, 0, none⟩) 2 2) 2 [.int .i64 x, .int .i64 y]) : w.cell? ⟨b, 0, none⟩ = some (.int .i64 x) ∧ w.cell? ⟨b, 1, none⟩ = some (.int .i64 y) ∧ w.frozen? ⟨b, 0, none⟩ = false ∧ w.frozen? ⟨b, 1, none⟩ = false ∧ base ≤ b ∧ b < w.heap.size := by
  have h0 := h.cellAt 0 (by decide)
  have h1 := h.cellAt 1 (by decide)
  exact ⟨h0, h1, h.frozenAt 0, h.frozenAt 1, own_ge h⟩
end Go.Proofs.Ythkghpmfbdojeaa
