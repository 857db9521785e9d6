/- The plain law of positions: the sums of the lengths of the first segments. No condition; no program in sight. -/
import Derived.Test.YthkghpmfbdojeaaHold
namespace Go.Proofs.Ythkghpmfbdojeaa
open Go.RowKit

def pos (l : List Seg) (j : Nat) : Int := ((l.take j).map Seg.l).sum
def stL (l : List Seg) (k : Nat) : List Int := (List.range k).map (pos l)
theorem stL_length (l : List Seg) (k : Nat) : (stL l k).length = k := by simp [stL]
theorem stL_get {l : List Seg} {k j : Nat} (h : j < k) : (stL l k)[j]? = some (pos l j) := by simp [stL, h]
theorem stL_snoc (l : List Seg) (k : Nat) : stL l (k + 1) = stL l k ++ [pos l k] := by simp [stL, List.range_succ]
theorem pos_zero (l : List Seg) : pos l 0 = 0 := by simp [pos]
theorem pos_succ {l : List Seg} {k : Nat} {s : Seg} (h : l[k]? = some s) : pos l (k + 1) = pos l k + s.l := by
  unfold pos
  rw [take_snoc h]; simp
theorem pos_mono {l : List Seg} (hl : Lay l) {k : Nat} (hk : k < l.length) : pos l k + 1 ≤ pos l (k + 1) ∧ pos l (k + 1) ≤ pos l k + 200000 := by
  have hz : l[k]? = some l[k] := List.getElem?_eq_getElem hk
  have := segOk_l (hl.ok _ (List.getElem_mem hk))
  rw [pos_succ hz]
  omega
theorem pos_bd {l : List Seg} (hl : Lay l) : ∀ {k : Nat}, k ≤ l.length → (k : Int) ≤ pos l k ∧ pos l k ≤ 200000 * k
  | 0, _ => by rw [pos_zero]; omega
  | k + 1, hk => by
    have h1 := pos_bd hl (k := k) (by omega)
    have h2 := pos_mono hl (k := k) (by omega)
    omega
theorem pos_lt {l : List Seg} (hl : Lay l) {i : Nat} : ∀ {j : Nat}, i < j → j ≤ l.length → pos l i < pos l j
  | 0, h, _ => absurd h (by omega)
  | j + 1, h, hj => by
    have h2 := pos_mono hl (k := j) (by omega)
    rcases Nat.lt_or_ge i j with h3 | h3
    · have := pos_lt hl h3 (by omega)
      omega
    · obtain rfl : i = j := by omega
      omega
theorem pos_le {l : List Seg} (hl : Lay l) {i j : Nat} (h : i ≤ j) (hj : j ≤ l.length) : pos l i ≤ pos l j := by
  rcases Nat.lt_or_ge i j with h3 | h3
  · exact Int.le_of_lt (pos_lt hl h3 hj)
  · obtain rfl : i = j := by omega
    exact Int.le_refl _
theorem pos_small {l : List Seg} (hl : Lay l) {k : Nat} (hk : k ≤ l.length) : 0 ≤ pos l k ∧ pos l k ≤ 4800000 := by
  have := pos_bd hl hk
  have := hl.hi
  omega
end Go.Proofs.Ythkghpmfbdojeaa
