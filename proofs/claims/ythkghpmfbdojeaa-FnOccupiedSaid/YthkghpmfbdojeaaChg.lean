/- Contracts of change, work, brake of a valid segment, sums of intervals (program and reference). Condition: the segment is valid. -/
import Derived.Test.YthkghpmfbdojeaaLayP
namespace Go.Proofs.Ythkghpmfbdojeaa
open Go.RowKit

def cLo (s : Seg) : Int := -19612 * s.r - 2 * s.b * s.l
def cHi (s : Seg) : Int := -19612 * s.r - 2 * s.a * s.l
def wLo (s : Seg) : Int := 2 * ((s.c + s.a) * s.l + 9806 * s.r)
def wHi (s : Seg) : Int := 2 * ((s.d + s.b) * s.l + 9806 * s.r)
structure SegBd (s : Seg) : Prop where
  k0 : 0 ≤ s.k
  k1 : s.k ≤ 4
  l0 : 1 ≤ s.l
  l1 : s.l ≤ 200000
  r0 : -100000 ≤ s.r
  r1 : s.r ≤ 100000
  a0 : 0 ≤ s.a
  b1 : s.b ≤ 20000
  ab : s.a ≤ s.b
  c0 : 0 ≤ s.c
  d1 : s.d ≤ 20000
  cd : s.c ≤ s.d
theorem segBd {s : Seg} (h : segOk s = true) : SegBd s := by
  unfold segOk segB iwB ivB wiB at h
  simp only [inB, leB, Bool.and_eq_true, decide_eq_true_eq] at h
  obtain ⟨⟨⟨⟨⟨⟨k0, k1⟩, l0, l1⟩, r0, r1⟩, _⟩, ⟨⟨_, ab⟩, _⟩, a0, b1⟩, hf⟩ := h
  have hc : 0 ≤ s.c ∧ s.d ≤ 20000 ∧ s.c ≤ s.d := by
    by_cases hk : s.k = 0
    · rw [if_pos hk] at hf
      simp at hf
      omega
    · rw [if_neg hk] at hf
      simp at hf
      omega
  exact ⟨k0, k1, l0, l1, r0, r1, a0, b1, ab, hc.1, hc.2.1, hc.2.2⟩
theorem mul_bd {x y : Int} (h0 : 0 ≤ x) (h1 : x ≤ 40000) (h2 : 1 ≤ y) (h3 : y ≤ 200000) : 0 ≤ x * y ∧ x * y ≤ 8000000000 := by
  refine ⟨Int.mul_nonneg h0 (by omega), ?_⟩
  calc x * y ≤ 40000 * 200000 := Int.mul_le_mul h1 h3 (by omega) (by omega)
    _ = 8000000000 := by decide
theorem cLo_bd {s : Seg} (h : SegBd s) : -10000000000 ≤ cLo s ∧ cLo s ≤ 2000000000 := by
  obtain ⟨_, _, l0, l1, r0, r1, a0, b1, ab, _, _, _⟩ := h
  have := mul_bd (x := 2 * s.b) (y := s.l) (by omega) (by omega) l0 l1
  unfold cLo
  omega
theorem cHi_bd {s : Seg} (h : SegBd s) : -10000000000 ≤ cHi s ∧ cHi s ≤ 2000000000 := by
  obtain ⟨_, _, l0, l1, r0, r1, a0, b1, ab, _, _, _⟩ := h
  have := mul_bd (x := 2 * s.a) (y := s.l) (by omega) (by omega) l0 l1
  unfold cHi
  omega
theorem cLo_le {s : Seg} (h : SegBd s) : cLo s ≤ cHi s := by
  have h1 : s.a * s.l ≤ s.b * s.l := Int.mul_le_mul_of_nonneg_right h.ab (by have := h.l0; omega)
  unfold cLo cHi
  rw [Int.mul_assoc, Int.mul_assoc]
  omega
theorem wLo_bd {s : Seg} (h : SegBd s) : -4000000000 ≤ wLo s ∧ wLo s ≤ 20000000000 := by
  obtain ⟨_, _, l0, l1, r0, r1, a0, b1, ab, _, _, _⟩ := h
  have := mul_bd (x := s.c + s.a) (y := s.l) (by omega) (by omega) l0 l1
  unfold wLo
  omega
theorem wHi_bd {s : Seg} (h : SegBd s) : -4000000000 ≤ wHi s ∧ wHi s ≤ 20000000000 := by
  obtain ⟨_, _, l0, l1, r0, r1, a0, b1, ab, _, _, _⟩ := h
  have := mul_bd (x := s.d + s.b) (y := s.l) (by omega) (by omega) l0 l1
  unfold wHi
  omega
def brkB (k : Int) : Bool := k == 3 || k == 4
def IvB (x y : Int) : Prop := -1000000000000000 ≤ x ∧ x ≤ 1000000000000000 ∧ -1000000000000000 ≤ y ∧ y ≤ 1000000000000000
end Go.Proofs.Ythkghpmfbdojeaa
