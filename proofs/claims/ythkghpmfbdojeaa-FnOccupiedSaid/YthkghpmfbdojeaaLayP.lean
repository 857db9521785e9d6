/- The plain law of a layout: what IsLayout computes over the list of its segments. No condition; no program in sight. -/
import Derived.Test.YthkghpmfbdojeaaConv
namespace Go.Proofs.Ythkghpmfbdojeaa
open Go.RowKit

def segOk (s : Seg) : Bool := segB s.k s.l s.r s.a s.b s.c s.d
def sumR (l : List Seg) : Int := (l.map Seg.r).sum
def lastK (l : List Seg) : Bool := match l.getLast? with | some s => s.k == 4 | none => false
def layB (l : List Seg) : Bool := decide (3 ≤ l.length) && decide (l.length ≤ 24) && l.all segOk && (sumR l == 0) && lastK l

theorem segOk_r {s : Seg} (h : segOk s = true) : -100000 ≤ s.r ∧ s.r ≤ 100000 := by
  simp only [segOk, segB, Bool.and_eq_true, inB, decide_eq_true_eq] at h
  exact ⟨h.1.1.1.2.1, h.1.1.1.2.2⟩
theorem segOk_l {s : Seg} (h : segOk s = true) : 1 ≤ s.l ∧ s.l ≤ 200000 := by
  simp only [segOk, segB, Bool.and_eq_true, inB, decide_eq_true_eq] at h
  exact h.1.1.1.1.2
theorem segOk_k {s : Seg} (h : segOk s = true) : 0 ≤ s.k ∧ s.k ≤ 4 := by
  simp only [segOk, segB, Bool.and_eq_true, inB, decide_eq_true_eq] at h
  exact h.1.1.1.1.1
theorem take_snoc {α : Type} {l : List α} {k : Nat} {s : α} (h : l[k]? = some s) : l.take (k + 1) = l.take k ++ [s] := by
  rw [List.take_add_one, h]; rfl
theorem sumR_snoc {l : List Seg} {k : Nat} {s : Seg} (h : l[k]? = some s) : sumR (l.take (k + 1)) = sumR (l.take k) + s.r := by
  rw [take_snoc h]; simp [sumR]
theorem all_snoc {l : List Seg} {k : Nat} {s : Seg} (h : l[k]? = some s) (ha : (l.take k).all segOk = true) (hs : segOk s = true) : (l.take (k + 1)).all segOk = true := by
  rw [take_snoc h, List.all_append, ha]; simp [hs]
theorem sumR_bd {l : List Seg} (h : l.all segOk = true) : -(100000 * (l.length : Int)) ≤ sumR l ∧ sumR l ≤ 100000 * (l.length : Int) := by
  induction l with
  | nil => simp [sumR]
  | cons s t ih =>
    simp only [List.all_cons, Bool.and_eq_true] at h
    have h1 := segOk_r h.1
    have h2 := ih h.2
    simp only [sumR, List.map_cons, List.sum_cons, List.length_cons] at h2 ⊢
    omega
theorem sumR_take_bd {l : List Seg} {k : Nat} (hk : k ≤ l.length) (h : (l.take k).all segOk = true) : -(100000 * (k : Int)) ≤ sumR (l.take k) ∧ sumR (l.take k) ≤ 100000 * (k : Int) := by
  have := sumR_bd h
  rwa [List.length_take, Nat.min_eq_left hk] at this
theorem layB_bad {l : List Seg} {k : Nat} {s : Seg} (h : l[k]? = some s) (hs : segOk s = false) : layB l = false := by
  have : l.all segOk = false := by
    rw [← Bool.not_eq_true, List.all_eq_true]
    intro ha
    rw [ha s (List.mem_of_getElem? h)] at hs
    cases hs
  simp [layB, this]
theorem lastK_at {l : List Seg} {s : Seg} (h : l[l.length - 1]? = some s) : lastK l = (s.k == 4) := by
  unfold lastK
  rw [List.getLast?_eq_getElem?, h]
theorem layB_end {l : List Seg} {s : Seg} (hl : l[l.length - 1]? = some s) (ha : l.all segOk = true) : layB l = (decide (3 ≤ l.length) && decide (l.length ≤ 24) && (sumR l == 0) && (s.k == 4)) := by
  simp only [layB, ha, lastK_at hl, Bool.and_true]
theorem layB_short {l : List Seg} (h : l.length < 3) : layB l = false := by simp [layB]; omega
theorem layB_long {l : List Seg} (h : 24 < l.length) : layB l = false := by simp [layB]; omega
structure Lay (l : List Seg) : Prop where
  lo : 3 ≤ l.length
  hi : l.length ≤ 24
  ok : ∀ s ∈ l, segOk s = true
  rise : sumR l = 0
  last : lastK l = true
theorem layB_iff {l : List Seg} : layB l = true ↔ Lay l := by
  simp only [layB, Bool.and_eq_true, decide_eq_true_eq, List.all_eq_true, beq_iff_eq]
  exact ⟨fun h => ⟨h.1.1.1.1, h.1.1.1.2, h.1.1.2, h.1.2, h.2⟩, fun h => ⟨⟨⟨⟨h.lo, h.hi⟩, h.ok⟩, h.rise⟩, h.last⟩⟩
end Go.Proofs.Ythkghpmfbdojeaa
