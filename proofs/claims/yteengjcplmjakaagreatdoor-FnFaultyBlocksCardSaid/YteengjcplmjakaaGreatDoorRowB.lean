/- Contracts of the laws' own copies, sizes and comparisons of rows of small structs (printed by rows.py). No condition but the lists' sizes. -/
import Derived.Test.YteengjcplmjakaaGreatDoorPBm
namespace Go.Proofs.YteengjcplmjakaaGreatDoor
open Go.RowKit

structure Bs where
  ba : Int
  bb : Int
  bc : Int
def Bs.val (s : Bs) : Value := .agg #[.int .i64 s.ba, .int .i64 s.bb, .int .i64 s.bc]
def Bs.cells (s : Bs) : List Value := [.int .i64 s.ba, .int .i64 s.bb, .int .i64 s.bc]
def bsCells (l : List Bs) : List Value := l.flatMap Bs.cells
theorem bsCells_length (l : List Bs) : (bsCells l).length = l.length * 3 := by
  induction l with
  | nil => rfl
  | cons s t ih => simp only [bsCells, List.flatMap_cons, List.length_append, List.length_cons] at ih ⊢; rw [ih]; simp [Bs.cells]; omega
theorem bsCells_get {s : Bs} {i : Nat} (hi : i < 3) : ∀ {l : List Bs} {k : Nat}, l[k]? = some s → (bsCells l)[k * 3 + i]? = s.cells[i]?
  | [], k, h => by simp at h
  | t :: l, 0, h => by
    simp only [List.getElem?_cons_zero, Option.some.injEq] at h
    subst h
    simp only [bsCells, List.flatMap_cons, Nat.zero_mul, Nat.zero_add]
    rw [List.getElem?_append_left (by simp [Bs.cells]; omega)]
  | t :: l, k + 1, h => by
    simp only [List.getElem?_cons_succ] at h
    have := bsCells_get hi h
    simp only [bsCells, List.flatMap_cons] at this ⊢
    rw [List.getElem?_append_right (by simp [Bs.cells]; omega), ← this]
    congr 1
    simp [Bs.cells]; omega
theorem bsCells_at {s : Bs} {l : List Bs} {k : Nat} (h : l[k]? = some s) : (bsCells l)[k * 3]? = some (.int .i64 s.ba) ∧ (bsCells l)[k * 3 + 1]? = some (.int .i64 s.bb) ∧ (bsCells l)[k * 3 + 2]? = some (.int .i64 s.bc) :=
  ⟨bsCells_get (i := 0) (by omega) h, bsCells_get (i := 1) (by omega) h, bsCells_get (i := 2) (by omega) h⟩
theorem Rd.bs {w : World} {A : Option Addr} {l : List Bs} {k : Nat} {s : Bs} (h : Rd w A (bsCells l)) (hk : l[k]? = some s) : ∃ b off, A = some ⟨b, off, none⟩ ∧ b < w.heap.size ∧ w.cell? ⟨b, off + k * 3, none⟩ = some (.int .i64 s.ba) ∧ w.cell? ⟨b, off + k * 3 + 1, none⟩ = some (.int .i64 s.bb) ∧ w.cell? ⟨b, off + k * 3 + 2, none⟩ = some (.int .i64 s.bc) := by
  obtain ⟨u0, u1, u2⟩ := bsCells_at hk
  obtain ⟨b, off, rfl, hb, hc⟩ := h.some_ (by intro e; rw [e] at u0; simp at u0)
  exact ⟨b, off, rfl, hb, hc _ _ u0, hc _ _ u1, hc _ _ u2⟩
theorem info_iBlockState : (Tryz.prog.info? 62).map (fun i => (i.zero, i.size, i.bytes)) = some (some (.agg #[.int .i64 0, .int .i64 0, .int .i64 0]), 3, 24) := by kernel_rfl
theorem mix_bs {L Z : List Value} {m : Nat} {u0 u1 u2 : Value} (hl : L.length = Z.length) (h0 : L[m]? = some u0) (h1 : L[m + 1]? = some u1) (h2 : L[m + 2]? = some u2) : ((((mix L Z m).set m u0).set (m + 1) u1).set (m + 2) u2) = mix L Z (m + 3) := by
  rw [mix_set hl h0]
  rw [mix_set hl h1]
  rw [mix_set hl h2]
/-- What is handed back is a new list of the call's own that holds l. -/
def RetBs (l : List Bs) (w : World) (e : Ending) (w' : World) : Prop :=
  ∃ A c, e = .returned (.slice A l.length c) ∧ w'.ownsRow w.heap.size 62 3 (.slice A l.length c) l.length (bsCells l) ∧ Below w.heap.size w w'
end Go.Proofs.YteengjcplmjakaaGreatDoor
