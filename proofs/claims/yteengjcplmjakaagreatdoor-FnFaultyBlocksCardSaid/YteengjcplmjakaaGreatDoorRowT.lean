/- Contracts of the laws' own copies, sizes and comparisons of rows of small structs (printed by rows.py, but for szTermS). No condition but the lists' sizes. -/
import Derived.Test.YteengjcplmjakaaGreatDoorIntsC
namespace Go.Proofs.YteengjcplmjakaaGreatDoor
open Go.RowKit

structure Tm where
  k : Int
  nm : ByteArray
  n : Int
def Tm.val (s : Tm) : Value := .agg #[.int .i64 s.k, .string s.nm, .int .i64 s.n]
def Tm.cells (s : Tm) : List Value := [.int .i64 s.k, .string s.nm, .int .i64 s.n]
def tmCells (l : List Tm) : List Value := l.flatMap Tm.cells
theorem tmCells_length (l : List Tm) : (tmCells l).length = l.length * 3 := by
  induction l with
  | nil => rfl
  | cons s t ih => simp only [tmCells, List.flatMap_cons, List.length_append, List.length_cons] at ih ⊢; rw [ih]; simp [Tm.cells]; omega
theorem tmCells_get {s : Tm} {i : Nat} (hi : i < 3) : ∀ {l : List Tm} {k : Nat}, l[k]? = some s → (tmCells l)[k * 3 + i]? = s.cells[i]?
  | [], k, h => by simp at h
  | t :: l, 0, h => by
    simp only [List.getElem?_cons_zero, Option.some.injEq] at h
    subst h
    simp only [tmCells, List.flatMap_cons, Nat.zero_mul, Nat.zero_add]
    rw [List.getElem?_append_left (by simp [Tm.cells]; omega)]
  | t :: l, k + 1, h => by
    simp only [List.getElem?_cons_succ] at h
    have := tmCells_get hi h
    simp only [tmCells, List.flatMap_cons] at this ⊢
    rw [List.getElem?_append_right (by simp [Tm.cells]; omega), ← this]
    congr 1
    simp [Tm.cells]; omega
theorem tmCells_at {s : Tm} {l : List Tm} {k : Nat} (h : l[k]? = some s) : (tmCells l)[k * 3]? = some (.int .i64 s.k) ∧ (tmCells l)[k * 3 + 1]? = some (.string s.nm) ∧ (tmCells l)[k * 3 + 2]? = some (.int .i64 s.n) :=
  ⟨tmCells_get (i := 0) (by omega) h, tmCells_get (i := 1) (by omega) h, tmCells_get (i := 2) (by omega) h⟩
theorem Rd.tm {w : World} {A : Option Addr} {l : List Tm} {k : Nat} {s : Tm} (h : Rd w A (tmCells l)) (hk : l[k]? = some s) : ∃ b off, A = some ⟨b, off, none⟩ ∧ b < w.heap.size ∧ w.cell? ⟨b, off + k * 3, none⟩ = some (.int .i64 s.k) ∧ w.cell? ⟨b, off + k * 3 + 1, none⟩ = some (.string s.nm) ∧ w.cell? ⟨b, off + k * 3 + 2, none⟩ = some (.int .i64 s.n) := by
  obtain ⟨u0, u1, u2⟩ := tmCells_at hk
  obtain ⟨b, off, rfl, hb, hc⟩ := h.some_ (by intro e; rw [e] at u0; simp at u0)
  exact ⟨b, off, rfl, hb, hc _ _ u0, hc _ _ u1, hc _ _ u2⟩
theorem info_iTerm : (Tryz.prog.info? 60).map (fun i => (i.zero, i.size, i.bytes)) = some (some (.agg #[.int .i64 0, .string ⟨#[]⟩, .int .i64 0]), 3, 32) := by kernel_rfl
theorem mix_tm {L Z : List Value} {m : Nat} {u0 u1 u2 : Value} (hl : L.length = Z.length) (h0 : L[m]? = some u0) (h1 : L[m + 1]? = some u1) (h2 : L[m + 2]? = some u2) : ((((mix L Z m).set m u0).set (m + 1) u1).set (m + 2) u2) = mix L Z (m + 3) := by
  rw [mix_set hl h0]
  rw [mix_set hl h1]
  rw [mix_set hl h2]
/-- What is handed back is a new list of the call's own that holds l. -/
def RetTm (l : List Tm) (w : World) (e : Ending) (w' : World) : Prop :=
  ∃ A c, e = .returned (.slice A l.length c) ∧ w'.ownsRow w.heap.size 60 3 (.slice A l.length c) l.length (tmCells l) ∧ Below w.heap.size w w'
structure Ins where
  o : Int
  a : Int
def Ins.val (s : Ins) : Value := .agg #[.int .i64 s.o, .int .i64 s.a]
def Ins.cells (s : Ins) : List Value := [.int .i64 s.o, .int .i64 s.a]
def insCells (l : List Ins) : List Value := l.flatMap Ins.cells
theorem insCells_length (l : List Ins) : (insCells l).length = l.length * 2 := by
  induction l with
  | nil => rfl
  | cons s t ih => simp only [insCells, List.flatMap_cons, List.length_append, List.length_cons] at ih ⊢; rw [ih]; simp [Ins.cells]; omega
theorem insCells_get {s : Ins} {i : Nat} (hi : i < 2) : ∀ {l : List Ins} {k : Nat}, l[k]? = some s → (insCells l)[k * 2 + i]? = s.cells[i]?
  | [], k, h => by simp at h
  | t :: l, 0, h => by
    simp only [List.getElem?_cons_zero, Option.some.injEq] at h
    subst h
    simp only [insCells, List.flatMap_cons, Nat.zero_mul, Nat.zero_add]
    rw [List.getElem?_append_left (by simp [Ins.cells]; omega)]
  | t :: l, k + 1, h => by
    simp only [List.getElem?_cons_succ] at h
    have := insCells_get hi h
    simp only [insCells, List.flatMap_cons] at this ⊢
    rw [List.getElem?_append_right (by simp [Ins.cells]; omega), ← this]
    congr 1
    simp [Ins.cells]; omega
theorem insCells_at {s : Ins} {l : List Ins} {k : Nat} (h : l[k]? = some s) : (insCells l)[k * 2]? = some (.int .i64 s.o) ∧ (insCells l)[k * 2 + 1]? = some (.int .i64 s.a) :=
  ⟨insCells_get (i := 0) (by omega) h, insCells_get (i := 1) (by omega) h⟩
theorem Rd.ins {w : World} {A : Option Addr} {l : List Ins} {k : Nat} {s : Ins} (h : Rd w A (insCells l)) (hk : l[k]? = some s) : ∃ b off, A = some ⟨b, off, none⟩ ∧ b < w.heap.size ∧ w.cell? ⟨b, off + k * 2, none⟩ = some (.int .i64 s.o) ∧ w.cell? ⟨b, off + k * 2 + 1, none⟩ = some (.int .i64 s.a) := by
  obtain ⟨u0, u1⟩ := insCells_at hk
  obtain ⟨b, off, rfl, hb, hc⟩ := h.some_ (by intro e; rw [e] at u0; simp at u0)
  exact ⟨b, off, rfl, hb, hc _ _ u0, hc _ _ u1⟩
theorem info_iInstruction : (Tryz.prog.info? 88).map (fun i => (i.zero, i.size, i.bytes)) = some (some (.agg #[.int .i64 0, .int .i64 0]), 2, 16) := by kernel_rfl
theorem mix_ins {L Z : List Value} {m : Nat} {u0 u1 : Value} (hl : L.length = Z.length) (h0 : L[m]? = some u0) (h1 : L[m + 1]? = some u1) : (((mix L Z m).set m u0).set (m + 1) u1) = mix L Z (m + 2) := by
  rw [mix_set hl h0]
  rw [mix_set hl h1]
/-- What is handed back is a new list of the call's own that holds l. -/
def RetIns (l : List Ins) (w : World) (e : Ending) (w' : World) : Prop :=
  ∃ A c, e = .returned (.slice A l.length c) ∧ w'.ownsRow w.heap.size 88 2 (.slice A l.length c) l.length (insCells l) ∧ Below w.heap.size w w'
end Go.Proofs.YteengjcplmjakaaGreatDoor
