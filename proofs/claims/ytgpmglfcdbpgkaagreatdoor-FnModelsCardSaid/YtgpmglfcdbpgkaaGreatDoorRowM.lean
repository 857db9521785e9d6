/- Contracts of the laws' own copies, sizes and comparisons of rows of small structs (printed by rows.py). No condition but the lists' sizes. -/
import Derived.Test.YtgpmglfcdbpgkaaGreatDoorIntsC
namespace Go.Proofs.YtgpmglfcdbpgkaaGreatDoor
open Go.RowKit

structure Tst where
  v : Int
  x : Int
  q : Bool
def Tst.val (s : Tst) : Value := .agg #[.int .i64 s.v, .int .i64 s.x, .bool s.q]
def Tst.cells (s : Tst) : List Value := [.int .i64 s.v, .int .i64 s.x, .bool s.q]
def tstCells (l : List Tst) : List Value := l.flatMap Tst.cells
theorem tstCells_length (l : List Tst) : (tstCells l).length = l.length * 3 := by
  induction l with
  | nil => rfl
  | cons s t ih => simp only [tstCells, List.flatMap_cons, List.length_append, List.length_cons] at ih ⊢; rw [ih]; simp [Tst.cells]; omega
theorem tstCells_get {s : Tst} {i : Nat} (hi : i < 3) : ∀ {l : List Tst} {k : Nat}, l[k]? = some s → (tstCells l)[k * 3 + i]? = s.cells[i]?
  | [], k, h => by simp at h
  | t :: l, 0, h => by
    simp only [List.getElem?_cons_zero, Option.some.injEq] at h
    subst h
    simp only [tstCells, List.flatMap_cons, Nat.zero_mul, Nat.zero_add]
    rw [List.getElem?_append_left (by simp [Tst.cells]; omega)]
  | t :: l, k + 1, h => by
    simp only [List.getElem?_cons_succ] at h
    have := tstCells_get hi h
    simp only [tstCells, List.flatMap_cons] at this ⊢
    rw [List.getElem?_append_right (by simp [Tst.cells]; omega), ← this]
    congr 1
    simp [Tst.cells]; omega
theorem tstCells_at {s : Tst} {l : List Tst} {k : Nat} (h : l[k]? = some s) : (tstCells l)[k * 3]? = some (.int .i64 s.v) ∧ (tstCells l)[k * 3 + 1]? = some (.int .i64 s.x) ∧ (tstCells l)[k * 3 + 2]? = some (.bool s.q) :=
  ⟨tstCells_get (i := 0) (by omega) h, tstCells_get (i := 1) (by omega) h, tstCells_get (i := 2) (by omega) h⟩
theorem Rd.tst {w : World} {A : Option Addr} {l : List Tst} {k : Nat} {s : Tst} (h : Rd w A (tstCells l)) (hk : l[k]? = some s) : ∃ b off, A = some ⟨b, off, none⟩ ∧ b < w.heap.size ∧ w.cell? ⟨b, off + k * 3, none⟩ = some (.int .i64 s.v) ∧ w.cell? ⟨b, off + k * 3 + 1, none⟩ = some (.int .i64 s.x) ∧ w.cell? ⟨b, off + k * 3 + 2, none⟩ = some (.bool s.q) := by
  obtain ⟨u0, u1, u2⟩ := tstCells_at hk
  obtain ⟨b, off, rfl, hb, hc⟩ := h.some_ (by intro e; rw [e] at u0; simp at u0)
  exact ⟨b, off, rfl, hb, hc _ _ u0, hc _ _ u1, hc _ _ u2⟩
theorem info_iTest : (Tryz.prog.info? 90).map (fun i => (i.zero, i.size, i.bytes)) = some (some (.agg #[.int .i64 0, .int .i64 0, .bool false]), 3, 24) := by kernel_rfl
theorem mix_tst {L Z : List Value} {m : Nat} {u0 u1 u2 : Value} (hl : L.length = Z.length) (h0 : L[m]? = some u0) (h1 : L[m + 1]? = some u1) (h2 : L[m + 2]? = some u2) : ((((mix L Z m).set m u0).set (m + 1) u1).set (m + 2) u2) = mix L Z (m + 3) := by
  rw [mix_set hl h0]
  rw [mix_set hl h1]
  rw [mix_set hl h2]
/-- What is handed back is a new list of the call's own that holds l. -/
def RetTst (l : List Tst) (w : World) (e : Ending) (w' : World) : Prop :=
  ∃ A c, e = .returned (.slice A l.length c) ∧ w'.ownsRow w.heap.size 90 3 (.slice A l.length c) l.length (tstCells l) ∧ Below w.heap.size w w'
set_option maxRecDepth 100000 in
theorem c_eqTest (v : Int) (x : Int) (q : Bool) (w : World) : Calls Tryz.prog 125 #[.agg #[.int .i64 v, .int .i64 x, .bool q], .agg #[.int .i64 v, .int .i64 x, .bool q]] w fun e w' => e = .returned (.bool true) ∧ Below w.heap.size w w' := by
  go_enter Tryz.func125, Tryz.ntmps125
  go_wp2
  all_goals go_ret
  all_goals (refine ⟨rfl, by (repeat (first | exact Below.refl _ _ | assumption | refine below_alloc ?_ _ | refine below_drewN ?_ _ | refine below_set ?_ _ (by simp; try omega) | refine Below.drew ?_))⟩)
set_option maxRecDepth 100000 in
theorem c_eqTestS (A A' : Option Addr) (c c' n n' : Nat) (l : List Tst) (w : World) (hn : n = l.length) (hn' : n' = l.length) (hs : l.length ≤ 1048576) (hr : Rd w A (tstCells l)) (hr' : Rd w A' (tstCells l)) :
    Calls Tryz.prog 103 #[.slice A n c, .slice A' n' c'] w fun e w' => e = .returned (.bool true) ∧ Below w.heap.size w w' := by
  subst hn
  subst hn'
  go_enter Tryz.func103, Tryz.ntmps103
  go_wp2
  go_loopw [5] (fun i wr => ∃ k : Nat, k ≤ l.length ∧ i = .int .i64 k ∧ Below w.heap.size w wr) (fun i _ => l.length - (intOf i).toNat)
  case atStart => exact ⟨0, Nat.zero_le _, rfl, Below.refl _ _⟩
  case round =>
    obtain ⟨k, hk, rfl, hb⟩ := hrel
    by_cases hlt : k < l.length
    · obtain ⟨s, hz⟩ : ∃ z, l[k]? = some z := ⟨_, List.getElem?_eq_getElem hlt⟩
      obtain ⟨b, off, rfl, _, g0, g1, g2⟩ := (hr.below hb).tst hz
      obtain ⟨b', off', rfl, _, e0, e1, e2⟩ := (hr'.below hb).tst hz
      have HB := Lib.hid hb
      clear hz hb hr hr'
      go_wp2
      go_still_tail 8, (by kernel_rfl)
      change wpList _ _ _ _ _ wr.drew
      have HB2 := Lib.hid (below_drewN HB.out 1)
      go_wp2_with (first
        | (go_at_call 125
           refine (c_eqTest _ _ _ _).mono ?_
           rintro e w2 ⟨rfl, hb2⟩
           have HB3 := Lib.hid (below_chain HB.out.drew hb2)
           clear hb2)
        )
      go_roundw
      case rel => exact ⟨k + 1, by omega, by go_num, HB3.out⟩
      case measure => simp [intOf]; omega
    · have : k = l.length := by omega
      subst this
      go_wp2
      go_ret
      exact ⟨rfl, hb⟩
structure Asg where
  v : Int
  x : Int
def Asg.val (s : Asg) : Value := .agg #[.int .i64 s.v, .int .i64 s.x]
def Asg.cells (s : Asg) : List Value := [.int .i64 s.v, .int .i64 s.x]
def asgCells (l : List Asg) : List Value := l.flatMap Asg.cells
theorem asgCells_length (l : List Asg) : (asgCells l).length = l.length * 2 := by
  induction l with
  | nil => rfl
  | cons s t ih => simp only [asgCells, List.flatMap_cons, List.length_append, List.length_cons] at ih ⊢; rw [ih]; simp [Asg.cells]; omega
theorem asgCells_get {s : Asg} {i : Nat} (hi : i < 2) : ∀ {l : List Asg} {k : Nat}, l[k]? = some s → (asgCells l)[k * 2 + i]? = s.cells[i]?
  | [], k, h => by simp at h
  | t :: l, 0, h => by
    simp only [List.getElem?_cons_zero, Option.some.injEq] at h
    subst h
    simp only [asgCells, List.flatMap_cons, Nat.zero_mul, Nat.zero_add]
    rw [List.getElem?_append_left (by simp [Asg.cells]; omega)]
  | t :: l, k + 1, h => by
    simp only [List.getElem?_cons_succ] at h
    have := asgCells_get hi h
    simp only [asgCells, List.flatMap_cons] at this ⊢
    rw [List.getElem?_append_right (by simp [Asg.cells]; omega), ← this]
    congr 1
    simp [Asg.cells]; omega
theorem asgCells_at {s : Asg} {l : List Asg} {k : Nat} (h : l[k]? = some s) : (asgCells l)[k * 2]? = some (.int .i64 s.v) ∧ (asgCells l)[k * 2 + 1]? = some (.int .i64 s.x) :=
  ⟨asgCells_get (i := 0) (by omega) h, asgCells_get (i := 1) (by omega) h⟩
theorem Rd.asg {w : World} {A : Option Addr} {l : List Asg} {k : Nat} {s : Asg} (h : Rd w A (asgCells l)) (hk : l[k]? = some s) : ∃ b off, A = some ⟨b, off, none⟩ ∧ b < w.heap.size ∧ w.cell? ⟨b, off + k * 2, none⟩ = some (.int .i64 s.v) ∧ w.cell? ⟨b, off + k * 2 + 1, none⟩ = some (.int .i64 s.x) := by
  obtain ⟨u0, u1⟩ := asgCells_at hk
  obtain ⟨b, off, rfl, hb, hc⟩ := h.some_ (by intro e; rw [e] at u0; simp at u0)
  exact ⟨b, off, rfl, hb, hc _ _ u0, hc _ _ u1⟩
theorem info_iAssign : (Tryz.prog.info? 47).map (fun i => (i.zero, i.size, i.bytes)) = some (some (.agg #[.int .i64 0, .int .i64 0]), 2, 16) := by kernel_rfl
theorem mix_asg {L Z : List Value} {m : Nat} {u0 u1 : Value} (hl : L.length = Z.length) (h0 : L[m]? = some u0) (h1 : L[m + 1]? = some u1) : (((mix L Z m).set m u0).set (m + 1) u1) = mix L Z (m + 2) := by
  rw [mix_set hl h0]
  rw [mix_set hl h1]
/-- What is handed back is a new list of the call's own that holds l. -/
def RetAsg (l : List Asg) (w : World) (e : Ending) (w' : World) : Prop :=
  ∃ A c, e = .returned (.slice A l.length c) ∧ w'.ownsRow w.heap.size 47 2 (.slice A l.length c) l.length (asgCells l) ∧ Below w.heap.size w w'
set_option maxRecDepth 100000 in
theorem c_eqAssign (v : Int) (x : Int) (w : World) : Calls Tryz.prog 126 #[.agg #[.int .i64 v, .int .i64 x], .agg #[.int .i64 v, .int .i64 x]] w fun e w' => e = .returned (.bool true) ∧ Below w.heap.size w w' := by
  go_enter Tryz.func126, Tryz.ntmps126
  go_wp2
  all_goals go_ret
  all_goals (refine ⟨rfl, by (repeat (first | exact Below.refl _ _ | assumption | refine below_alloc ?_ _ | refine below_drewN ?_ _ | refine below_set ?_ _ (by simp; try omega) | refine Below.drew ?_))⟩)
set_option maxRecDepth 100000 in
theorem c_eqAssignS (A A' : Option Addr) (c c' n n' : Nat) (l : List Asg) (w : World) (hn : n = l.length) (hn' : n' = l.length) (hs : l.length ≤ 1048576) (hr : Rd w A (asgCells l)) (hr' : Rd w A' (asgCells l)) :
    Calls Tryz.prog 104 #[.slice A n c, .slice A' n' c'] w fun e w' => e = .returned (.bool true) ∧ Below w.heap.size w w' := by
  subst hn
  subst hn'
  go_enter Tryz.func104, Tryz.ntmps104
  go_wp2
  go_loopw [5] (fun i wr => ∃ k : Nat, k ≤ l.length ∧ i = .int .i64 k ∧ Below w.heap.size w wr) (fun i _ => l.length - (intOf i).toNat)
  case atStart => exact ⟨0, Nat.zero_le _, rfl, Below.refl _ _⟩
  case round =>
    obtain ⟨k, hk, rfl, hb⟩ := hrel
    by_cases hlt : k < l.length
    · obtain ⟨s, hz⟩ : ∃ z, l[k]? = some z := ⟨_, List.getElem?_eq_getElem hlt⟩
      obtain ⟨b, off, rfl, _, g0, g1⟩ := (hr.below hb).asg hz
      obtain ⟨b', off', rfl, _, e0, e1⟩ := (hr'.below hb).asg hz
      have HB := Lib.hid hb
      clear hz hb hr hr'
      go_wp2
      go_still_tail 8, (by kernel_rfl)
      change wpList _ _ _ _ _ wr.drew
      have HB2 := Lib.hid (below_drewN HB.out 1)
      go_wp2_with (first
        | (go_at_call 126
           refine (c_eqAssign _ _ _).mono ?_
           rintro e w2 ⟨rfl, hb2⟩
           have HB3 := Lib.hid (below_chain HB.out.drew hb2)
           clear hb2)
        )
      go_roundw
      case rel => exact ⟨k + 1, by omega, by go_num, HB3.out⟩
      case measure => simp [intOf]; omega
    · have : k = l.length := by omega
      subst this
      go_wp2
      go_ret
      exact ⟨rfl, hb⟩
end Go.Proofs.YtgpmglfcdbpgkaaGreatDoor
