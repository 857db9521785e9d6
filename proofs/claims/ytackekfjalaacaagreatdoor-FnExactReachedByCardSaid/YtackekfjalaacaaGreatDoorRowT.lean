/- Contracts of the laws' own copies, sizes and comparisons of rows of small structs (printed by rows.py, but for szTermS). No condition but the lists' sizes. -/
import Derived.Test.YtackekfjalaacaaGreatDoorIntsC
namespace Go.Proofs.YtackekfjalaacaaGreatDoor
open Go.RowKit

structure Tm where
  k : Int
  nm : ByteArray
  n : Int
def Tm.val (s : Tm) : Value := .agg #[.int .i64 s.k, .string s.nm, .int .i64 s.n]
def Tm.cells (s : Tm) : List Value := [.int .i64 s.k, .string s.nm, .int .i64 s.n]
def tmCells (l : List Tm) : List Value := l.flatMap Tm.cells
theorem tmCells_length (l : List Tm) : (tmCells l).length = l.length * 3 := by
  induction l with
  | nil => rfl
  | cons s t ih => simp only [tmCells, List.flatMap_cons, List.length_append, List.length_cons] at ih ⊢; rw [ih]; simp [Tm.cells]; omega
theorem tmCells_get {s : Tm} {i : Nat} (hi : i < 3) : ∀ {l : List Tm} {k : Nat}, l[k]? = some s → (tmCells l)[k * 3 + i]? = s.cells[i]?
  | [], k, h => by simp at h
  | t :: l, 0, h => by
    simp only [List.getElem?_cons_zero, Option.some.injEq] at h
    subst h
    simp only [tmCells, List.flatMap_cons, Nat.zero_mul, Nat.zero_add]
    rw [List.getElem?_append_left (by simp [Tm.cells]; omega)]
  | t :: l, k + 1, h => by
    simp only [List.getElem?_cons_succ] at h
    have := tmCells_get hi h
    simp only [tmCells, List.flatMap_cons] at this ⊢
    rw [List.getElem?_append_right (by simp [Tm.cells]; omega), ← this]
    congr 1
    simp [Tm.cells]; omega
theorem tmCells_at {s : Tm} {l : List Tm} {k : Nat} (h : l[k]? = some s) : (tmCells l)[k * 3]? = some (.int .i64 s.k) ∧ (tmCells l)[k * 3 + 1]? = some (.string s.nm) ∧ (tmCells l)[k * 3 + 2]? = some (.int .i64 s.n) :=
  ⟨tmCells_get (i := 0) (by omega) h, tmCells_get (i := 1) (by omega) h, tmCells_get (i := 2) (by omega) h⟩
theorem Rd.tm {w : World} {A : Option Addr} {l : List Tm} {k : Nat} {s : Tm} (h : Rd w A (tmCells l)) (hk : l[k]? = some s) : ∃ b off, A = some ⟨b, off, none⟩ ∧ b < w.heap.size ∧ w.cell? ⟨b, off + k * 3, none⟩ = some (.int .i64 s.k) ∧ w.cell? ⟨b, off + k * 3 + 1, none⟩ = some (.string s.nm) ∧ w.cell? ⟨b, off + k * 3 + 2, none⟩ = some (.int .i64 s.n) := by
  obtain ⟨u0, u1, u2⟩ := tmCells_at hk
  obtain ⟨b, off, rfl, hb, hc⟩ := h.some_ (by intro e; rw [e] at u0; simp at u0)
  exact ⟨b, off, rfl, hb, hc _ _ u0, hc _ _ u1, hc _ _ u2⟩
theorem info_iTerm : (Tryz.prog.info? 109).map (fun i => (i.zero, i.size, i.bytes)) = some (some (.agg #[.int .i64 0, .string ⟨#[]⟩, .int .i64 0]), 3, 32) := by kernel_rfl
theorem mix_tm {L Z : List Value} {m : Nat} {u0 u1 u2 : Value} (hl : L.length = Z.length) (h0 : L[m]? = some u0) (h1 : L[m + 1]? = some u1) (h2 : L[m + 2]? = some u2) : ((((mix L Z m).set m u0).set (m + 1) u1).set (m + 2) u2) = mix L Z (m + 3) := by
  rw [mix_set hl h0]
  rw [mix_set hl h1]
  rw [mix_set hl h2]
theorem c_toTerm (k : Int) (nm : ByteArray) (n : Int) (w : World) : Calls Tryz.prog 128 #[.agg #[.int .i64 k, .string nm, .int .i64 n]] w fun e w' => e = .returned (.agg #[.int .i64 k, .string nm, .int .i64 n]) ∧ Below w.heap.size w w' := by
  go_enter Tryz.func128, Tryz.ntmps128
  go_wp2
  refine bodyPost_ret (v := .agg #[.int .i64 k, .string nm, .int .i64 n]) (by simp [results, Tryz.results128, go_sem]) rfl ⟨rfl, by (repeat (first | exact Below.refl _ _ | assumption | refine below_alloc ?_ _ | refine below_drewN ?_ _ | refine below_set ?_ _ (by simp; try omega) | refine Below.drew ?_))⟩
/-- What is handed back is a new list of the call's own that holds l. -/
def RetTm (l : List Tm) (w : World) (e : Ending) (w' : World) : Prop :=
  ∃ A c, e = .returned (.slice A l.length c) ∧ w'.ownsRow w.heap.size 109 3 (.slice A l.length c) l.length (tmCells l) ∧ Below w.heap.size w w'
set_option maxRecDepth 100000 in
theorem c_toTermS (A : Option Addr) (c n : Nat) (l : List Tm) (w : World) (hn : n = l.length) (hs : n ≤ 1048576) (hr : Rd w A (tmCells l)) :
    Calls Tryz.prog 96 #[.slice A n c] w (RetTm l w) := by
  obtain ⟨i0, hi, hz0, hz1, hz2⟩ := info_parts info_iTerm
  have HN := Lib.hid hn
  have HZ : (tmCells l).length = n * 3 := by rw [tmCells_length, hn]
  clear hn
  go_enter Tryz.func96, Tryz.ntmps96
  go_wp2_with (first
    | (at_make
       refine wpList_make_full _ rfl (.tmp 6) (.tmp 6) _ rfl w.heap.size 109 i0 _ 3 Tryz.underlying48 hi hz0 hz1 .i64 .i64 _ _ n rfl rfl rfl rfl (by rw [hz2]; omega) (by unfold maxLen; omega) (Nat.le_refl _) ?_
       intro w1 hown hgrow)
    )
  have hb1 : Below w.heap.size w w1 := below_of_grown (Below.refl _ _) hgrow (by simp)
  have hZ : (madeCells (Value.agg #[.int .i64 0, .string ⟨#[]⟩, .int .i64 0]).cells (n * 3)).toList.length = n * 3 := by simp [size_madeCells]
  generalize (madeCells (Value.agg #[.int .i64 0, .string ⟨#[]⟩, .int .i64 0]).cells (n * 3)).toList = Z at hown hZ
  have hLZ := Lib.hid (HZ.trans hZ.symm)
  have HZZ := Lib.hid HZ
  clear hZ HZ hgrow
  go_loopw [4] (fun i wr => ∃ k : Nat, k ≤ n ∧ i = .int .i64 k ∧ wr.ownsRow w.heap.size 109 3 (.slice (some ⟨w.heap.size, 0, none⟩) n n) n (mix (tmCells l) Z (k * 3)) ∧ Below w.heap.size w wr) (fun i _ => n - (intOf i).toNat)
  case atStart => exact ⟨0, Nat.zero_le _, rfl, by rw [Nat.zero_mul, mix_zero]; exact hown, hb1⟩
  case round =>
    obtain ⟨k, hk, rfl, ho, hb⟩ := hrel
    clear hown hb1
    by_cases hlt : k < n
    · obtain ⟨s, hs0⟩ : ∃ s, l[k]? = some s := ⟨_, List.getElem?_eq_getElem (by have := HN.out; omega)⟩
      obtain ⟨u0, u1, u2⟩ := tmCells_at hs0
      have HM := Lib.hid (mix_tm hLZ.out u0 u1 u2)
      clear u0 u1 u2
      obtain ⟨b, off, rfl, _, g0, g1, g2⟩ := (hr.below hb).tm hs0
      have HO := Lib.hid ho
      have HB := Lib.hid hb
      clear hs0 ho hb hr
      go_wp2_with (first
        | (go_at_call 128
           refine (c_toTerm _ _ _ _).mono ?_
           rintro e w2 ⟨rfl, hb2⟩
           have ho1 := own_below HO.out hb2
           have f0 := ho1.frozenAt (k * 3)
           obtain ⟨o0, e0⟩ := own_cell ho1 (j := k * 3) (by omega)
           have f1 := ho1.frozenAt (k * 3 + 1)
           obtain ⟨o1, e1⟩ := own_cell ho1 (j := k * 3 + 1) (by omega)
           have f2 := ho1.frozenAt (k * 3 + 2)
           obtain ⟨o2, e2⟩ := own_cell ho1 (j := k * 3 + 2) (by omega)
           have HST := Lib.hid (((ho1.stored (k * 3) (.int .i64 s.k)).1.stored (k * 3 + 1) (.string s.nm)).1.stored (k * 3 + 2) (.int .i64 s.n)).1
           have HB2 := Lib.hid (below_chain HB.out hb2)
           clear ho1 hb2 g0 g1 g2)
        )
      go_roundw
      case rel =>
        refine ⟨k + 1, by omega, by go_num, ?_, ?_⟩
        · rw [show (k + 1) * 3 = k * 3 + 3 from by omega, ← HM.out]
          exact HST.out
        · exact below_set (below_set (below_set HB2.out _ (Nat.le_refl _)) _ (Nat.le_refl _)) _ (Nat.le_refl _)
      case measure => simp [intOf]; omega
    · have : k = n := by omega
      subst this
      go_wp2
      go_ret
      have e := HN.out
      rw [mix_all (by rw [HZZ.out]; exact Nat.le_refl _) (by rw [← hLZ.out, HZZ.out]; exact Nat.le_refl _)] at ho
      subst e
      exact ⟨_, _, rfl, ho, hb⟩
set_option maxRecDepth 100000 in
theorem c_eqTerm (k : Int) (nm : ByteArray) (n : Int) (w : World) : Calls Tryz.prog 129 #[.agg #[.int .i64 k, .string nm, .int .i64 n], .agg #[.int .i64 k, .string nm, .int .i64 n]] w fun e w' => e = .returned (.bool true) ∧ Below w.heap.size w w' := by
  go_enter Tryz.func129, Tryz.ntmps129
  go_wp2
  all_goals go_ret
  all_goals (refine ⟨rfl, by (repeat (first | exact Below.refl _ _ | assumption | refine below_alloc ?_ _ | refine below_drewN ?_ _ | refine below_set ?_ _ (by simp; try omega) | refine Below.drew ?_))⟩)
set_option maxRecDepth 100000 in
theorem c_eqTermS (A A' : Option Addr) (c c' n n' : Nat) (l : List Tm) (w : World) (hn : n = l.length) (hn' : n' = l.length) (hs : l.length ≤ 1048576) (hr : Rd w A (tmCells l)) (hr' : Rd w A' (tmCells l)) :
    Calls Tryz.prog 101 #[.slice A n c, .slice A' n' c'] w fun e w' => e = .returned (.bool true) ∧ Below w.heap.size w w' := by
  subst hn
  subst hn'
  go_enter Tryz.func101, Tryz.ntmps101
  go_wp2
  go_loopw [5] (fun i wr => ∃ k : Nat, k ≤ l.length ∧ i = .int .i64 k ∧ Below w.heap.size w wr) (fun i _ => l.length - (intOf i).toNat)
  case atStart => exact ⟨0, Nat.zero_le _, rfl, Below.refl _ _⟩
  case round =>
    obtain ⟨k, hk, rfl, hb⟩ := hrel
    by_cases hlt : k < l.length
    · obtain ⟨s, hz⟩ : ∃ z, l[k]? = some z := ⟨_, List.getElem?_eq_getElem hlt⟩
      obtain ⟨b, off, rfl, _, g0, g1, g2⟩ := (hr.below hb).tm hz
      obtain ⟨b', off', rfl, _, e0, e1, e2⟩ := (hr'.below hb).tm hz
      have HB := Lib.hid hb
      clear hz hb hr hr'
      go_wp2
      go_still_tail 8, (by kernel_rfl)
      change wpList _ _ _ _ _ wr.drew
      have HB2 := Lib.hid (below_drewN HB.out 1)
      go_wp2_with (first
        | (go_at_call 129
           refine (c_eqTerm _ _ _ _).mono ?_
           rintro e w2 ⟨rfl, hb2⟩
           have HB3 := Lib.hid (below_chain HB.out.drew hb2)
           clear hb2)
        )
      go_roundw
      case rel => exact ⟨k + 1, by omega, by go_num, HB3.out⟩
      case measure => simp [intOf]; omega
    · have : k = l.length := by omega
      subst this
      go_wp2
      go_ret
      exact ⟨rfl, hb⟩
structure Ins where
  o : Int
  a : Int
def Ins.val (s : Ins) : Value := .agg #[.int .i64 s.o, .int .i64 s.a]
def Ins.cells (s : Ins) : List Value := [.int .i64 s.o, .int .i64 s.a]
def insCells (l : List Ins) : List Value := l.flatMap Ins.cells
theorem insCells_length (l : List Ins) : (insCells l).length = l.length * 2 := by
  induction l with
  | nil => rfl
  | cons s t ih => simp only [insCells, List.flatMap_cons, List.length_append, List.length_cons] at ih ⊢; rw [ih]; simp [Ins.cells]; omega
theorem insCells_get {s : Ins} {i : Nat} (hi : i < 2) : ∀ {l : List Ins} {k : Nat}, l[k]? = some s → (insCells l)[k * 2 + i]? = s.cells[i]?
  | [], k, h => by simp at h
  | t :: l, 0, h => by
    simp only [List.getElem?_cons_zero, Option.some.injEq] at h
    subst h
    simp only [insCells, List.flatMap_cons, Nat.zero_mul, Nat.zero_add]
    rw [List.getElem?_append_left (by simp [Ins.cells]; omega)]
  | t :: l, k + 1, h => by
    simp only [List.getElem?_cons_succ] at h
    have := insCells_get hi h
    simp only [insCells, List.flatMap_cons] at this ⊢
    rw [List.getElem?_append_right (by simp [Ins.cells]; omega), ← this]
    congr 1
    simp [Ins.cells]; omega
theorem insCells_at {s : Ins} {l : List Ins} {k : Nat} (h : l[k]? = some s) : (insCells l)[k * 2]? = some (.int .i64 s.o) ∧ (insCells l)[k * 2 + 1]? = some (.int .i64 s.a) :=
  ⟨insCells_get (i := 0) (by omega) h, insCells_get (i := 1) (by omega) h⟩
theorem Rd.ins {w : World} {A : Option Addr} {l : List Ins} {k : Nat} {s : Ins} (h : Rd w A (insCells l)) (hk : l[k]? = some s) : ∃ b off, A = some ⟨b, off, none⟩ ∧ b < w.heap.size ∧ w.cell? ⟨b, off + k * 2, none⟩ = some (.int .i64 s.o) ∧ w.cell? ⟨b, off + k * 2 + 1, none⟩ = some (.int .i64 s.a) := by
  obtain ⟨u0, u1⟩ := insCells_at hk
  obtain ⟨b, off, rfl, hb, hc⟩ := h.some_ (by intro e; rw [e] at u0; simp at u0)
  exact ⟨b, off, rfl, hb, hc _ _ u0, hc _ _ u1⟩
theorem info_iInstruction : (Tryz.prog.info? 107).map (fun i => (i.zero, i.size, i.bytes)) = some (some (.agg #[.int .i64 0, .int .i64 0]), 2, 16) := by kernel_rfl
theorem mix_ins {L Z : List Value} {m : Nat} {u0 u1 : Value} (hl : L.length = Z.length) (h0 : L[m]? = some u0) (h1 : L[m + 1]? = some u1) : (((mix L Z m).set m u0).set (m + 1) u1) = mix L Z (m + 2) := by
  rw [mix_set hl h0]
  rw [mix_set hl h1]
/-- What is handed back is a new list of the call's own that holds l. -/
def RetIns (l : List Ins) (w : World) (e : Ending) (w' : World) : Prop :=
  ∃ A c, e = .returned (.slice A l.length c) ∧ w'.ownsRow w.heap.size 107 2 (.slice A l.length c) l.length (insCells l) ∧ Below w.heap.size w w'
end Go.Proofs.YtackekfjalaacaaGreatDoor
