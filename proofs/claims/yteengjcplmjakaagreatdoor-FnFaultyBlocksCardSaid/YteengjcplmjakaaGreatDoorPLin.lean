/- Contracts of the laws' own copies, comparisons and sizes of lines. No condition but the lists' sizes. -/
import Derived.Test.YteengjcplmjakaaGreatDoorPSt
namespace Go.Proofs.YteengjcplmjakaaGreatDoor
open Go.RowKit

/-- A line. -/
structure Lin where
  tg : ByteArray
  ts : List Tm
/-- A line as it lies in memory. -/
structure LiD where
  l : Lin
  a : Option Addr
  c : Nat
def LiD.v (d : LiD) : Value := .slice d.a d.l.ts.length d.c
def LiD.cells (d : LiD) : List Value := [.string d.l.tg, d.v]
def lidCells (ds : List LiD) : List Value := ds.flatMap LiD.cells
theorem lidCells_length (l : List LiD) : (lidCells l).length = l.length * 2 := by
  induction l with
  | nil => rfl
  | cons s t ih => simp only [lidCells, List.flatMap_cons, List.length_append, List.length_cons] at ih ⊢; rw [ih]; simp [LiD.cells]; omega
theorem lidCells_snoc (l : List LiD) (d : LiD) : lidCells (l ++ [d]) = lidCells l ++ [.string d.l.tg, d.v] := by simp [lidCells, LiD.cells]
theorem lidCells_get {s : LiD} {i : Nat} (hi : i < 2) : ∀ {l : List LiD} {k : Nat}, l[k]? = some s → (lidCells l)[k * 2 + i]? = s.cells[i]?
  | [], k, h => by simp at h
  | t :: l, 0, h => by
    simp only [List.getElem?_cons_zero, Option.some.injEq] at h
    subst h
    simp only [lidCells, List.flatMap_cons, Nat.zero_mul, Nat.zero_add]
    rw [List.getElem?_append_left (by simp [LiD.cells]; omega)]
  | t :: l, k + 1, h => by
    simp only [List.getElem?_cons_succ] at h
    have := lidCells_get hi h
    simp only [lidCells, List.flatMap_cons] at this ⊢
    rw [List.getElem?_append_right (by simp [LiD.cells]; omega), ← this]
    congr 1
    simp [LiD.cells]; omega
theorem lidCells_at {s : LiD} {l : List LiD} {k : Nat} (h : l[k]? = some s) : (lidCells l)[k * 2]? = some (.string s.l.tg) ∧ (lidCells l)[k * 2 + 1]? = some s.v :=
  ⟨lidCells_get (i := 0) (by omega) h, lidCells_get (i := 1) (by omega) h⟩
/-- The slice value `.slice A l.length c` holds the lines l. -/
def Ll (w : World) (A : Option Addr) (l : List Lin) : Prop :=
  ∃ ds : List LiD, ds.map LiD.l = l ∧ Rd w A (lidCells ds) ∧ ∀ d ∈ ds, Rd w d.a (tmCells d.l.ts)
theorem Ll.below {w w1 : World} {A : Option Addr} {l : List Lin} (h : Ll w A l) (hb : Below w.heap.size w w1) : Ll w1 A l := by
  obtain ⟨ds, e, h1, h2⟩ := h
  exact ⟨ds, e, h1.below hb, fun d hd => (h2 d hd).below hb⟩
theorem Ll.alloc {w : World} {A : Option Addr} {l : List Lin} (h : Ll w A l) (o : Obj) : Ll (w.alloc o) A l := h.below (below_alloc (Below.refl _ _) o)
theorem Ll.drew {w : World} {A : Option Addr} {l : List Lin} (h : Ll w A l) : Ll w.drew A l := h.below (Below.refl _ _).drew
/-- What one line of the list reads. -/
theorem Ll.at {w : World} {A : Option Addr} {l : List Lin} {k : Nat} {r : Lin} (h : Ll w A l) (hk : l[k]? = some r) : ∃ b off a c, A = some ⟨b, off, none⟩ ∧ b < w.heap.size ∧ w.cell? ⟨b, off + k * 2, none⟩ = some (.string r.tg) ∧
    w.cell? ⟨b, off + k * 2 + 1, none⟩ = some (.slice a r.ts.length c) ∧ Rd w a (tmCells r.ts) := by
  obtain ⟨ds, rfl, h1, h2⟩ := h
  rw [List.getElem?_map, Option.map_eq_some_iff] at hk
  obtain ⟨d, hd, rfl⟩ := hk
  obtain ⟨u0, u1⟩ := lidCells_at hd
  obtain ⟨b, off, rfl, hb, hc⟩ := h1.some_ (by intro e; rw [e] at u0; simp at u0)
  exact ⟨b, off, d.a, d.c, rfl, hb, hc _ _ u0, hc _ _ u1, h2 d (List.mem_of_getElem? hd)⟩
/-- The row behind a line is the call's own. -/
def NestT (w : World) (base : Nat) (d : LiD) : Prop := w.ownsRow base 60 3 d.v d.l.ts.length (tmCells d.l.ts)
theorem NestT.below {w w1 : World} {base : Nat} {d : LiD} (h : NestT w base d) (hb : Below w.heap.size w w1) : NestT w1 base d := own_below h hb
theorem NestT.mono {w : World} {base base' : Nat} {d : LiD} (h : NestT w base d) (hb : base' ≤ base) : NestT w base' d := own_mono h hb
theorem kept_far {w w' : World} {row : Option Nat} {base : Nat} {e : TypeId} {size n : Nat} {v : Value} {xs : List Value} (h : w.ownsRow base e size v n xs) (hg : w.grownBy w' row) (hlt : ∀ q, row = some q → q < base) : w'.ownsRow base e size v n xs := by
  refine h.kept hg ?_
  rcases hv : v.ownBlock with _ | q
  · exact .inl rfl
  · refine .inr fun h' => ?_
    have := (h.lt q hv).1
    have := hlt q h'.symm
    omega
theorem NestT.far {w w1 : World} {base : Nat} {d : LiD} {row : Option Nat} (h : NestT w base d) (hg : w.grownBy w1 row) (hlt : ∀ q, row = some q → q < base) : NestT w1 base d := kept_far h hg hlt
theorem grown_trans {w a b : World} {row : Option Nat} (h : w.grownBy a row) (h2 : a.grownBy b row) : w.grownBy b row :=
  ⟨h2.os.trans h.os, h2.tape.trans h.tape, h2.output.trans h.output, Nat.le_trans h.size h2.size, fun k hk hne => (h2.block k (Nat.lt_of_lt_of_le hk h.size) hne).trans (h.block k hk hne)⟩
theorem app_set {xs Z : List Value} {m : Nat} (u : Value) (hx : xs.length = m) (hz : m < Z.length) : (xs ++ Z.drop m).set m u = (xs ++ [u]) ++ Z.drop (m + 1) := by
  have hz' : Z.drop m = Z[m] :: Z.drop (m + 1) := List.drop_eq_getElem_cons hz
  rw [List.set_append_right _ _ (by omega), hx, Nat.sub_self, hz', List.set_cons_zero]
  simp
theorem app_set2 {xs Z : List Value} {m : Nat} (u0 u1 : Value) (hx : xs.length = m) (hz : m + 2 ≤ Z.length) : (((xs ++ Z.drop m).set m u0).set (m + 1) u1) = (xs ++ [u0, u1]) ++ Z.drop (m + 2) := by
  rw [app_set u0 hx (by omega), app_set u1 (by simp [hx]) (by omega)]
  simp
/-- What is handed back is a line with a row of the call's own. -/
def RetLin (r : Lin) (w : World) (e : Ending) (w' : World) : Prop :=
  ∃ d : LiD, d.l = r ∧ e = .returned (.agg #[.string r.tg, d.v]) ∧ NestT w' w.heap.size d ∧ Below w.heap.size w w'
theorem info_iLine : (Tryz.prog.info? 80).map (fun i => (i.zero, i.size, i.bytes)) = some (some (.agg #[.string ⟨#[]⟩, .slice none 0 0]), 2, 40) := by kernel_rfl
/-- What is handed back is a list of lines of the call's own. -/
def RetLins (l : List Lin) (w : World) (e : Ending) (w' : World) : Prop :=
  ∃ A c, ∃ ds : List LiD, e = .returned (.slice A l.length c) ∧ ds.map LiD.l = l ∧ w'.ownsRow w.heap.size 80 2 (.slice A l.length c) l.length (lidCells ds) ∧ (∀ d ∈ ds, NestT w' w.heap.size d) ∧ Below w.heap.size w w'
/-- The lines' lengths. -/
def LinOk (l : List Lin) : Prop := l.length ≤ 1048576 ∧ ∀ r ∈ l, r.tg.size ≤ 1048576 ∧ TmOk r.ts
end Go.Proofs.YteengjcplmjakaaGreatDoor
