/- Contracts of the laws' own copies of rules. No condition but the lists' sizes. -/
import Derived.Test.YtgpmglfcdbpgkaaGreatDoorRowM
namespace Go.Proofs.YtgpmglfcdbpgkaaGreatDoor
open Go.RowKit

/-- A rule. -/
structure Rul where
  nm : ByteArray
  gs : List Tst
  es : List Asg
/-- A rule as it lies in memory. -/
structure RuD where
  r : Rul
  ag : Option Addr
  cg : Nat
  ae : Option Addr
  ce : Nat
def RuD.vg (d : RuD) : Value := .slice d.ag d.r.gs.length d.cg
def RuD.ve (d : RuD) : Value := .slice d.ae d.r.es.length d.ce
def RuD.cells (d : RuD) : List Value := [.string d.r.nm, d.vg, d.ve]
def rudCells (ds : List RuD) : List Value := ds.flatMap RuD.cells
theorem rudCells_length (l : List RuD) : (rudCells l).length = l.length * 3 := by
  induction l with
  | nil => rfl
  | cons s t ih => simp only [rudCells, List.flatMap_cons, List.length_append, List.length_cons] at ih ⊢; rw [ih]; simp [RuD.cells]; omega
theorem rudCells_snoc (l : List RuD) (d : RuD) : rudCells (l ++ [d]) = rudCells l ++ [.string d.r.nm, d.vg, d.ve] := by simp [rudCells, RuD.cells]
theorem rudCells_get {s : RuD} {i : Nat} (hi : i < 3) : ∀ {l : List RuD} {k : Nat}, l[k]? = some s → (rudCells l)[k * 3 + i]? = s.cells[i]?
  | [], k, h => by simp at h
  | t :: l, 0, h => by
    simp only [List.getElem?_cons_zero, Option.some.injEq] at h
    subst h
    simp only [rudCells, List.flatMap_cons, Nat.zero_mul, Nat.zero_add]
    rw [List.getElem?_append_left (by simp [RuD.cells]; omega)]
  | t :: l, k + 1, h => by
    simp only [List.getElem?_cons_succ] at h
    have := rudCells_get hi h
    simp only [rudCells, List.flatMap_cons] at this ⊢
    rw [List.getElem?_append_right (by simp [RuD.cells]; omega), ← this]
    congr 1
    simp [RuD.cells]; omega
theorem rudCells_at {s : RuD} {l : List RuD} {k : Nat} (h : l[k]? = some s) : (rudCells l)[k * 3]? = some (.string s.r.nm) ∧ (rudCells l)[k * 3 + 1]? = some s.vg ∧ (rudCells l)[k * 3 + 2]? = some s.ve :=
  ⟨rudCells_get (i := 0) (by omega) h, rudCells_get (i := 1) (by omega) h, rudCells_get (i := 2) (by omega) h⟩
/-- The slice value `.slice A l.length c` holds the rules l. -/
def Rl (w : World) (A : Option Addr) (l : List Rul) : Prop :=
  ∃ ds : List RuD, ds.map RuD.r = l ∧ Rd w A (rudCells ds) ∧ ∀ d ∈ ds, Rd w d.ag (tstCells d.r.gs) ∧ Rd w d.ae (asgCells d.r.es)
theorem Rl.below {w w1 : World} {A : Option Addr} {l : List Rul} (h : Rl w A l) (hb : Below w.heap.size w w1) : Rl w1 A l := by
  obtain ⟨ds, e, h1, h2⟩ := h
  exact ⟨ds, e, h1.below hb, fun d hd => ⟨(h2 d hd).1.below hb, (h2 d hd).2.below hb⟩⟩
theorem Rl.alloc {w : World} {A : Option Addr} {l : List Rul} (h : Rl w A l) (o : Obj) : Rl (w.alloc o) A l := h.below (below_alloc (Below.refl _ _) o)
/-- What one rule of the list reads. -/
theorem Rl.at {w : World} {A : Option Addr} {l : List Rul} {k : Nat} {r : Rul} (h : Rl w A l) (hk : l[k]? = some r) : ∃ b off ag cg ae ce, A = some ⟨b, off, none⟩ ∧ b < w.heap.size ∧ w.cell? ⟨b, off + k * 3, none⟩ = some (.string r.nm) ∧
    w.cell? ⟨b, off + k * 3 + 1, none⟩ = some (.slice ag r.gs.length cg) ∧ w.cell? ⟨b, off + k * 3 + 2, none⟩ = some (.slice ae r.es.length ce) ∧ Rd w ag (tstCells r.gs) ∧ Rd w ae (asgCells r.es) := by
  obtain ⟨ds, rfl, h1, h2⟩ := h
  rw [List.getElem?_map, Option.map_eq_some_iff] at hk
  obtain ⟨d, hd, rfl⟩ := hk
  obtain ⟨u0, u1, u2⟩ := rudCells_at hd
  obtain ⟨b, off, rfl, hb, hc⟩ := h1.some_ (by intro e; rw [e] at u0; simp at u0)
  have hm := h2 d (List.mem_of_getElem? hd)
  exact ⟨b, off, d.ag, d.cg, d.ae, d.ce, rfl, hb, hc _ _ u0, hc _ _ u1, hc _ _ u2, hm.1, hm.2⟩
/-- The two rows behind a rule are the call's own. -/
def Nest (w : World) (base : Nat) (d : RuD) : Prop := w.ownsRow base 90 3 d.vg d.r.gs.length (tstCells d.r.gs) ∧ w.ownsRow base 47 2 d.ve d.r.es.length (asgCells d.r.es)
theorem Nest.below {w w1 : World} {base : Nat} {d : RuD} (h : Nest w base d) (hb : Below w.heap.size w w1) : Nest w1 base d := ⟨own_below h.1 hb, own_below h.2 hb⟩
theorem Nest.mono {w : World} {base base' : Nat} {d : RuD} (h : Nest w base d) (hb : base' ≤ base) : Nest w base' d := ⟨own_mono h.1 hb, own_mono h.2 hb⟩
theorem kept_far {w w' : World} {row : Option Nat} {base : Nat} {e : TypeId} {size n : Nat} {v : Value} {xs : List Value} (h : w.ownsRow base e size v n xs) (hg : w.grownBy w' row) (hlt : ∀ q, row = some q → q < base) : w'.ownsRow base e size v n xs := by
  refine h.kept hg ?_
  rcases hv : v.ownBlock with _ | q
  · exact .inl rfl
  · refine .inr fun h' => ?_
    have := (h.lt q hv).1
    have := hlt q h'.symm
    omega
theorem Nest.far {w w1 : World} {base : Nat} {d : RuD} {row : Option Nat} (h : Nest w base d) (hg : w.grownBy w1 row) (hlt : ∀ q, row = some q → q < base) : Nest w1 base d := ⟨kept_far h.1 hg hlt, kept_far h.2 hg hlt⟩
theorem grown_trans {w a b : World} {row : Option Nat} (h : w.grownBy a row) (h2 : a.grownBy b row) : w.grownBy b row :=
  ⟨h2.os.trans h.os, h2.tape.trans h.tape, h2.output.trans h.output, Nat.le_trans h.size h2.size, fun k hk hne => (h2.block k (Nat.lt_of_lt_of_le hk h.size) hne).trans (h.block k hk hne)⟩
theorem app_set {xs Z : List Value} {m : Nat} (u : Value) (hx : xs.length = m) (hz : m < Z.length) : (xs ++ Z.drop m).set m u = (xs ++ [u]) ++ Z.drop (m + 1) := by
  have hz' : Z.drop m = Z[m] :: Z.drop (m + 1) := List.drop_eq_getElem_cons hz
  rw [List.set_append_right _ _ (by omega), hx, Nat.sub_self, hz', List.set_cons_zero]
  simp
theorem app_set3 {xs Z : List Value} {m : Nat} (u0 u1 u2 : Value) (hx : xs.length = m) (hz : m + 3 ≤ Z.length) : ((((xs ++ Z.drop m).set m u0).set (m + 1) u1).set (m + 2) u2) = (xs ++ [u0, u1, u2]) ++ Z.drop (m + 3) := by
  rw [app_set u0 hx (by omega), app_set u1 (by simp [hx]) (by omega), app_set u2 (by simp [hx]) (by omega)]
  simp
/-- What is handed back is a rule with rows of the call's own. -/
def RetRul (r : Rul) (w : World) (e : Ending) (w' : World) : Prop :=
  ∃ d : RuD, d.r = r ∧ e = .returned (.agg #[.string r.nm, d.vg, d.ve]) ∧ Nest w' w.heap.size d ∧ Below w.heap.size w w'
theorem info_iRule : (Tryz.prog.info? 45).map (fun i => (i.zero, i.size, i.bytes)) = some (some (.agg #[.string ⟨#[]⟩, .slice none 0 0, .slice none 0 0]), 3, 64) := by kernel_rfl
/-- What is handed back is a list of rules of the call's own. -/
def RetRuls (l : List Rul) (w : World) (e : Ending) (w' : World) : Prop :=
  ∃ A c, ∃ ds : List RuD, e = .returned (.slice A l.length c) ∧ ds.map RuD.r = l ∧ w'.ownsRow w.heap.size 45 3 (.slice A l.length c) l.length (rudCells ds) ∧ (∀ d ∈ ds, Nest w' w.heap.size d) ∧ Below w.heap.size w w'
def RulOk (l : List Rul) : Prop := l.length ≤ 1048576 ∧ ∀ r ∈ l, r.gs.length ≤ 1048576 ∧ r.es.length ≤ 1048576
end Go.Proofs.YtgpmglfcdbpgkaaGreatDoor
