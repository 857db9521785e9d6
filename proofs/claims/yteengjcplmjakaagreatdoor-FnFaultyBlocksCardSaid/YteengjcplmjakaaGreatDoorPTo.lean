/- Contracts of the laws' own copy of a program, and of the comparison (printed by PTo.py). Condition: the lists' sizes. -/
import Derived.Test.YteengjcplmjakaaGreatDoorPSz
namespace Go.Proofs.YteengjcplmjakaaGreatDoor
open Go.RowKit

theorem own_box (w : World) (base : Nat) (t : TypeId) (xs : List Value) (s : Nat) (h : xs.length = s) (hb : base ≤ w.heap.size) : (w.alloc (.cells xs.toArray t)).ownsRow base t s (.slice (some ⟨w.heap.size, 0, none⟩) 1 1) 1 xs := by
  subst h
  have h := World.ownsRow_lit (e := t) (size := xs.length) (base := base) w xs.toArray 1 hb (by decide) (by simp)
  simpa using h
theorem own_ne {w : World} {b1 b2 : Nat} {e1 e2 : TypeId} {s1 s2 n1 n2 : Nat} {v1 v2 : Value} {x1 x2 : List Value} (h1 : w.ownsRow b1 e1 s1 v1 n1 x1) (h2 : w.ownsRow b2 e2 s2 v2 n2 x2) (he : e1 ≠ e2) : ∀ q, v1.ownBlock = some q → v2.ownBlock = some q → False := by
  intro q hq1 hq2
  rcases h1.2 with ⟨rfl, _⟩ | ⟨g1, c1, cur1, rfl, _, hg1, _⟩
  · simp [Value.ownBlock] at hq1
  · rcases h2.2 with ⟨rfl, _⟩ | ⟨g2, c2, cur2, rfl, _, hg2, _⟩
    · simp [Value.ownBlock] at hq2
    · simp [Value.ownBlock] at hq1 hq2
      subst hq1
      subst hq2
      rw [hg1] at hg2
      simp only [Option.some.injEq, Obj.cells.injEq] at hg2
      exact he hg2.2.1
/-- A row written: a row of another kind of element stays. -/
theorem own_keep {w w' : World} {b1 b2 : Nat} {e1 e2 : TypeId} {s1 s2 n1 n2 : Nat} {v1 v2 : Value} {x1 x2 : List Value} (h1 : w.ownsRow b1 e1 s1 v1 n1 x1) (h2 : w.ownsRow b2 e2 s2 v2 n2 x2) (he : e1 ≠ e2) (hg : w.grownBy w' v2.ownBlock) : w'.ownsRow b1 e1 s1 v1 n1 x1 := by
  refine h1.kept hg ?_
  rcases hv : v1.ownBlock with _ | q
  · exact .inl rfl
  · exact .inr fun h' => own_ne h1 h2 he q hv h'.symm
/-- A box of a program. -/
def PBox (w : World) (base b : Nat) (x : List Value) : Prop := w.ownsRow base 27 6 (.slice (some ⟨b, 0, none⟩) 1 1) 1 x
theorem PBox.put {w : World} {base b : Nat} {x : List Value} (h : PBox w base b x) (j : Nat) (v : Value) : PBox (w.setCell ⟨b, j, none⟩ v) base b (x.set j v) ∧ w.grownBy (w.setCell ⟨b, j, none⟩ v) (some b) := World.ownsRow.stored h j v
theorem PBox.keep {w w' : World} {base b q : Nat} {x : List Value} (h : PBox w base b x) (hg : w.grownBy w' (some q)) (hne : q ≠ b) : PBox w' base b x :=
  World.ownsRow.kept h hg (.inr (fun e => hne (by simpa [Value.ownBlock] using e.symm)))
theorem PBox.c {w : World} {base b : Nat} {x0 x1 x2 x3 x4 x5 : Value} (h : PBox w base b [x0, x1, x2, x3, x4, x5]) : (w.cell? ⟨b, 0, none⟩ = some x0 ∧ w.cell? ⟨b, 1, none⟩ = some x1 ∧ w.cell? ⟨b, 2, none⟩ = some x2 ∧ w.cell? ⟨b, 3, none⟩ = some x3 ∧ w.cell? ⟨b, 4, none⟩ = some x4 ∧ w.cell? ⟨b, 5, none⟩ = some x5) ∧
    (w.frozen? ⟨b, 0, none⟩ = false ∧ w.frozen? ⟨b, 1, none⟩ = false ∧ w.frozen? ⟨b, 2, none⟩ = false ∧ w.frozen? ⟨b, 3, none⟩ = false ∧ w.frozen? ⟨b, 4, none⟩ = false ∧ w.frozen? ⟨b, 5, none⟩ = false) ∧ b < w.heap.size :=
  ⟨⟨World.ownsRow.cellAt h 0 (by decide), World.ownsRow.cellAt h 1 (by decide), World.ownsRow.cellAt h 2 (by decide), World.ownsRow.cellAt h 3 (by decide), World.ownsRow.cellAt h 4 (by decide), World.ownsRow.cellAt h 5 (by decide)⟩, ⟨World.ownsRow.frozenAt h 0, World.ownsRow.frozenAt h 1, World.ownsRow.frozenAt h 2, World.ownsRow.frozenAt h 3, World.ownsRow.frozenAt h 4, World.ownsRow.frozenAt h 5⟩, (own_ge h).2⟩
/-- The rows of a program, all the call's own. -/
structure POwn (w : World) (base : Nat) (a1 a2 a3 a4 : Option Addr) (c1 c2 c3 c4 : Nat) (p : Prg) (ds : List LiD) : Prop where
  i : w.ownsRow base 9 1 (.slice a1 p.ins.length c1) p.ins.length (sts p.ins)
  v : w.ownsRow base 9 1 (.slice a2 p.vs.length c2) p.vs.length (sts p.vs)
  o : w.ownsRow base 9 1 (.slice a3 p.os.length c3) p.os.length (sts p.os)
  l : w.ownsRow base 80 2 (.slice a4 p.ls.length c4) p.ls.length (lidCells ds)
  e : ds.map LiD.l = p.ls
  d : ∀ d ∈ ds, NestT w base d
theorem POwn.below {w w' : World} {base : Nat} {a1 a2 a3 a4 : Option Addr} {c1 c2 c3 c4 : Nat} {p : Prg} {ds : List LiD} (h : POwn w base a1 a2 a3 a4 c1 c2 c3 c4 p ds) (hb : Below w.heap.size w w') : POwn w' base a1 a2 a3 a4 c1 c2 c3 c4 p ds :=
  ⟨own_below h.i hb, own_below h.v hb, own_below h.o hb, own_below h.l hb, h.e, fun d hd => (h.d d hd).below hb⟩
theorem POwn.pg {w : World} {base : Nat} {a1 a2 a3 a4 : Option Addr} {c1 c2 c3 c4 : Nat} {p : Prg} {ds : List LiD} (h : POwn w base a1 a2 a3 a4 c1 c2 c3 c4 p ds) : PgR w a1 a2 a3 a4 p :=
  ⟨Rd.own h.i, Rd.own h.v, Rd.own h.o, ⟨ds, h.e, Rd.own h.l, fun d hd => Rd.own (h.d d hd)⟩⟩
def RetPg (p : Prg) (w : World) (e : Ending) (w' : World) : Prop :=
  ∃ a1 a2 a3 a4 c1 c2 c3 c4 ds, e = .returned (pv p a1 a2 a3 a4 c1 c2 c3 c4) ∧ POwn w' w.heap.size a1 a2 a3 a4 c1 c2 c3 c4 p ds ∧ Below w.heap.size w w'
end Go.Proofs.YteengjcplmjakaaGreatDoor
