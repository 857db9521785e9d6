/- Contracts of the laws' own copy, size and comparison of a memory (printed by PMe.py). Condition: the lists' sizes. -/
import Derived.Test.YteengjcplmjakaaGreatDoorRowB
namespace Go.Proofs.YteengjcplmjakaaGreatDoor
open Go.RowKit

/-- A memory. -/
structure Mem where
  vs : List Int
  bs : List Bs
def mv (m : Mem) (a1 a2 : Option Addr) (c1 c2 : Nat) : Value := .agg #[.slice a1 m.vs.length c1, .slice a2 m.bs.length c2]
structure MeR (w : World) (a1 a2 : Option Addr) (m : Mem) : Prop where
  v : Rd w a1 (ints m.vs)
  b : Rd w a2 (bsCells m.bs)
theorem MeR.below {w w' : World} {a1 a2 : Option Addr} {m : Mem} (h : MeR w a1 a2 m) (hb : Below w.heap.size w w') : MeR w' a1 a2 m := ⟨h.v.below hb, h.b.below hb⟩
structure MeSz (m : Mem) : Prop where
  v : m.vs.length ≤ 9223372036854775807
  b : m.bs.length ≤ 9223372036854775807
structure MeOk (m : Mem) : Prop where
  v : m.vs.length ≤ 1048576
  b : m.bs.length ≤ 1048576
/-- A box of a memory. -/
def MBox (w : World) (base b : Nat) (x : List Value) : Prop := w.ownsRow base 48 2 (.slice (some ⟨b, 0, none⟩) 1 1) 1 x
theorem MBox.put {w : World} {base b : Nat} {x : List Value} (h : MBox w base b x) (j : Nat) (v : Value) : MBox (w.setCell ⟨b, j, none⟩ v) base b (x.set j v) ∧ w.grownBy (w.setCell ⟨b, j, none⟩ v) (some b) := World.ownsRow.stored h j v
theorem MBox.keep {w w' : World} {base b q : Nat} {x : List Value} (h : MBox w base b x) (hg : w.grownBy w' (some q)) (hne : q ≠ b) : MBox w' base b x :=
  World.ownsRow.kept h hg (.inr (fun e => hne (by simpa [Value.ownBlock] using e.symm)))
theorem MBox.c {w : World} {base b : Nat} {x0 x1 : Value} (h : MBox w base b [x0, x1]) : (w.cell? ⟨b, 0, none⟩ = some x0 ∧ w.cell? ⟨b, 1, none⟩ = some x1) ∧
    (w.frozen? ⟨b, 0, none⟩ = false ∧ w.frozen? ⟨b, 1, none⟩ = false) ∧ b < w.heap.size :=
  ⟨⟨World.ownsRow.cellAt h 0 (by decide), World.ownsRow.cellAt h 1 (by decide)⟩, ⟨World.ownsRow.frozenAt h 0, World.ownsRow.frozenAt h 1⟩, (own_ge h).2⟩
/-- The rows of a memory, all the call's own. -/
structure MeOwn (w : World) (base : Nat) (a1 a2 : Option Addr) (c1 c2 : Nat) (m : Mem) : Prop where
  v : w.ownsRow base 2 1 (.slice a1 m.vs.length c1) m.vs.length (ints m.vs)
  b : w.ownsRow base 62 3 (.slice a2 m.bs.length c2) m.bs.length (bsCells m.bs)
theorem MeOwn.below {w w' : World} {base : Nat} {a1 a2 : Option Addr} {c1 c2 : Nat} {m : Mem} (h : MeOwn w base a1 a2 c1 c2 m) (hb : Below w.heap.size w w') : MeOwn w' base a1 a2 c1 c2 m := ⟨own_below h.v hb, own_below h.b hb⟩
theorem MeOwn.rd {w : World} {base : Nat} {a1 a2 : Option Addr} {c1 c2 : Nat} {m : Mem} (h : MeOwn w base a1 a2 c1 c2 m) : MeR w a1 a2 m := ⟨Rd.own h.v, Rd.own h.b⟩
def RetMe (m : Mem) (w : World) (e : Ending) (w' : World) : Prop :=
  ∃ a1 a2 c1 c2, e = .returned (mv m a1 a2 c1 c2) ∧ MeOwn w' w.heap.size a1 a2 c1 c2 m ∧ Below w.heap.size w w'
end Go.Proofs.YteengjcplmjakaaGreatDoor
