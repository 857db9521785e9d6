/- Contracts of the laws' own sizes of lines and programs (printed by PSz.py). Condition: the lengths are those of a run. -/
import Derived.Test.YteengjcplmjakaaGreatDoorPLin
namespace Go.Proofs.YteengjcplmjakaaGreatDoor
open Go.RowKit

def LinSz (r : Lin) : Prop := r.tg.size ≤ 9223372036854775807 ∧ r.ts.length ≤ 9223372036854775807 ∧ ∀ t ∈ r.ts, t.nm.size ≤ 9223372036854775807
/-- A program. -/
structure Prg where
  nm : ByteArray
  ins : List ByteArray
  vs : List ByteArray
  os : List ByteArray
  gd : ByteArray
  ls : List Lin
def pv (p : Prg) (a1 a2 a3 a4 : Option Addr) (c1 c2 c3 c4 : Nat) : Value := .agg #[.string p.nm, .slice a1 p.ins.length c1, .slice a2 p.vs.length c2, .slice a3 p.os.length c3, .string p.gd, .slice a4 p.ls.length c4]
/-- The program's lists, where they lie. -/
structure PgR (w : World) (a1 a2 a3 a4 : Option Addr) (p : Prg) : Prop where
  i : Rd w a1 (sts p.ins)
  v : Rd w a2 (sts p.vs)
  o : Rd w a3 (sts p.os)
  l : Ll w a4 p.ls
theorem PgR.below {w w' : World} {a1 a2 a3 a4 : Option Addr} {p : Prg} (h : PgR w a1 a2 a3 a4 p) (hb : Below w.heap.size w w') : PgR w' a1 a2 a3 a4 p := ⟨h.i.below hb, h.v.below hb, h.o.below hb, h.l.below hb⟩
def StSz (l : List ByteArray) : Prop := l.length ≤ 9223372036854775807 ∧ ∀ t ∈ l, t.size ≤ 9223372036854775807
structure PgSz (p : Prg) : Prop where
  n : p.nm.size ≤ 9223372036854775807
  i : StSz p.ins
  v : StSz p.vs
  o : StSz p.os
  g : p.gd.size ≤ 9223372036854775807
  l : p.ls.length ≤ 9223372036854775807
  r : ∀ t ∈ p.ls, LinSz t
structure PgOk (p : Prg) : Prop where
  n : p.nm.size ≤ 1048576
  i : StOk p.ins
  v : StOk p.vs
  o : StOk p.os
  g : p.gd.size ≤ 1048576
  l : LinOk p.ls
end Go.Proofs.YteengjcplmjakaaGreatDoor
