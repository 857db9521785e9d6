/- Contracts of the laws' own sizes of terms and codes. No condition but that the lengths are those of a run. -/
import Derived.Test.YteengjcplmjakaaGreatDoorRowT
namespace Go.Proofs.YteengjcplmjakaaGreatDoor
open Go.RowKit

/-- What a size may be: -1, or what is left of left, and then P holds. -/
def Left (left : Int) (P : Prop) (w : World) (e : Ending) (w' : World) : Prop := ∃ v : Int, e = .returned (.int .i64 v) ∧ (v = -1 ∨ (0 ≤ v ∧ v ≤ left ∧ P)) ∧ Below w.heap.size w w'
theorem szI_cases {left : Int} {n : Nat} : szI left n = -1 ∧ left - n < 0 ∨ szI left n = left - n ∧ 0 ≤ left - n := by
  unfold szI; split <;> omega
/-- The names' lengths. -/
def TmOk (l : List Tm) : Prop := l.length ≤ 1048576 ∧ ∀ t ∈ l, t.nm.size ≤ 1048576
/-- A code. -/
structure Cd where
  i : Int
  v : Int
  o : Int
  bs : List Tm
  ss : List Ins
def CdOk (c : Cd) : Prop := TmOk c.bs ∧ c.ss.length ≤ 1048576
def CdSz (c : Cd) : Prop := c.bs.length ≤ 9223372036854775807 ∧ c.ss.length ≤ 9223372036854775807 ∧ ∀ t ∈ c.bs, t.nm.size ≤ 9223372036854775807
def cv (c : Cd) (ab as_ : Option Addr) (cb cs : Nat) : Value := .agg #[.int .i64 c.i, .int .i64 c.v, .int .i64 c.o, .slice ab c.bs.length cb, .slice as_ c.ss.length cs]
/-- The code's lists, where they lie. -/
structure CdR (w : World) (ab as_ : Option Addr) (c : Cd) : Prop where
  b : Rd w ab (tmCells c.bs)
  s : Rd w as_ (insCells c.ss)
theorem CdR.below {w w' : World} {ab as_ : Option Addr} {c : Cd} (h : CdR w ab as_ c) (hb : Below w.heap.size w w') : CdR w' ab as_ c := ⟨h.b.below hb, h.s.below hb⟩
end Go.Proofs.YteengjcplmjakaaGreatDoor
