/- Steps: fits, takes, gives, times, on the reference's side. Condition: the code's head is in range. (Turned from CHs by qtexts.py.) -/
import Derived.Test.YtackekfjalaacaaGreatDoorPBm
namespace Go.Proofs.YtackekfjalaacaaGreatDoor
open Go.RowKit

def blkB (t : Tm) : Bool := trmT t.k t.nm t.n && decide (7 ≤ t.k)
def tm0 : Tm := ⟨0, ⟨#[]⟩, 0⟩
def kindA (c : Cd) (a : Int) : Int := (c.bs.getD a.toNat tm0).k
def manyI (c : Cd) (o : Int) : Int := if o = 1 then 2 else if o = 2 ∨ o = 10 then c.i else if o = 3 ∨ o = 8 ∨ o = 11 then c.v else if o = 4 ∨ o = 5 ∨ o = 6 then 1 else if o = 7 then c.bs.length else if o = 9 then c.o else 0
def fitB (c : Cd) (x : Ins) : Bool := decide (0 ≤ x.a ∧ x.a < manyI c x.o)
def takI (c : Cd) (x : Ins) : Int := if x.o = 4 ∨ x.o = 8 ∨ x.o = 9 then 1 else if x.o = 5 ∨ x.o = 6 then 2 else if x.o = 7 then argI (kindA c x.a) else 0
def givI (x : Ins) : Int := if x.o = 1 ∨ x.o = 2 ∨ x.o = 3 ∨ x.o = 4 ∨ x.o = 5 ∨ x.o = 6 ∨ x.o = 7 then 1 else 0
def tabI (k : Int) : Int := if k = 7 then 6 else if k = 8 then 6 else if k = 9 then 4 else if k = 10 then 5 else if k = 11 then 8 else 9
def timI (c : Cd) (x : Ins) : Int := if x.o = 1 ∨ x.o = 4 then 1 else if x.o = 8 ∨ x.o = 9 then 3 else if x.o = 7 then tabI (kindA c x.a) else if x.o = 10 ∨ x.o = 11 then 2 + c.o else 2
/-- The code in its box. -/
def CB (w : World) (b : Nat) (c : Cd) (ab as_ : Option Addr) (cb cs : Nat) : Prop := w.cell? ⟨b, 0, none⟩ = some (.int .i64 c.i) ∧ w.cell? ⟨b, 1, none⟩ = some (.int .i64 c.v) ∧ w.cell? ⟨b, 2, none⟩ = some (.int .i64 c.o) ∧ w.cell? ⟨b, 3, none⟩ = some (.slice ab c.bs.length cb) ∧ w.cell? ⟨b, 4, none⟩ = some (.slice as_ c.ss.length cs)
theorem CB.below {w w' : World} {b : Nat} {c : Cd} {ab as_ : Option Addr} {cb cs : Nat} (h : CB w b c ab as_ cb cs) (hb : Below w.heap.size w w') : CB w' b c ab as_ cb cs :=
  ⟨cell_later hb h.1, cell_later hb h.2.1, cell_later hb h.2.2.1, cell_later hb h.2.2.2.1, cell_later hb h.2.2.2.2⟩
/-- The head of a code. -/
structure Hd (c : Cd) : Prop where
  i0 : 0 ≤ c.i
  i1 : c.i ≤ 20
  v0 : 0 ≤ c.v
  v1 : c.v ≤ 20
  o0 : 0 ≤ c.o
  o1 : c.o ≤ 20
  b : c.bs.length ≤ 2000
  s : c.ss.length ≤ 2000
theorem tm_at {c : Cd} {a : Int} (h0 : 0 ≤ a) (h1 : a < c.bs.length) : ∃ t, c.bs[a.toNat]? = some t ∧ kindA c a = t.k := by
  obtain ⟨t, ht⟩ : ∃ t, c.bs[a.toNat]? = some t := ⟨_, List.getElem?_eq_getElem (by omega)⟩
  refine ⟨t, ht, ?_⟩
  unfold kindA
  rw [List.getD_eq_getElem?_getD, ht]
  rfl

def Ret2 (x y : Int) (w : World) (e : Ending) (w' : World) : Prop := e = .returned (.tuple #[.int .i64 x, .int .i64 y]) ∧ Below w.heap.size w w'
end Go.Proofs.YtackekfjalaacaaGreatDoor
