/- Results of the laws' own copies, the lengths written out. No condition but the lengths. -/
import Derived.Test.YticlpjljcedfmaaLawIsM
namespace Go.Proofs.Yticlpjljcedfmaa
open Go.RowKit

def RetI2 (n : Nat) (zs : List Int) (w : World) (e : Ending) (w' : World) : Prop :=
  ∃ A c, e = .returned (.slice A n c) ∧ w'.ownsRow w.heap.size 2 1 (.slice A n c) n (ints zs) ∧ Below w.heap.size w w'
theorem c_toInts2 (A : Option Addr) (c : Nat) (zs : List Int) (w : World) (hs : zs.length ≤ 1048576) (hr : Rd w A (ints zs)) :
    Calls Try.prog 19 #[.slice A zs.length c] w (RetI2 zs.length zs w) := c_toInt64S A c zs.length zs w rfl hs hr
def RetT2 (n : Nat) (l : List Tst) (w : World) (e : Ending) (w' : World) : Prop :=
  ∃ A c, e = .returned (.slice A n c) ∧ w'.ownsRow w.heap.size 77 3 (.slice A n c) n (tstCells l) ∧ Below w.heap.size w w'
theorem c_toTests2 (A : Option Addr) (c : Nat) (l : List Tst) (w : World) (hs : l.length ≤ 1048576) (hr : Rd w A (tstCells l)) :
    Calls Try.prog 20 #[.slice A l.length c] w (RetT2 l.length l w) := c_toTestS A c l.length l w rfl hs hr
end Go.Proofs.Yticlpjljcedfmaa
