/- Contracts of the laws' copies and comparisons of lists of integers (the seats without layouts). No condition but the lists' sizes. -/
import Derived.Test.YteengjcplmjakaaGreatDoorPush
namespace Go.Proofs.YteengjcplmjakaaGreatDoor
open Go.RowKit

theorem info_int64 : (Tryz.prog.info? 2).map (fun i => (i.zero, i.size, i.bytes)) = some (some (.int .i64 0), 1, 8) := by kernel_rfl
/-- What is handed back is a new list of the call's own that holds zs. -/
def RetInts (zs : List Int) (w : World) (e : Ending) (w' : World) : Prop :=
  ∃ A c, e = .returned (.slice A zs.length c) ∧ w'.ownsRow w.heap.size 2 1 (.slice A zs.length c) zs.length (ints zs) ∧ Below w.heap.size w w'
def szI (left : Int) (n : Nat) : Int := if left - n < 0 then -1 else left - n
end Go.Proofs.YteengjcplmjakaaGreatDoor
