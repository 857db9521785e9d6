/- Contracts of the laws' own copies, sizes and comparisons: lists of integers, segments, layouts. No condition but the lists' sizes. -/
import Derived.Test.YthkghpmfbdojeaaHoldsW
namespace Go.Proofs.Ythkghpmfbdojeaa
open Go.RowKit

theorem info_int64 : (Try.prog.info? 2).map (fun i => (i.zero, i.size, i.bytes)) = some (some (.int .i64 0), 1, 8) := by kernel_rfl
theorem info_iSegment : (Try.prog.info? 61).map (fun i => (i.zero, i.size, i.bytes)) = some (some (.agg #[.int .i64 0, .int .i64 0, .int .i64 0, .int .i64 0, .int .i64 0, .int .i64 0, .int .i64 0]), 7, 56) := by kernel_rfl

/-- What is handed back is a new list of the call's own that holds zs. -/
def RetInts (zs : List Int) (w : World) (e : Ending) (w' : World) : Prop :=
  ∃ A c, e = .returned (.slice A zs.length c) ∧ w'.ownsRow w.heap.size 2 1 (.slice A zs.length c) zs.length (ints zs) ∧ Below w.heap.size w w'
/-- What is handed back is a new list of the call's own that holds the segments l. -/
def RetSegs (l : List Seg) (w : World) (e : Ending) (w' : World) : Prop :=
  ∃ A c, e = .returned (.slice A l.length c) ∧ w'.ownsRow w.heap.size 61 7 (.slice A l.length c) l.length (segCells l) ∧ Below w.heap.size w w'
/-- What is handed back is a new layout of the call's own with the segments l. -/
def RetLay (l : List Seg) (w : World) (e : Ending) (w' : World) : Prop :=
  ∃ A c, e = .returned (.agg #[.slice A l.length c]) ∧ w'.ownsRow w.heap.size 61 7 (.slice A l.length c) l.length (segCells l) ∧ Below w.heap.size w w'
def szI (left : Int) (n : Nat) : Int := if left - n < 0 then -1 else left - n
end Go.Proofs.Ythkghpmfbdojeaa
