/- Contracts of the laws' own sizes of rules and models. No condition but that the lengths are those of a run. -/
import Derived.Test.YtgpmglfcdbpgkaaGreatDoorMEq
namespace Go.Proofs.YtgpmglfcdbpgkaaGreatDoor
open Go.RowKit

/-- The lengths of a rule are those of a run. -/
def SzOk (r : Rul) : Prop := r.nm.size ≤ 9223372036854775807 ∧ r.gs.length ≤ 9223372036854775807 ∧ r.es.length ≤ 9223372036854775807
/-- What a size may be: -1, or what is left of left, and then P holds. -/
def Left (left : Int) (P : Prop) (w : World) (e : Ending) (w' : World) : Prop := ∃ v : Int, e = .returned (.int .i64 v) ∧ (v = -1 ∨ (0 ≤ v ∧ v ≤ left ∧ P)) ∧ Below w.heap.size w w'
theorem szI_cases {left : Int} {n : Nat} : szI left n = -1 ∧ left - n < 0 ∨ szI left n = left - n ∧ 0 ≤ left - n := by
  unfold szI; split <;> omega
/-- The lengths of a model are those of a run. -/
def MSzOk (m : Mdl) : Prop := m.sz.length ≤ 9223372036854775807 ∧ m.st.length ≤ 9223372036854775807 ∧ m.rs.length ≤ 9223372036854775807 ∧ ∀ r ∈ m.rs, SzOk r
end Go.Proofs.YtgpmglfcdbpgkaaGreatDoor
