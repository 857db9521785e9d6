/- Contract of l03DrawPosition; rows of different element types. No condition. -/
import Derived.Test.YthkghpmfbdojeaaDrawL
namespace Go.Proofs.Ythkghpmfbdojeaa
open Go.RowKit

theorem own_ne {w : World} {b1 b2 : Nat} {e1 e2 : TypeId} {s1 s2 n1 n2 : Nat} {v1 v2 : Value} {x1 x2 : List Value} (h1 : w.ownsRow b1 e1 s1 v1 n1 x1) (h2 : w.ownsRow b2 e2 s2 v2 n2 x2) (he : e1 ≠ e2) : ∀ q, v1.ownBlock = some q → v2.ownBlock = some q → False := by
  intro q hq1 hq2
  rcases h1.2 with ⟨rfl, _⟩ | ⟨g1, c1, cur1, rfl, _, hg1, _⟩
  · simp [Value.ownBlock] at hq1
  · rcases h2.2 with ⟨rfl, _⟩ | ⟨g2, c2, cur2, rfl, _, hg2, _⟩
    · simp [Value.ownBlock] at hq2
    · simp [Value.ownBlock] at hq1 hq2
      subst hq1
      subst hq2
      rw [hg1] at hg2
      simp only [Option.some.injEq, Obj.cells.injEq] at hg2
      exact he hg2.2.1
end Go.Proofs.Ythkghpmfbdojeaa
