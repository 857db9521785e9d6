/- EnabledRules, on both sides. Condition: the lengths are those that the laws let by. -/
import Derived.Test.YtgpmglfcdbpgkaaGreatDoorMEna
namespace Go.Proofs.YtgpmglfcdbpgkaaGreatDoor
open Go.RowKit

/-- What is handed back: a list of the call's own, and a code. -/
def RetIC (n : Nat) (zs : List Int) (c : Int) (w : World) (e : Ending) (w' : World) : Prop :=
  ∃ A cap, e = .returned (.tuple #[.slice A n cap, .int .i64 c]) ∧ w'.ownsRow w.heap.size 2 1 (.slice A n cap) n (ints zs) ∧ Below w.heap.size w w'
def erL (m : Mdl) (vs : List Int) : List Int := if mdB m && stB m.sz vs then enL vs m.rs else []
theorem retIC_nil {n : Nat} {zs : List Int} {c : Int} {w w' : World} (h : zs = []) (hn : n = zs.length) (hb : Below w.heap.size w w') : RetIC n zs c w (.returned (.tuple #[.slice none 0 0, .int .i64 c])) w' := by
  subst h
  subst hn
  exact ⟨none, 0, rfl, World.ownsRow_nil _ _ _ _, hb⟩
end Go.Proofs.YtgpmglfcdbpgkaaGreatDoor
