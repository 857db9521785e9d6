/- Helpers for the laws over models: a copied model. No condition. -/
import Derived.Test.YtgpmglfcdbpgkaaGreatDoorMIsS
namespace Go.Proofs.YtgpmglfcdbpgkaaGreatDoor
open Go.RowKit

/-- What is let by of a model whose size was reckoned. -/
theorem mok_of {m : Mdl} (h1 : MSzOk m) (h2 : MdlOk m) : MOk m := ⟨h2, fun r hr => (h1.2.2.2 r hr).1⟩
/-- RetMdl, the lengths written out. -/
def RetM2 (m : Mdl) (sn tn rn : Nat) (w : World) (e : Ending) (w' : World) : Prop :=
  ∃ az ax ar cz cs cr, ∃ ds : List RuD, e = .returned (.agg #[.slice az sn cz, .slice ax tn cs, .slice ar rn cr]) ∧ MOwn w' w.heap.size az ax ar cz cs cr m ds ∧ Below w.heap.size w w'
end Go.Proofs.YtgpmglfcdbpgkaaGreatDoor
