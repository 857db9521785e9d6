/- Marks of strings, exactly. No condition but the sizes. -/
import Derived.Test.YteengjcplmjakaaGreatDoorMShp
import Derived.Test.YteengjcplmjakaaGreatDoorRgE
import Derived.Test.YteengjcplmjakaaGreatDoorPTo
import Derived.Laws.BytesArg
namespace Go.Proofs.YteengjcplmjakaaGreatDoor
open Go.RowKit

def mtD : Nat → Nat → ByteArray → ByteArray
  | 0, _, t => t
  | f + 1, j, t => if j = 0 then t else mtD f (j / 10) (strOfNums [48 + (j : Int) % 10] ++ t)
theorem mtD_zero (t : ByteArray) : ∀ f, mtD f 0 t = t
  | 0 => rfl
  | _ + 1 => if_pos rfl
theorem mtD_step {f j : Nat} {t : ByteArray} (h : 0 < j) : mtD (f + 1) j t = mtD f (j / 10) (strOfNums [48 + (j : Int) % 10] ++ t) := if_neg (by omega)
def mtx (k : Nat) : ByteArray := if k = 0 then ⟨#[109, 48]⟩ else ⟨#[109]⟩ ++ mtD k k ⟨#[]⟩
def mts (k n : Nat) : List ByteArray := (List.range n).map fun i => mtx (k + i)
theorem mts_length (k n : Nat) : (mts k n).length = n := by simp [mts]
theorem mts_get {k n j : Nat} (h : j < n) : (mts k n)[j]? = some (mtx (k + j)) := by simp [mts, h]
end Go.Proofs.YteengjcplmjakaaGreatDoor
