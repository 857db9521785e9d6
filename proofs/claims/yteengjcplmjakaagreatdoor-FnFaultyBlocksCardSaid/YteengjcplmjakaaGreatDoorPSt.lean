/- Contracts of the laws' own copies, sizes and comparisons of lists of strings. No condition but the lists' sizes. -/
import Derived.Test.YteengjcplmjakaaGreatDoorCSz
import Derived.Test.YteengjcplmjakaaGreatDoorRgH
namespace Go.Proofs.YteengjcplmjakaaGreatDoor
open Go.RowKit

/-- A list of strings, as cells. -/
def sts (l : List ByteArray) : List Value := l.map .string
theorem sts_length (l : List ByteArray) : (sts l).length = l.length := by simp [sts]
theorem sts_at {l : List ByteArray} {k : Nat} {s : ByteArray} (h : l[k]? = some s) : (sts l)[k]? = some (.string s) := by simp [sts, h]
theorem Rd.st {w : World} {A : Option Addr} {l : List ByteArray} {k : Nat} {s : ByteArray} (h : Rd w A (sts l)) (hk : l[k]? = some s) : ∃ b off, A = some ⟨b, off, none⟩ ∧ b < w.heap.size ∧ w.cell? ⟨b, off + k, none⟩ = some (.string s) := by
  have u0 := sts_at hk
  obtain ⟨b, off, rfl, hb, hc⟩ := h.some_ (by intro e; rw [e] at u0; simp at u0)
  exact ⟨b, off, rfl, hb, hc _ _ u0⟩
theorem info_string : (Tryz.prog.info? 9).map (fun i => (i.zero, i.size, i.bytes)) = some (some (.string ⟨#[]⟩), 1, 16) := by kernel_rfl
/-- What is handed back is a new list of the call's own that holds l. -/
def RetSts (l : List ByteArray) (w : World) (e : Ending) (w' : World) : Prop :=
  ∃ A c, e = .returned (.slice A l.length c) ∧ w'.ownsRow w.heap.size 9 1 (.slice A l.length c) l.length (sts l) ∧ Below w.heap.size w w'
/-- The strings' lengths. -/
def StOk (l : List ByteArray) : Prop := l.length ≤ 1048576 ∧ ∀ s ∈ l, s.size ≤ 1048576
end Go.Proofs.YteengjcplmjakaaGreatDoor
