/- How a slice of bytes reads as an argument of a law. No condition. -/
import Derived.Test.YtndihacmlkgkbaaOpenD
import Derived.Test.YtndihacmlkgkbaaGdS
namespace Go.Proofs.Ytndihacmlkgkbaa
open Go.ChangeShapes Go.WideShapes Go.ChangeAt Go.RowKit Go.Deep

theorem cells_uint8 : Try.prog.cellsOf 5 = 1 := by kernel_rfl
section
variable {H : Type} {enc : TypeId × Value → H} {W : World} {base : Nat}
set_option maxRecDepth 100000 in
theorem open_byteS {v : Value} {d : DataW H} {p : List MemPlace} (hv : Value.okWide Try.prog W .any base 50 v) (h : DataW.Trod enc Try.prog W 0 (fun _ => true) true 50 v d p) :
    ∃ A n c, v = .slice A n c ∧ n ≤ 9223372036854775807 ∧ Bytes W W.heap.size A n := by
  obtain ⟨A, n, c, rfl⟩ := okWide_slice Try.underlying50 hv
  obtain ⟨fuel, hf⟩ := h
  rcases open_ints Try.underlying50 Try.underlying5 cells_uint8 hf with ⟨hcs, _⟩ | ⟨a, n', c', zs, hcs, _, hl, hm, hz, _, hcell, hwz⟩
  · simp [Value.cells] at hcs
    obtain ⟨rfl, rfl, rfl⟩ := hcs
    exact ⟨_, _, _, rfl, by omega, fun j hj => by omega⟩
  · simp [Value.cells] at hcs
    obtain ⟨rfl, rfl, rfl⟩ := hcs
    unfold maxLen at hm
    simp only [if_true] at hz
    refine ⟨_, _, _, rfl, by omega, fun j hj => ?_⟩
    have hj2 : j < zs.length := by omega
    have hc := hcell j hj2
    have hw := hwz zs[j] (List.getElem_mem hj2)
    have hw2 : 0 ≤ zs[j] ∧ zs[j] < 256 := by
      have : (0 ≤ zs[j] ∧ zs[j] ≤ 255) := by simpa [Lit.wf, IntKind.min, IntKind.max, IntKind.signed, IntKind.bits] using hw
      omega
    obtain ⟨b, off, spot⟩ := a
    have hspot : spot = none := by simpa [Addr.add] using World.cell?_spot (hcell 0 (by omega))
    subst hspot
    rw [add_plain'] at hc
    refine ⟨b, off, zs[j].toNat, rfl, World.block_lt_of_cell? W _ hc, by omega, ?_⟩
    rw [hc]
    simp [hj2]
    omega
end
end Go.Proofs.Ytndihacmlkgkbaa
