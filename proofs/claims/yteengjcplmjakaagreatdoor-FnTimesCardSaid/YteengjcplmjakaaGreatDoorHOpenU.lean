/- How a slice of bytes reads as an argument of a law, and what the listed table gives. No condition. -/
import Derived.Test.YteengjcplmjakaaGreatDoorOpenD
import Derived.Test.YteengjcplmjakaaGreatDoorH2
import Derived.LaidMore
import Derived.MakeChecks
namespace Go.Proofs.YteengjcplmjakaaGreatDoor
open Go.ChangeShapes Go.WideShapes Go.ChangeAt Go.RowKit Go.Deep

theorem cells_uint8 : Tryz.prog.cellsOf 5 = 1 := by kernel_rfl
section
variable {H : Type} {enc : TypeId × Value → H} {W : World} {base : Nat}
set_option maxRecDepth 100000 in
theorem open_byteS {v : Value} {d : DataW H} {p : List MemPlace} (hv : Value.okWide Tryz.prog W .any base 22 v) (h : DataW.Trod enc Tryz.prog W 0 (fun _ => true) true 22 v d p) :
    ∃ A n c, v = .slice A n c ∧ n ≤ 9223372036854775807 ∧ Bytes W W.heap.size A n := by
  obtain ⟨A, n, c, rfl⟩ := okWide_slice Tryz.underlying22 hv
  obtain ⟨fuel, hf⟩ := h
  rcases open_ints Tryz.underlying22 Tryz.underlying5 cells_uint8 hf with ⟨hcs, _⟩ | ⟨a, n', c', zs, hcs, _, hl, hm, hz, _, hcell, hwz⟩
  · simp [Value.cells] at hcs
    obtain ⟨rfl, rfl, rfl⟩ := hcs
    exact ⟨_, _, _, rfl, by omega, fun j hj => by omega⟩
  · simp [Value.cells] at hcs
    obtain ⟨rfl, rfl, rfl⟩ := hcs
    unfold maxLen at hm
    simp only [if_true] at hz
    refine ⟨_, _, _, rfl, by omega, fun j hj => ?_⟩
    have hj2 : j < zs.length := by omega
    have hc := hcell j hj2
    have hw := hwz zs[j] (List.getElem_mem hj2)
    have hw2 : 0 ≤ zs[j] ∧ zs[j] < 256 := by
      have : (0 ≤ zs[j] ∧ zs[j] ≤ 255) := by simpa [Lit.wf, IntKind.min, IntKind.max, IntKind.signed, IntKind.bits] using hw
      omega
    obtain ⟨b, off, spot⟩ := a
    have hspot : spot = none := by simpa [Addr.add] using World.cell?_spot (hcell 0 (by omega))
    subst hspot
    rw [add_plain'] at hc
    refine ⟨b, off, zs[j].toNat, rfl, World.block_lt_of_cell? W _ hc, by omega, ?_⟩
    rw [hc]
    simp [hj2]
    omega
end
theorem cells_string : Tryz.prog.cellsOf 9 = 1 := by kernel_rfl
theorem cells_keys : Tryz.prog.cellsOf 195 = 17 := by kernel_rfl
theorem g_keys : Tryz.prog.globalNamed "loop.example/g00916/impl.keywords" = some 0 := by kernel_rfl
theorem g_keysType : (Tryz.prog.globals[0]?).map (·.type) = some 195 := by kernel_rfl
theorem keys_datum : (Rows.laid_loop_example_g00916_impl_keywords : DataW Unit) = .agg (kws.map fun s => .lit (.string s.data.toList)) := by rfl
/-- What the condition gives the walks: the keywords' cells hold the keywords. -/
theorem keys_of {W : World} (h : laidMetH Tryz.prog [("loop.example/g00916/impl.keywords", Rows.laid_loop_example_g00916_impl_keywords)] W) : KwR W := by
  rw [MakeChecks.laidMetH_plain _ _ _ (by kernel_rfl)] at h
  obtain ⟨ps, ⟨g0, t0, cs0, f0, p0, q0, hg0, ht0, hv0, hd0, _⟩, _, _⟩ := h
  obtain rfl := Option.some.inj (g_keys.symm.trans hg0)
  obtain rfl := Option.some.inj (g_keysType.symm.trans ht0)
  obtain ⟨xs, m1, _, hx, hlen, hn, hel⟩ := DataW.trod_array Tryz.underlying195 hd0
  rw [cells_keys] at hlen
  rw [keys_datum] at hx
  simp only [Prod.mk.injEq, DataW.agg.injEq] at hx
  obtain ⟨hx, _⟩ := hx
  refine rd_of fun k u hu => ?_
  have hk : k < 17 := by
    have := (List.getElem?_eq_some_iff.1 hu).1
    simpa [sts, kws] using this
  obtain ⟨x, hxk⟩ : ∃ x, xs[k]? = some x := ⟨_, List.getElem?_eq_getElem (by omega)⟩
  obtain ⟨t, ht⟩ : ∃ t, kws[k]? = some t := ⟨_, List.getElem?_eq_getElem (by simpa [kws] using hk)⟩
  have hu2 : u = .string t := by
    unfold sts at hu
    rw [List.getElem?_map, ht] at hu
    simpa using hu.symm
  have h1 := hel k hk
  rw [hxk, cells_string, Nat.mul_one] at h1
  obtain ⟨s, e, e2, _⟩ := DataW.trod_string Tryz.underlying9 h1
  have h3 : (kws.map fun s => (DataW.lit (.string s.data.toList) : DataW Unit))[k]? = (xs.map (·.1))[k]? := by rw [hx]
  rw [List.getElem?_map, List.getElem?_map, ht, hxk, e2] at h3
  simp only [Option.map_some, Option.some.injEq, DataW.lit.injEq, Lit.string.injEq] at h3
  have hst : s = t := by
    obtain ⟨⟨s⟩⟩ := s
    obtain ⟨⟨t⟩⟩ := t
    simp only at h3
    rw [h3]
  subst hst
  subst hu2
  show W.cell? _ = _
  have hadd : (⟨0, 0, none⟩ : Addr).add k = ⟨0, k, none⟩ := by rw [add_plain']; simp
  rw [hadd, World.var?_cell hg0 hv0 k]
  have : (cs0.toList.drop k)[0]? = some (Value.string s) := by
    have h2 : ((cs0.toList.drop k).take 1)[0]? = some (Value.string s) := by rw [e]; rfl
    rwa [List.getElem?_take, if_pos (by decide)] at h2
  rw [List.getElem?_drop] at this
  simpa using this
set_option maxRecDepth 100000 in
/-- The heap that the program's own start leaves meets the condition. -/
theorem door_met (os : Os) (args : Array Value) : laidMetH Tryz.prog [("loop.example/g00916/impl.keywords", Rows.laid_loop_example_g00916_impl_keywords)] ((World.doorLaid Tryz.prog 400 os).forCall (fun _ _ => 0) ⟨#[], args, []⟩).memory :=
  laidMetH_of_parts3 (fuel := 8) (laidMet_of_run' 8 (by kernel_rfl) (by kernel_rfl)) (by kernel_rfl) (by kernel_rfl)
end Go.Proofs.YteengjcplmjakaaGreatDoor
