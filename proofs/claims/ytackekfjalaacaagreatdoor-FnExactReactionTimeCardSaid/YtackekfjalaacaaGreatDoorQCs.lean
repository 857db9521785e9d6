/- The reference's compiler: l17Name. Condition: the lengths. -/
import Derived.Test.YtackekfjalaacaaGreatDoorQPl
namespace Go.Proofs.YtackekfjalaacaaGreatDoor
open Go.RowKit

/-- The box of an instruction that is handed back. -/
def XR (w : World) (b : Nat) : Prop := w.cell? ⟨b, 0, none⟩ = some (.int .i64 0) ∧ w.cell? ⟨b, 1, none⟩ = some (.int .i64 0) ∧ w.frozen? ⟨b, 0, none⟩ = false ∧ w.frozen? ⟨b, 1, none⟩ = false
theorem XR.below {w w' : World} {b : Nat} (h : XR w b) (hb : Below w.heap.size w w') : XR w' b :=
  ⟨cell_later hb h.1, cell_later hb h.2.1, frozen_later hb (World.block_lt_of_cell? _ _ h.1) h.2.2.1, frozen_later hb (World.block_lt_of_cell? _ _ h.2.1) h.2.2.2⟩
theorem nmI_in {p : Prg} {s : ByteArray} {a b : Int} (h : 0 ≤ ixS p.ins s) : nmI p s a b = ⟨a, ixS p.ins s⟩ := if_pos h
theorem nmI_va {p : Prg} {s : ByteArray} {a b : Int} (h : ¬ 0 ≤ ixS p.ins s) : nmI p s a b = ⟨b, ixS p.vs s⟩ := if_neg h
set_option maxHeartbeats 1000000 in
set_option maxRecDepth 100000 in
theorem c_l17Name (p : Prg) (a1 a2 a3 a4 : Option Addr) (c1 c2 c3 c4 : Nat) (s : ByteArray) (a b : Int) (w : World) (hs : PgOk p) (h : PgR w a1 a2 a3 a4 p) :
    Calls Tryz.prog 73 #[pv p a1 a2 a3 a4 c1 c2 c3 c4, .string s, .int .i64 a, .int .i64 b] w fun e w' => e = .returned (.agg #[.int .i64 (nmI p s a b).o, .int .i64 (nmI p s a b).a]) ∧ Below w.heap.size w w' := by
  have H := Lib.hid h
  have HI := Lib.hid (fun w h => c_l14Index a1 c1 _ p.ins s w rfl hs.i.1 h)
  have HJ := Lib.hid (fun w h => c_l14Index a2 c2 _ p.vs s w rfl hs.v.1 h)
  have HV : Hid (0 ≤ ixS p.ins s ∧ nmI p s a b = ⟨a, ixS p.ins s⟩ ∨ ixS p.ins s < 0 ∧ nmI p s a b = ⟨b, ixS p.vs s⟩) := Lib.hid (by
    by_cases h0 : 0 ≤ ixS p.ins s
    · exact .inl ⟨h0, nmI_in h0⟩
    · exact .inr ⟨by omega, nmI_va h0⟩)
  generalize nmI p s a b = R at *
  generalize ixS p.ins s = z at *
  generalize ixS p.vs s = z2 at *
  have B0 := Lib.hid (below_alloc (below_alloc (Below.refl w.heap.size w) (.cells #[.string p.nm, .slice a1 p.ins.length c1, .slice a2 p.vs.length c2, .slice a3 p.os.length c3, .string p.gd, .slice a4 p.ls.length c4] 31)) (.cells #[.int .i64 0, .int .i64 0] 107))
  have HP : Hid (PB ((w.alloc (.cells #[.string p.nm, .slice a1 p.ins.length c1, .slice a2 p.vs.length c2, .slice a3 p.os.length c3, .string p.gd, .slice a4 p.ls.length c4] 31)).alloc (.cells #[.int .i64 0, .int .i64 0] 107)) w.heap.size p a1 a2 a3 a4 c1 c2 c3 c4) := Lib.hid ⟨by go_simp, by go_simp, by go_simp, by go_simp, by go_simp, by go_simp⟩
  have HX : Hid (XR ((w.alloc (.cells #[.string p.nm, .slice a1 p.ins.length c1, .slice a2 p.vs.length c2, .slice a3 p.os.length c3, .string p.gd, .slice a4 p.ls.length c4] 31)).alloc (.cells #[.int .i64 0, .int .i64 0] 107)) (w.heap.size + 1)) := Lib.hid ⟨by go_simp, by go_simp, by go_simp, by go_simp⟩
  clear hs h
  go_enter Tryz.func73, Tryz.ntmps73
  dsimp only [pv]
  go_upto_region 1 with (fail)
  generalize (w.alloc (.cells #[.string p.nm, .slice a1 p.ins.length c1, .slice a2 p.vs.length c2, .slice a3 p.os.length c3, .string p.gd, .slice a4 p.ls.length c4] 31)).alloc (.cells #[.int .i64 0, .int .i64 0] 107) = W at *
  obtain ⟨k0, k1, k2, k3, k4, k5⟩ := HP.out
  go_wp2_with (fail)
  refine (HI.out _ (H.out.i.below B0.out)).mono ?_
  rintro e w1 ⟨rfl, hb⟩
  have B1 := Lib.hid (below_chain B0.out hb)
  have HX1 := Lib.hid (HX.out.below hb)
  replace k2 := cell_later hb k2
  clear hb k0 k1 k3 k4 k5 HP HX
  rcases HV.out with ⟨h0, rfl⟩ | ⟨h0, rfl⟩
  · obtain ⟨x0, x1, f0, f1⟩ := HX1.out
    have hz := World.block_lt_of_cell? _ _ x0
    clear HV
    go_wp2_with (fail)
    refine bodyPost_ret (v := .agg #[.int .i64 a, .int .i64 z]) (by simp [results, Tryz.results73, go_sem, x0, x1]) rfl ⟨rfl, below_set (below_set B1.out _ (by simp)) _ (by simp)⟩
  · clear HV
    go_wp2_with (fail)
    refine (HJ.out _ (H.out.v.below B1.out)).mono ?_
    rintro e w2 ⟨rfl, hb⟩
    have B2 := Lib.hid (below_chain B1.out hb)
    have HX2 := Lib.hid (HX1.out.below hb)
    obtain ⟨x0, x1, f0, f1⟩ := HX2.out
    have hz := World.block_lt_of_cell? _ _ x0
    clear hb k2
    go_wp2_with (fail)
    refine bodyPost_ret (v := .agg #[.int .i64 b, .int .i64 z2]) (by simp [results, Tryz.results73, go_sem, x0, x1]) rfl ⟨rfl, below_set (below_set B2.out _ (by simp)) _ (by simp)⟩
end Go.Proofs.YtackekfjalaacaaGreatDoor
