/- Faults of programs on the reference's side (printed by PFs.py). Condition: the lengths. -/
import Derived.Test.YteengjcplmjakaaGreatDoorPFt
namespace Go.Proofs.YteengjcplmjakaaGreatDoor
open Go.RowKit

set_option maxHeartbeats 1000000 in
set_option maxRecDepth 100000 in
theorem c_l14All (p : Prg) (a1 a2 a3 a4 : Option Addr) (c1 c2 c3 c4 : Nat) (w : World) (hs : PgOk p) (hz : PgZ a1 a2 a3 c1 c2 c3) (h : PgR w a1 a2 a3 a4 p) :
    Calls Tryz.prog 144 #[pv p a1 a2 a3 a4 c1 c2 c3 c4] w (RetSts (p.ins ++ p.vs ++ p.os) w) := by
  obtain ⟨nm, ins, vs, os, gd, ls⟩ := p
  have HZ := Lib.hid hz
  have H := Lib.hid h
  have si := hs.i.1
  have sv := hs.v.1
  have so := hs.o.1
  dsimp only at si sv so
  have B0 := Lib.hid (below_alloc (Below.refl w.heap.size w) (.cells #[.string nm, .slice a1 ins.length c1, .slice a2 vs.length c2, .slice a3 os.length c3, .string gd, .slice a4 ls.length c4] 27))
  clear hs hz h
  dsimp only [pv]
  have k0 : (w.alloc (.cells #[.string nm, .slice a1 ins.length c1, .slice a2 vs.length c2, .slice a3 os.length c3, .string gd, .slice a4 ls.length c4] 27)).cell? ⟨w.heap.size, 0, none⟩ = some (.string nm) := by go_simp
  have k1 : (w.alloc (.cells #[.string nm, .slice a1 ins.length c1, .slice a2 vs.length c2, .slice a3 os.length c3, .string gd, .slice a4 ls.length c4] 27)).cell? ⟨w.heap.size, 1, none⟩ = some (.slice a1 ins.length c1) := by go_simp
  have k2 : (w.alloc (.cells #[.string nm, .slice a1 ins.length c1, .slice a2 vs.length c2, .slice a3 os.length c3, .string gd, .slice a4 ls.length c4] 27)).cell? ⟨w.heap.size, 2, none⟩ = some (.slice a2 vs.length c2) := by go_simp
  have k3 : (w.alloc (.cells #[.string nm, .slice a1 ins.length c1, .slice a2 vs.length c2, .slice a3 os.length c3, .string gd, .slice a4 ls.length c4] 27)).cell? ⟨w.heap.size, 3, none⟩ = some (.slice a3 os.length c3) := by go_simp
  have k4 : (w.alloc (.cells #[.string nm, .slice a1 ins.length c1, .slice a2 vs.length c2, .slice a3 os.length c3, .string gd, .slice a4 ls.length c4] 27)).cell? ⟨w.heap.size, 4, none⟩ = some (.string gd) := by go_simp
  have k5 : (w.alloc (.cells #[.string nm, .slice a1 ins.length c1, .slice a2 vs.length c2, .slice a3 os.length c3, .string gd, .slice a4 ls.length c4] 27)).cell? ⟨w.heap.size, 5, none⟩ = some (.slice a4 ls.length c4) := by go_simp
  have K0 := Lib.hid k0
  have K1 := Lib.hid k1
  have K2 := Lib.hid k2
  have K3 := Lib.hid k3
  have K4 := Lib.hid k4
  have K5 := Lib.hid k5
  clear k0 k1 k2 k3 k4 k5
  go_enter Tryz.func144, Tryz.ntmps144
  go_upto_region 1 with (fail)
  generalize hW : w.alloc (.cells #[.string nm, .slice a1 ins.length c1, .slice a2 vs.length c2, .slice a3 os.length c3, .string gd, .slice a4 ls.length c4] 27) = W at *
  have hWs : W.heap.size = w.heap.size + 1 := by rw [← hW]; simp
  have HWS := Lib.hid hWs
  clear hW hWs
  have HBE := Lib.hid (below_alloc (Below.refl W.heap.size W) (.cells #[] 9))
  have HO0 : Hid ((W.alloc (.cells #[] 9)).ownsRow W.heap.size 9 1 (.slice (some ⟨W.heap.size, 0, none⟩) 0 0) 0 (sts [])) := Lib.hid (by
    have h := World.ownsRow_lit (e := 9) (size := 1) (base := W.heap.size) W #[] 0 (by simp) (by decide) (by simp)
    simpa [sts] using h)
  have k1 := K1.out
  have hlt1 := World.block_lt_of_cell? _ _ k1
  dsimp only at hlt1
  go_wp2_with (first
    | (at_builtin
       refine app_strs _ rfl (.tmp 4) (.tmp 6) rfl W.heap.size _ 0 [] rfl HO0.out a1 _ c1 ins rfl rfl ((H.out.i.below B0.out).below HBE.out) HZ.out.1 (by omega) HBE.out.size ?_
       intro v1 w1 hown hgrow
       have HB1 := Lib.hid (below_of_grown HBE.out hgrow (fun q hq => (HO0.out.lt q hq).1))
       have HO1 := Lib.hid hown
       have k2 := cell_later HB1.out K2.out
       clear hown hgrow k1)
    | (at_builtin
       refine app_strs _ rfl (.tmp 8) (.tmp 10) rfl W.heap.size _ _ ([] ++ ins) rfl HO1.out a2 _ c2 vs rfl rfl ((H.out.v.below B0.out).below HB1.out) HZ.out.2.1 (by omega) HB1.out.size ?_
       intro v2 w2 hown hgrow
       have HB2 := Lib.hid (below_of_grown HB1.out hgrow (fun q hq => (HO1.out.lt q hq).1))
       have HO2 := Lib.hid hown
       have k3 := cell_later HB2.out K3.out
       clear hown hgrow k2)
    | (at_builtin
       refine app_strs _ rfl (.tmp 12) (.tmp 14) rfl W.heap.size _ _ ([] ++ ins ++ vs) rfl HO2.out a3 _ c3 os rfl rfl ((H.out.o.below B0.out).below HB2.out) HZ.out.2.2 (by omega) HB2.out.size ?_
       intro v3 w3 hown hgrow
       have HB3 := Lib.hid (below_of_grown HB2.out hgrow (fun q hq => (HO2.out.lt q hq).1))
       have HO3 := Lib.hid hown
       clear hown hgrow k3)
    )
  obtain ⟨A9, c9, rfl⟩ := own_shape HO3.out
  have hl : 0 + ins.length + vs.length + os.length = (ins ++ vs ++ os).length := by simp only [List.length_append]; omega
  have hO := own_mono HO3.out (base' := w.heap.size) (by have := HWS.out; omega)
  rw [List.nil_append, hl] at hO
  have HO4 := Lib.hid hO
  rw [hl]
  clear hO
  go_ret
  exact ⟨A9, c9, rfl, HO4.out, below_chain B0.out HB3.out⟩
set_option maxHeartbeats 1000000 in
set_option maxRecDepth 100000 in
theorem c_l14Readable (p : Prg) (a1 a2 a3 a4 : Option Addr) (c1 c2 c3 c4 : Nat) (s : ByteArray) (w : World) (hs : PgOk p) (h : PgR w a1 a2 a3 a4 p) :
    Calls Tryz.prog 145 #[pv p a1 a2 a3 a4 c1 c2 c3 c4, .string s] w fun e w' => e = .returned (.bool (memS p.ins s || memS p.vs s)) ∧ Below w.heap.size w w' := by
  obtain ⟨nm, ins, vs, os, gd, ls⟩ := p
  have H := Lib.hid h
  have HI := Lib.hid (fun w h => c_l14Index a1 c1 _ ins s w rfl hs.i.1 h)
  have HJ := Lib.hid (fun w h => c_l14Index a2 c2 _ vs s w rfl hs.v.1 h)
  have HNI := Lib.hid (ixS_nn s ins)
  have HNJ := Lib.hid (ixS_nn s vs)
  have B0 := Lib.hid (below_alloc (Below.refl w.heap.size w) (.cells #[.string nm, .slice a1 ins.length c1, .slice a2 vs.length c2, .slice a3 os.length c3, .string gd, .slice a4 ls.length c4] 27))
  clear hs h
  dsimp only [pv] at *
  generalize memS ins s = q1 at *
  generalize memS vs s = q2 at *
  generalize ixS ins s = z1 at *
  generalize ixS vs s = z2 at *
  have k0 : (w.alloc (.cells #[.string nm, .slice a1 ins.length c1, .slice a2 vs.length c2, .slice a3 os.length c3, .string gd, .slice a4 ls.length c4] 27)).cell? ⟨w.heap.size, 0, none⟩ = some (.string nm) := by go_simp
  have k1 : (w.alloc (.cells #[.string nm, .slice a1 ins.length c1, .slice a2 vs.length c2, .slice a3 os.length c3, .string gd, .slice a4 ls.length c4] 27)).cell? ⟨w.heap.size, 1, none⟩ = some (.slice a1 ins.length c1) := by go_simp
  have k2 : (w.alloc (.cells #[.string nm, .slice a1 ins.length c1, .slice a2 vs.length c2, .slice a3 os.length c3, .string gd, .slice a4 ls.length c4] 27)).cell? ⟨w.heap.size, 2, none⟩ = some (.slice a2 vs.length c2) := by go_simp
  have k3 : (w.alloc (.cells #[.string nm, .slice a1 ins.length c1, .slice a2 vs.length c2, .slice a3 os.length c3, .string gd, .slice a4 ls.length c4] 27)).cell? ⟨w.heap.size, 3, none⟩ = some (.slice a3 os.length c3) := by go_simp
  have k4 : (w.alloc (.cells #[.string nm, .slice a1 ins.length c1, .slice a2 vs.length c2, .slice a3 os.length c3, .string gd, .slice a4 ls.length c4] 27)).cell? ⟨w.heap.size, 4, none⟩ = some (.string gd) := by go_simp
  have k5 : (w.alloc (.cells #[.string nm, .slice a1 ins.length c1, .slice a2 vs.length c2, .slice a3 os.length c3, .string gd, .slice a4 ls.length c4] 27)).cell? ⟨w.heap.size, 5, none⟩ = some (.slice a4 ls.length c4) := by go_simp
  go_enter Tryz.func145, Tryz.ntmps145
  go_upto_region 1 with (fail)
  generalize w.alloc (.cells #[.string nm, .slice a1 ins.length c1, .slice a2 vs.length c2, .slice a3 os.length c3, .string gd, .slice a4 ls.length c4] 27) = W at *
  go_wp2_with (fail)
  refine (HI.out _ (H.out.i.below B0.out)).mono ?_
  rintro e w1 ⟨rfl, hb⟩
  have B1 := Lib.hid (below_chain B0.out hb)
  replace k2 := cell_later hb k2
  clear hb k0 k1 k3 k4 k5
  cases q1
  · have hz1 : ¬ (0 : Int) ≤ z1 := of_decide_eq_false HNI.out
    go_wp2_with (fail)
    refine (HJ.out _ (H.out.v.below B1.out)).mono ?_
    rintro e w2 ⟨rfl, hb⟩
    have B2 := Lib.hid (below_chain B1.out hb)
    clear hb
    go_wp2_with (fail)
    go_ret
    exact ⟨ret_bool (by rw [HNI.out, HNJ.out]), B2.out⟩
  · have hz1 : (0 : Int) ≤ z1 := of_decide_eq_true HNI.out
    go_wp2_with (fail)
    go_ret
    exact ⟨rfl, B1.out⟩
end Go.Proofs.YteengjcplmjakaaGreatDoor
