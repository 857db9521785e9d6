/- Contract of the forest's limited. Condition: the nodes are different and lead to earlier ones; the sizes. -/
import Derived.Test.YtndihacmlkgkbaaDgA
import Derived.Test.YtndihacmlkgkbaaDgX
namespace Go.Proofs.Ytndihacmlkgkbaa
open Go.RowKit Go.Maps Go.WideMaps

def limC (d : List Nd × Int) : Int := if 2000 < d.1.length then 3 else 0
set_option maxHeartbeats 1000000 in
set_option maxRecDepth 100000 in
theorem c_limited (bf : Nat) (X : Int) (A : Option Addr) (c n : Nat) (nodes : List Nd) (r : Nat) (w : World) (hn : n = nodes.length) (hs : n ≤ 1099511627000) (hg : Good nodes) (hnd : nodes.Nodup) (hr : r < n + 2) (e0 : w.cell? ⟨bf, 0, none⟩ = some (.int .i64 X)) (e1 : w.cell? ⟨bf, 1, none⟩ = some (.slice A n c)) (hrd : Rd w A (ndCells nodes)) :
    Calls Try.prog 62 #[.pointer (some ⟨bf, 0, none⟩), .int .i64 r] w (RetDC (resX (limC (canS nodes r)) X) (resL (limC (canS nodes r)) (canS nodes r)) (resR (limC (canS nodes r)) (canS nodes r)) (limC (canS nodes r)) w) := by
  have hal := below_alloc (Below.refl w.heap.size w) (.cells #[.int .i64 0, .slice none 0 0, .int .i64 0] 29)
  have HCA := Lib.hid (c_canonical bf X A c n nodes r (w.alloc (.cells #[.int .i64 0, .slice none 0 0, .int .i64 0] 29)) hn hs hg hnd hr (cell_later hal e0) (cell_later hal e1) (hrd.below hal))
  have HX : Hid ((w.alloc (.cells #[.int .i64 0, .slice none 0 0, .int .i64 0] 29)).ownsRow w.heap.size 29 3 (.slice (some ⟨w.heap.size, 0, none⟩) 1 1) 1 [.int .i64 0, .slice none 0 0, .int .i64 0]) := Lib.hid (own_box w w.heap.size 29 [.int .i64 0, .slice none 0 0, .int .i64 0] 3 rfl (Nat.le_refl _))
  have HB := Lib.hid hal
  have hcl := canS_len hg (r := r) (by omega)
  have hln : (canS nodes r).1.length ≤ 1099511627776 := by omega
  clear hn hg hnd hrd e0 e1 hal hcl
  generalize canS nodes r = C at *
  go_enter Try.func62, Try.ntmps62
  go_wp2_with (fail)
  refine HCA.out.mono ?_
  rintro e w1 ⟨A1, c1, rfl, ho, hb⟩
  have HX1 := Lib.hid (own_below HX.out hb)
  have HB1 := Lib.hid (below_chain HB.out hb)
  have hsz : w.heap.size < w1.heap.size := (own_ge HX1.out).2
  have hal := below_alloc (Below.refl w1.heap.size w1) (.cells #[.int .i64 X, .slice A1 C.1.length c1, .int .i64 C.2] 29)
  have HX2 := Lib.hid (own_below HX1.out hal)
  have HB2 := Lib.hid (below_chain HB1.out hal)
  have HO2 := Lib.hid (own_mono (own_below ho hal) (base' := w.heap.size) (by simp))
  have y0 : (w1.alloc (.cells #[.int .i64 X, .slice A1 C.1.length c1, .int .i64 C.2] 29)).cell? ⟨w1.heap.size, 0, none⟩ = some (.int .i64 X) := by go_simp
  have y1 : (w1.alloc (.cells #[.int .i64 X, .slice A1 C.1.length c1, .int .i64 C.2] 29)).cell? ⟨w1.heap.size, 1, none⟩ = some (.slice A1 C.1.length c1) := by go_simp
  have y2 : (w1.alloc (.cells #[.int .i64 X, .slice A1 C.1.length c1, .int .i64 C.2] 29)).cell? ⟨w1.heap.size, 2, none⟩ = some (.int .i64 C.2) := by go_simp
  have p0 := HX2.out.cellAt 0 (by decide)
  have p1 := HX2.out.cellAt 1 (by decide)
  have p2 := HX2.out.cellAt 2 (by decide)
  simp only [List.getElem?_cons_zero, List.getElem?_cons_succ] at p0 p1 p2
  have f0 := HX2.out.frozenAt 0
  have f1 := HX2.out.frozenAt 1
  have f2 := HX2.out.frozenAt 2
  clear ho hb hal HX HB HX1 HB1 HCA
  go_upto_region 2 with (fail)
  generalize w1.alloc (.cells #[.int .i64 X, .slice A1 C.1.length c1, .int .i64 C.2] 29) = W at *
  generalize w1.heap.size = g1 at *
  by_cases h2 : 2000 < C.1.length
  · have HV : Hid (limC C = 3 ∧ resX (limC C) X = 0 ∧ resL (limC C) C = [] ∧ resR (limC C) C = 0) := Lib.hid (by unfold limC resX resL resR; rw [if_pos h2]; exact ⟨rfl, rfl, rfl, rfl⟩)
    obtain ⟨WF, hWF, r0, r1, r2, r3⟩ := set3_ret HX2.out HB2.out (l := []) (own_nil _ _ _ _) 0 0
    have HF := Lib.hid (show (((W.setCell ⟨w.heap.size, 0, none⟩ (.int .i64 0)).setCell ⟨w.heap.size, 1, none⟩ (.slice none 0 0)).setCell ⟨w.heap.size, 2, none⟩ (.int .i64 0)) = WF from hWF.symm)
    have R3 := Lib.hid r3
    have h2i : (2000 : Int) < C.1.length := by omega
    clear hWF r3
    go_wp2_with (fail)
    clear p0 p1 p2 f0 f1 f2 y0 y1 y2
    rw [HF.out]
    refine bodyPost_ret (v := .tuple #[.agg #[.int .i64 0, .slice none 0 0, .int .i64 0], .int .i64 3]) (by simp [results, Try.results62, go_sem, r0, r1, r2]) rfl (by obtain ⟨v4, v1, v2, v3⟩ := HV.out; rw [v1, v2, v3, v4]; exact R3.out 3)
  · have HV : Hid (limC C = 0 ∧ resX (limC C) X = X ∧ resL (limC C) C = C.1 ∧ resR (limC C) C = C.2) := Lib.hid (by unfold limC resX resL resR; rw [if_neg h2]; exact ⟨rfl, rfl, rfl, rfl⟩)
    obtain ⟨WF, hWF, r0, r1, r2, r3⟩ := set3_ret HX2.out HB2.out HO2.out X C.2
    have HF := Lib.hid hWF.symm
    have R3 := Lib.hid r3
    have h2i : ¬ (2000 : Int) < C.1.length := by omega
    clear hWF r3
    go_wp2_with (fail)
    clear p0 p1 p2 f0 f1 f2 y0 y1 y2
    rw [HF.out]
    refine bodyPost_ret (v := .tuple #[.agg #[.int .i64 X, .slice A1 C.1.length c1, .int .i64 C.2], .int .i64 0]) (by simp [results, Try.results62, go_sem, r0, r1, r2]) rfl (by obtain ⟨v4, v1, v2, v3⟩ := HV.out; rw [v1, v2, v3, v4]; exact R3.out 0)
end Go.Proofs.Ytndihacmlkgkbaa
