/- Contracts of the energy that segments need (program and reference). Condition: the segments are valid, at most 24. -/
import Derived.Test.YthhedpdldjmfpaaChg2
namespace Go.Proofs.Ythhedpdldjmfpaa
open Go.RowKit

def sC (g : Seg → Int) (l : List Seg) : Nat → Int
  | 0 => 0
  | j + 1 => sC g l j + g (l.getD j Seg.none)
def mxN (l : List Seg) : Nat → Int
  | 0 => 0
  | j + 1 => max (mxN l j) (-(sC cLo l (j + 1)))
def mxP (l : List Seg) : Nat → Int
  | 0 => 0
  | j + 1 => max (mxP l j) (sC cHi l (j + 1))
theorem sC_succ {g : Seg → Int} {l : List Seg} {j : Nat} {s : Seg} (h : l[j]? = some s) : sC g l (j + 1) = sC g l j + g s := by
  rw [sC, List.getD_eq_getElem?_getD, h]
  rfl
theorem ok_at {l : List Seg} {j : Nat} {s : Seg} (h : l.all segOk = true) (hz : l[j]? = some s) : segOk s = true := List.all_eq_true.1 h _ (List.mem_of_getElem? hz)
theorem sC_bd {g : Seg → Int} {l : List Seg} (h : l.all segOk = true) (hg : ∀ s, SegBd s → -10000000000 ≤ g s ∧ g s ≤ 2000000000) : ∀ {j : Nat}, j ≤ l.length → -10000000000 * (j : Int) ≤ sC g l j ∧ sC g l j ≤ 2000000000 * (j : Int)
  | 0, _ => by simp [sC]
  | j + 1, hj => by
    have hz : l[j]? = some l[j] := List.getElem?_eq_getElem (by omega)
    have h1 := sC_bd h hg (j := j) (by omega)
    have h2 := hg _ (segBd (ok_at h hz))
    rw [sC_succ hz]
    omega
theorem mxN_bd {l : List Seg} (h : l.all segOk = true) : ∀ {j : Nat}, j ≤ l.length → 0 ≤ mxN l j ∧ mxN l j ≤ 10000000000 * (j : Int)
  | 0, _ => by simp [mxN]
  | j + 1, hj => by
    have h1 := mxN_bd h (j := j) (by omega)
    have h2 := sC_bd h (fun s => cLo_bd) (j := j + 1) hj
    rw [mxN]
    omega
theorem mxP_bd {l : List Seg} (h : l.all segOk = true) : ∀ {j : Nat}, j ≤ l.length → 0 ≤ mxP l j ∧ mxP l j ≤ 2000000000 * (j : Int)
  | 0, _ => by simp [mxP]
  | j + 1, hj => by
    have h1 := mxP_bd h (j := j) (by omega)
    have h2 := sC_bd h (fun s => cHi_bd) (j := j + 1) hj
    rw [mxP]
    omega
theorem own_two {w : World} (x y : Int) : (w.alloc (.cells #[.int .i64 x, .int .i64 y] 27)).ownsRow w.heap.size 27 1 (.slice (some ⟨w.heap.size, 0, none⟩) 2 2) 2 [.int .i64 x, .int .i64 y] := by
  have h := World.ownsRow_lit (e := 27) (size := 1) (base := w.heap.size) w #[.int .i64 x, .int .i64 y] 2 (by simp) (by decide) (by simp)
  simpa using h
theorem two_cells {w : World} {base b : Nat} {x y : Int} (h : w.ownsRow base 27 1 (.slice (some ⟨b, 0, none⟩) 2 2) 2 [.int .i64 x, .int .i64 y]) : w.cell? ⟨b, 0, none⟩ = some (.int .i64 x) ∧ w.cell? ⟨b, 1, none⟩ = some (.int .i64 y) ∧ w.frozen? ⟨b, 0, none⟩ = false ∧ w.frozen? ⟨b, 1, none⟩ = false ∧ base ≤ b ∧ b < w.heap.size := by
  have h0 := h.cellAt 0 (by decide)
  have h1 := h.cellAt 1 (by decide)
  exact ⟨h0, h1, h.frozenAt 0, h.frozenAt 1, own_ge h⟩
set_option maxHeartbeats 4000000 in
set_option maxRecDepth 100000 in
theorem c_needed (A : Option Addr) (c n : Nat) (l : List Seg) (w : World) (hn : n ≤ l.length) (hs : l.length ≤ 24) (hr : Rd w A (segCells l)) (hok : l.all segOk = true) :
    Calls Try.prog 147 #[.slice A n c] w fun e w' => e = .returned (.tuple #[.int .i64 (mxN l n), .int .i64 (mxP l n), .int .i64 (sC cHi l n)]) ∧ Below w.heap.size w w' := by
  have HOK := Lib.hid hok
  clear hok
  have hown := own_two (w := w) 0 0
  go_enter Try.func147, Try.ntmps147
  go_wp2
  go_loopw [6, 7, 12] (fun p q i wr => ∃ j : Nat, j ≤ n ∧ i = .int .i64 j ∧ p = .int .i64 (mxN l j) ∧ q = .int .i64 (mxP l j) ∧ wr.ownsRow w.heap.size 27 1 (.slice (some ⟨w.heap.size, 0, none⟩) 2 2) 2 [.int .i64 (sC cLo l j), .int .i64 (sC cHi l j)] ∧ Below w.heap.size w wr) (fun _ _ i _ => n - (intOf i).toNat)
  case atStart => exact ⟨0, Nat.zero_le _, rfl, rfl, rfl, hown, by (repeat (first | exact Below.refl _ _ | assumption | refine below_alloc ?_ _ | refine below_drewN ?_ _ | refine below_set ?_ _ (by simp; try omega) | refine Below.drew ?_))⟩
  case round =>
    obtain ⟨j, hj, rfl, rfl, rfl, ho, hb⟩ := hrel
    clear hown
    have hbl := sC_bd HOK.out (fun s => cLo_bd) (j := j) (by omega)
    have hbh := sC_bd HOK.out (fun s => cHi_bd) (j := j) (by omega)
    have hbn := mxN_bd HOK.out (j := j) (by omega)
    have hbp := mxP_bd HOK.out (j := j) (by omega)
    obtain ⟨v0, v1, v2, v3, v4, v5⟩ := two_cells ho
    by_cases hlt : j < n
    · obtain ⟨s, hz⟩ : ∃ z, l[j]? = some z := ⟨_, List.getElem?_eq_getElem (by omega)⟩
      have HSG := Lib.hid (ok_at HOK.out hz)
      have hcl := cLo_bd (segBd HSG.out)
      have hch := cHi_bd (segBd HSG.out)
      have HL := Lib.hid (sC_succ (g := cLo) hz)
      have HH := Lib.hid (sC_succ (g := cHi) hz)
      obtain ⟨b, off, rfl, hbb, g0, g1, g2, g3, g4, g5, g6⟩ := (hr.below hb).seg hz
      have hiv1 : IvB (sC cLo l j) (sC cHi l j) := ⟨by omega, by omega, by omega, by omega⟩
      have hiv2 : IvB (cLo s) (cHi s) := ⟨by omega, by omega, by omega, by omega⟩
      have HI1 := Lib.hid hiv1
      have HI2 := Lib.hid hiv2
      have HC := c_change s
      unfold Seg.val at HC
      obtain ⟨W, hW⟩ : ∃ W, W = wr.alloc (.cells #[.int .i64 s.k, .int .i64 s.l, .int .i64 s.r, .int .i64 s.a, .int .i64 s.b, .int .i64 s.c, .int .i64 s.d] 29) := ⟨_, rfl⟩
      have x0 : W.cell? ⟨wr.heap.size, 0, none⟩ = some (.int .i64 s.k) := by rw [hW]; go_simp
      have x1 : W.cell? ⟨wr.heap.size, 1, none⟩ = some (.int .i64 s.l) := by rw [hW]; go_simp
      have x2 : W.cell? ⟨wr.heap.size, 2, none⟩ = some (.int .i64 s.r) := by rw [hW]; go_simp
      have x3 : W.cell? ⟨wr.heap.size, 3, none⟩ = some (.int .i64 s.a) := by rw [hW]; go_simp
      have x4 : W.cell? ⟨wr.heap.size, 4, none⟩ = some (.int .i64 s.b) := by rw [hW]; go_simp
      have x5 : W.cell? ⟨wr.heap.size, 5, none⟩ = some (.int .i64 s.c) := by rw [hW]; go_simp
      have x6 : W.cell? ⟨wr.heap.size, 6, none⟩ = some (.int .i64 s.d) := by rw [hW]; go_simp
      have HO := Lib.hid (show W.ownsRow w.heap.size 27 1 (.slice (some ⟨w.heap.size, 0, none⟩) 2 2) 2 [.int .i64 (sC cLo l j), .int .i64 (sC cHi l j)] by rw [hW]; exact own_below ho (below_alloc (Below.refl _ _) _))
      have HB := Lib.hid (show Below w.heap.size w W by rw [hW]; exact below_alloc hb _)
      have HWW := Lib.hid hW
      clear hz ho hb hr hiv1 hiv2 hW
      go_wp2
      rw [← HWW.out]
      clear g0 g1 g2 g3 g4 g5 g6 v0 v1 v2 v3
      obtain ⟨v0, v1, v2, v3, _, _⟩ := two_cells HO.out
      clear HWW
      go_region_with (first
        | (go_at_call 120
           refine (HC _ HSG.out).mono ?_
           rintro e w2 ⟨rfl, hb2⟩
           have HB2 := Lib.hid (below_chain (by exact HB.out.drew) hb2)
           have HO2 := Lib.hid (own_below (by exact HO.out) hb2)
           have y0 : w2.cell? ⟨w.heap.size, 0, none⟩ = _ := cell_later hb2 (by exact v0)
           have y1 : w2.cell? ⟨w.heap.size, 1, none⟩ = _ := cell_later hb2 (by exact v1)
           clear hb2)
        | (go_at_call 119
           refine (c_plus _ _ _ _ _ HI1.out HI2.out).mono ?_
           rintro e w3 ⟨rfl, hb3⟩
           have HB3 := Lib.hid (below_chain HB2.out hb3)
           have ho3 := own_below HO2.out hb3
           have HST := Lib.hid ((ho3.stored 0 (.int .i64 (sC cLo l j + cLo s))).1.stored 1 (.int .i64 (sC cHi l j + cHi s))).1
           obtain ⟨z0, z1, z2, z3, z4, z5⟩ := two_cells ho3
           clear hb3 ho3))
      all_goals
        have ho4 := HST.out
        have hsz4 := HB3.out.size
        have HB4 := Lib.hid (below_set (below_set HB3.out (p := ⟨w.heap.size, 0, none⟩) (.int .i64 (sC cLo l j + cLo s)) (Nat.le_refl _)) (p := ⟨w.heap.size, 1, none⟩) (.int .i64 (sC cHi l j + cHi s)) (Nat.le_refl _))
        generalize (w3.setCell ⟨w.heap.size, 0, none⟩ (.int .i64 (sC cLo l j + cLo s))).setCell ⟨w.heap.size, 1, none⟩ (.int .i64 (sC cHi l j + cHi s)) = W4 at ho4 HB4 HST ⊢
        simp only [List.set_cons_zero, List.set_cons_succ] at ho4
        have HO4 := Lib.hid ho4
        clear HST
        obtain ⟨t0, t1, t2, t3, t4, t5⟩ := two_cells ho4
        clear ho4 x0 x1 x2 x3 x4 x5 x6 v0 v1 v2 v3 y0 y1 z0 z1 z2 z3 HC
        go_wp2
        go_roundw
        case rel =>
          refine ⟨j + 1, by omega, by go_num, ?_, ?_, by rw [HL.out, HH.out]; exact HO4.out, HB4.out⟩
          · rw [mxN, HL.out]; congr 1; split <;> omega
          · rw [mxP, HH.out]; congr 1; split <;> omega
        case measure => simp [intOf]; omega
    · obtain rfl : j = n := by omega
      have HB := Lib.hid hb
      clear ho hb hr
      go_wp2
      refine wp_region_quiet_lit (by kernel_rfl) (by kernel_rfl) ?_
      (repeat (any_goals (first | go_big_quiet_step (fail) | quiet_step (fail) | (refine wpQuiet_step (fun K hK => ?_); go_simp; split <;> (refine hK _ ?_; clear hK K)))))
      all_goals (refine wpQuiet_nil ?_; intro _ hw'; obtain ⟨nq, hw''⟩ := hw'; subst hw'')
      go_wp2
      go_ret3
      exact ⟨rfl, below_drewN HB.out _⟩
end Go.Proofs.Ythhedpdldjmfpaa
