/- Contract of l03DrawSegment. Condition: the kind is small. -/
import Derived.Test.YthkghpmfbdojeaaDrawB
namespace Go.Proofs.Ythkghpmfbdojeaa
open Go.RowKit

def SomeSeg (B : Nat) (w : World) (e : Ending) (w' : World) : Prop := ∃ s : Seg, e = .returned s.val ∧ Src w' B ∧ w.grownBy w' (some B)
def set7 (w : World) (b : Nat) (s : Seg) : World := ((((((w.setCell ⟨b, 0, none⟩ (.int .i64 s.k)).setCell ⟨b, 1, none⟩ (.int .i64 s.l)).setCell ⟨b, 2, none⟩ (.int .i64 s.r)).setCell ⟨b, 3, none⟩ (.int .i64 s.a)).setCell ⟨b, 4, none⟩ (.int .i64 s.b)).setCell ⟨b, 5, none⟩ (.int .i64 s.c)).setCell ⟨b, 6, none⟩ (.int .i64 s.d)
theorem own_set7 {w : World} {base b : Nat} {s : Seg} (t : Seg) (h : w.ownsRow base 61 1 (.slice (some ⟨b, 0, none⟩) 7 7) 7 s.cells) : (set7 w b t).ownsRow base 61 1 (.slice (some ⟨b, 0, none⟩) 7 7) 7 t.cells ∧ w.grownBy (set7 w b t) (some b) := by
  have h0 := h.stored 0 (.int .i64 t.k)
  have h1 := h0.1.stored 1 (.int .i64 t.l)
  have h2 := h1.1.stored 2 (.int .i64 t.r)
  have h3 := h2.1.stored 3 (.int .i64 t.a)
  have h4 := h3.1.stored 4 (.int .i64 t.b)
  have h5 := h4.1.stored 5 (.int .i64 t.c)
  have h6 := h5.1.stored 6 (.int .i64 t.d)
  exact ⟨by simpa [set7, Seg.cells] using h6.1, grown_trans (grown_trans (grown_trans (grown_trans (grown_trans (grown_trans h0.2 h1.2) h2.2) h3.2) h4.2) h5.2) h6.2⟩
theorem some_seg {B b : Nat} {w W : World} {s t : Seg} (hB : B < b) (hb : w.heap.size ≤ b) (ho : W.ownsRow w.heap.size 61 1 (.slice (some ⟨b, 0, none⟩) 7 7) 7 s.cells) (hs : Src W B) (hg : w.grownBy W (some B)) : Src (set7 W b t) B ∧ w.grownBy (set7 W b t) (some B) := by
  obtain ⟨_, h2⟩ := own_set7 t ho
  refine ⟨hs.far h2 (by intro q hq; simp at hq; omega), ?_⟩
  unfold set7
  exact grown_set (grown_set (grown_set (grown_set (grown_set (grown_set (grown_set hg _ hb) _ hb) _ hb) _ hb) _ hb) _ hb) _ hb
set_option maxHeartbeats 1000000 in
set_option maxRecDepth 100000 in
theorem c_DrawSegment (B : Nat) (k : Int) (w : World) (h : Src w B) :
    Calls Try.prog 31 #[.pointer (some ⟨B, 0, none⟩), .int .i64 k] w (SomeSeg B w) := by
  have hor := own_seven (w := w) Seg.none
  have hBl := h.lt
  go_enter Try.func31, Try.ntmps31
  go_wp2_with (fail)
  refine (c_Next B _ _ (h.alloc _) (by omega)).mono ?_
  rintro e w1 ⟨r, rfl, hr0, hr1, hr2, hs, hg⟩
  replace hr1 := hr1 (by omega)
  have ho := own_at hor hg hBl
  have hG : w.grownBy w1 (some B) := grown_trans (grown_alloc (grown_refl w _) _) hg
  clear hr2 hg hor h
  go_wp2_with (fail)
  refine (c_DrawInterval B 0 200 _ hs (by omega) (by omega) (by omega)).mono ?_
  rintro e w2 ⟨x, y, rfl, hs2, hg⟩
  replace ho := own_at ho hg hBl
  replace hG := grown_trans hG hg
  have hsz := (own_ge ho).2
  have hox := own_seven (w := w2) ⟨k, 1000 + 500 * r, 0, x, y, 0, 0⟩
  clear hg hs
  go_wp2_with (fail)
  have hsW := hs2.alloc (.cells #[.int .i64 k, .int .i64 (1000 + 500 * r), .int .i64 0, .int .i64 x, .int .i64 y, .int .i64 0, .int .i64 0] 61)
  have hGW := grown_alloc hG (.cells #[.int .i64 k, .int .i64 (1000 + 500 * r), .int .i64 0, .int .i64 x, .int .i64 y, .int .i64 0, .int .i64 0] 61)
  have hoW := own_below ho (below_alloc (Below.refl _ _) (.cells #[.int .i64 k, .int .i64 (1000 + 500 * r), .int .i64 0, .int .i64 x, .int .i64 y, .int .i64 0, .int .i64 0] 61))
  generalize (w2.alloc (.cells #[.int .i64 k, .int .i64 (1000 + 500 * r), .int .i64 0, .int .i64 x, .int .i64 y, .int .i64 0, .int .i64 0] 61)) = W at hsW hGW hoW hox ⊢
  clear ho hG hs2
  obtain ⟨⟨v0, v1, v2, v3, v4, v5, v6⟩, _, _, hlt⟩ := seven_cells hox
  simp only at v1
  have HS := Lib.hid hsW
  have HO := Lib.hid hoW
  have HX := Lib.hid hox
  have HG := Lib.hid hGW
  clear hsW hoW hox hGW v0 v2 v3 v4 v5 v6
  go_region_held3 (fun w' => w'.cell? ⟨w2.heap.size, 1, none⟩ = some (.int .i64 (1000 + 500 * r))) (first | exact v1 | exact v13 | go_simp)
    (first
      | (go_at_call 30
         refine (c_Next B 41 _ (by exact HS.out.drew) (by omega)).mono ?_
         rintro e w3 ⟨r2, rfl, hr20, hr21, _, hs3, hg3⟩
         have HS3 := Lib.hid hs3
         have HO3 := Lib.hid (own_at (by exact HO.out.drew) hg3 hBl)
         have HX3 := Lib.hid (own_at (by exact HX.out.drew) hg3 (by omega))
         have HG3 := Lib.hid (grown_trans (by exact grown_drew HG.out) hg3)
         have v13 := (seven_cells HX3.out).1.2.1
         obtain ⟨_, ⟨f0, f1, f2, f3, f4, f5, f6⟩, _, hlt3⟩ := seven_cells HX3.out
         clear hs3 hg3))
  generalize (IntKind.i64.wrap ((IntKind.i64.wrap (IntKind.i64.wrap (r2 - 20) * (1000 + 500 * r))).tdiv 80)) = Y
  have hst := HX3.out.stored 2 (.int .i64 Y)
  have HX4 : Hid ((w3.setCell ⟨w2.heap.size, 2, none⟩ (.int .i64 Y)).ownsRow w2.heap.size 61 1 (.slice (some ⟨w2.heap.size, 0, none⟩) 7 7) 7 (Seg.cells ⟨k, 1000 + 500 * r, Y, x, y, 0, 0⟩)) := Lib.hid (by simpa [Seg.cells] using hst.1)
  have HS4 := Lib.hid (HS3.out.far hst.2 (by intro q hq; simp at hq; omega))
  have HO4 := Lib.hid (HO3.out.kept hst.2 (.inr (by simp [Value.ownBlock]; omega)))
  have HG4 := Lib.hid (grown_set HG3.out (p := ⟨w2.heap.size, 2, none⟩) (.int .i64 Y) (by show w.heap.size ≤ w2.heap.size; omega))
  have hlt4 : w2.heap.size < (w3.setCell ⟨w2.heap.size, 2, none⟩ (.int .i64 Y)).heap.size := (own_ge HX4.out).2
  clear hst HX3 HS3 HO3 HG3 v13 f0 f1 f2 f3 f4 f5 f6 hlt3
  generalize w3.setCell ⟨w2.heap.size, 2, none⟩ (.int .i64 Y) = W4 at HX4 HS4 HO4 HG4 hlt4 ⊢
  obtain ⟨⟨v0, v1, v2, v3, v4, v5, v6⟩, ⟨f0, f1, f2, f3, f4, f5, f6⟩, _, _⟩ := seven_cells HX4.out
  obtain ⟨⟨o0, o1, o2, o3, o4, o5, o6⟩, ⟨p0, p1, p2, p3, p4, p5, p6⟩, _, _⟩ := seven_cells HO4.out
  rcases Decidable.em (k = 0) with hk | hk
  · clear f0 f1 f2 f3 f4 f5 f6
    go_wp2_with (fail)
    have HF := some_seg (t := ⟨0, 1000 + 500 * r, Y, x, y, 0, 0⟩) hBl (Nat.le_refl _) HO4.out HS4.out HG4.out
    have hf := (own_set7 ⟨0, 1000 + 500 * r, Y, x, y, 0, 0⟩ HO4.out).1
    change bodyPost _ _ _ _ _ (set7 W4 w.heap.size ⟨0, 1000 + 500 * r, Y, x, y, 0, 0⟩)
    generalize set7 W4 w.heap.size ⟨0, 1000 + 500 * r, Y, x, y, 0, 0⟩ = WF at hf HF ⊢
    obtain ⟨⟨r0, r1, r2, r3, r4, r5, r6⟩, _, _, _⟩ := seven_cells hf
    clear HX4 HS4 HO4 HG4 HG HX HO HS v0 v1 v2 v3 v4 v5 v6 o0 o1 o2 o3 o4 o5 o6 p0 p1 p2 p3 p4 p5 p6
    refine bodyPost_ret (v := Seg.val ⟨0, 1000 + 500 * r, Y, x, y, 0, 0⟩) (by simp [Seg.val, results, Try.results31, go_sem, r0, r1, r2, r3, r4, r5, r6]) rfl ⟨_, rfl, HF.1, HF.2⟩
  · go_wp2_with (fail)
    refine (c_DrawInterval B 1500 9000 _ HS4.out (by omega) (by omega) (by omega)).mono ?_
    rintro e w5 ⟨p, q, rfl, hs5, hg⟩
    have HX5 := Lib.hid (own_at HX4.out hg (by omega))
    have HO5 := Lib.hid (own_at HO4.out hg hBl)
    have HG5 := Lib.hid (grown_trans HG4.out hg)
    have HS5 := Lib.hid hs5
    clear v0 v1 v2 v3 v4 v5 v6 f0 f1 f2 f3 f4 f5 f6 o0 o1 o2 o3 o4 o5 o6 p0 p1 p2 p3 p4 p5 p6 hg hs5
    obtain ⟨⟨v0, v1, v2, v3, v4, v5, v6⟩, ⟨f0, f1, f2, f3, f4, f5, f6⟩, _, hlt5⟩ := seven_cells HX5.out
    obtain ⟨⟨o0, o1, o2, o3, o4, o5, o6⟩, ⟨p0, p1, p2, p3, p4, p5, p6⟩, _, _⟩ := seven_cells HO5.out
    go_wp2_with (fail)
    generalize wrap64 (Y.tdiv 8) = Z
    have h1 := HX5.out.stored 5 (.int .i64 p)
    have h2 := h1.1.stored 6 (.int .i64 q)
    have h3 := h2.1.stored 2 (.int .i64 Z)
    have hg6 := grown_trans (grown_trans h1.2 h2.2) h3.2
    have HS6 := HS5.out.far hg6 (by intro q hq; simp at hq; omega)
    have HO6 := HO5.out.kept hg6 (.inr (by simp [Value.ownBlock]; omega))
    have HG6 := grown_set (grown_set (grown_set HG5.out (p := ⟨w2.heap.size, 5, none⟩) (.int .i64 p) (by show w.heap.size ≤ w2.heap.size; omega)) (p := ⟨w2.heap.size, 6, none⟩) (.int .i64 q) (by show w.heap.size ≤ w2.heap.size; omega)) (p := ⟨w2.heap.size, 2, none⟩) (.int .i64 Z) (by show w.heap.size ≤ w2.heap.size; omega)
    clear h1 h2 h3 hg6 HX5 HO5 HS5 HG5
    generalize ((w5.setCell ⟨w2.heap.size, 5, none⟩ (.int .i64 p)).setCell ⟨w2.heap.size, 6, none⟩ (.int .i64 q)).setCell ⟨w2.heap.size, 2, none⟩ (.int .i64 Z) = W6 at HS6 HO6 HG6 ⊢
    have HF := some_seg (t := ⟨k, 1000 + 500 * r, Z, x, y, p, q⟩) hBl (Nat.le_refl _) HO6 HS6 HG6
    have hf := (own_set7 ⟨k, 1000 + 500 * r, Z, x, y, p, q⟩ HO6).1
    change bodyPost _ _ _ _ _ (set7 W6 w.heap.size ⟨k, 1000 + 500 * r, Z, x, y, p, q⟩)
    generalize set7 W6 w.heap.size ⟨k, 1000 + 500 * r, Z, x, y, p, q⟩ = WF at hf HF ⊢
    obtain ⟨⟨r0, r1, r2, r3, r4, r5, r6⟩, _, _, _⟩ := seven_cells hf
    clear HX4 HS4 HO4 HG4 HG HX HO HS v0 v1 v2 v3 v4 v5 v6 o0 o1 o2 o3 o4 o5 o6 p0 p1 p2 p3 p4 p5 p6
    refine bodyPost_ret (v := Seg.val ⟨k, 1000 + 500 * r, Z, x, y, p, q⟩) (by simp [Seg.val, results, Try.results31, go_sem, r0, r1, r2, r3, r4, r5, r6]) rfl ⟨_, rfl, HF.1, HF.2⟩
end Go.Proofs.Ythkghpmfbdojeaa
