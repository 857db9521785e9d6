/- Contract of l03DrawAny. No condition. -/
import Derived.Test.YthkghpmfbdojeaaDrawS
namespace Go.Proofs.Ythkghpmfbdojeaa
open Go.RowKit

/-- The box of a segment at bx, the box of the result at br. -/
structure Two (B bx br : Nat) (w W : World) : Prop where
  x : ∃ s : Seg, W.ownsRow bx 61 1 (.slice (some ⟨bx, 0, none⟩) 7 7) 7 s.cells
  r : ∃ s : Seg, W.ownsRow br 61 1 (.slice (some ⟨br, 0, none⟩) 7 7) 7 s.cells
  src : Src W B
  g : w.grownBy W (some B)
  h1 : B < br
  h2 : br < bx
  h3 : w.heap.size ≤ br
section
variable {B bx br : Nat} {w W : World}
theorem Two.step (h : Two B bx br w W) {W' : World} (hs : Src W' B) (hg : W.grownBy W' (some B)) : Two B bx br w W' := by
  have h1 := h.h1
  have h2 := h.h2
  obtain ⟨s, hx⟩ := h.x
  obtain ⟨t, hr⟩ := h.r
  exact ⟨⟨s, own_at hx hg (by omega)⟩, ⟨t, own_at hr hg h1⟩, hs, grown_trans h.g hg, h1, h2, h.h3⟩
theorem Two.below (h : Two B bx br w W) {W' : World} (hb : Below W.heap.size W W') : Two B bx br w W' := h.step (h.src.below hb) (grown_of_below hb _)
theorem Two.alloc (h : Two B bx br w W) (o : Obj) : Two B bx br w (W.alloc o) := h.below (below_alloc (Below.refl _ _) o)
theorem Two.drew (h : Two B bx br w W) : Two B bx br w W.drew := h.below (Below.refl _ _).drew
theorem Two.store (h : Two B bx br w W) {i : Nat} (hi : i < 7) (z : Int) : Two B bx br w (W.setCell ⟨bx, i, none⟩ (.int .i64 z)) := by
  have h1 := h.h1
  have h2 := h.h2
  have h3 := h.h3
  obtain ⟨s, hx⟩ := h.x
  obtain ⟨t, hr⟩ := h.r
  have hst := hx.stored i (.int .i64 z)
  refine ⟨?_, ⟨t, hr.kept hst.2 (.inr (by simp [Value.ownBlock]; omega))⟩, h.src.far hst.2 (by intro q hq; simp at hq; omega), grown_set h.g _ (by show w.heap.size ≤ bx; omega), h1, h2, h3⟩
  match i, hi with
  | 0, _ => exact ⟨{ s with k := z }, by simpa [Seg.cells] using hst.1⟩
  | 1, _ => exact ⟨{ s with l := z }, by simpa [Seg.cells] using hst.1⟩
  | 2, _ => exact ⟨{ s with r := z }, by simpa [Seg.cells] using hst.1⟩
  | 3, _ => exact ⟨{ s with a := z }, by simpa [Seg.cells] using hst.1⟩
  | 4, _ => exact ⟨{ s with b := z }, by simpa [Seg.cells] using hst.1⟩
  | 5, _ => exact ⟨{ s with c := z }, by simpa [Seg.cells] using hst.1⟩
  | 6, _ => exact ⟨{ s with d := z }, by simpa [Seg.cells] using hst.1⟩
theorem Two.fin (h : Two B bx br w W) (t : Seg) : (set7 W br t).ownsRow br 61 1 (.slice (some ⟨br, 0, none⟩) 7 7) 7 t.cells ∧ Src (set7 W br t) B ∧ w.grownBy (set7 W br t) (some B) := by
  have h1 := h.h1
  obtain ⟨u, hr⟩ := h.r
  obtain ⟨a, b⟩ := own_set7 t hr
  have hb := h.h3
  refine ⟨a, h.src.far b (by intro q hq; simp at hq; omega), ?_⟩
  unfold set7
  exact grown_set (grown_set (grown_set (grown_set (grown_set (grown_set (grown_set h.g _ hb) _ hb) _ hb) _ hb) _ hb) _ hb) _ hb
end
theorem rd_lit2 (w : World) (z0 z1 : Int) : Rd (w.alloc (.cells #[.int .i64 z0, .int .i64 z1] 2)) (some ⟨w.heap.size, 0, none⟩) (ints [z0, z1]) := by
  have h := World.ownsRow_lit (e := 2) (size := 1) (base := w.heap.size) w #[.int .i64 z0, .int .i64 z1] 2 (by simp) (by decide) (by simp)
  have h2 := Rd.own h
  simpa [ints] using h2
theorem rd_lit3 (w : World) (z0 z1 z2 : Int) : Rd (w.alloc (.cells #[.int .i64 z0, .int .i64 z1, .int .i64 z2] 2)) (some ⟨w.heap.size, 0, none⟩) (ints [z0, z1, z2]) := by
  have h := World.ownsRow_lit (e := 2) (size := 1) (base := w.heap.size) w #[.int .i64 z0, .int .i64 z1, .int .i64 z2] 3 (by simp) (by decide) (by simp)
  have h2 := Rd.own h
  simpa [ints] using h2
theorem rd_lit4 (w : World) (z0 z1 z2 z3 : Int) : Rd (w.alloc (.cells #[.int .i64 z0, .int .i64 z1, .int .i64 z2, .int .i64 z3] 2)) (some ⟨w.heap.size, 0, none⟩) (ints [z0, z1, z2, z3]) := by
  have h := World.ownsRow_lit (e := 2) (size := 1) (base := w.heap.size) w #[.int .i64 z0, .int .i64 z1, .int .i64 z2, .int .i64 z3] 4 (by simp) (by decide) (by simp)
  have h2 := Rd.own h
  simpa [ints] using h2
theorem rd_lit5 (w : World) (z0 z1 z2 z3 z4 : Int) : Rd (w.alloc (.cells #[.int .i64 z0, .int .i64 z1, .int .i64 z2, .int .i64 z3, .int .i64 z4] 2)) (some ⟨w.heap.size, 0, none⟩) (ints [z0, z1, z2, z3, z4]) := by
  have h := World.ownsRow_lit (e := 2) (size := 1) (base := w.heap.size) w #[.int .i64 z0, .int .i64 z1, .int .i64 z2, .int .i64 z3, .int .i64 z4] 5 (by simp) (by decide) (by simp)
  have h2 := Rd.own h
  simpa [ints] using h2
theorem rd_lit7 (w : World) (z0 z1 z2 z3 z4 z5 z6 : Int) : Rd (w.alloc (.cells #[.int .i64 z0, .int .i64 z1, .int .i64 z2, .int .i64 z3, .int .i64 z4, .int .i64 z5, .int .i64 z6] 2)) (some ⟨w.heap.size, 0, none⟩) (ints [z0, z1, z2, z3, z4, z5, z6]) := by
  have h := World.ownsRow_lit (e := 2) (size := 1) (base := w.heap.size) w #[.int .i64 z0, .int .i64 z1, .int .i64 z2, .int .i64 z3, .int .i64 z4, .int .i64 z5, .int .i64 z6] 7 (by simp) (by decide) (by simp)
  have h2 := Rd.own h
  simpa [ints] using h2
set_option maxHeartbeats 2000000 in
set_option maxRecDepth 100000 in
theorem c_DrawAny (B : Nat) (w : World) (h : Src w B) :
    Calls Try.prog 56 #[.pointer (some ⟨B, 0, none⟩)] w (SomeSeg B w) := by
  have hor := own_seven (w := w) Seg.none
  have hBl := h.lt
  go_enter Try.func56, Try.ntmps56
  go_wp2_with (fail)
  refine (c_Next B _ _ (h.alloc _) (by omega)).mono ?_
  rintro e w1 ⟨r, rfl, hr0, hr1, _, hs, hg⟩
  have ho := own_at hor hg hBl
  have hG : w.grownBy w1 (some B) := grown_trans (grown_alloc (grown_refl w _) _) hg
  clear hg hor h
  go_wp2_with (fail)
  refine (c_DrawSegment B r _ hs).mono ?_
  rintro e w2 ⟨s, rfl, hs2, hg⟩
  replace ho := own_at ho hg hBl
  replace hG := grown_trans hG hg
  have hlt := (own_ge ho).2
  have HT := Lib.hid (show Two B w2.heap.size w.heap.size w (w2.alloc (.cells #[.int .i64 s.k, .int .i64 s.l, .int .i64 s.r, .int .i64 s.a, .int .i64 s.b, .int .i64 s.c, .int .i64 s.d] 61)) from
    ⟨⟨s, own_seven s⟩, ⟨_, own_below ho (below_alloc (Below.refl _ _) _)⟩, hs2.alloc _, grown_alloc hG _, hBl, hlt, Nat.le_refl _⟩)
  clear hg hs hs2 ho hG
  unfold Seg.val
  go_wp2_with (fail)
  generalize (w2.alloc (.cells #[.int .i64 s.k, .int .i64 s.l, .int .i64 s.r, .int .i64 s.a, .int .i64 s.b, .int .i64 s.c, .int .i64 s.d] 61)) = W2 at HT ⊢
  refine (c_Next B 40 _ HT.out.src (by omega)).mono ?_
  rintro e w3 ⟨v, rfl, hv0, hv1, _, hs3, hg3⟩
  have HT3 := Lib.hid (HT.out.step hs3 hg3)
  clear hs3 hg3 HT
  obtain ⟨t, hx⟩ := HT3.out.x
  obtain ⟨u, hrr⟩ := HT3.out.r
  obtain ⟨⟨v0, v1, v2, v3, v4, v5, v6⟩, ⟨f0, f1, f2, f3, f4, f5, f6⟩, _, hltx⟩ := seven_cells hx
  obtain ⟨⟨o0, o1, o2, o3, o4, o5, o6⟩, ⟨p0, p1, p2, p3, p4, p5, p6⟩, _, hltr⟩ := seven_cells hrr
  clear hx hrr
  rcases (show v = 0 ∨ v = 1 ∨ v = 2 ∨ v = 3 ∨ v = 4 ∨ 5 ≤ v by omega) with rfl | rfl | rfl | rfl | rfl | hv
  · skip
    go_wp2_with (fail)
    refine (c_Pick B _ _ 4 [_, _, _, _] _ (HT3.out.src.alloc _) (by omega) rfl (by decide) (by decide) (rd_lit4 _ _ _ _ _)).mono ?_
    rintro e w4 ⟨z, rfl, hs4, hg4⟩
    have HT4 := Lib.hid ((HT3.out.alloc _).step hs4 hg4)
    clear hs4 hg4
    clear v0 v1 v2 v3 v4 v5 v6 f0 f1 f2 f3 f4 f5 f6 o0 o1 o2 o3 o4 o5 o6 p0 p1 p2 p3 p4 p5 p6
    obtain ⟨t, hx⟩ := HT4.out.x
    obtain ⟨u, hrr⟩ := HT4.out.r
    obtain ⟨⟨v0, v1, v2, v3, v4, v5, v6⟩, ⟨f0, f1, f2, f3, f4, f5, f6⟩, _, hltx⟩ := seven_cells hx
    obtain ⟨⟨o0, o1, o2, o3, o4, o5, o6⟩, ⟨p0, p1, p2, p3, p4, p5, p6⟩, _, hltr⟩ := seven_cells hrr
    clear hx hrr
    go_wp2_with (fail)
    have hfin := ((HT4.out).store (i := 0) (by decide) z).fin ⟨z, t.l, t.r, t.a, t.b, t.c, t.d⟩
    change bodyPost _ _ _ _ _ (set7 ((w4).setCell ⟨w2.heap.size, 0, none⟩ (.int .i64 z)) w.heap.size ⟨z, t.l, t.r, t.a, t.b, t.c, t.d⟩)
    generalize set7 ((w4).setCell ⟨w2.heap.size, 0, none⟩ (.int .i64 z)) w.heap.size ⟨z, t.l, t.r, t.a, t.b, t.c, t.d⟩ = WF at hfin ⊢
    obtain ⟨hf, hs9, hg9⟩ := hfin
    obtain ⟨⟨r0, r1, r2, r3, r4, r5, r6⟩, _, _, _⟩ := seven_cells hf
    clear v0 v1 v2 v3 v4 v5 v6 f0 f1 f2 f3 f4 f5 f6 o0 o1 o2 o3 o4 o5 o6 p0 p1 p2 p3 p4 p5 p6
    refine bodyPost_ret (v := Seg.val ⟨z, t.l, t.r, t.a, t.b, t.c, t.d⟩) (by simp [Seg.val, results, Try.results56, go_sem, r0, r1, r2, r3, r4, r5, r6]) rfl ⟨_, rfl, hs9, hg9⟩
  · skip
    go_wp2_with (fail)
    refine (c_Pick B _ _ 4 [_, _, _, _] _ (HT3.out.src.alloc _) (by omega) rfl (by decide) (by decide) (rd_lit4 _ _ _ _ _)).mono ?_
    rintro e w4 ⟨z, rfl, hs4, hg4⟩
    have HT4 := Lib.hid ((HT3.out.alloc _).step hs4 hg4)
    clear hs4 hg4
    clear v0 v1 v2 v3 v4 v5 v6 f0 f1 f2 f3 f4 f5 f6 o0 o1 o2 o3 o4 o5 o6 p0 p1 p2 p3 p4 p5 p6
    obtain ⟨t, hx⟩ := HT4.out.x
    obtain ⟨u, hrr⟩ := HT4.out.r
    obtain ⟨⟨v0, v1, v2, v3, v4, v5, v6⟩, ⟨f0, f1, f2, f3, f4, f5, f6⟩, _, hltx⟩ := seven_cells hx
    obtain ⟨⟨o0, o1, o2, o3, o4, o5, o6⟩, ⟨p0, p1, p2, p3, p4, p5, p6⟩, _, hltr⟩ := seven_cells hrr
    clear hx hrr
    go_wp2_with (fail)
    have hfin := ((HT4.out).store (i := 1) (by decide) z).fin ⟨t.k, z, t.r, t.a, t.b, t.c, t.d⟩
    change bodyPost _ _ _ _ _ (set7 ((w4).setCell ⟨w2.heap.size, 1, none⟩ (.int .i64 z)) w.heap.size ⟨t.k, z, t.r, t.a, t.b, t.c, t.d⟩)
    generalize set7 ((w4).setCell ⟨w2.heap.size, 1, none⟩ (.int .i64 z)) w.heap.size ⟨t.k, z, t.r, t.a, t.b, t.c, t.d⟩ = WF at hfin ⊢
    obtain ⟨hf, hs9, hg9⟩ := hfin
    obtain ⟨⟨r0, r1, r2, r3, r4, r5, r6⟩, _, _, _⟩ := seven_cells hf
    clear v0 v1 v2 v3 v4 v5 v6 f0 f1 f2 f3 f4 f5 f6 o0 o1 o2 o3 o4 o5 o6 p0 p1 p2 p3 p4 p5 p6
    refine bodyPost_ret (v := Seg.val ⟨t.k, z, t.r, t.a, t.b, t.c, t.d⟩) (by simp [Seg.val, results, Try.results56, go_sem, r0, r1, r2, r3, r4, r5, r6]) rfl ⟨_, rfl, hs9, hg9⟩
  · skip
    go_wp2_with (fail)
    refine (c_Pick B _ _ 5 [_, _, _, _, _] _ (HT3.out.src.alloc _) (by omega) rfl (by decide) (by decide) (rd_lit5 _ _ _ _ _ _)).mono ?_
    rintro e w4 ⟨z, rfl, hs4, hg4⟩
    have HT4 := Lib.hid ((HT3.out.alloc _).step hs4 hg4)
    clear hs4 hg4
    clear v0 v1 v2 v3 v4 v5 v6 f0 f1 f2 f3 f4 f5 f6 o0 o1 o2 o3 o4 o5 o6 p0 p1 p2 p3 p4 p5 p6
    obtain ⟨t, hx⟩ := HT4.out.x
    obtain ⟨u, hrr⟩ := HT4.out.r
    obtain ⟨⟨v0, v1, v2, v3, v4, v5, v6⟩, ⟨f0, f1, f2, f3, f4, f5, f6⟩, _, hltx⟩ := seven_cells hx
    obtain ⟨⟨o0, o1, o2, o3, o4, o5, o6⟩, ⟨p0, p1, p2, p3, p4, p5, p6⟩, _, hltr⟩ := seven_cells hrr
    clear hx hrr
    go_wp2_with (fail)
    have hfin := ((HT4.out).store (i := 2) (by decide) z).fin ⟨t.k, t.l, z, t.a, t.b, t.c, t.d⟩
    change bodyPost _ _ _ _ _ (set7 ((w4).setCell ⟨w2.heap.size, 2, none⟩ (.int .i64 z)) w.heap.size ⟨t.k, t.l, z, t.a, t.b, t.c, t.d⟩)
    generalize set7 ((w4).setCell ⟨w2.heap.size, 2, none⟩ (.int .i64 z)) w.heap.size ⟨t.k, t.l, z, t.a, t.b, t.c, t.d⟩ = WF at hfin ⊢
    obtain ⟨hf, hs9, hg9⟩ := hfin
    obtain ⟨⟨r0, r1, r2, r3, r4, r5, r6⟩, _, _, _⟩ := seven_cells hf
    clear v0 v1 v2 v3 v4 v5 v6 f0 f1 f2 f3 f4 f5 f6 o0 o1 o2 o3 o4 o5 o6 p0 p1 p2 p3 p4 p5 p6
    refine bodyPost_ret (v := Seg.val ⟨t.k, t.l, z, t.a, t.b, t.c, t.d⟩) (by simp [Seg.val, results, Try.results56, go_sem, r0, r1, r2, r3, r4, r5, r6]) rfl ⟨_, rfl, hs9, hg9⟩
  · skip
    go_wp2_with (fail)
    refine (c_Pick B _ _ 3 [_, _, _] _ (HT3.out.src.alloc _) (by omega) rfl (by decide) (by decide) (rd_lit3 _ _ _ _)).mono ?_
    rintro e w4 ⟨y, rfl, hs4, hg4⟩
    have HT4 := Lib.hid ((HT3.out.alloc _).step hs4 hg4)
    clear hs4 hg4
    clear v0 v1 v2 v3 v4 v5 v6 f0 f1 f2 f3 f4 f5 f6 o0 o1 o2 o3 o4 o5 o6 p0 p1 p2 p3 p4 p5 p6
    have hl4 := HT4.out.src.lt
    go_wp2_with (fail)
    refine (c_Pick B _ _ 3 [_, _, _] _ (HT4.out.src.alloc _) (by omega) rfl (by decide) (by decide) (rd_lit3 _ _ _ _)).mono ?_
    rintro e w5 ⟨z, rfl, hs4, hg4⟩
    have HT5 := Lib.hid ((HT4.out.alloc _).step hs4 hg4)
    clear hs4 hg4
    obtain ⟨t, hx⟩ := HT5.out.x
    obtain ⟨u, hrr⟩ := HT5.out.r
    obtain ⟨⟨v0, v1, v2, v3, v4, v5, v6⟩, ⟨f0, f1, f2, f3, f4, f5, f6⟩, _, hltx⟩ := seven_cells hx
    obtain ⟨⟨o0, o1, o2, o3, o4, o5, o6⟩, ⟨p0, p1, p2, p3, p4, p5, p6⟩, _, hltr⟩ := seven_cells hrr
    clear hx hrr
    go_wp2_with (fail)
    have hfin := (((HT5.out).store (i := 3) (by decide) y).store (i := 4) (by decide) z).fin ⟨t.k, t.l, t.r, y, z, t.c, t.d⟩
    change bodyPost _ _ _ _ _ (set7 (((w5).setCell ⟨w2.heap.size, 3, none⟩ (.int .i64 y)).setCell ⟨w2.heap.size, 4, none⟩ (.int .i64 z)) w.heap.size ⟨t.k, t.l, t.r, y, z, t.c, t.d⟩)
    generalize set7 (((w5).setCell ⟨w2.heap.size, 3, none⟩ (.int .i64 y)).setCell ⟨w2.heap.size, 4, none⟩ (.int .i64 z)) w.heap.size ⟨t.k, t.l, t.r, y, z, t.c, t.d⟩ = WF at hfin ⊢
    obtain ⟨hf, hs9, hg9⟩ := hfin
    obtain ⟨⟨r0, r1, r2, r3, r4, r5, r6⟩, _, _, _⟩ := seven_cells hf
    clear v0 v1 v2 v3 v4 v5 v6 f0 f1 f2 f3 f4 f5 f6 o0 o1 o2 o3 o4 o5 o6 p0 p1 p2 p3 p4 p5 p6
    refine bodyPost_ret (v := Seg.val ⟨t.k, t.l, t.r, y, z, t.c, t.d⟩) (by simp [Seg.val, results, Try.results56, go_sem, r0, r1, r2, r3, r4, r5, r6]) rfl ⟨_, rfl, hs9, hg9⟩
  · skip
    go_wp2_with (fail)
    refine (c_Next B 2 _ HT3.out.src (by omega)).mono ?_
    rintro e w4 ⟨y, rfl, _, _, _, hs4, hg4⟩
    have HT4 := Lib.hid (HT3.out.step hs4 hg4)
    clear hs4 hg4
    clear v0 v1 v2 v3 v4 v5 v6 f0 f1 f2 f3 f4 f5 f6 o0 o1 o2 o3 o4 o5 o6 p0 p1 p2 p3 p4 p5 p6
    have hltx := (own_ge HT4.out.x.choose_spec).2
    go_wp2_with (fail)
    refine (c_Pick B _ _ 3 [_, _, _] _ (HT4.out.src.alloc _) (by omega) rfl (by decide) (by decide) (rd_lit3 _ _ _ _)).mono ?_
    rintro e w5 ⟨z, rfl, hs4, hg4⟩
    have HT5 := Lib.hid ((HT4.out.alloc _).step hs4 hg4)
    clear hs4 hg4
    obtain ⟨t, hx⟩ := HT5.out.x
    obtain ⟨u, hrr⟩ := HT5.out.r
    obtain ⟨⟨v0, v1, v2, v3, v4, v5, v6⟩, ⟨f0, f1, f2, f3, f4, f5, f6⟩, _, hltx⟩ := seven_cells hx
    obtain ⟨⟨o0, o1, o2, o3, o4, o5, o6⟩, ⟨p0, p1, p2, p3, p4, p5, p6⟩, _, hltr⟩ := seven_cells hrr
    clear hx hrr
    go_wp2_with (fail)
    have hfin := (((HT5.out).store (i := 5) (by decide) y).store (i := 6) (by decide) z).fin ⟨t.k, t.l, t.r, t.a, t.b, y, z⟩
    change bodyPost _ _ _ _ _ (set7 (((w5).setCell ⟨w2.heap.size, 5, none⟩ (.int .i64 y)).setCell ⟨w2.heap.size, 6, none⟩ (.int .i64 z)) w.heap.size ⟨t.k, t.l, t.r, t.a, t.b, y, z⟩)
    generalize set7 (((w5).setCell ⟨w2.heap.size, 5, none⟩ (.int .i64 y)).setCell ⟨w2.heap.size, 6, none⟩ (.int .i64 z)) w.heap.size ⟨t.k, t.l, t.r, t.a, t.b, y, z⟩ = WF at hfin ⊢
    obtain ⟨hf, hs9, hg9⟩ := hfin
    obtain ⟨⟨r0, r1, r2, r3, r4, r5, r6⟩, _, _, _⟩ := seven_cells hf
    clear v0 v1 v2 v3 v4 v5 v6 f0 f1 f2 f3 f4 f5 f6 o0 o1 o2 o3 o4 o5 o6 p0 p1 p2 p3 p4 p5 p6
    refine bodyPost_ret (v := Seg.val ⟨t.k, t.l, t.r, t.a, t.b, y, z⟩) (by simp [Seg.val, results, Try.results56, go_sem, r0, r1, r2, r3, r4, r5, r6]) rfl ⟨_, rfl, hs9, hg9⟩
  · skip
    go_wp2_with (fail)
    have hfin := (HT3.out).fin ⟨t.k, t.l, t.r, t.a, t.b, t.c, t.d⟩
    change bodyPost _ _ _ _ _ (set7 (w3) w.heap.size ⟨t.k, t.l, t.r, t.a, t.b, t.c, t.d⟩)
    generalize set7 (w3) w.heap.size ⟨t.k, t.l, t.r, t.a, t.b, t.c, t.d⟩ = WF at hfin ⊢
    obtain ⟨hf, hs9, hg9⟩ := hfin
    obtain ⟨⟨r0, r1, r2, r3, r4, r5, r6⟩, _, _, _⟩ := seven_cells hf
    clear v0 v1 v2 v3 v4 v5 v6 f0 f1 f2 f3 f4 f5 f6 o0 o1 o2 o3 o4 o5 o6 p0 p1 p2 p3 p4 p5 p6
    refine bodyPost_ret (v := Seg.val ⟨t.k, t.l, t.r, t.a, t.b, t.c, t.d⟩) (by simp [Seg.val, results, Try.results56, go_sem, r0, r1, r2, r3, r4, r5, r6]) rfl ⟨_, rfl, hs9, hg9⟩
end Go.Proofs.Ythkghpmfbdojeaa
