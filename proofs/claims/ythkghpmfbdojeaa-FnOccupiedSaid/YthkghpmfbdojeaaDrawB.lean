/- Plain helper lemmas on worlds that grow, boxes of segments; contract of l03DrawInterval. Condition: small bounds. -/
import Derived.Test.YthkghpmfbdojeaaPick
import Derived.Test.YthkghpmfbdojeaaNeed
namespace Go.Proofs.Ythkghpmfbdojeaa
open Go.RowKit

theorem grown_below {w a b : World} {row : Option Nat} (h : w.grownBy a row) (hb : Below w.heap.size a b) : w.grownBy b row :=
  ⟨hb.os.trans h.os, hb.tape.trans h.tape, hb.output.trans h.output, Nat.le_trans h.size hb.size, fun k hk hne => (hb.block k hk).trans (h.block k hk hne)⟩
theorem grown_alloc {w a : World} {row : Option Nat} (h : w.grownBy a row) (o : Obj) : w.grownBy (a.alloc o) row := grown_below h ((below_alloc (Below.refl a.heap.size a) o).mono h.size)
theorem grown_drew {w a : World} {row : Option Nat} (h : w.grownBy a row) : w.grownBy a.drew row := grown_below h ((Below.refl a.heap.size a).drew.mono h.size)
theorem grown_set {w a : World} {row : Option Nat} (h : w.grownBy a row) {p : Addr} (v : Value) (hp : w.heap.size ≤ p.block) : w.grownBy (a.setCell p v) row := grown_below h ((Below.refl w.heap.size a).setCell hp v)
theorem own_seven {w : World} (s : Seg) : (w.alloc (.cells #[.int .i64 s.k, .int .i64 s.l, .int .i64 s.r, .int .i64 s.a, .int .i64 s.b, .int .i64 s.c, .int .i64 s.d] 61)).ownsRow w.heap.size 61 1 (.slice (some ⟨w.heap.size, 0, none⟩) 7 7) 7 s.cells := by
  have h := World.ownsRow_lit (e := 61) (size := 1) (base := w.heap.size) w #[.int .i64 s.k, .int .i64 s.l, .int .i64 s.r, .int .i64 s.a, .int .i64 s.b, .int .i64 s.c, .int .i64 s.d] 7 (by simp) (by decide) (by simp)
  simpa [Seg.cells] using h
theorem seven_cells {w : World} {base b : Nat} {s : Seg} (h : w.ownsRow base 61 1 (.slice (some ⟨b, 0, none⟩) 7 7) 7 s.cells) : (w.cell? ⟨b, 0, none⟩ = some (.int .i64 s.k) ∧ w.cell? ⟨b, 1, none⟩ = some (.int .i64 s.l) ∧ w.cell? ⟨b, 2, none⟩ = some (.int .i64 s.r) ∧ w.cell? ⟨b, 3, none⟩ = some (.int .i64 s.a) ∧ w.cell? ⟨b, 4, none⟩ = some (.int .i64 s.b) ∧ w.cell? ⟨b, 5, none⟩ = some (.int .i64 s.c) ∧ w.cell? ⟨b, 6, none⟩ = some (.int .i64 s.d)) ∧
    (w.frozen? ⟨b, 0, none⟩ = false ∧ w.frozen? ⟨b, 1, none⟩ = false ∧ w.frozen? ⟨b, 2, none⟩ = false ∧ w.frozen? ⟨b, 3, none⟩ = false ∧ w.frozen? ⟨b, 4, none⟩ = false ∧ w.frozen? ⟨b, 5, none⟩ = false ∧ w.frozen? ⟨b, 6, none⟩ = false) ∧ base ≤ b ∧ b < w.heap.size :=
  ⟨⟨h.cellAt 0 (by decide), h.cellAt 1 (by decide), h.cellAt 2 (by decide), h.cellAt 3 (by decide), h.cellAt 4 (by decide), h.cellAt 5 (by decide), h.cellAt 6 (by decide)⟩,
   ⟨h.frozenAt 0, h.frozenAt 1, h.frozenAt 2, h.frozenAt 3, h.frozenAt 4, h.frozenAt 5, h.frozenAt 6⟩, own_ge h⟩
theorem own_at {w w' : World} {B base : Nat} {e : TypeId} {size n : Nat} {v : Value} {xs : List Value} (h : w.ownsRow base e size v n xs) (hg : w.grownBy w' (some B)) (hB : B < base) : w'.ownsRow base e size v n xs :=
  kept_far h hg (fun q hq => by simp at hq; omega)
def SomeIv (B : Nat) (w : World) (e : Ending) (w' : World) : Prop := ∃ x y : Int, e = .returned (.agg #[.int .i64 x, .int .i64 y]) ∧ Src w' B ∧ w.grownBy w' (some B)
set_option maxRecDepth 100000 in
theorem c_DrawInterval (B : Nat) (lo hi : Int) (w : World) (h : Src w B) (h0 : 0 ≤ lo) (h1 : lo ≤ hi) (h2 : hi ≤ 1000000) :
    Calls Try.prog 58 #[.pointer (some ⟨B, 0, none⟩), .int .i64 lo, .int .i64 hi] w (SomeIv B w) := by
  have hor := own_two (w := w) 0 0
  have hBl := h.lt
  go_enter Try.func58, Try.ntmps58
  go_wp2_with (fail)
  refine (c_Next B _ _ (h.alloc _) (by omega)).mono ?_
  rintro e w1 ⟨r, rfl, hr0, hr1, hr2, hs, hg⟩
  have hrb : r ≤ 1000000 := by
    rcases Int.lt_or_le 1 (hi - lo + 1) with hh | hh
    · have := hr1 hh; omega
    · have := hr2 hh; omega
  have ho := own_at hor hg hBl
  have hG : w.grownBy w1 (some B) := grown_trans (grown_alloc (grown_refl w _) _) hg
  clear hr1 hr2 hg hor h
  go_wp2_with (fail)
  refine (c_Next B _ _ hs (by omega)).mono ?_
  rintro e w2 ⟨r2, rfl, hr20, hr21, hr22, hs2, hg⟩
  have hrb2 : r2 ≤ 1000000 := by
    rcases Int.lt_or_le 1 (1 + (hi - lo) / 4) with hh | hh
    · have := hr21 hh; omega
    · have := hr22 hh; omega
  replace ho := own_at ho hg hBl
  replace hG := grown_trans hG hg
  clear hr21 hr22 hg hs
  obtain ⟨v0, v1, f0, f1, _, hlt⟩ := two_cells ho
  have HO := Lib.hid ho
  have HS := Lib.hid hs2
  have HG := Lib.hid hG
  clear ho hs2 hG
  have HY : ∀ Y : Int, ((w2.setCell ⟨w.heap.size, 0, none⟩ (.int .i64 (lo + r))).setCell ⟨w.heap.size, 1, none⟩ (.int .i64 Y)).ownsRow w.heap.size 59 1 (.slice (some ⟨w.heap.size, 0, none⟩) 2 2) 2 [.int .i64 (lo + r), .int .i64 Y] := fun Y => by
    have := ((HO.out.stored 0 (.int .i64 (lo + r))).1.stored 1 (.int .i64 Y)).1
    simpa using this
  have HYY := Lib.hid HY
  clear HY
  rcases Int.lt_or_le (lo + r + r2) hi with hmn | hmn
  · go_wp2_with (fail)
    have g0 := fun Y => (two_cells (HYY.out Y)).1
    have g1 := fun Y => (two_cells (HYY.out Y)).2.1
    refine bodyPost_ret (v := .agg #[.int .i64 (lo + r), .int .i64 (lo + r + r2)]) (by simp [results, Try.results58, go_sem, g0, g1]) rfl ?_
    exact ⟨_, _, rfl, (HS.out.far (HO.out.stored 0 _).2 (by intro q hq; simp at hq; omega)).far ((HO.out.stored 0 _).1.stored 1 _).2 (by intro q hq; simp at hq; omega), grown_set (grown_set HG.out _ (Nat.le_refl _)) _ (Nat.le_refl _)⟩
  · go_wp2_with (fail)
    have g0 := fun Y => (two_cells (HYY.out Y)).1
    have g1 := fun Y => (two_cells (HYY.out Y)).2.1
    refine bodyPost_ret (v := .agg #[.int .i64 (lo + r), .int .i64 hi]) (by simp [results, Try.results58, go_sem, g0, g1]) rfl ?_
    exact ⟨_, _, rfl, (HS.out.far (HO.out.stored 0 _).2 (by intro q hq; simp at hq; omega)).far ((HO.out.stored 0 _).1.stored 1 _).2 (by intro q hq; simp at hq; omega), grown_set (grown_set HG.out _ (Nat.le_refl _)) _ (Nat.le_refl _)⟩
end Go.Proofs.Ythkghpmfbdojeaa
