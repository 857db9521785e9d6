/- Laws for rows of segments of the call's own: append, a store of one segment. -/
import Derived.Test.YthkghpmfbdojeaaDrawA
import Derived.Test.YthkghpmfbdojeaaApp
import Derived.Deep.Cut
import Derived.Deep.CutRange
namespace Go.Proofs.Ythkghpmfbdojeaa
open Go.RowKit

theorem add_pl (b off n : Nat) : (⟨b, off, none⟩ : Addr).add n = ⟨b, off + n, none⟩ := by
  unfold Addr.add
  split <;> simp_all
theorem segCells_set7 {s : Seg} : ∀ {l : List Seg} {k : Nat}, k < l.length → ((((((((segCells l).set (k * 7) (.int .i64 s.k)).set (k * 7 + 1) (.int .i64 s.l)).set (k * 7 + 2) (.int .i64 s.r)).set (k * 7 + 3) (.int .i64 s.a)).set (k * 7 + 4) (.int .i64 s.b)).set (k * 7 + 5) (.int .i64 s.c)).set (k * 7 + 6) (.int .i64 s.d)) = segCells (l.set k s)
  | [], k, h => by simp at h
  | t :: l, 0, _ => by simp [segCells, Seg.cells]
  | t :: l, k + 1, h => by
    have ih := segCells_set7 (s := s) (l := l) (k := k) (by simpa using h)
    have e : ∀ (xs : List Value) (i : Nat) (v : Value), (t.cells ++ xs).set ((k + 1) * 7 + i) v = t.cells ++ xs.set (k * 7 + i) v := fun xs i v => by
      rw [List.set_append_right _ _ (by simp [Seg.cells]; omega)]
      congr 2
      simp [Seg.cells]; omega
    have e0 : ∀ (xs : List Value) (v : Value), (t.cells ++ xs).set ((k + 1) * 7) v = t.cells ++ xs.set (k * 7) v := fun xs v => e xs 0 v
    have es : ∀ l : List Seg, segCells (t :: l) = t.cells ++ segCells l := fun l => by simp [segCells]
    rw [es, e0, e, e, e, e, e, e, ih, List.set_cons_succ, es]
def set7o (w : World) (b o : Nat) (s : Seg) : World := ((((((w.setCell ⟨b, o, none⟩ (.int .i64 s.k)).setCell ⟨b, o + 1, none⟩ (.int .i64 s.l)).setCell ⟨b, o + 2, none⟩ (.int .i64 s.r)).setCell ⟨b, o + 3, none⟩ (.int .i64 s.a)).setCell ⟨b, o + 4, none⟩ (.int .i64 s.b)).setCell ⟨b, o + 5, none⟩ (.int .i64 s.c)).setCell ⟨b, o + 6, none⟩ (.int .i64 s.d)
theorem own_setSeg {w : World} {base g n c : Nat} {l : List Seg} (s : Seg) {k : Nat} (hk : k < l.length) (h : w.ownsRow base 61 7 (.slice (some ⟨g, 0, none⟩) n c) n (segCells l)) :
    (set7o w g (k * 7) s).ownsRow base 61 7 (.slice (some ⟨g, 0, none⟩) n c) n (segCells (l.set k s)) ∧ w.grownBy (set7o w g (k * 7) s) (some g) := by
  have h0 := h.stored (k * 7) (.int .i64 s.k)
  have h1 := h0.1.stored (k * 7 + 1) (.int .i64 s.l)
  have h2 := h1.1.stored (k * 7 + 2) (.int .i64 s.r)
  have h3 := h2.1.stored (k * 7 + 3) (.int .i64 s.a)
  have h4 := h3.1.stored (k * 7 + 4) (.int .i64 s.b)
  have h5 := h4.1.stored (k * 7 + 5) (.int .i64 s.c)
  have h6 := h5.1.stored (k * 7 + 6) (.int .i64 s.d)
  refine ⟨?_, grown_trans (grown_trans (grown_trans (grown_trans (grown_trans (grown_trans h0.2 h1.2) h2.2) h3.2) h4.2) h5.2) h6.2⟩
  have := h6.1
  rwa [segCells_set7 hk] at this
theorem wpList_app_seg (w : World) {ops : Array Oper} {rest : List Oper} {o : Oper} {a : Act} {Q : Exit → Act → World → Prop} (hgd : o.guard = none) (s x : Operand)
    (ho : o.op = .call { callee := .builtin .append, args := #[s, x], argTypes := #[24, 24] })
    (base : Nat) (v : Value) (n : Nat) (l ys : List Seg) (g m c : Nat) (hs : a.eval s = v) (hown : w.ownsRow base 61 7 v n (segCells l))
    (hx : a.eval x = .slice (some ⟨g, 0, none⟩) m c) (hr : Rd w (some ⟨g, 0, none⟩) (segCells ys)) (hm : m = ys.length) (hn : n + m ≤ 100000) (hbase : base ≤ w.heap.size)
    (h : ∀ v' w', w'.ownsRow base 61 7 v' (n + m) (segCells (l ++ ys)) → w.grownBy w' v.ownBlock → wpList Try.prog ops Q rest (a.put o.dst v') w') : wpList Try.prog ops Q (o :: rest) a w := by
  obtain ⟨i0, hi, hz0, hz1, hz2⟩ := info_parts info_iSegment
  have hseg : ∀ {l : List Seg}, ∀ u ∈ segCells l, u.oneCell' = true := by
    intro l u hu
    simp only [segCells, List.mem_flatMap] at hu
    obtain ⟨t, _, hu⟩ := hu
    simp only [Seg.cells, List.mem_cons, List.not_mem_nil, or_false] at hu
    rcases hu with rfl | rfl | rfl | rfl | rfl | rfl | rfl <;> rfl
  refine wpList_append_own w hgd s x 24 ho base 61 i0 _ 7 56 Try.underlying24 hi hz0 hz1 hz2 rfl (by decide) v n (segCells l) hs hown ⟨g, 0, none⟩ m c (segCells ys) hx (by rw [segCells_length, hm]) ?_ hseg (by unfold maxLen; omega) (by omega) hbase ?_
  · intro j u hu
    rcases hr with h | ⟨b, off, e, _, hc⟩
    · rw [h] at hu; simp at hu
    · simp only [Option.some.injEq, Addr.mk.injEq, and_true] at e
      obtain ⟨rfl, rfl⟩ := e
      rw [add_pl]
      exact hc j u hu
  · intro v' w' h1 h2 _
    refine h v' w' ?_ h2
    rwa [show segCells l ++ segCells ys = segCells (l ++ ys) by simp [segCells]] at h1
theorem rd_seg1 (w : World) (s : Seg) : Rd (w.alloc (.cells #[.int .i64 s.k, .int .i64 s.l, .int .i64 s.r, .int .i64 s.a, .int .i64 s.b, .int .i64 s.c, .int .i64 s.d] 61)) (some ⟨w.heap.size, 0, none⟩) (segCells [s]) := by
  have h := Rd.own (own_seven (w := w) s)
  simpa [segCells] using h
theorem rd_seg2 (w : World) (s t : Seg) : Rd (w.alloc (.cells #[.int .i64 s.k, .int .i64 s.l, .int .i64 s.r, .int .i64 s.a, .int .i64 s.b, .int .i64 s.c, .int .i64 s.d, .int .i64 t.k, .int .i64 t.l, .int .i64 t.r, .int .i64 t.a, .int .i64 t.b, .int .i64 t.c, .int .i64 t.d] 61)) (some ⟨w.heap.size, 0, none⟩) (segCells [s, t]) := by
  have h := World.ownsRow_lit (e := 61) (size := 7) (base := w.heap.size) w #[.int .i64 s.k, .int .i64 s.l, .int .i64 s.r, .int .i64 s.a, .int .i64 s.b, .int .i64 s.c, .int .i64 s.d, .int .i64 t.k, .int .i64 t.l, .int .i64 t.r, .int .i64 t.a, .int .i64 t.b, .int .i64 t.c, .int .i64 t.d] 2 (by simp) (by decide) (by simp)
  have h2 := Rd.own h
  simpa [segCells, Seg.cells] using h2
/-- What l03Draw carries: the row of segments, the box of the result. -/
structure DS (B br : Nat) (w W : World) (v : Value) (l : List Seg) : Prop where
  row : W.ownsRow (br + 1) 61 7 v l.length (segCells l)
  res : ∃ u, W.ownsRow br 26 1 (.slice (some ⟨br, 0, none⟩) 1 1) 1 [u]
  src : Src W B
  g : w.grownBy W (some B)
  h1 : B < br
  h2 : w.heap.size ≤ br
section
variable {B br : Nat} {w W : World} {v : Value} {l : List Seg}
theorem DS.step (h : DS B br w W v l) {W' : World} (hs : Src W' B) (hg : W.grownBy W' (some B)) : DS B br w W' v l := by
  have h1 := h.h1
  obtain ⟨u, hr⟩ := h.res
  exact ⟨own_at h.row hg (by omega), ⟨u, own_at hr hg h1⟩, hs, grown_trans h.g hg, h1, h.h2⟩
theorem DS.below (h : DS B br w W v l) {W' : World} (hb : Below W.heap.size W W') : DS B br w W' v l := h.step (h.src.below hb) (grown_of_below hb _)
theorem DS.alloc (h : DS B br w W v l) (o : Obj) : DS B br w (W.alloc o) v l := h.below (below_alloc (Below.refl _ _) o)
theorem DS.drew (h : DS B br w W v l) : DS B br w W.drew v l := h.below (Below.refl _ _).drew
/-- A step that writes into the row alone (or makes memory). -/
theorem DS.own (h : DS B br w W v l) {W' : World} {v' : Value} {l' : List Seg} (ho : W'.ownsRow (br + 1) 61 7 v' l'.length (segCells l')) (hg : W.grownBy W' v.ownBlock) : DS B br w W' v' l' := by
  have h1 := h.h1
  have h2 := h.h2
  obtain ⟨u, hr⟩ := h.res
  have hrow : ∀ q, v.ownBlock = some q → br + 1 ≤ q := fun q hq => (h.row.lt q hq).1
  have hlt := (own_ge hr).2
  refine ⟨ho, ⟨u, hr.kept hg ?_⟩, h.src.far hg (fun q hq => by have := hrow q hq; omega), ?_, h1, h2⟩
  · refine .inr (fun e => ?_)
    have e2 : some br = v.ownBlock := e
    have := hrow br e2.symm
    omega
  · exact ⟨hg.os.trans h.g.os, hg.tape.trans h.g.tape, hg.output.trans h.g.output, Nat.le_trans h.g.size hg.size, fun k hk hne => (hg.block k (Nat.lt_of_lt_of_le hk h.g.size) (fun e => by have := hrow k e.symm; omega)).trans (h.g.block k hk hne)⟩
end
end Go.Proofs.Ythkghpmfbdojeaa
