/- Rows of tests, assigns and rules that grow, three cells written at once: for the reading and the drawing of models. No condition. -/
import Derived.Test.YtgpmglfcdbpgkaaGreatDoorMTo2
namespace Go.Proofs.YtgpmglfcdbpgkaaGreatDoor
open Go.RowKit

theorem own_shape {w : World} {base : Nat} {e : TypeId} {size n : Nat} {v : Value} {xs : List Value} (h : w.ownsRow base e size v n xs) : ∃ A c, v = .slice A n c := by
  rcases h.2 with ⟨h1, h2⟩ | ⟨g, cap, cur, hv, _⟩
  · exact ⟨none, 0, by rw [h1, h2]⟩
  · exact ⟨_, _, hv⟩
theorem MOwn.mono {w : World} {base base' : Nat} {az ax ar : Option Addr} {cz cs cr : Nat} {m : Mdl} {ds : List RuD} (h : MOwn w base az ax ar cz cs cr m ds) (hb : base' ≤ base) : MOwn w base' az ax ar cz cs cr m ds :=
  ⟨own_mono h.z hb, own_mono h.s hb, own_mono h.r hb, h.e, fun d hd => (h.d d hd).mono hb⟩
theorem wp_push_tst (w : World) {o : Oper} {a : Act} {K : Act → World → Prop} {Q : Exit → Act → World → Prop} (s x : Operand)
    (ho : o.op = .call { callee := .builtin .append, args := #[s, x], argTypes := #[42, 42] })
    (base : Nat) (v : Value) (n : Nat) (l : List Tst) (t : Tst) (g c : Nat) (hs : a.eval s = v) (hown : w.ownsRow base 90 3 v n (tstCells l))
    (hx : a.eval x = .slice (some ⟨g, 0, none⟩) 1 c) (h0 : w.cell? ⟨g, 0, none⟩ = some (.int .i64 t.v)) (h1 : w.cell? ⟨g, 1, none⟩ = some (.int .i64 t.x)) (h2 : w.cell? ⟨g, 2, none⟩ = some (.bool t.q)) (hn : n ≤ 1048577) (hbase : base ≤ w.heap.size)
    (h : ∀ v' w', w'.ownsRow base 90 3 v' (n + 1) (tstCells (l ++ [t])) → w.grownBy w' v.ownBlock → K (a.put o.dst v') w') : o.wp Tryz.prog a w K Q := by
  obtain ⟨i0, hi, hz0, hz1, hz2⟩ := info_parts info_iTest
  refine wp_push w s x 42 ho base 90 i0 _ 3 24 Tryz.underlying42 hi hz0 hz1 hz2 rfl (by decide) v n (tstCells l) hs hown ⟨g, 0, none⟩ c t.cells hx rfl ?_ ?_ (by unfold maxLen; omega) (by omega) hbase ?_
  · intro j u hu
    match j, hu with
    | 0, hu => simp only [Tst.cells, List.getElem?_cons_zero, Option.some.injEq] at hu; rw [← hu]; simpa [Addr.add] using h0
    | 1, hu => simp only [Tst.cells, List.getElem?_cons_succ, List.getElem?_cons_zero, Option.some.injEq] at hu; rw [← hu]; simpa [Addr.add] using h1
    | 2, hu => simp only [Tst.cells, List.getElem?_cons_succ, List.getElem?_cons_zero, Option.some.injEq] at hu; rw [← hu]; simpa [Addr.add] using h2
  · intro u hu
    simp only [Tst.cells, List.mem_cons, List.not_mem_nil, or_false] at hu
    rcases hu with rfl | rfl | rfl <;> rfl
  · intro v' w' hown1 hgrow _ _
    refine h v' w' ?_ hgrow
    have e : tstCells (l ++ [t]) = tstCells l ++ t.cells := by simp [tstCells]
    rw [e]
    exact hown1
theorem wpList_push_tst (w : World) {ops : Array Oper} {rest : List Oper} {o : Oper} {a : Act} {Q : Exit → Act → World → Prop} (hgd : o.guard = none) (s x : Operand)
    (ho : o.op = .call { callee := .builtin .append, args := #[s, x], argTypes := #[42, 42] })
    (base : Nat) (v : Value) (n : Nat) (l : List Tst) (t : Tst) (g c : Nat) (hs : a.eval s = v) (hown : w.ownsRow base 90 3 v n (tstCells l))
    (hx : a.eval x = .slice (some ⟨g, 0, none⟩) 1 c) (h0 : w.cell? ⟨g, 0, none⟩ = some (.int .i64 t.v)) (h1 : w.cell? ⟨g, 1, none⟩ = some (.int .i64 t.x)) (h2 : w.cell? ⟨g, 2, none⟩ = some (.bool t.q)) (hn : n ≤ 1048577) (hbase : base ≤ w.heap.size)
    (h : ∀ v' w', w'.ownsRow base 90 3 v' (n + 1) (tstCells (l ++ [t])) → w.grownBy w' v.ownBlock → wpList Tryz.prog ops Q rest (a.put o.dst v') w') : wpList Tryz.prog ops Q (o :: rest) a w := by
  obtain ⟨i0, hi, hz0, hz1, hz2⟩ := info_parts info_iTest
  refine wpList_push w hgd s x 42 ho base 90 i0 _ 3 24 Tryz.underlying42 hi hz0 hz1 hz2 rfl (by decide) v n (tstCells l) hs hown ⟨g, 0, none⟩ c t.cells hx rfl ?_ ?_ (by unfold maxLen; omega) (by omega) hbase ?_
  · intro j u hu
    match j, hu with
    | 0, hu => simp only [Tst.cells, List.getElem?_cons_zero, Option.some.injEq] at hu; rw [← hu]; simpa [Addr.add] using h0
    | 1, hu => simp only [Tst.cells, List.getElem?_cons_succ, List.getElem?_cons_zero, Option.some.injEq] at hu; rw [← hu]; simpa [Addr.add] using h1
    | 2, hu => simp only [Tst.cells, List.getElem?_cons_succ, List.getElem?_cons_zero, Option.some.injEq] at hu; rw [← hu]; simpa [Addr.add] using h2
  · intro u hu
    simp only [Tst.cells, List.mem_cons, List.not_mem_nil, or_false] at hu
    rcases hu with rfl | rfl | rfl <;> rfl
  · intro v' w' hown1 hgrow _ _
    refine h v' w' ?_ hgrow
    have e : tstCells (l ++ [t]) = tstCells l ++ t.cells := by simp [tstCells]
    rw [e]
    exact hown1
theorem wp_push_asg (w : World) {o : Oper} {a : Act} {K : Act → World → Prop} {Q : Exit → Act → World → Prop} (s x : Operand)
    (ho : o.op = .call { callee := .builtin .append, args := #[s, x], argTypes := #[43, 43] })
    (base : Nat) (v : Value) (n : Nat) (l : List Asg) (t : Asg) (g c : Nat) (hs : a.eval s = v) (hown : w.ownsRow base 47 2 v n (asgCells l))
    (hx : a.eval x = .slice (some ⟨g, 0, none⟩) 1 c) (h0 : w.cell? ⟨g, 0, none⟩ = some (.int .i64 t.v)) (h1 : w.cell? ⟨g, 1, none⟩ = some (.int .i64 t.x)) (hn : n ≤ 1048577) (hbase : base ≤ w.heap.size)
    (h : ∀ v' w', w'.ownsRow base 47 2 v' (n + 1) (asgCells (l ++ [t])) → w.grownBy w' v.ownBlock → K (a.put o.dst v') w') : o.wp Tryz.prog a w K Q := by
  obtain ⟨i0, hi, hz0, hz1, hz2⟩ := info_parts info_iAssign
  refine wp_push w s x 43 ho base 47 i0 _ 2 16 Tryz.underlying43 hi hz0 hz1 hz2 rfl (by decide) v n (asgCells l) hs hown ⟨g, 0, none⟩ c t.cells hx rfl ?_ ?_ (by unfold maxLen; omega) (by omega) hbase ?_
  · intro j u hu
    match j, hu with
    | 0, hu => simp only [Asg.cells, List.getElem?_cons_zero, Option.some.injEq] at hu; rw [← hu]; simpa [Addr.add] using h0
    | 1, hu => simp only [Asg.cells, List.getElem?_cons_succ, List.getElem?_cons_zero, Option.some.injEq] at hu; rw [← hu]; simpa [Addr.add] using h1
  · intro u hu
    simp only [Asg.cells, List.mem_cons, List.not_mem_nil, or_false] at hu
    rcases hu with rfl | rfl <;> rfl
  · intro v' w' hown1 hgrow _ _
    refine h v' w' ?_ hgrow
    have e : asgCells (l ++ [t]) = asgCells l ++ t.cells := by simp [asgCells]
    rw [e]
    exact hown1
theorem wpList_push_asg (w : World) {ops : Array Oper} {rest : List Oper} {o : Oper} {a : Act} {Q : Exit → Act → World → Prop} (hgd : o.guard = none) (s x : Operand)
    (ho : o.op = .call { callee := .builtin .append, args := #[s, x], argTypes := #[43, 43] })
    (base : Nat) (v : Value) (n : Nat) (l : List Asg) (t : Asg) (g c : Nat) (hs : a.eval s = v) (hown : w.ownsRow base 47 2 v n (asgCells l))
    (hx : a.eval x = .slice (some ⟨g, 0, none⟩) 1 c) (h0 : w.cell? ⟨g, 0, none⟩ = some (.int .i64 t.v)) (h1 : w.cell? ⟨g, 1, none⟩ = some (.int .i64 t.x)) (hn : n ≤ 1048577) (hbase : base ≤ w.heap.size)
    (h : ∀ v' w', w'.ownsRow base 47 2 v' (n + 1) (asgCells (l ++ [t])) → w.grownBy w' v.ownBlock → wpList Tryz.prog ops Q rest (a.put o.dst v') w') : wpList Tryz.prog ops Q (o :: rest) a w := by
  obtain ⟨i0, hi, hz0, hz1, hz2⟩ := info_parts info_iAssign
  refine wpList_push w hgd s x 43 ho base 47 i0 _ 2 16 Tryz.underlying43 hi hz0 hz1 hz2 rfl (by decide) v n (asgCells l) hs hown ⟨g, 0, none⟩ c t.cells hx rfl ?_ ?_ (by unfold maxLen; omega) (by omega) hbase ?_
  · intro j u hu
    match j, hu with
    | 0, hu => simp only [Asg.cells, List.getElem?_cons_zero, Option.some.injEq] at hu; rw [← hu]; simpa [Addr.add] using h0
    | 1, hu => simp only [Asg.cells, List.getElem?_cons_succ, List.getElem?_cons_zero, Option.some.injEq] at hu; rw [← hu]; simpa [Addr.add] using h1
  · intro u hu
    simp only [Asg.cells, List.mem_cons, List.not_mem_nil, or_false] at hu
    rcases hu with rfl | rfl <;> rfl
  · intro v' w' hown1 hgrow _ _
    refine h v' w' ?_ hgrow
    have e : asgCells (l ++ [t]) = asgCells l ++ t.cells := by simp [asgCells]
    rw [e]
    exact hown1
theorem wp_push_rul (w : World) {o : Oper} {a : Act} {K : Act → World → Prop} {Q : Exit → Act → World → Prop} (s x : Operand)
    (ho : o.op = .call { callee := .builtin .append, args := #[s, x], argTypes := #[23, 23] })
    (base : Nat) (v : Value) (n : Nat) (l : List RuD) (t : RuD) (g c : Nat) (hs : a.eval s = v) (hown : w.ownsRow base 45 3 v n (rudCells l))
    (hx : a.eval x = .slice (some ⟨g, 0, none⟩) 1 c) (h0 : w.cell? ⟨g, 0, none⟩ = some (.string t.r.nm)) (h1 : w.cell? ⟨g, 1, none⟩ = some t.vg) (h2 : w.cell? ⟨g, 2, none⟩ = some t.ve) (hn : n ≤ 1048577) (hbase : base ≤ w.heap.size)
    (h : ∀ v' w', w'.ownsRow base 45 3 v' (n + 1) (rudCells (l ++ [t])) → w.grownBy w' v.ownBlock → K (a.put o.dst v') w') : o.wp Tryz.prog a w K Q := by
  obtain ⟨i0, hi, hz0, hz1, hz2⟩ := info_parts info_iRule
  refine wp_push w s x 23 ho base 45 i0 _ 3 64 Tryz.underlying23 hi hz0 hz1 hz2 rfl (by decide) v n (rudCells l) hs hown ⟨g, 0, none⟩ c t.cells hx rfl ?_ ?_ (by unfold maxLen; omega) (by omega) hbase ?_
  · intro j u hu
    match j, hu with
    | 0, hu => simp only [RuD.cells, List.getElem?_cons_zero, Option.some.injEq] at hu; rw [← hu]; simpa [Addr.add] using h0
    | 1, hu => simp only [RuD.cells, List.getElem?_cons_succ, List.getElem?_cons_zero, Option.some.injEq] at hu; rw [← hu]; simpa [Addr.add] using h1
    | 2, hu => simp only [RuD.cells, List.getElem?_cons_succ, List.getElem?_cons_zero, Option.some.injEq] at hu; rw [← hu]; simpa [Addr.add] using h2
  · intro u hu
    simp only [RuD.cells, List.mem_cons, List.not_mem_nil, or_false] at hu
    rcases hu with rfl | rfl | rfl <;> rfl
  · intro v' w' hown1 hgrow _ _
    refine h v' w' ?_ hgrow
    have e : rudCells (l ++ [t]) = rudCells l ++ t.cells := by simp [rudCells]
    rw [e]
    exact hown1
theorem wpList_push_rul (w : World) {ops : Array Oper} {rest : List Oper} {o : Oper} {a : Act} {Q : Exit → Act → World → Prop} (hgd : o.guard = none) (s x : Operand)
    (ho : o.op = .call { callee := .builtin .append, args := #[s, x], argTypes := #[23, 23] })
    (base : Nat) (v : Value) (n : Nat) (l : List RuD) (t : RuD) (g c : Nat) (hs : a.eval s = v) (hown : w.ownsRow base 45 3 v n (rudCells l))
    (hx : a.eval x = .slice (some ⟨g, 0, none⟩) 1 c) (h0 : w.cell? ⟨g, 0, none⟩ = some (.string t.r.nm)) (h1 : w.cell? ⟨g, 1, none⟩ = some t.vg) (h2 : w.cell? ⟨g, 2, none⟩ = some t.ve) (hn : n ≤ 1048577) (hbase : base ≤ w.heap.size)
    (h : ∀ v' w', w'.ownsRow base 45 3 v' (n + 1) (rudCells (l ++ [t])) → w.grownBy w' v.ownBlock → wpList Tryz.prog ops Q rest (a.put o.dst v') w') : wpList Tryz.prog ops Q (o :: rest) a w :=
  wpList_plain hgd fun _ hK => wp_push_rul w s x ho base v n l t g c hs hown hx h0 h1 h2 hn hbase fun v' w' h2 h3 => hK _ _ (h v' w' h2 h3)
def set3 (w : World) (p : Nat) (x y z : Value) : World := ((w.setCell ⟨p, 0, none⟩ x).setCell ⟨p, 1, none⟩ y).setCell ⟨p, 2, none⟩ z
theorem below_put {w wD : World} {p : Nat} (h : Below w.heap.size w wD) (x y z : Value) (hp : w.heap.size ≤ p) : Below w.heap.size w (set3 wD p x y z) :=
  below_set (below_set (below_set h (p := ⟨p, 0, none⟩) x hp) (p := ⟨p, 1, none⟩) y hp) (p := ⟨p, 2, none⟩) z hp
end Go.Proofs.YtgpmglfcdbpgkaaGreatDoor
