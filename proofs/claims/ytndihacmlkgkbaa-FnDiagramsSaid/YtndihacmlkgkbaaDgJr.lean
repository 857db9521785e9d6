/- Rows of pairs of references; the list of pairs behind a pointer. Condition: the sizes. -/
import Derived.Test.YtndihacmlkgkbaaDgJp
namespace Go.Proofs.Ytndihacmlkgkbaa
open Go.RowKit

theorem info_pair : (Try.prog.info? 103).map (fun i => (i.zero, i.size, i.bytes)) = some (some (.agg #[.int .i64 0, .int .i64 0, .int .i64 0]), 3, 24) := by kernel_rfl
theorem wpList_push_pair (w : World) {ops : Array Oper} {rest : List Oper} {o : Oper} {a : Act} {Q : Exit → Act → World → Prop} (hgd : o.guard = none) (s x : Operand)
    (ho : o.op = .call { callee := .builtin .append, args := #[s, x], argTypes := #[80, 80] })
    (base : Nat) (v : Value) (n : Nat) (l : List Jp) (y : Jp) (g c : Nat) (hs : a.eval s = v) (hown : w.ownsRow base 103 3 v n (ndCells l))
    (hx : a.eval x = .slice (some ⟨g, 0, none⟩) 1 c) (h0 : w.cell? ⟨g, 0, none⟩ = some (.int .i64 y.i)) (h1 : w.cell? ⟨g, 1, none⟩ = some (.int .i64 y.lo)) (h2 : w.cell? ⟨g, 2, none⟩ = some (.int .i64 y.hi)) (hn : n ≤ 1099511627776) (hbase : base ≤ w.heap.size)
    (h : ∀ v' w', w'.ownsRow base 103 3 v' (n + 1) (ndCells (l ++ [y])) → w.grownBy w' v.ownBlock → wpList Try.prog ops Q rest (a.put o.dst v') w') : wpList Try.prog ops Q (o :: rest) a w := by
  obtain ⟨i0, hi, hz0, hz1, hz2⟩ := info_parts info_pair
  refine wpList_push w hgd s x 80 ho base 103 i0 (.agg #[.int .i64 0, .int .i64 0, .int .i64 0]) 3 24 Try.underlying80 hi hz0 hz1 hz2 rfl (by decide) v n (ndCells l) hs hown ⟨g, 0, none⟩ c y.cells hx rfl ?_ ?_ (by unfold maxLen; omega) (by omega) hbase ?_
  · intro j u hu
    match j, hu with
    | 0, hu => simp only [Nd.cells, List.getElem?_cons_zero, Option.some.injEq] at hu; subst hu; simpa [Addr.add] using h0
    | 1, hu => simp only [Nd.cells, List.getElem?_cons_succ, List.getElem?_cons_zero, Option.some.injEq] at hu; subst hu; simpa [Addr.add] using h1
    | 2, hu => simp only [Nd.cells, List.getElem?_cons_succ, List.getElem?_cons_zero, Option.some.injEq] at hu; subst hu; simpa [Addr.add] using h2
    | j + 3, hu => simp [Nd.cells] at hu
  · intro u hu
    simp only [Nd.cells, List.mem_cons, List.not_mem_nil, or_false] at hu
    rcases hu with rfl | rfl | rfl <;> rfl
  · intro v' w' h3 h4 _ _
    exact h v' w' (by simpa [ndCells] using h3) h4
def PB (lo : Nat) (w : World) (bp : Nat) (ps : List Jp) : Prop :=
  ∃ v, w.ownsRow lo 80 1 (.slice (some ⟨bp, 0, none⟩) 1 1) 1 [v] ∧ w.ownsRow lo 103 3 v ps.length (ndCells ps)
theorem PB.below {lo bp : Nat} {w w' : World} {ps : List Jp} (h : PB lo w bp ps) (hb : Below w.heap.size w w') : PB lo w' bp ps := by
  obtain ⟨v, h1, h2⟩ := h
  exact ⟨v, own_below h1 hb, own_below h2 hb⟩
/-- What l22Join may change. -/
def PJ (lo k : Nat) (o : Obj) : Prop := lo ≤ k ∧ ∃ c fz, o = .cells c 77 fz ∨ o = .cells c 57 fz ∨ o = .cells c 103 fz ∨ o = .cells c 80 fz
theorem PJ.below {lo : Nat} {w a : World} (h : Fr (PJ lo) w a) (hl : lo ≤ w.heap.size) : Below lo w a := h.below (fun _ _ hp => hp.1) hl
theorem PJ.of_PS {lo : Nat} {w a : World} (h : Fr (PS lo) w a) : Fr (PJ lo) w a := h.mono fun k o hp => by
  obtain ⟨h1, c, fz, h | h⟩ := hp
  · exact ⟨h1, c, fz, .inl h⟩
  · exact ⟨h1, c, fz, .inr (.inl h)⟩
/-- Boxes of diagrams stay. -/
theorem PJ.own {lo : Nat} {w a : World} {base n : Nat} {v : Value} {xs : List Value} (h : Fr (PJ lo) w a) (ho : w.ownsRow base 29 3 v n xs) : a.ownsRow base 29 3 v n xs :=
  h.own ho (fun g cur fz _ _ hp => by
    obtain ⟨_, c, fz', h | h | h | h⟩ := hp <;> simp at h)
theorem PB.fr {lo bp : Nat} {w w' : World} {ps : List Jp} (h : PB lo w bp ps) (hf : Fr (PS lo) w w') : PB lo w' bp ps := by
  obtain ⟨v, h1, h2⟩ := h
  refine ⟨v, hf.own h1 (fun g cur fz _ _ hp => ?_), hf.own h2 (fun g cur fz _ _ hp => ?_)⟩
  · obtain ⟨_, c, fz', h | h⟩ := hp <;> simp at h
  · obtain ⟨_, c, fz', h | h⟩ := hp <;> simp at h
theorem SB.grown {lo bo : Nat} {w w' : World} {out : List Nd} (h : SB lo w bo out) {b2 s2 n2 : Nat} {e2 : TypeId} {v2 : Value} {x2 : List Value} (ho : w.ownsRow b2 e2 s2 v2 n2 x2) (h1 : e2 ≠ 77) (h2 : e2 ≠ 57) {g : Nat} (hv : v2.ownBlock = some g) (hg : w.grownBy w' (some g)) : SB lo w' bo out :=
  h.other ho h1 h2 (hv ▸ hg)
end Go.Proofs.Ytndihacmlkgkbaa
