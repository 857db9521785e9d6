/- Append of an instruction; one step more of a program's code. No condition but the sizes. -/
import Derived.Test.YtackekfjalaacaaGreatDoorQPl
namespace Go.Proofs.YtackekfjalaacaaGreatDoor
open Go.RowKit

theorem wpList_push_ins (w : World) {ops : Array Oper} {rest : List Oper} {o : Oper} {a : Act} {Q : Exit → Act → World → Prop} (hgd : o.guard = none) (s x : Operand)
    (ho : o.op = .call { callee := .builtin .append, args := #[s, x], argTypes := #[49, 49] })
    (base : Nat) (v : Value) (n : Nat) (l : List Ins) (t : Ins) (g c : Nat) (hs : a.eval s = v) (hown : w.ownsRow base 107 2 v n (insCells l))
    (hx : a.eval x = .slice (some ⟨g, 0, none⟩) 1 c) (h0 : w.cell? ⟨g, 0, none⟩ = some (.int .i64 t.o)) (h1 : w.cell? ⟨g, 1, none⟩ = some (.int .i64 t.a)) (hn : n ≤ 1048577) (hbase : base ≤ w.heap.size)
    (h : ∀ v' w', w'.ownsRow base 107 2 v' (n + 1) (insCells (l ++ [t])) → w.grownBy w' v.ownBlock → wpList Tryz.prog ops Q rest (a.put o.dst v') w') : wpList Tryz.prog ops Q (o :: rest) a w := by
  obtain ⟨i0, hi, hz0, hz1, hz2⟩ := info_parts info_iInstruction
  refine wpList_push w hgd s x 49 ho base 107 i0 _ 2 16 Tryz.underlying49 hi hz0 hz1 hz2 rfl (by decide) v n (insCells l) hs hown ⟨g, 0, none⟩ c t.cells hx rfl ?_ ?_ (by unfold maxLen; omega) (by omega) hbase ?_
  · intro j u hu
    match j, hu with
    | 0, hu => simp only [Ins.cells, List.getElem?_cons_zero, Option.some.injEq] at hu; rw [← hu]; simpa [Addr.add] using h0
    | 1, hu => simp only [Ins.cells, List.getElem?_cons_succ, List.getElem?_cons_zero, Option.some.injEq] at hu; rw [← hu]; simpa [Addr.add] using h1
  · intro u hu
    simp only [Ins.cells, List.mem_cons, List.not_mem_nil, or_false] at hu
    rcases hu with rfl | rfl <;> rfl
  · intro v' w' hown1 hgrow _ _
    refine h v' w' ?_ hgrow
    have e : insCells (l ++ [t]) = insCells l ++ t.cells := by simp [insCells]
    rw [e]
    exact hown1
theorem wp_push_ins (w : World) {o : Oper} {a : Act} {K : Act → World → Prop} {Q : Exit → Act → World → Prop} (s x : Operand)
    (ho : o.op = .call { callee := .builtin .append, args := #[s, x], argTypes := #[49, 49] })
    (base : Nat) (v : Value) (n : Nat) (l : List Ins) (t : Ins) (g c : Nat) (hs : a.eval s = v) (hown : w.ownsRow base 107 2 v n (insCells l))
    (hx : a.eval x = .slice (some ⟨g, 0, none⟩) 1 c) (h0 : w.cell? ⟨g, 0, none⟩ = some (.int .i64 t.o)) (h1 : w.cell? ⟨g, 1, none⟩ = some (.int .i64 t.a)) (hn : n ≤ 1048577) (hbase : base ≤ w.heap.size)
    (h : ∀ v' w', w'.ownsRow base 107 2 v' (n + 1) (insCells (l ++ [t])) → w.grownBy w' v.ownBlock → K (a.put o.dst v') w') : o.wp Tryz.prog a w K Q := by
  obtain ⟨i0, hi, hz0, hz1, hz2⟩ := info_parts info_iInstruction
  refine wp_push w s x 49 ho base 107 i0 _ 2 16 Tryz.underlying49 hi hz0 hz1 hz2 rfl (by decide) v n (insCells l) hs hown ⟨g, 0, none⟩ c t.cells hx rfl ?_ ?_ (by unfold maxLen; omega) (by omega) hbase ?_
  · intro j u hu
    match j, hu with
    | 0, hu => simp only [Ins.cells, List.getElem?_cons_zero, Option.some.injEq] at hu; rw [← hu]; simpa [Addr.add] using h0
    | 1, hu => simp only [Ins.cells, List.getElem?_cons_succ, List.getElem?_cons_zero, Option.some.injEq] at hu; rw [← hu]; simpa [Addr.add] using h1
  · intro u hu
    simp only [Ins.cells, List.mem_cons, List.not_mem_nil, or_false] at hu
    rcases hu with rfl | rfl <;> rfl
  · intro v' w' hown1 hgrow _ _
    refine h v' w' ?_ hgrow
    have e : insCells (l ++ [t]) = insCells l ++ t.cells := by simp [insCells]
    rw [e]
    exact hown1
theorem cell_mark' {w w' : World} {row : Option Nat} {a : Addr} {v : Value} (h : w.cell? a = some v) (hg : w.grownBy w' row) (hne : ∀ q, row = some q → q ≠ a.block) : w'.cell? a = some v :=
  (hg.cell_far a (World.block_lt_of_cell? w a h) (fun h' => hne _ h'.symm rfl)).trans h
theorem csP_step {p : Prg} {k : Nat} {l : Lin} (h : p.ls[k]? = some l) : csP p 0 (p.ls.take (k + 1)) = csP p 0 (p.ls.take k) ++ csL p (nbL (p.ls.take k)) l := by
  rw [List.take_add_one, h]
  show csP p 0 (p.ls.take k ++ [l]) = _
  rw [csP_snoc, Nat.zero_add]
theorem nbL_step {p : Prg} {k : Nat} {l : Lin} (h : p.ls[k]? = some l) : nbL (p.ls.take (k + 1)) = nbL (p.ls.take k) + nbT l.ts := by
  rw [List.take_add_one, h]
  show nbL (p.ls.take k ++ [l]) = _
  rw [nbL_snoc]
theorem csT_step {p : Prg} {b q : Nat} {ts : List Tm} {t : Tm} (h : ts[q]? = some t) : csT p b (ts.take (q + 1)) = csT p b (ts.take q) ++ [insT p (b + nbT (ts.take q)) t] := by
  rw [List.take_add_one, h]
  show csT p b (ts.take q ++ [t]) = _
  rw [csT_snoc]
theorem nbT_step {q : Nat} {ts : List Tm} {t : Tm} (h : ts[q]? = some t) : nbT (ts.take (q + 1)) = nbT (ts.take q) + (if isB t then 1 else 0) := by
  rw [List.take_add_one, h]
  show nbT (ts.take q ++ [t]) = _
  rw [nbT_snoc, nbT_one]
theorem nbT_le (l : List Tm) : nbT l ≤ l.length := List.length_filter_le _ _
theorem nbL_le {p : Prg} (h : PgB p) (k : Nat) : nbL (p.ls.take k) ≤ 1600 := by
  refine Nat.le_trans ?_ (blk_le h)
  unfold nbL blk
  conv => rhs; rw [← List.take_append_drop k p.ls, List.flatMap_append, List.length_append]
  omega
theorem insT_d {p : Prg} {b : Nat} {t : Tm} (h : 7 ≤ t.k) : insT p b t = ⟨7, b⟩ := by
  unfold insT
  rw [if_neg (by omega), if_neg (by omega), if_neg (by omega), if_neg (by omega)]
theorem tgI_v {p : Prg} {s : ByteArray} (h : 0 ≤ ixS p.vs s) : tgI p s = ⟨8, ixS p.vs s⟩ := if_pos h
theorem tgI_o {p : Prg} {s : ByteArray} (h : ixS p.vs s < 0) : tgI p s = ⟨9, ixS p.os s⟩ := if_neg (by omega)
end Go.Proofs.YtackekfjalaacaaGreatDoor
