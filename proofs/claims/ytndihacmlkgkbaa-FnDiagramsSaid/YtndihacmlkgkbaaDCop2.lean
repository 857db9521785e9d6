/- Contracts of the laws' own copies and sizes of diagrams. No condition but the lists' sizes. -/
import Derived.Test.YtndihacmlkgkbaaDNode
namespace Go.Proofs.Ytndihacmlkgkbaa
open Go.RowKit

/-- What is handed back: a diagram with a new list of nodes of the call's own. -/
def RetDg (x : Int) (l : List Nd) (r : Int) (w : World) (e : Ending) (w' : World) : Prop :=
  ∃ A c, e = .returned (.agg #[.int .i64 x, .slice A l.length c, .int .i64 r]) ∧ w'.ownsRow w.heap.size 57 3 (.slice A l.length c) l.length (ndCells l) ∧ Below w.heap.size w w'
theorem c_szDiagram (x r : Int) (A : Option Addr) (c n : Nat) (left : Int) (w : World) (hn : n ≤ 9223372036854775807) (h0 : 0 ≤ left) (h1 : left ≤ 1048576) :
    Calls Try.prog 11 #[.agg #[.int .i64 x, .slice A n c, .int .i64 r], .int .i64 left] w fun e w' => e = .returned (.int .i64 (szI left n)) ∧ Below w.heap.size w w' := by
  go_enter Try.func11, Try.ntmps11
  go_wp2_with (first
    | (go_at_call 37
       refine (c_szNodeS _ _ _ _ _ hn h0 h1).mono ?_
       rintro e w' ⟨rfl, rfl⟩)
    )
  all_goals go_ret
  all_goals (refine ⟨?_, by (repeat (first | exact Below.refl _ _ | assumption | refine below_alloc ?_ _ | refine below_drewN ?_ _ | refine below_set ?_ _ (by simp; try omega) | refine Below.drew ?_))⟩; simp [szI] at *; try omega)
theorem c_toDiagram (x r : Int) (A : Option Addr) (c n : Nat) (l : List Nd) (w : World) (hn : n = l.length) (hs : n ≤ 1048576) (hr : Rd w A (ndCells l)) :
    Calls Try.prog 13 #[.agg #[.int .i64 x, .slice A n c, .int .i64 r]] w (RetDg x l r w) := by
  have HN := Lib.hid hn
  clear hn
  go_enter Try.func13, Try.ntmps13
  go_wp2_with (first
    | (go_at_call 42
       refine (c_toNodeS _ _ _ l _ HN.out hs (((hr.alloc _).alloc _).alloc _)).mono ?_
       rintro e w1 ⟨A1, c1, rfl, ho, hb⟩
       have kr : w1.cell? ⟨w.heap.size, 2, none⟩ = some (.int .i64 r) := cell_later hb (by go_simp)
       have o0 : w1.cell? ⟨w.heap.size + 1 + 1, 0, none⟩ = some (.int .i64 x) := cell_later hb (by go_simp)
       have o1 : w1.cell? ⟨w.heap.size + 1 + 1, 1, none⟩ = some (.slice none 0 0) := cell_later hb (by go_simp)
       have o2 : w1.cell? ⟨w.heap.size + 1 + 1, 2, none⟩ = some (.int .i64 0) := cell_later hb (by go_simp)
       have p0 : w1.cell? ⟨w.heap.size + 1, 0, none⟩ = some (.int .i64 0) := cell_later hb (by go_simp)
       have p1 : w1.cell? ⟨w.heap.size + 1, 1, none⟩ = some (.slice none 0 0) := cell_later hb (by go_simp)
       have p2 : w1.cell? ⟨w.heap.size + 1, 2, none⟩ = some (.int .i64 0) := cell_later hb (by go_simp)
       have f1 : w1.frozen? ⟨w.heap.size + 1 + 1, 1, none⟩ = false := frozen_later hb (by simp) (by go_simp)
       have f2 : w1.frozen? ⟨w.heap.size + 1 + 1, 2, none⟩ = false := frozen_later hb (by simp) (by go_simp)
       have e0 : w1.frozen? ⟨w.heap.size + 1, 0, none⟩ = false := frozen_later hb (by simp) (by go_simp)
       have e1 : w1.frozen? ⟨w.heap.size + 1, 1, none⟩ = false := frozen_later hb (by simp) (by go_simp)
       have e2 : w1.frozen? ⟨w.heap.size + 1, 2, none⟩ = false := frozen_later hb (by simp) (by go_simp)
       have B := Lib.hid (below_chain (by (repeat (first | exact Below.refl _ _ | assumption | refine below_alloc ?_ _ | refine below_drewN ?_ _ | refine below_set ?_ _ (by simp; try omega) | refine Below.drew ?_)) : Below w.heap.size w _) hb)
       have HO := Lib.hid ho
       clear hb ho hr)
    )
  refine bodyPost_ret (v := .agg #[.int .i64 x, .slice A1 l.length c1, .int .i64 r]) (by simp [results, Try.results13, go_sem, p0, p1, p2]) rfl ⟨A1, c1, rfl, ?_, ?_⟩
  · exact own_mono (ownsRow_setCell_below (ownsRow_setCell_below (ownsRow_setCell_below (ownsRow_setCell_below (ownsRow_setCell_below HO.out (by simp) _) (by simp) _) (by simp) _) (by simp) _) (by simp) _) (by simp; omega)
  · exact below_set (below_set (below_set (below_set (below_set B.out _ (by simp; try omega)) _ (by simp; try omega)) _ (by simp; try omega)) _ (by simp; try omega)) _ (by simp; try omega)
end Go.Proofs.Ytndihacmlkgkbaa
