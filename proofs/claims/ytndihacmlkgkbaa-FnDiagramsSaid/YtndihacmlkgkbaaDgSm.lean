/- Contract of l22Small. No condition. -/
import Derived.Test.YtndihacmlkgkbaaDgJr
namespace Go.Proofs.Ytndihacmlkgkbaa
open Go.RowKit

set_option maxRecDepth 100000 in
theorem c_l22Small (X R : Int) (A : Option Addr) (c n : Nat) (w : World) (hn : n ≤ 2000) :
    Calls Try.prog 64 #[.agg #[.int .i64 X, .slice A n c, .int .i64 R]] w fun e w' => e = .returned (.tuple #[.agg #[.int .i64 X, .slice A n c, .int .i64 R], .int .i64 0]) ∧ Below w.heap.size w w' := by
  have hni : ¬ (2000 : Int) < n := by omega
  go_enter Try.func64, Try.ntmps64
  go_wp2_with (fail)
  refine bodyPost_ret (v := .tuple #[.agg #[.int .i64 X, .slice A n c, .int .i64 R], .int .i64 0]) (by simp [results, Try.results64, go_sem]) rfl ⟨rfl, by (repeat (first | exact Below.refl _ _ | assumption | refine below_alloc ?_ _ | refine below_drewN ?_ _ | refine below_set ?_ _ (by simp; try omega) | refine Below.drew ?_))⟩
set_option maxRecDepth 100000 in
theorem c_l22Big (X R : Int) (A : Option Addr) (c n : Nat) (w : World) (hn : 2000 < n) :
    Calls Try.prog 64 #[.agg #[.int .i64 X, .slice A n c, .int .i64 R]] w fun e w' => e = .returned (.tuple #[.agg #[.int .i64 0, .slice none 0 0, .int .i64 0], .int .i64 3]) ∧ Below w.heap.size w w' := by
  have hni : (2000 : Int) < n := by omega
  go_enter Try.func64, Try.ntmps64
  go_wp2_with (fail)
  refine bodyPost_ret (v := .tuple #[.agg #[.int .i64 0, .slice none 0 0, .int .i64 0], .int .i64 3]) (by simp [results, Try.results64, go_sem]) rfl ⟨rfl, by (repeat (first | exact Below.refl _ _ | assumption | refine below_alloc ?_ _ | refine below_drewN ?_ _ | refine below_set ?_ _ (by simp; try omega) | refine Below.drew ?_))⟩
end Go.Proofs.Ytndihacmlkgkbaa
