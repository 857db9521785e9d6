/- Contract of slows, needed sums (program and reference). -/
import Derived.Test.YthkghpmfbdojeaaChg
import Derived.Test.YthkghpmfbdojeaaPosW
namespace Go.Proofs.Ythkghpmfbdojeaa
open Go.RowKit

theorem fld0 (x y : Int) (w : World) : (Instr.field 59 (.agg #[.int .i64 x, .int .i64 y]) 0).run Try.prog w = .ok (.int .i64 x) w := by kernel_rfl
theorem fld1 (x y : Int) (w : World) : (Instr.field 59 (.agg #[.int .i64 x, .int .i64 y]) 1).run Try.prog w = .ok (.int .i64 y) w := by kernel_rfl
end Go.Proofs.Ythkghpmfbdojeaa
