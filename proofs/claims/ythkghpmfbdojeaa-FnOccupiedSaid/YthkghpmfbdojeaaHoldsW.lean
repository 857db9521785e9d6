/- Contracts of Holds (program and reference), the copies of a segment, and the walk of the law FnExactHolds. No condition. -/
import Derived.Test.YthkghpmfbdojeaaSeg
namespace Go.Proofs.Ythkghpmfbdojeaa
open Go.RowKit

end Go.Proofs.Ythkghpmfbdojeaa
