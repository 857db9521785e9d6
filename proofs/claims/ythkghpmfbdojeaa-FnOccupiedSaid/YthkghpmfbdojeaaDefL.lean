/- The walk of the law FnExactDefaultBlocks. -/
import Derived.Test.YthkghpmfbdojeaaDef
import Derived.Test.YthkghpmfbdojeaaMark
namespace Go.Proofs.Ythkghpmfbdojeaa
open Go.RowKit

theorem dflR_len (l : List Seg) : (dflR l).length ≤ 8 := by
  have := dfl_len l (l.length - 1)
  by_cases h : dflC l = 0
  · rw [show dflR l = dfl l (l.length - 1) by unfold dflR; rw [if_pos h]]
    unfold dflC at h
    split at h
    · split at h
      · simp at h
      · split at h
        · simp at h
        · omega
    · simp at h
  · rw [show dflR l = [] by unfold dflR; rw [if_neg h]]
    simp
end Go.Proofs.Ythkghpmfbdojeaa
