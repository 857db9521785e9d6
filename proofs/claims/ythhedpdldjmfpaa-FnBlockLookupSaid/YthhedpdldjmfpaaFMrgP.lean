/- The plain law of merged blocks. No program in sight. -/
import Derived.Test.YthhedpdldjmfpaaFBlkP
import Derived.Test.YthhedpdldjmfpaaMerge
namespace Go.Proofs.Ythhedpdldjmfpaa
open Go.RowKit

theorem mrg_get {fs : List Int} {q : Nat} (hq : q + 1 < fs.length) (j : Nat) : (fs.take (q + 1) ++ fs.drop (q + 2))[j]? = if j ≤ q then fs[j]? else fs[j + 1]? := by
  have hl : (fs.take (q + 1)).length = q + 1 := by simp; omega
  split
  · rename_i h
    rw [List.getElem?_append_left (by omega), List.getElem?_take, if_pos (by omega)]
  · rename_i h
    rw [List.getElem?_append_right (by omega), hl, List.getElem?_drop]
    congr 1; omega
theorem mrg_len {fs : List Int} {q : Nat} (hq : q + 1 < fs.length) : (fs.take (q + 1) ++ fs.drop (q + 2)).length = fs.length - 1 := by simp; omega
theorem mrg_ok {l : List Seg} {fs : List Int} (hok : okB l fs = true) {q : Nat} (hq : q + 1 < fs.length) (h3 : fs.length ≠ 2) : okB l (fs.take (q + 1) ++ fs.drop (q + 2)) = true := by
  have hlen := blkB_len hok
  have hris := blkB_ris hok
  have h0 := okB_zero hok
  have hlay := layB_iff.2 (okB_lay hok)
  have hheld : ∀ f ∈ fs.drop 1, heldBefore l f = true := by
    have hb := hok
    simp only [okB, blkB, Bool.and_eq_true] at hb
    exact List.all_eq_true.1 hb.2.2
  have hg := mrg_get hq
  have hl := mrg_len hq
  generalize (fs.take (q + 1) ++ fs.drop (q + 2)) = gs at hg hl ⊢
  unfold okB blkB
  rw [hlay, Bool.true_and]
  simp only [Bool.and_eq_true]
  refine ⟨⟨⟨?_, ?_⟩, ?_⟩, ?_⟩
  · simp [inB]; omega
  · have := hg 0
    rw [if_pos (Nat.zero_le _), h0] at this
    simp [List.getD_eq_getElem?_getD, this]
  · refine risB_iff.2 ⟨fun j z hz => ?_, fun j z hz => ?_, fun j y z hy hz => ?_⟩
    · rw [hg] at hz
      split at hz
      · exact hris.lo _ _ hz
      · exact hris.lo _ _ hz
    · rw [hg] at hz
      split at hz
      · exact hris.hi _ _ hz
      · exact hris.hi _ _ hz
    · rw [hg] at hy hz
      split at hy
      · split at hz
        · exact hris.up _ _ _ hy hz
        · exact ris_mono hris (by omega) hy hz
      · rw [if_neg (by omega)] at hz
        exact hris.up _ _ _ hy hz
  · refine all_drop (fun j f hj1 hj hz => ?_)
    rw [hg] at hz
    have key : ∀ i, 1 ≤ i → fs[i]? = some f → heldBefore l f = true := fun i hi hfi => by
      refine hheld f (List.mem_of_getElem? (i := i - 1) ?_)
      rw [List.getElem?_drop, show 1 + (i - 1) = i by omega]
      exact hfi
    split at hz
    · exact key j hj1 hz
    · exact key (j + 1) (by omega) hz
theorem mrg_fst {fs : List Int} {q : Nat} (hq : q + 1 < fs.length) : fstN (fs.take (q + 1) ++ fs.drop (q + 2)) q = fstN fs q := by
  have := mrg_get hq q
  rw [if_pos (Nat.le_refl _)] at this
  unfold fstN
  rw [List.getD_eq_getElem?_getD, List.getD_eq_getElem?_getD, this]
theorem mrg_end {l : List Seg} {fs : List Int} {q : Nat} (hq : q + 1 < fs.length) : endN l (fs.take (q + 1) ++ fs.drop (q + 2)) q = endN l fs (q + 1) := by
  have hl := mrg_len hq
  have := mrg_get hq (q + 1)
  rw [if_neg (by omega)] at this
  unfold endN endB
  rw [hl]
  by_cases h : q + 1 + 1 < fs.length
  · rw [if_pos (by omega), if_pos h, List.getD_eq_getElem?_getD, List.getD_eq_getElem?_getD, this]
  · rw [if_neg (by omega), if_neg h]
theorem code_at {l : List Seg} {fs : List Int} (hok : okB l fs = true) {q : Nat} (hq : q < fs.length) : codeB l fs (q : Int) = 0 := by
  unfold codeB
  rw [hok, if_pos rfl]
  simp [inB]; omega
theorem length_at {l : List Seg} {fs : List Int} (hok : okB l fs = true) {q : Nat} (hq : q < fs.length) : lengthR l fs (q : Int) = pos l (endN l fs q) - pos l (fstN fs q) := by
  unfold lengthR
  rw [if_pos (code_at hok hq), Int.toNat_natCast]
theorem start_at {l : List Seg} {fs : List Int} (hok : okB l fs = true) {q : Nat} (hq : q < fs.length) : startR l fs (q : Int) = pos l (fstN fs q) := by
  unfold startR
  rw [if_pos (code_at hok hq), Int.toNat_natCast]
theorem mrgC_zero {l : List Seg} {fs : List Int} {b : Int} (h : mrgC l fs b = 0) : okB l fs = true ∧ ∃ q : Nat, b = q ∧ q + 1 < fs.length ∧ fs.length ≠ 2 ∧ mrgR l fs b = fs.take (q + 1) ++ fs.drop (q + 2) := by
  have hR : mrgR l fs b = fs.take (b.toNat + 1) ++ fs.drop (b.toNat + 2) := by unfold mrgR; rw [if_pos h]
  unfold mrgC at h
  rcases codeB_cases l fs b with ⟨hc, hok, h0, h1⟩ | ⟨hc, _⟩
  · rw [if_pos hc] at h
    split at h
    · simp at h
    · rename_i hn
      refine ⟨hok, b.toNat, by omega, by omega, by omega, hR⟩
  · rw [if_neg hc] at h
    exact absurd h hc
end Go.Proofs.Ythhedpdldjmfpaa
