/- The plain law of default blocks: they are blocks, each ends with a segment that holds. No program in sight. -/
import Derived.Test.YthkghpmfbdojeaaDrawQ
namespace Go.Proofs.Ythkghpmfbdojeaa
open Go.RowKit

theorem ris_one : Ris [0] 1 := by
  refine ⟨fun j z hz => ?_, fun j z hz => ?_, fun j y z hy hz => ?_⟩
  · cases j <;> simp at hz; omega
  · cases j <;> simp at hz; omega
  · cases j <;> simp at hz
theorem ris_more {xs : List Int} {m m' : Int} (h : Ris xs m) (hm : m ≤ m') : Ris xs m' := ⟨h.lo, fun j z hz => by have := h.hi j z hz; omega, h.up⟩
theorem ris_push {xs : List Int} {m : Int} (h : Ris xs m) (h0 : 0 ≤ m) : Ris (xs ++ [m]) (m + 1) := by
  have hg : ∀ {j : Nat} {z : Int}, (xs ++ [m])[j]? = some z → xs[j]? = some z ∨ (j = xs.length ∧ z = m) := by
    intro j z hz
    rcases Nat.lt_or_ge j xs.length with h1 | h1
    · rw [List.getElem?_append_left h1] at hz
      exact .inl hz
    · rw [List.getElem?_append_right h1] at hz
      have hj : j = xs.length := by
        have := (List.getElem?_eq_some_iff.1 hz).1
        simp at this
        omega
      subst hj
      simp at hz
      exact .inr ⟨rfl, hz.symm⟩
  refine ⟨fun j z hz => ?_, fun j z hz => ?_, fun j y z hy hz => ?_⟩
  · rcases hg hz with h1 | ⟨_, rfl⟩
    · exact h.lo j z h1
    · exact h0
  · rcases hg hz with h1 | ⟨_, rfl⟩
    · have := h.hi j z h1; omega
    · omega
  · rcases hg hz with h1 | ⟨e, rfl⟩
    · rcases hg hy with h2 | ⟨e2, _⟩
      · exact h.up j y z h2 h1
      · have := (List.getElem?_eq_some_iff.1 h1).1
        omega
    · rcases hg hy with h2 | ⟨e2, _⟩
      · exact h.hi j y h2
      · omega
theorem dfl_ris (l : List Seg) : ∀ k : Nat, Ris (dfl l k) ((k : Int) + 1)
  | 0 => ris_one
  | k + 1 => by
    have h := dfl_ris l k
    unfold dfl
    split
    · have := ris_push h (by omega)
      exact ris_more this (by omega)
    · exact ris_more h (by omega)
theorem dfl_held (l : List Seg) : ∀ k : Nat, ∃ rest, dfl l k = 0 :: rest ∧ ∀ f ∈ rest, heldBefore l f = true
  | 0 => ⟨[], rfl, by simp⟩
  | k + 1 => by
    obtain ⟨rest, e, hr⟩ := dfl_held l k
    unfold dfl
    split
    · rename_i hh
      refine ⟨rest ++ [(k : Int) + 1], by rw [e]; rfl, fun f hf => ?_⟩
      rcases List.mem_append.1 hf with h1 | h1
      · exact hr f h1
      · simp only [List.mem_singleton] at h1
        subst h1
        unfold heldBefore
        rw [show ((k : Int) + 1 - 1).toNat = k by omega]
        exact hh
    · exact ⟨rest, e, hr⟩
theorem dfl_okB {l : List Seg} (h : dflC l = 0) : okB l (dflR l) = true ∧ Lay l := by
  have hl : layB l = true := by
    unfold dflC at h
    rcases hlb : layB l with _ | _
    · rw [hlb] at h; simp at h
    · rfl
  have hlay := layB_iff.1 hl
  have hlo := hlay.lo
  have hR : dflR l = dfl l (l.length - 1) := by unfold dflR; rw [if_pos h]
  have hlen : 2 ≤ (dflR l).length ∧ (dflR l).length ≤ 8 := by
    rw [hR]
    unfold dflC at h
    rw [hl, if_pos rfl] at h
    split at h
    · simp at h
    · split at h
      · simp at h
      · omega
  obtain ⟨rest, e, hr⟩ := dfl_held l (l.length - 1)
  have hris := dfl_ris l (l.length - 1)
  refine ⟨?_, hlay⟩
  unfold okB blkB
  rw [hl, Bool.true_and]
  simp only [Bool.and_eq_true]
  refine ⟨⟨⟨?_, ?_⟩, ?_⟩, ?_⟩
  · simp [inB]; omega
  · rw [hR, e]; rfl
  · rw [hR]
    exact risB_iff.2 (ris_more hris (by omega))
  · rw [hR, e]
    exact List.all_eq_true.2 hr
theorem hold_at {l : List Seg} {fs : List Int} (hok : okB l fs = true) {q : Nat} (hq : q < fs.length) {s : Seg} (hz : l[endN l fs q - 1]? = some s) : holdsB s.k = true := by
  have hl := okB_lay hok
  have he := end_at hok q
  rcases Nat.lt_or_ge (q + 1) fs.length with h | h
  · have hf := (fst_at hok h).1
    have e : endB l fs q = (fstN fs (q + 1) : Int) := by unfold endB; rw [if_pos h]; simp [hf]
    have hb := hok
    simp only [okB, blkB, Bool.and_eq_true] at hb
    have hall := List.all_eq_true.1 hb.2.2 (fstN fs (q + 1) : Int) (by
      have : (fs.drop 1)[q]? = some (fstN fs (q + 1) : Int) := by rw [List.getElem?_drop, Nat.add_comm]; exact hf
      exact List.mem_of_getElem? this)
    unfold heldBefore at hall
    have e2 : ((fstN fs (q + 1) : Int) - 1).toNat = endN l fs q - 1 := by omega
    rw [e2] at hall
    simpa [hz] using hall
  · have e : endB l fs q = l.length := by unfold endB; rw [if_neg (by omega)]
    have e2 : endN l fs q = l.length := by omega
    rw [e2] at hz
    have hk := layB_iff.2 hl
    have := lastK_at hz
    simp only [layB, Bool.and_eq_true] at hk
    rw [this] at hk
    have hk4 : s.k = 4 := by simpa using hk.2
    rw [hk4]; rfl
theorem fst_next {l : List Seg} {fs : List Int} (hok : okB l fs = true) {q : Nat} (_hq : q < fs.length) : endN l fs q = if q + 1 < fs.length then fstN fs (q + 1) else l.length := by
  have he := end_at hok q
  split
  · rename_i h
    have hf := (fst_at hok h).1
    have e : endB l fs q = (fstN fs (q + 1) : Int) := by unfold endB; rw [if_pos h]; simp [hf]
    omega
  · rename_i h
    have e : endB l fs q = l.length := by unfold endB; rw [if_neg h]
    omega
/-- Where the blocks up to q begin: the sum of the lengths of the first q blocks. -/
def upto (l : List Seg) (fs : List Int) (q : Nat) : Int := if q < fs.length then pos l (fstN fs q) else pos l l.length
theorem upto_zero {l : List Seg} {fs : List Int} (hok : okB l fs = true) : upto l fs 0 = 0 := by
  have h := blkB_len hok
  have h0 := okB_zero hok
  unfold upto
  rw [if_pos (by omega)]
  have : fstN fs 0 = 0 := by simp [fstN, h0]
  rw [this, pos_zero]
theorem upto_succ {l : List Seg} {fs : List Int} (hok : okB l fs = true) {q : Nat} (hq : q < fs.length) : upto l fs (q + 1) = upto l fs q + (pos l (endN l fs q) - pos l (fstN fs q)) := by
  have hn := fst_next hok hq
  unfold upto
  rw [if_pos hq, hn]
  split <;> omega
theorem upto_bd {l : List Seg} {fs : List Int} (hok : okB l fs = true) (q : Nat) : 0 ≤ upto l fs q ∧ upto l fs q ≤ 4800000 := by
  have hl := okB_lay hok
  unfold upto
  split
  · rename_i h
    exact pos_small hl (by have := (fst_at hok h).2; omega)
  · exact pos_small hl (Nat.le_refl _)
end Go.Proofs.Ythkghpmfbdojeaa
