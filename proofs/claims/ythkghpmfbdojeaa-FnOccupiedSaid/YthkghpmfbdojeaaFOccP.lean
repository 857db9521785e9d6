/- The plain law of FnOccupied: the block of the front is occupied. No program in sight. -/
import Derived.Test.YthkghpmfbdojeaaLoadS
namespace Go.Proofs.Ythkghpmfbdojeaa
open Go.RowKit

theorem bld_parts {l : List Seg} {fs ps : List Int} {x : Int} (h : bldC l fs ps x = 0) : okB l fs = true ∧ ps.length ≤ 4 ∧ trnC l x ps = 0 := by
  unfold bldC at h
  split at h
  · rename_i h1
    split at h
    · omega
    · exact ⟨h1, by omega, h⟩
  · omega
theorem trn_of {l : List Seg} {ps : List Int} {x p : Int} (hl : Lay l) (h : trnC l x ps = 0) (hp : p ∈ ps) : trnC l x [p] = 0 ∧ 1 ≤ x ∧ x ≤ 40000 ∧ x ≤ pos l l.length ∧ 0 ≤ p ∧ p < pos l l.length := by
  rcases trnC_cases l x ps hl with ⟨_, h1, h2, h3, h4⟩ | h2
  · obtain ⟨h5, h6⟩ := h4 p hp
    refine ⟨?_, h1, h2, h3, h5, h6⟩
    unfold trnC
    rw [layB_iff.2 hl, if_pos rfl]
    have e1 : inB p 0 (pos l l.length - 1) = true := by simp [inB]; omega
    have e2 : inB x 1 (min 40000 (pos l l.length)) = true := by simp [inB]; omega
    simp [e1, e2]
  · omega
theorem occ_front {l : List Seg} {fs : List Int} {p n : Int} (hok : okB l fs = true) (hn : 1 ≤ n) (hT : n ≤ pos l l.length) (hp0 : 0 ≤ p) (hp1 : p < pos l l.length) : lastN fs (atN l p) < fs.length ∧ occT l fs p n (lastN fs (atN l p)) = true := by
  have hl := okB_lay hok
  obtain ⟨_, a2, a3, a4⟩ := at_spec hl hp0 hp1
  have hL := lastN_spec (t := (atN l p : Int)) (okB_zero hok) (by omega)
  have hq := hL.lt
  have hq2 := (last_blk hok a2 hq).1 rfl
  have he := end_at hok (lastN fs (atN l p))
  have c1 := pos_le hl hq2.1 (by omega)
  have c2 := pos_le hl (i := atN l p + 1) (j := endN l fs (lastN fs (atN l p))) hq2.2 he.2.2
  have c3 := (pos_small hl (k := fstN fs (lastN fs (atN l p))) (by have := (fst_at hok hq).2; omega)).1
  refine ⟨hq, ?_⟩
  unfold occT
  generalize pos l (fstN fs (lastN fs (atN l p))) = a at *
  generalize pos l (endN l fs (lastN fs (atN l p))) = b at *
  generalize pos l l.length = T at *
  have hr : -T ≤ p - n + 1 := by omega
  have hr2 : p - n + 1 < T := by omega
  rcases emod_cases hr hr2 with ⟨h0, e⟩ | ⟨h0, e⟩
  · rw [e]
    rcases Int.lt_or_le a (p - n + 1) with h1 | h1
    · have e2 : (p - n + 1 - a) % T = p - n + 1 - a := emod_in (by omega) (by omega)
      rw [e2, Bool.or_eq_true]
      right
      exact decide_eq_true (by omega)
    · have e2 : (a - (p - n + 1)) % T = a - (p - n + 1) := emod_in (by omega) (by omega)
      rw [e2, Bool.or_eq_true]
      left
      exact decide_eq_true (by omega)
  · rw [e]
    have e2 : (a - (p - n + 1 + T)) % T = a - (p - n + 1 + T) + T := emod_neg (by omega) (by omega)
    rw [e2, Bool.or_eq_true]
    left
    exact decide_eq_true (by omega)
theorem occL_of {l : List Seg} {fs : List Int} {p n : Int} {j : Nat} (h : occT l fs p n j = true) : ∀ {k : Nat}, j < k → (j : Int) ∈ occL l fs p n k
  | 0, hj => by omega
  | k + 1, hj => by
    unfold occL
    rcases Nat.lt_or_ge j k with h1 | h1
    · have ih := occL_of h h1
      split
      · exact List.mem_append_left _ ih
      · exact ih
    · obtain rfl : j = k := by omega
      rw [if_pos h]
      simp
/-- What is known of each front. -/
theorem front_facts {l : List Seg} {fs ps : List Int} {x p : Int} (h : bldC l fs ps x = 0) (hp : p ∈ ps) : occC l fs p x = 0 ∧ occR l fs p x = occL l fs p x fs.length ∧ posCode l fs p = 0 ∧ posBlk l fs p ∈ occL l fs p x fs.length := by
  obtain ⟨hok, _, ht⟩ := bld_parts h
  obtain ⟨t1, t2, t3, t4, t5, t6⟩ := trn_of (okB_lay hok) ht hp
  have e1 : occC l fs p x = 0 := by unfold occC; rw [if_pos hok]; exact t1
  have e2 : posCode l fs p = 0 := by
    unfold posCode
    rw [if_pos hok]
    have : inB p 0 (pos l l.length - 1) = true := by simp [inB]; omega
    rw [if_pos this]
  obtain ⟨f1, f2⟩ := occ_front hok t2 t4 t5 t6
  refine ⟨e1, by unfold occR; rw [if_pos e1], e2, ?_⟩
  unfold posBlk
  rw [if_pos e2]
  exact occL_of f2 f1
end Go.Proofs.Ythkghpmfbdojeaa
