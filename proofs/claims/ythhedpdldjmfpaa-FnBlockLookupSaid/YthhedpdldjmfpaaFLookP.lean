/- The plain law of looking a block up. No program in sight. -/
import Derived.Test.YthhedpdldjmfpaaFMrgP
import Derived.Test.YthhedpdldjmfpaaOccP
namespace Go.Proofs.Ythhedpdldjmfpaa
open Go.RowKit

/-- What is known where a position has a block. -/
structure Look (l : List Seg) (fs : List Int) (p : Int) (pb : Int) (k q : Nat) (P1 P2 : Int) : Prop where
  ok : okB l fs = true
  p0 : 0 ≤ p
  p1 : p < pos l l.length
  ek : k = atN l p
  eq : pb = q
  sc : segCode l fs k = 0
  sb : segBlk l fs k = q
  cd : codeB l fs (q : Int) = 0
  st : startR l fs (q : Int) = P1
  ln : lengthR l fs (q : Int) = P2 - P1
  lo : P1 ≤ p
  hi : p < P2
  b0 : 0 ≤ P1
  b1 : P2 ≤ 4800000
theorem look_facts {l : List Seg} {fs : List Int} {p : Int} (h : posCode l fs p = 0) : ∃ k q P1 P2, Look l fs p (posBlk l fs p) k q P1 P2 := by
  have hb : posBlk l fs p = lastN fs (atN l p) := by unfold posBlk; rw [if_pos h]
  unfold posCode at h
  rcases hok : okB l fs with _ | _
  · rw [hok] at h; simp at h
  · rw [hok, if_pos rfl] at h
    rcases hin : inB p 0 (pos l l.length - 1) with _ | _
    · rw [hin] at h; simp at h
    · simp [inB] at hin
      have hl := okB_lay hok
      have h0 : 0 ≤ p := hin.1
      have h1 : p < pos l l.length := by omega
      obtain ⟨_, a2, a3, a4⟩ := at_spec hl h0 h1
      have hL := lastN_spec (t := (atN l p : Int)) (okB_zero hok) (by omega)
      have hq := hL.lt
      have hq2 := (last_blk hok a2 hq).1 rfl
      have he := end_at hok (lastN fs (atN l p))
      have c1 := pos_le hl hq2.1 (by omega)
      have c2 := pos_le hl (i := atN l p + 1) (j := endN l fs (lastN fs (atN l p))) hq2.2 he.2.2
      have hsc : segCode l fs (atN l p) = 0 := by
        unfold segCode
        rw [hok, if_pos rfl]
        simp [inB]; omega
      refine ⟨atN l p, lastN fs (atN l p), pos l (fstN fs (lastN fs (atN l p))), pos l (endN l fs (lastN fs (atN l p))), hok, h0, h1, rfl, hb, hsc, by unfold segBlk; rw [if_pos hsc], code_at hok hq, start_at hok hq, length_at hok hq, by omega, by omega, ?_, ?_⟩
      · exact (pos_small hl (by have := (fst_at hok hq).2; omega)).1
      · exact (pos_small hl he.2.2).2
end Go.Proofs.Ythhedpdldjmfpaa
