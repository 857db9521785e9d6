/- Contracts of the code of a block, the end of a block, HoldingSegment (program and reference). No condition but the lists' sizes. -/
import Derived.Test.YthkghpmfbdojeaaAreW
namespace Go.Proofs.Ythkghpmfbdojeaa
open Go.RowKit

/-- A layout and a list of first segments, as they lie in memory. -/
structure LB (w : World) (A : Option Addr) (n : Nat) (l : List Seg) (A' : Option Addr) (c' n' : Nat) (fs : List Int) : Prop where
  hn : n = l.length
  hs : n ≤ 1048576
  hr : Rd w A (segCells l)
  hn' : n' = fs.length
  hs' : n' ≤ 1048576
  hc' : n' ≤ c'
  hm' : c' ≤ 9223372036854775807
  hr' : Rd w A' (ints fs)
theorem LB.below {w w1 : World} {A : Option Addr} {n : Nat} {l : List Seg} {A' : Option Addr} {c' n' : Nat} {fs : List Int} (h : LB w A n l A' c' n' fs) (hb : Below w.heap.size w w1) : LB w1 A n l A' c' n' fs :=
  ⟨h.hn, h.hs, h.hr.below hb, h.hn', h.hs', h.hc', h.hm', h.hr'.below hb⟩
theorem LB.alloc {w : World} {A : Option Addr} {n : Nat} {l : List Seg} {A' : Option Addr} {c' n' : Nat} {fs : List Int} (h : LB w A n l A' c' n' fs) (o : Obj) : LB (w.alloc o) A n l A' c' n' fs := h.below (below_alloc (Below.refl _ _) o)
section
variable {A : Option Addr} {c n : Nat} {l : List Seg} {A' : Option Addr} {c' n' : Nat} {fs : List Int} {w : World}
theorem k_AreBlocks (c : Nat) (h : LB w A n l A' c' n' fs) : Calls Try.prog 17 #[.agg #[.slice A n c], .slice A' n' c'] w fun e w' => e = .returned (.bool (layB l && blkB l fs)) ∧ Below w.heap.size w w' :=
  c_AreBlocks A c n l A' c' n' fs w h.hn h.hs h.hr h.hn' h.hs' h.hc' h.hm' h.hr'
theorem k_sAreBlocks (c : Nat) (h : LB w A n l A' c' n' fs) : Calls Try.prog 20 #[.agg #[.slice A n c], .slice A' n' c'] w fun e w' => e = .returned (.bool (layB l && blkB l fs)) ∧ Below w.heap.size w w' :=
  c_sAreBlocks A c n l A' c' n' fs w h.hn h.hs h.hr h.hn' h.hs' h.hr'
def okB (l : List Seg) (fs : List Int) : Bool := layB l && blkB l fs
def codeB (l : List Seg) (fs : List Int) (b : Int) : Int := if okB l fs then (if inB b 0 ((fs.length : Int) - 1) then 0 else 2) else 1
/-- The index behind the last segment of block q. -/
def endB (l : List Seg) (fs : List Int) (q : Nat) : Int := if q + 1 < fs.length then fs.getD (q + 1) 0 else l.length
theorem c_blockEnd (c q : Nat) (hq : q < n') (h : LB w A n l A' c' n' fs) :
    Calls Try.prog 70 #[.agg #[.slice A n c], .slice A' n' c', .int .i64 q] w fun e w' => e = .returned (.int .i64 (endB l fs q)) ∧ Below w.heap.size w w' := by
  have HN := Lib.hid h.hn
  have HN' := Lib.hid h.hn'
  have hs := h.hs
  have hs' := h.hs'
  rcases Nat.lt_or_ge (q + 1) n' with h1 | h1
  · obtain ⟨z, hz⟩ : ∃ z, fs[q + 1]? = some z := ⟨_, List.getElem?_eq_getElem (by have := HN'.out; omega)⟩
    have HE := Lib.hid (show endB l fs q = z by unfold endB; rw [if_pos (by have := HN'.out; omega)]; simp [hz])
    obtain ⟨b, off, rfl, _, g0⟩ := h.hr'.int hz
    have hne : ((q : Int) == (n' : Int) - 1) = false := by simp; omega
    clear hz
    go_enter Try.func70, Try.ntmps70
    go_wp2_with (first
      | (go_at_call 49
         refine (c_length_int64 _ _ _ _ (by omega)).mono ?_
         rintro e w' ⟨rfl, rfl⟩)
      )
    go_ret
    exact ⟨ret_int HE.out.symm, by (repeat (first | exact Below.refl _ _ | assumption | refine below_alloc ?_ _ | refine below_drewN ?_ _ | refine below_set ?_ _ (by simp; try omega) | refine Below.drew ?_))⟩
  · have HE := Lib.hid (show endB l fs q = n by unfold endB; rw [if_neg (by have := HN'.out; omega), HN.out])
    have hne : ((q : Int) == (n' : Int) - 1) = true := by simp; omega
    go_enter Try.func70, Try.ntmps70
    go_wp2_with (first
      | (go_at_call 49
         refine (c_length_int64 _ _ _ _ (by omega)).mono ?_
         rintro e w' ⟨rfl, rfl⟩)
      | (go_at_call 61
         refine (c_length_seg _ _ _ _ (by omega)).mono ?_
         rintro e w' ⟨rfl, rfl⟩)
      )
    go_ret
    exact ⟨ret_int HE.out.symm, by (repeat (first | exact Below.refl _ _ | assumption | refine below_alloc ?_ _ | refine below_drewN ?_ _ | refine below_set ?_ _ (by simp; try omega) | refine Below.drew ?_))⟩
theorem blkB_len {l : List Seg} {fs : List Int} (h : okB l fs = true) : 2 ≤ fs.length ∧ fs.length ≤ 8 := by
  simp only [okB, blkB, Bool.and_eq_true, inB, decide_eq_true_eq] at h
  have := h.2.1.1.1
  omega
theorem blkB_ris {l : List Seg} {fs : List Int} (h : okB l fs = true) : Ris fs (l.length : Int) := by
  simp only [okB, blkB, Bool.and_eq_true] at h
  exact risB_iff.1 h.2.1.2
theorem okB_lay {l : List Seg} {fs : List Int} (h : okB l fs = true) : Lay l := by
  simp only [okB, Bool.and_eq_true] at h
  exact layB_iff.1 h.1
theorem endB_bd {l : List Seg} {fs : List Int} (h : okB l fs = true) (q : Nat) : 1 ≤ endB l fs q ∧ endB l fs q ≤ 24 ∧ endB l fs q ≤ l.length := by
  have hl := okB_lay h
  have h1 := hl.lo
  have h2 := hl.hi
  unfold endB
  split
  · rename_i hq
    obtain ⟨z, hz⟩ : ∃ z, fs[q + 1]? = some z := ⟨_, List.getElem?_eq_getElem hq⟩
    have e : fs.getD (q + 1) 0 = z := by simp [hz]
    rw [e]
    have := ris_drop (blkB_ris h) (List.mem_of_getElem? (i := q) (by rw [List.getElem?_drop, Nat.add_comm]; exact hz))
    omega
  · omega
theorem codeB_cases (l : List Seg) (fs : List Int) (b : Int) : (codeB l fs b = 0 ∧ okB l fs = true ∧ 0 ≤ b ∧ b < fs.length) ∨ (codeB l fs b ≠ 0 ∧ (codeB l fs b = 1 ∨ codeB l fs b = 2)) := by
  unfold codeB
  rcases hok : okB l fs with _ | _
  · right; simp
  · rcases hin : inB b 0 ((fs.length : Int) - 1) with _ | _
    · right; simp
    · left
      simp only [inB, decide_eq_true_eq] at hin
      refine ⟨by simp, rfl, hin.1, by omega⟩
/-- What HoldingSegment returns. -/
def holdR (l : List Seg) (fs : List Int) (b : Int) : Int := if codeB l fs b = 0 then endB l fs b.toNat - 1 else 0
end
end Go.Proofs.Ythkghpmfbdojeaa
