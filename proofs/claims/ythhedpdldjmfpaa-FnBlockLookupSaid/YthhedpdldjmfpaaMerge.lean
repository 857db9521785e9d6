/- Contracts of MergeBlocks (program and reference). No condition but the lists' sizes. -/
import Derived.Test.YthhedpdldjmfpaaApp
import Derived.Test.YthhedpdldjmfpaaDef
namespace Go.Proofs.Ythhedpdldjmfpaa
open Go.RowKit

def mrgC (l : List Seg) (fs : List Int) (b : Int) : Int := if codeB l fs b = 0 then (if fs.length = 2 ∨ b = (fs.length : Int) - 1 then 5 else 0) else codeB l fs b
def mrgR (l : List Seg) (fs : List Int) (b : Int) : List Int := if mrgC l fs b = 0 then fs.take (b.toNat + 1) ++ fs.drop (b.toNat + 2) else []
theorem mrg_nil {l : List Seg} {fs : List Int} {b : Int} (h : mrgC l fs b ≠ 0) : mrgR l fs b = [] := by unfold mrgR; rw [if_neg h]
section
variable {A : Option Addr} {c n : Nat} {l : List Seg} {A' : Option Addr} {c' n' : Nat} {fs : List Int} {w : World}
set_option maxRecDepth 100000 in
theorem c_MergeBlocks (c : Nat) (b : Int) (h : LB w A n l A' c' n' fs) :
    Calls Try.prog 52 #[.agg #[.slice A n c], .slice A' n' c', .int .i64 b] w (RetIC (mrgR l fs b) (mrgC l fs b) w) := by
  rcases codeB_cases l fs b with ⟨hc, hok, h0, h1⟩ | ⟨hc, hcc⟩
  · obtain ⟨q, rfl⟩ : ∃ q : Nat, b = q := ⟨b.toNat, by omega⟩
    have hlen := blkB_len hok
    have hn' := h.hn'
    have hs' := h.hs'
    have HC : Hid (mrgC l fs q = if n' = 2 ∨ (q : Int) = (n' : Int) - 1 then 5 else 0) := Lib.hid (by unfold mrgC; rw [if_pos hc, hn'])
    have HL := Lib.hid hn'
    have h2 : 2 ≤ n' := by omega
    have h8 : n' ≤ 8 := by omega
    have hqn : q < n' := by omega
    clear hn' hlen h1 h0
    by_cases hx : n' = 2
    · have HM := Lib.hid (show mrgC l fs q = 5 by rw [HC.out, if_pos (.inl hx)])
      have HE := Lib.hid (mrg_nil (l := l) (fs := fs) (b := q) (by rw [HM.out]; decide))
      subst hx
      go_enter Try.func52, Try.ntmps52
      go_wp2_with (first
        | (go_at_call 85
           refine (c_blockCode _ _ (h.alloc _)).mono ?_
           rintro e w1 ⟨rfl, hb⟩
           first | replace B := below_chain B hb | (have B : Below w.heap.size w w1 := below_chain (by (repeat (first | exact Below.refl _ _ | assumption | refine below_alloc ?_ _ | refine below_drewN ?_ _ | refine below_set ?_ _ (by simp; try omega) | refine Below.drew ?_))) hb)
           clear hb)
        )
      go_ret2
      rw [HM.out]
      exact retIC_nil HE.out (by (repeat (first | exact Below.refl _ _ | assumption | refine below_alloc ?_ _ | refine below_drewN ?_ _ | refine below_set ?_ _ (by simp; try omega) | refine Below.drew ?_)))
    by_cases hy : (q : Int) = (n' : Int) - 1
    · have HM := Lib.hid (show mrgC l fs q = 5 by rw [HC.out, if_pos (.inr hy)])
      have HE := Lib.hid (mrg_nil (l := l) (fs := fs) (b := q) (by rw [HM.out]; decide))
      have hy' : ((q : Int) == (n' : Int) - 1) = true := by simp [hy]
      clear hy
      go_enter Try.func52, Try.ntmps52
      go_wp2_with (first
        | (go_at_call 85
           refine (c_blockCode _ _ (h.alloc _)).mono ?_
           rintro e w1 ⟨rfl, hb⟩
           first | replace B := below_chain B hb | (have B : Below w.heap.size w w1 := below_chain (by (repeat (first | exact Below.refl _ _ | assumption | refine below_alloc ?_ _ | refine below_drewN ?_ _ | refine below_set ?_ _ (by simp; try omega) | refine Below.drew ?_))) hb)
           clear hb)
        | (go_at_call 103
           refine (c_length_int64 _ _ _ _ (by omega)).mono ?_
           rintro e w' ⟨rfl, rfl⟩)
        )
      go_ret2
      rw [HM.out]
      exact retIC_nil HE.out (by (repeat (first | exact Below.refl _ _ | assumption | refine below_alloc ?_ _ | refine below_drewN ?_ _ | refine below_set ?_ _ (by simp; try omega) | refine Below.drew ?_)))
    have HM := Lib.hid (show mrgC l fs q = 0 by rw [HC.out, if_neg (by omega)])
    have HE := Lib.hid (show mrgR l fs q = fs.take (q + 1) ++ fs.drop (q + 1 + 1) by unfold mrgR; rw [if_pos HM.out, Int.toNat_natCast])
    obtain ⟨b0, off, rfl, _, _⟩ := h.hr'.some_ (by intro e; have := HL.out; rw [← ints_length, e] at this; simp at this; omega)
    have hq1 : q + 1 < n' := by omega
    have hx' : ((n' : Int) == 2) = false := by simp; omega
    have hy' : ((q : Int) == (n' : Int) - 1) = false := by simp; omega
    clear hx hy
    go_enter Try.func52, Try.ntmps52
    go_wp2_with (fail)
    refine (c_blockCode _ _ (by exact h.alloc _)).mono ?_
    rintro e w1 ⟨rfl, hb⟩
    have hstep : Below w.heap.size w w1 := below_chain (by (repeat (first | exact Below.refl _ _ | assumption | refine below_alloc ?_ _ | refine below_drewN ?_ _ | refine below_set ?_ _ (by simp; try omega) | refine Below.drew ?_))) hb
    have B : Below w.heap.size w w1 := hstep
    have h' := Lib.hid ((h.alloc (.cells #[.slice A n c] 40)).below hb)
    clear hb hstep
    go_wp2_with (first
      | (go_at_call 103
         refine (c_length_int64 _ _ _ _ (by omega)).mono ?_
         rintro e w' ⟨rfl, rfl⟩)
      | (go_at_call 105
         refine (c_Clone b0 off c' n' fs _ HL.out (by omega) h'.out.hr').mono ?_
         rintro e w2 ⟨g, cg, rfl, ho, hb⟩
         have HO := Lib.hid ho
         have hg := ho.lt g rfl
         have HG := Lib.hid (show w.heap.size ≤ g ∧ g < w2.heap.size by have := B.size; omega)
         have HB := Lib.hid (below_chain B hb)
         clear ho hb hg)
      | (go_at_call 104
         refine (k_Delete1 g cg n' (q + 1) _ _ _ fs _ (by omega) (by omega) (by omega) HO.out).mono ?_
         rintro e w3 ⟨rfl, ho, hg⟩
         have HO3 := Lib.hid ho
         have HB3 := Lib.hid (below_of_grown HB.out hg (fun k hk => by have := HG.out; simp at hk; omega))
         clear ho hg)
      )
    go_ret2
    have e1 : n' - 1 = (mrgR l fs q).length := by rw [HE.out]; have := HL.out; simp; omega
    rw [HM.out]
    refine ⟨some ⟨g, 0, none⟩, cg, ?_, ?_, HB3.out⟩
    · rw [← e1]; rfl
    · rw [← e1, HE.out]; exact own_mono HO3.out B.size
  · have HM := Lib.hid (show mrgC l fs b = codeB l fs b by unfold mrgC; rw [if_neg hc])
    have HE := Lib.hid (mrg_nil (l := l) (fs := fs) (b := b) (by rw [HM.out]; exact hc))
    have hc' : (codeB l fs b == 0) = false := by simp [hc]
    clear hc hcc
    go_enter Try.func52, Try.ntmps52
    go_wp2_with (first
      | (go_at_call 85
         refine (c_blockCode _ _ (h.alloc _)).mono ?_
         rintro e w1 ⟨rfl, hb⟩
         first | replace B := below_chain B hb | (have B : Below w.heap.size w w1 := below_chain (by (repeat (first | exact Below.refl _ _ | assumption | refine below_alloc ?_ _ | refine below_drewN ?_ _ | refine below_set ?_ _ (by simp; try omega) | refine Below.drew ?_))) hb)
         clear hb)
      )
    go_ret2
    rw [HM.out]
    exact retIC_nil HE.out (by (repeat (first | exact Below.refl _ _ | assumption | refine below_alloc ?_ _ | refine below_drewN ?_ _ | refine below_set ?_ _ (by simp; try omega) | refine Below.drew ?_)))
end
end Go.Proofs.Ythhedpdldjmfpaa
