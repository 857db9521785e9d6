/- Contract of the reference's MergeBlocks. No condition but the lists' sizes. -/
import Derived.Test.YthhedpdldjmfpaaMerge
namespace Go.Proofs.Ythhedpdldjmfpaa
open Go.RowKit
section
variable {A : Option Addr} {c n : Nat} {l : List Seg} {A' : Option Addr} {c' n' : Nat} {fs : List Int} {w : World}
set_option maxRecDepth 100000 in
theorem c_sMergeBlocks (c : Nat) (b : Int) (h : LB w A n l A' c' n' fs) :
    Calls Try.prog 51 #[.agg #[.slice A n c], .slice A' n' c', .int .i64 b] w (RetIC (mrgR l fs b) (mrgC l fs b) w) := by
  rcases codeB_cases l fs b with ⟨hc, hok, h0, h1⟩ | ⟨hc, hcc⟩
  · obtain ⟨q, rfl⟩ : ∃ q : Nat, b = q := ⟨b.toNat, by omega⟩
    have hlen := blkB_len hok
    have hn' := h.hn'
    have hs' := h.hs'
    have HC : Hid (mrgC l fs q = if n' = 2 ∨ (q : Int) = (n' : Int) - 1 then 5 else 0) := Lib.hid (by unfold mrgC; rw [if_pos hc, hn'])
    have HL := Lib.hid hn'
    have h2 : 2 ≤ n' := by omega
    have h8 : n' ≤ 8 := by omega
    have hqn : q < n' := by omega
    have hcap := h.hc'
    have hcm := h.hm'
    clear hn' hlen h1 h0
    by_cases hy : (q : Int) = (n' : Int) - 1
    · have HM := Lib.hid (show mrgC l fs q = 5 by rw [HC.out, if_pos (.inr hy)])
      have HE := Lib.hid (mrg_nil (l := l) (fs := fs) (b := q) (by rw [HM.out]; decide))
      have hy' : ((q : Int) == (n' : Int) - 1) = true := by simp [hy]
      clear hy
      go_enter Try.func51, Try.ntmps51
      go_wp2_with (first
        | (go_at_call 83
           refine (c_l04Block _ _ (h.alloc _)).mono ?_
           rintro e w1 ⟨rfl, hb⟩
           first | replace B := below_chain B hb | (have B : Below w.heap.size w w1 := below_chain (by (repeat (first | exact Below.refl _ _ | assumption | refine below_alloc ?_ _ | refine below_drewN ?_ _ | refine below_set ?_ _ (by simp; try omega) | refine Below.drew ?_))) hb)
           clear hb)
        )
      go_ret2
      rw [HM.out]
      exact retIC_nil HE.out (by (repeat (first | exact Below.refl _ _ | assumption | refine below_alloc ?_ _ | refine below_drewN ?_ _ | refine below_set ?_ _ (by simp; try omega) | refine Below.drew ?_)))
    have hy' : ((q : Int) == (n' : Int) - 1) = false := by simp; omega
    by_cases hx : n' = 2
    · have HM := Lib.hid (show mrgC l fs q = 5 by rw [HC.out, if_pos (.inl hx)])
      have HE := Lib.hid (mrg_nil (l := l) (fs := fs) (b := q) (by rw [HM.out]; decide))
      obtain rfl : q = 0 := by omega
      have hc0 : codeB l fs 0 = 0 := by simpa using hc
      clear hy hy' hc
      subst hx
      go_enter Try.func51, Try.ntmps51
      go_wp2_with (first
        | (go_at_call 83
           refine (c_l04Block _ _ (h.alloc _)).mono ?_
           rintro e w1 ⟨rfl, hb⟩
           first | replace B := below_chain B hb | (have B : Below w.heap.size w w1 := below_chain (by (repeat (first | exact Below.refl _ _ | assumption | refine below_alloc ?_ _ | refine below_drewN ?_ _ | refine below_set ?_ _ (by simp; try omega) | refine Below.drew ?_))) hb)
           clear hb)
        )
      go_ret2
      rw [HM.out]
      exact retIC_nil HE.out (by (repeat (first | exact Below.refl _ _ | assumption | refine below_alloc ?_ _ | refine below_drewN ?_ _ | refine below_set ?_ _ (by simp; try omega) | refine Below.drew ?_)))
    have HM := Lib.hid (show mrgC l fs q = 0 by rw [HC.out, if_neg (by omega)])
    have HE := Lib.hid (show mrgR l fs q = fs.take (q + 1) ++ fs.drop (q + 2) by unfold mrgR; rw [if_pos HM.out, Int.toNat_natCast])
    obtain ⟨b0, off, rfl, hb0, _⟩ := h.hr'.some_ (by intro e; have := HL.out; rw [← ints_length, e] at this; simp at this; omega)
    have hq1 : q + 1 < n' := by omega
    have hx' : ((n' : Int) == 2) = false := by simp; omega
    clear hx hy
    obtain ⟨ad, had, HAD⟩ : ∃ ad : Addr, (if c' = q + 2 then some (⟨b0, off, none⟩ : Addr) else some ⟨b0, off + (q + 2), none⟩) = some ad ∧ Hid (Rd w (some ad) (ints (fs.drop (q + 2)))) := by
      by_cases h9 : c' = q + 2
      · refine ⟨⟨b0, off, none⟩, by simp [h9], Lib.hid (.inl ?_)⟩
        rw [show fs.drop (q + 2) = [] from List.drop_eq_nil_of_le (by have := HL.out; omega)]
        rfl
      · refine ⟨⟨b0, off + (q + 2), none⟩, by simp [h9], Lib.hid ?_⟩
        have := h.hr'.cut (q + 2)
        rwa [ints_drop] at this
    have HT : Hid (Rd w (some ⟨b0, off, none⟩) (ints (fs.take (q + 1)))) := by
      rcases h.hr' with h9 | ⟨b1, o1, e1, hl1, hcl⟩
      · exact Lib.hid (.inl (by rw [show fs = [] by simpa [ints] using h9]; rfl))
      · refine Lib.hid (.inr ⟨b1, o1, e1, hl1, fun j u hu => hcl j u ?_⟩)
        simp only [ints, List.getElem?_map, List.getElem?_take] at hu ⊢
        split at hu
        · exact hu
        · simp at hu
    go_enter Try.func51, Try.ntmps51
    go_wp2_with (fail)
    refine (c_l04Block _ _ (by exact h.alloc _)).mono ?_
    rintro e w1 ⟨rfl, hb⟩
    have hstep : Below w.heap.size w w1 := below_chain (by (repeat (first | exact Below.refl _ _ | assumption | refine below_alloc ?_ _ | refine below_drewN ?_ _ | refine below_set ?_ _ (by simp; try omega) | refine Below.drew ?_))) hb
    have B : Below w.heap.size w w1 := hstep
    clear hb hstep
    have hq2 : q + 1 ≤ c' := by omega
    have hq3 : q + 2 ≤ c' := by omega
    have hq4 : q + 2 ≤ n' := by omega
    have hi1 : (0 : Int) ≤ (q : Int) + 1 := by omega
    have hi2 : (q : Int) + 1 ≤ c' := by omega
    have hi3 : (0 : Int) ≤ (q : Int) + 2 := by omega
    have hi4 : (q : Int) + 2 ≤ n' := by omega
    have ht1 : ((q : Int) + 1).toNat = q + 1 := by omega
    have ht2 : ((q : Int) + 2).toNat = q + 2 := by omega
    have hw1 : IntKind.i64.wrap ((q : Int) + 1) = (q : Int) + 1 := IntWalk.i64_in _ (by omega)
    have hw2 : IntKind.i64.wrap ((q : Int) + 2) = (q : Int) + 2 := IntWalk.i64_in _ (by omega)
    have HTT := Lib.hid (HT.out.below B)
    have HAA := Lib.hid (HAD.out.below B)
    have BB := Lib.hid B
    go_wp2_with (fail)
    go_region_held3 (fun _ => True) (first | exact trivial) (first
      | (refine step_append_ints _ (by rfl) (.tmp 30) (.tmp 34) (by rfl) w1.heap.size (.slice (some ⟨g, 0, none⟩) (q + 1) cg) (q + 1) (fs.take (q + 1)) (fs.drop (q + 2)) ad (n' - (q + 2)) (c' - (q + 2)) (by rfl) (by exact HO.out) (by rfl) (by exact HA2.out) (by have := HL.out; simp; omega) (by omega) (by have := HS.out; omega) ?_
         intro v3 w3 ho hg hnil)
      | (go_at_call 102
         refine (c_l01Own b0 off c' (q + 1) (fs.take (q + 1)) _ (by have := HL.out; simp; omega) (by omega) (by exact HTT.out)).mono ?_
         rintro e w2 ⟨g, cg, rfl, ho, hb⟩
         have HO := Lib.hid ho
         have hg : w1.heap.size ≤ g ∧ g < w2.heap.size := ho.lt g rfl
         have HG := Lib.hid (show w.heap.size ≤ g ∧ g < w2.heap.size by have := B.size; omega)
         have HB := Lib.hid (below_chain (by exact BB.out.drew) hb)
         have HA2 := Lib.hid (Rd.below (by exact HAA.out) hb)
         have HS := Lib.hid (show w1.heap.size ≤ w2.heap.size from hb.size)
         clear ho hb hg))
    have hrow : ∀ k, (Value.slice (some ⟨g, 0, none⟩) (q + 1) cg).ownBlock = some k → w.heap.size ≤ k := by
      intro k hk
      have := HG.out
      simp [Value.ownBlock] at hk
      omega
    have HB3 := Lib.hid (below_of_grown HB.out hg hrow)
    have e1 : q + 1 + (n' - (q + 2)) = (mrgR l fs q).length := by rw [HE.out]; have := HL.out; simp; omega
    obtain ⟨Av, cv, rfl⟩ : ∃ Av cv, v3 = .slice Av (q + 1 + (n' - (q + 2))) cv := by
      rcases ho.2 with ⟨h9, h8⟩ | ⟨g9, cap9, cur9, h9, _⟩
      · omega
      · exact ⟨_, _, h9⟩
    have HO3 := Lib.hid ho
    clear ho hg hnil hrow
    go_wp2_with (fail)
    go_ret2
    rw [HM.out]
    refine ⟨Av, cv, ?_, ?_, HB3.out⟩
    · rw [← e1]; rfl
    · rw [← e1, HE.out]; exact own_mono HO3.out B.size
  · have HM := Lib.hid (show mrgC l fs b = codeB l fs b by unfold mrgC; rw [if_neg hc])
    have HE := Lib.hid (mrg_nil (l := l) (fs := fs) (b := b) (by rw [HM.out]; exact hc))
    have hc' : (codeB l fs b == 0) = false := by simp [hc]
    clear hc hcc
    go_enter Try.func51, Try.ntmps51
    go_wp2_with (first
      | (go_at_call 83
         refine (c_l04Block _ _ (h.alloc _)).mono ?_
         rintro e w1 ⟨rfl, hb⟩
         first | replace B := below_chain B hb | (have B : Below w.heap.size w w1 := below_chain (by (repeat (first | exact Below.refl _ _ | assumption | refine below_alloc ?_ _ | refine below_drewN ?_ _ | refine below_set ?_ _ (by simp; try omega) | refine Below.drew ?_))) hb)
         clear hb)
      )
    go_ret2
    rw [HM.out]
    exact retIC_nil HE.out (by (repeat (first | exact Below.refl _ _ | assumption | refine below_alloc ?_ _ | refine below_drewN ?_ _ | refine below_set ?_ _ (by simp; try omega) | refine Below.drew ?_)))
end
end Go.Proofs.Ythhedpdldjmfpaa
