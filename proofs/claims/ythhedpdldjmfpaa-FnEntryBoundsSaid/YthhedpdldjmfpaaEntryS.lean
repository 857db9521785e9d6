/- Contract of the reference's energies with which a train may enter a block. Condition: the blocks are valid. -/
import Derived.Test.YthhedpdldjmfpaaEntry
namespace Go.Proofs.Ythhedpdldjmfpaa
open Go.RowKit

theorem k_l06Needed (A : Option Addr) (c n f m : Nat) (x : Int) (l : List Seg) (w : World) (hn : n = l.length) (hs : n ≤ 24) (hr : Rd w A (segCells l)) (hok : l.all segOk = true) (hf : f + m ≤ n) (hx : x = m) :
    Calls Try.prog 146 #[.agg #[.slice A n c], .int .i64 f, .int .i64 x] w fun e w' => e = .returned (.int .i64 (mxN (l.drop f) m)) ∧ Below w.heap.size w w' := by
  subst hx
  exact c_l06Needed A c n f m l w hn hs hr hok hf
section
variable {A : Option Addr} {c n : Nat} {l : List Seg} {A' : Option Addr} {c' n' : Nat} {fs : List Int} {w : World}
/-- The least and the greatest energy, as the reference gives them. -/
def entS (xs : List Seg) (m : Nat) (s : Seg) : Int × Int := if slowBad s then (0, -1) else (mxN xs m, eHi xs m s)
set_option maxHeartbeats 2000000 in
set_option maxRecDepth 100000 in
theorem c_l07Entry (c q f e : Nat) (hok : okB l fs = true) (hq : q < n') (h : LB w A n l A' c' n' fs) (hfe : f = fstN fs q) (hee : e = endN l fs q) :
    Calls Try.prog 109 #[.agg #[.slice A n c], .slice A' n' c', .int .i64 q] w fun e' w' => e' = .returned (.tuple #[.int .i64 (entS (l.drop f) (e - 1 - f) (segN l (e - 1))).1, .int .i64 (entS (l.drop f) (e - 1 - f) (segN l (e - 1))).2]) ∧ Below w.heap.size w w' := by
  have HN := Lib.hid h.hn
  have hl := okB_lay hok
  have hf := fst_at hok (q := q) (by have := h.hn'; omega)
  have he := end_at hok q
  have hlt := fst_end hok (q := q) (by have := h.hn'; omega)
  rw [← hfe] at hf hlt
  rw [← hee] at he hlt
  have hn24 : n ≤ 24 := by have := hl.hi; have := h.hn; omega
  have hen : e ≤ n := by have := h.hn; omega
  obtain ⟨b, off, rfl, hbl, g0⟩ := h.hr'.int hf.1
  have HE := Lib.hid he.1
  have HOK := Lib.hid (lay_all hl)
  obtain ⟨s, hz⟩ : ∃ z, l[e - 1]? = some z := ⟨_, List.getElem?_eq_getElem (by have := h.hn; omega)⟩
  have HS : Hid (segN l (e - 1) = s) := Lib.hid (by simp [segN, hz])
  have HZ := Lib.hid hz
  have HSG := Lib.hid (ok_at HOK.out hz)
  obtain ⟨m, hm⟩ : ∃ m, m = e - 1 - f := ⟨_, rfl⟩
  have hfm : f + m + 1 = e := by omega
  rw [HS.out, ← hm]
  have HR1 := Lib.hid h.hr
  have k0 : (w.alloc (.cells #[.slice A n c] 40)).cell? ⟨w.heap.size, 0, none⟩ = some (.slice A n c) := by go_simp
  have g1 : (w.alloc (.cells #[.slice A n c] 40)).cell? ⟨b, off + q, none⟩ = some (.int .i64 f) := by go_simp
  have HL1 := Lib.hid (h.alloc (.cells #[.slice A n c] 40))
  have HB1 := Lib.hid (below_alloc (Below.refl w.heap.size w) (.cells #[.slice A n c] 40))
  clear hf he hz hl hm hfe hee hok g0 h
  go_enter Try.func109, Try.ntmps109
  go_wp2_with (fail)
  generalize w.alloc (.cells #[.slice A n c] 40) = W1 at k0 g1 HL1 HB1 ⊢
  have hw1 : IntKind.i64.wrap ((e : Int) - 1) = (e : Int) - 1 := IntWalk.i64_in _ (by omega)
  go_region_held3 (fun w' => w'.cell? ⟨w.heap.size, 0, none⟩ = some (.slice A n c) ∧ w'.cell? ⟨b, off + q, none⟩ = some (.int .i64 f)) (first | exact ⟨k0, g1⟩ | exact ⟨k2, g2⟩)
    (first
      | (go_at_call 84
         refine (c_l04End _ q hq (by exact HL1.out.drew)).mono ?_
         rintro e2 w2 ⟨rfl, hb2⟩
         rw [HE.out]
         have k2 : w2.cell? ⟨w.heap.size, 0, none⟩ = some (.slice A n c) := cell_later hb2 (by exact k0)
         have g2 : w2.cell? ⟨b, off + q, none⟩ = some (.int .i64 f) := cell_later hb2 (by exact g1)
         have HB2 := Lib.hid (below_chain (by exact HB1.out.drew) hb2)
         clear hb2))
  have HR2 := Lib.hid (HR1.out.below HB2.out)
  go_wp2_with (fail)
  refine (k_l06Needed A c n f m _ l _ HN.out hn24 HR2.out HOK.out (by omega) (by omega)).mono ?_
  rintro e3 w3 ⟨rfl, hb3⟩
  have k3 : w3.cell? ⟨w.heap.size, 0, none⟩ = some (.slice A n c) := cell_later hb3 k2
  have HB3 := Lib.hid (below_chain HB2.out hb3)
  have HD := Lib.hid (drop_ok HOK.out f)
  have HLL : Hid (m ≤ (l.drop f).length) := Lib.hid (by have := HN.out; simp; omega)
  clear hb3 k0 g1 k2 g2
  have hf1 := fld1
  have hf0 := fld0
  go_wp2_with (fail)
  go_loopw [11, 12, 13] (fun p q i wr => ∃ j : Nat, j ≤ m ∧ i = .int .i64 ((f : Int) + j) ∧ p = .int .i64 (10000000000 - mxP (l.drop f) j) ∧ q = .int .i64 (sC cHi (l.drop f) j) ∧ wr.cell? ⟨w.heap.size, 0, none⟩ = some (.slice A n c) ∧ Below w.heap.size w wr) (fun _ _ i _ => (f + m) - (intOf i).toNat)
  case atStart => exact ⟨0, Nat.zero_le _, by simp, by simp [mxP], rfl, k3, HB3.out⟩
  case round =>
    obtain ⟨j, hj, rfl, rfl, rfl, hbox, hb⟩ := hrel
    clear k3
    have hbh := sC_bd HD.out (fun s => cHi_bd) (j := j) (by have := HLL.out; omega)
    have hbp := mxP_bd HD.out (j := j) (by have := HLL.out; omega)
    have hm24 : m ≤ 24 := by omega
    by_cases hjm : j < m
    · obtain ⟨t, hz⟩ : ∃ z, (l.drop f)[j]? = some z := ⟨_, List.getElem?_eq_getElem (by have := HLL.out; omega)⟩
      have hz2 : l[f + j]? = some t := by rw [← hz, List.getElem?_drop]
      have HST := Lib.hid (ok_at HD.out hz)
      have hch := cHi_bd (segBd HST.out)
      have HHI := Lib.hid (sC_succ (g := cHi) hz)
      have HB := Lib.hid hb
      obtain ⟨b1, o1, rfl, hb1, z0, z1, z2, z3, z4, z5, z6⟩ := (HR1.out.below hb).seg hz2
      have HC := c_l06Change t
      unfold Seg.val at HC
      have hi0 : (0 : Int) ≤ (f : Int) + j := by omega
      have hi1 : (f : Int) + j < n := by omega
      have hi2 : (f : Int) + j < (e : Int) - 1 := by omega
      have ht : ((f : Int) + j).toNat = f + j := by omega
      clear hz hz2 hb
      go_wp2_with (first
        | (go_at_call 115
           refine (HC _ HST.out).mono ?_
           rintro e4 w4 ⟨rfl, hb4⟩
           have HB4 := Lib.hid (below_chain HB.out hb4)
           have hbox4 := cell_later hb4 hbox
           clear hb4)
        )
      go_roundw
      case rel =>
        refine ⟨j + 1, by omega, by congr 1 <;> omega, ?_, by rw [HHI.out], hbox4, HB4.out⟩
        rw [mxP, HHI.out]; congr 1; split <;> omega
      case measure => simp [intOf]; omega
    · obtain rfl : j = m := by omega
      have HB := Lib.hid hb
      obtain ⟨b1, o1, rfl, hb1, z0, z1, z2, z3, z4, z5, z6⟩ := (HR1.out.below hb).seg HZ.out
      have hi0 : (0 : Int) ≤ (e : Int) - 1 := by omega
      have hi1 : (e : Int) - 1 < n := by omega
      have hj1 : (f : Int) + j = (e : Int) - 1 := by omega
      have hj2 : ¬ ((f : Int) + j < (e : Int) - 1) := by omega
      have ht : ((e : Int) - 1).toNat = e - 1 := by omega
      have hbw := wLo_bd (segBd HSG.out)
      have HC := c_l07Brake s
      have HK := c_l07Work s
      unfold Seg.val at HC HK
      have hwr : IntKind.i64.wrap (wLo s - sC cHi (l.drop f) j) = wLo s - sC cHi (l.drop f) j := IntWalk.i64_in _ (by omega)
      clear hb hj1
      rcases hbr : brkB s.k with _ | _
      · have HT := Lib.hid (show entS (l.drop f) j s = (mxN (l.drop f) j, 10000000000 - mxP (l.drop f) j) from by simp [entS, slowBad, eHi, hbr])
        go_wp2_with (first
          | (go_at_call 116
             refine (HC _).mono ?_
             rintro e4 w4 ⟨rfl, hb4⟩
             have HB4 := Lib.hid (below_chain HB.out hb4)
             clear hb4)
          )
        go_ret2
        rw [HT.out]
        exact ⟨rfl, HB4.out⟩
      · rcases hsl : decide (1 ≤ wLo s) with _ | _
        · have HT := Lib.hid (show entS (l.drop f) j s = (0, -1) from by simp [entS, slowBad, hbr, hsl])
          have hsl' : wLo s < 1 := by have := of_decide_eq_false hsl; omega
          go_wp2_with (first
            | (go_at_call 116
               refine (HC _).mono ?_
               rintro e4 w4 ⟨rfl, hb4⟩
               have HB4 := Lib.hid (below_chain HB.out hb4)
               have hbox4 := cell_later hb4 hbox
               obtain ⟨_, _, ey, _, y0, y1, y2, y3, y4, y5, y6⟩ := (HR1.out.below HB4.out).seg HZ.out
               simp only [Option.some.injEq, Addr.mk.injEq, and_true] at ey
               obtain ⟨rfl, rfl⟩ := ey
               clear hb4)
            | (go_at_call 118
               refine (HK _ HSG.out).mono ?_
               rintro e5 w5 ⟨rfl, hb5⟩
               have HB5 := Lib.hid (below_chain HB4.out hb5)
               clear hb5)
            )
          go_ret2
          rw [HT.out]
          exact ⟨rfl, HB5.out⟩
        · have HT := Lib.hid (show entS (l.drop f) j s = (mxN (l.drop f) j, min (10000000000 - mxP (l.drop f) j) (wLo s - sC cHi (l.drop f) j)) from by simp [entS, slowBad, eHi, hbr, hsl])
          have hsl' : ¬ wLo s < 1 := by have := of_decide_eq_true hsl; omega
          go_wp2_with (first
            | (go_at_call 116
               refine (HC _).mono ?_
               rintro e4 w4 ⟨rfl, hb4⟩
               have HB4 := Lib.hid (below_chain HB.out hb4)
               have hbox4 := cell_later hb4 hbox
               obtain ⟨_, _, ey, _, y0, y1, y2, y3, y4, y5, y6⟩ := (HR1.out.below HB4.out).seg HZ.out
               simp only [Option.some.injEq, Addr.mk.injEq, and_true] at ey
               obtain ⟨rfl, rfl⟩ := ey
               clear hb4)
            | (go_at_call 118
               refine (HK _ HSG.out).mono ?_
               rintro e5 w5 ⟨rfl, hb5⟩
               have HB5 := Lib.hid (below_chain HB4.out hb5)
               clear hb5)
            )
          all_goals
            go_ret2
            rw [HT.out]
            refine ⟨?_, HB5.out⟩
            first
              | (rw [show min (10000000000 - mxP (l.drop f) j) (wLo s - sC cHi (l.drop f) j) = 10000000000 - mxP (l.drop f) j by omega]; rfl)
              | (rw [show min (10000000000 - mxP (l.drop f) j) (wLo s - sC cHi (l.drop f) j) = wLo s - sC cHi (l.drop f) j by omega]; rfl)
end
end Go.Proofs.Ythhedpdldjmfpaa
