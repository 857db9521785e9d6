/- The walk of the law FnBlocks. -/
import Derived.Test.YthhedpdldjmfpaaFBlk
namespace Go.Proofs.Ythhedpdldjmfpaa
open Go.RowKit

set_option maxHeartbeats 1000000 in
set_option maxRecDepth 100000 in
theorem law_FnBlocks (A : Option Addr) (c n : Nat) (w : World) (hb : Bytes w w.heap.size A n) :
    Calls Try.prog 7 #[.slice A n c] w fun e w' => e = .returned (.bool true) ∧ Below w.heap.size w w' := by
  rcases Nat.lt_or_ge 4096 n with hbig | hbig
  · have hd : decide (4096 < n) = true := by simp; omega
    go_enter Try.func7, Try.ntmps7
    go_wp2_with (first
      | (go_at_call 39
         refine (c_big _ _ _ _).mono ?_
         rintro e w' ⟨rfl, rfl⟩)
      )
    go_ret
    exact ⟨rfl, by (repeat (first | exact Below.refl _ _ | assumption | refine below_alloc ?_ _ | refine below_drewN ?_ _ | refine below_set ?_ _ (by simp; try omega) | refine Below.drew ?_))⟩
  have hd : decide (4096 < n) = false := by simp; omega
  go_enter Try.func7, Try.ntmps7
  go_wp2_with (first
    | (go_at_call 39
       refine (c_big _ _ _ _).mono ?_
       rintro e w' ⟨rfl, rfl⟩)
    )
  refine (c_DrawDefaultBlocks A c n w hbig hb).mono ?_
  rintro e w1 ⟨A1, c1, l, rfl, hl100, ho, B⟩
  have hcap := own_cap ho
  unfold maxLen at hcap
  have r1 := Rd.own ho
  clear ho hb
  go_wp2_with (fail)
  have k0 : (w1.alloc (.cells #[.slice A1 l.length c1] 40)).cell? ⟨w1.heap.size, 0, none⟩ = some (.slice A1 l.length c1) := by go_simp
  replace r1 := r1.alloc (.cells #[.slice A1 l.length c1] 40)
  replace B := below_alloc B (.cells #[.slice A1 l.length c1] 40)
  generalize w1.alloc (.cells #[.slice A1 l.length c1] 40) = W at k0 r1 B ⊢
  generalize hn1 : l.length = n1 at *
  have HN := Lib.hid hn1.symm
  clear hn1
  generalize w1.heap.size = b0 at *
  refine (c_DefaultBlocks A1 c1 n1 l _ HN.out (by omega) hcap.1 (by omega) r1).mono ?_
  rintro e w2 ⟨A2, c2, rfl, ho2, hb⟩
  have hcap2 := own_cap ho2
  unfold maxLen at hcap2
  have r2 := Rd.own ho2
  replace k0 := cell_later hb k0
  replace r1 := r1.below hb
  replace B := below_chain B hb
  clear hb ho2
  go_wp2_with (fail)
  refine (c_sDefaultBlocks A1 c1 n1 l _ HN.out (by omega) hcap.1 (by omega) r1).mono ?_
  rintro e w3 ⟨A3, c3, rfl, ho3, hb⟩
  have r3 := Rd.own ho3
  replace k0 := cell_later hb k0
  replace r1 := r1.below hb
  replace r2 := r2.below hb
  replace B := below_chain B hb
  clear hb ho3
  have hfl : (dflR l).length ≤ 1048576 := by
    have := dfl_len l (l.length - 1)
    unfold dflR
    split
    · have := HN.out; omega
    · simp
  generalize hn2 : (dflR l).length = n2 at *
  have HN2 := Lib.hid hn2.symm
  clear hn2
  have HLK := Lib.hid (fun (w : World) (h2 : Rd w A2 (ints (dflR l))) (h3 : Rd w A3 (ints (dflR l))) => c_likeInts A2 A3 c2 c3 n2 n2 (dflR l) w HN2.out HN2.out (by have := HN2.out; omega) h2 h3)
  rcases Decidable.em (dflC l = 0) with hc | hc
  · have hok := (dfl_okB hc).1
    have hlay := (dfl_okB hc).2
    have HC := Lib.hid hc
    rw [HC.out]
    clear hc
    generalize dflR l = fs at *
    go_wp2_with (fail)
    refine (HLK.out _ r2 r3).mono ?_
    rintro e w4 ⟨rfl, hb⟩
    replace k0 := cell_later hb k0
    replace r1 := r1.below hb
    replace r2 := r2.below hb
    replace B := below_chain B hb
    clear hb
    go_wp2_with (fail)
    refine (c_TrackLength A1 c1 n1 l _ HN.out (by omega) r1 hlay).mono ?_
    rintro e w5 ⟨rfl, hb⟩
    replace k0 := cell_later hb k0
    replace r1 := r1.below hb
    replace r2 := r2.below hb
    replace B := below_chain B hb
    clear hb
    have HL : Hid (LB w5 A1 n1 l A2 c2 n2 fs) := Lib.hid ⟨HN.out, by omega, r1, HN2.out, by omega, hcap2.1, by omega, r2⟩
    have HU := Lib.hid (upto_zero hok)
    have HB := Lib.hid B
    have HT := Lib.hid (show ∀ q, n2 ≤ q → upto l fs q = pos l l.length from fun q hq => by unfold upto; rw [if_neg (by have := HN2.out; omega)])
    clear r1 r2 r3 B
    go_wp2_with (fail)
    go_loopw [10, 11] (fun t v wr => ∃ q : Nat, q ≤ n2 ∧ v = .int .i64 q ∧ t = .int .i64 (upto l fs q) ∧ wr.cell? ⟨b0, 0, none⟩ = some (.slice A1 n1 c1) ∧ LB wr A1 n1 l A2 c2 n2 fs ∧ Below w.heap.size w wr) (fun _ v _ => n2 - (intOf v).toNat)
    case atStart => exact ⟨0, Nat.zero_le _, rfl, by rw [HU.out], k0, HL.out, HB.out⟩
    case round =>
      obtain ⟨q, hq, rfl, rfl, k0, hL, hB⟩ := hrel
      clear HL HB
      have HL := Lib.hid hL
      have HB := Lib.hid hB
      clear hL hB
      by_cases hlt : q < n2
      · have hqf : q < fs.length := by have := HN2.out; omega
        have hcd : codeB l fs q = 0 := by
          unfold codeB
          rw [hok, if_pos rfl]
          simp [inB]; omega
        have he := end_at hok q
        obtain ⟨s, hz⟩ : ∃ z, l[endN l fs q - 1]? = some z := ⟨_, List.getElem?_eq_getElem (by have := he.2; omega)⟩
        have hsh := hold_at hok hqf hz
        have hsk := hlay.ok _ (List.mem_of_getElem? hz)
        have hub := upto_bd hok q
        have hub2 := upto_bd hok (q + 1)
        have hus := upto_succ hok hqf
        have hle : lengthR l fs q = pos l (endN l fs q) - pos l (fstN fs q) := by unfold lengthR; rw [if_pos hcd, Int.toNat_natCast]
        have hho : holdR l fs q = (endN l fs q : Int) - 1 := by unfold holdR; rw [if_pos hcd, Int.toNat_natCast, he.1]
        have hBL := fun w h => c_BlockLength (w := w) (A := A1) (n := n1) (l := l) (A' := A2) (c' := c2) (n' := n2) (fs := fs) c1 q h
        have hHS := fun w h => c_HoldingSegment (w := w) (A := A1) (n := n1) (l := l) (A' := A2) (c' := c2) (n' := n2) (fs := fs) c1 q h
        rw [hcd, hle] at hBL
        rw [hcd, hho] at hHS
        have HBL := Lib.hid hBL
        have HHS := Lib.hid hHS
        have HUS := Lib.hid hus
        have hln : pos l (endN l fs q) - pos l (fstN fs q) = upto l fs (q + 1) - upto l fs q := by omega
        rw [hln] at HBL
        have hen1 : 1 ≤ endN l fs q := he.2.1
        have hen2 : endN l fs q ≤ n1 := by have := he.2.2; have := HN.out; omega
        have HHO := Lib.hid (c_Holds s.k s.l s.r s.a s.b s.c s.d)
        have hseg : (segB s.k s.l s.r s.a s.b s.c s.d && holdsB s.k) = true := by rw [hsh, Bool.and_true]; exact hsk
        rw [hseg] at HHO
        have HZ := Lib.hid hz
        generalize hE : endN l fs q = E at *
        generalize hU : upto l fs q = U at *
        generalize hU1 : upto l fs (q + 1) = U1 at *
        clear hBL hHS hcd he hz hsh hsk hus hle hho hln hseg hE hU
        have hi0 : (0 : Int) ≤ (E : Int) - 1 := by omega
        have hi1 : (E : Int) - 1 < n1 := by omega
        have ht : ((E : Int) - 1).toNat = E - 1 := by omega
        have HU1 := Lib.hid hU1
        clear hU1
        go_wp2_with (fail)
        refine (HBL.out _ HL.out).mono ?_
        rintro e w6 ⟨rfl, hb⟩
        replace k0 := cell_later hb k0
        have HL6 := Lib.hid (HL.out.below hb)
        have HB6 := Lib.hid (below_chain HB.out hb)
        clear hb HL HB
        go_wp2_with (fail)
        refine (HHS.out _ HL6.out).mono ?_
        rintro e w7 ⟨rfl, hb⟩
        replace k0 := cell_later hb k0
        have HL7 := Lib.hid (HL6.out.below hb)
        have HB7 := Lib.hid (below_chain HB6.out hb)
        obtain ⟨b1, o1, rfl, hbb, z0, z1, z2, z3, z4, z5, z6⟩ := HL7.out.hr.seg HZ.out
        clear hb HL6 HB6
        go_wp2_with (fail)
        refine (HHO.out _).mono ?_
        rintro e w8 ⟨rfl, hb⟩
        replace k0 := cell_later hb k0
        have HL8 := Lib.hid (HL7.out.below hb)
        have HB8 := Lib.hid (below_chain HB7.out hb)
        clear hb z0 z1 z2 z3 z4 z5 z6 HL7 HB7
        go_wp2_with (fail)
        go_roundw
        case rel => exact ⟨q + 1, by omega, by go_num, by rw [HU1.out]; congr 1; omega, k0, HL8.out, HB8.out⟩
        case measure => simp [intOf]; omega
      · have HT2 := Lib.hid (HT.out q (by omega))
        have HAR := Lib.hid (fun w h => k_AreBlocks (w := w) (A := A1) (n := n1) (l := l) (A' := A2) (c' := c2) (n' := n2) (fs := fs) c1 h)
        have hok2 : (layB l && blkB l fs) = true := hok
        rw [hok2] at HAR
        have hd2 : decide ((q : Int) < n2) = false := by simp; omega
        clear hok2
        rw [HT2.out]
        go_wp2_with (fail)
        refine (HAR.out _ HL.out).mono ?_
        rintro e w6 ⟨rfl, hb⟩
        have HB6 := Lib.hid (below_chain HB.out hb)
        clear hb HL HB k0
        go_wp2_with (fail)
        go_ret
        exact ⟨rfl, HB6.out⟩
  · have hc' : (dflC l == 0) = false := by simp [hc]
    have hc2 : (dflC l != 0) = true := by simp [hc]
    clear hc
    go_wp2_with (fail)
    refine (HLK.out _ r2 r3).mono ?_
    rintro e w4 ⟨rfl, hb⟩
    replace B := below_chain B hb
    clear hb
    go_wp2_with (fail)
    go_ret
    exact ⟨rfl, B⟩
end Go.Proofs.Ythhedpdldjmfpaa
