/- The blocks of a program on the program's side (printed by PBm.py). Condition: the program is written. -/
import Derived.Test.YteengjcplmjakaaGreatDoorPBl
namespace Go.Proofs.YteengjcplmjakaaGreatDoor
open Go.RowKit

set_option maxHeartbeats 2000000 in
set_option maxRecDepth 100000 in
theorem c_blocks (p : Prg) (a1 a2 a3 a4 : Option Addr) (c1 c2 c3 c4 : Nat) (w : World) (hbd : PgB p) (h : PgR w a1 a2 a3 a4 p) :
    Calls Tryz.prog 68 #[pv p a1 a2 a3 a4 c1 c2 c3 c4] w (RetTms (blk p) w) := by
  have HV : Hid (blk p = p.ls.flatMap blkL) := Lib.hid rfl
  obtain ⟨nm, ins, vs, os, gd, ls⟩ := p
  have bl := hbd.l
  have BT := Lib.hid hbd.t
  have HL := Lib.hid h.l
  dsimp only at bl HV HL
  generalize blk ⟨nm, ins, vs, os, gd, ls⟩ = R at *
  have B0 := Lib.hid (below_alloc (Below.refl w.heap.size w) (.cells #[.string nm, .slice a1 ins.length c1, .slice a2 vs.length c2, .slice a3 os.length c3, .string gd, .slice a4 ls.length c4] 27))
  have k5 : (w.alloc (.cells #[.string nm, .slice a1 ins.length c1, .slice a2 vs.length c2, .slice a3 os.length c3, .string gd, .slice a4 ls.length c4] 27)).cell? ⟨w.heap.size, 5, none⟩ = some (.slice a4 ls.length c4) := by go_simp
  clear hbd h
  dsimp only [pv]
  go_enter Tryz.func68, Tryz.ntmps68
  go_upto_region 2 with (fail)
  generalize w.alloc (.cells #[.string nm, .slice a1 ins.length c1, .slice a2 vs.length c2, .slice a3 os.length c3, .string gd, .slice a4 ls.length c4] 27) = W at *
  generalize hln : ls.length = ln at *
  have HLEN := Lib.hid hln
  clear hln
  go_wp2_with (fail)
  clear k5
  go_loopw [3, 5, 7, 11] (fun u _ _ i wr => ∃ (k n : Nat) (A3 : Option Addr) (c3 : Nat), k ≤ ln ∧ n ≤ 40 * k ∧ i = .int .i64 k ∧ u = .slice A3 n c3 ∧ Hid (((ls.take k).flatMap blkL).length = n) ∧ Hid (wr.ownsRow W.heap.size 60 3 (.slice A3 n c3) n (tmCells ((ls.take k).flatMap blkL))) ∧ Hid (Below W.heap.size W wr)) (fun _ _ _ i _ => ln - (intOf i).toNat)
  case atStart => exact ⟨0, 0, none, 0, Nat.zero_le _, by omega, rfl, rfl, Lib.hid rfl, Lib.hid (World.ownsRow_nil _ _ _ _), Lib.hid (Below.refl _ _)⟩
  case round =>
    obtain ⟨k, n, A3, C3, hk, hn, rfl, rfl, hl3, ho, hb⟩ := hrel
    by_cases hlt : k < ln
    · obtain ⟨⟨tg, ts⟩, hz⟩ : ∃ z, ls[k]? = some z := ⟨_, List.getElem?_eq_getElem (by have := HLEN.out; omega)⟩
      have htl := BT.out _ (List.mem_of_getElem? hz)
      dsimp only at htl
      obtain ⟨b, off, la, lc, rfl, _, g0W, g1W, hrow⟩ := (HL.out.below B0.out).at hz
      dsimp only at g0W g1W hrow
      have g0 := cell_later hb.out g0W
      have g1 := cell_later hb.out g1W
      have HFS : Hid ((ls.take (k + 1)).flatMap blkL = (ls.take k).flatMap blkL ++ ts.filter isB) := Lib.hid (flat_snoc hz)
      have HROW := Lib.hid hrow
      have hk0 : (0 : Int) ≤ (k : Int) := by omega
      have hk1 : (k : Int) < ln := by omega
      generalize htn : ts.length = tn at *
      have HTN := Lib.hid htn
      have hal := below_alloc (Below.refl wr.heap.size wr) (.cells #[.string tg, .slice la tn lc] 80)
      have HB1 := Lib.hid (below_chain hb.out hal)
      have HO1 := Lib.hid (own_below ho.out hal)
      clear g0W g1W
      clear hz hrow htn hal ho hb
      go_upto_region 6 with (fail)
      generalize wr.alloc (.cells #[.string tg, .slice la tn lc] 80) = wl at *
      clear g0 g1
      go_loopw [3, 7, 18] (fun u _ i wq => ∃ (q n2 : Nat) (A3 : Option Addr) (c3 : Nat), q ≤ tn ∧ n2 ≤ 40 * k + q ∧ i = .int .i64 q ∧ u = .slice A3 n2 c3 ∧ Hid (((ls.take k).flatMap blkL ++ (ts.take q).filter isB).length = n2) ∧ Hid (wq.ownsRow W.heap.size 60 3 (.slice A3 n2 c3) n2 (tmCells ((ls.take k).flatMap blkL ++ (ts.take q).filter isB))) ∧ Hid (Below W.heap.size W wq)) (fun _ _ i _ => tn - (intOf i).toNat)
      case atStart => exact ⟨0, n, A3, C3, Nat.zero_le _, by omega, rfl, rfl, Lib.hid (by simpa using hl3.out), Lib.hid (by simpa using HO1.out), HB1⟩
      case round =>
        obtain ⟨q, n2, A3, C3, hq, hn2, rfl, rfl, hl3, ho, hb⟩ := hrel
        by_cases hlt2 : q < tn
        · obtain ⟨⟨tk, tm, tx⟩, hz2⟩ : ∃ z, ts[q]? = some z := ⟨_, List.getElem?_eq_getElem (by have := HTN.out; omega)⟩
          obtain ⟨b2, o2, rfl, hb2, m0, m1, m2⟩ := (HROW.out.below hb.out).tm hz2
          dsimp only at m0 m1 m2
          have hq0 : (0 : Int) ≤ (q : Int) := by omega
          have hq1 : (q : Int) < tn := by omega
          have HFL := Lib.hid (filt_snoc hz2)
          have hal := below_alloc (Below.refl wr.heap.size wr) (.cells #[.int .i64 tk, .string tm, .int .i64 tx] 60)
          have HB2 := Lib.hid (below_chain hb.out hal)
          have HO2 := Lib.hid (own_below ho.out hal)
          clear hz2 hal ho hb
          by_cases h7 : (7 : Int) ≤ tk
          · have HIB : Hid (isB ⟨tk, tm, tx⟩ = true) := Lib.hid (decide_eq_true h7)
            rw [HIB.out] at HFL
            have hal2 := below_alloc (Below.refl (wr.alloc (.cells #[.int .i64 tk, .string tm, .int .i64 tx] 60)).heap.size (wr.alloc (.cells #[.int .i64 tk, .string tm, .int .i64 tx] 60))) (.cells #[.int .i64 tk, .string tm, .int .i64 tx] 60)
            have HB3 := Lib.hid (below_chain HB2.out hal2)
            have HO3 := Lib.hid (own_below HO2.out hal2)
            clear hal2
            go_wp2_with (first
              | (at_builtin
                 refine wpList_push_tm _ rfl (.tmp 25) (.tmp 27) rfl W.heap.size _ n2 _ ⟨tk, tm, tx⟩ (wr.heap.size + 1) 1 rfl HO3.out (by first | rfl | (go_simp; done)) (by go_simp) (by go_simp) (by go_simp) (by omega) HB3.out.size ?_
                 intro v7 w7 hown hgrow
                 obtain ⟨A9, c9, rfl⟩ := own_shape hown
                 have HB7 := Lib.hid (below_of_grown HB3.out hgrow (fun q hq => (HO3.out.lt q hq).1))
                 have HO7 := Lib.hid hown
                 clear hown hgrow)
              )
            go_roundw
            case rel => exact ⟨q + 1, n2 + 1, A9, c9, by omega, by omega, by go_num, rfl, Lib.hid (by rw [HFL.out, ← List.append_assoc, List.length_append, hl3.out]; rfl), Lib.hid (by rw [HFL.out, ← List.append_assoc]; exact HO7.out), HB7⟩
            case measure => simp [intOf]; omega
          · have HIB : Hid (isB ⟨tk, tm, tx⟩ = false) := Lib.hid (decide_eq_false h7)
            rw [HIB.out] at HFL
            have h7b : tk < 7 := by omega
            clear h7
            go_wp2_with (fail)
            go_roundw
            case rel => exact ⟨q + 1, n2, A3, C3, by omega, by omega, by go_num, rfl, Lib.hid (by rw [HFL.out]; simpa using hl3.out), Lib.hid (by rw [HFL.out]; simpa using HO2.out), HB2⟩
            case measure => simp [intOf]; omega
        · obtain rfl : q = tn := by omega
          have hts : ts.take q = ts := List.take_of_length_le (by have := HTN.out; omega)
          have HL4 : Hid (((ls.take (k + 1)).flatMap blkL).length = n2) := Lib.hid (by rw [HFS.out]; have := hl3.out; rw [hts] at this; exact this)
          have HO4 : Hid (wr.ownsRow W.heap.size 60 3 (.slice A3 n2 C3) n2 (tmCells ((ls.take (k + 1)).flatMap blkL))) := Lib.hid (by rw [HFS.out]; have := ho.out; rw [hts] at this; exact this)
          clear hts
          go_wp2_with (fail)
          go_roundw
          case rel => exact ⟨k + 1, n2, A3, C3, by omega, by omega, by go_num, rfl, HL4, HO4, hb⟩
          case measure => simp [intOf]; omega
    · obtain rfl : k = ln := by omega
      have htk : ls.take k = ls := List.take_of_length_le (by have := HLEN.out; omega)
      have HO4 := ho.out
      have HL4 := hl3.out
      rw [htk] at HO4 HL4
      have HOF := Lib.hid HO4
      have HLF := Lib.hid HL4
      clear HO4 HL4 htk
      go_wp2_with (fail)
      go_ret
      exact retTms HV.out HLF.out.symm (own_mono HOF.out B0.out.size) (below_chain B0.out hb.out)
end Go.Proofs.YteengjcplmjakaaGreatDoor
