/- Contracts of the reference's segments around the circuit and of the energy that they need. Condition: the segments are valid, at most 24. -/
import Derived.Test.YthhedpdldjmfpaaNeed
import Derived.Test.YthhedpdldjmfpaaStillD
namespace Go.Proofs.Ythhedpdldjmfpaa
open Go.RowKit

set_option maxRecDepth 100000 in
theorem c_l06Segment (A : Option Addr) (c n k : Nat) (l : List Seg) (s : Seg) (w : World) (hz : l[k]? = some s) (hk : k < n) (hr : Rd w A (segCells l)) :
    Calls Try.prog 168 #[.agg #[.slice A n c], .int .i64 k] w fun e w' => e = .returned s.val ∧ Below w.heap.size w w' := by
  obtain ⟨b, off, rfl, hbb, g0, g1, g2, g3, g4, g5, g6⟩ := hr.seg hz
  have ht : (k : Int).tmod (n : Int) = k := Int.tmod_eq_of_lt (by omega) (by omega)
  have hi0 : (0 : Int) ≤ k := by omega
  have hi1 : (k : Int) < n := by omega
  have hn0 : ¬ n = 0 := by omega
  clear hr hz
  unfold Seg.val
  go_enter Try.func168, Try.ntmps168
  go_wp2
  refine wp_still_drew 9 (by kernel_rfl) (by kernel_rfl) ?_
  simp only [List.take_succ_cons, List.take_zero, List.drop_succ_cons, List.drop_zero]
  repeat still_step
  try refine wpStill_nil ?_
  go_wp2
  refine bodyPost_ret (v := .agg #[.int .i64 s.k, .int .i64 s.l, .int .i64 s.r, .int .i64 s.a, .int .i64 s.b, .int .i64 s.c, .int .i64 s.d]) (by simp [results, Try.results168, go_sem]) rfl ⟨rfl, by (repeat (first | exact Below.refl _ _ | assumption | refine below_alloc ?_ _ | refine below_drewN ?_ _ | refine below_set ?_ _ (by simp; try omega) | refine Below.drew ?_))⟩
set_option maxRecDepth 100000 in
theorem c_l06Needed (A : Option Addr) (c n f m : Nat) (l : List Seg) (w : World) (hn : n = l.length) (hs : n ≤ 24) (hr : Rd w A (segCells l)) (hok : l.all segOk = true) (hf : f + m ≤ n) :
    Calls Try.prog 146 #[.agg #[.slice A n c], .int .i64 f, .int .i64 m] w fun e w' => e = .returned (.int .i64 (mxN (l.drop f) m)) ∧ Below w.heap.size w w' := by
  have HN := Lib.hid hn
  have HD : Hid ((l.drop f).all segOk = true) := Lib.hid (List.all_eq_true.2 fun x hx => List.all_eq_true.1 hok x (List.mem_of_mem_drop hx))
  have HL : Hid (m ≤ (l.drop f).length) := Lib.hid (by simp; omega)
  clear hok hn
  go_enter Try.func146, Try.ntmps146
  go_wp2
  go_loopw [7, 8, 9] (fun p q i wr => ∃ j : Nat, j ≤ m ∧ i = .int .i64 ((f : Int) + j) ∧ p = .int .i64 (mxN (l.drop f) j) ∧ q = .int .i64 (sC cLo (l.drop f) j) ∧ wr.cell? ⟨w.heap.size, 0, none⟩ = some (.slice A n c) ∧ Below w.heap.size w wr) (fun _ _ i _ => (f + m) - (intOf i).toNat)
  case atStart => exact ⟨0, Nat.zero_le _, by simp, rfl, rfl, by go_simp, by (repeat (first | exact Below.refl _ _ | assumption | refine below_alloc ?_ _ | refine below_drewN ?_ _ | refine below_set ?_ _ (by simp; try omega) | refine Below.drew ?_))⟩
  case round =>
    obtain ⟨j, hj, rfl, rfl, rfl, hbox, hb⟩ := hrel
    have hbl := sC_bd HD.out (fun s => cLo_bd) (j := j) (by have := HL.out; omega)
    have hbn := mxN_bd HD.out (j := j) (by have := HL.out; omega)
    by_cases hlt : j < m
    · obtain ⟨s, hz⟩ : ∃ z, (l.drop f)[j]? = some z := ⟨_, List.getElem?_eq_getElem (by have := HL.out; omega)⟩
      have HZ := Lib.hid (show l[f + j]? = some s by rw [← hz, List.getElem?_drop])
      have HSG := Lib.hid (ok_at HD.out hz)
      have hcl := cLo_bd (segBd HSG.out)
      have HLO := Lib.hid (sC_succ (g := cLo) hz)
      have HR := Lib.hid (hr.below hb)
      have HB := Lib.hid hb
      have HX := c_l06Segment A c n (f + j) l s
      have HC := c_l06Change s
      have hf0 := fld0
      have hcast : ((f + j : Nat) : Int) = (f : Int) + j := by omega
      unfold Seg.val at HC HX
      rw [hcast] at HX
      clear hz hb hr hcast
      go_wp2_with (first
        | (go_at_call 168
           refine (HX _ HZ.out (by omega) HR.out).mono ?_
           rintro e w2 ⟨rfl, hb2⟩
           have HB2 := Lib.hid (below_chain HB.out hb2)
           have hbox2 := cell_later hb2 hbox
           clear hb2)
        | (go_at_call 115
           refine (HC _ HSG.out).mono ?_
           rintro e w3 ⟨rfl, hb3⟩
           have HB3 := Lib.hid (below_chain HB2.out hb3)
           have hbox3 := cell_later hb3 hbox2
           clear hb3)
        )
      go_roundw
      case rel =>
        refine ⟨j + 1, by omega, by congr 1 <;> omega, ?_, by rw [HLO.out], hbox3, HB3.out⟩
        rw [mxN, HLO.out]; congr 1; split <;> omega
      case measure => simp [intOf]; omega
    · obtain rfl : j = m := by omega
      have HB := Lib.hid hb
      clear hb hr
      go_wp2
      go_ret
      exact ⟨rfl, HB.out⟩
end Go.Proofs.Ythhedpdldjmfpaa
