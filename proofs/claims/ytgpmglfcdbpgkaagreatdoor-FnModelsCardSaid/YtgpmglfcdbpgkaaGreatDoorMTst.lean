/- Contracts of l20Tests (reference) and areTests (program). Condition: the sizes lie in 1 .. 32. -/
import Derived.Test.YtgpmglfcdbpgkaaGreatDoorMSta
namespace Go.Proofs.YtgpmglfcdbpgkaaGreatDoor
open Go.RowKit

def tsK (sz : List Int) (l : List Tst) : Bool := l.all fun t => hasB sz t.v t.x
def tsB (sz : List Int) (l : List Tst) : Bool := tsK sz l && decide (l.length ≤ 24)
theorem tsK_snoc {sz : List Int} {l : List Tst} {k : Nat} {t : Tst} (hz : l[k]? = some t) (h : tsK sz (l.take k) = true) (h2 : hasB sz t.v t.x = true) : tsK sz (l.take (k + 1)) = true := by
  unfold tsK at h ⊢
  rw [List.take_add_one, List.all_append, h, hz]
  simp [h2]
theorem tsK_bad {sz : List Int} {l : List Tst} {k : Nat} {t : Tst} (hz : l[k]? = some t) (h2 : hasB sz t.v t.x = false) : tsK sz l = false := by
  unfold tsK
  rw [List.all_eq_false]
  exact ⟨t, List.mem_of_getElem? hz, by simp [h2]⟩
set_option maxRecDepth 100000 in
theorem c_l20Tests (m : Mdl) (az ax ar : Option Addr) (cz cs cr : Nat) (A : Option Addr) (c : Nat) (l : List Tst) (w : World) (hs : SzsOk m.sz) (hl : m.sz.length ≤ 1048576) (hl2 : l.length ≤ 1048576) (h : Rd w az (ints m.sz)) (hv : Rd w A (tstCells l)) :
    Calls Tryz.prog 108 #[mv m az ax ar cz cs cr, .slice A l.length c] w fun e w' => e = .returned (.bool (tsB m.sz l)) ∧ Below w.heap.size w w' := by
  have HH := Lib.hid (fun (w : World) (h : Rd w az (ints m.sz)) (v x : Int) => c_l20Has m az ax ar cz cs cr v x w hs hl h)
  have HB0 := Lib.hid (show tsB m.sz l = (tsK m.sz l && decide (l.length ≤ 24)) from rfl)
  generalize tsB m.sz l = R at HB0 ⊢
  obtain ⟨sz, st, rs⟩ := m
  dsimp only [mv] at *
  generalize sz.length = sn at *
  generalize hvn : l.length = vn at *
  have HVN := Lib.hid hvn
  have HV := Lib.hid hv
  have HZ := Lib.hid h
  clear hv h hs hvn
  go_enter Tryz.func108, Tryz.ntmps108
  go_wp2
  go_loopw [5] (fun i wr => ∃ k : Nat, k ≤ vn ∧ i = .int .i64 k ∧ Hid (tsK sz (l.take k) = true) ∧ wr.cell? ⟨w.heap.size, 0, none⟩ = some (.slice az sn cz) ∧ wr.cell? ⟨w.heap.size, 1, none⟩ = some (.slice ax st.length cs) ∧ wr.cell? ⟨w.heap.size, 2, none⟩ = some (.slice ar rs.length cr) ∧ Below w.heap.size w wr) (fun i _ => vn - (intOf i).toNat)
  case atStart => exact ⟨0, Nat.zero_le _, rfl, Lib.hid rfl, by go_simp, by go_simp, by go_simp, by (repeat (first | exact Below.refl _ _ | assumption | refine below_alloc ?_ _ | refine below_drewN ?_ _ | refine below_set ?_ _ (by simp; try omega) | refine Below.drew ?_))⟩
  case round =>
    obtain ⟨k, hk, rfl, ha, k0, k1, k2, hb⟩ := hrel
    by_cases hlt : k < vn
    · obtain ⟨t, hz⟩ : ∃ z, l[k]? = some z := ⟨_, List.getElem?_eq_getElem (by have := HVN.out; omega)⟩
      obtain ⟨b, off, rfl, _, g0, g1, g2⟩ := (HV.out.below hb).tst hz
      have HZZ := Lib.hid hz
      have HC := Lib.hid (fun w h => HH.out w h t.v t.x)
      have HBE := Lib.hid hb
      clear hz hb
      rcases hin : hasB sz t.v t.x with _ | _
      · rw [hin] at HC
        have HI := Lib.hid hin
        clear hin
        go_wp2
        go_still_tail 11, (by kernel_rfl)
        change wpList _ _ _ _ _ wr.drew
        go_wp2_with (fail)
        refine (HC.out _ (HZ.out.below HBE.out.drew)).mono ?_
        rintro e w2 ⟨rfl, hb⟩
        have HB2 := Lib.hid (below_chain HBE.out.drew hb)
        clear hb
        go_wp2
        go_ret
        exact ⟨ret_bool (by rw [HB0.out, tsK_bad HZZ.out HI.out, Bool.false_and]), HB2.out⟩
      · rw [hin] at HC
        have HI := Lib.hid hin
        clear hin
        go_wp2
        go_still_tail 11, (by kernel_rfl)
        change wpList _ _ _ _ _ wr.drew
        go_wp2_with (fail)
        refine (HC.out _ (HZ.out.below HBE.out.drew)).mono ?_
        rintro e w2 ⟨rfl, hb⟩
        have HB2 := Lib.hid (below_chain HBE.out.drew hb)
        have K0 := Lib.hid (cell_later hb (show wr.drew.cell? _ = _ from k0))
        have K1 := Lib.hid (cell_later hb (show wr.drew.cell? _ = _ from k1))
        have K2 := Lib.hid (cell_later hb (show wr.drew.cell? _ = _ from k2))
        clear hb k0 k1 k2
        go_wp2
        go_roundw
        case rel => exact ⟨k + 1, by omega, by go_num, Lib.hid (tsK_snoc HZZ.out ha.out HI.out), K0.out, K1.out, K2.out, HB2.out⟩
        case measure => simp [intOf]; omega
    · have : k = vn := by omega
      subst this
      have hA := ha.out
      rw [List.take_of_length_le (by have := HVN.out; omega)] at hA
      have HA := Lib.hid hA
      clear hA ha
      go_wp2
      go_ret
      exact ⟨ret_bool (by rw [HB0.out, HA.out, Bool.true_and]; simp; omega), hb⟩
end Go.Proofs.YtgpmglfcdbpgkaaGreatDoor
