/- Contract of l20State (reference). Condition: the sizes lie in 1 .. 32. -/
import Derived.Test.YtgpmglfcdbpgkaaGreatDoorMHas
namespace Go.Proofs.YtgpmglfcdbpgkaaGreatDoor
open Go.RowKit

set_option maxRecDepth 100000 in
theorem c_l20State (m : Mdl) (az ax ar : Option Addr) (cz cs cr : Nat) (A : Option Addr) (c : Nat) (vs : List Int) (w : World) (hs : SzsOk m.sz) (hl : m.sz.length ≤ 1048576) (hl2 : vs.length ≤ 1048576) (h : Rd w az (ints m.sz)) (hv : Rd w A (ints vs)) :
    Calls Tryz.prog 42 #[mv m az ax ar cz cs cr, .slice A vs.length c] w fun e w' => e = .returned (.bool (stB m.sz vs)) ∧ Below w.heap.size w w' := by
  have HB0 := Lib.hid (show stB m.sz vs = (decide (vs.length = m.sz.length) && stK m.sz vs vs.length) from rfl)
  generalize stB m.sz vs = R at HB0 ⊢
  obtain ⟨sz, st, rs⟩ := m
  dsimp only [mv] at *
  have HSN := Lib.hid (rfl : sz.length = sz.length)
  generalize hsn : sz.length = sn at *
  generalize hvn : vs.length = vn at *
  replace HSN := Lib.hid hsn
  have HVN := Lib.hid hvn
  have HV := Lib.hid hv
  have HZ := Lib.hid h
  have HS := Lib.hid hs
  clear hv h hs hsn hvn
  go_enter Tryz.func42, Tryz.ntmps42
  go_wp2
  go_loopw [5] (fun i wr => ∃ k : Nat, k ≤ vn ∧ k ≤ sn ∧ i = .int .i64 k ∧ Hid (stK sz vs k = true) ∧ wr.cell? ⟨w.heap.size, 0, none⟩ = some (.slice az sn cz) ∧ Below w.heap.size w wr) (fun i _ => vn - (intOf i).toNat)
  case atStart => exact ⟨0, Nat.zero_le _, Nat.zero_le _, rfl, Lib.hid rfl, by go_simp, by (repeat (first | exact Below.refl _ _ | assumption | refine below_alloc ?_ _ | refine below_drewN ?_ _ | refine below_set ?_ _ (by simp; try omega) | refine Below.drew ?_))⟩
  case round =>
    obtain ⟨k, hk, hk2, rfl, ha, k0, hb⟩ := hrel
    by_cases hlt : k < vn
    · by_cases hlt2 : k < sn
      · obtain ⟨z, hz⟩ : ∃ z, vs[k]? = some z := ⟨_, List.getElem?_eq_getElem (by have := HVN.out; omega)⟩
        obtain ⟨s, hz2⟩ : ∃ z, sz[k]? = some z := ⟨_, List.getElem?_eq_getElem (by have := HSN.out; omega)⟩
        obtain ⟨b, off, rfl, _, g0⟩ := (HV.out.below hb).int hz
        obtain ⟨b2, off2, rfl, _, g1⟩ := (HZ.out.below hb).int hz2
        have hsb := HS.out s (List.mem_of_getElem? hz2)
        have hw2 : IntKind.i64.wrap (s - 1) = s - 1 := IntWalk.i64_in _ (by omega)
        have HG := Lib.hid (show inB (vs.getD k 0) 0 (sz.getD k 0 - 1) = inB z 0 (s - 1) by rw [getD_of hz, getD_of hz2])
        have HBE := Lib.hid hb
        clear hz hb hz2
        rcases hin : inB z 0 (s - 1) with _ | _
        · have HI := Lib.hid (HG.out.trans hin)
          go_wp2
          refine wp_region_quiet_lit (by kernel_rfl) (by kernel_rfl) ?_
          (repeat (any_goals (first | go_big_quiet_step (first | (go_at_call 50; exact Calls.quiet_of_same ((c_l01In _ _ _ _).mono fun _ _ h => ⟨h.1, h.2.symm⟩))) | quiet_step (first | (go_at_call 50; exact Calls.quiet_of_same ((c_l01In _ _ _ _).mono fun _ _ h => ⟨h.1, h.2.symm⟩))) | (refine wpQuiet_step (fun K hK => ?_); go_simp; split <;> (refine hK _ ?_; clear hK K)))))
          all_goals (refine wpQuiet_nil ?_; intro _ hw'; obtain ⟨nq, hw''⟩ := hw'; subst hw'')
          go_wp2
          go_ret
          exact ⟨ret_bool (by rw [HB0.out, stK_bad HI.out _ hlt, Bool.and_false]), below_drewN HBE.out _⟩
        · have HI := Lib.hid (HG.out.trans hin)
          go_wp2
          refine wp_region_quiet_lit (by kernel_rfl) (by kernel_rfl) ?_
          (repeat (any_goals (first | go_big_quiet_step (first | (go_at_call 50; exact Calls.quiet_of_same ((c_l01In _ _ _ _).mono fun _ _ h => ⟨h.1, h.2.symm⟩))) | quiet_step (first | (go_at_call 50; exact Calls.quiet_of_same ((c_l01In _ _ _ _).mono fun _ _ h => ⟨h.1, h.2.symm⟩))) | (refine wpQuiet_step (fun K hK => ?_); go_simp; split <;> (refine hK _ ?_; clear hK K)))))
          all_goals (refine wpQuiet_nil ?_; intro _ hw'; obtain ⟨nq, hw''⟩ := hw'; subst hw'')
          go_wp2
          go_roundw
          case rel => exact ⟨k + 1, by omega, by omega, by go_num, Lib.hid (by rw [stK_succ, ha.out, HI.out]; rfl), k0, below_drewN HBE.out _⟩
          case measure => simp [intOf]; omega
      · have hne : ¬ vn = sn := by omega
        have e0 := HB0.out
        rw [decide_eq_false hne, Bool.false_and] at e0
        subst e0
        clear HB0
        go_wp2
        go_ret
        exact ⟨ret_bool (by simp; omega), hb⟩
    · have hkv : k = vn := by omega
      subst hkv
      have e0 := HB0.out
      rw [ha.out, Bool.and_true] at e0
      clear HB0
      by_cases hne : k = sn
      · rw [decide_eq_true hne] at e0
        subst e0
        subst hne
        go_wp2
        go_ret
        exact ⟨rfl, hb⟩
      · rw [decide_eq_false hne] at e0
        subst e0
        go_wp2
        go_ret
        exact ⟨ret_bool (by simp; omega), hb⟩
end Go.Proofs.YtgpmglfcdbpgkaaGreatDoor
