/- slices.IndexFunc at lines, with a closure over one captured value (printed by DlC.py). Condition: the lists' sizes. -/
import Derived.Test.YtackekfjalaacaaDoorDlQ
namespace Go.Proofs.YtackekfjalaacaaDoor
open Go.RowKit

/-- What a closure answers at an element of the list. -/
def ClLc (f : Nat) (x : Value) (pr : Lin → Bool) (l : List Lin) (w : World) : Prop :=
  ∀ (wr : World) (t : Lin) (a : Option Addr) (c : Nat), t ∈ l → Below w.heap.size w wr → Rd wr a (tmCells t.ts) → Calls Tryd.prog f #[.agg #[.string t.tg, .slice a t.ts.length c], x] wr fun e w2 => e = .returned (.bool (pr t)) ∧ Below wr.heap.size wr w2
set_option maxRecDepth 100000 in
theorem c_IndexLc (f : Nat) (x : Value) (pr : Lin → Bool) (A : Option Addr) (c vn : Nat) (l : List Lin) (w : World) (hvn : l.length = vn) (hl2 : vn ≤ 4000000) (hv : Ll w A l) (hcall : Hid (ClLc f x pr l w)) (hent : ∀ (args : Array Value) (w : World), (callFunc f args).run Tryd.prog w = .ok (.enter f args) w) :
    Calls Tryd.prog 45 #[.slice A vn c, .func (.func f) #[] #[x]] w fun e w' => e = .returned (.int .i64 (idxI pr l)) ∧ Below w.heap.size w w' := by
  generalize hR : idxI pr l = R
  have HR := Lib.hid hR
  clear hR
  have HVN := Lib.hid hvn
  have HV := Lib.hid hv
  clear hv hvn
  go_enter Tryd.func45, Tryd.ntmps45
  go_wp2
  go_loopw [8] (fun i wr => ∃ k : Nat, k ≤ vn ∧ i = .int .i64 k ∧ Hid ((l.take k).any pr = false) ∧ Hid (Below w.heap.size w wr)) (fun i _ => vn - (intOf i).toNat)
  case atStart => exact ⟨0, Nat.zero_le _, rfl, Lib.hid rfl, Lib.hid (by (repeat (first | exact Below.refl _ _ | assumption | refine below_alloc ?_ _ | refine below_drewN ?_ _ | refine below_set ?_ _ (by simp; try omega) | refine Below.drew ?_)))⟩
  case round =>
    obtain ⟨k, hk, rfl, ha, hb⟩ := hrel
    by_cases hlt : k < vn
    · obtain ⟨t, hz⟩ : ∃ z, l[k]? = some z := ⟨_, List.getElem?_eq_getElem (by have := HVN.out; omega)⟩
      obtain ⟨b', off, la, lc, rfl, _, g0, g1, hrow⟩ := (HV.out.below hb.out).at hz
      have HZZ := Lib.hid hz
      have HC := Lib.hid (hcall.out wr t la lc (List.mem_of_getElem? hz) hb.out hrow)
      have hk0 : (0 : Int) ≤ (k : Int) := by omega
      have hk1 : (k : Int) < vn := by omega
      clear hz
      rcases hin : pr t with _ | _
      · rw [hin] at HC
        have HI := Lib.hid hin
        clear hin
        go_wp2_with (fail)
        refine HC.out.mono ?_
        rintro e w2 ⟨rfl, hb2⟩
        have HB2 := Lib.hid (below_chain hb.out hb2)
        clear hb2
        go_wp2_with (fail)
        go_roundw
        case rel => exact ⟨k + 1, by omega, by go_num, Lib.hid (any_take_snoc HZZ.out ha.out HI.out), HB2⟩
        case measure => simp [intOf]; omega
      · rw [hin] at HC
        have HI := Lib.hid hin
        clear hin
        go_wp2_with (fail)
        refine HC.out.mono ?_
        rintro e w2 ⟨rfl, hb2⟩
        have HB2 := Lib.hid (below_chain hb.out hb2)
        clear hb2
        go_wp2_with (fail)
        go_ret
        exact ⟨ret_int (by rw [← HR.out, idxI_found HZZ.out ha.out HI.out]), HB2.out⟩
    · obtain rfl : k = vn := by omega
      have hA := ha.out
      rw [List.take_of_length_le (by have := HVN.out; omega)] at hA
      have HA := Lib.hid hA
      clear hA ha
      go_wp2_with (fail)
      go_ret
      exact ⟨ret_int (by rw [← HR.out, idxI_none HA.out]), hb.out⟩
end Go.Proofs.YtackekfjalaacaaDoor
