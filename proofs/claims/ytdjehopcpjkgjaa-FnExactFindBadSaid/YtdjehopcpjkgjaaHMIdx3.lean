/- IndexFunc at []reached (printed by MIdx3.py). Condition: the closure's contract. -/
import Derived.Test.YtdjehopcpjkgjaaH9
namespace Go.Proofs.Ytdjehopcpjkgjaa
open Go.RowKit

/-- What a closure over one captured value answers at a test. -/
def ClRch (f : Nat) (x : Value) (pr : Rc → Bool) (l : List Rc) (w : World) : Prop :=
  ∀ (wr : World) (t : Rc) (a : Option Addr) (c : Nat), t ∈ l → Below w.heap.size w wr → Rd wr a (ints t.v) → Calls Try.prog f #[.agg #[.slice a t.v.length c, .int .i64 t.f, .int .i64 t.r, .int .i64 t.d], x] wr fun e w2 => e = .returned (.bool (pr t)) ∧ Below wr.heap.size wr w2
set_option maxRecDepth 100000 in
theorem c_IndexRch (f : Nat) (x : Value) (pr : Rc → Bool) (A : Option Addr) (c : Nat) (l : List Rc) (w : World) (hl2 : l.length ≤ 1048576) (hv : RdRc w A l) (hcall : Hid (ClRch f x pr l w)) (hent : ∀ (args : Array Value) (w : World), (callFunc f args).run Try.prog w = .ok (.enter f args) w) :
    Calls Try.prog 121 #[.slice A l.length c, .func (.func f) #[] #[x]] w fun e w' => e = .returned (.int .i64 (idxI pr l)) ∧ Below w.heap.size w w' := by
  have HR := Lib.hid (rfl : idxI pr l = idxI pr l)
  generalize hR : idxI pr l = R at HR
  replace HR := Lib.hid hR
  clear hR
  generalize hvn : l.length = vn at *
  have HVN := Lib.hid hvn
  have HV := Lib.hid hv
  clear hv hvn
  go_enter Try.func121, Try.ntmps121
  go_wp2
  go_loopw [8] (fun i wr => ∃ k : Nat, k ≤ vn ∧ i = .int .i64 k ∧ Hid ((l.take k).any pr = false) ∧ Below w.heap.size w wr) (fun i _ => vn - (intOf i).toNat)
  case atStart => exact ⟨0, Nat.zero_le _, rfl, Lib.hid rfl, by (repeat (first | exact Below.refl _ _ | assumption | refine below_alloc ?_ _ | refine below_drewN ?_ _ | refine below_set ?_ _ (by simp; try omega) | refine Below.drew ?_))⟩
  case round =>
    obtain ⟨k, hk, rfl, ha, hb⟩ := hrel
    by_cases hlt : k < vn
    · obtain ⟨t, hz⟩ : ∃ z, l[k]? = some z := ⟨_, List.getElem?_eq_getElem (by have := HVN.out; omega)⟩
      obtain ⟨b', off, ra, rc, rfl, _, g0, g1, g2, g3, hrv⟩ := (HV.out.below hb).at hz
      have HZZ := Lib.hid hz
      have HBE := Lib.hid hb
      have HC := Lib.hid (hcall.out wr t ra rc (List.mem_of_getElem? hz) hb hrv)
      clear hz hb hrv
      rcases hin : pr t with _ | _
      · rw [hin] at HC
        have HI := Lib.hid hin
        clear hin
        go_wp2_with (fail)
        refine HC.out.mono ?_
        rintro e w2 ⟨rfl, hb⟩
        have HB2 := Lib.hid (below_chain HBE.out hb)
        clear hb
        go_wp2
        go_roundw
        case rel => exact ⟨k + 1, by omega, by go_num, Lib.hid (any_take_snoc HZZ.out ha.out HI.out), HB2.out⟩
        case measure => simp [intOf]; omega
      · rw [hin] at HC
        have HI := Lib.hid hin
        clear hin
        go_wp2_with (fail)
        refine HC.out.mono ?_
        rintro e w2 ⟨rfl, hb⟩
        have HB2 := Lib.hid (below_chain HBE.out hb)
        clear hb
        go_wp2
        go_ret
        exact ⟨ret_int (by rw [← HR.out, idxI_found HZZ.out ha.out HI.out]), HB2.out⟩
    · have : k = vn := by omega
      subst this
      have hA := ha.out
      rw [List.take_of_length_le (by have := HVN.out; omega)] at hA
      have HA := Lib.hid hA
      clear hA ha
      go_wp2
      go_ret
      exact ⟨ret_int (by rw [← HR.out, idxI_none HA.out]), hb⟩
end Go.Proofs.Ytdjehopcpjkgjaa
