/- Contracts of the laws' own sizes of terms and codes. No condition but that the lengths are those of a run. -/
import Derived.Test.YtackekfjalaacaaGreatDoorRowT
namespace Go.Proofs.YtackekfjalaacaaGreatDoor
open Go.RowKit

/-- What a size may be: -1, or what is left of left, and then P holds. -/
def Left (left : Int) (P : Prop) (w : World) (e : Ending) (w' : World) : Prop := ∃ v : Int, e = .returned (.int .i64 v) ∧ (v = -1 ∨ (0 ≤ v ∧ v ≤ left ∧ P)) ∧ Below w.heap.size w w'
theorem szI_cases {left : Int} {n : Nat} : szI left n = -1 ∧ left - n < 0 ∨ szI left n = left - n ∧ 0 ≤ left - n := by
  unfold szI; split <;> omega
set_option maxRecDepth 100000 in
theorem c_szTerm (k : Int) (nm : ByteArray) (x left : Int) (w : World) (hs : nm.size ≤ 9223372036854775807) (h0 : 0 ≤ left) (h1 : left ≤ 1048576) :
    Calls Tryz.prog 124 #[.agg #[.int .i64 k, .string nm, .int .i64 x], .int .i64 left] w (Left left (nm.size ≤ 1048576) w) := by
  have hw1 : IntKind.i64.wrap (left - (nm.size : Int)) = left - nm.size := IntWalk.i64_in _ (by omega)
  by_cases c0 : left - (nm.size : Int) < 0
  · skip
    go_enter Tryz.func124, Tryz.ntmps124
    go_wp2
    go_ret
    exact ⟨-1, rfl, .inl rfl, by (repeat (first | exact Below.refl _ _ | assumption | refine below_alloc ?_ _ | refine below_drewN ?_ _ | refine below_set ?_ _ (by simp; try omega) | refine Below.drew ?_))⟩
  · skip
    go_enter Tryz.func124, Tryz.ntmps124
    go_wp2
    go_ret
    exact ⟨_, rfl, .inr ⟨by omega, by omega, by omega⟩, by (repeat (first | exact Below.refl _ _ | assumption | refine below_alloc ?_ _ | refine below_drewN ?_ _ | refine below_set ?_ _ (by simp; try omega) | refine Below.drew ?_))⟩
/-- The names' lengths. -/
def TmOk (l : List Tm) : Prop := l.length ≤ 1048576 ∧ ∀ t ∈ l, t.nm.size ≤ 1048576
set_option maxRecDepth 100000 in
theorem c_szTermS (A : Option Addr) (c n : Nat) (l : List Tm) (left : Int) (w : World) (hn : n = l.length) (hm : n ≤ 9223372036854775807) (hs : ∀ t ∈ l, t.nm.size ≤ 9223372036854775807) (h0 : 0 ≤ left) (h1 : left ≤ 1048576) (hr : Rd w A (tmCells l)) :
    Calls Tryz.prog 89 #[.slice A n c, .int .i64 left] w (Left left (TmOk l) w) := by
  have HN := Lib.hid hn
  clear hn
  have hw1 : IntKind.i64.wrap (left - (n : Int)) = left - n := IntWalk.i64_in _ (by omega)
  by_cases c0 : left - (n : Int) < 0
  · skip
    go_enter Tryz.func89, Tryz.ntmps89
    go_wp2
    go_ret
    exact ⟨-1, rfl, .inl rfl, by (repeat (first | exact Below.refl _ _ | assumption | refine below_alloc ?_ _ | refine below_drewN ?_ _ | refine below_set ?_ _ (by simp; try omega) | refine Below.drew ?_))⟩
  go_enter Tryz.func89, Tryz.ntmps89
  go_wp2
  go_loopw [1, 5] (fun t i wr => ∃ k : Nat, ∃ v : Int, k ≤ n ∧ i = .int .i64 k ∧ t = .int .i64 v ∧ 0 ≤ v ∧ v ≤ left ∧ Hid (∀ r ∈ l.take k, r.nm.size ≤ 1048576) ∧ Below w.heap.size w wr) (fun _ i _ => n - (intOf i).toNat)
  case atStart => exact ⟨0, _, Nat.zero_le _, rfl, rfl, by omega, by omega, by simp [Hid], by (repeat (first | exact Below.refl _ _ | assumption | refine below_alloc ?_ _ | refine below_drewN ?_ _ | refine below_set ?_ _ (by simp; try omega) | refine Below.drew ?_))⟩
  case round =>
    obtain ⟨k, v, hk, rfl, rfl, hv0, hv1, ha, hb⟩ := hrel
    by_cases hlt : k < n
    · obtain ⟨r, hz⟩ : ∃ z, l[k]? = some z := ⟨_, List.getElem?_eq_getElem (by have := HN.out; omega)⟩
      obtain ⟨b, off, rfl, _, g0, g1, g2⟩ := (hr.below hb).tm hz
      have HOK := Lib.hid (hs r (List.mem_of_getElem? hz))
      have HZ := Lib.hid hz
      have HB := Lib.hid hb
      clear hz hb hr hs
      go_wp2_with (fail)
      refine (c_szTerm r.k r.nm r.n v _ HOK.out hv0 (by omega)).mono ?_
      rintro e w2 ⟨u, rfl, hu, hb⟩
      have HB2 := Lib.hid (below_chain HB.out hb)
      clear hb HB
      rcases hu with rfl | ⟨u0, u1, u2⟩
      · go_wp2
        go_ret
        exact ⟨-1, rfl, .inl rfl, HB2.out⟩
      · go_wp2
        go_roundw
        case rel =>
          refine ⟨k + 1, u, by omega, by go_num, rfl, u0, by omega, ?_, HB2.out⟩
          refine Lib.hid ?_
          intro r' hr'
          rw [List.take_add_one, HZ.out, List.mem_append] at hr'
          rcases hr' with hr' | hr'
          · exact ha.out r' hr'
          · simp at hr'
            subst hr'
            exact u2
        case measure => simp [intOf]; omega
    · have : k = n := by omega
      subst this
      have HA := Lib.hid ha
      clear ha
      go_wp2
      go_ret
      refine ⟨v, rfl, .inr ⟨hv0, hv1, by have := HN.out; omega, ?_⟩, hb⟩
      have := HA.out.out
      rwa [List.take_of_length_le (by have := HN.out; omega)] at this
/-- A code. -/
structure Cd where
  i : Int
  v : Int
  o : Int
  bs : List Tm
  ss : List Ins
def CdOk (c : Cd) : Prop := TmOk c.bs ∧ c.ss.length ≤ 1048576
def CdSz (c : Cd) : Prop := c.bs.length ≤ 9223372036854775807 ∧ c.ss.length ≤ 9223372036854775807 ∧ ∀ t ∈ c.bs, t.nm.size ≤ 9223372036854775807
def cv (c : Cd) (ab as_ : Option Addr) (cb cs : Nat) : Value := .agg #[.int .i64 c.i, .int .i64 c.v, .int .i64 c.o, .slice ab c.bs.length cb, .slice as_ c.ss.length cs]
/-- The code's lists, where they lie. -/
structure CdR (w : World) (ab as_ : Option Addr) (c : Cd) : Prop where
  b : Rd w ab (tmCells c.bs)
  s : Rd w as_ (insCells c.ss)
theorem CdR.below {w w' : World} {ab as_ : Option Addr} {c : Cd} (h : CdR w ab as_ c) (hb : Below w.heap.size w w') : CdR w' ab as_ c := ⟨h.b.below hb, h.s.below hb⟩
end Go.Proofs.YtackekfjalaacaaGreatDoor
