/- Contracts of the laws' own sizes of rules and models. No condition but that the lengths are those of a run. -/
import Derived.Test.YtgpmglfcdbpgkaaDoorMEq
namespace Go.Proofs.YtgpmglfcdbpgkaaDoor
open Go.RowKit

/-- The lengths of a rule are those of a run. -/
def SzOk (r : Rul) : Prop := r.nm.size ≤ 9223372036854775807 ∧ r.gs.length ≤ 9223372036854775807 ∧ r.es.length ≤ 9223372036854775807
/-- What a size may be: -1, or what is left of left, and then P holds. -/
def Left (left : Int) (P : Prop) (w : World) (e : Ending) (w' : World) : Prop := ∃ v : Int, e = .returned (.int .i64 v) ∧ (v = -1 ∨ (0 ≤ v ∧ v ≤ left ∧ P)) ∧ Below w.heap.size w w'
theorem szI_cases {left : Int} {n : Nat} : szI left n = -1 ∧ left - n < 0 ∨ szI left n = left - n ∧ 0 ≤ left - n := by
  unfold szI; split <;> omega
set_option maxRecDepth 100000 in
theorem c_szRule (r : Rul) (ag ae : Option Addr) (cg ce : Nat) (left : Int) (w : World) (hs : SzOk r) (h0 : 0 ≤ left) (h1 : left ≤ 1048576) :
    Calls Tryd.prog 21 #[.agg #[.string r.nm, .slice ag r.gs.length cg, .slice ae r.es.length ce], .int .i64 left] w (Left left (r.gs.length ≤ 1048576 ∧ r.es.length ≤ 1048576) w) := by
  obtain ⟨nm, gs, es⟩ := r
  obtain ⟨s0, s1, s2⟩ := hs
  dsimp only at s0 s1 s2 ⊢
  generalize gs.length = a at *
  generalize es.length = b at *
  have hw1 : IntKind.i64.wrap (left - (nm.size : Int)) = left - nm.size := IntWalk.i64_in _ (by omega)
  by_cases c0 : left - (nm.size : Int) < 0
  · skip
    go_enter Tryd.func21, Tryd.ntmps21
    go_wp2
    go_ret
    exact ⟨-1, rfl, .inl rfl, by (repeat (first | exact Below.refl _ _ | assumption | refine below_alloc ?_ _ | refine below_drewN ?_ _ | refine below_set ?_ _ (by simp; try omega) | refine Below.drew ?_))⟩
  rcases szI_cases (left := left - nm.size) (n := a) with ⟨e1, c1⟩ | ⟨e1, c1⟩
  · skip
    go_enter Tryd.func21, Tryd.ntmps21
    go_wp2_with (first
      | (go_at_call 37
         refine (c_szTestS _ _ _ _ _ s1 (by omega) (by omega)).mono ?_
         rintro e w' ⟨rfl, rfl⟩)
      )
    go_ret
    exact ⟨-1, rfl, .inl rfl, by (repeat (first | exact Below.refl _ _ | assumption | refine below_alloc ?_ _ | refine below_drewN ?_ _ | refine below_set ?_ _ (by simp; try omega) | refine Below.drew ?_))⟩
  rcases szI_cases (left := left - nm.size - a) (n := b) with ⟨e2, c2⟩ | ⟨e2, c2⟩
  · skip
    go_enter Tryd.func21, Tryd.ntmps21
    go_wp2_with (first
      | (go_at_call 37
         refine (c_szTestS _ _ _ _ _ s1 (by omega) (by omega)).mono ?_
         rintro e w' ⟨rfl, rfl⟩)
      | (go_at_call 38
         refine (c_szAssignS _ _ _ _ _ s2 (by omega) (by omega)).mono ?_
         rintro e w' ⟨rfl, rfl⟩)
      )
    go_ret
    exact ⟨-1, rfl, .inl rfl, by (repeat (first | exact Below.refl _ _ | assumption | refine below_alloc ?_ _ | refine below_drewN ?_ _ | refine below_set ?_ _ (by simp; try omega) | refine Below.drew ?_))⟩
  · skip
    go_enter Tryd.func21, Tryd.ntmps21
    go_wp2_with (first
      | (go_at_call 37
         refine (c_szTestS _ _ _ _ _ s1 (by omega) (by omega)).mono ?_
         rintro e w' ⟨rfl, rfl⟩)
      | (go_at_call 38
         refine (c_szAssignS _ _ _ _ _ s2 (by omega) (by omega)).mono ?_
         rintro e w' ⟨rfl, rfl⟩)
      )
    go_ret
    exact ⟨_, rfl, .inr ⟨by omega, by omega, by omega, by omega⟩, by (repeat (first | exact Below.refl _ _ | assumption | refine below_alloc ?_ _ | refine below_drewN ?_ _ | refine below_set ?_ _ (by simp; try omega) | refine Below.drew ?_))⟩
set_option maxRecDepth 100000 in
theorem c_szRuleS (A : Option Addr) (c n : Nat) (l : List Rul) (left : Int) (w : World) (hn : n = l.length) (hm : n ≤ 9223372036854775807) (hs : ∀ r ∈ l, SzOk r) (h0 : 0 ≤ left) (h1 : left ≤ 1048576) (hr : Rl w A l) :
    Calls Tryd.prog 10 #[.slice A n c, .int .i64 left] w (Left left (RulOk l) w) := by
  have HN := Lib.hid hn
  clear hn
  have hw1 : IntKind.i64.wrap (left - (n : Int)) = left - n := IntWalk.i64_in _ (by omega)
  by_cases c0 : left - (n : Int) < 0
  · skip
    go_enter Tryd.func10, Tryd.ntmps10
    go_wp2
    go_ret
    exact ⟨-1, rfl, .inl rfl, by (repeat (first | exact Below.refl _ _ | assumption | refine below_alloc ?_ _ | refine below_drewN ?_ _ | refine below_set ?_ _ (by simp; try omega) | refine Below.drew ?_))⟩
  go_enter Tryd.func10, Tryd.ntmps10
  go_wp2
  go_loopw [1, 5] (fun t i wr => ∃ k : Nat, ∃ v : Int, k ≤ n ∧ i = .int .i64 k ∧ t = .int .i64 v ∧ 0 ≤ v ∧ v ≤ left ∧ Hid (∀ r ∈ l.take k, r.gs.length ≤ 1048576 ∧ r.es.length ≤ 1048576) ∧ Below w.heap.size w wr) (fun _ i _ => n - (intOf i).toNat)
  case atStart => exact ⟨0, _, Nat.zero_le _, rfl, rfl, by omega, by omega, by simp [Hid], by (repeat (first | exact Below.refl _ _ | assumption | refine below_alloc ?_ _ | refine below_drewN ?_ _ | refine below_set ?_ _ (by simp; try omega) | refine Below.drew ?_))⟩
  case round =>
    obtain ⟨k, v, hk, rfl, rfl, hv0, hv1, ha, hb⟩ := hrel
    by_cases hlt : k < n
    · obtain ⟨r, hz⟩ : ∃ z, l[k]? = some z := ⟨_, List.getElem?_eq_getElem (by have := HN.out; omega)⟩
      obtain ⟨b, off, ag, cg, ae, ce, rfl, _, g0, g1, g2, hg, he⟩ := (hr.below hb).at hz
      have HOK := Lib.hid (hs r (List.mem_of_getElem? hz))
      have HZ := Lib.hid hz
      have HB := Lib.hid hb
      clear hz hb hr hg he hs
      go_wp2_with (fail)
      refine (c_szRule r _ _ _ _ v _ HOK.out hv0 (by omega)).mono ?_
      rintro e w2 ⟨u, rfl, hu, hb⟩
      have HB2 := Lib.hid (below_chain HB.out hb)
      clear hb HB
      rcases hu with rfl | ⟨u0, u1, u2, u3⟩
      · go_wp2
        go_ret
        exact ⟨-1, rfl, .inl rfl, HB2.out⟩
      · go_wp2
        go_roundw
        case rel =>
          refine ⟨k + 1, u, by omega, by go_num, rfl, u0, by omega, ?_, HB2.out⟩
          refine Lib.hid ?_
          intro r' hr'
          rw [List.take_add_one, HZ.out, List.mem_append] at hr'
          rcases hr' with hr' | hr'
          · exact ha.out r' hr'
          · simp at hr'
            subst hr'
            exact ⟨u2, u3⟩
        case measure => simp [intOf]; omega
    · have : k = n := by omega
      subst this
      have HA := Lib.hid ha
      clear ha
      go_wp2
      go_ret
      refine ⟨v, rfl, .inr ⟨hv0, hv1, by have := HN.out; omega, ?_⟩, hb⟩
      have := HA.out.out
      rwa [List.take_of_length_le (by have := HN.out; omega)] at this
/-- The lengths of a model are those of a run. -/
def MSzOk (m : Mdl) : Prop := m.sz.length ≤ 9223372036854775807 ∧ m.st.length ≤ 9223372036854775807 ∧ m.rs.length ≤ 9223372036854775807 ∧ ∀ r ∈ m.rs, SzOk r
theorem c_szInt64S (A : Option Addr) (c n : Nat) (left : Int) (w : World) (hn : n ≤ 9223372036854775807) (h0 : 0 ≤ left) (h1 : left ≤ 1048576) :
    Calls Tryd.prog 9 #[.slice A n c, .int .i64 left] w fun e w' => e = .returned (.int .i64 (szI left n)) ∧ w = w' := by
  go_enter Tryd.func9, Tryd.ntmps9
  go_wp2
  all_goals go_ret
  all_goals (refine ⟨?_, rfl⟩; simp [szI]; try omega)
set_option maxRecDepth 100000 in
theorem c_szModel (m : Mdl) (az ax ar : Option Addr) (cz cs cr : Nat) (left : Int) (w : World) (hs : MSzOk m) (h0 : 0 ≤ left) (h1 : left ≤ 1048576) (h : Md w az ax ar m) :
    Calls Tryd.prog 4 #[mv m az ax ar cz cs cr, .int .i64 left] w (Left left (MdlOk m) w) := by
  obtain ⟨sz, st, rs⟩ := m
  obtain ⟨s0, s1, s2, s3⟩ := hs
  dsimp only [mv] at s0 s1 s2 s3 ⊢
  have H := Lib.hid h
  have HS3 := Lib.hid s3
  clear h s3
  have HL := Lib.hid (show MdlOk ⟨sz, st, rs⟩ ↔ (sz.length ≤ 1048576 ∧ st.length ≤ 1048576 ∧ RulOk rs) from Iff.rfl)
  rcases szI_cases (left := left) (n := sz.length) with ⟨e1, c1⟩ | ⟨e1, c1⟩
  · skip
    go_enter Tryd.func4, Tryd.ntmps4
    go_wp2_with (first
      | (go_at_call 9
         refine (c_szInt64S _ _ _ _ _ s0 (by omega) (by omega)).mono ?_
         rintro e w' ⟨rfl, rfl⟩)
      )
    go_ret
    exact ⟨-1, rfl, .inl rfl, by (repeat (first | exact Below.refl _ _ | assumption | refine below_alloc ?_ _ | refine below_drewN ?_ _ | refine below_set ?_ _ (by simp; try omega) | refine Below.drew ?_))⟩
  rcases szI_cases (left := left - sz.length) (n := st.length) with ⟨e2, c2⟩ | ⟨e2, c2⟩
  · skip
    go_enter Tryd.func4, Tryd.ntmps4
    go_wp2_with (first
      | (go_at_call 9
         refine (c_szInt64S _ _ _ _ _ (by assumption) (by omega) (by omega)).mono ?_
         rintro e w' ⟨rfl, rfl⟩)
      )
    go_ret
    exact ⟨-1, rfl, .inl rfl, by (repeat (first | exact Below.refl _ _ | assumption | refine below_alloc ?_ _ | refine below_drewN ?_ _ | refine below_set ?_ _ (by simp; try omega) | refine Below.drew ?_))⟩
  go_enter Tryd.func4, Tryd.ntmps4
  go_wp2_with (first
    | (go_at_call 9
       refine (c_szInt64S _ _ _ _ _ (by assumption) (by omega) (by omega)).mono ?_
       rintro e w' ⟨rfl, rfl⟩)
    )
  refine (c_szRuleS _ _ _ rs _ _ rfl s2 HS3.out (by omega) (by omega) (H.out.r.alloc _)).mono ?_
  rintro e w2 ⟨u, rfl, hu, hb⟩
  have HB2 := Lib.hid (below_chain (below_alloc (Below.refl _ _) _) hb)
  clear hb
  rcases hu with rfl | ⟨u0, u1, u2⟩
  · go_wp2
    go_ret
    exact ⟨-1, rfl, .inl rfl, HB2.out⟩
  · have HU := Lib.hid u2
    clear u2
    go_wp2
    go_ret
    exact ⟨u, rfl, .inr ⟨u0, by omega, HL.out.2 ⟨by omega, by omega, HU.out⟩⟩, HB2.out⟩
end Go.Proofs.YtgpmglfcdbpgkaaDoor
