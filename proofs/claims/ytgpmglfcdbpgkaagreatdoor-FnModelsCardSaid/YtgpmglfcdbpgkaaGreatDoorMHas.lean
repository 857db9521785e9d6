/- Contracts of the small functions on models (has, isState, areTests) of the reference. Condition: the sizes lie in 1 .. 32. -/
import Derived.Test.YtgpmglfcdbpgkaaGreatDoorMTo
namespace Go.Proofs.YtgpmglfcdbpgkaaGreatDoor
open Go.RowKit

def inB (x lo hi : Int) : Bool := decide (lo ≤ x ∧ x ≤ hi)
theorem c_within (x lo hi : Int) (w : World) : Calls Tryz.prog 45 #[.int .i64 x, .int .i64 lo, .int .i64 hi] w fun e w' => e = .returned (.bool (inB x lo hi)) ∧ w = w' := by
  go_enter Tryz.func45, Tryz.ntmps45
  go_wp2
  all_goals (go_ret)
  all_goals (refine ⟨?_, rfl⟩; congr 2; simp [inB]; omega)
theorem c_l01In (x lo hi : Int) (w : World) : Calls Tryz.prog 50 #[.int .i64 x, .int .i64 lo, .int .i64 hi] w fun e w' => e = .returned (.bool (inB x lo hi)) ∧ w = w' := by
  go_enter Tryz.func50, Tryz.ntmps50
  go_wp2
  all_goals (go_ret)
  all_goals (refine ⟨?_, rfl⟩; congr 2; simp [inB]; omega)
/-- The sizes lie in 1 .. 32. -/
def SzsOk (sz : List Int) : Prop := ∀ z ∈ sz, 1 ≤ z ∧ z ≤ 32
def hasB (sz : List Int) (v x : Int) : Bool := inB v 0 (sz.length - 1) && inB x 0 (sz.getD v.toNat 0 - 1)
set_option maxRecDepth 100000 in
theorem c_l20Has (m : Mdl) (az ax ar : Option Addr) (cz cs cr : Nat) (v x : Int) (w : World) (hs : SzsOk m.sz) (hl : m.sz.length ≤ 1048576) (h : Rd w az (ints m.sz)) :
    Calls Tryz.prog 106 #[mv m az ax ar cz cs cr, .int .i64 v, .int .i64 x] w fun e w' => e = .returned (.bool (hasB m.sz v x)) ∧ Below w.heap.size w w' := by
  obtain ⟨sz, st, rs⟩ := m
  dsimp only [mv] at hs hl h ⊢
  have hw : IntKind.i64.wrap ((sz.length : Int) - 1) = sz.length - 1 := IntWalk.i64_in _ (by omega)
  have HH := Lib.hid (show hasB sz v x = (inB v 0 (sz.length - 1) && inB x 0 (sz.getD v.toNat 0 - 1)) from rfl)
  generalize hasB sz v x = H at HH ⊢
  rcases hv : inB v 0 (sz.length - 1) with _ | _
  · have e := HH.out
    rw [hv, Bool.false_and] at e
    subst e
    clear HH h
    generalize sz.length = n at *
    go_enter Tryz.func106, Tryz.ntmps106
    go_wp2_with (first
      | (go_at_call 50
         refine (c_l01In _ _ _ _).mono ?_
         rintro e w' ⟨rfl, rfl⟩)
      )
    go_ret
    exact ⟨rfl, by (repeat (first | exact Below.refl _ _ | assumption | refine below_alloc ?_ _ | refine below_drewN ?_ _ | refine below_set ?_ _ (by simp; try omega) | refine Below.drew ?_))⟩
  · have e := HH.out
    rw [hv, Bool.true_and] at e
    clear HH
    have hvv : 0 ≤ v ∧ v < sz.length := by simp [inB] at hv; omega
    obtain ⟨k, rfl⟩ : ∃ k : Nat, v = k := ⟨v.toNat, by omega⟩
    have hk : k < sz.length := by omega
    obtain ⟨z, hz⟩ : ∃ z, sz[k]? = some z := ⟨_, List.getElem?_eq_getElem hk⟩
    have hzb := hs z (List.mem_of_getElem? hz)
    have hzg : sz.getD k 0 = z := by rw [List.getD_eq_getElem?_getD, hz]; rfl
    rw [Int.toNat_natCast, hzg] at e
    obtain ⟨b, off, rfl, _, g0⟩ := h.int hz
    have hw2 : IntKind.i64.wrap (z - 1) = z - 1 := IntWalk.i64_in _ (by omega)
    subst e
    clear hs hz hzg h
    generalize sz.length = n at *
    go_enter Tryz.func106, Tryz.ntmps106
    go_wp2_with (first
      | (go_at_call 50
         refine (c_l01In _ _ _ _).mono ?_
         rintro e w' ⟨rfl, rfl⟩)
      )
    go_ret
    exact ⟨rfl, by (repeat (first | exact Below.refl _ _ | assumption | refine below_alloc ?_ _ | refine below_drewN ?_ _ | refine below_set ?_ _ (by simp; try omega) | refine Below.drew ?_))⟩
theorem c_length (A : Option Addr) (c n : Nat) (w : World) : Calls Tryz.prog 57 #[.slice A n c] w fun e w' => e = .returned (.int .i64 n) ∧ w = w' := by
  go_enter Tryz.func57, Tryz.ntmps57
  go_wp2
  go_ret
  exact ⟨rfl, rfl⟩
set_option maxRecDepth 100000 in
theorem c_has (m : Mdl) (az ax ar : Option Addr) (cz cs cr : Nat) (v x : Int) (w : World) (hs : SzsOk m.sz) (hl : m.sz.length ≤ 1048576) (h : Rd w az (ints m.sz)) :
    Calls Tryz.prog 89 #[mv m az ax ar cz cs cr, .int .i64 v, .int .i64 x] w fun e w' => e = .returned (.bool (hasB m.sz v x)) ∧ Below w.heap.size w w' := by
  obtain ⟨sz, st, rs⟩ := m
  dsimp only [mv] at hs hl h ⊢
  have hw : IntKind.i64.wrap ((sz.length : Int) - 1) = sz.length - 1 := IntWalk.i64_in _ (by omega)
  have HH := Lib.hid (show hasB sz v x = (inB v 0 (sz.length - 1) && inB x 0 (sz.getD v.toNat 0 - 1)) from rfl)
  generalize hasB sz v x = H at HH ⊢
  rcases hv : inB v 0 (sz.length - 1) with _ | _
  · have e := HH.out
    rw [hv, Bool.false_and] at e
    subst e
    clear HH h
    generalize sz.length = n at *
    go_enter Tryz.func89, Tryz.ntmps89
    go_wp2_with (first
      | (go_at_call 45
         refine (c_within _ _ _ _).mono ?_
         rintro e w' ⟨rfl, rfl⟩)
      | (go_at_call 57
         refine (c_length _ _ _ _).mono ?_
         rintro e w' ⟨rfl, rfl⟩)
      )
    go_ret
    exact ⟨rfl, by (repeat (first | exact Below.refl _ _ | assumption | refine below_alloc ?_ _ | refine below_drewN ?_ _ | refine below_set ?_ _ (by simp; try omega) | refine Below.drew ?_))⟩
  · have e := HH.out
    rw [hv, Bool.true_and] at e
    clear HH
    have hvv : 0 ≤ v ∧ v < sz.length := by simp [inB] at hv; omega
    obtain ⟨k, rfl⟩ : ∃ k : Nat, v = k := ⟨v.toNat, by omega⟩
    have hk : k < sz.length := by omega
    obtain ⟨z, hz⟩ : ∃ z, sz[k]? = some z := ⟨_, List.getElem?_eq_getElem hk⟩
    have hzb := hs z (List.mem_of_getElem? hz)
    have hzg : sz.getD k 0 = z := by rw [List.getD_eq_getElem?_getD, hz]; rfl
    rw [Int.toNat_natCast, hzg] at e
    obtain ⟨b, off, rfl, _, g0⟩ := h.int hz
    have hw2 : IntKind.i64.wrap (z - 1) = z - 1 := IntWalk.i64_in _ (by omega)
    subst e
    clear hs hz hzg h
    generalize sz.length = n at *
    go_enter Tryz.func89, Tryz.ntmps89
    go_wp2_with (first
      | (go_at_call 45
         refine (c_within _ _ _ _).mono ?_
         rintro e w' ⟨rfl, rfl⟩)
      | (go_at_call 57
         refine (c_length _ _ _ _).mono ?_
         rintro e w' ⟨rfl, rfl⟩)
      )
    go_ret
    exact ⟨rfl, by (repeat (first | exact Below.refl _ _ | assumption | refine below_alloc ?_ _ | refine below_drewN ?_ _ | refine below_set ?_ _ (by simp; try omega) | refine Below.drew ?_))⟩
/-- The first k values lie within their sizes. -/
def stK (sz vs : List Int) (k : Nat) : Bool := (List.range k).all fun i => inB (vs.getD i 0) 0 (sz.getD i 0 - 1)
def stB (sz vs : List Int) : Bool := decide (vs.length = sz.length) && stK sz vs vs.length
theorem stK_zero (sz vs : List Int) : stK sz vs 0 = true := rfl
theorem stK_succ (sz vs : List Int) (k : Nat) : stK sz vs (k + 1) = (stK sz vs k && inB (vs.getD k 0) 0 (sz.getD k 0 - 1)) := by simp [stK, List.range_succ]
theorem stK_bad {sz vs : List Int} {k : Nat} (h : inB (vs.getD k 0) 0 (sz.getD k 0 - 1) = false) : ∀ n, k < n → stK sz vs n = false
  | 0, hk => by omega
  | n + 1, hk => by
    rw [stK_succ]
    by_cases e : k = n
    · subst e; rw [h]; simp
    · rw [stK_bad h n (by omega)]; rfl
theorem getD_of {l : List Int} {k : Nat} {z : Int} (h : l[k]? = some z) : l.getD k 0 = z := by rw [List.getD_eq_getElem?_getD, h]; rfl
set_option maxRecDepth 100000 in
theorem c_isState (m : Mdl) (az ax ar : Option Addr) (cz cs cr : Nat) (A : Option Addr) (c : Nat) (vs : List Int) (w : World) (hs : SzsOk m.sz) (hl : m.sz.length ≤ 1048576) (hl2 : vs.length ≤ 1048576) (h : Rd w az (ints m.sz)) (hv : Rd w A (ints vs)) :
    Calls Tryz.prog 60 #[mv m az ax ar cz cs cr, .slice A vs.length c] w fun e w' => e = .returned (.bool (stB m.sz vs)) ∧ Below w.heap.size w w' := by
  have HH := Lib.hid (fun (w : World) (h : Rd w az (ints m.sz)) (v x : Int) => c_has m az ax ar cz cs cr v x w hs hl h)
  have HB0 := Lib.hid (show stB m.sz vs = (decide (vs.length = m.sz.length) && stK m.sz vs vs.length) from rfl)
  generalize stB m.sz vs = R at HB0 ⊢
  by_cases hne : vs.length = m.sz.length
  · have e0 := HB0.out
    rw [decide_eq_true hne, Bool.true_and] at e0
    have E0 := Lib.hid e0
    have HNE := Lib.hid hne
    clear e0 HB0
    obtain ⟨sz, st, rs⟩ := m
    dsimp only [mv] at *
    generalize hsn : sz.length = sn at *
    generalize hvn : vs.length = vn at *
    subst hne
    have HSN := Lib.hid hsn
    have HVN := Lib.hid hvn
    clear hsn hvn
    go_enter Tryz.func60, Tryz.ntmps60
    go_wp2
    have HV := Lib.hid hv
    have HZ := Lib.hid h
    clear hv h
    go_loopw [15] (fun i wr => ∃ k : Nat, k ≤ vn ∧ i = .int .i64 k ∧ Hid (stK sz vs k = true) ∧ wr.cell? ⟨w.heap.size, 0, none⟩ = some (.slice az vn cz) ∧ wr.cell? ⟨w.heap.size, 1, none⟩ = some (.slice ax st.length cs) ∧ wr.cell? ⟨w.heap.size, 2, none⟩ = some (.slice ar rs.length cr) ∧ Below w.heap.size w wr) (fun i _ => vn - (intOf i).toNat)
    case atStart => exact ⟨0, Nat.zero_le _, rfl, Lib.hid rfl, by go_simp, by go_simp, by go_simp, by (repeat (first | exact Below.refl _ _ | assumption | refine below_alloc ?_ _ | refine below_drewN ?_ _ | refine below_set ?_ _ (by simp; try omega) | refine Below.drew ?_))⟩
    case round =>
      obtain ⟨k, hk, rfl, ha, k0, k1, k2, hb⟩ := hrel
      by_cases hlt : k < vn
      · obtain ⟨z, hz⟩ : ∃ z, vs[k]? = some z := ⟨_, List.getElem?_eq_getElem (by have := HVN.out; omega)⟩
        obtain ⟨b, off, rfl, _, g0⟩ := (HV.out.below hb).int hz
        have hg := getD_of hz
        have hb1 : inB (k : Int) 0 ((sz.length : Int) - 1) = true := by have := HSN.out; simp [inB]; omega
        have hh : hasB sz (k : Int) z = inB (vs.getD k 0) 0 (sz.getD k 0 - 1) := by unfold hasB; rw [hb1, Bool.true_and, hg, Int.toNat_natCast]
        have HC := Lib.hid (fun w h => HH.out w h k z)
        rw [hh] at HC
        have HBE := Lib.hid hb
        clear hz hb hb1 hg hh
        rcases hin : inB (vs.getD k 0) 0 (sz.getD k 0 - 1) with _ | _
        · rw [hin] at HC
          have HI := Lib.hid hin
          clear hin
          go_wp2_with (fail)
          refine (HC.out _ (HZ.out.below HBE.out)).mono ?_
          rintro e w2 ⟨rfl, hb⟩
          have HB2 := Lib.hid (below_chain HBE.out hb)
          clear hb
          go_wp2
          go_ret
          exact ⟨ret_bool (by rw [E0.out, stK_bad HI.out _ hlt]), HB2.out⟩
        · rw [hin] at HC
          have HI := Lib.hid hin
          clear hin
          go_wp2_with (fail)
          refine (HC.out _ (HZ.out.below HBE.out)).mono ?_
          rintro e w2 ⟨rfl, hb⟩
          have HB2 := Lib.hid (below_chain HBE.out hb)
          have K0 := Lib.hid (cell_later hb k0)
          have K1 := Lib.hid (cell_later hb k1)
          have K2 := Lib.hid (cell_later hb k2)
          clear hb k0 k1 k2
          go_wp2
          go_roundw
          case rel => exact ⟨k + 1, by omega, by go_num, Lib.hid (by rw [stK_succ, ha.out, HI.out]; rfl), K0.out, K1.out, K2.out, HB2.out⟩
          case measure => simp [intOf]; omega
      · have : k = vn := by omega
        subst this
        go_wp2
        go_ret
        exact ⟨ret_bool (by rw [E0.out, ha.out]), hb⟩
  · have e0 := HB0.out
    rw [decide_eq_false hne, Bool.false_and] at e0
    subst e0
    clear HB0 HH hs h hv
    obtain ⟨sz, st, rs⟩ := m
    dsimp only [mv] at *
    generalize sz.length = sn at *
    generalize vs.length = vn at *
    go_enter Tryz.func60, Tryz.ntmps60
    go_wp2
    go_ret
    exact ⟨rfl, by (repeat (first | exact Below.refl _ _ | assumption | refine below_alloc ?_ _ | refine below_drewN ?_ _ | refine below_set ?_ _ (by simp; try omega) | refine Below.drew ?_))⟩
end Go.Proofs.YtgpmglfcdbpgkaaGreatDoor
