/- Contracts and helpers (joined texts, part 1). The conditions stand at each theorem. -/
import Derived.Test.YtdjehopcpjkgjaaGreatH0
import Derived.Test.YtdjehopcpjkgjaaGreatFacts
import Derived.ProofKit
import Derived.OpenShut
import Derived.ShutString
import Derived.ChangeOld
import Derived.Deep.Slices
import Derived.Lib.Strings
import Derived.Lib.Slices
import Derived.Lib.Walk
import Derived.Lib.Bytealg
import Derived.Deep.RegionHeld3
/- Contracts of the small functions on models (has, isState, areTests) of the reference. Condition: the sizes lie in 1 .. 32. -/
namespace Go.Proofs.YtdjehopcpjkgjaaGreat
open Go.RowKit

def inB (x lo hi : Int) : Bool := decide (lo ≤ x ∧ x ≤ hi)
theorem c_within (x lo hi : Int) (w : World) : Calls Tryz.prog 72 #[.int .i64 x, .int .i64 lo, .int .i64 hi] w fun e w' => e = .returned (.bool (inB x lo hi)) ∧ w = w' := by
  go_enter Tryz.func72, Tryz.ntmps72
  go_wp2
  all_goals (go_ret)
  all_goals (refine ⟨?_, rfl⟩; congr 2; simp [inB]; omega)
theorem c_l01In (x lo hi : Int) (w : World) : Calls Tryz.prog 67 #[.int .i64 x, .int .i64 lo, .int .i64 hi] w fun e w' => e = .returned (.bool (inB x lo hi)) ∧ w = w' := by
  go_enter Tryz.func67, Tryz.ntmps67
  go_wp2
  all_goals (go_ret)
  all_goals (refine ⟨?_, rfl⟩; congr 2; simp [inB]; omega)
/-- The sizes lie in 1 .. 32. -/
def SzsOk (sz : List Int) : Prop := ∀ z ∈ sz, 1 ≤ z ∧ z ≤ 32
def hasB (sz : List Int) (v x : Int) : Bool := inB v 0 (sz.length - 1) && inB x 0 (sz.getD v.toNat 0 - 1)
set_option maxRecDepth 100000 in
theorem c_l20Has (m : Mdl) (az ax ar : Option Addr) (cz cs cr : Nat) (v x : Int) (w : World) (hs : SzsOk m.sz) (hl : m.sz.length ≤ 1048576) (h : Rd w az (ints m.sz)) :
    Calls Tryz.prog 86 #[mv m az ax ar cz cs cr, .int .i64 v, .int .i64 x] w fun e w' => e = .returned (.bool (hasB m.sz v x)) ∧ Below w.heap.size w w' := by
  obtain ⟨sz, st, rs⟩ := m
  dsimp only [mv] at hs hl h ⊢
  have hw : IntKind.i64.wrap ((sz.length : Int) - 1) = sz.length - 1 := IntWalk.i64_in _ (by omega)
  have HH := Lib.hid (show hasB sz v x = (inB v 0 (sz.length - 1) && inB x 0 (sz.getD v.toNat 0 - 1)) from rfl)
  generalize hasB sz v x = H at HH ⊢
  rcases hv : inB v 0 (sz.length - 1) with _ | _
  · have e := HH.out
    rw [hv, Bool.false_and] at e
    subst e
    clear HH h
    generalize sz.length = n at *
    go_enter Tryz.func86, Tryz.ntmps86
    go_wp2_with (first
      | (go_at_call 67
         refine (c_l01In _ _ _ _).mono ?_
         rintro e w' ⟨rfl, rfl⟩)
      )
    go_ret
    exact ⟨rfl, by (repeat (first | exact Below.refl _ _ | assumption | refine below_alloc ?_ _ | refine below_drewN ?_ _ | refine below_set ?_ _ (by simp; try omega) | refine Below.drew ?_))⟩
  · have e := HH.out
    rw [hv, Bool.true_and] at e
    clear HH
    have hvv : 0 ≤ v ∧ v < sz.length := by simp [inB] at hv; omega
    obtain ⟨k, rfl⟩ : ∃ k : Nat, v = k := ⟨v.toNat, by omega⟩
    have hk : k < sz.length := by omega
    obtain ⟨z, hz⟩ : ∃ z, sz[k]? = some z := ⟨_, List.getElem?_eq_getElem hk⟩
    have hzb := hs z (List.mem_of_getElem? hz)
    have hzg : sz.getD k 0 = z := by rw [List.getD_eq_getElem?_getD, hz]; rfl
    rw [Int.toNat_natCast, hzg] at e
    obtain ⟨b, off, rfl, _, g0⟩ := h.int hz
    have hw2 : IntKind.i64.wrap (z - 1) = z - 1 := IntWalk.i64_in _ (by omega)
    subst e
    clear hs hz hzg h
    generalize sz.length = n at *
    go_enter Tryz.func86, Tryz.ntmps86
    go_wp2_with (first
      | (go_at_call 67
         refine (c_l01In _ _ _ _).mono ?_
         rintro e w' ⟨rfl, rfl⟩)
      )
    go_ret
    exact ⟨rfl, by (repeat (first | exact Below.refl _ _ | assumption | refine below_alloc ?_ _ | refine below_drewN ?_ _ | refine below_set ?_ _ (by simp; try omega) | refine Below.drew ?_))⟩
theorem c_length (A : Option Addr) (c n : Nat) (w : World) : Calls Tryz.prog 73 #[.slice A n c] w fun e w' => e = .returned (.int .i64 n) ∧ w = w' := by
  go_enter Tryz.func73, Tryz.ntmps73
  go_wp2
  go_ret
  exact ⟨rfl, rfl⟩
set_option maxRecDepth 100000 in
theorem c_has (m : Mdl) (az ax ar : Option Addr) (cz cs cr : Nat) (v x : Int) (w : World) (hs : SzsOk m.sz) (hl : m.sz.length ≤ 1048576) (h : Rd w az (ints m.sz)) :
    Calls Tryz.prog 79 #[mv m az ax ar cz cs cr, .int .i64 v, .int .i64 x] w fun e w' => e = .returned (.bool (hasB m.sz v x)) ∧ Below w.heap.size w w' := by
  obtain ⟨sz, st, rs⟩ := m
  dsimp only [mv] at hs hl h ⊢
  have hw : IntKind.i64.wrap ((sz.length : Int) - 1) = sz.length - 1 := IntWalk.i64_in _ (by omega)
  have HH := Lib.hid (show hasB sz v x = (inB v 0 (sz.length - 1) && inB x 0 (sz.getD v.toNat 0 - 1)) from rfl)
  generalize hasB sz v x = H at HH ⊢
  rcases hv : inB v 0 (sz.length - 1) with _ | _
  · have e := HH.out
    rw [hv, Bool.false_and] at e
    subst e
    clear HH h
    generalize sz.length = n at *
    go_enter Tryz.func79, Tryz.ntmps79
    go_wp2_with (first
      | (go_at_call 72
         refine (c_within _ _ _ _).mono ?_
         rintro e w' ⟨rfl, rfl⟩)
      | (go_at_call 73
         refine (c_length _ _ _ _).mono ?_
         rintro e w' ⟨rfl, rfl⟩)
      )
    go_ret
    exact ⟨rfl, by (repeat (first | exact Below.refl _ _ | assumption | refine below_alloc ?_ _ | refine below_drewN ?_ _ | refine below_set ?_ _ (by simp; try omega) | refine Below.drew ?_))⟩
  · have e := HH.out
    rw [hv, Bool.true_and] at e
    clear HH
    have hvv : 0 ≤ v ∧ v < sz.length := by simp [inB] at hv; omega
    obtain ⟨k, rfl⟩ : ∃ k : Nat, v = k := ⟨v.toNat, by omega⟩
    have hk : k < sz.length := by omega
    obtain ⟨z, hz⟩ : ∃ z, sz[k]? = some z := ⟨_, List.getElem?_eq_getElem hk⟩
    have hzb := hs z (List.mem_of_getElem? hz)
    have hzg : sz.getD k 0 = z := by rw [List.getD_eq_getElem?_getD, hz]; rfl
    rw [Int.toNat_natCast, hzg] at e
    obtain ⟨b, off, rfl, _, g0⟩ := h.int hz
    have hw2 : IntKind.i64.wrap (z - 1) = z - 1 := IntWalk.i64_in _ (by omega)
    subst e
    clear hs hz hzg h
    generalize sz.length = n at *
    go_enter Tryz.func79, Tryz.ntmps79
    go_wp2_with (first
      | (go_at_call 72
         refine (c_within _ _ _ _).mono ?_
         rintro e w' ⟨rfl, rfl⟩)
      | (go_at_call 73
         refine (c_length _ _ _ _).mono ?_
         rintro e w' ⟨rfl, rfl⟩)
      )
    go_ret
    exact ⟨rfl, by (repeat (first | exact Below.refl _ _ | assumption | refine below_alloc ?_ _ | refine below_drewN ?_ _ | refine below_set ?_ _ (by simp; try omega) | refine Below.drew ?_))⟩
/-- The first k values lie within their sizes. -/
def stK (sz vs : List Int) (k : Nat) : Bool := (List.range k).all fun i => inB (vs.getD i 0) 0 (sz.getD i 0 - 1)
def stB (sz vs : List Int) : Bool := decide (vs.length = sz.length) && stK sz vs vs.length
theorem stK_zero (sz vs : List Int) : stK sz vs 0 = true := rfl
theorem stK_succ (sz vs : List Int) (k : Nat) : stK sz vs (k + 1) = (stK sz vs k && inB (vs.getD k 0) 0 (sz.getD k 0 - 1)) := by simp [stK, List.range_succ]
theorem stK_bad {sz vs : List Int} {k : Nat} (h : inB (vs.getD k 0) 0 (sz.getD k 0 - 1) = false) : ∀ n, k < n → stK sz vs n = false
  | 0, hk => by omega
  | n + 1, hk => by
    rw [stK_succ]
    by_cases e : k = n
    · subst e; rw [h]; simp
    · rw [stK_bad h n (by omega)]; rfl
theorem getD_of {l : List Int} {k : Nat} {z : Int} (h : l[k]? = some z) : l.getD k 0 = z := by rw [List.getD_eq_getElem?_getD, h]; rfl
set_option maxRecDepth 100000 in
theorem c_isState (m : Mdl) (az ax ar : Option Addr) (cz cs cr : Nat) (A : Option Addr) (c : Nat) (vs : List Int) (w : World) (hs : SzsOk m.sz) (hl : m.sz.length ≤ 1048576) (hl2 : vs.length ≤ 1048576) (h : Rd w az (ints m.sz)) (hv : Rd w A (ints vs)) :
    Calls Tryz.prog 50 #[mv m az ax ar cz cs cr, .slice A vs.length c] w fun e w' => e = .returned (.bool (stB m.sz vs)) ∧ Below w.heap.size w w' := by
  have HH := Lib.hid (fun (w : World) (h : Rd w az (ints m.sz)) (v x : Int) => c_has m az ax ar cz cs cr v x w hs hl h)
  have HB0 := Lib.hid (show stB m.sz vs = (decide (vs.length = m.sz.length) && stK m.sz vs vs.length) from rfl)
  generalize stB m.sz vs = R at HB0 ⊢
  by_cases hne : vs.length = m.sz.length
  · have e0 := HB0.out
    rw [decide_eq_true hne, Bool.true_and] at e0
    have E0 := Lib.hid e0
    have HNE := Lib.hid hne
    clear e0 HB0
    obtain ⟨sz, st, rs⟩ := m
    dsimp only [mv] at *
    generalize hsn : sz.length = sn at *
    generalize hvn : vs.length = vn at *
    subst hne
    have HSN := Lib.hid hsn
    have HVN := Lib.hid hvn
    clear hsn hvn
    go_enter Tryz.func50, Tryz.ntmps50
    go_wp2
    have HV := Lib.hid hv
    have HZ := Lib.hid h
    clear hv h
    go_loopw [15] (fun i wr => ∃ k : Nat, k ≤ vn ∧ i = .int .i64 k ∧ Hid (stK sz vs k = true) ∧ wr.cell? ⟨w.heap.size, 0, none⟩ = some (.slice az vn cz) ∧ wr.cell? ⟨w.heap.size, 1, none⟩ = some (.slice ax st.length cs) ∧ wr.cell? ⟨w.heap.size, 2, none⟩ = some (.slice ar rs.length cr) ∧ Below w.heap.size w wr) (fun i _ => vn - (intOf i).toNat)
    case atStart => exact ⟨0, Nat.zero_le _, rfl, Lib.hid rfl, by go_simp, by go_simp, by go_simp, by (repeat (first | exact Below.refl _ _ | assumption | refine below_alloc ?_ _ | refine below_drewN ?_ _ | refine below_set ?_ _ (by simp; try omega) | refine Below.drew ?_))⟩
    case round =>
      obtain ⟨k, hk, rfl, ha, k0, k1, k2, hb⟩ := hrel
      by_cases hlt : k < vn
      · obtain ⟨z, hz⟩ : ∃ z, vs[k]? = some z := ⟨_, List.getElem?_eq_getElem (by have := HVN.out; omega)⟩
        obtain ⟨b, off, rfl, _, g0⟩ := (HV.out.below hb).int hz
        have hg := getD_of hz
        have hb1 : inB (k : Int) 0 ((sz.length : Int) - 1) = true := by have := HSN.out; simp [inB]; omega
        have hh : hasB sz (k : Int) z = inB (vs.getD k 0) 0 (sz.getD k 0 - 1) := by unfold hasB; rw [hb1, Bool.true_and, hg, Int.toNat_natCast]
        have HC := Lib.hid (fun w h => HH.out w h k z)
        rw [hh] at HC
        have HBE := Lib.hid hb
        clear hz hb hb1 hg hh
        rcases hin : inB (vs.getD k 0) 0 (sz.getD k 0 - 1) with _ | _
        · rw [hin] at HC
          have HI := Lib.hid hin
          clear hin
          go_wp2_with (fail)
          refine (HC.out _ (HZ.out.below HBE.out)).mono ?_
          rintro e w2 ⟨rfl, hb⟩
          have HB2 := Lib.hid (below_chain HBE.out hb)
          clear hb
          go_wp2
          go_ret
          exact ⟨ret_bool (by rw [E0.out, stK_bad HI.out _ hlt]), HB2.out⟩
        · rw [hin] at HC
          have HI := Lib.hid hin
          clear hin
          go_wp2_with (fail)
          refine (HC.out _ (HZ.out.below HBE.out)).mono ?_
          rintro e w2 ⟨rfl, hb⟩
          have HB2 := Lib.hid (below_chain HBE.out hb)
          have K0 := Lib.hid (cell_later hb k0)
          have K1 := Lib.hid (cell_later hb k1)
          have K2 := Lib.hid (cell_later hb k2)
          clear hb k0 k1 k2
          go_wp2
          go_roundw
          case rel => exact ⟨k + 1, by omega, by go_num, Lib.hid (by rw [stK_succ, ha.out, HI.out]; rfl), K0.out, K1.out, K2.out, HB2.out⟩
          case measure => simp [intOf]; omega
      · have : k = vn := by omega
        subst this
        go_wp2
        go_ret
        exact ⟨ret_bool (by rw [E0.out, ha.out]), hb⟩
  · have e0 := HB0.out
    rw [decide_eq_false hne, Bool.false_and] at e0
    subst e0
    clear HB0 HH hs h hv
    obtain ⟨sz, st, rs⟩ := m
    dsimp only [mv] at *
    generalize sz.length = sn at *
    generalize vs.length = vn at *
    go_enter Tryz.func50, Tryz.ntmps50
    go_wp2
    go_ret
    exact ⟨rfl, by (repeat (first | exact Below.refl _ _ | assumption | refine below_alloc ?_ _ | refine below_drewN ?_ _ | refine below_set ?_ _ (by simp; try omega) | refine Below.drew ?_))⟩
end Go.Proofs.YtdjehopcpjkgjaaGreat

/- Contract of l20State (reference). Condition: the sizes lie in 1 .. 32. -/
namespace Go.Proofs.YtdjehopcpjkgjaaGreat
open Go.RowKit

set_option maxRecDepth 100000 in
theorem c_l20State (m : Mdl) (az ax ar : Option Addr) (cz cs cr : Nat) (A : Option Addr) (c : Nat) (vs : List Int) (w : World) (hs : SzsOk m.sz) (hl : m.sz.length ≤ 1048576) (hl2 : vs.length ≤ 1048576) (h : Rd w az (ints m.sz)) (hv : Rd w A (ints vs)) :
    Calls Tryz.prog 45 #[mv m az ax ar cz cs cr, .slice A vs.length c] w fun e w' => e = .returned (.bool (stB m.sz vs)) ∧ Below w.heap.size w w' := by
  have HB0 := Lib.hid (show stB m.sz vs = (decide (vs.length = m.sz.length) && stK m.sz vs vs.length) from rfl)
  generalize stB m.sz vs = R at HB0 ⊢
  obtain ⟨sz, st, rs⟩ := m
  dsimp only [mv] at *
  have HSN := Lib.hid (rfl : sz.length = sz.length)
  generalize hsn : sz.length = sn at *
  generalize hvn : vs.length = vn at *
  replace HSN := Lib.hid hsn
  have HVN := Lib.hid hvn
  have HV := Lib.hid hv
  have HZ := Lib.hid h
  have HS := Lib.hid hs
  clear hv h hs hsn hvn
  go_enter Tryz.func45, Tryz.ntmps45
  go_wp2
  go_loopw [5] (fun i wr => ∃ k : Nat, k ≤ vn ∧ k ≤ sn ∧ i = .int .i64 k ∧ Hid (stK sz vs k = true) ∧ wr.cell? ⟨w.heap.size, 0, none⟩ = some (.slice az sn cz) ∧ Below w.heap.size w wr) (fun i _ => vn - (intOf i).toNat)
  case atStart => exact ⟨0, Nat.zero_le _, Nat.zero_le _, rfl, Lib.hid rfl, by go_simp, by (repeat (first | exact Below.refl _ _ | assumption | refine below_alloc ?_ _ | refine below_drewN ?_ _ | refine below_set ?_ _ (by simp; try omega) | refine Below.drew ?_))⟩
  case round =>
    obtain ⟨k, hk, hk2, rfl, ha, k0, hb⟩ := hrel
    by_cases hlt : k < vn
    · by_cases hlt2 : k < sn
      · obtain ⟨z, hz⟩ : ∃ z, vs[k]? = some z := ⟨_, List.getElem?_eq_getElem (by have := HVN.out; omega)⟩
        obtain ⟨s, hz2⟩ : ∃ z, sz[k]? = some z := ⟨_, List.getElem?_eq_getElem (by have := HSN.out; omega)⟩
        obtain ⟨b, off, rfl, _, g0⟩ := (HV.out.below hb).int hz
        obtain ⟨b2, off2, rfl, _, g1⟩ := (HZ.out.below hb).int hz2
        have hsb := HS.out s (List.mem_of_getElem? hz2)
        have hw2 : IntKind.i64.wrap (s - 1) = s - 1 := IntWalk.i64_in _ (by omega)
        have HG := Lib.hid (show inB (vs.getD k 0) 0 (sz.getD k 0 - 1) = inB z 0 (s - 1) by rw [getD_of hz, getD_of hz2])
        have HBE := Lib.hid hb
        clear hz hb hz2
        rcases hin : inB z 0 (s - 1) with _ | _
        · have HI := Lib.hid (HG.out.trans hin)
          go_wp2
          refine wp_region_quiet_lit (by kernel_rfl) (by kernel_rfl) ?_
          (repeat (any_goals (first | go_big_quiet_step (first | (go_at_call 67; exact Calls.quiet_of_same ((c_l01In _ _ _ _).mono fun _ _ h => ⟨h.1, h.2.symm⟩))) | quiet_step (first | (go_at_call 67; exact Calls.quiet_of_same ((c_l01In _ _ _ _).mono fun _ _ h => ⟨h.1, h.2.symm⟩))) | (refine wpQuiet_step (fun K hK => ?_); go_simp; split <;> (refine hK _ ?_; clear hK K)))))
          all_goals (refine wpQuiet_nil ?_; intro _ hw'; obtain ⟨nq, hw''⟩ := hw'; subst hw'')
          go_wp2
          go_ret
          exact ⟨ret_bool (by rw [HB0.out, stK_bad HI.out _ hlt, Bool.and_false]), below_drewN HBE.out _⟩
        · have HI := Lib.hid (HG.out.trans hin)
          go_wp2
          refine wp_region_quiet_lit (by kernel_rfl) (by kernel_rfl) ?_
          (repeat (any_goals (first | go_big_quiet_step (first | (go_at_call 67; exact Calls.quiet_of_same ((c_l01In _ _ _ _).mono fun _ _ h => ⟨h.1, h.2.symm⟩))) | quiet_step (first | (go_at_call 67; exact Calls.quiet_of_same ((c_l01In _ _ _ _).mono fun _ _ h => ⟨h.1, h.2.symm⟩))) | (refine wpQuiet_step (fun K hK => ?_); go_simp; split <;> (refine hK _ ?_; clear hK K)))))
          all_goals (refine wpQuiet_nil ?_; intro _ hw'; obtain ⟨nq, hw''⟩ := hw'; subst hw'')
          go_wp2
          go_roundw
          case rel => exact ⟨k + 1, by omega, by omega, by go_num, Lib.hid (by rw [stK_succ, ha.out, HI.out]; rfl), k0, below_drewN HBE.out _⟩
          case measure => simp [intOf]; omega
      · have hne : ¬ vn = sn := by omega
        have e0 := HB0.out
        rw [decide_eq_false hne, Bool.false_and] at e0
        subst e0
        clear HB0
        go_wp2
        go_ret
        exact ⟨ret_bool (by simp; omega), hb⟩
    · have hkv : k = vn := by omega
      subst hkv
      have e0 := HB0.out
      rw [ha.out, Bool.and_true] at e0
      clear HB0
      by_cases hne : k = sn
      · rw [decide_eq_true hne] at e0
        subst e0
        subst hne
        go_wp2
        go_ret
        exact ⟨rfl, hb⟩
      · rw [decide_eq_false hne] at e0
        subst e0
        go_wp2
        go_ret
        exact ⟨ret_bool (by simp; omega), hb⟩
end Go.Proofs.YtdjehopcpjkgjaaGreat

/- Contracts of l20Tests (reference) and areTests (program). Condition: the sizes lie in 1 .. 32. -/
namespace Go.Proofs.YtdjehopcpjkgjaaGreat
open Go.RowKit

def tsK (sz : List Int) (l : List Tst) : Bool := l.all fun t => hasB sz t.v t.x
def tsB (sz : List Int) (l : List Tst) : Bool := tsK sz l && decide (l.length ≤ 24)
theorem tsK_snoc {sz : List Int} {l : List Tst} {k : Nat} {t : Tst} (hz : l[k]? = some t) (h : tsK sz (l.take k) = true) (h2 : hasB sz t.v t.x = true) : tsK sz (l.take (k + 1)) = true := by
  unfold tsK at h ⊢
  rw [List.take_add_one, List.all_append, h, hz]
  simp [h2]
theorem tsK_bad {sz : List Int} {l : List Tst} {k : Nat} {t : Tst} (hz : l[k]? = some t) (h2 : hasB sz t.v t.x = false) : tsK sz l = false := by
  unfold tsK
  rw [List.all_eq_false]
  exact ⟨t, List.mem_of_getElem? hz, by simp [h2]⟩
set_option maxRecDepth 100000 in
theorem c_l20Tests (m : Mdl) (az ax ar : Option Addr) (cz cs cr : Nat) (A : Option Addr) (c : Nat) (l : List Tst) (w : World) (hs : SzsOk m.sz) (hl : m.sz.length ≤ 1048576) (hl2 : l.length ≤ 1048576) (h : Rd w az (ints m.sz)) (hv : Rd w A (tstCells l)) :
    Calls Tryz.prog 60 #[mv m az ax ar cz cs cr, .slice A l.length c] w fun e w' => e = .returned (.bool (tsB m.sz l)) ∧ Below w.heap.size w w' := by
  have HH := Lib.hid (fun (w : World) (h : Rd w az (ints m.sz)) (v x : Int) => c_l20Has m az ax ar cz cs cr v x w hs hl h)
  have HB0 := Lib.hid (show tsB m.sz l = (tsK m.sz l && decide (l.length ≤ 24)) from rfl)
  generalize tsB m.sz l = R at HB0 ⊢
  obtain ⟨sz, st, rs⟩ := m
  dsimp only [mv] at *
  generalize sz.length = sn at *
  generalize hvn : l.length = vn at *
  have HVN := Lib.hid hvn
  have HV := Lib.hid hv
  have HZ := Lib.hid h
  clear hv h hs hvn
  go_enter Tryz.func60, Tryz.ntmps60
  go_wp2
  go_loopw [5] (fun i wr => ∃ k : Nat, k ≤ vn ∧ i = .int .i64 k ∧ Hid (tsK sz (l.take k) = true) ∧ wr.cell? ⟨w.heap.size, 0, none⟩ = some (.slice az sn cz) ∧ wr.cell? ⟨w.heap.size, 1, none⟩ = some (.slice ax st.length cs) ∧ wr.cell? ⟨w.heap.size, 2, none⟩ = some (.slice ar rs.length cr) ∧ Below w.heap.size w wr) (fun i _ => vn - (intOf i).toNat)
  case atStart => exact ⟨0, Nat.zero_le _, rfl, Lib.hid rfl, by go_simp, by go_simp, by go_simp, by (repeat (first | exact Below.refl _ _ | assumption | refine below_alloc ?_ _ | refine below_drewN ?_ _ | refine below_set ?_ _ (by simp; try omega) | refine Below.drew ?_))⟩
  case round =>
    obtain ⟨k, hk, rfl, ha, k0, k1, k2, hb⟩ := hrel
    by_cases hlt : k < vn
    · obtain ⟨t, hz⟩ : ∃ z, l[k]? = some z := ⟨_, List.getElem?_eq_getElem (by have := HVN.out; omega)⟩
      obtain ⟨b, off, rfl, _, g0, g1, g2⟩ := (HV.out.below hb).tst hz
      have HZZ := Lib.hid hz
      have HC := Lib.hid (fun w h => HH.out w h t.v t.x)
      have HBE := Lib.hid hb
      clear hz hb
      rcases hin : hasB sz t.v t.x with _ | _
      · rw [hin] at HC
        have HI := Lib.hid hin
        clear hin
        go_wp2
        go_still_tail 11, (by kernel_rfl)
        change wpList _ _ _ _ _ wr.drew
        go_wp2_with (fail)
        refine (HC.out _ (HZ.out.below HBE.out.drew)).mono ?_
        rintro e w2 ⟨rfl, hb⟩
        have HB2 := Lib.hid (below_chain HBE.out.drew hb)
        clear hb
        go_wp2
        go_ret
        exact ⟨ret_bool (by rw [HB0.out, tsK_bad HZZ.out HI.out, Bool.false_and]), HB2.out⟩
      · rw [hin] at HC
        have HI := Lib.hid hin
        clear hin
        go_wp2
        go_still_tail 11, (by kernel_rfl)
        change wpList _ _ _ _ _ wr.drew
        go_wp2_with (fail)
        refine (HC.out _ (HZ.out.below HBE.out.drew)).mono ?_
        rintro e w2 ⟨rfl, hb⟩
        have HB2 := Lib.hid (below_chain HBE.out.drew hb)
        have K0 := Lib.hid (cell_later hb (show wr.drew.cell? _ = _ from k0))
        have K1 := Lib.hid (cell_later hb (show wr.drew.cell? _ = _ from k1))
        have K2 := Lib.hid (cell_later hb (show wr.drew.cell? _ = _ from k2))
        clear hb k0 k1 k2
        go_wp2
        go_roundw
        case rel => exact ⟨k + 1, by omega, by go_num, Lib.hid (tsK_snoc HZZ.out ha.out HI.out), K0.out, K1.out, K2.out, HB2.out⟩
        case measure => simp [intOf]; omega
    · have : k = vn := by omega
      subst this
      have hA := ha.out
      rw [List.take_of_length_le (by have := HVN.out; omega)] at hA
      have HA := Lib.hid hA
      clear hA ha
      go_wp2
      go_ret
      exact ⟨ret_bool (by rw [HB0.out, HA.out, Bool.true_and]; simp; omega), hb⟩
end Go.Proofs.YtdjehopcpjkgjaaGreat

/- Contract of the closure of areTests (program). Condition: the sizes lie in 1 .. 32. -/
namespace Go.Proofs.YtdjehopcpjkgjaaGreat
open Go.RowKit

set_option maxRecDepth 100000 in
theorem c_areTests1 (m : Mdl) (az ax ar : Option Addr) (cz cs cr : Nat) (p : Nat) (v x : Int) (q : Bool) (w : World) (hs : SzsOk m.sz) (hl : m.sz.length ≤ 1048576) (h : Rd w az (ints m.sz))
    (k0 : w.cell? ⟨p, 0, none⟩ = some (.slice az m.sz.length cz)) (k1 : w.cell? ⟨p, 1, none⟩ = some (.slice ax m.st.length cs)) (k2 : w.cell? ⟨p, 2, none⟩ = some (.slice ar m.rs.length cr)) :
    Calls Tryz.prog 89 #[.agg #[.int .i64 v, .int .i64 x, .bool q], .pointer (some ⟨p, 0, none⟩)] w fun e w' => e = .returned (.bool (!hasB m.sz v x)) ∧ Below w.heap.size w w' := by
  have HH := Lib.hid (fun (w : World) (h : Rd w az (ints m.sz)) => c_has m az ax ar cz cs cr v x w hs hl h)
  generalize hasB m.sz v x = R at HH ⊢
  obtain ⟨sz, st, rs⟩ := m
  dsimp only [mv] at *
  have H := Lib.hid h
  clear h hs
  have hp := World.block_lt_of_cell? _ _ k0
  generalize sz.length = a at *
  generalize st.length = b at *
  generalize rs.length = c at *
  go_enter Tryz.func89, Tryz.ntmps89
  go_wp2_with (fail)
  refine (HH.out _ (H.out.alloc _)).mono ?_
  rintro e w1 ⟨rfl, hb⟩
  have B := below_chain (below_alloc (Below.refl _ _) _) hb
  clear hb
  go_wp2
  go_ret
  exact ⟨rfl, B⟩
end Go.Proofs.YtdjehopcpjkgjaaGreat

/- IndexFunc and ContainsFunc at []Test, []int64 (closures with nothing or one thing captured) and []Rule, for whatever closure meets its contract. Condition: the closure's contract. -/
namespace Go.Proofs.YtdjehopcpjkgjaaGreat
open Go.RowKit

/-- The index of the first element as asked, -1 if there is none. -/
def idxI {α : Type} (pr : α → Bool) (l : List α) : Int := match l.findIdx? pr with | some k => (k : Int) | none => -1
theorem enter_of {f : FuncId} {fn : Func} {c : Code} (hf : Tryz.prog.funcs[f]? = some fn) (hname : (fn.name == "runtime.NumGoroutine") = false) (hb : fn.body = some c) (args : Array Value) (w : World) :
    (callFunc f args).run Tryz.prog w = .ok (.enter f args) w := by
  have h1 : fn.name ≠ "runtime.NumGoroutine" := by simpa using hname
  simp [callFunc, hf, h1, hb]
theorem idxI_none {α : Type} {pr : α → Bool} {l : List α} (h : l.any pr = false) : idxI pr l = -1 := by
  unfold idxI
  rw [List.findIdx?_eq_none_iff.2 (fun x hx => by rw [List.any_eq_false] at h; simpa using h x hx)]
theorem any_take_snoc {α : Type} {pr : α → Bool} {l : List α} {k : Nat} {t : α} (hz : l[k]? = some t) (h : (l.take k).any pr = false) (h2 : pr t = false) : (l.take (k + 1)).any pr = false := by
  rw [List.take_add_one, List.any_append, h, hz]
  simp [h2]
theorem idxI_found {α : Type} {pr : α → Bool} {l : List α} {k : Nat} {t : α} (hz : l[k]? = some t) (h : (l.take k).any pr = false) (h2 : pr t = true) : idxI pr l = k := by
  obtain ⟨hk, e⟩ := List.getElem?_eq_some_iff.1 hz
  have : l.findIdx? pr = some k := by
    rw [List.findIdx?_eq_some_iff_getElem]
    refine ⟨hk, by rw [e, h2], fun j hj => ?_⟩
    rw [List.any_eq_false] at h
    have := h (l[j]'(by omega)) (by
      rw [List.mem_iff_getElem?]
      exact ⟨j, by rw [List.getElem?_take, if_pos hj]; exact List.getElem?_eq_getElem (by omega)⟩)
    simpa using this
  unfold idxI
  rw [this]
theorem idxI_any {α : Type} (pr : α → Bool) (l : List α) : decide (0 ≤ idxI pr l) = l.any pr := by
  unfold idxI
  split
  · rename_i k h
    rw [List.findIdx?_eq_some_iff_getElem] at h
    obtain ⟨hk, hp, _⟩ := h
    have : l.any pr = true := List.any_eq_true.2 ⟨l[k], List.getElem_mem hk, hp⟩
    rw [this]
    simp
  · rename_i h
    rw [List.findIdx?_eq_none_iff] at h
    have : l.any pr = false := List.any_eq_false.2 (fun x hx => by rw [h x hx]; simp)
    rw [this]
    rfl
theorem idxI_ge {α : Type} (pr : α → Bool) (l : List α) : -1 ≤ idxI pr l := by unfold idxI; split <;> omega
/-- What a closure over one captured value answers at a test. -/
def ClT (f : Nat) (x : Value) (pr : Tst → Bool) (l : List Tst) (w : World) : Prop :=
  ∀ (wr : World) (t : Tst), t ∈ l → Below w.heap.size w wr → Calls Tryz.prog f #[.agg #[.int .i64 t.v, .int .i64 t.x, .bool t.q], x] wr fun e w2 => e = .returned (.bool (pr t)) ∧ Below wr.heap.size wr w2
set_option maxRecDepth 100000 in
theorem c_IndexTest (f : Nat) (x : Value) (pr : Tst → Bool) (A : Option Addr) (c : Nat) (l : List Tst) (w : World) (hl2 : l.length ≤ 1048576) (hv : Rd w A (tstCells l)) (hcall : Hid (ClT f x pr l w)) (hent : ∀ (args : Array Value) (w : World), (callFunc f args).run Tryz.prog w = .ok (.enter f args) w) :
    Calls Tryz.prog 111 #[.slice A l.length c, .func (.func f) #[] #[x]] w fun e w' => e = .returned (.int .i64 (idxI pr l)) ∧ Below w.heap.size w w' := by
  have HR := Lib.hid (rfl : idxI pr l = idxI pr l)
  generalize hR : idxI pr l = R at HR
  replace HR := Lib.hid hR
  clear hR
  generalize hvn : l.length = vn at *
  have HVN := Lib.hid hvn
  have HV := Lib.hid hv
  clear hv hvn
  go_enter Tryz.func111, Tryz.ntmps111
  go_wp2
  go_loopw [8] (fun i wr => ∃ k : Nat, k ≤ vn ∧ i = .int .i64 k ∧ Hid ((l.take k).any pr = false) ∧ Below w.heap.size w wr) (fun i _ => vn - (intOf i).toNat)
  case atStart => exact ⟨0, Nat.zero_le _, rfl, Lib.hid rfl, by (repeat (first | exact Below.refl _ _ | assumption | refine below_alloc ?_ _ | refine below_drewN ?_ _ | refine below_set ?_ _ (by simp; try omega) | refine Below.drew ?_))⟩
  case round =>
    obtain ⟨k, hk, rfl, ha, hb⟩ := hrel
    by_cases hlt : k < vn
    · obtain ⟨t, hz⟩ : ∃ z, l[k]? = some z := ⟨_, List.getElem?_eq_getElem (by have := HVN.out; omega)⟩
      obtain ⟨b', off, rfl, _, g0, g1, g2⟩ := (HV.out.below hb).tst hz
      have HZZ := Lib.hid hz
      have HBE := Lib.hid hb
      have HC := Lib.hid (hcall.out wr t (List.mem_of_getElem? hz) hb)
      clear hz hb
      rcases hin : pr t with _ | _
      · rw [hin] at HC
        have HI := Lib.hid hin
        clear hin
        go_wp2_with (fail)
        refine HC.out.mono ?_
        rintro e w2 ⟨rfl, hb⟩
        have HB2 := Lib.hid (below_chain HBE.out hb)
        clear hb
        go_wp2
        go_roundw
        case rel => exact ⟨k + 1, by omega, by go_num, Lib.hid (any_take_snoc HZZ.out ha.out HI.out), HB2.out⟩
        case measure => simp [intOf]; omega
      · rw [hin] at HC
        have HI := Lib.hid hin
        clear hin
        go_wp2_with (fail)
        refine HC.out.mono ?_
        rintro e w2 ⟨rfl, hb⟩
        have HB2 := Lib.hid (below_chain HBE.out hb)
        clear hb
        go_wp2
        go_ret
        exact ⟨ret_int (by rw [← HR.out, idxI_found HZZ.out ha.out HI.out]), HB2.out⟩
    · have : k = vn := by omega
      subst this
      have hA := ha.out
      rw [List.take_of_length_le (by have := HVN.out; omega)] at hA
      have HA := Lib.hid hA
      clear hA ha
      go_wp2
      go_ret
      exact ⟨ret_int (by rw [← HR.out, idxI_none HA.out]), hb⟩
set_option maxRecDepth 100000 in
theorem c_ContainsTest (f : Nat) (x : Value) (pr : Tst → Bool) (A : Option Addr) (c : Nat) (l : List Tst) (w : World) (hl2 : l.length ≤ 1048576) (hv : Rd w A (tstCells l)) (hcall : Hid (ClT f x pr l w)) (hent : ∀ (args : Array Value) (w : World), (callFunc f args).run Tryz.prog w = .ok (.enter f args) w) :
    Calls Tryz.prog 88 #[.slice A l.length c, .func (.func f) #[] #[x]] w fun e w' => e = .returned (.bool (l.any pr)) ∧ Below w.heap.size w w' := by
  have HC := Lib.hid (c_IndexTest f x pr A c l w hl2 hv hcall hent)
  have HA := Lib.hid (idxI_any pr l)
  generalize idxI pr l = i at HC HA
  generalize l.any pr = r at HA ⊢
  generalize l.length = n at *
  clear hv hcall hent
  go_enter Tryz.func88, Tryz.ntmps88
  go_wp2_with (fail)
  refine HC.out.mono ?_
  rintro e w1 ⟨rfl, hb⟩
  have HB := Lib.hid hb
  clear hb
  go_wp2
  go_ret
  exact ⟨ret_bool HA.out, HB.out⟩
end Go.Proofs.YtdjehopcpjkgjaaGreat

/- IndexFunc and ContainsFunc at other element types (printed by idx.py). Condition: the closure's contract. -/
namespace Go.Proofs.YtdjehopcpjkgjaaGreat
open Go.RowKit

/-- What a closure over one captured value answers at a test. -/
def ClInt0 (f : Nat) (pr : Int → Bool) (l : List Int) (w : World) : Prop :=
  ∀ (wr : World) (t : Int), t ∈ l → Below w.heap.size w wr → Calls Tryz.prog f #[.int .i64 t] wr fun e w2 => e = .returned (.bool (pr t)) ∧ Below wr.heap.size wr w2
set_option maxRecDepth 100000 in
theorem c_IndexInt0 (f : Nat) (pr : Int → Bool) (A : Option Addr) (c : Nat) (l : List Int) (w : World) (hl2 : l.length ≤ 1048576) (hv : Rd w A (ints l)) (hcall : Hid (ClInt0 f pr l w)) (hent : ∀ (args : Array Value) (w : World), (callFunc f args).run Tryz.prog w = .ok (.enter f args) w) :
    Calls Tryz.prog 95 #[.slice A l.length c, .func (.func f) #[] #[]] w fun e w' => e = .returned (.int .i64 (idxI pr l)) ∧ Below w.heap.size w w' := by
  have HR := Lib.hid (rfl : idxI pr l = idxI pr l)
  generalize hR : idxI pr l = R at HR
  replace HR := Lib.hid hR
  clear hR
  generalize hvn : l.length = vn at *
  have HVN := Lib.hid hvn
  have HV := Lib.hid hv
  clear hv hvn
  go_enter Tryz.func95, Tryz.ntmps95
  go_wp2
  go_loopw [8] (fun i wr => ∃ k : Nat, k ≤ vn ∧ i = .int .i64 k ∧ Hid ((l.take k).any pr = false) ∧ Below w.heap.size w wr) (fun i _ => vn - (intOf i).toNat)
  case atStart => exact ⟨0, Nat.zero_le _, rfl, Lib.hid rfl, by (repeat (first | exact Below.refl _ _ | assumption | refine below_alloc ?_ _ | refine below_drewN ?_ _ | refine below_set ?_ _ (by simp; try omega) | refine Below.drew ?_))⟩
  case round =>
    obtain ⟨k, hk, rfl, ha, hb⟩ := hrel
    by_cases hlt : k < vn
    · obtain ⟨t, hz⟩ : ∃ z, l[k]? = some z := ⟨_, List.getElem?_eq_getElem (by have := HVN.out; omega)⟩
      obtain ⟨b', off, rfl, _, g0⟩ := (HV.out.below hb).int hz
      have HZZ := Lib.hid hz
      have HBE := Lib.hid hb
      have HC := Lib.hid (hcall.out wr t (List.mem_of_getElem? hz) hb)
      clear hz hb
      rcases hin : pr t with _ | _
      · rw [hin] at HC
        have HI := Lib.hid hin
        clear hin
        go_wp2_with (fail)
        refine HC.out.mono ?_
        rintro e w2 ⟨rfl, hb⟩
        have HB2 := Lib.hid (below_chain HBE.out hb)
        clear hb
        go_wp2
        go_roundw
        case rel => exact ⟨k + 1, by omega, by go_num, Lib.hid (any_take_snoc HZZ.out ha.out HI.out), HB2.out⟩
        case measure => simp [intOf]; omega
      · rw [hin] at HC
        have HI := Lib.hid hin
        clear hin
        go_wp2_with (fail)
        refine HC.out.mono ?_
        rintro e w2 ⟨rfl, hb⟩
        have HB2 := Lib.hid (below_chain HBE.out hb)
        clear hb
        go_wp2
        go_ret
        exact ⟨ret_int (by rw [← HR.out, idxI_found HZZ.out ha.out HI.out]), HB2.out⟩
    · have : k = vn := by omega
      subst this
      have hA := ha.out
      rw [List.take_of_length_le (by have := HVN.out; omega)] at hA
      have HA := Lib.hid hA
      clear hA ha
      go_wp2
      go_ret
      exact ⟨ret_int (by rw [← HR.out, idxI_none HA.out]), hb⟩
set_option maxRecDepth 100000 in
theorem c_ContainsInt0 (f : Nat) (pr : Int → Bool) (A : Option Addr) (c : Nat) (l : List Int) (w : World) (hl2 : l.length ≤ 1048576) (hv : Rd w A (ints l)) (hcall : Hid (ClInt0 f pr l w)) (hent : ∀ (args : Array Value) (w : World), (callFunc f args).run Tryz.prog w = .ok (.enter f args) w) :
    Calls Tryz.prog 74 #[.slice A l.length c, .func (.func f) #[] #[]] w fun e w' => e = .returned (.bool (l.any pr)) ∧ Below w.heap.size w w' := by
  have HC := Lib.hid (c_IndexInt0 f pr A c l w hl2 hv hcall hent)
  have HA := Lib.hid (idxI_any pr l)
  generalize idxI pr l = i at HC HA
  generalize l.any pr = r at HA ⊢
  generalize l.length = n at *
  clear hv hcall hent
  go_enter Tryz.func74, Tryz.ntmps74
  go_wp2_with (fail)
  refine HC.out.mono ?_
  rintro e w1 ⟨rfl, hb⟩
  have HB := Lib.hid hb
  clear hb
  go_wp2
  go_ret
  exact ⟨ret_bool HA.out, HB.out⟩

/-- What a closure over one captured value answers at a test. -/
def ClInt1 (f : Nat) (x : Value) (pr : Int → Bool) (l : List Int) (w : World) : Prop :=
  ∀ (wr : World) (t : Int), t ∈ l → Below w.heap.size w wr → Calls Tryz.prog f #[.int .i64 t, x] wr fun e w2 => e = .returned (.bool (pr t)) ∧ Below wr.heap.size wr w2
set_option maxRecDepth 100000 in
theorem c_IndexInt1 (f : Nat) (x : Value) (pr : Int → Bool) (A : Option Addr) (c : Nat) (l : List Int) (w : World) (hl2 : l.length ≤ 1048576) (hv : Rd w A (ints l)) (hcall : Hid (ClInt1 f x pr l w)) (hent : ∀ (args : Array Value) (w : World), (callFunc f args).run Tryz.prog w = .ok (.enter f args) w) :
    Calls Tryz.prog 95 #[.slice A l.length c, .func (.func f) #[] #[x]] w fun e w' => e = .returned (.int .i64 (idxI pr l)) ∧ Below w.heap.size w w' := by
  have HR := Lib.hid (rfl : idxI pr l = idxI pr l)
  generalize hR : idxI pr l = R at HR
  replace HR := Lib.hid hR
  clear hR
  generalize hvn : l.length = vn at *
  have HVN := Lib.hid hvn
  have HV := Lib.hid hv
  clear hv hvn
  go_enter Tryz.func95, Tryz.ntmps95
  go_wp2
  go_loopw [8] (fun i wr => ∃ k : Nat, k ≤ vn ∧ i = .int .i64 k ∧ Hid ((l.take k).any pr = false) ∧ Below w.heap.size w wr) (fun i _ => vn - (intOf i).toNat)
  case atStart => exact ⟨0, Nat.zero_le _, rfl, Lib.hid rfl, by (repeat (first | exact Below.refl _ _ | assumption | refine below_alloc ?_ _ | refine below_drewN ?_ _ | refine below_set ?_ _ (by simp; try omega) | refine Below.drew ?_))⟩
  case round =>
    obtain ⟨k, hk, rfl, ha, hb⟩ := hrel
    by_cases hlt : k < vn
    · obtain ⟨t, hz⟩ : ∃ z, l[k]? = some z := ⟨_, List.getElem?_eq_getElem (by have := HVN.out; omega)⟩
      obtain ⟨b', off, rfl, _, g0⟩ := (HV.out.below hb).int hz
      have HZZ := Lib.hid hz
      have HBE := Lib.hid hb
      have HC := Lib.hid (hcall.out wr t (List.mem_of_getElem? hz) hb)
      clear hz hb
      rcases hin : pr t with _ | _
      · rw [hin] at HC
        have HI := Lib.hid hin
        clear hin
        go_wp2_with (fail)
        refine HC.out.mono ?_
        rintro e w2 ⟨rfl, hb⟩
        have HB2 := Lib.hid (below_chain HBE.out hb)
        clear hb
        go_wp2
        go_roundw
        case rel => exact ⟨k + 1, by omega, by go_num, Lib.hid (any_take_snoc HZZ.out ha.out HI.out), HB2.out⟩
        case measure => simp [intOf]; omega
      · rw [hin] at HC
        have HI := Lib.hid hin
        clear hin
        go_wp2_with (fail)
        refine HC.out.mono ?_
        rintro e w2 ⟨rfl, hb⟩
        have HB2 := Lib.hid (below_chain HBE.out hb)
        clear hb
        go_wp2
        go_ret
        exact ⟨ret_int (by rw [← HR.out, idxI_found HZZ.out ha.out HI.out]), HB2.out⟩
    · have : k = vn := by omega
      subst this
      have hA := ha.out
      rw [List.take_of_length_le (by have := HVN.out; omega)] at hA
      have HA := Lib.hid hA
      clear hA ha
      go_wp2
      go_ret
      exact ⟨ret_int (by rw [← HR.out, idxI_none HA.out]), hb⟩
set_option maxRecDepth 100000 in
theorem c_ContainsInt1 (f : Nat) (x : Value) (pr : Int → Bool) (A : Option Addr) (c : Nat) (l : List Int) (w : World) (hl2 : l.length ≤ 1048576) (hv : Rd w A (ints l)) (hcall : Hid (ClInt1 f x pr l w)) (hent : ∀ (args : Array Value) (w : World), (callFunc f args).run Tryz.prog w = .ok (.enter f args) w) :
    Calls Tryz.prog 74 #[.slice A l.length c, .func (.func f) #[] #[x]] w fun e w' => e = .returned (.bool (l.any pr)) ∧ Below w.heap.size w w' := by
  have HC := Lib.hid (c_IndexInt1 f x pr A c l w hl2 hv hcall hent)
  have HA := Lib.hid (idxI_any pr l)
  generalize idxI pr l = i at HC HA
  generalize l.any pr = r at HA ⊢
  generalize l.length = n at *
  clear hv hcall hent
  go_enter Tryz.func74, Tryz.ntmps74
  go_wp2_with (fail)
  refine HC.out.mono ?_
  rintro e w1 ⟨rfl, hb⟩
  have HB := Lib.hid hb
  clear hb
  go_wp2
  go_ret
  exact ⟨ret_bool HA.out, HB.out⟩

/-- What a closure over one captured value answers at a test. -/
def ClRule (f : Nat) (x : Value) (pr : Rul → Bool) (l : List Rul) (w : World) : Prop :=
  ∀ (wr : World) (t : Rul) (ag ae : Option Addr) (cg ce : Nat), t ∈ l → Below w.heap.size w wr → Rd wr ag (tstCells t.gs) → Rd wr ae (asgCells t.es) → Calls Tryz.prog f #[.agg #[.string t.nm, .slice ag t.gs.length cg, .slice ae t.es.length ce], x] wr fun e w2 => e = .returned (.bool (pr t)) ∧ Below wr.heap.size wr w2
set_option maxRecDepth 100000 in
theorem c_IndexRule (f : Nat) (x : Value) (pr : Rul → Bool) (A : Option Addr) (c : Nat) (l : List Rul) (w : World) (hl2 : l.length ≤ 1048576) (hv : Rl w A l) (hcall : Hid (ClRule f x pr l w)) (hent : ∀ (args : Array Value) (w : World), (callFunc f args).run Tryz.prog w = .ok (.enter f args) w) :
    Calls Tryz.prog 96 #[.slice A l.length c, .func (.func f) #[] #[x]] w fun e w' => e = .returned (.int .i64 (idxI pr l)) ∧ Below w.heap.size w w' := by
  have HR := Lib.hid (rfl : idxI pr l = idxI pr l)
  generalize hR : idxI pr l = R at HR
  replace HR := Lib.hid hR
  clear hR
  generalize hvn : l.length = vn at *
  have HVN := Lib.hid hvn
  have HV := Lib.hid hv
  clear hv hvn
  go_enter Tryz.func96, Tryz.ntmps96
  go_wp2
  go_loopw [8] (fun i wr => ∃ k : Nat, k ≤ vn ∧ i = .int .i64 k ∧ Hid ((l.take k).any pr = false) ∧ Below w.heap.size w wr) (fun i _ => vn - (intOf i).toNat)
  case atStart => exact ⟨0, Nat.zero_le _, rfl, Lib.hid rfl, by (repeat (first | exact Below.refl _ _ | assumption | refine below_alloc ?_ _ | refine below_drewN ?_ _ | refine below_set ?_ _ (by simp; try omega) | refine Below.drew ?_))⟩
  case round =>
    obtain ⟨k, hk, rfl, ha, hb⟩ := hrel
    by_cases hlt : k < vn
    · obtain ⟨t, hz⟩ : ∃ z, l[k]? = some z := ⟨_, List.getElem?_eq_getElem (by have := HVN.out; omega)⟩
      obtain ⟨b', off, ag, cg, ae, ce, rfl, _, g0, g1, g2, hg, he⟩ := (HV.out.below hb).at hz
      have HZZ := Lib.hid hz
      have HBE := Lib.hid hb
      have HC := Lib.hid (hcall.out wr t ag ae cg ce (List.mem_of_getElem? hz) hb hg he)
      clear hz hb hg he
      rcases hin : pr t with _ | _
      · rw [hin] at HC
        have HI := Lib.hid hin
        clear hin
        go_wp2_with (fail)
        refine HC.out.mono ?_
        rintro e w2 ⟨rfl, hb⟩
        have HB2 := Lib.hid (below_chain HBE.out hb)
        clear hb
        go_wp2
        go_roundw
        case rel => exact ⟨k + 1, by omega, by go_num, Lib.hid (any_take_snoc HZZ.out ha.out HI.out), HB2.out⟩
        case measure => simp [intOf]; omega
      · rw [hin] at HC
        have HI := Lib.hid hin
        clear hin
        go_wp2_with (fail)
        refine HC.out.mono ?_
        rintro e w2 ⟨rfl, hb⟩
        have HB2 := Lib.hid (below_chain HBE.out hb)
        clear hb
        go_wp2
        go_ret
        exact ⟨ret_int (by rw [← HR.out, idxI_found HZZ.out ha.out HI.out]), HB2.out⟩
    · have : k = vn := by omega
      subst this
      have hA := ha.out
      rw [List.take_of_length_le (by have := HVN.out; omega)] at hA
      have HA := Lib.hid hA
      clear hA ha
      go_wp2
      go_ret
      exact ⟨ret_int (by rw [← HR.out, idxI_none HA.out]), hb⟩
set_option maxRecDepth 100000 in
theorem c_ContainsRule (f : Nat) (x : Value) (pr : Rul → Bool) (A : Option Addr) (c : Nat) (l : List Rul) (w : World) (hl2 : l.length ≤ 1048576) (hv : Rl w A l) (hcall : Hid (ClRule f x pr l w)) (hent : ∀ (args : Array Value) (w : World), (callFunc f args).run Tryz.prog w = .ok (.enter f args) w) :
    Calls Tryz.prog 76 #[.slice A l.length c, .func (.func f) #[] #[x]] w fun e w' => e = .returned (.bool (l.any pr)) ∧ Below w.heap.size w w' := by
  have HC := Lib.hid (c_IndexRule f x pr A c l w hl2 hv hcall hent)
  have HA := Lib.hid (idxI_any pr l)
  generalize idxI pr l = i at HC HA
  generalize l.any pr = r at HA ⊢
  generalize l.length = n at *
  clear hv hcall hent
  go_enter Tryz.func76, Tryz.ntmps76
  go_wp2_with (fail)
  refine HC.out.mono ?_
  rintro e w1 ⟨rfl, hb⟩
  have HB := Lib.hid hb
  clear hb
  go_wp2
  go_ret
  exact ⟨ret_bool HA.out, HB.out⟩

end Go.Proofs.YtdjehopcpjkgjaaGreat

/- How the arguments of the laws read: lists of integers (the seats without layouts). No condition. -/
namespace Go.Proofs.YtdjehopcpjkgjaaGreat
open Go.ChangeShapes Go.WideShapes Go.ChangeAt Go.RowKit Go.Deep

theorem own : ownKnob Tryz.prog.godebug = none := by kernel_rfl
theorem laidOut : laidOutB Tryz.prog = true := by kernel_rfl
def wfB (n : Int) : Prop := (Lit.int .i64 n).wf = true
theorem wfB.bd {n : Int} (h : wfB n) : -9223372036854775808 ≤ n ∧ n ≤ 9223372036854775807 := by
  simpa [wfB, Lit.wf, IntKind.min, IntKind.max, IntKind.signed, IntKind.bits] using h
theorem cells_int64 : Tryz.prog.cellsOf 2 = 1 := by kernel_rfl
section
variable {H : Type} {enc : TypeId × Value → H} {W : World} {base : Nat} {spare : Nat → Bool} {held : Bool}
theorem choose_list {α : Type} {P : Nat → α → Prop} : ∀ (n : Nat), (∀ i, i < n → ∃ s, P i s) → ∃ l : List α, l.length = n ∧ ∀ i s, l[i]? = some s → P i s
  | 0, _ => ⟨[], rfl, fun i s h => by simp at h⟩
  | n + 1, h => by
    obtain ⟨l, hl, hp⟩ := choose_list n fun i hi => h i (by omega)
    obtain ⟨s, hs⟩ := h n (by omega)
    refine ⟨l ++ [s], by simp [hl], fun i t ht => ?_⟩
    rcases Nat.lt_or_ge i n with hi | hi
    · rw [List.getElem?_append_left (by omega)] at ht
      exact hp i t ht
    · rw [List.getElem?_append_right (by omega)] at ht
      have : i = n := by
        have := (List.getElem?_eq_some_iff.1 ht).1
        simp at this
        omega
      subst this
      rw [hl] at ht
      simp at ht
      rw [← ht]; exact hs
theorem add_plain' (b off n : Nat) : (⟨b, off, none⟩ : Addr).add n = ⟨b, off + n, none⟩ := by
  unfold Addr.add
  split <;> simp_all
/-- A row of cells that a slice leads to, as a reading. -/
theorem rd_of {W : World} {a : Addr} {xs : List Value} (h : ∀ j u, xs[j]? = some u → W.cell? (a.add j) = some u) : Rd W (some a) xs := by
  cases xs with
  | nil => exact .inl rfl
  | cons x t =>
    right
    have h0 := h 0 x rfl
    obtain ⟨b, off, spot⟩ := a
    have hspot : spot = none := by simpa [Addr.add] using World.cell?_spot h0
    subst hspot
    refine ⟨b, off, rfl, by simpa [Addr.add] using World.block_lt_of_cell? W _ h0, fun j u hu => ?_⟩
    rw [← add_plain']
    exact h j u hu
set_option maxRecDepth 100000 in
theorem open_intS {v : Value} {d : DataW H} {p : List MemPlace} (hv : Value.okWide Tryz.prog W .any base 22 v) (h : DataW.Trod enc Tryz.prog W 0 (fun _ => true) true 22 v d p) :
    ∃ A n c zs, v = .slice A n c ∧ n = zs.length ∧ n ≤ c ∧ n ≤ 9223372036854775807 ∧ Rd W A (ints zs) ∧ ∀ z ∈ zs, wfB z := by
  obtain ⟨A, n, c, rfl⟩ := okWide_slice Tryz.underlying22 hv
  obtain ⟨fuel, hf⟩ := h
  rcases open_ints Tryz.underlying22 Tryz.underlying2 cells_int64 hf with ⟨hcs, _⟩ | ⟨a, n', c', zs, hcs, _, hl, hm, hz, _, hcell, hwz⟩
  · simp [Value.cells] at hcs
    obtain ⟨rfl, rfl, rfl⟩ := hcs
    exact ⟨_, _, _, [], rfl, rfl, by omega, by omega, .inl rfl, by simp⟩
  · simp [Value.cells] at hcs
    obtain ⟨rfl, rfl, rfl⟩ := hcs
    unfold maxLen at hm
    simp only [if_true] at hz
    refine ⟨_, _, _, zs.take n, rfl, by simp; omega, hl, by omega, rd_of fun j u hu => ?_, fun z hz => hwz z (List.mem_of_mem_take hz)⟩
    simp only [ints, List.getElem?_map, Option.map_eq_some_iff] at hu
    obtain ⟨z, hz', rfl⟩ := hu
    rw [List.getElem?_take] at hz'
    split at hz'
    · rw [hcell j (List.getElem?_eq_some_iff.1 hz').1]
      simp [hz']
    · cases hz'
end
end Go.Proofs.YtdjehopcpjkgjaaGreat

/- How rows of structs read as arguments of the laws. No condition. -/
namespace Go.Proofs.YtdjehopcpjkgjaaGreat
open Go.ChangeShapes Go.WideShapes Go.ChangeAt Go.RowKit Go.Deep

theorem flat_get {α : Type} {cells : α → List Value} {C : Nat} (hlen : ∀ s, (cells s).length = C) {s : α} {i : Nat} (hi : i < C) : ∀ {l : List α} {k : Nat}, l[k]? = some s → (l.flatMap cells)[k * C + i]? = (cells s)[i]?
  | [], k, h => by simp at h
  | t :: l, 0, h => by
    simp only [List.getElem?_cons_zero, Option.some.injEq] at h
    subst h
    rw [List.flatMap_cons, Nat.zero_mul, Nat.zero_add, List.getElem?_append_left (by rw [hlen]; exact hi)]
  | t :: l, k + 1, h => by
    simp only [List.getElem?_cons_succ] at h
    rw [List.flatMap_cons, List.getElem?_append_right (by rw [hlen, Nat.succ_mul]; omega), ← flat_get hlen hi h]
    congr 1
    rw [hlen, Nat.succ_mul]; omega
theorem flat_length {α : Type} {cells : α → List Value} {C : Nat} (hlen : ∀ s, (cells s).length = C) (l : List α) : (l.flatMap cells).length = l.length * C := by
  induction l with
  | nil => simp
  | cons s t ih => rw [List.flatMap_cons, List.length_append, ih, hlen, List.length_cons, Nat.succ_mul]; omega
section
variable {H : Type} {enc : TypeId × Value → H} {W : World}
theorem open_rows {α : Type} {t e : TypeId} {C fuel : Nat} {c0 : Value} {x : DataW H × List MemPlace} (cells : α → List Value) (Q : α → Prop) (ht : Tryz.prog.underlying t = some (.slice e)) (hC : Tryz.prog.cellsOf e = C) (h0 : 0 < C) (hlen : ∀ s, (cells s).length = C)
    (hel : ∀ n cs y, DataW.trod enc Tryz.prog W 0 (fun _ => true) true n e cs = some y → ∃ s, cs = cells s ∧ Q s)
    (h : DataW.trod enc Tryz.prog W 0 (fun _ => true) true fuel t [c0] = some x) :
    ∃ (A : Option Addr) (n c : Nat) (l : List α), c0 = .slice A n c ∧ n = l.length ∧ n ≤ 9223372036854775807 ∧ Rd W A (l.flatMap cells) ∧ ∀ s ∈ l, Q s := by
  rcases open_slice ht h with ⟨hcs, _⟩ | ⟨a, n, c, mm, k, D, Pl, hcs, _, hlc, hm, hmm, _, hi⟩
  · simp at hcs
    subst hcs
    exact ⟨none, 0, 0, [], rfl, rfl, by omega, .inl rfl, by simp⟩
  · simp at hcs
    subst hcs
    simp only [if_true] at hmm
    unfold maxLen at hm
    obtain ⟨l, hll, hP⟩ := choose_list (P := fun i (s : α) => Q s ∧ ∀ j u, (cells s)[j]? = some u → W.cell? ((a.add (i * C)).add j) = some u) n fun i hin => by
      obtain ⟨cs', hc1, ht⟩ := hi i (by omega)
      obtain ⟨s, rfl, hw⟩ := hel _ _ _ ht
      obtain ⟨_, hlc', hat⟩ := World.cells?_some hc1
      rw [hC] at hlc' hat
      exact ⟨s, hw, fun j u hu => by
        rw [hat j (by have := (List.getElem?_eq_some_iff.1 hu).1; omega)]
        exact hu⟩
    refine ⟨_, n, _, l, rfl, hll.symm, by omega, rd_of fun j u hu => ?_, fun s hs => ?_⟩
    · have hj : j < l.length * C := by
        have := (List.getElem?_eq_some_iff.1 hu).1
        rwa [flat_length hlen] at this
      have hd : j / C < l.length := (Nat.div_lt_iff_lt_mul h0).2 hj
      obtain ⟨s, hs⟩ : ∃ s, l[j / C]? = some s := ⟨_, List.getElem?_eq_getElem hd⟩
      have e := flat_get (cells := cells) hlen (i := j % C) (Nat.mod_lt _ h0) hs
      have hjj : j / C * C + j % C = j := by rw [Nat.mul_comm]; exact Nat.div_add_mod j C
      rw [hjj, hu] at e
      have := (hP _ _ hs).2 (j % C) u e.symm
      rw [← this]
      rw [Go.Deep.add_add, hjj]
    · obtain ⟨i, hi', rfl⟩ := List.getElem_of_mem hs
      exact (hP i _ (List.getElem?_eq_getElem hi')).1
end
end Go.Proofs.YtdjehopcpjkgjaaGreat

/- How a model, tests and lists read as arguments of the laws. No condition. -/
namespace Go.Proofs.YtdjehopcpjkgjaaGreat
open Go.ChangeShapes Go.WideShapes Go.ChangeAt Go.RowKit Go.Deep

theorem cells_lTest : Tryz.prog.cellsOf 125 = 3 := by kernel_rfl
theorem cells_lAssign : Tryz.prog.cellsOf 127 = 2 := by kernel_rfl
theorem cells_lRule : Tryz.prog.cellsOf 68 = 3 := by kernel_rfl
theorem cells_lModel : Tryz.prog.cellsOf 25 = 3 := by kernel_rfl
theorem cells_lTestS : Tryz.prog.cellsOf 65 = 1 := by kernel_rfl
theorem cells_lAssignS : Tryz.prog.cellsOf 66 = 1 := by kernel_rfl
theorem cells_lRuleS : Tryz.prog.cellsOf 23 = 1 := by kernel_rfl
theorem cells_intS : Tryz.prog.cellsOf 22 = 1 := by kernel_rfl
theorem cells_bool : Tryz.prog.cellsOf 4 = 1 := by kernel_rfl
theorem cells_string : Tryz.prog.cellsOf 9 = 1 := by kernel_rfl
section
variable {H : Type} {enc : TypeId × Value → H} {W : World} {base : Nat} {spare : Nat → Bool} {held : Bool}
set_option maxRecDepth 100000 in
theorem trod_tst {n : Nat} {cs : List Value} {x : DataW H × List MemPlace} (h : DataW.trod enc Tryz.prog W base spare held n 125 cs = some x) :
    ∃ s : Tst, cs = s.cells ∧ wfB s.v ∧ wfB s.x := by
  obtain ⟨xs, m, _, _, hl, hlen, hg⟩ := DataW.trod_struct Tryz.underlying125 h
  rw [cells_lTest] at hl
  match cs, hl, xs, hlen with
  | [c0, c1, c2], _, [y0, y1, y2], _ =>
    have g0 : DataW.trod enc Tryz.prog W base spare held m 2 (List.take (Tryz.prog.cellsOf 2) [c0, c1, c2]) = some y0 := hg 0 _ rfl
    have g1 : DataW.trod enc Tryz.prog W base spare held m 2 (List.take (Tryz.prog.cellsOf 2) [c1, c2]) = some y1 := hg 1 _ rfl
    have g2 : DataW.trod enc Tryz.prog W base spare held m 4 (List.take (Tryz.prog.cellsOf 4) [c2]) = some y2 := hg 2 _ rfl
    rw [cells_int64] at g0 g1
    rw [cells_bool] at g2
    obtain ⟨k, e0, _, w0⟩ := DataW.trod_int Tryz.underlying2 g0
    obtain ⟨l, e1, _, w1⟩ := DataW.trod_int Tryz.underlying2 g1
    obtain ⟨r, e2, _⟩ := DataW.trod_bool Tryz.underlying4 g2
    simp at e0 e1 e2
    subst e0 e1 e2
    exact ⟨⟨k, l, r⟩, rfl, w0, w1⟩
set_option maxRecDepth 100000 in
theorem trod_asg {n : Nat} {cs : List Value} {x : DataW H × List MemPlace} (h : DataW.trod enc Tryz.prog W base spare held n 127 cs = some x) :
    ∃ s : Asg, cs = s.cells ∧ wfB s.v ∧ wfB s.x := by
  obtain ⟨xs, m, _, _, hl, hlen, hg⟩ := DataW.trod_struct Tryz.underlying127 h
  rw [cells_lAssign] at hl
  match cs, hl, xs, hlen with
  | [c0, c1], _, [y0, y1], _ =>
    have g0 : DataW.trod enc Tryz.prog W base spare held m 2 (List.take (Tryz.prog.cellsOf 2) [c0, c1]) = some y0 := hg 0 _ rfl
    have g1 : DataW.trod enc Tryz.prog W base spare held m 2 (List.take (Tryz.prog.cellsOf 2) [c1]) = some y1 := hg 1 _ rfl
    rw [cells_int64] at g0 g1
    obtain ⟨k, e0, _, w0⟩ := DataW.trod_int Tryz.underlying2 g0
    obtain ⟨l, e1, _, w1⟩ := DataW.trod_int Tryz.underlying2 g1
    simp at e0 e1
    subst e0 e1
    exact ⟨⟨k, l⟩, rfl, w0, w1⟩
def TstOk (l : List Tst) : Prop := ∀ s ∈ l, wfB s.v ∧ wfB s.x
def AsgOk (l : List Asg) : Prop := ∀ s ∈ l, wfB s.v ∧ wfB s.x
theorem trod_testS {n : Nat} {c0 : Value} {x : DataW H × List MemPlace} (h : DataW.trod enc Tryz.prog W 0 (fun _ => true) true n 65 [c0] = some x) :
    ∃ (A : Option Addr) (n c : Nat) (l : List Tst), c0 = .slice A n c ∧ n = l.length ∧ n ≤ 9223372036854775807 ∧ Rd W A (tstCells l) ∧ TstOk l :=
  open_rows Tst.cells (fun s => wfB s.v ∧ wfB s.x) Tryz.underlying65 cells_lTest (by omega) (fun _ => rfl) (fun _ _ _ h => trod_tst h) h
theorem trod_asgS {n : Nat} {c0 : Value} {x : DataW H × List MemPlace} (h : DataW.trod enc Tryz.prog W 0 (fun _ => true) true n 66 [c0] = some x) :
    ∃ (A : Option Addr) (n c : Nat) (l : List Asg), c0 = .slice A n c ∧ n = l.length ∧ n ≤ 9223372036854775807 ∧ Rd W A (asgCells l) ∧ AsgOk l :=
  open_rows Asg.cells (fun s => wfB s.v ∧ wfB s.x) Tryz.underlying66 cells_lAssign (by omega) (fun _ => rfl) (fun _ _ _ h => trod_asg h) h
theorem ints_flat (l : List Int) : l.flatMap (fun z => [Value.int .i64 z]) = ints l := by
  induction l with
  | nil => rfl
  | cons a t ih => rw [List.flatMap_cons, ih]; rfl
theorem trod_intS {n : Nat} {c0 : Value} {x : DataW H × List MemPlace} (h : DataW.trod enc Tryz.prog W 0 (fun _ => true) true n 22 [c0] = some x) :
    ∃ (A : Option Addr) (n c : Nat) (l : List Int), c0 = .slice A n c ∧ n = l.length ∧ n ≤ 9223372036854775807 ∧ Rd W A (ints l) ∧ ∀ z ∈ l, wfB z := by
  have := open_rows (fun z : Int => [Value.int .i64 z]) wfB Tryz.underlying22 cells_int64 (by omega) (fun _ => rfl) (fun _ cs _ h => by
    obtain ⟨k, e0, _, w0⟩ := DataW.trod_int Tryz.underlying2 h
    exact ⟨k, e0, w0⟩) h
  obtain ⟨A, n, c, l, e, h1, h2, h3, h4⟩ := this
  refine ⟨A, n, c, l, e, h1, h2, ?_, h4⟩
  rwa [ints_flat] at h3
/-- What is known of an argument's rule. -/
def RuDOk (W : World) (d : RuD) : Prop := SzOk d.r ∧ Rd W d.ag (tstCells d.r.gs) ∧ Rd W d.ae (asgCells d.r.es) ∧ TstOk d.r.gs ∧ AsgOk d.r.es
set_option maxRecDepth 100000 in
theorem trod_rule {n : Nat} {cs : List Value} {x : DataW H × List MemPlace} (h : DataW.trod enc Tryz.prog W 0 (fun _ => true) true n 68 cs = some x) :
    ∃ d : RuD, cs = d.cells ∧ RuDOk W d := by
  obtain ⟨xs, m, _, _, hl, hlen, hg⟩ := DataW.trod_struct Tryz.underlying68 h
  rw [cells_lRule] at hl
  match cs, hl, xs, hlen with
  | [c0, c1, c2], _, [y0, y1, y2], _ =>
    have g0 : DataW.trod enc Tryz.prog W 0 (fun _ => true) true m 9 (List.take (Tryz.prog.cellsOf 9) [c0, c1, c2]) = some y0 := hg 0 _ rfl
    have g1 : DataW.trod enc Tryz.prog W 0 (fun _ => true) true m 65 (List.take (Tryz.prog.cellsOf 65) [c1, c2]) = some y1 := hg 1 _ rfl
    have g2 : DataW.trod enc Tryz.prog W 0 (fun _ => true) true m 66 (List.take (Tryz.prog.cellsOf 66) [c2]) = some y2 := hg 2 _ rfl
    rw [cells_string] at g0
    rw [cells_lTestS] at g1
    rw [cells_lAssignS] at g2
    obtain ⟨s, e0, _, w0⟩ := DataW.trod_string Tryz.underlying9 g0
    obtain ⟨A1, n1, c1', l1, rfl, rfl, hm1, hr1, hw1⟩ := trod_testS g1
    obtain ⟨A2, n2, c2', l2, rfl, rfl, hm2, hr2, hw2⟩ := trod_asgS g2
    simp at e0
    subst e0
    unfold maxLen at w0
    exact ⟨⟨⟨s, l1, l2⟩, A1, c1', A2, c2'⟩, rfl, ⟨by omega, hm1, hm2⟩, hr1, hr2, hw1, hw2⟩
def RulWf (l : List Rul) : Prop := ∀ r ∈ l, TstOk r.gs ∧ AsgOk r.es
theorem trod_ruleS {n : Nat} {c0 : Value} {x : DataW H × List MemPlace} (h : DataW.trod enc Tryz.prog W 0 (fun _ => true) true n 23 [c0] = some x) :
    ∃ (A : Option Addr) (n c : Nat) (l : List Rul), c0 = .slice A n c ∧ n = l.length ∧ n ≤ 9223372036854775807 ∧ Rl W A l ∧ (∀ r ∈ l, SzOk r) ∧ RulWf l := by
  obtain ⟨A, n, c, l, rfl, h1, h2, h3, h4⟩ := open_rows RuD.cells (RuDOk W) Tryz.underlying23 cells_lRule (by omega) (fun _ => rfl) (fun _ _ _ h => trod_rule h) h
  refine ⟨A, n, c, l.map RuD.r, rfl, by simp [h1], h2, ⟨l, rfl, h3, fun d hd => ⟨(h4 d hd).2.1, (h4 d hd).2.2.1⟩⟩, fun r hr => ?_, fun r hr => ?_⟩
  · obtain ⟨d, hd, rfl⟩ := List.mem_map.1 hr
    exact (h4 d hd).1
  · obtain ⟨d, hd, rfl⟩ := List.mem_map.1 hr
    exact (h4 d hd).2.2.2
/-- The numbers of a model are those of a run. -/
structure MWf (m : Mdl) : Prop where
  sz : ∀ z ∈ m.sz, wfB z
  st : ∀ z ∈ m.st, wfB z
  rs : RulWf m.rs
set_option maxRecDepth 100000 in
theorem open_model {v : Value} {d : DataW H} {p : List MemPlace} (hv : Value.okWide Tryz.prog W .any base 25 v) (h : DataW.Trod enc Tryz.prog W 0 (fun _ => true) true 25 v d p) :
    ∃ (m : Mdl) (az ax ar : Option Addr) (cz cs cr : Nat), v = mv m az ax ar cz cs cr ∧ MSzOk m ∧ Md W az ax ar m ∧ MWf m := by
  obtain ⟨cs, rfl, hsz⟩ := okWide_struct Tryz.underlying25 hv
  obtain ⟨fuel, hf⟩ := h
  rw [cells_lModel] at hsz
  obtain ⟨xs, m, _, _, hl, hlen, hg⟩ := DataW.trod_struct Tryz.underlying25 hf
  obtain ⟨L⟩ := cs
  match L, hsz, xs, hlen with
  | [c0, c1, c2], _, [y0, y1, y2], _ =>
    have g0 : DataW.trod enc Tryz.prog W 0 (fun _ => true) true m 22 (List.take (Tryz.prog.cellsOf 22) [c0, c1, c2]) = some y0 := hg 0 _ rfl
    have g1 : DataW.trod enc Tryz.prog W 0 (fun _ => true) true m 22 (List.take (Tryz.prog.cellsOf 22) [c1, c2]) = some y1 := hg 1 _ rfl
    have g2 : DataW.trod enc Tryz.prog W 0 (fun _ => true) true m 23 (List.take (Tryz.prog.cellsOf 23) [c2]) = some y2 := hg 2 _ rfl
    rw [cells_intS] at g0 g1
    rw [cells_lRuleS] at g2
    obtain ⟨A0, n0, c0', l0, rfl, rfl, hm0, hr0, hw0⟩ := trod_intS g0
    obtain ⟨A1, n1, c1', l1, rfl, rfl, hm1, hr1, hw1⟩ := trod_intS g1
    obtain ⟨A2, n2, c2', l2, rfl, rfl, hm2, hr2, hs2, hw2⟩ := trod_ruleS g2
    exact ⟨⟨l0, l1, l2⟩, A0, A1, A2, c0', c1', c2', rfl, ⟨hm0, hm1, hm2, hs2⟩, ⟨hr0, hr1, hr2⟩, ⟨hw0, hw1, hw2⟩⟩
set_option maxRecDepth 100000 in
theorem open_testS {v : Value} {d : DataW H} {p : List MemPlace} (hv : Value.okWide Tryz.prog W .any base 65 v) (h : DataW.Trod enc Tryz.prog W 0 (fun _ => true) true 65 v d p) :
    ∃ (A : Option Addr) (n c : Nat) (l : List Tst), v = .slice A n c ∧ n = l.length ∧ n ≤ 9223372036854775807 ∧ Rd W A (tstCells l) ∧ TstOk l := by
  obtain ⟨A, n, c, rfl⟩ := okWide_slice Tryz.underlying65 hv
  obtain ⟨fuel, hf⟩ := h
  exact trod_testS (c0 := .slice A n c) hf
end
end Go.Proofs.YtdjehopcpjkgjaaGreat

/- What marks do to memory: the relation Mk (blocks outside lo .. hi stay; every row keeps its shape), and its laws. No condition. -/
namespace Go.Proofs.YtdjehopcpjkgjaaGreat
open Go.RowKit

/-- The blocks outside lo .. hi stay as they were, and every row keeps its shape. -/
structure Mk (lo hi : Nat) (w w' : World) : Prop where
  os : w'.os = w.os
  tape : w'.tape = w.tape
  output : w'.output = w.output
  size : w.heap.size ≤ w'.heap.size
  block : ∀ k, k < w.heap.size → (k < lo ∨ hi ≤ k) → w'.heap[k]? = w.heap[k]?
  shape : ∀ (k : Nat) (cur : Array Value) (e : TypeId) (fz : Nat × Nat), w.heap[k]? = some (Obj.cells cur e fz) → ∃ cur' : Array Value, w'.heap[k]? = some (Obj.cells cur' e fz) ∧ cur'.size = cur.size
theorem Mk.refl (lo hi : Nat) (w : World) : Mk lo hi w w := ⟨rfl, rfl, rfl, Nat.le_refl _, fun _ _ _ => rfl, fun _ cur _ _ h => ⟨cur, h, rfl⟩⟩
theorem Mk.trans {lo hi : Nat} {a b c : World} (h1 : Mk lo hi a b) (h2 : Mk lo hi b c) : Mk lo hi a c :=
  ⟨h2.os.trans h1.os, h2.tape.trans h1.tape, h2.output.trans h1.output, Nat.le_trans h1.size h2.size, fun k hk ho => (h2.block k (Nat.lt_of_lt_of_le hk h1.size) ho).trans (h1.block k hk ho), fun k cur e fz h => by
    obtain ⟨c1, e1, s1⟩ := h1.shape k cur e fz h
    obtain ⟨c2, e2, s2⟩ := h2.shape k c1 e fz e1
    exact ⟨c2, e2, s2.trans s1⟩⟩
theorem Mk.wide {lo hi lo' hi' : Nat} {a b : World} (h : Mk lo hi a b) (h1 : lo' ≤ lo) (h2 : hi ≤ hi') : Mk lo' hi' a b :=
  ⟨h.os, h.tape, h.output, h.size, fun k hk ho => h.block k hk (by omega), h.shape⟩
theorem Mk.of_below {lo hi : Nat} {a b : World} (h : Below a.heap.size a b) : Mk lo hi a b :=
  ⟨h.os, h.tape, h.output, h.size, fun k hk _ => h.block k hk, fun k cur e fz hc => ⟨cur, by rw [h.block k (Array.getElem?_eq_some_iff.1 hc).1]; exact hc, rfl⟩⟩
theorem Mk.setCell {lo hi : Nat} {a b : World} (h : Mk lo hi a b) {p : Addr} (v : Value) (h1 : lo ≤ p.block) (h2 : p.block < hi) : Mk lo hi a (b.setCell p v) := by
  refine h.trans ⟨rfl, rfl, rfl, by simp [World.setCell], fun k hk ho => ?_, fun k cur e fz hc => ?_⟩
  · unfold World.setCell
    simp only
    rw [Array.getElem?_modify, if_neg (by omega)]
  · unfold World.setCell
    simp only
    rw [Array.getElem?_modify]
    split
    · rw [hc]
      refine ⟨_, rfl, ?_⟩
      split
      · rfl
      · simp
    · exact ⟨cur, hc, rfl⟩
theorem Mk.belowLo {lo hi : Nat} {a b : World} (h : Mk lo hi a b) : ∀ k, k < lo → k < a.heap.size → b.heap[k]? = a.heap[k]? := fun k h1 h2 => h.block k h2 (.inl h1)
theorem Below.mk {lo hi : Nat} {x a b : World} (hx : Below x.heap.size x a) (h : Mk lo hi a b) (hlo : x.heap.size ≤ lo) : Below x.heap.size x b :=
  ⟨h.os.trans hx.os, h.tape.trans hx.tape, h.output.trans hx.output, Nat.le_trans hx.size h.size, fun k hk => (h.block k (Nat.lt_of_lt_of_le hk hx.size) (.inl (by omega))).trans (hx.block k hk)⟩
theorem Mk.cell {lo hi : Nat} {a b : World} (h : Mk lo hi a b) {p : Addr} {v : Value} (hc : a.cell? p = some v) (ho : p.block < lo ∨ hi ≤ p.block) : b.cell? p = some v :=
  (World.cell?_of_block (h.block p.block (World.block_lt_of_cell? a p hc) ho)).trans hc
theorem Mk.own {lo hi : Nat} {a b : World} (h : Mk lo hi a b) {base : Nat} {e : TypeId} {size n : Nat} {v : Value} {xs : List Value} (ho : a.ownsRow base e size v n xs) (hb : ∀ q, v.ownBlock = some q → q < lo ∨ hi ≤ q) : b.ownsRow base e size v n xs := by
  refine ⟨ho.1, ?_⟩
  rcases ho.2 with h2 | ⟨g, cap, cur, hv, hg, hgg, r⟩
  · exact .inl h2
  · refine .inr ⟨g, cap, cur, hv, hg, ?_, r⟩
    rw [h.block g (Array.getElem?_eq_some_iff.1 hgg).1 (hb g (by rw [hv]; rfl))]
    exact hgg
theorem Mk.ownHi {lo hi : Nat} {a b : World} (h : Mk lo hi a b) {base : Nat} {e : TypeId} {size n : Nat} {v : Value} {xs : List Value} (ho : a.ownsRow base e size v n xs) (hb : hi ≤ base) : b.ownsRow base e size v n xs :=
  h.own ho fun q hq => .inr (Nat.le_trans hb (ho.lt q hq).1)
/-- A row of the call's own, whatever it holds. -/
def OwnX (w : World) (base : Nat) (e : TypeId) (size : Nat) (v : Value) (n : Nat) : Prop := ∃ xs, w.ownsRow base e size v n xs
theorem OwnX.mk {lo hi : Nat} {a b : World} {base : Nat} {e : TypeId} {size n : Nat} {v : Value} (ho : OwnX a base e size v n) (h : Mk lo hi a b) : OwnX b base e size v n := by
  obtain ⟨xs, h1, h2⟩ := ho
  rcases h2 with ⟨hv, rfl⟩ | ⟨g, cap, cur, hv, hg, hgg, hnc, hcm, hcs, htake⟩
  · exact ⟨[], by simp, .inl ⟨hv, rfl⟩⟩
  · obtain ⟨cur', e', s'⟩ := h.shape _ _ _ _ hgg
    refine ⟨cur'.toList.take (n * size), ?_, .inr ⟨g, cap, cur', hv, hg, e', hnc, hcm, s'.trans hcs, rfl⟩⟩
    rw [List.length_take, Nat.min_eq_left]
    rw [Array.length_toList, s', hcs]
    exact Nat.mul_le_mul_right _ hnc
theorem OwnX.blk {w : World} {base : Nat} {e : TypeId} {size n c : Nat} {A : Option Addr} (h : OwnX w base e size (.slice A n c) n) (hn : 0 < n) : ∃ g, A = some ⟨g, 0, none⟩ ∧ base ≤ g ∧ g < w.heap.size ∧ ∀ j, j < n * size → (∃ u, w.cell? ⟨g, j, none⟩ = some u) ∧ w.frozen? ⟨g, j, none⟩ = false := by
  obtain ⟨xs, ho⟩ := h
  obtain ⟨g, cap, hv, hg⟩ := ho.form hn
  simp only [Value.slice.injEq, true_and] at hv
  obtain ⟨rfl, rfl⟩ := hv
  exact ⟨g, rfl, (ho.lt g rfl).1, (ho.lt g rfl).2, fun j hj => ⟨own_cell ho hj, ho.frozenAt j⟩⟩
end Go.Proofs.YtdjehopcpjkgjaaGreat

/- strings.IndexByte by its contract (the shelf's, at this seat). No condition. -/
namespace Go.Proofs.YtdjehopcpjkgjaaGreat

set_option maxHeartbeats 1000000 in
set_option maxRecDepth 100000 in
theorem c_sliteIndexByte (s : ByteArray) (c : Int) (w : World) :
    Calls Tryz.prog 120 #[.string s, .int .u8 c] w fun e w' => e = .returned (.int .i64 (Lib.indexByte s.data.toList c.toNat.toUInt8)) ∧ w = w' := by
  go_enter Tryz.func120, Tryz.ntmps120
  go_wp2
  rw [run_callFunc_extern Tryz.func121 (by kernel_rfl) (by kernel_rfl) (by kernel_rfl) (e := Extern.BytealgIndexByte.indexByte) (by kernel_rfl), Lib.run_indexByteString]
  simp only [Result.andThen]
  rw [Oper.upon_value]
  go_wp2
  go_ret
  exact ⟨rfl, rfl⟩
set_option maxHeartbeats 1000000 in
theorem c_IndexByte (s : ByteArray) (c : Int) (w : World) :
    Calls Tryz.prog 118 #[.string s, .int .u8 c] w fun e w' => e = .returned (.int .i64 (Lib.indexByte s.data.toList c.toNat.toUInt8)) ∧ w = w' := by
  go_enter Tryz.func118, Tryz.ntmps118
  go_wp2_with (first
    | (go_at_call 120
       refine (c_sliteIndexByte _ _ _).mono ?_
       rintro e w' ⟨rfl, rfl⟩)
    )
  go_ret
  exact ⟨rfl, rfl⟩
end Go.Proofs.YtdjehopcpjkgjaaGreat

/- The name of a rule, on both sides. No condition. -/
namespace Go.Proofs.YtdjehopcpjkgjaaGreat
open Go.RowKit

def wbs : List UInt8 := [97, 98, 99, 100, 101, 102, 103, 104, 105, 106, 107, 108, 109, 110, 111, 112, 113, 114, 115, 116, 117, 118, 119, 120, 121, 122, 48, 49, 50, 51, 52, 53, 54, 55, 56, 57, 95]
def wb (c : UInt8) : Bool := (97 ≤ c.toNat && c.toNat ≤ 122) || (48 ≤ c.toNat && c.toNat ≤ 57) || c.toNat == 95
theorem indexByte_mem (l : List UInt8) (c : UInt8) : decide (0 ≤ Lib.indexByte l c) = l.contains c := by
  induction l with
  | nil => rfl
  | cons b l ih =>
    have := Lib.indexByte_ge l c
    unfold Lib.indexByte
    rw [List.contains_cons]
    by_cases e : b = c
    · subst e; simp
    · have e' : (b == c) = false := by simpa using e
      have e2 : (c == b) = false := by simp; exact fun h => e h.symm
      rw [e', e2, Bool.false_or, ← ih]
      simp only [Bool.false_eq_true, if_false]
      by_cases h : Lib.indexByte l c = -1
      · simp [h]
      · rw [if_neg (by simpa using h)]
        simp
        omega
theorem wbs_wb : ∀ n : Fin 256, wbs.contains (UInt8.ofNat n.val) = wb (UInt8.ofNat n.val) := by decide +kernel
theorem wbs_eq (c : UInt8) : decide (0 ≤ Lib.indexByte wbs c) = wb c := by
  rw [indexByte_mem]
  have := wbs_wb ⟨c.toNat, c.toNat_lt⟩
  simpa using this
def nmB (s : ByteArray) : Bool := inB s.size 1 16 && s.data.toList.all wb
def wbsB : ByteArray := ⟨#[97, 98, 99, 100, 101, 102, 103, 104, 105, 106, 107, 108, 109, 110, 111, 112, 113, 114, 115, 116, 117, 118, 119, 120, 121, 122, 48, 49, 50, 51, 52, 53, 54, 55, 56, 57, 95]⟩
theorem c_IndexByteW (c : UInt8) (w : World) : Calls Tryz.prog 118 #[.string ⟨#[97, 98, 99, 100, 101, 102, 103, 104, 105, 106, 107, 108, 109, 110, 111, 112, 113, 114, 115, 116, 117, 118, 119, 120, 121, 122, 48, 49, 50, 51, 52, 53, 54, 55, 56, 57, 95]⟩, .int .u8 c.toNat] w
    fun e w' => ∃ n : Int, e = .returned (.int .i64 n) ∧ decide (0 ≤ n) = wb c ∧ w = w' := by
  refine (c_IndexByte wbsB c.toNat w).mono ?_
  rintro e w' ⟨he, hw⟩
  refine ⟨_, he, ?_, hw⟩
  have e1 : (c.toNat : Int).toNat.toUInt8 = c := by simp
  rw [e1]
  exact wbs_eq c
theorem all_take_snoc {l : List UInt8} {p : UInt8 → Bool} {k : Nat} {t : UInt8} (hz : l[k]? = some t) (h : (l.take k).all p = true) (h2 : p t = true) : (l.take (k + 1)).all p = true := by
  rw [List.take_add_one, List.all_append, h, hz]
  simp [h2]
theorem all_bad {l : List UInt8} {p : UInt8 → Bool} {k : Nat} {t : UInt8} (hz : l[k]? = some t) (h2 : p t = false) : l.all p = false := by
  rw [List.all_eq_false]
  exact ⟨t, List.mem_of_getElem? hz, by simp [h2]⟩
set_option maxHeartbeats 2000000 in
set_option maxRecDepth 100000 in
theorem c_l20Name (s : ByteArray) (w : World) (hs : s.size ≤ 9223372036854775807) :
    Calls Tryz.prog 92 #[.string s] w fun e w' => e = .returned (.bool (nmB s)) ∧ w = w' := by
  have HB0 := Lib.hid (show nmB s = (inB s.size 1 16 && s.data.toList.all wb) from rfl)
  generalize nmB s = R at HB0 ⊢
  go_enter Tryz.func92, Tryz.ntmps92
  go_wp2
  go_loop [3] (fun i => ∃ k : Nat, k ≤ s.size ∧ i = .int .i64 k ∧ Hid ((s.data.toList.take k).all wb = true)) (fun i => s.size - (intOf i).toNat)
  case atStart => exact ⟨0, Nat.zero_le _, rfl, Lib.hid rfl⟩
  case round =>
    obtain ⟨k, hk, rfl, ha⟩ := hrel
    by_cases hlt : k < s.size
    · have hz : s.data.toList[k]? = some s[k] := by
        rw [List.getElem?_eq_getElem (by simpa using hlt)]; rfl
      have HZ := Lib.hid hz
      clear hz
      have HX : Hid (((s[k].toNat : Int) < 97 ∨ 122 < (s[k].toNat : Int)) ∧ ((s[k].toNat : Int) < 48 ∨ 57 < (s[k].toNat : Int)) ∧ ((s[k].toNat : Int) < 95 ∨ 95 < (s[k].toNat : Int)) ↔ wb s[k] = false) := Lib.hid (by
        simp only [wb, Bool.or_eq_false_iff, Bool.and_eq_false_iff, decide_eq_false_iff_not, beq_eq_false_iff_ne]
        omega)
      have HT := Lib.hid (fun h : wb s[k] = true => all_take_snoc HZ.out ha.out h)
      have HF := Lib.hid (fun h : wb s[k] = false => show R = false by rw [HB0.out, all_bad HZ.out h, Bool.and_false])
      have h5 : ((s[k].toNat : Int) != 95) = true ∧ ((s[k].toNat : Int) < 95 ∨ 95 < (s[k].toNat : Int)) ∨ ((s[k].toNat : Int) != 95) = false ∧ 95 ≤ (s[k].toNat : Int) ∧ (s[k].toNat : Int) ≤ 95 := by
        by_cases e : (s[k].toNat : Int) = 95
        · right; refine ⟨?_, by omega, by omega⟩; rw [e]; rfl
        · left; refine ⟨?_, by omega⟩; simpa using e
      rcases h5 with ⟨h5, h6⟩ | ⟨h5, h6, h7⟩
      all_goals
        go_wp2
        all_goals first
          | (go_ret
             exact ⟨ret_bool (HF.out (HX.out.1 (by omega))).symm, rfl⟩)
          | (go_round
             case rel => exact ⟨k + 1, by omega, by go_num, Lib.hid (HT.out (by cases h : wb s[k] with | true => rfl | false => exact absurd (HX.out.2 h) (by omega)))⟩
             case measure => simp [intOf]; omega)
          | (exfalso; omega)
    · have : k = s.size := by omega
      subst this
      have hA := ha.out
      rw [List.take_of_length_le (by simp)] at hA
      have HR := Lib.hid (show R = inB s.size 1 16 by rw [HB0.out, hA, Bool.and_true])
      clear hA
      go_wp2_with (first
        | (go_at_call 67
           refine (c_l01In _ _ _ _).mono ?_
           rintro e w' ⟨rfl, rfl⟩)
        )
      go_ret
      exact ⟨ret_bool HR.out.symm, rfl⟩
/-- What run hands back: how many bytes are those of a word. -/
def RunP (s : ByteArray) (w : World) (e : Ending) (w' : World) : Prop := ∃ n : Nat, n ≤ s.size ∧ e = .returned (.int .i64 n) ∧ decide (n = s.size) = s.data.toList.all wb ∧ w = w'
set_option maxRecDepth 100000 in
theorem c_run (s : ByteArray) (w : World) (hs : s.size ≤ 9223372036854775807) :
    Calls Tryz.prog 112 #[.string s, .int .i64 0, .string ⟨#[97, 98, 99, 100, 101, 102, 103, 104, 105, 106, 107, 108, 109, 110, 111, 112, 113, 114, 115, 116, 117, 118, 119, 120, 121, 122, 48, 49, 50, 51, 52, 53, 54, 55, 56, 57, 95]⟩] w (RunP s w) := by
  have HIB := Lib.hid (fun c w => c_IndexByteW c w)
  go_enter Tryz.func112, Tryz.ntmps112
  go_wp2
  go_loop [7] (fun i => ∃ k : Nat, k ≤ s.size ∧ i = .int .i64 k ∧ Hid ((s.data.toList.take k).all wb = true)) (fun i => s.size - (intOf i).toNat)
  case atStart => exact ⟨0, Nat.zero_le _, rfl, Lib.hid rfl⟩
  case round =>
    obtain ⟨k, hk, rfl, ha⟩ := hrel
    by_cases hlt : k < s.size
    · have hz : s.data.toList[k]? = some s[k] := by
        rw [List.getElem?_eq_getElem (by simpa using hlt)]; rfl
      have HZ := Lib.hid hz
      clear hz
      rcases hw : wb s[k] with _ | _
      · have HR := Lib.hid (show decide (k = s.size) = s.data.toList.all wb by rw [all_bad HZ.out hw]; simp; omega)
        have HW := Lib.hid hw
        clear hw
        go_wp2_with (fail)
        refine (HIB.out s[k] _).mono ?_
        rintro e w' ⟨n, rfl, hn, rfl⟩
        rw [HW.out] at hn
        have hn2 : n < 0 := by simpa using hn
        clear hn
        go_wp2
        go_ret
        exact ⟨k, hk, rfl, HR.out, rfl⟩
      · have HA := Lib.hid (all_take_snoc HZ.out ha.out hw)
        have HW := Lib.hid hw
        clear hw
        go_wp2_with (fail)
        refine (HIB.out s[k] _).mono ?_
        rintro e w' ⟨n, rfl, hn, rfl⟩
        rw [HW.out] at hn
        have hn2 : 0 ≤ n := by simpa using hn
        clear hn
        go_wp2
        go_round
        case rel => exact ⟨k + 1, by omega, by go_num, HA⟩
        case measure => simp [intOf]; omega
    · have : k = s.size := by omega
      subst this
      have hA := ha.out
      rw [List.take_of_length_le (by simp)] at hA
      have HR := Lib.hid hA
      clear hA
      go_wp2
      go_ret
      exact ⟨s.size, Nat.le_refl _, rfl, by rw [HR.out]; simp, rfl⟩
theorem c_isRuleName (s : ByteArray) (w : World) (hs : s.size ≤ 9223372036854775807) :
    Calls Tryz.prog 97 #[.string s] w fun e w' => e = .returned (.bool (nmB s)) ∧ w = w' := by
  have HB0 := Lib.hid (show nmB s = (inB s.size 1 16 && s.data.toList.all wb) from rfl)
  have HRU := Lib.hid (fun w => c_run s w hs)
  generalize nmB s = R at HB0 ⊢
  rcases hi : inB s.size 1 16 with _ | _
  · have e := HB0.out
    rw [hi, Bool.false_and] at e
    subst e
    clear HB0
    go_enter Tryz.func97, Tryz.ntmps97
    go_wp2_with (first
      | (go_at_call 72
         refine (c_within _ _ _ _).mono ?_
         rintro e w' ⟨rfl, rfl⟩)
      )
    go_ret
    exact ⟨rfl, rfl⟩
  · have e := HB0.out
    rw [hi, Bool.true_and] at e
    have HE := Lib.hid e
    clear HB0 e
    go_enter Tryz.func97, Tryz.ntmps97
    go_wp2_with (first
      | (go_at_call 72
         refine (c_within _ _ _ _).mono ?_
         rintro e w' ⟨rfl, rfl⟩)
      )
    refine (HRU.out _).mono ?_
    rintro e w' ⟨n, hn, rfl, hd, rfl⟩
    have HD := Lib.hid (hd.trans HE.out.symm)
    clear hd
    go_wp2
    go_ret
    exact ⟨ret_bool (by rw [← HD.out]; exact decide_eq_decide.2 (by omega)), rfl⟩
end Go.Proofs.YtdjehopcpjkgjaaGreat

/- areTests (program), the name of a rule (both sides). Condition: the sizes lie in 1 .. 32. -/
namespace Go.Proofs.YtdjehopcpjkgjaaGreat
open Go.RowKit

theorem any_not_ts (sz : List Int) (l : List Tst) : l.any (fun t => !hasB sz t.v t.x) = !tsK sz l := by
  unfold tsK
  induction l with
  | nil => rfl
  | cons a t ih => simp [List.any_cons, List.all_cons, ih]
set_option maxRecDepth 100000 in
theorem c_areTests (m : Mdl) (az ax ar : Option Addr) (cz cs cr : Nat) (A : Option Addr) (c : Nat) (l : List Tst) (w : World) (hs : SzsOk m.sz) (hl : m.sz.length ≤ 1048576) (hl2 : l.length ≤ 1048576) (h : Rd w az (ints m.sz)) (hv : Rd w A (tstCells l)) :
    Calls Tryz.prog 62 #[mv m az ax ar cz cs cr, .slice A l.length c] w fun e w' => e = .returned (.bool (tsB m.sz l)) ∧ Below w.heap.size w w' := by
  have hmf : ∀ (fn : Fn) (first cap : Array Value) (w : World), (Instr.makeFunc fn first cap).run Tryz.prog w = .ok (.func fn first cap) w := fun _ _ _ _ => rfl
  have HB0 := Lib.hid (show tsB m.sz l = (tsK m.sz l && decide (l.length ≤ 24)) from rfl)
  have HN := Lib.hid (any_not_ts m.sz l)
  have HCC := Lib.hid (fun (w' : World) (x : Value) (hv : Rd w' A (tstCells l)) hc => c_ContainsTest 89 x (fun t => !hasB m.sz t.v t.x) A c l w' hl2 hv hc (enter_of Tryz.func89 (by kernel_rfl) rfl))
  have HCL := Lib.hid (fun (w' : World) (p v x q) h k0 k1 k2 => c_areTests1 m az ax ar cz cs cr p v x q w' hs hl h k0 k1 k2)
  have HZ := Lib.hid h
  have HV := Lib.hid hv
  generalize tsB m.sz l = R at HB0 ⊢
  clear h hv hs
  generalize hvn : l.length = vn at *
  by_cases h24 : vn ≤ 24
  · have e0 := HB0.out
    rw [decide_eq_true h24, Bool.and_true] at e0
    have E0 := Lib.hid e0
    clear e0 HB0 hvn
    obtain ⟨sz, st, rs⟩ := m
    dsimp only [mv] at *
    generalize sz.length = a at *
    generalize st.length = b at *
    generalize rs.length = d at *
    go_enter Tryz.func62, Tryz.ntmps62
    go_wp2_with (fail)
    refine (HCC.out _ _ (by exact HV.out.alloc _) (Lib.hid ?_)).mono ?_
    · intro wr t _ hb
      refine HCL.out wr _ t.v t.x t.q ((HZ.out.alloc _).below hb) (cell_later hb (by go_simp)) (cell_later hb (by go_simp)) (cell_later hb (by go_simp))
    · rintro e w1 ⟨rfl, hb⟩
      have HB := Lib.hid (below_chain (by (repeat (first | exact Below.refl _ _ | assumption | refine below_alloc ?_ _ | refine below_drewN ?_ _ | refine below_set ?_ _ (by simp; try omega) | refine Below.drew ?_)) : Below w.heap.size w _) hb)
      have HN2 := Lib.hid (show List.any l (fun t => !hasB sz t.v t.x) = !R by rw [HN.out, E0.out])
      clear hb
      generalize List.any l (fun t => !hasB sz t.v t.x) = r at HN2 ⊢
      go_wp2
      go_ret
      exact ⟨ret_bool (by rw [HN2.out]; simp), HB.out⟩
  · have e0 := HB0.out
    rw [decide_eq_false h24, Bool.and_false] at e0
    subst e0
    clear HB0 hvn HN HCC HCL
    obtain ⟨sz, st, rs⟩ := m
    dsimp only [mv] at *
    generalize sz.length = a at *
    generalize st.length = b at *
    generalize rs.length = d at *
    go_enter Tryz.func62, Tryz.ntmps62
    go_wp2
    go_ret
    exact ⟨rfl, by (repeat (first | exact Below.refl _ _ | assumption | refine below_alloc ?_ _ | refine below_drewN ?_ _ | refine below_set ?_ _ (by simp; try omega) | refine Below.drew ?_))⟩
end Go.Proofs.YtdjehopcpjkgjaaGreat

/- Laws for a region that draws its order, walked by hand: the next operation is taken, passed over or carried out. No condition. -/
namespace Go.Proofs.YtdjehopcpjkgjaaGreat

/-- The operation at a place of a list. -/
def nthO : List Oper → Nat → Option Oper
  | [], _ => none
  | o :: _, 0 => some o
  | _ :: l, i + 1 => nthO l i
theorem nthO_get : ∀ {l : List Oper} {i : Nat} {o : Oper}, nthO l i = some o → (l.toArray)[i]? = some o
  | [], _, _, h => by cases h
  | a :: l, 0, o, h => by simpa [nthO] using h
  | a :: l, i + 1, o, h => by
    have := nthO_get (l := l) (i := i) (o := o) h
    simpa using this
section
variable {P : Program} {l : List Oper} {Q : Exit → Act → World → Prop} {md : Region.Mode} {S : World → Prop} {fuel : Nat} {listed : Array Bool} {a : Act} {w : World}
theorem rg_take {oi : Oper} {v : Value} (i : Nat) (hi : nthO l i = some oi)
    (hs : Region.noSelect l.toArray = true) (hf : Region.free md l.toArray listed i = true) (hr : (Region.ready md l.toArray listed).contains i = true)
    (hQ : ∀ c a w, Q (.panic c) (a.put oi.dst v) w → Q (.panic c) a w) (hw : Region.wanted oi (yielded l.toArray a.tmps) = true) (hy : ∀ w, S w → (execOp a.eval oi).run P w = .ok (.value v) w) (hS : S w)
    (h : wpAnyH P md l.toArray Q S fuel (listed.setIfInBounds i true) (a.put oi.dst v) w) : wpAnyH P md l.toArray Q S (fuel + 1) listed a w :=
  wpAnyH_take (nthO_get hi) hs hf hr hQ (.inl ⟨hw, hy⟩) hS h
theorem rg_skip {oi : Oper} (i : Nat) (hi : nthO l i = some oi)
    (hs : Region.noSelect l.toArray = true) (hf : Region.free md l.toArray listed i = true) (hr : (Region.ready md l.toArray listed).contains i = true)
    (hQ : ∀ c a w, Q (.panic c) (a.put oi.dst undef) w → Q (.panic c) a w) (hw : Region.wanted oi (yielded l.toArray a.tmps) = false) (hS : S w)
    (h : wpAnyH P md l.toArray Q S fuel (listed.setIfInBounds i true) (a.put oi.dst undef) w) : wpAnyH P md l.toArray Q S (fuel + 1) listed a w :=
  wpAnyH_take (nthO_get hi) hs hf hr hQ (.inr ⟨hw, rfl⟩) hS h
theorem rg_run {oi : Oper} (i : Nat) (hi : nthO l i = some oi) (hr : Region.ready md l.toArray listed = [i]) (hw : Region.wanted oi (yielded l.toArray a.tmps) = true)
    (h : ∀ K' : Act → World → Prop, Shut (∀ a w, S w → (S w → wpAnyH P md l.toArray Q S fuel (listed.setIfInBounds i true) a w) → K' a w) → Oper.wp P oi a w K' Q) : wpAnyH P md l.toArray Q S (fuel + 1) listed a w :=
  wpAnyH_ready hr (by simp) (AllReadyH.cons (nthO_get hi) (fun K hK => by rw [if_pos hw]; exact h K hK) AllReadyH.nil)
end
end Go.Proofs.YtdjehopcpjkgjaaGreat
