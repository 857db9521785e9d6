/- slices.Reverse at []int64 (a list of the call's own); traceTo (program). Condition: the lengths are bounded. -/
import Derived.Test.YtdjehopcpjkgjaaHMSaf
import Derived.Test.YtdjehopcpjkgjaaHRgL
import Derived.RegionTactic
import Derived.ChangeAlike
namespace Go.Proofs.Ytdjehopcpjkgjaa
open Go.RowKit

/-- The list behind k exchanges from both ends. -/
def rvK (zs : List Int) (k : Nat) : List Int := (List.range zs.length).map fun i => if i < k ∨ zs.length ≤ i + k then zs.getD (zs.length - 1 - i) 0 else zs.getD i 0
theorem rvK_len (zs : List Int) (k : Nat) : (rvK zs k).length = zs.length := by simp [rvK]
theorem rvK_at (zs : List Int) (k i : Nat) (h : i < zs.length) : (rvK zs k)[i]? = some (if i < k ∨ zs.length ≤ i + k then zs.getD (zs.length - 1 - i) 0 else zs.getD i 0) := by
  simp [rvK, h]
theorem rvK_zero (zs : List Int) : rvK zs 0 = zs := by
  apply List.ext_getElem?
  intro i
  rcases Nat.lt_or_ge i zs.length with h | h
  · rw [rvK_at zs 0 i h, if_neg (by omega), List.getD_eq_getElem?_getD, List.getElem?_eq_getElem h]
    rfl
  · rw [List.getElem?_eq_none (by rw [rvK_len]; exact h), List.getElem?_eq_none h]
theorem rvK_end (zs : List Int) (k : Nat) (h : zs.length ≤ 2 * k + 1) : rvK zs k = zs.reverse := by
  apply List.ext_getElem?
  intro i
  rcases Nat.lt_or_ge i zs.length with hi | hi
  · rw [rvK_at zs k i hi, List.getElem?_reverse hi, List.getElem?_eq_getElem (by omega)]
    congr 1
    by_cases c : i < k ∨ zs.length ≤ i + k
    · rw [if_pos c, List.getD_eq_getElem?_getD, List.getElem?_eq_getElem (by omega)]
      rfl
    · rw [if_neg c, List.getD_eq_getElem?_getD, List.getElem?_eq_getElem hi]
      have : zs.length - 1 - i = i := by omega
      simp only [this]
      rfl
  · rw [List.getElem?_eq_none (by rw [rvK_len]; exact hi), List.getElem?_eq_none (by simpa using hi)]
theorem rvK_succ (zs : List Int) (k : Nat) (h : 2 * k + 1 < zs.length) : rvK zs (k + 1) = ((rvK zs k).set k (zs.getD (zs.length - 1 - k) 0)).set (zs.length - 1 - k) (zs.getD k 0) := by
  apply List.ext_getElem?
  intro i
  rcases Nat.lt_or_ge i zs.length with hi | hi
  · rw [rvK_at zs (k + 1) i hi]
    by_cases e1 : i = zs.length - 1 - k
    · rw [e1, List.getElem?_set_self (by rw [List.length_set, rvK_len]; omega), if_pos (by omega), show zs.length - 1 - (zs.length - 1 - k) = k by omega]
    · rw [List.getElem?_set_ne (fun e => e1 e.symm)]
      by_cases e2 : i = k
      · rw [e2, List.getElem?_set_self (by rw [rvK_len]; omega), if_pos (by omega)]
      · rw [List.getElem?_set_ne (fun e => e2 e.symm), rvK_at zs k i hi]
        by_cases c : i < k ∨ zs.length ≤ i + k
        · rw [if_pos c, if_pos (by omega)]
        · rw [if_neg c, if_neg (by omega)]
  · rw [List.getElem?_eq_none (by rw [rvK_len]; exact hi), List.getElem?_eq_none (by rw [List.length_set, List.length_set, rvK_len]; exact hi)]
set_option maxHeartbeats 1000000 in
set_option maxRecDepth 100000 in
theorem c_Reverse (g cap n base : Nat) (zs : List Int) (w : World) (hn : zs.length = n) (hl : n ≤ 1048576) (ho : w.ownsRow base 2 1 (.slice (some ⟨g, 0, none⟩) n cap) n (ints zs)) :
    Calls Try.prog 125 #[.slice (some ⟨g, 0, none⟩) n cap] w fun e w' => e = .returned (.tuple #[]) ∧ w'.ownsRow base 2 1 (.slice (some ⟨g, 0, none⟩) n cap) n (ints zs.reverse) ∧ w.grownBy w' (some g) := by
  have HN := Lib.hid hn
  have HO := Lib.hid ho
  clear hn ho
  go_enter Try.func125, Try.ntmps125
  go_wp2
  go_loopw [2, 3] (fun i j wr => ∃ k : Nat, (2 * k ≤ n ∨ k = 0) ∧ i = .int .i64 k ∧ j = .int .i64 ((n : Int) - 1 - k) ∧ wr.ownsRow base 2 1 (.slice (some ⟨g, 0, none⟩) n cap) n (ints (rvK zs k)) ∧ w.grownBy wr (some g)) (fun i j _ => (intOf j - intOf i + 1).toNat)
  case atStart => exact ⟨0, by omega, rfl, by go_num, by rw [rvK_zero]; exact HO.out, grown_of_below (Below.refl _ _) _⟩
  case round =>
    obtain ⟨k, hk, rfl, rfl, ho, hg⟩ := hrel
    by_cases hlt : 2 * k + 1 < n
    · obtain ⟨m, hm⟩ : ∃ m, m = n - 1 - k := ⟨_, rfl⟩
      have hmi : (n : Int) - 1 - (k : Int) = (m : Int) := by omega
      have hx := (rvK_at zs k k (by have := HN.out; omega)).trans (by rw [if_neg (by have := HN.out; omega)])
      have hy := (rvK_at zs k m (by have := HN.out; omega)).trans (by rw [if_neg (by have := HN.out; omega)])
      have g0 := ho.cells (g := g) rfl k (.int .i64 (zs.getD k 0)) (by simp only [ints, List.getElem?_map, hx]; rfl)
      have g1 := ho.cells (g := g) rfl m (.int .i64 (zs.getD m 0)) (by simp only [ints, List.getElem?_map, hy]; rfl)
      rw [Addr.add_lit, Nat.zero_add] at g0 g1
      have f0 := ho.frozenAt k
      have f1 := ho.frozenAt m
      have hst1 := (ho.stored k (.int .i64 (zs.getD m 0)))
      have hst2 := (hst1.1.stored m (.int .i64 (zs.getD k 0)))
      have HST := Lib.hid (show ((wr.setCell ⟨g, k, none⟩ (.int .i64 (zs.getD m 0))).setCell ⟨g, m, none⟩ (.int .i64 (zs.getD k 0))).ownsRow base 2 1 (.slice (some ⟨g, 0, none⟩) n cap) n (ints (rvK zs (k + 1))) by
        have := hst2.1
        rw [ints_set, ints_set] at this
        rw [rvK_succ zs k (by have := HN.out; omega), show zs.length - 1 - k = m by have := HN.out; omega]
        exact this)
      have HG := Lib.hid (grown_trans hg (grown_trans hst1.2 hst2.2))
      clear hx hy hst1 hst2 ho hg
      generalize zs.getD k 0 = x at *
      generalize zs.getD m 0 = y at *
      rw [hmi]
      have hk0 : (0 : Int) ≤ (k : Int) := by omega
      have hk1 : (k : Int) < (n : Int) := by omega
      have hm0 : (0 : Int) ≤ (m : Int) := by omega
      have hm1 : (m : Int) < (n : Int) := by omega
      have hkm : (k : Int) < (m : Int) := by omega
      have hkm2 : k < m := by omega
      have hmn : m < n := by omega
      have HMM := Lib.hid hm
      clear hmi hm
      have HH := Lib.hid HST.out
      go_wp2_with fail
      go_region
      all_goals
        go_wp2
        go_roundw
        case rel => exact ⟨k + 1, by omega, by go_num, (by have := HMM.out; congr 1; omega), HH.out, grown_trans HG.out (grown_of_below (Below.refl _ _).drew _)⟩
        case measure => have := HMM.out; simp [intOf]; omega
    · have hki : ¬ (k : Int) < (n : Int) - 1 - k := by omega
      have hend := rvK_end zs k (by have := HN.out; omega)
      rw [hend] at ho
      have HO2 := Lib.hid ho
      have HG2 := Lib.hid hg
      clear ho hg hend
      go_wp2
      go_end0
      exact ⟨rfl, HO2.out, HG2.out⟩
set_option maxRecDepth 100000 in
theorem c_ReverseN (w : World) : Calls Try.prog 125 #[.slice none 0 0] w fun e w' => e = .returned (.tuple #[]) ∧ w = w' := by
  go_enter Try.func125, Try.ntmps125
  go_wp2
  refine wp_loop_rounds 1 ?_
  rw [rounds_succ]
  go_wp2
  go_end0
  exact ⟨rfl, rfl⟩
set_option maxHeartbeats 1000000 in
set_option maxRecDepth 100000 in
theorem c_traceTo (A : Option Addr) (c : Nat) (L : List Rc) (k0 : Nat) (x : Rc) (w : World) (hinv : InvR L) (hl : L.length ≤ 1048576) (hx : L[k0]? = some x) (hv : RdRc w A L) :
    Calls Try.prog 78 #[.slice A L.length c, .int .i64 k0] w (RetI2 x.t.length x.t w) := by
  have HV := Lib.hid hv
  have HINV := Lib.hid hinv
  have HX := Lib.hid hx
  have HTB : x.t.length ≤ 1048576 := by
    have h1 := hinv.dt x (List.mem_of_getElem? hx)
    have h2 := hinv.di k0 x hx
    have h3 := (List.getElem?_eq_some_iff.1 hx).1
    omega
  have hk0 := (List.getElem?_eq_some_iff.1 hx).1
  clear hv hinv hx
  have HL := Lib.hid (rfl : L.length = L.length)
  generalize hln : L.length = ln at *
  replace HL := Lib.hid hln
  clear hln
  have HTT := Lib.hid (rfl : x.t.length = x.t.length)
  generalize htl : x.t.length = tl at *
  replace HTT := Lib.hid htl
  clear htl
  go_enter Try.func78, Try.ntmps78
  go_wp2
  go_loopw [1, 5] (fun i v wr => ∃ (k : Nat) (y : Rc) (tr : List Int), i = .int .i64 k ∧ Hid (L[k]? = some y) ∧ Hid (x.t = y.t ++ tr.reverse) ∧ wr.ownsRow w.heap.size 2 1 v tr.length (ints tr) ∧ Below w.heap.size w wr) (fun i _ _ => (intOf i).toNat)
  case atStart => exact ⟨k0, x, [], rfl, HX, Lib.hid (by simp), World.ownsRow_nil _ _ _ _, Below.refl _ _⟩
  case round =>
    obtain ⟨k, y, tr, rfl, hy, ht, ho, hb⟩ := hrel
    have hkl := (List.getElem?_eq_some_iff.1 hy.out).1
    rw [HL.out] at hkl
    have hk1 : (0 : Int) ≤ (k : Int) := by omega
    have hk2 : (k : Int) < (ln : Int) := by omega
    obtain ⟨b, off, ra, rc, rfl, hbw, s0, q1, q2, s3, hrv⟩ := HV.out.at hy.out
    have s1 := cell_later hb q1
    have s2 := cell_later hb q2
    have hsw := hb.size
    have HB := Lib.hid hb
    clear q1 q2
    have HO := Lib.hid ho
    have htl : tr.length ≤ tl := by have := HTT.out; rw [ht.out, List.length_append, List.length_reverse] at this; omega
    clear hrv s0 s3 hb ho
    rcases HINV.out.fr k y hy.out with ⟨rfl, hf, _, ht0⟩ | ⟨hkp, j, z, hjk, hz, hf, _, hzt⟩
    · rw [hf] at s1
      have HE := Lib.hid (show tr.reverse = x.t by rw [ht.out, ht0]; rfl)
      clear ht ht0 hf hy
      have hn0 : ¬ (0 : Int) ≤ -1 := by omega
      rcases HO.out.2 with ⟨hv, hl0⟩ | ⟨g, cap, cur, hv, _⟩
      · subst hv
        have e := List.eq_nil_of_length_eq_zero hl0
        subst e
        have hx0 : x.t = [] := HE.out.symm
        have htl0 : tl = 0 := by have := HTT.out; rw [hx0] at this; exact this.symm
        subst htl0
        have HX0 := Lib.hid hx0
        clear hx0 hl0
        go_wp2_with (first
          | (go_at_call 125
             refine (c_ReverseN _).mono ?_
             rintro e w' ⟨rfl, rfl⟩))
        go_ret
        exact ⟨none, 0, rfl, by rw [HX0.out]; exact World.ownsRow_nil _ _ _ _, HB.out⟩
      · subst hv
        have hlt : tr.length = tl := by have := HTT.out; rw [← HE.out, List.length_reverse] at this; exact this
        rw [hlt] at HO ⊢
        have HLT := Lib.hid hlt
        clear hlt
        go_wp2_with (fail)
        refine (c_Reverse g cap tl w.heap.size tr _ HLT.out (by omega) HO.out).mono ?_
        rintro e w1 ⟨rfl, ho1, hg1⟩
        have HO1 := Lib.hid ho1
        have HB1 := Lib.hid (HB.out.grown hg1 HB.out.size (fun q hq => by simp at hq; have := (HO.out.lt g rfl).1; omega))
        clear ho1 hg1
        go_wp2
        go_ret
        exact ⟨_, cap, rfl, by rw [← HE.out]; exact HO1.out, HB1.out⟩
    · rw [hf] at s1
      have hj0 : (0 : Int) ≤ (j : Int) := by omega
      have HT := Lib.hid (show x.t = z.t ++ (tr ++ [y.r]).reverse by rw [ht.out, hzt]; simp)
      have HZ := Lib.hid hz
      have hrow : Hid (∀ q, u5.ownBlock = some q → w.heap.size ≤ q) := Lib.hid fun q hq => (HO.out.lt q hq).1
      have hblk := World.block_lt_of_cell? _ _ s1
      have HA := Lib.hid (below_alloc (Below.refl wr.heap.size wr) (Obj.cells #[Value.int .i64 y.r] 2))
      clear hz hzt hf ht hy
      go_wp2_with (first
        | (at_builtin
           refine wpList_push_int _ rfl (.tmp 17) (.tmp 23) rfl w.heap.size _ tr.length tr y.r wr.heap.size 1 rfl (own_below HO.out HA.out) rfl (by go_simp) (by omega) (by have := HB.out.size; simp; omega) ?_
           intro v1 w3 hown1 hgrow hold hat
           have HO3 := Lib.hid hown1
           have HB3 := Lib.hid (below_of_grown (below_alloc HB.out (Obj.cells #[Value.int .i64 y.r] 2)) hgrow hrow.out)
           have s1' := hgrow.cell (cell_later HA.out s1) (fun e => by have := hrow.out _ e.symm; dsimp only at this; omega)
           clear hown1 hgrow hold hat))
      go_roundw
      case rel => exact ⟨j, z, tr ++ [y.r], rfl, HZ, HT, by rw [List.length_append]; exact HO3.out, HB3.out⟩
      case measure => simp [intOf]; omega
end Go.Proofs.Ytdjehopcpjkgjaa
