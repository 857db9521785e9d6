/- Contracts of the laws' own copies, sizes and comparisons: lists of integers, segments, layouts. No condition but the lists' sizes. -/
import Derived.Test.YthhedpdldjmfpaaHoldsW
namespace Go.Proofs.Ythhedpdldjmfpaa
open Go.RowKit

theorem info_int64 : (Try.prog.info? 2).map (fun i => (i.zero, i.size, i.bytes)) = some (some (.int .i64 0), 1, 8) := by kernel_rfl
theorem info_iSegment : (Try.prog.info? 29).map (fun i => (i.zero, i.size, i.bytes)) = some (some (.agg #[.int .i64 0, .int .i64 0, .int .i64 0, .int .i64 0, .int .i64 0, .int .i64 0, .int .i64 0]), 7, 56) := by kernel_rfl

/-- What is handed back is a new list of the call's own that holds zs. -/
def RetInts (zs : List Int) (w : World) (e : Ending) (w' : World) : Prop :=
  ∃ A c, e = .returned (.slice A zs.length c) ∧ w'.ownsRow w.heap.size 2 1 (.slice A zs.length c) zs.length (ints zs) ∧ Below w.heap.size w w'
set_option maxRecDepth 100000 in
theorem c_toInt64S (A : Option Addr) (c n : Nat) (zs : List Int) (w : World) (hn : n = zs.length) (hs : n ≤ 1048576) (hr : Rd w A (ints zs)) :
    Calls Try.prog 28 #[.slice A n c] w (RetInts zs w) := by
  obtain ⟨i0, hi, hz0, hz1, hz2⟩ := info_parts info_int64
  have HN := Lib.hid hn
  have HZ : (ints zs).length = n := by rw [ints_length, hn]
  clear hn
  go_enter Try.func28, Try.ntmps28
  go_wp2_with (first
    | (at_make
       refine wpList_make_full _ rfl (.tmp 6) (.tmp 6) _ rfl w.heap.size 2 i0 _ 1 Try.underlying35 hi hz0 hz1 .i64 .i64 _ _ n rfl rfl rfl rfl (by rw [hz2]; omega) (by unfold maxLen; omega) (Nat.le_refl _) ?_
       intro w1 hown hgrow)
    )
  have hb1 : Below w.heap.size w w1 := below_of_grown (Below.refl _ _) hgrow (by simp)
  have hZ : (madeCells (Value.int .i64 0).cells (n * 1)).toList.length = n := by simp [size_madeCells]
  generalize (madeCells (Value.int .i64 0).cells (n * 1)).toList = Z at hown hZ
  have hLZ := Lib.hid (HZ.trans hZ.symm)
  have HZZ := Lib.hid HZ
  clear hZ HZ hgrow
  go_loopw [4] (fun i wr => ∃ k : Nat, k ≤ n ∧ i = .int .i64 k ∧ wr.ownsRow w.heap.size 2 1 (.slice (some ⟨w.heap.size, 0, none⟩) n n) n (mix (ints zs) Z k) ∧ Below w.heap.size w wr) (fun i _ => n - (intOf i).toNat)
  case atStart => exact ⟨0, Nat.zero_le _, rfl, by rw [mix_zero]; exact hown, hb1⟩
  case round =>
    obtain ⟨k, hk, rfl, ho, hb⟩ := hrel
    clear hown hb1
    by_cases hlt : k < n
    · obtain ⟨b, off, rfl, _, hc⟩ := (hr.below hb).some_ (by intro h; have := HZZ.out; rw [h] at this; simp at this; omega)
      have hu := ints_get (zs := zs) (j := k) (by have := HN.out; omega)
      have g0 := hc k _ hu
      have f0 := ho.frozenAt k
      obtain ⟨old, hold⟩ := own_cell ho (j := k) (by omega)
      have hst := (ho.stored k (.int .i64 (zs.getD k 0))).1
      rw [mix_set hLZ.out hu] at hst
      have HST := Lib.hid hst
      have HB := Lib.hid hb
      clear hu hc hst ho hb hr
      go_wp2
      go_roundw
      case rel => exact ⟨k + 1, by omega, by go_num, HST.out, below_set HB.out _ (Nat.le_refl _)⟩
      case measure => simp [intOf]; omega
    · have : k = n := by omega
      subst this
      go_wp2
      go_ret
      have e := HN.out
      rw [mix_all (by rw [HZZ.out]; exact Nat.le_refl _) (by rw [← hLZ.out, HZZ.out]; exact Nat.le_refl _)] at ho
      subst e
      exact ⟨_, _, rfl, ho, hb⟩

/-- What is handed back is a new list of the call's own that holds the segments l. -/
def RetSegs (l : List Seg) (w : World) (e : Ending) (w' : World) : Prop :=
  ∃ A c, e = .returned (.slice A l.length c) ∧ w'.ownsRow w.heap.size 29 7 (.slice A l.length c) l.length (segCells l) ∧ Below w.heap.size w w'
set_option maxRecDepth 100000 in
theorem c_toSegmentS (A : Option Addr) (c n : Nat) (l : List Seg) (w : World) (hn : n = l.length) (hs : n ≤ 1048576) (hr : Rd w A (segCells l)) :
    Calls Try.prog 78 #[.slice A n c] w (RetSegs l w) := by
  obtain ⟨i0, hi, hz0, hz1, hz2⟩ := info_parts info_iSegment
  have HN := Lib.hid hn
  have HZ : (segCells l).length = n * 7 := by rw [segCells_length, hn]
  clear hn
  go_enter Try.func78, Try.ntmps78
  go_wp2_with (first
    | (at_make
       refine wpList_make_full _ rfl (.tmp 6) (.tmp 6) _ rfl w.heap.size 29 i0 _ 7 Try.underlying38 hi hz0 hz1 .i64 .i64 _ _ n rfl rfl rfl rfl (by rw [hz2]; omega) (by unfold maxLen; omega) (Nat.le_refl _) ?_
       intro w1 hown hgrow)
    )
  have hb1 : Below w.heap.size w w1 := below_of_grown (Below.refl _ _) hgrow (by simp)
  have hZ : (madeCells (Value.agg #[.int .i64 0, .int .i64 0, .int .i64 0, .int .i64 0, .int .i64 0, .int .i64 0, .int .i64 0]).cells (n * 7)).toList.length = n * 7 := by simp [size_madeCells]
  generalize (madeCells (Value.agg #[.int .i64 0, .int .i64 0, .int .i64 0, .int .i64 0, .int .i64 0, .int .i64 0, .int .i64 0]).cells (n * 7)).toList = Z at hown hZ
  have hLZ := Lib.hid (HZ.trans hZ.symm)
  have HZZ := Lib.hid HZ
  clear hZ HZ hgrow
  go_loopw [4] (fun i wr => ∃ k : Nat, k ≤ n ∧ i = .int .i64 k ∧ wr.ownsRow w.heap.size 29 7 (.slice (some ⟨w.heap.size, 0, none⟩) n n) n (mix (segCells l) Z (k * 7)) ∧ Below w.heap.size w wr) (fun i _ => n - (intOf i).toNat)
  case atStart => exact ⟨0, Nat.zero_le _, rfl, by rw [Nat.zero_mul, mix_zero]; exact hown, hb1⟩
  case round =>
    obtain ⟨k, hk, rfl, ho, hb⟩ := hrel
    clear hown hb1
    by_cases hlt : k < n
    · obtain ⟨s, hs0⟩ : ∃ s, l[k]? = some s := ⟨_, List.getElem?_eq_getElem (by have := HN.out; omega)⟩
      obtain ⟨u0, u1, u2, u3, u4, u5, u6⟩ := segCells_at hs0
      have HM := Lib.hid (mix_set7 hLZ.out u0 u1 u2 u3 u4 u5 u6)
      clear u0 u1 u2 u3 u4 u5 u6
      obtain ⟨b, off, rfl, _, g0, g1, g2, g3, g4, g5, g6⟩ := (hr.below hb).seg hs0
      have HO := Lib.hid ho
      have HB := Lib.hid hb
      clear hs0 ho hb hr
      go_wp2_with (first
        | (go_at_call 23
           refine (c_toSegment _ _ _ _ _ _ _ _).mono ?_
           rintro e w2 ⟨rfl, hb2⟩
           have ho1 := own_below HO.out hb2
           have f0 := ho1.frozenAt (k * 7)
           obtain ⟨o0, e0⟩ := own_cell ho1 (j := k * 7) (by omega)
           have f1 := ho1.frozenAt (k * 7 + 1)
           obtain ⟨o1, e1⟩ := own_cell ho1 (j := k * 7 + 1) (by omega)
           have f2 := ho1.frozenAt (k * 7 + 2)
           obtain ⟨o2, e2⟩ := own_cell ho1 (j := k * 7 + 2) (by omega)
           have f3 := ho1.frozenAt (k * 7 + 3)
           obtain ⟨o3, e3⟩ := own_cell ho1 (j := k * 7 + 3) (by omega)
           have f4 := ho1.frozenAt (k * 7 + 4)
           obtain ⟨o4, e4⟩ := own_cell ho1 (j := k * 7 + 4) (by omega)
           have f5 := ho1.frozenAt (k * 7 + 5)
           obtain ⟨o5, e5⟩ := own_cell ho1 (j := k * 7 + 5) (by omega)
           have f6 := ho1.frozenAt (k * 7 + 6)
           obtain ⟨o6, e6⟩ := own_cell ho1 (j := k * 7 + 6) (by omega)
           have HST := Lib.hid (((((((ho1.stored (k * 7) (.int .i64 s.k)).1.stored (k * 7 + 1) (.int .i64 s.l)).1.stored (k * 7 + 2) (.int .i64 s.r)).1.stored (k * 7 + 3) (.int .i64 s.a)).1.stored (k * 7 + 4) (.int .i64 s.b)).1.stored (k * 7 + 5) (.int .i64 s.c)).1.stored (k * 7 + 6) (.int .i64 s.d)).1
           have HB2 := Lib.hid (below_chain HB.out hb2)
           clear ho1 hb2 g0 g1 g2 g3 g4 g5 g6)
        )
      go_roundw
      case rel =>
        refine ⟨k + 1, by omega, by go_num, ?_, ?_⟩
        · rw [show (k + 1) * 7 = k * 7 + 7 from by omega, ← HM.out]
          exact HST.out
        · exact below_set (below_set (below_set (below_set (below_set (below_set (below_set HB2.out _ (Nat.le_refl _)) _ (Nat.le_refl _)) _ (Nat.le_refl _)) _ (Nat.le_refl _)) _ (Nat.le_refl _)) _ (Nat.le_refl _)) _ (Nat.le_refl _)
      case measure => simp [intOf]; omega
    · have : k = n := by omega
      subst this
      go_wp2
      go_ret
      have e := HN.out
      rw [mix_all (by rw [HZZ.out]; exact Nat.le_refl _) (by rw [← hLZ.out, HZZ.out]; exact Nat.le_refl _)] at ho
      subst e
      exact ⟨_, _, rfl, ho, hb⟩

/-- What is handed back is a new layout of the call's own with the segments l. -/
def RetLay (l : List Seg) (w : World) (e : Ending) (w' : World) : Prop :=
  ∃ A c, e = .returned (.agg #[.slice A l.length c]) ∧ w'.ownsRow w.heap.size 29 7 (.slice A l.length c) l.length (segCells l) ∧ Below w.heap.size w w'
theorem c_toLayout (A : Option Addr) (c n : Nat) (l : List Seg) (w : World) (hn : n = l.length) (hs : n ≤ 1048576) (hr : Rd w A (segCells l)) :
    Calls Try.prog 27 #[.agg #[.slice A n c]] w (RetLay l w) := by
  have HN := Lib.hid hn
  clear hn
  go_enter Try.func27, Try.ntmps27
  go_wp2_with (first
    | (go_at_call 78
       refine (c_toSegmentS _ _ _ l _ HN.out hs (((hr.alloc _).alloc _).alloc _)).mono ?_
       rintro e w1 ⟨A1, c1, rfl, ho, hb⟩
       have k1 : w1.cell? ⟨w.heap.size + 1, 0, none⟩ = some (.slice none 0 0) := cell_later hb (by go_simp)
       have k2 : w1.cell? ⟨w.heap.size + 1 + 1, 0, none⟩ = some (.slice none 0 0) := cell_later hb (by go_simp)
       have f1 : w1.frozen? ⟨w.heap.size + 1, 0, none⟩ = false := frozen_later hb (by simp) (by go_simp)
       have f2 : w1.frozen? ⟨w.heap.size + 1 + 1, 0, none⟩ = false := frozen_later hb (by simp) (by go_simp)
       have B := Lib.hid (below_chain (by (repeat (first | exact Below.refl _ _ | assumption | refine below_alloc ?_ _ | refine below_drewN ?_ _ | refine below_set ?_ _ (by simp; try omega) | refine Below.drew ?_)) : Below w.heap.size w _) hb)
       have HO := Lib.hid ho
       clear hb ho hr)
    )
  refine bodyPost_ret (v := .agg #[.slice A1 l.length c1]) (by simp [results, Try.results27, go_sem, k1]) rfl ⟨A1, c1, rfl, ?_, ?_⟩
  · exact own_mono (ownsRow_setCell_below (ownsRow_setCell_below HO.out (by simp) _) (by simp) _) (by simp; omega)
  · exact below_set (below_set B.out _ (by simp; try omega)) _ (by simp; try omega)
def szI (left : Int) (n : Nat) : Int := if left - n < 0 then -1 else left - n
theorem c_szSegmentS (A : Option Addr) (c n : Nat) (left : Int) (w : World) (hn : n ≤ 9223372036854775807) (h0 : 0 ≤ left) (h1 : left ≤ 1048576) :
    Calls Try.prog 75 #[.slice A n c, .int .i64 left] w fun e w' => e = .returned (.int .i64 (szI left n)) ∧ w = w' := by
  go_enter Try.func75, Try.ntmps75
  go_wp2
  all_goals go_ret
  all_goals (refine ⟨?_, rfl⟩; simp [szI]; try omega)
theorem c_szLayout (A : Option Addr) (c n : Nat) (left : Int) (w : World) (hn : n ≤ 9223372036854775807) (h0 : 0 ≤ left) (h1 : left ≤ 1048576) :
    Calls Try.prog 25 #[.agg #[.slice A n c], .int .i64 left] w fun e w' => e = .returned (.int .i64 (szI left n)) ∧ Below w.heap.size w w' := by
  go_enter Try.func25, Try.ntmps25
  go_wp2_with (first
    | (go_at_call 75
       refine (c_szSegmentS _ _ _ _ _ hn h0 h1).mono ?_
       rintro e w' ⟨rfl, rfl⟩)
    )
  all_goals go_ret
  all_goals (refine ⟨?_, by (repeat (first | exact Below.refl _ _ | assumption | refine below_alloc ?_ _ | refine below_drewN ?_ _ | refine below_set ?_ _ (by simp; try omega) | refine Below.drew ?_))⟩; simp [szI] at *; try omega)
theorem c_eqInterval (a b : Int) (w : World) : Calls Try.prog 58 #[.agg #[.int .i64 a, .int .i64 b], .agg #[.int .i64 a, .int .i64 b]] w fun e w' => e = .returned (.bool true) ∧ Below w.heap.size w w' := by
  go_enter Try.func58, Try.ntmps58
  go_wp2
  all_goals go_ret
  all_goals (refine ⟨rfl, by (repeat (first | exact Below.refl _ _ | assumption | refine below_alloc ?_ _ | refine below_drewN ?_ _ | refine below_set ?_ _ (by simp; try omega) | refine Below.drew ?_))⟩)
set_option maxRecDepth 100000 in
theorem c_eqSegment (k l r a b c d : Int) (w : World) : Calls Try.prog 138 #[.agg #[.int .i64 k, .int .i64 l, .int .i64 r, .int .i64 a, .int .i64 b, .int .i64 c, .int .i64 d], .agg #[.int .i64 k, .int .i64 l, .int .i64 r, .int .i64 a, .int .i64 b, .int .i64 c, .int .i64 d]] w fun e w' => e = .returned (.bool true) ∧ Below w.heap.size w w' := by
  go_enter Try.func138, Try.ntmps138
  go_wp2_with (first
    | (go_at_call 58
       refine (c_eqInterval _ _ _).mono ?_
       rintro e w1 ⟨rfl, hb⟩
       first | replace k3 := cell_later hb k3 | (have k3 : w1.cell? ⟨w.heap.size, 3, none⟩ = some (.int .i64 a) := cell_later hb (by go_simp))
       first | replace k4 := cell_later hb k4 | (have k4 : w1.cell? ⟨w.heap.size, 4, none⟩ = some (.int .i64 b) := cell_later hb (by go_simp))
       first | replace k5 := cell_later hb k5 | (have k5 : w1.cell? ⟨w.heap.size, 5, none⟩ = some (.int .i64 c) := cell_later hb (by go_simp))
       first | replace k6 := cell_later hb k6 | (have k6 : w1.cell? ⟨w.heap.size, 6, none⟩ = some (.int .i64 d) := cell_later hb (by go_simp))
       first | replace k7 := cell_later hb k7 | (have k7 : w1.cell? ⟨w.heap.size + 1, 3, none⟩ = some (.int .i64 a) := cell_later hb (by go_simp))
       first | replace k8 := cell_later hb k8 | (have k8 : w1.cell? ⟨w.heap.size + 1, 4, none⟩ = some (.int .i64 b) := cell_later hb (by go_simp))
       first | replace k9 := cell_later hb k9 | (have k9 : w1.cell? ⟨w.heap.size + 1, 5, none⟩ = some (.int .i64 c) := cell_later hb (by go_simp))
       first | replace k10 := cell_later hb k10 | (have k10 : w1.cell? ⟨w.heap.size + 1, 6, none⟩ = some (.int .i64 d) := cell_later hb (by go_simp))
       first | replace B := below_chain B hb | (have B : Below w.heap.size w w1 := below_chain (by (repeat (first | exact Below.refl _ _ | assumption | refine below_alloc ?_ _ | refine below_drewN ?_ _ | refine below_set ?_ _ (by simp; try omega) | refine Below.drew ?_))) hb)
       clear hb)
    )
  all_goals go_ret
  all_goals (refine ⟨rfl, by (repeat (first | exact Below.refl _ _ | assumption | refine below_alloc ?_ _ | refine below_drewN ?_ _ | refine below_set ?_ _ (by simp; try omega) | refine Below.drew ?_))⟩)
set_option maxRecDepth 100000 in
theorem c_eqInt64S (A A' : Option Addr) (c c' n n' : Nat) (zs : List Int) (w : World) (hn : n = zs.length) (hn' : n' = zs.length) (hs : zs.length ≤ 9223372036854775807) (hr : Rd w A (ints zs)) (hr' : Rd w A' (ints zs)) :
    Calls Try.prog 31 #[.slice A n c, .slice A' n' c'] w fun e w' => e = .returned (.bool true) ∧ Below w.heap.size w w' := by
  subst hn
  subst hn'
  go_enter Try.func31, Try.ntmps31
  go_wp2
  go_loopw [5] (fun i wr => ∃ k : Nat, k ≤ zs.length ∧ i = .int .i64 k ∧ Below w.heap.size w wr) (fun i _ => zs.length - (intOf i).toNat)
  case atStart => exact ⟨0, Nat.zero_le _, rfl, Below.refl _ _⟩
  case round =>
    obtain ⟨k, hk, rfl, hb⟩ := hrel
    by_cases hlt : k < zs.length
    · obtain ⟨z, hz⟩ : ∃ z, zs[k]? = some z := ⟨_, List.getElem?_eq_getElem hlt⟩
      obtain ⟨b, off, rfl, _, g0⟩ := (hr.below hb).int hz
      obtain ⟨b', off', rfl, _, g1⟩ := (hr'.below hb).int hz
      have HB := Lib.hid hb
      clear hz hb hr hr'
      go_wp2
      refine wp_region_quiet_lit (by kernel_rfl) (by kernel_rfl) ?_
      (repeat (any_goals (first | go_big_quiet_step (fail) | quiet_step (fail) | (refine wpQuiet_step (fun K hK => ?_); go_simp; split <;> (refine hK _ ?_; clear hK K)))))
      all_goals (refine wpQuiet_nil ?_; intro _ hw'; obtain ⟨nq, hw''⟩ := hw'; subst hw'')
      go_wp2
      go_roundw
      case rel => exact ⟨k + 1, by omega, by go_num, below_drewN HB.out _⟩
      case measure => simp [intOf]; omega
    · have : k = zs.length := by omega
      subst this
      go_wp2
      go_ret
      exact ⟨rfl, hb⟩
set_option maxRecDepth 100000 in
theorem c_eqSegmentS (A A' : Option Addr) (c c' n n' : Nat) (l : List Seg) (w : World) (hn : n = l.length) (hn' : n' = l.length) (hs : l.length ≤ 1048576) (hr : Rd w A (segCells l)) (hr' : Rd w A' (segCells l)) :
    Calls Try.prog 81 #[.slice A n c, .slice A' n' c'] w fun e w' => e = .returned (.bool true) ∧ Below w.heap.size w w' := by
  subst hn
  subst hn'
  go_enter Try.func81, Try.ntmps81
  go_wp2
  go_loopw [5] (fun i wr => ∃ k : Nat, k ≤ l.length ∧ i = .int .i64 k ∧ Below w.heap.size w wr) (fun i _ => l.length - (intOf i).toNat)
  case atStart => exact ⟨0, Nat.zero_le _, rfl, Below.refl _ _⟩
  case round =>
    obtain ⟨k, hk, rfl, hb⟩ := hrel
    by_cases hlt : k < l.length
    · obtain ⟨s, hz⟩ : ∃ z, l[k]? = some z := ⟨_, List.getElem?_eq_getElem hlt⟩
      obtain ⟨b, off, rfl, _, g0, g1, g2, g3, g4, g5, g6⟩ := (hr.below hb).seg hz
      obtain ⟨b', off', rfl, _, e0, e1, e2, e3, e4, e5, e6⟩ := (hr'.below hb).seg hz
      have HB := Lib.hid hb
      clear hz hb hr hr'
      go_wp2
      go_still_tail 8, (by kernel_rfl)
      change wpList _ _ _ _ _ wr.drew
      have HB2 := Lib.hid (below_drewN HB.out 1)
      go_wp2_with (first
        | (go_at_call 138
           refine (c_eqSegment _ _ _ _ _ _ _ _).mono ?_
           rintro e w2 ⟨rfl, hb2⟩
           have HB3 := Lib.hid (below_chain HB.out.drew hb2)
           clear hb2)
        )
      go_goals
      go_roundw
      case rel => exact ⟨k + 1, by omega, by go_num, HB3.out⟩
      case measure => simp [intOf]; omega
    · have : k = l.length := by omega
      subst this
      go_wp2
      go_ret
      exact ⟨rfl, hb⟩
end Go.Proofs.Ythhedpdldjmfpaa
