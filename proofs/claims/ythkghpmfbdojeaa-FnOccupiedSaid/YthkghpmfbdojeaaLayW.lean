/- Contracts of IsLayout (program and reference). Condition: the list holds at most 2 to the 20 segments. -/
import Derived.Test.YthkghpmfbdojeaaLayP
namespace Go.Proofs.Ythkghpmfbdojeaa
open Go.RowKit

set_option maxRecDepth 100000 in
theorem c_IsLayout (A : Option Addr) (c n : Nat) (l : List Seg) (w : World) (hn : n = l.length) (hs : n ≤ 1048576) (hr : Rd w A (segCells l)) :
    Calls Try.prog 37 #[.agg #[.slice A n c]] w fun e w' => e = .returned (.bool (layB l)) ∧ Below w.heap.size w w' := by
  have HN := Lib.hid hn
  clear hn
  go_enter Try.func37, Try.ntmps37
  go_wp2
  go_loopw [3, 10] (fun t i wr => ∃ k : Nat, k ≤ n ∧ i = .int .i64 k ∧ t = .int .i64 (sumR (l.take k)) ∧ Hid ((l.take k).all segOk = true) ∧ wr.cell? ⟨w.heap.size, 0, none⟩ = some (.slice A n c) ∧ Below w.heap.size w wr) (fun _ i _ => n - (intOf i).toNat)
  case atStart => exact ⟨0, Nat.zero_le _, rfl, rfl, by simp [Hid], by go_simp, by (repeat (first | exact Below.refl _ _ | assumption | refine below_alloc ?_ _ | refine below_drewN ?_ _ | refine below_set ?_ _ (by simp; try omega) | refine Below.drew ?_))⟩
  case round =>
    obtain ⟨k, hk, rfl, rfl, ha, hbox, hb⟩ := hrel
    have hsum := sumR_take_bd (by have := HN.out; omega) ha.out
    by_cases hlt : k < n
    · obtain ⟨s, hz⟩ : ∃ z, l[k]? = some z := ⟨_, List.getElem?_eq_getElem (by have := HN.out; omega)⟩
      have HSN := Lib.hid (sumR_snoc hz)
      have HZ := Lib.hid hz
      obtain ⟨b, off, rfl, _, g0, g1, g2, g3, g4, g5, g6⟩ := (hr.below hb).seg hz
      have HB := Lib.hid hb
      have HBOX := Lib.hid hbox
      clear hz hb hr hbox
      rcases hseg : segOk s with _ | _
      · have HS := Lib.hid hseg
        have hseg' : segB s.k s.l s.r s.a s.b s.c s.d = false := hseg
        clear hseg
        go_wp2_with (first
          | (go_at_call 59
             refine (c_IsSegment _ _ _ _ _ _ _ _).mono ?_
             rintro e w2 ⟨rfl, hb2⟩
             have HB3 := Lib.hid (below_chain (below_alloc HB.out _) hb2)
             clear hb2)
          )
        go_ret
        exact ⟨ret_bool (layB_bad HZ.out HS.out).symm, HB3.out⟩
      · have hsr := segOk_r hseg
        have HS := Lib.hid hseg
        have hseg' : segB s.k s.l s.r s.a s.b s.c s.d = true := hseg
        clear hseg
        go_wp2_with (first
          | (go_at_call 59
             refine (c_IsSegment _ _ _ _ _ _ _ _).mono ?_
             rintro e w2 ⟨rfl, hb2⟩
             have hx : w2.cell? ⟨wr.heap.size, 2, none⟩ = some (.int .i64 s.r) := cell_later hb2 (by go_simp)
             have HBX := Lib.hid (cell_later hb2 (World.cell?_alloc_lt _ _ _ (World.block_lt_of_cell? _ _ HBOX.out) |>.trans HBOX.out))
             have HB3 := Lib.hid (below_chain (below_alloc HB.out _) hb2)
             clear hb2)
          )
        go_roundw
        case rel => exact ⟨k + 1, by omega, by go_num, by rw [HSN.out], all_snoc HZ.out ha.out HS.out, HBX.out, HB3.out⟩
        case measure => simp [intOf]; omega
    · have : k = n := by omega
      subst this
      have hl : l.take k = l := List.take_of_length_le (by have := HN.out; omega)
      rw [hl] at ha hsum ⊢
      have HA := Lib.hid ha
      clear hl ha
      rcases Nat.lt_or_ge k 3 with h3 | h3
      · have hin : inB (k : Int) 3 24 = false := by simp [inB]; omega
        go_wp2_with (first
          | (go_at_call 53
             refine (c_within _ _ _ _).mono ?_
             rintro e w' ⟨rfl, rfl⟩)
          )
        go_ret
        exact ⟨ret_bool (layB_short (by have := HN.out; omega)).symm, hb⟩
      rcases Nat.lt_or_ge 24 k with h4 | h4
      · have hin : inB (k : Int) 3 24 = false := by simp [inB]; omega
        go_wp2_with (first
          | (go_at_call 53
             refine (c_within _ _ _ _).mono ?_
             rintro e w' ⟨rfl, rfl⟩)
          )
        go_ret
        exact ⟨ret_bool (layB_long (by have := HN.out; omega)).symm, hb⟩
      have hin : inB (k : Int) 3 24 = true := by simp [inB]; omega
      obtain ⟨s, hz⟩ : ∃ z, l[k - 1]? = some z := ⟨_, List.getElem?_eq_getElem (by have := HN.out; omega)⟩
      obtain ⟨b, off, rfl, _, g0, g1, g2, g3, g4, g5, g6⟩ := (hr.below hb).seg hz
      have HF := Lib.hid (layB_end (by rw [← HN.out]; exact hz) HA.out.out)
      clear hz hr
      go_wp2_with (first
        | (go_at_call 53
           refine (c_within _ _ _ _).mono ?_
           rintro e w' ⟨rfl, rfl⟩)
        )
      all_goals go_ret
      all_goals (refine ⟨ret_bool ?_, hb⟩; go_light; rw [HF.out, ← HN.out]; simp_all)

set_option maxRecDepth 100000 in
theorem c_sIsLayout (A : Option Addr) (c n : Nat) (l : List Seg) (w : World) (hn : n = l.length) (hs : n ≤ 1048576) (hr : Rd w A (segCells l)) :
    Calls Try.prog 41 #[.agg #[.slice A n c]] w fun e w' => e = .returned (.bool (layB l)) ∧ Below w.heap.size w w' := by
  have HN := Lib.hid hn
  clear hn
  rcases Nat.lt_or_ge n 3 with h3 | h3
  · skip
    go_enter Try.func41, Try.ntmps41
    go_wp2
    go_ret
    exact ⟨ret_bool (layB_short (by have := HN.out; omega)).symm, by (repeat (first | exact Below.refl _ _ | assumption | refine below_alloc ?_ _ | refine below_drewN ?_ _ | refine below_set ?_ _ (by simp; try omega) | refine Below.drew ?_))⟩
  rcases Nat.lt_or_ge 24 n with h4 | h4
  · skip
    go_enter Try.func41, Try.ntmps41
    go_wp2
    go_ret
    exact ⟨ret_bool (layB_long (by have := HN.out; omega)).symm, by (repeat (first | exact Below.refl _ _ | assumption | refine below_alloc ?_ _ | refine below_drewN ?_ _ | refine below_set ?_ _ (by simp; try omega) | refine Below.drew ?_))⟩
  go_enter Try.func41, Try.ntmps41
  go_wp2
  go_loopw [4, 5] (fun t i wr => ∃ k : Nat, k ≤ n ∧ i = .int .i64 k ∧ t = .int .i64 (sumR (l.take k)) ∧ Hid ((l.take k).all segOk = true) ∧ wr.cell? ⟨w.heap.size, 0, none⟩ = some (.slice A n c) ∧ Below w.heap.size w wr) (fun _ i _ => n - (intOf i).toNat)
  case atStart => exact ⟨0, Nat.zero_le _, rfl, rfl, by simp [Hid], by go_simp, by (repeat (first | exact Below.refl _ _ | assumption | refine below_alloc ?_ _ | refine below_drewN ?_ _ | refine below_set ?_ _ (by simp; try omega) | refine Below.drew ?_))⟩
  case round =>
    obtain ⟨k, hk, rfl, rfl, ha, hbox, hb⟩ := hrel
    have hsum := sumR_take_bd (by have := HN.out; omega) ha.out
    by_cases hlt : k < n
    · obtain ⟨s, hz⟩ : ∃ z, l[k]? = some z := ⟨_, List.getElem?_eq_getElem (by have := HN.out; omega)⟩
      have HSN := Lib.hid (sumR_snoc hz)
      have HZ := Lib.hid hz
      obtain ⟨b, off, rfl, _, g0, g1, g2, g3, g4, g5, g6⟩ := (hr.below hb).seg hz
      have HB := Lib.hid hb
      clear hz hb hr
      rcases hseg : segOk s with _ | _
      · have HS := Lib.hid hseg
        have hseg' : segB s.k s.l s.r s.a s.b s.c s.d = false := hseg
        clear hseg
        go_wp2_with (first
          | (go_at_call 66
             refine (c_sIsSegment _ _ _ _ _ _ _ _).mono ?_
             rintro e w2 ⟨rfl, hb2⟩
             have HB3 := Lib.hid (below_chain HB.out hb2)
             clear hb2)
          )
        go_ret
        exact ⟨ret_bool (layB_bad HZ.out HS.out).symm, HB3.out⟩
      · have hsr := segOk_r hseg
        have HS := Lib.hid hseg
        have hseg' : segB s.k s.l s.r s.a s.b s.c s.d = true := hseg
        clear hseg
        go_wp2_with (first
          | (go_at_call 66
             refine (c_sIsSegment _ _ _ _ _ _ _ _).mono ?_
             rintro e w2 ⟨rfl, hb2⟩
             have hx : w2.cell? ⟨b, off + k * 7 + 2, none⟩ = some (.int .i64 s.r) := cell_later hb2 g2
             have hx2 : w2.cell? ⟨w.heap.size, 0, none⟩ = _ := cell_later hb2 hbox
             have HB3 := Lib.hid (below_chain HB.out hb2)
             clear hb2)
          )
        go_roundw
        case rel => exact ⟨k + 1, by omega, by go_num, by rw [HSN.out], all_snoc HZ.out ha.out HS.out, hx2, HB3.out⟩
        case measure => simp [intOf]; omega
    · have : k = n := by omega
      subst this
      have hl : l.take k = l := List.take_of_length_le (by have := HN.out; omega)
      rw [hl] at ha hsum ⊢
      have HA := Lib.hid ha
      clear hl ha
      obtain ⟨s, hz⟩ : ∃ z, l[k - 1]? = some z := ⟨_, List.getElem?_eq_getElem (by have := HN.out; omega)⟩
      obtain ⟨b, off, rfl, _, g0, g1, g2, g3, g4, g5, g6⟩ := (hr.below hb).seg hz
      have HF := Lib.hid (layB_end (by rw [← HN.out]; exact hz) HA.out.out)
      clear hz hr
      go_wp2
      all_goals go_ret
      all_goals (refine ⟨ret_bool ?_, hb⟩; go_light; rw [HF.out, ← HN.out]; simp_all)
end Go.Proofs.Ythkghpmfbdojeaa
