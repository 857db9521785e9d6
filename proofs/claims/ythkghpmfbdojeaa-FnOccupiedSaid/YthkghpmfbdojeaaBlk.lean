/- Contracts of AreBlocks (program and reference) and what they call. No condition but the lists' sizes. -/
import Derived.Test.YthkghpmfbdojeaaIdxF
namespace Go.Proofs.Ythkghpmfbdojeaa
open Go.RowKit

theorem c_length_int64 (A : Option Addr) (c n : Nat) (w : World) (_hs : n ≤ 9223372036854775807) :
    Calls Try.prog 49 #[.slice A n c] w fun e w' => e = .returned (.int .i64 n) ∧ w = w' := by
  go_enter Try.func49, Try.ntmps49
  go_wp2
  go_ret
  exact ⟨rfl, rfl⟩
theorem c_length_seg (A : Option Addr) (c n : Nat) (w : World) (_hs : n ≤ 9223372036854775807) :
    Calls Try.prog 61 #[.slice A n c] w fun e w' => e = .returned (.int .i64 n) ∧ w = w' := by
  go_enter Try.func61, Try.ntmps61
  go_wp2
  go_ret
  exact ⟨rfl, rfl⟩
def Seg.none : Seg := ⟨0, 0, 0, 0, 0, 0, 0⟩
def heldBefore (l : List Seg) (f : Int) : Bool := holdsB (l.getD (f - 1).toNat Seg.none).k
def blkB (l : List Seg) (fs : List Int) : Bool := inB (fs.length : Int) 2 8 && (fs.getD 0 0 == 0) && risB fs (l.length : Int) && (fs.drop 1).all (heldBefore l)

set_option maxRecDepth 100000 in
theorem c_areBlocks1 (A : Option Addr) (c n b0 : Nat) (l : List Seg) (f : Int) (w : World) (hn : n = l.length) (hs : n ≤ 1048576) (hr : Rd w A (segCells l)) (hbox : w.cell? ⟨b0, 0, none⟩ = some (.slice A n c)) (h1 : 1 ≤ f) (h2 : f ≤ n) :
    Calls Try.prog 63 #[.int .i64 f, .pointer (some ⟨b0, 0, none⟩)] w fun e w' => e = .returned (.bool (!heldBefore l f)) ∧ Below w.heap.size w w' := by
  have HN := Lib.hid hn
  clear hn
  obtain ⟨q, rfl⟩ : ∃ q : Nat, f = (q : Int) + 1 := ⟨(f - 1).toNat, by omega⟩
  obtain ⟨s, hz⟩ : ∃ z, l[q]? = some z := ⟨_, List.getElem?_eq_getElem (by have := HN.out; omega)⟩
  have HF := Lib.hid (show heldBefore l ((q : Int) + 1) = holdsB s.k by
    unfold heldBefore
    rw [show ((q : Int) + 1 - 1).toNat = q by omega, List.getD_eq_getElem?_getD, hz]
    rfl)
  obtain ⟨b, off, rfl, _, g0, g1, g2, g3, g4, g5, g6⟩ := hr.seg hz
  clear hz hr
  go_enter Try.func63, Try.ntmps63
  go_wp2_with (first
    | (go_at_call 64
       refine (c_holds _ _ _ _ _ _ _ _).mono ?_
       rintro e w1 ⟨rfl, hb⟩
       first | replace B := below_chain B hb | (have B : Below w.heap.size w w1 := below_chain (by (repeat (first | exact Below.refl _ _ | assumption | refine below_alloc ?_ _ | refine below_drewN ?_ _ | refine below_set ?_ _ (by simp; try omega) | refine Below.drew ?_))) hb)
       clear hb)
    )
  all_goals go_ret
  all_goals (refine ⟨ret_bool (by rw [HF.out]), by (repeat (first | exact Below.refl _ _ | assumption | refine below_alloc ?_ _ | refine below_drewN ?_ _ | refine below_set ?_ _ (by simp; try omega) | refine Below.drew ?_))⟩)

theorem ris_drop {fs : List Int} {m z : Int} (h : Ris fs m) (hz : z ∈ fs.drop 1) : 1 ≤ z ∧ z < m := by
  obtain ⟨j, hj, rfl⟩ := List.getElem_of_mem hz
  have e : (fs.drop 1)[j]? = some (fs.drop 1)[j] := List.getElem?_eq_getElem hj
  rw [List.getElem?_drop, Nat.add_comm] at e
  obtain ⟨y, hy⟩ : ∃ y, fs[j]? = some y := ⟨_, List.getElem?_eq_getElem (by simp at hj; omega)⟩
  have h1 := h.up j y _ hy e
  have h2 := h.lo j y hy
  exact ⟨by omega, h.hi _ _ e⟩
theorem any_not {α : Type} (l : List α) (p : α → Bool) : (!(l.any fun x => !p x)) = l.all p := by
  induction l with
  | nil => rfl
  | cons x t ih => simp only [List.any_cons, List.all_cons, ← ih]; cases p x <;> simp
set_option maxRecDepth 100000 in
theorem c_areBlocks (A : Option Addr) (c n : Nat) (l : List Seg) (A' : Option Addr) (c' n' : Nat) (fs : List Int) (w : World) (hn : n = l.length) (hs : n ≤ 1048576) (hr : Rd w A (segCells l)) (hn' : n' = fs.length) (hs' : n' ≤ 1048576) (hc' : n' ≤ c') (_hm' : c' ≤ 9223372036854775807) (hr' : Rd w A' (ints fs)) :
    Calls Try.prog 38 #[.agg #[.slice A n c], .slice A' n' c'] w fun e w' => e = .returned (.bool (blkB l fs)) ∧ Below w.heap.size w w' := by
  have HN := Lib.hid hn
  have HN' := Lib.hid hn'
  have HBK := Lib.hid (show blkB l fs = (inB (n' : Int) 2 8 && (fs.getD 0 0 == 0) && risB fs (n : Int) && (fs.drop 1).all (heldBefore l)) by rw [hn, hn']; rfl)
  clear hn hn'
  rcases hin : inB (n' : Int) 2 8 with _ | _
  · skip
    go_enter Try.func38, Try.ntmps38
    go_wp2_with (first
      | (go_at_call 49
         refine (c_length_int64 _ _ _ _ (by omega)).mono ?_
         rintro e w' ⟨rfl, rfl⟩)
      | (go_at_call 53
         refine (c_within _ _ _ _).mono ?_
         rintro e w' ⟨rfl, rfl⟩)
      )
    go_ret
    exact ⟨ret_bool (by rw [HBK.out, hin]; rfl), by (repeat (first | exact Below.refl _ _ | assumption | refine below_alloc ?_ _ | refine below_drewN ?_ _ | refine below_set ?_ _ (by simp; try omega) | refine Below.drew ?_))⟩
  have hin2 : 2 ≤ n' := by simp [inB] at hin; omega
  obtain ⟨z, hz⟩ : ∃ z, fs[0]? = some z := ⟨_, List.getElem?_eq_getElem (by have := HN'.out; omega)⟩
  have HZ := Lib.hid (show fs.getD 0 0 = z by simp [hz])
  obtain ⟨b, off, rfl, _, g0⟩ := hr'.int0 hz
  by_cases hz0 : ¬ z = 0
  · skip
    go_enter Try.func38, Try.ntmps38
    go_wp2_with (first
      | (go_at_call 49
         refine (c_length_int64 _ _ _ _ (by omega)).mono ?_
         rintro e w' ⟨rfl, rfl⟩)
      | (go_at_call 53
         refine (c_within _ _ _ _).mono ?_
         rintro e w' ⟨rfl, rfl⟩)
      )
    go_ret
    exact ⟨ret_bool (by rw [HBK.out, hin, HZ.out]; simp [hz0]), by (repeat (first | exact Below.refl _ _ | assumption | refine below_alloc ?_ _ | refine below_drewN ?_ _ | refine below_set ?_ _ (by simp; try omega) | refine Below.drew ?_))⟩
  obtain rfl : z = 0 := Decidable.not_not.1 hz0
  clear hz0
  rcases hris : risB fs (n : Int) with _ | _
  · skip
    go_enter Try.func38, Try.ntmps38
    go_wp2_with (first
      | (go_at_call 49
         refine (c_length_int64 _ _ _ _ (by omega)).mono ?_
         rintro e w' ⟨rfl, rfl⟩)
      | (go_at_call 61
         refine (c_length_seg _ _ _ _ (by omega)).mono ?_
         rintro e w' ⟨rfl, rfl⟩)
      | (go_at_call 53
         refine (c_within _ _ _ _).mono ?_
         rintro e w' ⟨rfl, rfl⟩)
      | (go_at_call 60
         refine (c_IsRising _ _ _ fs _ _ HN'.out (by omega) (hr'.alloc _)).mono ?_
         rintro e w1 ⟨rfl, hb⟩
         first | replace B := below_chain B hb | (have B : Below w.heap.size w w1 := below_chain (by (repeat (first | exact Below.refl _ _ | assumption | refine below_alloc ?_ _ | refine below_drewN ?_ _ | refine below_set ?_ _ (by simp; try omega) | refine Below.drew ?_))) hb)
         clear hb)
      )
    go_ret
    exact ⟨ret_bool (by rw [HBK.out, hris]; simp), by (repeat (first | exact Below.refl _ _ | assumption | refine below_alloc ?_ _ | refine below_drewN ?_ _ | refine below_set ?_ _ (by simp; try omega) | refine Below.drew ?_))⟩
  have HR := Lib.hid (risB_iff.1 hris)
  go_enter Try.func38, Try.ntmps38
  go_wp2_with (first
    | (go_at_call 49
       refine (c_length_int64 _ _ _ _ (by omega)).mono ?_
       rintro e w' ⟨rfl, rfl⟩)
    | (go_at_call 61
       refine (c_length_seg _ _ _ _ (by omega)).mono ?_
       rintro e w' ⟨rfl, rfl⟩)
    | (go_at_call 53
       refine (c_within _ _ _ _).mono ?_
       rintro e w' ⟨rfl, rfl⟩)
    | (go_at_call 60
       refine (c_IsRising _ _ _ fs _ _ HN'.out (by omega) (hr'.alloc _)).mono ?_
       rintro e w1 ⟨rfl, hb⟩
       first | replace k0 := cell_later hb k0 | (have k0 : w1.cell? ⟨w.heap.size, 0, none⟩ = some (.slice A n c) := cell_later hb (by go_simp))
       first | replace B := below_chain B hb | (have B : Below w.heap.size w w1 := below_chain (by (repeat (first | exact Below.refl _ _ | assumption | refine below_alloc ?_ _ | refine below_drewN ?_ _ | refine below_set ?_ _ (by simp; try omega) | refine Below.drew ?_))) hb)
       have hr2 := Lib.hid ((hr'.alloc _).below hb)
       have hr1 := Lib.hid ((hr.alloc _).below hb)
       clear hb)
    | (go_at_call 62
       refine (c_ContainsFunc 63 _ (fun f => !heldBefore l f) _ _ _ (fs.drop 1) _ (by rw [List.length_drop, HN'.out]) (by omega) (by rw [← ints_drop]; exact hr2.out.cut 1) (fun args w => by kernel_rfl) (fun z hz w1 hb1 => c_areBlocks1 _ _ _ _ l z w1 HN.out hs (hr1.out.below hb1) (cell_later hb1 k0) (ris_drop HR.out hz).1 (Int.le_of_lt (ris_drop HR.out hz).2))).mono ?_
       rintro e w1 ⟨rfl, hb⟩
       first | replace k0 := cell_later hb k0 | (have k0 : w1.cell? ⟨w.heap.size, 0, none⟩ = some (.slice A n c) := cell_later hb (by go_simp))
       first | replace B := below_chain B hb | (have B : Below w.heap.size w w1 := below_chain (by (repeat (first | exact Below.refl _ _ | assumption | refine below_alloc ?_ _ | refine below_drewN ?_ _ | refine below_set ?_ _ (by simp; try omega) | refine Below.drew ?_))) hb)
       clear hb)
    )
  go_ret
  exact ⟨ret_bool (by rw [HBK.out, hin, HZ.out, hris, ← any_not]; simp), B⟩

theorem blk_bad {l : List Seg} {fs : List Int} {k : Nat} {f : Int} (h0 : 1 ≤ k) (hf : fs[k]? = some f) (hh : heldBefore l f = false) : blkB l fs = false := by
  have : (fs.drop 1).all (heldBefore l) = false := by
    rw [← Bool.not_eq_true, List.all_eq_true]
    intro ha
    rw [ha f (List.mem_of_getElem? (i := k - 1) (by rw [List.getElem?_drop, show 1 + (k - 1) = k by omega]; exact hf))] at hh
    cases hh
  unfold blkB
  rw [this, Bool.and_false]
theorem all_drop {l : List Seg} {fs : List Int} (h : ∀ j f, 1 ≤ j → j < fs.length → fs[j]? = some f → heldBefore l f = true) : (fs.drop 1).all (heldBefore l) = true := by
  rw [List.all_eq_true]
  intro f hf
  obtain ⟨j, hj, rfl⟩ := List.getElem_of_mem hf
  have e : (fs.drop 1)[j]? = some (fs.drop 1)[j] := List.getElem?_eq_getElem hj
  rw [List.getElem?_drop] at e
  exact h (1 + j) _ (by omega) (by simp at hj; omega) e
set_option maxRecDepth 100000 in
theorem c_l04Blocks (A : Option Addr) (c n : Nat) (l : List Seg) (A' : Option Addr) (c' n' : Nat) (fs : List Int) (w : World) (hn : n = l.length) (hs : n ≤ 1048576) (hr : Rd w A (segCells l)) (hn' : n' = fs.length) (hs' : n' ≤ 1048576) (hr' : Rd w A' (ints fs)) :
    Calls Try.prog 42 #[.agg #[.slice A n c], .slice A' n' c'] w fun e w' => e = .returned (.bool (blkB l fs)) ∧ Below w.heap.size w w' := by
  have HN := Lib.hid hn
  have HN' := Lib.hid hn'
  have HBK := Lib.hid (show blkB l fs = (inB (n' : Int) 2 8 && (fs.getD 0 0 == 0) && risB fs (n : Int) && (fs.drop 1).all (heldBefore l)) by rw [hn, hn']; rfl)
  clear hn hn'
  rcases hin : inB (n' : Int) 2 8 with _ | _
  · skip
    go_enter Try.func42, Try.ntmps42
    go_wp2_with (first
      | (go_at_call 43
         refine (c_l01In _ _ _ _).mono ?_
         rintro e w' ⟨rfl, rfl⟩)
      )
    go_ret
    exact ⟨ret_bool (by rw [HBK.out, hin]; rfl), by (repeat (first | exact Below.refl _ _ | assumption | refine below_alloc ?_ _ | refine below_drewN ?_ _ | refine below_set ?_ _ (by simp; try omega) | refine Below.drew ?_))⟩
  have hin2 : 2 ≤ n' := by simp [inB] at hin; omega
  obtain ⟨z, hz⟩ : ∃ z, fs[0]? = some z := ⟨_, List.getElem?_eq_getElem (by have := HN'.out; omega)⟩
  have HZ := Lib.hid (show fs.getD 0 0 = z by simp [hz])
  obtain ⟨b, off, rfl, _, g0⟩ := hr'.int0 hz
  rcases hris : risB fs (n : Int) with _ | _
  · skip
    go_enter Try.func42, Try.ntmps42
    go_wp2_with (first
      | (go_at_call 43
         refine (c_l01In _ _ _ _).mono ?_
         rintro e w' ⟨rfl, rfl⟩)
      | (go_at_call 67
         refine (c_l01Rises _ _ _ fs _ _ HN'.out (by omega) (hr'.alloc _)).mono ?_
         rintro e w1 ⟨rfl, hb⟩
         first | replace B := below_chain B hb | (have B : Below w.heap.size w w1 := below_chain (by (repeat (first | exact Below.refl _ _ | assumption | refine below_alloc ?_ _ | refine below_drewN ?_ _ | refine below_set ?_ _ (by simp; try omega) | refine Below.drew ?_))) hb)
         clear hb)
      )
    go_ret
    exact ⟨ret_bool (by rw [HBK.out, hris]; simp), by (repeat (first | exact Below.refl _ _ | assumption | refine below_alloc ?_ _ | refine below_drewN ?_ _ | refine below_set ?_ _ (by simp; try omega) | refine Below.drew ?_))⟩
  have HR := Lib.hid (risB_iff.1 hris)
  by_cases hz0 : ¬ z = 0
  · skip
    go_enter Try.func42, Try.ntmps42
    go_wp2_with (first
      | (go_at_call 43
         refine (c_l01In _ _ _ _).mono ?_
         rintro e w' ⟨rfl, rfl⟩)
      | (go_at_call 67
         refine (c_l01Rises _ _ _ fs _ _ HN'.out (by omega) (hr'.alloc _)).mono ?_
         rintro e w1 ⟨rfl, hb⟩
         first | replace B := below_chain B hb | (have B : Below w.heap.size w w1 := below_chain (by (repeat (first | exact Below.refl _ _ | assumption | refine below_alloc ?_ _ | refine below_drewN ?_ _ | refine below_set ?_ _ (by simp; try omega) | refine Below.drew ?_))) hb)
         have g1 : w1.cell? ⟨b, off, none⟩ = _ := cell_later hb (World.cell?_alloc_lt _ _ _ (by assumption) |>.trans g0)
         clear hb)
      )
    go_ret
    exact ⟨ret_bool (by rw [HBK.out, hin, HZ.out]; simp [hz0]), by (repeat (first | exact Below.refl _ _ | assumption | refine below_alloc ?_ _ | refine below_drewN ?_ _ | refine below_set ?_ _ (by simp; try omega) | refine Below.drew ?_))⟩
  obtain rfl : z = 0 := Decidable.not_not.1 hz0
  clear hz0
  go_enter Try.func42, Try.ntmps42
  go_wp2_with (first
    | (go_at_call 43
       refine (c_l01In _ _ _ _).mono ?_
       rintro e w' ⟨rfl, rfl⟩)
    | (go_at_call 67
       refine (c_l01Rises _ _ _ fs _ _ HN'.out (by omega) (hr'.alloc _)).mono ?_
       rintro e w1 ⟨rfl, hb⟩
       first | replace k0 := cell_later hb k0 | (have k0 : w1.cell? ⟨w.heap.size, 0, none⟩ = some (.slice A n c) := cell_later hb (by go_simp))
       first | replace B := below_chain B hb | (have B : Below w.heap.size w w1 := below_chain (by (repeat (first | exact Below.refl _ _ | assumption | refine below_alloc ?_ _ | refine below_drewN ?_ _ | refine below_set ?_ _ (by simp; try omega) | refine Below.drew ?_))) hb)
       have g1 : w1.cell? ⟨b, off, none⟩ = _ := cell_later hb (World.cell?_alloc_lt _ _ _ (by assumption) |>.trans g0)
       have hr2 := Lib.hid ((hr'.alloc _).below hb)
       have hr1 := Lib.hid ((hr.alloc _).below hb)
       clear hb)
    )
  go_loopw [5] (fun i wr => ∃ k : Nat, 1 ≤ k ∧ k ≤ n' ∧ i = .int .i64 k ∧ Hid (∀ j f, 1 ≤ j → j < k → fs[j]? = some f → heldBefore l f = true) ∧ wr.cell? ⟨w.heap.size, 0, none⟩ = some (.slice A n c) ∧ Below w.heap.size w wr) (fun i _ => n' - (intOf i).toNat)
  case atStart => exact ⟨1, Nat.le_refl _, by omega, rfl, fun j f h h2 _ => absurd h2 (by omega), k0, B⟩
  case round =>
    obtain ⟨k, hk1, hk, rfl, ha, hbox, hb⟩ := hrel
    clear k0 B g1 g0 hris
    by_cases hlt : k < n'
    · obtain ⟨f, hf⟩ : ∃ z, fs[k]? = some z := ⟨_, List.getElem?_eq_getElem (by have := HN'.out; omega)⟩
      have hfm : f ∈ fs.drop 1 := List.mem_of_getElem? (i := k - 1) (by rw [List.getElem?_drop, show 1 + (k - 1) = k by omega]; exact hf)
      have hfd := ris_drop HR.out hfm
      have HF := Lib.hid hf
      obtain ⟨b1, off1, e', _, g0⟩ := (hr'.below hb).int hf
      simp only [Option.some.injEq, Addr.mk.injEq, and_true] at e'
      obtain ⟨rfl, rfl⟩ := e'
      clear hfm hf
      obtain ⟨q, rfl⟩ : ∃ q : Nat, f = (q : Int) + 1 := ⟨(f - 1).toNat, by omega⟩
      obtain ⟨s, hs0⟩ : ∃ z, l[q]? = some z := ⟨_, List.getElem?_eq_getElem (by have := HN.out; omega)⟩
      have HH := Lib.hid (show heldBefore l ((q : Int) + 1) = holdsB s.k by
        unfold heldBefore
        rw [show ((q : Int) + 1 - 1).toNat = q by omega, List.getD_eq_getElem?_getD, hs0]
        rfl)
      obtain ⟨b2, off2, rfl, _, g1, g2, g3, g4, g5, g6, g7⟩ := (hr.below hb).seg hs0
      have HB := Lib.hid hb
      clear hs0 hb
      have hq := hfd.2
      have hw : IntKind.i64.wrap (q : Int) = q := IntWalk.i64_in _ (by omega)
      have hqn : q < n := by omega
      go_wp2
      go_still_tail 9, (by kernel_rfl)
      change wpList _ _ _ _ _ wr.drew
      rcases hh : holdsB s.k with _ | _
      · go_wp2_with (first
          | (go_at_call 57
             refine (c_l03Holds _ _ _ _ _ _ _ _).mono ?_
             rintro e w2 ⟨rfl, hb2⟩
             have HB3 := Lib.hid (below_chain HB.out.drew hb2)
             clear hb2)
          )
        go_ret
        exact ⟨ret_bool (blk_bad hk1 HF.out (HH.out.trans hh)).symm, HB3.out⟩
      · have HHH := Lib.hid (HH.out.trans hh)
        go_wp2_with (first
          | (go_at_call 57
             refine (c_l03Holds _ _ _ _ _ _ _ _).mono ?_
             rintro e w2 ⟨rfl, hb2⟩
             have hx2 : w2.cell? ⟨w.heap.size, 0, none⟩ = _ := cell_later hb2 (W := wr.drew) hbox
             have HB3 := Lib.hid (below_chain HB.out.drew hb2)
             clear hb2)
          )
        go_roundw
        case rel =>
          refine ⟨k + 1, by omega, by omega, by go_num, fun j f h1 h2 h3 => ?_, hx2, HB3.out⟩
          rcases Nat.lt_or_ge j k with h | h
          · exact ha.out j f h1 h h3
          · obtain rfl : j = k := by omega
            have := HF.out.symm.trans h3
            simp only [Option.some.injEq] at this
            rw [← this]; exact HHH.out
        case measure => simp [intOf]; omega
    · have : k = n' := by omega
      subst this
      go_wp2
      go_ret
      exact ⟨ret_bool (by rw [HBK.out, hin, HZ.out, risB_iff.2 HR.out, all_drop (by rw [← HN'.out]; exact ha.out)]; rfl), hb⟩
end Go.Proofs.Ythkghpmfbdojeaa
