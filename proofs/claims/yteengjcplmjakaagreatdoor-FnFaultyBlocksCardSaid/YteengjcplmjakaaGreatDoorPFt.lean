/- Faults of programs: names twice, all names. Condition: the lengths. -/
import Derived.Test.YteengjcplmjakaaGreatDoorPWk
namespace Go.Proofs.YteengjcplmjakaaGreatDoor
open Go.RowKit

/-- Whether one of the first k strings of a list stood there before. -/
def twK (l : List ByteArray) (k : Nat) : Bool := (List.range k).any fun i => memS (l.take i) (l.getD i ⟨#[]⟩)
def twB (l : List ByteArray) : Bool := twK l l.length
theorem twK_succ {l : List ByteArray} {k : Nat} {s : ByteArray} (h : l[k]? = some s) : twK l (k + 1) = (twK l k || memS (l.take k) s) := by
  unfold twK
  rw [List.range_succ, List.any_append]
  simp [List.getD_eq_getElem?_getD, h]
theorem twK_more {l : List ByteArray} {k : Nat} (h : twK l k = true) (hk : k ≤ l.length) : twB l = true := by
  unfold twB
  unfold twK at h ⊢
  rw [List.any_eq_true] at h ⊢
  obtain ⟨i, hi, h⟩ := h
  exact ⟨i, by rw [List.mem_range] at hi ⊢; omega, h⟩
theorem Rd.take {w : World} {A : Option Addr} {l : List ByteArray} (h : Rd w A (sts l)) (k : Nat) : Rd w A (sts (l.take k)) := by
  rcases h with h | ⟨b, off, rfl, hlt, hc⟩
  · left
    have : l = [] := by simpa [sts] using h
    subst this
    simp [sts]
  · right
    refine ⟨b, off, rfl, hlt, fun j u hu => hc j u ?_⟩
    unfold sts at hu ⊢
    rw [List.map_take, List.getElem?_take] at hu
    split at hu
    · exact hu
    · cases hu
set_option maxHeartbeats 1000000 in
set_option maxRecDepth 100000 in
theorem c_l14Twice (A : Option Addr) (c n : Nat) (l : List ByteArray) (w : World) (hn : n = l.length) (hs : n ≤ 1048576) (hc : n ≤ c) (hc2 : c ≤ maxLen) (hr : Rd w A (sts l)) :
    Calls Tryz.prog 143 #[.slice A n c] w fun e w' => e = .returned (.bool (twB l)) ∧ Below w.heap.size w w' := by
  have HN := Lib.hid hn
  have HR := Lib.hid hr
  have HTM := Lib.hid (fun k (h : twK l k = true) hk => twK_more h hk)
  have HTA : Hid (∀ k, k = n → twB l = twK l k) := Lib.hid (fun k hk => by rw [hk, hn]; rfl)
  generalize twB l = R at *
  have hcm : (c : Int) ≤ 9223372036854775807 := by unfold maxLen at hc2; omega
  clear hn hr hc2
  go_enter Tryz.func143, Tryz.ntmps143
  go_wp2_with (fail)
  go_loopw [3] (fun i wr => ∃ k : Nat, k ≤ n ∧ i = .int .i64 k ∧ Hid (twK l k = false) ∧ Hid (Below w.heap.size w wr)) (fun i _ => n - (intOf i).toNat)
  case atStart => exact ⟨0, Nat.zero_le _, rfl, Lib.hid rfl, Lib.hid (by (repeat (first | exact Below.refl _ _ | assumption | refine below_alloc ?_ _ | refine below_drewN ?_ _ | refine below_set ?_ _ (by simp; try omega) | refine Below.drew ?_)))⟩
  case round =>
    obtain ⟨k, hk, rfl, ha, hb⟩ := hrel
    by_cases hlt : k < n
    · obtain ⟨t, hz⟩ : ∃ z, l[k]? = some z := ⟨_, List.getElem?_eq_getElem (by have := HN.out; omega)⟩
      have hrr := HR.out.below hb.out
      have HRT := Lib.hid (hrr.take k)
      obtain ⟨b, off, rfl, _, g0⟩ := hrr.st hz
      have hk0 : (0 : Int) ≤ (k : Int) := by omega
      have hk1 : (k : Int) < n := by omega
      have hk2 : (k : Int) ≤ c := by omega
      have HSU := Lib.hid (twK_succ hz)
      have hlt2 : (l.take k).length = k := by rw [List.length_take]; have := HN.out; omega
      have HIX := Lib.hid (fun w h => c_l14Index (some ⟨b, off, none⟩) c k (l.take k) t w hlt2.symm (by omega) h)
      have HNN := Lib.hid (ixS_nn t (l.take k))
      generalize memS (l.take k) t = q at *
      generalize ixS (l.take k) t = z at *
      clear hz hrr hlt2
      go_wp2_with (fail)
      refine wp_region_held_drew (S := (fun w' => w'.cell? ⟨b, off + k, none⟩ = some (.string t))) (by kernel_rfl) ?_ (fun hHeld => ?_)
      · exact g0
      refine rg_take (v := ?_) 0 rfl (by kernel_rfl) (by kernel_rfl) (by kernel_rfl) (fun _ _ _ h => h) (by kernel_rfl) ?_ (by assumption) ?_
      rotate_left
      · (intro w' hSw; (try dsimp only at hSw); go_simp; first | done | with_reducible rfl)
      simp only [Act.put, List.setIfInBounds_toArray, List.set_cons_zero, List.set_cons_succ]
      refine rg_take (v := ?_) 1 rfl (by kernel_rfl) (by kernel_rfl) (by kernel_rfl) (fun _ _ _ h => h) (by kernel_rfl) ?_ (by assumption) ?_
      rotate_left
      · (intro w' hSw; (try dsimp only at hSw); go_simp; first | done | with_reducible rfl)
      simp only [Act.put, List.setIfInBounds_toArray, List.set_cons_zero, List.set_cons_succ]
      refine rg_take (v := ?_) 2 rfl (by kernel_rfl) (by kernel_rfl) (by kernel_rfl) (fun _ _ _ h => h) (by kernel_rfl) ?_ (by assumption) ?_
      rotate_left
      · (intro w' hSw; (try dsimp only at hSw); go_simp; first | done | with_reducible rfl)
      simp only [Act.put, List.setIfInBounds_toArray, List.set_cons_zero, List.set_cons_succ]
      refine rg_take (v := ?_) 3 rfl (by kernel_rfl) (by kernel_rfl) (by kernel_rfl) (fun _ _ _ h => h) (by kernel_rfl) ?_ (by assumption) ?_
      rotate_left
      · (intro w' hSw; (try dsimp only at hSw); go_simp; first | done | with_reducible rfl)
      simp only [Act.put, List.setIfInBounds_toArray, List.set_cons_zero, List.set_cons_succ]
      refine rg_take (v := ?_) 4 rfl (by kernel_rfl) (by kernel_rfl) (by kernel_rfl) (fun _ _ _ h => h) (by kernel_rfl) ?_ (by assumption) ?_
      rotate_left
      · (intro w' hSw; (try dsimp only at hSw); go_simp; first | done | with_reducible rfl)
      simp only [Act.put, List.setIfInBounds_toArray, List.set_cons_zero, List.set_cons_succ]
      refine rg_take (v := ?_) 5 rfl (by kernel_rfl) (by kernel_rfl) (by kernel_rfl) (fun _ _ _ h => h) (by kernel_rfl) ?_ (by assumption) ?_
      rotate_left
      · (intro w' hSw; (try dsimp only at hSw); go_simp; first | done | with_reducible rfl)
      simp only [Act.put, List.setIfInBounds_toArray, List.set_cons_zero, List.set_cons_succ]
      refine rg_take (v := ?_) 6 rfl (by kernel_rfl) (by kernel_rfl) (by kernel_rfl) (fun _ _ _ h => h) (by kernel_rfl) ?_ (by assumption) ?_
      rotate_left
      · (intro w' hSw; (try dsimp only at hSw); go_simp; first | done | with_reducible rfl)
      simp only [Act.put, List.setIfInBounds_toArray, List.set_cons_zero, List.set_cons_succ]
      refine rg_run 7 rfl (by kernel_rfl) (by kernel_rfl) (fun K hK => ?_)
      go_simp
      refine (HIX.out _ (HRT.out.drew)).mono ?_
      rintro e w2 ⟨rfl, hb2⟩
      have hbs : Below wr.heap.size wr w2 := below_chain (Below.refl _ _).drew hb2
      replace g0 := cell_later hbs g0
      have HB2 := Lib.hid (below_chain hb.out hbs)
      clear hb2 hbs
      go_wp2
      clear hHeld
      refine hK.out _ _ g0 (fun hHeld => ?_)
      clear hK K
      try simp only [Act.put, List.setIfInBounds_toArray, List.set_cons_zero, List.set_cons_succ]
      refine rg_take (v := ?_) 8 rfl (by kernel_rfl) (by kernel_rfl) (by kernel_rfl) (fun _ _ _ h => h) (by kernel_rfl) ?_ (by assumption) ?_
      rotate_left
      · (intro w' hSw; (try dsimp only at hSw); go_simp; first | done | with_reducible rfl)
      simp only [Act.put, List.setIfInBounds_toArray, List.set_cons_zero, List.set_cons_succ]
      refine wpAnyH_done (by kernel_rfl) ?_ _
      clear hHeld
      cases q
      · have hz0 : ¬ (0 : Int) ≤ z := of_decide_eq_false HNN.out
        go_wp2_with (fail)
        go_roundw
        case rel => exact ⟨k + 1, by omega, by go_num, Lib.hid (by rw [HSU.out, ha.out]; rfl), HB2⟩
        case measure => simp [intOf]; omega
      · have hz0 : (0 : Int) ≤ z := of_decide_eq_true HNN.out
        obtain rfl : R = true := HTM.out (k + 1) (by rw [HSU.out]; simp) (by have := HN.out; omega)
        go_wp2_with (fail)
        go_ret
        exact ⟨rfl, HB2.out⟩
    · obtain rfl : k = n := by omega
      obtain rfl : R = false := by rw [HTA.out k rfl]; exact ha.out
      go_wp2_with (fail)
      go_ret
      exact ⟨rfl, hb.out⟩
set_option maxHeartbeats 1000000 in
set_option maxRecDepth 100000 in
theorem c_hasTwice (A : Option Addr) (c n : Nat) (l : List ByteArray) (w : World) (hn : n = l.length) (hs : n ≤ 1048576) (hc : n ≤ c) (hc2 : c ≤ maxLen) (hr : Rd w A (sts l)) :
    Calls Tryz.prog 134 #[.slice A n c] w fun e w' => e = .returned (.bool (twB l)) ∧ Below w.heap.size w w' := by
  have HN := Lib.hid hn
  have HR := Lib.hid hr
  have HTM := Lib.hid (fun k (h : twK l k = true) hk => twK_more h hk)
  have HTA : Hid (∀ k, k = n → twB l = twK l k) := Lib.hid (fun k hk => by rw [hk, hn]; rfl)
  generalize twB l = R at *
  have hcm : (c : Int) ≤ 9223372036854775807 := by unfold maxLen at hc2; omega
  clear hn hr hc2
  go_enter Tryz.func134, Tryz.ntmps134
  go_wp2_with (fail)
  go_loopw [3, 4, 7] (fun _ _ i wr => ∃ k : Nat, k ≤ n ∧ i = .int .i64 k ∧ Hid (twK l k = false) ∧ Hid (Below w.heap.size w wr)) (fun _ _ i _ => n - (intOf i).toNat)
  case atStart => exact ⟨0, Nat.zero_le _, rfl, Lib.hid rfl, Lib.hid (by (repeat (first | exact Below.refl _ _ | assumption | refine below_alloc ?_ _ | refine below_drewN ?_ _ | refine below_set ?_ _ (by simp; try omega) | refine Below.drew ?_)))⟩
  case round =>
    obtain ⟨k, hk, rfl, ha, hb⟩ := hrel
    by_cases hlt : k < n
    · obtain ⟨t, hz⟩ : ∃ z, l[k]? = some z := ⟨_, List.getElem?_eq_getElem (by have := HN.out; omega)⟩
      have hrr := HR.out.below hb.out
      have HRT := Lib.hid (hrr.take k)
      obtain ⟨b, off, rfl, _, g0⟩ := hrr.st hz
      have hk0 : (0 : Int) ≤ (k : Int) := by omega
      have hk1 : (k : Int) < n := by omega
      have hk2 : (k : Int) ≤ c := by omega
      have HSU := Lib.hid (twK_succ hz)
      have hlt2 : (l.take k).length = k := by rw [List.length_take]; have := HN.out; omega
      have HIX := Lib.hid (fun w h => c_ContainsS (some ⟨b, off, none⟩) c k (l.take k) t w hlt2.symm (by omega) h)
      generalize memS (l.take k) t = q at *
      clear hz hrr hlt2
      go_wp2_with (fail)
      refine (HIX.out _ HRT.out).mono ?_
      rintro e w2 ⟨rfl, hb2⟩
      have HB2 := Lib.hid (below_chain hb.out hb2)
      clear hb2 g0
      cases q
      · go_wp2_with (fail)
        go_roundw
        case rel => exact ⟨k + 1, by omega, by go_num, Lib.hid (by rw [HSU.out, ha.out]; rfl), HB2⟩
        case measure => simp [intOf]; omega
      · obtain rfl : R = true := HTM.out (k + 1) (by rw [HSU.out]; simp) (by have := HN.out; omega)
        go_wp2_with (fail)
        go_ret
        exact ⟨rfl, HB2.out⟩
    · obtain rfl : k = n := by omega
      obtain rfl : R = false := by rw [HTA.out k rfl]; exact ha.out
      go_wp2_with (fail)
      go_ret
      exact ⟨rfl, hb.out⟩
end Go.Proofs.YteengjcplmjakaaGreatDoor
