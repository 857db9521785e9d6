/- Times of steps and of codes, on the reference's side. Condition: the code is one. Printed by CTm.py. -/
import Derived.Test.YtackekfjalaacaaGreatDoorQHs
namespace Go.Proofs.YtackekfjalaacaaGreatDoor
open Go.RowKit

theorem fit_op {c : Cd} {x : Ins} (h : fitB c x = true) : 1 ≤ x.o ∧ x.o ≤ 11 := by
  have h1 := of_decide_eq_true h
  unfold manyI at h1
  by_cases h2 : x.o = 1
  · omega
  rw [if_neg h2] at h1
  by_cases h3 : x.o = 2 ∨ x.o = 10
  · omega
  rw [if_neg h3] at h1
  by_cases h4 : x.o = 3 ∨ x.o = 8 ∨ x.o = 11
  · omega
  rw [if_neg h4] at h1
  by_cases h5 : x.o = 4 ∨ x.o = 5 ∨ x.o = 6
  · omega
  rw [if_neg h5] at h1
  by_cases h6 : x.o = 7
  · omega
  rw [if_neg h6] at h1
  by_cases h7 : x.o = 9
  · omega
  rw [if_neg h7] at h1
  omega
theorem blk_k {t : Tm} (h : blkB t = true) : 7 ≤ t.k ∧ t.k ≤ 12 := by
  unfold blkB trmT inB at h
  simp only [Bool.and_eq_true] at h
  have h1 := of_decide_eq_true h.1.1
  have h2 := of_decide_eq_true h.2
  omega
set_option maxHeartbeats 2000000 in
set_option maxRecDepth 100000 in
theorem c_l19Time (c : Cd) (ab as_ : Option Addr) (cb cs : Nat) (x : Ins) (w : World) (hd : Hd c) (hbl : ∀ t ∈ c.bs, blkB t = true) (hf : fitB c x = true) (h : CdR w ab as_ c) :
    Calls Tryz.prog 72 #[cv c ab as_ cb cs, .agg #[.int .i64 x.o, .int .i64 x.a]] w fun e w' => e = .returned (.int .i64 (timI c x)) ∧ Below w.heap.size w w' := by
  have hop := fit_op hf
  obtain ⟨o, a⟩ := x
  obtain ⟨i0, i1, v0, v1, o0, o1, hb, hs⟩ := hd
  dsimp only at hop ⊢
  rcases (show o = 1 ∨ o = 2 ∨ o = 3 ∨ o = 4 ∨ o = 5 ∨ o = 6 ∨ o = 7 ∨ o = 8 ∨ o = 9 ∨ o = 10 ∨ o = 11 by omega) with rfl | rfl | rfl | rfl | rfl | rfl | rfl | rfl | rfl | rfl | rfl
  · skip
    dsimp only [cv]
    go_enter Tryz.func72, Tryz.ntmps72
    go_wp2_with (fail)
    go_ret
    exact ⟨rfl, by (repeat (first | exact Below.refl _ _ | assumption | refine below_alloc ?_ _ | refine below_drewN ?_ _ | refine below_set ?_ _ (by simp; try omega) | refine Below.drew ?_))⟩
  · skip
    dsimp only [cv]
    go_enter Tryz.func72, Tryz.ntmps72
    go_wp2_with (fail)
    go_ret
    exact ⟨rfl, by (repeat (first | exact Below.refl _ _ | assumption | refine below_alloc ?_ _ | refine below_drewN ?_ _ | refine below_set ?_ _ (by simp; try omega) | refine Below.drew ?_))⟩
  · skip
    dsimp only [cv]
    go_enter Tryz.func72, Tryz.ntmps72
    go_wp2_with (fail)
    go_ret
    exact ⟨rfl, by (repeat (first | exact Below.refl _ _ | assumption | refine below_alloc ?_ _ | refine below_drewN ?_ _ | refine below_set ?_ _ (by simp; try omega) | refine Below.drew ?_))⟩
  · skip
    dsimp only [cv]
    go_enter Tryz.func72, Tryz.ntmps72
    go_wp2_with (fail)
    go_ret
    exact ⟨rfl, by (repeat (first | exact Below.refl _ _ | assumption | refine below_alloc ?_ _ | refine below_drewN ?_ _ | refine below_set ?_ _ (by simp; try omega) | refine Below.drew ?_))⟩
  · skip
    dsimp only [cv]
    go_enter Tryz.func72, Tryz.ntmps72
    go_wp2_with (fail)
    go_ret
    exact ⟨rfl, by (repeat (first | exact Below.refl _ _ | assumption | refine below_alloc ?_ _ | refine below_drewN ?_ _ | refine below_set ?_ _ (by simp; try omega) | refine Below.drew ?_))⟩
  · skip
    dsimp only [cv]
    go_enter Tryz.func72, Tryz.ntmps72
    go_wp2_with (fail)
    go_ret
    exact ⟨rfl, by (repeat (first | exact Below.refl _ _ | assumption | refine below_alloc ?_ _ | refine below_drewN ?_ _ | refine below_set ?_ _ (by simp; try omega) | refine Below.drew ?_))⟩
  · skip
    obtain ⟨ha0, ha1⟩ := of_decide_eq_true hf
    have HM : manyI c 7 = c.bs.length := rfl
    rw [HM] at ha1
    obtain ⟨t, ht, hk⟩ := tm_at ha0 ha1
    obtain ⟨n, rfl⟩ : ∃ n : Nat, a = n := ⟨a.toNat, by dsimp only at ha0; omega⟩
    rw [Int.toNat_natCast] at ht
    have hkk := blk_k (hbl t (List.mem_of_getElem? ht))
    have HT : Hid (timI c ⟨7, (n : Int)⟩ = tabI t.k) := Lib.hid (by show tabI (kindA c n) = _; rw [hk])
    have hr := h.b.tm ht
    obtain ⟨b, off, rfl, hlt, g0, g1, g2⟩ := hr
    have hn0 : (0 : Int) ≤ (n : Int) := by omega
    have hlt2 : b < w.heap.size + 1 := by omega
    have hlt3 : b < w.heap.size + 1 + 1 := by omega
    have hne1 : b ≠ w.heap.size := by omega
    have hne2 : b ≠ w.heap.size + 1 := by omega
    have hne3 : b ≠ w.heap.size + 1 + 1 := by omega
    dsimp only at ha1
    clear HM ha0 ht hk hf h
    obtain ⟨kk, nm, nn⟩ := t
    dsimp only at g0 g1 g2 hkk HT
    rw [HT.out]
    dsimp only [cv]
    rcases (show kk = 7 ∨ kk = 8 ∨ kk = 9 ∨ kk = 10 ∨ kk = 11 ∨ kk = 12 by omega) with rfl | rfl | rfl | rfl | rfl | rfl
    · skip
      go_enter Tryz.func72, Tryz.ntmps72
      go_wp2_with (fail)
      go_ret
      exact ⟨rfl, by (repeat (first | exact Below.refl _ _ | assumption | refine below_alloc ?_ _ | refine below_drewN ?_ _ | refine below_set ?_ _ (by simp; try omega) | refine Below.drew ?_))⟩
    · skip
      go_enter Tryz.func72, Tryz.ntmps72
      go_wp2_with (fail)
      go_ret
      exact ⟨rfl, by (repeat (first | exact Below.refl _ _ | assumption | refine below_alloc ?_ _ | refine below_drewN ?_ _ | refine below_set ?_ _ (by simp; try omega) | refine Below.drew ?_))⟩
    · skip
      go_enter Tryz.func72, Tryz.ntmps72
      go_wp2_with (fail)
      go_ret
      exact ⟨rfl, by (repeat (first | exact Below.refl _ _ | assumption | refine below_alloc ?_ _ | refine below_drewN ?_ _ | refine below_set ?_ _ (by simp; try omega) | refine Below.drew ?_))⟩
    · skip
      go_enter Tryz.func72, Tryz.ntmps72
      go_wp2_with (fail)
      go_ret
      exact ⟨rfl, by (repeat (first | exact Below.refl _ _ | assumption | refine below_alloc ?_ _ | refine below_drewN ?_ _ | refine below_set ?_ _ (by simp; try omega) | refine Below.drew ?_))⟩
    · skip
      go_enter Tryz.func72, Tryz.ntmps72
      go_wp2_with (fail)
      go_ret
      exact ⟨rfl, by (repeat (first | exact Below.refl _ _ | assumption | refine below_alloc ?_ _ | refine below_drewN ?_ _ | refine below_set ?_ _ (by simp; try omega) | refine Below.drew ?_))⟩
    · skip
      go_enter Tryz.func72, Tryz.ntmps72
      go_wp2_with (fail)
      go_ret
      exact ⟨rfl, by (repeat (first | exact Below.refl _ _ | assumption | refine below_alloc ?_ _ | refine below_drewN ?_ _ | refine below_set ?_ _ (by simp; try omega) | refine Below.drew ?_))⟩
  · skip
    dsimp only [cv]
    go_enter Tryz.func72, Tryz.ntmps72
    go_wp2_with (fail)
    go_ret
    exact ⟨rfl, by (repeat (first | exact Below.refl _ _ | assumption | refine below_alloc ?_ _ | refine below_drewN ?_ _ | refine below_set ?_ _ (by simp; try omega) | refine Below.drew ?_))⟩
  · skip
    dsimp only [cv]
    go_enter Tryz.func72, Tryz.ntmps72
    go_wp2_with (fail)
    go_ret
    exact ⟨rfl, by (repeat (first | exact Below.refl _ _ | assumption | refine below_alloc ?_ _ | refine below_drewN ?_ _ | refine below_set ?_ _ (by simp; try omega) | refine Below.drew ?_))⟩
  · skip
    have hw : IntKind.i64.wrap (2 + c.o) = 2 + c.o := IntWalk.i64_in _ (by omega)
    dsimp only [cv]
    go_enter Tryz.func72, Tryz.ntmps72
    go_wp2_with (fail)
    go_ret
    exact ⟨rfl, by (repeat (first | exact Below.refl _ _ | assumption | refine below_alloc ?_ _ | refine below_drewN ?_ _ | refine below_set ?_ _ (by simp; try omega) | refine Below.drew ?_))⟩
  · skip
    have hw : IntKind.i64.wrap (2 + c.o) = 2 + c.o := IntWalk.i64_in _ (by omega)
    dsimp only [cv]
    go_enter Tryz.func72, Tryz.ntmps72
    go_wp2_with (fail)
    go_ret
    exact ⟨rfl, by (repeat (first | exact Below.refl _ _ | assumption | refine below_alloc ?_ _ | refine below_drewN ?_ _ | refine below_set ?_ _ (by simp; try omega) | refine Below.drew ?_))⟩
/-- The sum of the times of steps. -/
def sumT (c : Cd) : List Ins → Int
  | [] => 0
  | x :: t => timI c x + sumT c t
end Go.Proofs.YtackekfjalaacaaGreatDoor
