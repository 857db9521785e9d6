/- Steps on the program's side: arguments, effect, timeOf (turned from the reference's). Condition: as there. -/
import Derived.Test.YtackekfjalaacaaGreatDoorQSc
namespace Go.Proofs.YtackekfjalaacaaGreatDoor
open Go.RowKit

set_option maxHeartbeats 1000000 in
set_option maxRecDepth 100000 in
theorem c_effect (c : Cd) (ab as_ : Option Addr) (cb cs : Nat) (x : Ins) (w : World) (hf : fitB c x = true) (h : CdR w ab as_ c) :
    Calls Tryz.prog 123 #[cv c ab as_ cb cs, .agg #[.int .i64 x.o, .int .i64 x.a]] w (Ret2 (takI c x) (givI x) w) := by
  obtain ⟨o, a⟩ := x
  dsimp only
  by_cases h1 : o = 1
  · subst h1
    dsimp only [cv]
    go_enter Tryz.func123, Tryz.ntmps123
    go_wp2_with (fail)
    refine bodyPost_ret (v := .tuple #[.int .i64 0, .int .i64 1]) (by simp [results, Tryz.results123, go_sem]) rfl ⟨rfl, by (repeat (first | exact Below.refl _ _ | assumption | refine below_alloc ?_ _ | refine below_drewN ?_ _ | refine below_set ?_ _ (by simp; try omega) | refine Below.drew ?_))⟩
  by_cases h2 : o = 2
  · subst h2
    dsimp only [cv]
    go_enter Tryz.func123, Tryz.ntmps123
    go_wp2_with (fail)
    refine bodyPost_ret (v := .tuple #[.int .i64 0, .int .i64 1]) (by simp [results, Tryz.results123, go_sem]) rfl ⟨rfl, by (repeat (first | exact Below.refl _ _ | assumption | refine below_alloc ?_ _ | refine below_drewN ?_ _ | refine below_set ?_ _ (by simp; try omega) | refine Below.drew ?_))⟩
  by_cases h3 : o = 3
  · subst h3
    dsimp only [cv]
    go_enter Tryz.func123, Tryz.ntmps123
    go_wp2_with (fail)
    refine bodyPost_ret (v := .tuple #[.int .i64 0, .int .i64 1]) (by simp [results, Tryz.results123, go_sem]) rfl ⟨rfl, by (repeat (first | exact Below.refl _ _ | assumption | refine below_alloc ?_ _ | refine below_drewN ?_ _ | refine below_set ?_ _ (by simp; try omega) | refine Below.drew ?_))⟩
  by_cases h4 : o = 4
  · subst h4
    dsimp only [cv]
    go_enter Tryz.func123, Tryz.ntmps123
    go_wp2_with (fail)
    refine bodyPost_ret (v := .tuple #[.int .i64 1, .int .i64 1]) (by simp [results, Tryz.results123, go_sem]) rfl ⟨rfl, by (repeat (first | exact Below.refl _ _ | assumption | refine below_alloc ?_ _ | refine below_drewN ?_ _ | refine below_set ?_ _ (by simp; try omega) | refine Below.drew ?_))⟩
  by_cases h5 : o = 5
  · subst h5
    dsimp only [cv]
    go_enter Tryz.func123, Tryz.ntmps123
    go_wp2_with (fail)
    refine bodyPost_ret (v := .tuple #[.int .i64 2, .int .i64 1]) (by simp [results, Tryz.results123, go_sem]) rfl ⟨rfl, by (repeat (first | exact Below.refl _ _ | assumption | refine below_alloc ?_ _ | refine below_drewN ?_ _ | refine below_set ?_ _ (by simp; try omega) | refine Below.drew ?_))⟩
  by_cases h6 : o = 6
  · subst h6
    dsimp only [cv]
    go_enter Tryz.func123, Tryz.ntmps123
    go_wp2_with (fail)
    refine bodyPost_ret (v := .tuple #[.int .i64 2, .int .i64 1]) (by simp [results, Tryz.results123, go_sem]) rfl ⟨rfl, by (repeat (first | exact Below.refl _ _ | assumption | refine below_alloc ?_ _ | refine below_drewN ?_ _ | refine below_set ?_ _ (by simp; try omega) | refine Below.drew ?_))⟩
  by_cases h7 : o = 7
  · subst h7
    obtain ⟨ha0, ha1⟩ := of_decide_eq_true hf
    have HM : manyI c 7 = c.bs.length := rfl
    rw [HM] at ha1
    obtain ⟨t, ht, hk⟩ := tm_at ha0 ha1
    obtain ⟨n, rfl⟩ : ∃ n : Nat, a = n := ⟨a.toNat, by dsimp only at ha0; omega⟩
    rw [Int.toNat_natCast] at ht
    have HT : Hid (takI c ⟨7, (n : Int)⟩ = argI t.k ∧ givI ⟨7, (n : Int)⟩ = 1) := Lib.hid ⟨by show argI (kindA c n) = _; rw [hk], rfl⟩
    rw [HT.out.1, HT.out.2]
    have hr := ((h.b.alloc (.cells #[.int .i64 c.i, .int .i64 c.v, .int .i64 c.o, .slice ab c.bs.length cb, .slice as_ c.ss.length cs] 51)).alloc (.cells #[.int .i64 7, .int .i64 n] 107)).tm ht
    obtain ⟨b, off, rfl, _, g0, g1, g2⟩ := hr
    have hn0 : (0 : Int) ≤ (n : Int) := by omega
    dsimp only at ha1
    clear HM ha0 ht hk hf h
    dsimp only [cv]
    go_enter Tryz.func123, Tryz.ntmps123
    go_wp2_with (first
      | (go_at_call 141
         refine (c_arguments _ _).mono ?_
         rintro e w' ⟨rfl, rfl⟩)
      )
    refine bodyPost_ret (v := .tuple #[.int .i64 (argI t.k), .int .i64 1]) (by simp [results, Tryz.results123, go_sem]) rfl ⟨rfl, by (repeat (first | exact Below.refl _ _ | assumption | refine below_alloc ?_ _ | refine below_drewN ?_ _ | refine below_set ?_ _ (by simp; try omega) | refine Below.drew ?_))⟩
  by_cases h8 : o = 8
  · subst h8
    dsimp only [cv]
    go_enter Tryz.func123, Tryz.ntmps123
    go_wp2_with (fail)
    refine bodyPost_ret (v := .tuple #[.int .i64 1, .int .i64 0]) (by simp [results, Tryz.results123, go_sem]) rfl ⟨rfl, by (repeat (first | exact Below.refl _ _ | assumption | refine below_alloc ?_ _ | refine below_drewN ?_ _ | refine below_set ?_ _ (by simp; try omega) | refine Below.drew ?_))⟩
  by_cases h9 : o = 9
  · subst h9
    dsimp only [cv]
    go_enter Tryz.func123, Tryz.ntmps123
    go_wp2_with (fail)
    refine bodyPost_ret (v := .tuple #[.int .i64 1, .int .i64 0]) (by simp [results, Tryz.results123, go_sem]) rfl ⟨rfl, by (repeat (first | exact Below.refl _ _ | assumption | refine below_alloc ?_ _ | refine below_drewN ?_ _ | refine below_set ?_ _ (by simp; try omega) | refine Below.drew ?_))⟩
  have e1 : (o == 1) = false := by simpa using h1
  have e2 : (o == 2) = false := by simpa using h2
  have e3 : (o == 3) = false := by simpa using h3
  have e4 : (o == 4) = false := by simpa using h4
  have e5 : (o == 5) = false := by simpa using h5
  have e6 : (o == 6) = false := by simpa using h6
  have e7 : (o == 7) = false := by simpa using h7
  have e8 : (o == 8) = false := by simpa using h8
  have e9 : (o == 9) = false := by simpa using h9
  have HT : Hid (takI c ⟨o, a⟩ = 0 ∧ givI ⟨o, a⟩ = 0) := Lib.hid (by unfold takI givI; dsimp only; exact ⟨by rw [if_neg (by omega), if_neg (by omega), if_neg h7], by rw [if_neg (by omega)]⟩)
  rw [HT.out.1, HT.out.2]
  clear h1 h2 h3 h4 h5 h6 h7 h8 h9
  dsimp only [cv]
  go_enter Tryz.func123, Tryz.ntmps123
  go_wp2_with (fail)
  refine bodyPost_ret (v := .tuple #[.int .i64 0, .int .i64 0]) (by simp [results, Tryz.results123, go_sem]) rfl ⟨rfl, by (repeat (first | exact Below.refl _ _ | assumption | refine below_alloc ?_ _ | refine below_drewN ?_ _ | refine below_set ?_ _ (by simp; try omega) | refine Below.drew ?_))⟩
set_option maxHeartbeats 2000000 in
set_option maxRecDepth 100000 in
theorem c_timeOf (c : Cd) (ab as_ : Option Addr) (cb cs : Nat) (x : Ins) (w : World) (hd : Hd c) (hbl : ∀ t ∈ c.bs, blkB t = true) (hf : fitB c x = true) (h : CdR w ab as_ c) :
    Calls Tryz.prog 81 #[cv c ab as_ cb cs, .agg #[.int .i64 x.o, .int .i64 x.a]] w fun e w' => e = .returned (.int .i64 (timI c x)) ∧ Below w.heap.size w w' := by
  have hop := fit_op hf
  obtain ⟨o, a⟩ := x
  obtain ⟨i0, i1, v0, v1, o0, o1, hb, hs⟩ := hd
  dsimp only at hop ⊢
  rcases (show o = 1 ∨ o = 2 ∨ o = 3 ∨ o = 4 ∨ o = 5 ∨ o = 6 ∨ o = 7 ∨ o = 8 ∨ o = 9 ∨ o = 10 ∨ o = 11 by omega) with rfl | rfl | rfl | rfl | rfl | rfl | rfl | rfl | rfl | rfl | rfl
  · skip
    dsimp only [cv]
    go_enter Tryz.func81, Tryz.ntmps81
    go_wp2_with (fail)
    go_ret
    exact ⟨rfl, by (repeat (first | exact Below.refl _ _ | assumption | refine below_alloc ?_ _ | refine below_drewN ?_ _ | refine below_set ?_ _ (by simp; try omega) | refine Below.drew ?_))⟩
  · skip
    dsimp only [cv]
    go_enter Tryz.func81, Tryz.ntmps81
    go_wp2_with (fail)
    go_ret
    exact ⟨rfl, by (repeat (first | exact Below.refl _ _ | assumption | refine below_alloc ?_ _ | refine below_drewN ?_ _ | refine below_set ?_ _ (by simp; try omega) | refine Below.drew ?_))⟩
  · skip
    dsimp only [cv]
    go_enter Tryz.func81, Tryz.ntmps81
    go_wp2_with (fail)
    go_ret
    exact ⟨rfl, by (repeat (first | exact Below.refl _ _ | assumption | refine below_alloc ?_ _ | refine below_drewN ?_ _ | refine below_set ?_ _ (by simp; try omega) | refine Below.drew ?_))⟩
  · skip
    dsimp only [cv]
    go_enter Tryz.func81, Tryz.ntmps81
    go_wp2_with (fail)
    go_ret
    exact ⟨rfl, by (repeat (first | exact Below.refl _ _ | assumption | refine below_alloc ?_ _ | refine below_drewN ?_ _ | refine below_set ?_ _ (by simp; try omega) | refine Below.drew ?_))⟩
  · skip
    dsimp only [cv]
    go_enter Tryz.func81, Tryz.ntmps81
    go_wp2_with (fail)
    go_ret
    exact ⟨rfl, by (repeat (first | exact Below.refl _ _ | assumption | refine below_alloc ?_ _ | refine below_drewN ?_ _ | refine below_set ?_ _ (by simp; try omega) | refine Below.drew ?_))⟩
  · skip
    dsimp only [cv]
    go_enter Tryz.func81, Tryz.ntmps81
    go_wp2_with (fail)
    go_ret
    exact ⟨rfl, by (repeat (first | exact Below.refl _ _ | assumption | refine below_alloc ?_ _ | refine below_drewN ?_ _ | refine below_set ?_ _ (by simp; try omega) | refine Below.drew ?_))⟩
  · skip
    obtain ⟨ha0, ha1⟩ := of_decide_eq_true hf
    have HM : manyI c 7 = c.bs.length := rfl
    rw [HM] at ha1
    obtain ⟨t, ht, hk⟩ := tm_at ha0 ha1
    obtain ⟨n, rfl⟩ : ∃ n : Nat, a = n := ⟨a.toNat, by dsimp only at ha0; omega⟩
    rw [Int.toNat_natCast] at ht
    have hkk := blk_k (hbl t (List.mem_of_getElem? ht))
    have HT : Hid (timI c ⟨7, (n : Int)⟩ = tabI t.k) := Lib.hid (by show tabI (kindA c n) = _; rw [hk])
    have hr := h.b.tm ht
    obtain ⟨b, off, rfl, hlt, g0, g1, g2⟩ := hr
    have hn0 : (0 : Int) ≤ (n : Int) := by omega
    have hlt2 : b < w.heap.size + 1 := by omega
    have hlt3 : b < w.heap.size + 1 + 1 := by omega
    have hne1 : b ≠ w.heap.size := by omega
    have hne2 : b ≠ w.heap.size + 1 := by omega
    have hne3 : b ≠ w.heap.size + 1 + 1 := by omega
    dsimp only at ha1
    clear HM ha0 ht hk hf h
    obtain ⟨kk, nm, nn⟩ := t
    dsimp only at g0 g1 g2 hkk HT
    rw [HT.out]
    dsimp only [cv]
    rcases (show kk = 7 ∨ kk = 8 ∨ kk = 9 ∨ kk = 10 ∨ kk = 11 ∨ kk = 12 by omega) with rfl | rfl | rfl | rfl | rfl | rfl
    · skip
      go_enter Tryz.func81, Tryz.ntmps81
      go_wp2_with (fail)
      go_ret
      exact ⟨rfl, by (repeat (first | exact Below.refl _ _ | assumption | refine below_alloc ?_ _ | refine below_drewN ?_ _ | refine below_set ?_ _ (by simp; try omega) | refine Below.drew ?_))⟩
    · skip
      go_enter Tryz.func81, Tryz.ntmps81
      go_wp2_with (fail)
      go_ret
      exact ⟨rfl, by (repeat (first | exact Below.refl _ _ | assumption | refine below_alloc ?_ _ | refine below_drewN ?_ _ | refine below_set ?_ _ (by simp; try omega) | refine Below.drew ?_))⟩
    · skip
      go_enter Tryz.func81, Tryz.ntmps81
      go_wp2_with (fail)
      go_ret
      exact ⟨rfl, by (repeat (first | exact Below.refl _ _ | assumption | refine below_alloc ?_ _ | refine below_drewN ?_ _ | refine below_set ?_ _ (by simp; try omega) | refine Below.drew ?_))⟩
    · skip
      go_enter Tryz.func81, Tryz.ntmps81
      go_wp2_with (fail)
      go_ret
      exact ⟨rfl, by (repeat (first | exact Below.refl _ _ | assumption | refine below_alloc ?_ _ | refine below_drewN ?_ _ | refine below_set ?_ _ (by simp; try omega) | refine Below.drew ?_))⟩
    · skip
      go_enter Tryz.func81, Tryz.ntmps81
      go_wp2_with (fail)
      go_ret
      exact ⟨rfl, by (repeat (first | exact Below.refl _ _ | assumption | refine below_alloc ?_ _ | refine below_drewN ?_ _ | refine below_set ?_ _ (by simp; try omega) | refine Below.drew ?_))⟩
    · skip
      go_enter Tryz.func81, Tryz.ntmps81
      go_wp2_with (fail)
      go_ret
      exact ⟨rfl, by (repeat (first | exact Below.refl _ _ | assumption | refine below_alloc ?_ _ | refine below_drewN ?_ _ | refine below_set ?_ _ (by simp; try omega) | refine Below.drew ?_))⟩
  · skip
    dsimp only [cv]
    go_enter Tryz.func81, Tryz.ntmps81
    go_wp2_with (fail)
    go_ret
    exact ⟨rfl, by (repeat (first | exact Below.refl _ _ | assumption | refine below_alloc ?_ _ | refine below_drewN ?_ _ | refine below_set ?_ _ (by simp; try omega) | refine Below.drew ?_))⟩
  · skip
    dsimp only [cv]
    go_enter Tryz.func81, Tryz.ntmps81
    go_wp2_with (fail)
    go_ret
    exact ⟨rfl, by (repeat (first | exact Below.refl _ _ | assumption | refine below_alloc ?_ _ | refine below_drewN ?_ _ | refine below_set ?_ _ (by simp; try omega) | refine Below.drew ?_))⟩
  · skip
    have hw : IntKind.i64.wrap (2 + c.o) = 2 + c.o := IntWalk.i64_in _ (by omega)
    dsimp only [cv]
    go_enter Tryz.func81, Tryz.ntmps81
    go_wp2_with (fail)
    go_ret
    exact ⟨rfl, by (repeat (first | exact Below.refl _ _ | assumption | refine below_alloc ?_ _ | refine below_drewN ?_ _ | refine below_set ?_ _ (by simp; try omega) | refine Below.drew ?_))⟩
  · skip
    have hw : IntKind.i64.wrap (2 + c.o) = 2 + c.o := IntWalk.i64_in _ (by omega)
    dsimp only [cv]
    go_enter Tryz.func81, Tryz.ntmps81
    go_wp2_with (fail)
    go_ret
    exact ⟨rfl, by (repeat (first | exact Below.refl _ _ | assumption | refine below_alloc ?_ _ | refine below_drewN ?_ _ | refine below_set ?_ _ (by simp; try omega) | refine Below.drew ?_))⟩
end Go.Proofs.YtackekfjalaacaaGreatDoor
