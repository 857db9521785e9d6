/- Steps: fits, takes, gives, times, on the reference's side. Condition: the code's head is in range. (Turned from CHs by qtexts.py.) -/
import Derived.Test.YtjpecddhahedpaaGreatDoorPBm
namespace Go.Proofs.YtjpecddhahedpaaGreatDoor
open Go.RowKit

def blkB (t : Tm) : Bool := trmT t.k t.nm t.n && decide (7 ≤ t.k)
def tm0 : Tm := ⟨0, ⟨#[]⟩, 0⟩
def kindA (c : Cd) (a : Int) : Int := (c.bs.getD a.toNat tm0).k
def manyI (c : Cd) (o : Int) : Int := if o = 1 then 2 else if o = 2 ∨ o = 10 then c.i else if o = 3 ∨ o = 8 ∨ o = 11 then c.v else if o = 4 ∨ o = 5 ∨ o = 6 then 1 else if o = 7 then c.bs.length else if o = 9 then c.o else 0
def fitB (c : Cd) (x : Ins) : Bool := decide (0 ≤ x.a ∧ x.a < manyI c x.o)
def takI (c : Cd) (x : Ins) : Int := if x.o = 4 ∨ x.o = 8 ∨ x.o = 9 then 1 else if x.o = 5 ∨ x.o = 6 then 2 else if x.o = 7 then argI (kindA c x.a) else 0
def givI (x : Ins) : Int := if x.o = 1 ∨ x.o = 2 ∨ x.o = 3 ∨ x.o = 4 ∨ x.o = 5 ∨ x.o = 6 ∨ x.o = 7 then 1 else 0
def tabI (k : Int) : Int := if k = 7 then 6 else if k = 8 then 6 else if k = 9 then 4 else if k = 10 then 5 else if k = 11 then 8 else 9
def timI (c : Cd) (x : Ins) : Int := if x.o = 1 ∨ x.o = 4 then 1 else if x.o = 8 ∨ x.o = 9 then 3 else if x.o = 7 then tabI (kindA c x.a) else if x.o = 10 ∨ x.o = 11 then 2 + c.o else 2
/-- The code in its box. -/
def CB (w : World) (b : Nat) (c : Cd) (ab as_ : Option Addr) (cb cs : Nat) : Prop := w.cell? ⟨b, 0, none⟩ = some (.int .i64 c.i) ∧ w.cell? ⟨b, 1, none⟩ = some (.int .i64 c.v) ∧ w.cell? ⟨b, 2, none⟩ = some (.int .i64 c.o) ∧ w.cell? ⟨b, 3, none⟩ = some (.slice ab c.bs.length cb) ∧ w.cell? ⟨b, 4, none⟩ = some (.slice as_ c.ss.length cs)
theorem CB.below {w w' : World} {b : Nat} {c : Cd} {ab as_ : Option Addr} {cb cs : Nat} (h : CB w b c ab as_ cb cs) (hb : Below w.heap.size w w') : CB w' b c ab as_ cb cs :=
  ⟨cell_later hb h.1, cell_later hb h.2.1, cell_later hb h.2.2.1, cell_later hb h.2.2.2.1, cell_later hb h.2.2.2.2⟩
/-- The head of a code. -/
structure Hd (c : Cd) : Prop where
  i0 : 0 ≤ c.i
  i1 : c.i ≤ 20
  v0 : 0 ≤ c.v
  v1 : c.v ≤ 20
  o0 : 0 ≤ c.o
  o1 : c.o ≤ 20
  b : c.bs.length ≤ 2000
  s : c.ss.length ≤ 2000
theorem tm_at {c : Cd} {a : Int} (h0 : 0 ≤ a) (h1 : a < c.bs.length) : ∃ t, c.bs[a.toNat]? = some t ∧ kindA c a = t.k := by
  obtain ⟨t, ht⟩ : ∃ t, c.bs[a.toNat]? = some t := ⟨_, List.getElem?_eq_getElem (by omega)⟩
  refine ⟨t, ht, ?_⟩
  unfold kindA
  rw [List.getD_eq_getElem?_getD, ht]
  rfl

set_option maxHeartbeats 1000000 in
set_option maxRecDepth 100000 in
theorem c_l17Fits (c : Cd) (ab as_ : Option Addr) (cb cs : Nat) (x : Ins) (w : World) (hd : Hd c) :
    Calls Tryz.prog 146 #[cv c ab as_ cb cs, .agg #[.int .i64 x.o, .int .i64 x.a]] w fun e w' => e = .returned (.bool (fitB c x)) ∧ Below w.heap.size w w' := by
  obtain ⟨o, a⟩ := x
  obtain ⟨i0, i1, v0, v1, o0, o1, hb, hs⟩ := hd
  dsimp only
  by_cases h1 : o = 1
  · subst h1
    have HM : manyI c 1 = 2 := rfl
    have HE : Hid (inB a 0 (1) = fitB c ⟨1, a⟩) := Lib.hid (by rw [Bool.eq_iff_iff]; simp only [fitB, inB, HM, decide_eq_true_eq]; omega)
    clear HM
    rw [← HE.out]
    dsimp only [cv]
    go_enter Tryz.func146, Tryz.ntmps146
    go_wp2_with (first
      | (go_at_call 62
         refine (c_l01In _ _ _ _).mono ?_
         rintro e w' ⟨rfl, rfl⟩)
      )
    go_ret
    exact ⟨rfl, by (repeat (first | exact Below.refl _ _ | assumption | refine below_alloc ?_ _ | refine below_drewN ?_ _ | refine below_set ?_ _ (by simp; try omega) | refine Below.drew ?_))⟩
  by_cases h2 : o = 2
  · subst h2
    have HM : manyI c 2 = c.i := rfl
    have HE : Hid (inB a 0 (c.i - 1) = fitB c ⟨2, a⟩) := Lib.hid (by rw [Bool.eq_iff_iff]; simp only [fitB, inB, HM, decide_eq_true_eq]; omega)
    have hw : IntKind.i64.wrap (c.i - 1) = c.i - 1 := IntWalk.i64_in _ (by omega)
    clear HM
    rw [← HE.out]
    dsimp only [cv]
    go_enter Tryz.func146, Tryz.ntmps146
    go_wp2_with (first
      | (go_at_call 62
         refine (c_l01In _ _ _ _).mono ?_
         rintro e w' ⟨rfl, rfl⟩)
      )
    go_ret
    exact ⟨rfl, by (repeat (first | exact Below.refl _ _ | assumption | refine below_alloc ?_ _ | refine below_drewN ?_ _ | refine below_set ?_ _ (by simp; try omega) | refine Below.drew ?_))⟩
  by_cases h3 : o = 3
  · subst h3
    have HM : manyI c 3 = c.v := rfl
    have HE : Hid (inB a 0 (c.v - 1) = fitB c ⟨3, a⟩) := Lib.hid (by rw [Bool.eq_iff_iff]; simp only [fitB, inB, HM, decide_eq_true_eq]; omega)
    have hw : IntKind.i64.wrap (c.v - 1) = c.v - 1 := IntWalk.i64_in _ (by omega)
    clear HM
    rw [← HE.out]
    dsimp only [cv]
    go_enter Tryz.func146, Tryz.ntmps146
    go_wp2_with (first
      | (go_at_call 62
         refine (c_l01In _ _ _ _).mono ?_
         rintro e w' ⟨rfl, rfl⟩)
      )
    go_ret
    exact ⟨rfl, by (repeat (first | exact Below.refl _ _ | assumption | refine below_alloc ?_ _ | refine below_drewN ?_ _ | refine below_set ?_ _ (by simp; try omega) | refine Below.drew ?_))⟩
  by_cases h4 : o = 4
  · subst h4
    have HM : manyI c 4 = 1 := rfl
    have HE : Hid ((a == 0) = fitB c ⟨4, a⟩) := Lib.hid (by rw [Bool.eq_iff_iff]; simp only [fitB, HM, beq_iff_eq, decide_eq_true_eq]; omega)
    clear HM
    rw [← HE.out]
    go_enter Tryz.func146, Tryz.ntmps146
    go_wp2_with (fail)
    go_ret
    exact ⟨rfl, by (repeat (first | exact Below.refl _ _ | assumption | refine below_alloc ?_ _ | refine below_drewN ?_ _ | refine below_set ?_ _ (by simp; try omega) | refine Below.drew ?_))⟩
  by_cases h5 : o = 5
  · subst h5
    have HM : manyI c 5 = 1 := rfl
    have HE : Hid ((a == 0) = fitB c ⟨5, a⟩) := Lib.hid (by rw [Bool.eq_iff_iff]; simp only [fitB, HM, beq_iff_eq, decide_eq_true_eq]; omega)
    clear HM
    rw [← HE.out]
    go_enter Tryz.func146, Tryz.ntmps146
    go_wp2_with (fail)
    go_ret
    exact ⟨rfl, by (repeat (first | exact Below.refl _ _ | assumption | refine below_alloc ?_ _ | refine below_drewN ?_ _ | refine below_set ?_ _ (by simp; try omega) | refine Below.drew ?_))⟩
  by_cases h6 : o = 6
  · subst h6
    have HM : manyI c 6 = 1 := rfl
    have HE : Hid ((a == 0) = fitB c ⟨6, a⟩) := Lib.hid (by rw [Bool.eq_iff_iff]; simp only [fitB, HM, beq_iff_eq, decide_eq_true_eq]; omega)
    clear HM
    rw [← HE.out]
    go_enter Tryz.func146, Tryz.ntmps146
    go_wp2_with (fail)
    go_ret
    exact ⟨rfl, by (repeat (first | exact Below.refl _ _ | assumption | refine below_alloc ?_ _ | refine below_drewN ?_ _ | refine below_set ?_ _ (by simp; try omega) | refine Below.drew ?_))⟩
  by_cases h7 : o = 7
  · subst h7
    have HM : manyI c 7 = (c.bs.length : Int) := rfl
    have HE : Hid (inB a 0 ((c.bs.length : Int) - 1) = fitB c ⟨7, a⟩) := Lib.hid (by rw [Bool.eq_iff_iff]; simp only [fitB, inB, HM, decide_eq_true_eq]; omega)
    have hw : IntKind.i64.wrap ((c.bs.length : Int) - 1) = (c.bs.length : Int) - 1 := IntWalk.i64_in _ (by omega)
    clear HM
    rw [← HE.out]
    dsimp only [cv]
    go_enter Tryz.func146, Tryz.ntmps146
    go_wp2_with (first
      | (go_at_call 62
         refine (c_l01In _ _ _ _).mono ?_
         rintro e w' ⟨rfl, rfl⟩)
      )
    go_ret
    exact ⟨rfl, by (repeat (first | exact Below.refl _ _ | assumption | refine below_alloc ?_ _ | refine below_drewN ?_ _ | refine below_set ?_ _ (by simp; try omega) | refine Below.drew ?_))⟩
  by_cases h8 : o = 8
  · subst h8
    have HM : manyI c 8 = c.v := rfl
    have HE : Hid (inB a 0 (c.v - 1) = fitB c ⟨8, a⟩) := Lib.hid (by rw [Bool.eq_iff_iff]; simp only [fitB, inB, HM, decide_eq_true_eq]; omega)
    have hw : IntKind.i64.wrap (c.v - 1) = c.v - 1 := IntWalk.i64_in _ (by omega)
    clear HM
    rw [← HE.out]
    dsimp only [cv]
    go_enter Tryz.func146, Tryz.ntmps146
    go_wp2_with (first
      | (go_at_call 62
         refine (c_l01In _ _ _ _).mono ?_
         rintro e w' ⟨rfl, rfl⟩)
      )
    go_ret
    exact ⟨rfl, by (repeat (first | exact Below.refl _ _ | assumption | refine below_alloc ?_ _ | refine below_drewN ?_ _ | refine below_set ?_ _ (by simp; try omega) | refine Below.drew ?_))⟩
  by_cases h9 : o = 9
  · subst h9
    have HM : manyI c 9 = c.o := rfl
    have HE : Hid (inB a 0 (c.o - 1) = fitB c ⟨9, a⟩) := Lib.hid (by rw [Bool.eq_iff_iff]; simp only [fitB, inB, HM, decide_eq_true_eq]; omega)
    have hw : IntKind.i64.wrap (c.o - 1) = c.o - 1 := IntWalk.i64_in _ (by omega)
    clear HM
    rw [← HE.out]
    dsimp only [cv]
    go_enter Tryz.func146, Tryz.ntmps146
    go_wp2_with (first
      | (go_at_call 62
         refine (c_l01In _ _ _ _).mono ?_
         rintro e w' ⟨rfl, rfl⟩)
      )
    go_ret
    exact ⟨rfl, by (repeat (first | exact Below.refl _ _ | assumption | refine below_alloc ?_ _ | refine below_drewN ?_ _ | refine below_set ?_ _ (by simp; try omega) | refine Below.drew ?_))⟩
  by_cases h10 : o = 10
  · subst h10
    have HM : manyI c 10 = c.i := rfl
    have HE : Hid (inB a 0 (c.i - 1) = fitB c ⟨10, a⟩) := Lib.hid (by rw [Bool.eq_iff_iff]; simp only [fitB, inB, HM, decide_eq_true_eq]; omega)
    have hw : IntKind.i64.wrap (c.i - 1) = c.i - 1 := IntWalk.i64_in _ (by omega)
    clear HM
    rw [← HE.out]
    dsimp only [cv]
    go_enter Tryz.func146, Tryz.ntmps146
    go_wp2_with (first
      | (go_at_call 62
         refine (c_l01In _ _ _ _).mono ?_
         rintro e w' ⟨rfl, rfl⟩)
      )
    go_ret
    exact ⟨rfl, by (repeat (first | exact Below.refl _ _ | assumption | refine below_alloc ?_ _ | refine below_drewN ?_ _ | refine below_set ?_ _ (by simp; try omega) | refine Below.drew ?_))⟩
  by_cases h11 : o = 11
  · subst h11
    have HM : manyI c 11 = c.v := rfl
    have HE : Hid (inB a 0 (c.v - 1) = fitB c ⟨11, a⟩) := Lib.hid (by rw [Bool.eq_iff_iff]; simp only [fitB, inB, HM, decide_eq_true_eq]; omega)
    have hw : IntKind.i64.wrap (c.v - 1) = c.v - 1 := IntWalk.i64_in _ (by omega)
    clear HM
    rw [← HE.out]
    dsimp only [cv]
    go_enter Tryz.func146, Tryz.ntmps146
    go_wp2_with (first
      | (go_at_call 62
         refine (c_l01In _ _ _ _).mono ?_
         rintro e w' ⟨rfl, rfl⟩)
      )
    go_ret
    exact ⟨rfl, by (repeat (first | exact Below.refl _ _ | assumption | refine below_alloc ?_ _ | refine below_drewN ?_ _ | refine below_set ?_ _ (by simp; try omega) | refine Below.drew ?_))⟩
  have e1 : (o == 1) = false := by simpa using h1
  have e2 : (o == 2) = false := by simpa using h2
  have e3 : (o == 3) = false := by simpa using h3
  have e4 : (o == 4) = false := by simpa using h4
  have e5 : (o == 5) = false := by simpa using h5
  have e6 : (o == 6) = false := by simpa using h6
  have e7 : (o == 7) = false := by simpa using h7
  have e8 : (o == 8) = false := by simpa using h8
  have e9 : (o == 9) = false := by simpa using h9
  have e10 : (o == 10) = false := by simpa using h10
  have e11 : (o == 11) = false := by simpa using h11
  have HE : Hid (fitB c ⟨o, a⟩ = false) := Lib.hid (by
    have HM : manyI c o = 0 := by unfold manyI; rw [if_neg h1, if_neg (by omega), if_neg (by omega), if_neg (by omega), if_neg h7, if_neg h9]
    simp only [fitB, HM, decide_eq_false_iff_not]; omega)
  rw [HE.out]
  clear h1 h2 h3 h4 h5 h6 h7 h8 h9 h10 h11
  dsimp only [cv]
  go_enter Tryz.func146, Tryz.ntmps146
  go_wp2_with (fail)
  go_ret
  exact ⟨rfl, by (repeat (first | exact Below.refl _ _ | assumption | refine below_alloc ?_ _ | refine below_drewN ?_ _ | refine below_set ?_ _ (by simp; try omega) | refine Below.drew ?_))⟩
def Ret2 (x y : Int) (w : World) (e : Ending) (w' : World) : Prop := e = .returned (.tuple #[.int .i64 x, .int .i64 y]) ∧ Below w.heap.size w w'
set_option maxHeartbeats 1000000 in
set_option maxRecDepth 100000 in
theorem c_l17Takes (c : Cd) (ab as_ : Option Addr) (cb cs : Nat) (x : Ins) (w : World) (hf : fitB c x = true) (h : CdR w ab as_ c) :
    Calls Tryz.prog 147 #[cv c ab as_ cb cs, .agg #[.int .i64 x.o, .int .i64 x.a]] w (Ret2 (takI c x) (givI x) w) := by
  obtain ⟨o, a⟩ := x
  dsimp only
  by_cases h1 : o = 1
  · subst h1
    dsimp only [cv]
    go_enter Tryz.func147, Tryz.ntmps147
    go_wp2_with (fail)
    refine bodyPost_ret (v := .tuple #[.int .i64 0, .int .i64 1]) (by simp [results, Tryz.results147, go_sem]) rfl ⟨rfl, by (repeat (first | exact Below.refl _ _ | assumption | refine below_alloc ?_ _ | refine below_drewN ?_ _ | refine below_set ?_ _ (by simp; try omega) | refine Below.drew ?_))⟩
  by_cases h2 : o = 2
  · subst h2
    dsimp only [cv]
    go_enter Tryz.func147, Tryz.ntmps147
    go_wp2_with (fail)
    refine bodyPost_ret (v := .tuple #[.int .i64 0, .int .i64 1]) (by simp [results, Tryz.results147, go_sem]) rfl ⟨rfl, by (repeat (first | exact Below.refl _ _ | assumption | refine below_alloc ?_ _ | refine below_drewN ?_ _ | refine below_set ?_ _ (by simp; try omega) | refine Below.drew ?_))⟩
  by_cases h3 : o = 3
  · subst h3
    dsimp only [cv]
    go_enter Tryz.func147, Tryz.ntmps147
    go_wp2_with (fail)
    refine bodyPost_ret (v := .tuple #[.int .i64 0, .int .i64 1]) (by simp [results, Tryz.results147, go_sem]) rfl ⟨rfl, by (repeat (first | exact Below.refl _ _ | assumption | refine below_alloc ?_ _ | refine below_drewN ?_ _ | refine below_set ?_ _ (by simp; try omega) | refine Below.drew ?_))⟩
  by_cases h4 : o = 4
  · subst h4
    dsimp only [cv]
    go_enter Tryz.func147, Tryz.ntmps147
    go_wp2_with (fail)
    refine bodyPost_ret (v := .tuple #[.int .i64 1, .int .i64 1]) (by simp [results, Tryz.results147, go_sem]) rfl ⟨rfl, by (repeat (first | exact Below.refl _ _ | assumption | refine below_alloc ?_ _ | refine below_drewN ?_ _ | refine below_set ?_ _ (by simp; try omega) | refine Below.drew ?_))⟩
  by_cases h5 : o = 5
  · subst h5
    dsimp only [cv]
    go_enter Tryz.func147, Tryz.ntmps147
    go_wp2_with (fail)
    refine bodyPost_ret (v := .tuple #[.int .i64 2, .int .i64 1]) (by simp [results, Tryz.results147, go_sem]) rfl ⟨rfl, by (repeat (first | exact Below.refl _ _ | assumption | refine below_alloc ?_ _ | refine below_drewN ?_ _ | refine below_set ?_ _ (by simp; try omega) | refine Below.drew ?_))⟩
  by_cases h6 : o = 6
  · subst h6
    dsimp only [cv]
    go_enter Tryz.func147, Tryz.ntmps147
    go_wp2_with (fail)
    refine bodyPost_ret (v := .tuple #[.int .i64 2, .int .i64 1]) (by simp [results, Tryz.results147, go_sem]) rfl ⟨rfl, by (repeat (first | exact Below.refl _ _ | assumption | refine below_alloc ?_ _ | refine below_drewN ?_ _ | refine below_set ?_ _ (by simp; try omega) | refine Below.drew ?_))⟩
  by_cases h7 : o = 7
  · subst h7
    obtain ⟨ha0, ha1⟩ := of_decide_eq_true hf
    have HM : manyI c 7 = c.bs.length := rfl
    rw [HM] at ha1
    obtain ⟨t, ht, hk⟩ := tm_at ha0 ha1
    obtain ⟨n, rfl⟩ : ∃ n : Nat, a = n := ⟨a.toNat, by dsimp only at ha0; omega⟩
    rw [Int.toNat_natCast] at ht
    have HT : Hid (takI c ⟨7, (n : Int)⟩ = argI t.k ∧ givI ⟨7, (n : Int)⟩ = 1) := Lib.hid ⟨by show argI (kindA c n) = _; rw [hk], rfl⟩
    rw [HT.out.1, HT.out.2]
    have hr := ((h.b.alloc (.cells #[.int .i64 c.i, .int .i64 c.v, .int .i64 c.o, .slice ab c.bs.length cb, .slice as_ c.ss.length cs] 45)).alloc (.cells #[.int .i64 7, .int .i64 n] 79)).tm ht
    obtain ⟨b, off, rfl, _, g0, g1, g2⟩ := hr
    have hn0 : (0 : Int) ≤ (n : Int) := by omega
    dsimp only at ha1
    clear HM ha0 ht hk hf h
    dsimp only [cv]
    go_enter Tryz.func147, Tryz.ntmps147
    go_wp2_with (first
      | (go_at_call 173
         refine (c_l13Takes _ _).mono ?_
         rintro e w' ⟨rfl, rfl⟩)
      )
    refine bodyPost_ret (v := .tuple #[.int .i64 (argI t.k), .int .i64 1]) (by simp [results, Tryz.results147, go_sem]) rfl ⟨rfl, by (repeat (first | exact Below.refl _ _ | assumption | refine below_alloc ?_ _ | refine below_drewN ?_ _ | refine below_set ?_ _ (by simp; try omega) | refine Below.drew ?_))⟩
  by_cases h8 : o = 8
  · subst h8
    dsimp only [cv]
    go_enter Tryz.func147, Tryz.ntmps147
    go_wp2_with (fail)
    refine bodyPost_ret (v := .tuple #[.int .i64 1, .int .i64 0]) (by simp [results, Tryz.results147, go_sem]) rfl ⟨rfl, by (repeat (first | exact Below.refl _ _ | assumption | refine below_alloc ?_ _ | refine below_drewN ?_ _ | refine below_set ?_ _ (by simp; try omega) | refine Below.drew ?_))⟩
  by_cases h9 : o = 9
  · subst h9
    dsimp only [cv]
    go_enter Tryz.func147, Tryz.ntmps147
    go_wp2_with (fail)
    refine bodyPost_ret (v := .tuple #[.int .i64 1, .int .i64 0]) (by simp [results, Tryz.results147, go_sem]) rfl ⟨rfl, by (repeat (first | exact Below.refl _ _ | assumption | refine below_alloc ?_ _ | refine below_drewN ?_ _ | refine below_set ?_ _ (by simp; try omega) | refine Below.drew ?_))⟩
  have e1 : (o == 1) = false := by simpa using h1
  have e2 : (o == 2) = false := by simpa using h2
  have e3 : (o == 3) = false := by simpa using h3
  have e4 : (o == 4) = false := by simpa using h4
  have e5 : (o == 5) = false := by simpa using h5
  have e6 : (o == 6) = false := by simpa using h6
  have e7 : (o == 7) = false := by simpa using h7
  have e8 : (o == 8) = false := by simpa using h8
  have e9 : (o == 9) = false := by simpa using h9
  have HT : Hid (takI c ⟨o, a⟩ = 0 ∧ givI ⟨o, a⟩ = 0) := Lib.hid (by unfold takI givI; dsimp only; exact ⟨by rw [if_neg (by omega), if_neg (by omega), if_neg h7], by rw [if_neg (by omega)]⟩)
  rw [HT.out.1, HT.out.2]
  clear h1 h2 h3 h4 h5 h6 h7 h8 h9
  dsimp only [cv]
  go_enter Tryz.func147, Tryz.ntmps147
  go_wp2_with (fail)
  refine bodyPost_ret (v := .tuple #[.int .i64 0, .int .i64 0]) (by simp [results, Tryz.results147, go_sem]) rfl ⟨rfl, by (repeat (first | exact Below.refl _ _ | assumption | refine below_alloc ?_ _ | refine below_drewN ?_ _ | refine below_set ?_ _ (by simp; try omega) | refine Below.drew ?_))⟩
end Go.Proofs.YtjpecddhahedpaaGreatDoor
