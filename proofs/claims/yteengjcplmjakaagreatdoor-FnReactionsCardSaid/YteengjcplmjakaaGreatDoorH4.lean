/- Contracts and helpers (joined texts, part 4). The conditions stand at each theorem. -/
import Derived.Test.YteengjcplmjakaaGreatDoorH3
import Derived.Test.YteengjcplmjakaaGreatDoorH0
import Derived.Test.YteengjcplmjakaaGreatDoorRgE
/- Steps: fits, takes, gives, times, on the reference's side. Condition: the code's head is in range. (Turned from CHs by qtexts.py.) -/
namespace Go.Proofs.YteengjcplmjakaaGreatDoor
open Go.RowKit

def blkB (t : Tm) : Bool := trmT t.k t.nm t.n && decide (7 ≤ t.k)
def tm0 : Tm := ⟨0, ⟨#[]⟩, 0⟩
def kindA (c : Cd) (a : Int) : Int := (c.bs.getD a.toNat tm0).k
def manyI (c : Cd) (o : Int) : Int := if o = 1 then 2 else if o = 2 ∨ o = 10 then c.i else if o = 3 ∨ o = 8 ∨ o = 11 then c.v else if o = 4 ∨ o = 5 ∨ o = 6 then 1 else if o = 7 then c.bs.length else if o = 9 then c.o else 0
def fitB (c : Cd) (x : Ins) : Bool := decide (0 ≤ x.a ∧ x.a < manyI c x.o)
def takI (c : Cd) (x : Ins) : Int := if x.o = 4 ∨ x.o = 8 ∨ x.o = 9 then 1 else if x.o = 5 ∨ x.o = 6 then 2 else if x.o = 7 then argI (kindA c x.a) else 0
def givI (x : Ins) : Int := if x.o = 1 ∨ x.o = 2 ∨ x.o = 3 ∨ x.o = 4 ∨ x.o = 5 ∨ x.o = 6 ∨ x.o = 7 then 1 else 0
def tabI (k : Int) : Int := if k = 7 then 6 else if k = 8 then 6 else if k = 9 then 4 else if k = 10 then 5 else if k = 11 then 8 else 9
def timI (c : Cd) (x : Ins) : Int := if x.o = 1 ∨ x.o = 4 then 1 else if x.o = 8 ∨ x.o = 9 then 3 else if x.o = 7 then tabI (kindA c x.a) else if x.o = 10 ∨ x.o = 11 then 2 + c.o else 2
/-- The code in its box. -/
def CB (w : World) (b : Nat) (c : Cd) (ab as_ : Option Addr) (cb cs : Nat) : Prop := w.cell? ⟨b, 0, none⟩ = some (.int .i64 c.i) ∧ w.cell? ⟨b, 1, none⟩ = some (.int .i64 c.v) ∧ w.cell? ⟨b, 2, none⟩ = some (.int .i64 c.o) ∧ w.cell? ⟨b, 3, none⟩ = some (.slice ab c.bs.length cb) ∧ w.cell? ⟨b, 4, none⟩ = some (.slice as_ c.ss.length cs)
theorem CB.below {w w' : World} {b : Nat} {c : Cd} {ab as_ : Option Addr} {cb cs : Nat} (h : CB w b c ab as_ cb cs) (hb : Below w.heap.size w w') : CB w' b c ab as_ cb cs :=
  ⟨cell_later hb h.1, cell_later hb h.2.1, cell_later hb h.2.2.1, cell_later hb h.2.2.2.1, cell_later hb h.2.2.2.2⟩
/-- The head of a code. -/
structure Hd (c : Cd) : Prop where
  i0 : 0 ≤ c.i
  i1 : c.i ≤ 20
  v0 : 0 ≤ c.v
  v1 : c.v ≤ 20
  o0 : 0 ≤ c.o
  o1 : c.o ≤ 20
  b : c.bs.length ≤ 2000
  s : c.ss.length ≤ 2000
theorem tm_at {c : Cd} {a : Int} (h0 : 0 ≤ a) (h1 : a < c.bs.length) : ∃ t, c.bs[a.toNat]? = some t ∧ kindA c a = t.k := by
  obtain ⟨t, ht⟩ : ∃ t, c.bs[a.toNat]? = some t := ⟨_, List.getElem?_eq_getElem (by omega)⟩
  refine ⟨t, ht, ?_⟩
  unfold kindA
  rw [List.getD_eq_getElem?_getD, ht]
  rfl

set_option maxHeartbeats 1000000 in
set_option maxRecDepth 100000 in
theorem c_l17Fits (c : Cd) (ab as_ : Option Addr) (cb cs : Nat) (x : Ins) (w : World) (hd : Hd c) :
    Calls Tryz.prog 151 #[cv c ab as_ cb cs, .agg #[.int .i64 x.o, .int .i64 x.a]] w fun e w' => e = .returned (.bool (fitB c x)) ∧ Below w.heap.size w w' := by
  obtain ⟨o, a⟩ := x
  obtain ⟨i0, i1, v0, v1, o0, o1, hb, hs⟩ := hd
  dsimp only
  by_cases h1 : o = 1
  · subst h1
    have HM : manyI c 1 = 2 := rfl
    have HE : Hid (inB a 0 (1) = fitB c ⟨1, a⟩) := Lib.hid (by rw [Bool.eq_iff_iff]; simp only [fitB, inB, HM, decide_eq_true_eq]; omega)
    clear HM
    rw [← HE.out]
    dsimp only [cv]
    go_enter Tryz.func151, Tryz.ntmps151
    go_wp2_with (first
      | (go_at_call 55
         refine (c_l01In _ _ _ _).mono ?_
         rintro e w' ⟨rfl, rfl⟩)
      )
    go_ret
    exact ⟨rfl, by (repeat (first | exact Below.refl _ _ | assumption | refine below_alloc ?_ _ | refine below_drewN ?_ _ | refine below_set ?_ _ (by simp; try omega) | refine Below.drew ?_))⟩
  by_cases h2 : o = 2
  · subst h2
    have HM : manyI c 2 = c.i := rfl
    have HE : Hid (inB a 0 (c.i - 1) = fitB c ⟨2, a⟩) := Lib.hid (by rw [Bool.eq_iff_iff]; simp only [fitB, inB, HM, decide_eq_true_eq]; omega)
    have hw : IntKind.i64.wrap (c.i - 1) = c.i - 1 := IntWalk.i64_in _ (by omega)
    clear HM
    rw [← HE.out]
    dsimp only [cv]
    go_enter Tryz.func151, Tryz.ntmps151
    go_wp2_with (first
      | (go_at_call 55
         refine (c_l01In _ _ _ _).mono ?_
         rintro e w' ⟨rfl, rfl⟩)
      )
    go_ret
    exact ⟨rfl, by (repeat (first | exact Below.refl _ _ | assumption | refine below_alloc ?_ _ | refine below_drewN ?_ _ | refine below_set ?_ _ (by simp; try omega) | refine Below.drew ?_))⟩
  by_cases h3 : o = 3
  · subst h3
    have HM : manyI c 3 = c.v := rfl
    have HE : Hid (inB a 0 (c.v - 1) = fitB c ⟨3, a⟩) := Lib.hid (by rw [Bool.eq_iff_iff]; simp only [fitB, inB, HM, decide_eq_true_eq]; omega)
    have hw : IntKind.i64.wrap (c.v - 1) = c.v - 1 := IntWalk.i64_in _ (by omega)
    clear HM
    rw [← HE.out]
    dsimp only [cv]
    go_enter Tryz.func151, Tryz.ntmps151
    go_wp2_with (first
      | (go_at_call 55
         refine (c_l01In _ _ _ _).mono ?_
         rintro e w' ⟨rfl, rfl⟩)
      )
    go_ret
    exact ⟨rfl, by (repeat (first | exact Below.refl _ _ | assumption | refine below_alloc ?_ _ | refine below_drewN ?_ _ | refine below_set ?_ _ (by simp; try omega) | refine Below.drew ?_))⟩
  by_cases h4 : o = 4
  · subst h4
    have HM : manyI c 4 = 1 := rfl
    have HE : Hid ((a == 0) = fitB c ⟨4, a⟩) := Lib.hid (by rw [Bool.eq_iff_iff]; simp only [fitB, HM, beq_iff_eq, decide_eq_true_eq]; omega)
    clear HM
    rw [← HE.out]
    go_enter Tryz.func151, Tryz.ntmps151
    go_wp2_with (fail)
    go_ret
    exact ⟨rfl, by (repeat (first | exact Below.refl _ _ | assumption | refine below_alloc ?_ _ | refine below_drewN ?_ _ | refine below_set ?_ _ (by simp; try omega) | refine Below.drew ?_))⟩
  by_cases h5 : o = 5
  · subst h5
    have HM : manyI c 5 = 1 := rfl
    have HE : Hid ((a == 0) = fitB c ⟨5, a⟩) := Lib.hid (by rw [Bool.eq_iff_iff]; simp only [fitB, HM, beq_iff_eq, decide_eq_true_eq]; omega)
    clear HM
    rw [← HE.out]
    go_enter Tryz.func151, Tryz.ntmps151
    go_wp2_with (fail)
    go_ret
    exact ⟨rfl, by (repeat (first | exact Below.refl _ _ | assumption | refine below_alloc ?_ _ | refine below_drewN ?_ _ | refine below_set ?_ _ (by simp; try omega) | refine Below.drew ?_))⟩
  by_cases h6 : o = 6
  · subst h6
    have HM : manyI c 6 = 1 := rfl
    have HE : Hid ((a == 0) = fitB c ⟨6, a⟩) := Lib.hid (by rw [Bool.eq_iff_iff]; simp only [fitB, HM, beq_iff_eq, decide_eq_true_eq]; omega)
    clear HM
    rw [← HE.out]
    go_enter Tryz.func151, Tryz.ntmps151
    go_wp2_with (fail)
    go_ret
    exact ⟨rfl, by (repeat (first | exact Below.refl _ _ | assumption | refine below_alloc ?_ _ | refine below_drewN ?_ _ | refine below_set ?_ _ (by simp; try omega) | refine Below.drew ?_))⟩
  by_cases h7 : o = 7
  · subst h7
    have HM : manyI c 7 = (c.bs.length : Int) := rfl
    have HE : Hid (inB a 0 ((c.bs.length : Int) - 1) = fitB c ⟨7, a⟩) := Lib.hid (by rw [Bool.eq_iff_iff]; simp only [fitB, inB, HM, decide_eq_true_eq]; omega)
    have hw : IntKind.i64.wrap ((c.bs.length : Int) - 1) = (c.bs.length : Int) - 1 := IntWalk.i64_in _ (by omega)
    clear HM
    rw [← HE.out]
    dsimp only [cv]
    go_enter Tryz.func151, Tryz.ntmps151
    go_wp2_with (first
      | (go_at_call 55
         refine (c_l01In _ _ _ _).mono ?_
         rintro e w' ⟨rfl, rfl⟩)
      )
    go_ret
    exact ⟨rfl, by (repeat (first | exact Below.refl _ _ | assumption | refine below_alloc ?_ _ | refine below_drewN ?_ _ | refine below_set ?_ _ (by simp; try omega) | refine Below.drew ?_))⟩
  by_cases h8 : o = 8
  · subst h8
    have HM : manyI c 8 = c.v := rfl
    have HE : Hid (inB a 0 (c.v - 1) = fitB c ⟨8, a⟩) := Lib.hid (by rw [Bool.eq_iff_iff]; simp only [fitB, inB, HM, decide_eq_true_eq]; omega)
    have hw : IntKind.i64.wrap (c.v - 1) = c.v - 1 := IntWalk.i64_in _ (by omega)
    clear HM
    rw [← HE.out]
    dsimp only [cv]
    go_enter Tryz.func151, Tryz.ntmps151
    go_wp2_with (first
      | (go_at_call 55
         refine (c_l01In _ _ _ _).mono ?_
         rintro e w' ⟨rfl, rfl⟩)
      )
    go_ret
    exact ⟨rfl, by (repeat (first | exact Below.refl _ _ | assumption | refine below_alloc ?_ _ | refine below_drewN ?_ _ | refine below_set ?_ _ (by simp; try omega) | refine Below.drew ?_))⟩
  by_cases h9 : o = 9
  · subst h9
    have HM : manyI c 9 = c.o := rfl
    have HE : Hid (inB a 0 (c.o - 1) = fitB c ⟨9, a⟩) := Lib.hid (by rw [Bool.eq_iff_iff]; simp only [fitB, inB, HM, decide_eq_true_eq]; omega)
    have hw : IntKind.i64.wrap (c.o - 1) = c.o - 1 := IntWalk.i64_in _ (by omega)
    clear HM
    rw [← HE.out]
    dsimp only [cv]
    go_enter Tryz.func151, Tryz.ntmps151
    go_wp2_with (first
      | (go_at_call 55
         refine (c_l01In _ _ _ _).mono ?_
         rintro e w' ⟨rfl, rfl⟩)
      )
    go_ret
    exact ⟨rfl, by (repeat (first | exact Below.refl _ _ | assumption | refine below_alloc ?_ _ | refine below_drewN ?_ _ | refine below_set ?_ _ (by simp; try omega) | refine Below.drew ?_))⟩
  by_cases h10 : o = 10
  · subst h10
    have HM : manyI c 10 = c.i := rfl
    have HE : Hid (inB a 0 (c.i - 1) = fitB c ⟨10, a⟩) := Lib.hid (by rw [Bool.eq_iff_iff]; simp only [fitB, inB, HM, decide_eq_true_eq]; omega)
    have hw : IntKind.i64.wrap (c.i - 1) = c.i - 1 := IntWalk.i64_in _ (by omega)
    clear HM
    rw [← HE.out]
    dsimp only [cv]
    go_enter Tryz.func151, Tryz.ntmps151
    go_wp2_with (first
      | (go_at_call 55
         refine (c_l01In _ _ _ _).mono ?_
         rintro e w' ⟨rfl, rfl⟩)
      )
    go_ret
    exact ⟨rfl, by (repeat (first | exact Below.refl _ _ | assumption | refine below_alloc ?_ _ | refine below_drewN ?_ _ | refine below_set ?_ _ (by simp; try omega) | refine Below.drew ?_))⟩
  by_cases h11 : o = 11
  · subst h11
    have HM : manyI c 11 = c.v := rfl
    have HE : Hid (inB a 0 (c.v - 1) = fitB c ⟨11, a⟩) := Lib.hid (by rw [Bool.eq_iff_iff]; simp only [fitB, inB, HM, decide_eq_true_eq]; omega)
    have hw : IntKind.i64.wrap (c.v - 1) = c.v - 1 := IntWalk.i64_in _ (by omega)
    clear HM
    rw [← HE.out]
    dsimp only [cv]
    go_enter Tryz.func151, Tryz.ntmps151
    go_wp2_with (first
      | (go_at_call 55
         refine (c_l01In _ _ _ _).mono ?_
         rintro e w' ⟨rfl, rfl⟩)
      )
    go_ret
    exact ⟨rfl, by (repeat (first | exact Below.refl _ _ | assumption | refine below_alloc ?_ _ | refine below_drewN ?_ _ | refine below_set ?_ _ (by simp; try omega) | refine Below.drew ?_))⟩
  have e1 : (o == 1) = false := by simpa using h1
  have e2 : (o == 2) = false := by simpa using h2
  have e3 : (o == 3) = false := by simpa using h3
  have e4 : (o == 4) = false := by simpa using h4
  have e5 : (o == 5) = false := by simpa using h5
  have e6 : (o == 6) = false := by simpa using h6
  have e7 : (o == 7) = false := by simpa using h7
  have e8 : (o == 8) = false := by simpa using h8
  have e9 : (o == 9) = false := by simpa using h9
  have e10 : (o == 10) = false := by simpa using h10
  have e11 : (o == 11) = false := by simpa using h11
  have HE : Hid (fitB c ⟨o, a⟩ = false) := Lib.hid (by
    have HM : manyI c o = 0 := by unfold manyI; rw [if_neg h1, if_neg (by omega), if_neg (by omega), if_neg (by omega), if_neg h7, if_neg h9]
    simp only [fitB, HM, decide_eq_false_iff_not]; omega)
  rw [HE.out]
  clear h1 h2 h3 h4 h5 h6 h7 h8 h9 h10 h11
  dsimp only [cv]
  go_enter Tryz.func151, Tryz.ntmps151
  go_wp2_with (fail)
  go_ret
  exact ⟨rfl, by (repeat (first | exact Below.refl _ _ | assumption | refine below_alloc ?_ _ | refine below_drewN ?_ _ | refine below_set ?_ _ (by simp; try omega) | refine Below.drew ?_))⟩
def Ret2 (x y : Int) (w : World) (e : Ending) (w' : World) : Prop := e = .returned (.tuple #[.int .i64 x, .int .i64 y]) ∧ Below w.heap.size w w'
set_option maxHeartbeats 1000000 in
set_option maxRecDepth 100000 in
theorem c_l17Takes (c : Cd) (ab as_ : Option Addr) (cb cs : Nat) (x : Ins) (w : World) (hf : fitB c x = true) (h : CdR w ab as_ c) :
    Calls Tryz.prog 152 #[cv c ab as_ cb cs, .agg #[.int .i64 x.o, .int .i64 x.a]] w (Ret2 (takI c x) (givI x) w) := by
  obtain ⟨o, a⟩ := x
  dsimp only
  by_cases h1 : o = 1
  · subst h1
    dsimp only [cv]
    go_enter Tryz.func152, Tryz.ntmps152
    go_wp2_with (fail)
    refine bodyPost_ret (v := .tuple #[.int .i64 0, .int .i64 1]) (by simp [results, Tryz.results152, go_sem]) rfl ⟨rfl, by (repeat (first | exact Below.refl _ _ | assumption | refine below_alloc ?_ _ | refine below_drewN ?_ _ | refine below_set ?_ _ (by simp; try omega) | refine Below.drew ?_))⟩
  by_cases h2 : o = 2
  · subst h2
    dsimp only [cv]
    go_enter Tryz.func152, Tryz.ntmps152
    go_wp2_with (fail)
    refine bodyPost_ret (v := .tuple #[.int .i64 0, .int .i64 1]) (by simp [results, Tryz.results152, go_sem]) rfl ⟨rfl, by (repeat (first | exact Below.refl _ _ | assumption | refine below_alloc ?_ _ | refine below_drewN ?_ _ | refine below_set ?_ _ (by simp; try omega) | refine Below.drew ?_))⟩
  by_cases h3 : o = 3
  · subst h3
    dsimp only [cv]
    go_enter Tryz.func152, Tryz.ntmps152
    go_wp2_with (fail)
    refine bodyPost_ret (v := .tuple #[.int .i64 0, .int .i64 1]) (by simp [results, Tryz.results152, go_sem]) rfl ⟨rfl, by (repeat (first | exact Below.refl _ _ | assumption | refine below_alloc ?_ _ | refine below_drewN ?_ _ | refine below_set ?_ _ (by simp; try omega) | refine Below.drew ?_))⟩
  by_cases h4 : o = 4
  · subst h4
    dsimp only [cv]
    go_enter Tryz.func152, Tryz.ntmps152
    go_wp2_with (fail)
    refine bodyPost_ret (v := .tuple #[.int .i64 1, .int .i64 1]) (by simp [results, Tryz.results152, go_sem]) rfl ⟨rfl, by (repeat (first | exact Below.refl _ _ | assumption | refine below_alloc ?_ _ | refine below_drewN ?_ _ | refine below_set ?_ _ (by simp; try omega) | refine Below.drew ?_))⟩
  by_cases h5 : o = 5
  · subst h5
    dsimp only [cv]
    go_enter Tryz.func152, Tryz.ntmps152
    go_wp2_with (fail)
    refine bodyPost_ret (v := .tuple #[.int .i64 2, .int .i64 1]) (by simp [results, Tryz.results152, go_sem]) rfl ⟨rfl, by (repeat (first | exact Below.refl _ _ | assumption | refine below_alloc ?_ _ | refine below_drewN ?_ _ | refine below_set ?_ _ (by simp; try omega) | refine Below.drew ?_))⟩
  by_cases h6 : o = 6
  · subst h6
    dsimp only [cv]
    go_enter Tryz.func152, Tryz.ntmps152
    go_wp2_with (fail)
    refine bodyPost_ret (v := .tuple #[.int .i64 2, .int .i64 1]) (by simp [results, Tryz.results152, go_sem]) rfl ⟨rfl, by (repeat (first | exact Below.refl _ _ | assumption | refine below_alloc ?_ _ | refine below_drewN ?_ _ | refine below_set ?_ _ (by simp; try omega) | refine Below.drew ?_))⟩
  by_cases h7 : o = 7
  · subst h7
    obtain ⟨ha0, ha1⟩ := of_decide_eq_true hf
    have HM : manyI c 7 = c.bs.length := rfl
    rw [HM] at ha1
    obtain ⟨t, ht, hk⟩ := tm_at ha0 ha1
    obtain ⟨n, rfl⟩ : ∃ n : Nat, a = n := ⟨a.toNat, by dsimp only at ha0; omega⟩
    rw [Int.toNat_natCast] at ht
    have HT : Hid (takI c ⟨7, (n : Int)⟩ = argI t.k ∧ givI ⟨7, (n : Int)⟩ = 1) := Lib.hid ⟨by show argI (kindA c n) = _; rw [hk], rfl⟩
    rw [HT.out.1, HT.out.2]
    have hr := ((h.b.alloc (.cells #[.int .i64 c.i, .int .i64 c.v, .int .i64 c.o, .slice ab c.bs.length cb, .slice as_ c.ss.length cs] 35)).alloc (.cells #[.int .i64 7, .int .i64 n] 88)).tm ht
    obtain ⟨b, off, rfl, _, g0, g1, g2⟩ := hr
    have hn0 : (0 : Int) ≤ (n : Int) := by omega
    dsimp only at ha1
    clear HM ha0 ht hk hf h
    dsimp only [cv]
    go_enter Tryz.func152, Tryz.ntmps152
    go_wp2_with (first
      | (go_at_call 171
         refine (c_l13Takes _ _).mono ?_
         rintro e w' ⟨rfl, rfl⟩)
      )
    refine bodyPost_ret (v := .tuple #[.int .i64 (argI t.k), .int .i64 1]) (by simp [results, Tryz.results152, go_sem]) rfl ⟨rfl, by (repeat (first | exact Below.refl _ _ | assumption | refine below_alloc ?_ _ | refine below_drewN ?_ _ | refine below_set ?_ _ (by simp; try omega) | refine Below.drew ?_))⟩
  by_cases h8 : o = 8
  · subst h8
    dsimp only [cv]
    go_enter Tryz.func152, Tryz.ntmps152
    go_wp2_with (fail)
    refine bodyPost_ret (v := .tuple #[.int .i64 1, .int .i64 0]) (by simp [results, Tryz.results152, go_sem]) rfl ⟨rfl, by (repeat (first | exact Below.refl _ _ | assumption | refine below_alloc ?_ _ | refine below_drewN ?_ _ | refine below_set ?_ _ (by simp; try omega) | refine Below.drew ?_))⟩
  by_cases h9 : o = 9
  · subst h9
    dsimp only [cv]
    go_enter Tryz.func152, Tryz.ntmps152
    go_wp2_with (fail)
    refine bodyPost_ret (v := .tuple #[.int .i64 1, .int .i64 0]) (by simp [results, Tryz.results152, go_sem]) rfl ⟨rfl, by (repeat (first | exact Below.refl _ _ | assumption | refine below_alloc ?_ _ | refine below_drewN ?_ _ | refine below_set ?_ _ (by simp; try omega) | refine Below.drew ?_))⟩
  have e1 : (o == 1) = false := by simpa using h1
  have e2 : (o == 2) = false := by simpa using h2
  have e3 : (o == 3) = false := by simpa using h3
  have e4 : (o == 4) = false := by simpa using h4
  have e5 : (o == 5) = false := by simpa using h5
  have e6 : (o == 6) = false := by simpa using h6
  have e7 : (o == 7) = false := by simpa using h7
  have e8 : (o == 8) = false := by simpa using h8
  have e9 : (o == 9) = false := by simpa using h9
  have HT : Hid (takI c ⟨o, a⟩ = 0 ∧ givI ⟨o, a⟩ = 0) := Lib.hid (by unfold takI givI; dsimp only; exact ⟨by rw [if_neg (by omega), if_neg (by omega), if_neg h7], by rw [if_neg (by omega)]⟩)
  rw [HT.out.1, HT.out.2]
  clear h1 h2 h3 h4 h5 h6 h7 h8 h9
  dsimp only [cv]
  go_enter Tryz.func152, Tryz.ntmps152
  go_wp2_with (fail)
  refine bodyPost_ret (v := .tuple #[.int .i64 0, .int .i64 0]) (by simp [results, Tryz.results152, go_sem]) rfl ⟨rfl, by (repeat (first | exact Below.refl _ _ | assumption | refine below_alloc ?_ _ | refine below_drewN ?_ _ | refine below_set ?_ _ (by simp; try omega) | refine Below.drew ?_))⟩
end Go.Proofs.YteengjcplmjakaaGreatDoor

/- Times of steps and of codes, on the reference's side. Condition: the code is one. Printed by CTm.py. -/
namespace Go.Proofs.YteengjcplmjakaaGreatDoor
open Go.RowKit

theorem fit_op {c : Cd} {x : Ins} (h : fitB c x = true) : 1 ≤ x.o ∧ x.o ≤ 11 := by
  have h1 := of_decide_eq_true h
  unfold manyI at h1
  by_cases h2 : x.o = 1
  · omega
  rw [if_neg h2] at h1
  by_cases h3 : x.o = 2 ∨ x.o = 10
  · omega
  rw [if_neg h3] at h1
  by_cases h4 : x.o = 3 ∨ x.o = 8 ∨ x.o = 11
  · omega
  rw [if_neg h4] at h1
  by_cases h5 : x.o = 4 ∨ x.o = 5 ∨ x.o = 6
  · omega
  rw [if_neg h5] at h1
  by_cases h6 : x.o = 7
  · omega
  rw [if_neg h6] at h1
  by_cases h7 : x.o = 9
  · omega
  rw [if_neg h7] at h1
  omega
theorem blk_k {t : Tm} (h : blkB t = true) : 7 ≤ t.k ∧ t.k ≤ 12 := by
  unfold blkB trmT inB at h
  simp only [Bool.and_eq_true] at h
  have h1 := of_decide_eq_true h.1.1
  have h2 := of_decide_eq_true h.2
  omega
set_option maxHeartbeats 2000000 in
set_option maxRecDepth 100000 in
theorem c_l19Time (c : Cd) (ab as_ : Option Addr) (cb cs : Nat) (x : Ins) (w : World) (hd : Hd c) (hbl : ∀ t ∈ c.bs, blkB t = true) (hf : fitB c x = true) (h : CdR w ab as_ c) :
    Calls Tryz.prog 46 #[cv c ab as_ cb cs, .agg #[.int .i64 x.o, .int .i64 x.a]] w fun e w' => e = .returned (.int .i64 (timI c x)) ∧ Below w.heap.size w w' := by
  have hop := fit_op hf
  obtain ⟨o, a⟩ := x
  obtain ⟨i0, i1, v0, v1, o0, o1, hb, hs⟩ := hd
  dsimp only at hop ⊢
  rcases (show o = 1 ∨ o = 2 ∨ o = 3 ∨ o = 4 ∨ o = 5 ∨ o = 6 ∨ o = 7 ∨ o = 8 ∨ o = 9 ∨ o = 10 ∨ o = 11 by omega) with rfl | rfl | rfl | rfl | rfl | rfl | rfl | rfl | rfl | rfl | rfl
  · skip
    dsimp only [cv]
    go_enter Tryz.func46, Tryz.ntmps46
    go_wp2_with (fail)
    go_ret
    exact ⟨rfl, by (repeat (first | exact Below.refl _ _ | assumption | refine below_alloc ?_ _ | refine below_drewN ?_ _ | refine below_set ?_ _ (by simp; try omega) | refine Below.drew ?_))⟩
  · skip
    dsimp only [cv]
    go_enter Tryz.func46, Tryz.ntmps46
    go_wp2_with (fail)
    go_ret
    exact ⟨rfl, by (repeat (first | exact Below.refl _ _ | assumption | refine below_alloc ?_ _ | refine below_drewN ?_ _ | refine below_set ?_ _ (by simp; try omega) | refine Below.drew ?_))⟩
  · skip
    dsimp only [cv]
    go_enter Tryz.func46, Tryz.ntmps46
    go_wp2_with (fail)
    go_ret
    exact ⟨rfl, by (repeat (first | exact Below.refl _ _ | assumption | refine below_alloc ?_ _ | refine below_drewN ?_ _ | refine below_set ?_ _ (by simp; try omega) | refine Below.drew ?_))⟩
  · skip
    dsimp only [cv]
    go_enter Tryz.func46, Tryz.ntmps46
    go_wp2_with (fail)
    go_ret
    exact ⟨rfl, by (repeat (first | exact Below.refl _ _ | assumption | refine below_alloc ?_ _ | refine below_drewN ?_ _ | refine below_set ?_ _ (by simp; try omega) | refine Below.drew ?_))⟩
  · skip
    dsimp only [cv]
    go_enter Tryz.func46, Tryz.ntmps46
    go_wp2_with (fail)
    go_ret
    exact ⟨rfl, by (repeat (first | exact Below.refl _ _ | assumption | refine below_alloc ?_ _ | refine below_drewN ?_ _ | refine below_set ?_ _ (by simp; try omega) | refine Below.drew ?_))⟩
  · skip
    dsimp only [cv]
    go_enter Tryz.func46, Tryz.ntmps46
    go_wp2_with (fail)
    go_ret
    exact ⟨rfl, by (repeat (first | exact Below.refl _ _ | assumption | refine below_alloc ?_ _ | refine below_drewN ?_ _ | refine below_set ?_ _ (by simp; try omega) | refine Below.drew ?_))⟩
  · skip
    obtain ⟨ha0, ha1⟩ := of_decide_eq_true hf
    have HM : manyI c 7 = c.bs.length := rfl
    rw [HM] at ha1
    obtain ⟨t, ht, hk⟩ := tm_at ha0 ha1
    obtain ⟨n, rfl⟩ : ∃ n : Nat, a = n := ⟨a.toNat, by dsimp only at ha0; omega⟩
    rw [Int.toNat_natCast] at ht
    have hkk := blk_k (hbl t (List.mem_of_getElem? ht))
    have HT : Hid (timI c ⟨7, (n : Int)⟩ = tabI t.k) := Lib.hid (by show tabI (kindA c n) = _; rw [hk])
    have hr := h.b.tm ht
    obtain ⟨b, off, rfl, hlt, g0, g1, g2⟩ := hr
    have hn0 : (0 : Int) ≤ (n : Int) := by omega
    have hlt2 : b < w.heap.size + 1 := by omega
    have hlt3 : b < w.heap.size + 1 + 1 := by omega
    have hne1 : b ≠ w.heap.size := by omega
    have hne2 : b ≠ w.heap.size + 1 := by omega
    have hne3 : b ≠ w.heap.size + 1 + 1 := by omega
    dsimp only at ha1
    clear HM ha0 ht hk hf h
    obtain ⟨kk, nm, nn⟩ := t
    dsimp only at g0 g1 g2 hkk HT
    rw [HT.out]
    dsimp only [cv]
    rcases (show kk = 7 ∨ kk = 8 ∨ kk = 9 ∨ kk = 10 ∨ kk = 11 ∨ kk = 12 by omega) with rfl | rfl | rfl | rfl | rfl | rfl
    · skip
      go_enter Tryz.func46, Tryz.ntmps46
      go_wp2_with (fail)
      go_ret
      exact ⟨rfl, by (repeat (first | exact Below.refl _ _ | assumption | refine below_alloc ?_ _ | refine below_drewN ?_ _ | refine below_set ?_ _ (by simp; try omega) | refine Below.drew ?_))⟩
    · skip
      go_enter Tryz.func46, Tryz.ntmps46
      go_wp2_with (fail)
      go_ret
      exact ⟨rfl, by (repeat (first | exact Below.refl _ _ | assumption | refine below_alloc ?_ _ | refine below_drewN ?_ _ | refine below_set ?_ _ (by simp; try omega) | refine Below.drew ?_))⟩
    · skip
      go_enter Tryz.func46, Tryz.ntmps46
      go_wp2_with (fail)
      go_ret
      exact ⟨rfl, by (repeat (first | exact Below.refl _ _ | assumption | refine below_alloc ?_ _ | refine below_drewN ?_ _ | refine below_set ?_ _ (by simp; try omega) | refine Below.drew ?_))⟩
    · skip
      go_enter Tryz.func46, Tryz.ntmps46
      go_wp2_with (fail)
      go_ret
      exact ⟨rfl, by (repeat (first | exact Below.refl _ _ | assumption | refine below_alloc ?_ _ | refine below_drewN ?_ _ | refine below_set ?_ _ (by simp; try omega) | refine Below.drew ?_))⟩
    · skip
      go_enter Tryz.func46, Tryz.ntmps46
      go_wp2_with (fail)
      go_ret
      exact ⟨rfl, by (repeat (first | exact Below.refl _ _ | assumption | refine below_alloc ?_ _ | refine below_drewN ?_ _ | refine below_set ?_ _ (by simp; try omega) | refine Below.drew ?_))⟩
    · skip
      go_enter Tryz.func46, Tryz.ntmps46
      go_wp2_with (fail)
      go_ret
      exact ⟨rfl, by (repeat (first | exact Below.refl _ _ | assumption | refine below_alloc ?_ _ | refine below_drewN ?_ _ | refine below_set ?_ _ (by simp; try omega) | refine Below.drew ?_))⟩
  · skip
    dsimp only [cv]
    go_enter Tryz.func46, Tryz.ntmps46
    go_wp2_with (fail)
    go_ret
    exact ⟨rfl, by (repeat (first | exact Below.refl _ _ | assumption | refine below_alloc ?_ _ | refine below_drewN ?_ _ | refine below_set ?_ _ (by simp; try omega) | refine Below.drew ?_))⟩
  · skip
    dsimp only [cv]
    go_enter Tryz.func46, Tryz.ntmps46
    go_wp2_with (fail)
    go_ret
    exact ⟨rfl, by (repeat (first | exact Below.refl _ _ | assumption | refine below_alloc ?_ _ | refine below_drewN ?_ _ | refine below_set ?_ _ (by simp; try omega) | refine Below.drew ?_))⟩
  · skip
    have hw : IntKind.i64.wrap (2 + c.o) = 2 + c.o := IntWalk.i64_in _ (by omega)
    dsimp only [cv]
    go_enter Tryz.func46, Tryz.ntmps46
    go_wp2_with (fail)
    go_ret
    exact ⟨rfl, by (repeat (first | exact Below.refl _ _ | assumption | refine below_alloc ?_ _ | refine below_drewN ?_ _ | refine below_set ?_ _ (by simp; try omega) | refine Below.drew ?_))⟩
  · skip
    have hw : IntKind.i64.wrap (2 + c.o) = 2 + c.o := IntWalk.i64_in _ (by omega)
    dsimp only [cv]
    go_enter Tryz.func46, Tryz.ntmps46
    go_wp2_with (fail)
    go_ret
    exact ⟨rfl, by (repeat (first | exact Below.refl _ _ | assumption | refine below_alloc ?_ _ | refine below_drewN ?_ _ | refine below_set ?_ _ (by simp; try omega) | refine Below.drew ?_))⟩
/-- The sum of the times of steps. -/
def sumT (c : Cd) : List Ins → Int
  | [] => 0
  | x :: t => timI c x + sumT c t
end Go.Proofs.YteengjcplmjakaaGreatDoor

/- The scan's time on the reference's side. Condition: the code is one. -/
namespace Go.Proofs.YteengjcplmjakaaGreatDoor
open Go.RowKit

theorem tim_bd {c : Cd} (hd : Hd c) (x : Ins) : 0 ≤ timI c x ∧ timI c x ≤ 22 := by
  have h1 := hd.o0
  have h2 := hd.o1
  unfold timI tabI
  repeat' split
  all_goals omega
def sumK (c : Cd) (k : Nat) : Int := sumT c (c.ss.take k)
theorem sumT_app (c : Cd) : ∀ (l : List Ins) (x : Ins), sumT c (l ++ [x]) = sumT c l + timI c x
  | [], x => by simp [sumT]
  | y :: t, x => by
    show timI c y + sumT c (t ++ [x]) = timI c y + sumT c t + timI c x
    rw [sumT_app c t x]
    omega
theorem sumK_step {c : Cd} {k : Nat} {x : Ins} (hx : c.ss[k]? = some x) : sumK c (k + 1) = sumK c k + timI c x := by
  unfold sumK
  rw [List.take_add_one, hx]
  exact sumT_app c _ x
theorem sumK_bd {c : Cd} (hd : Hd c) : ∀ k : Nat, k ≤ c.ss.length → 0 ≤ sumK c k ∧ sumK c k ≤ 22 * k
  | 0, _ => by unfold sumK; simp [sumT]
  | k + 1, hk => by
    obtain ⟨x, hx⟩ : ∃ x, c.ss[k]? = some x := ⟨_, List.getElem?_eq_getElem (by omega)⟩
    have h1 := sumK_bd hd k (by omega)
    have h2 := tim_bd hd x
    rw [sumK_step hx]
    omega
set_option maxHeartbeats 2000000 in
set_option maxRecDepth 100000 in
theorem c_l19Scan (c : Cd) (ab as_ : Option Addr) (cb cs : Nat) (w : World) (hd : Hd c) (hbl : ∀ t ∈ c.bs, blkB t = true) (hf : ∀ x ∈ c.ss, fitB c x = true) (h : CdR w ab as_ c) :
    Calls Tryz.prog 50 #[cv c ab as_ cb cs] w fun e w' => e = .returned (.int .i64 (sumK c c.ss.length)) ∧ Below w.heap.size w w' := by
  have HD := Lib.hid hd
  have HC := Lib.hid h
  have HBL := Lib.hid hbl
  have HFT := Lib.hid hf
  have hln := hd.s
  have HAB : Hid (Below w.heap.size w (w.alloc (.cells #[.int .i64 c.i, .int .i64 c.v, .int .i64 c.o, .slice ab c.bs.length cb, .slice as_ c.ss.length cs] 35))) := Lib.hid (below_alloc (Below.refl _ _) _)
  have HA : Hid (CB (w.alloc (.cells #[.int .i64 c.i, .int .i64 c.v, .int .i64 c.o, .slice ab c.bs.length cb, .slice as_ c.ss.length cs] 35)) w.heap.size c ab as_ cb cs) := Lib.hid ⟨by go_simp, by go_simp, by go_simp, by go_simp, by go_simp⟩
  clear hd h hbl hf
  go_enter Tryz.func50, Tryz.ntmps50
  dsimp only [cv]
  go_wp2_with (fail)
  generalize w.alloc (.cells #[.int .i64 c.i, .int .i64 c.v, .int .i64 c.o, .slice ab c.bs.length cb, .slice as_ c.ss.length cs] 35) = W at *
  go_loopw [3, 4] (fun t i wr => ∃ k : Nat, k ≤ c.ss.length ∧ i = .int .i64 k ∧ t = .int .i64 (sumK c k) ∧ Hid (Below w.heap.size w wr) ∧ Hid (CB wr w.heap.size c ab as_ cb cs)) (fun _ i _ => c.ss.length - (intOf i).toNat)
  case atStart => exact ⟨0, Nat.zero_le _, rfl, rfl, HAB, HA⟩
  case round =>
    obtain ⟨k, hk, rfl, rfl, hb, ha⟩ := hrel
    clear HAB HA
    obtain ⟨a0, a1, a2, a3, a4⟩ := ha.out
    by_cases hlt : k < c.ss.length
    · obtain ⟨x, hx⟩ : ∃ x, c.ss[k]? = some x := ⟨_, List.getElem?_eq_getElem hlt⟩
      have HX := Lib.hid (sumK_step hx)
      have hsb := sumK_bd HD.out k hk
      have htb := tim_bd HD.out x
      have HF1 := Lib.hid (HFT.out x (List.mem_of_getElem? hx))
      obtain ⟨b1, o1, rfl, _, g0, g1⟩ := (HC.out.below hb.out).s.ins hx
      have hk0 : (0 : Int) ≤ (k : Int) := by omega
      have hk1 : (k : Int) < c.ss.length := by omega
      clear hx
      generalize sumK c k = S at *
      go_wp2_with (fail)
      refine wp_region_held_drew (S := (fun w' => (w'.cell? ⟨w.heap.size, 0, none⟩ = some (.int .i64 c.i) ∧ w'.cell? ⟨w.heap.size, 1, none⟩ = some (.int .i64 c.v) ∧ w'.cell? ⟨w.heap.size, 2, none⟩ = some (.int .i64 c.o) ∧ w'.cell? ⟨w.heap.size, 3, none⟩ = some (.slice ab c.bs.length cb) ∧ w'.cell? ⟨w.heap.size, 4, none⟩ = some (.slice (some ⟨b1, o1, none⟩) c.ss.length cs)) ∧ w'.cell? ⟨b1, o1 + k * 2, none⟩ = some (.int .i64 x.o) ∧ w'.cell? ⟨b1, o1 + k * 2 + 1, none⟩ = some (.int .i64 x.a))) (by kernel_rfl) ?_ (fun hHeld => ?_)
      · exact ⟨⟨a0, a1, a2, a3, a4⟩, g0, g1⟩
      refine rg_take (v := ?_) 0 rfl (by kernel_rfl) (by kernel_rfl) (by kernel_rfl) (fun _ _ _ h => h) (by kernel_rfl) ?_ (by assumption) ?_
      rotate_left
      · (intro w' hSw; (try dsimp only at hSw); go_simp; first | done | with_reducible rfl)
      simp only [Act.put, List.setIfInBounds_toArray, List.set_cons_zero, List.set_cons_succ]
      refine rg_take (v := ?_) 1 rfl (by kernel_rfl) (by kernel_rfl) (by kernel_rfl) (fun _ _ _ h => h) (by kernel_rfl) ?_ (by assumption) ?_
      rotate_left
      · (intro w' hSw; (try dsimp only at hSw); go_simp; first | done | with_reducible rfl)
      simp only [Act.put, List.setIfInBounds_toArray, List.set_cons_zero, List.set_cons_succ]
      refine rg_take (v := ?_) 2 rfl (by kernel_rfl) (by kernel_rfl) (by kernel_rfl) (fun _ _ _ h => h) (by kernel_rfl) ?_ (by assumption) ?_
      rotate_left
      · (intro w' hSw; (try dsimp only at hSw); go_simp; first | done | with_reducible rfl)
      simp only [Act.put, List.setIfInBounds_toArray, List.set_cons_zero, List.set_cons_succ]
      refine rg_take (v := ?_) 3 rfl (by kernel_rfl) (by kernel_rfl) (by kernel_rfl) (fun _ _ _ h => h) (by kernel_rfl) ?_ (by assumption) ?_
      rotate_left
      · (intro w' hSw; (try dsimp only at hSw); go_simp; first | done | with_reducible rfl)
      simp only [Act.put, List.setIfInBounds_toArray, List.set_cons_zero, List.set_cons_succ]
      refine rg_take (v := ?_) 4 rfl (by kernel_rfl) (by kernel_rfl) (by kernel_rfl) (fun _ _ _ h => h) (by kernel_rfl) ?_ (by assumption) ?_
      rotate_left
      · (intro w' hSw; (try dsimp only at hSw); go_simp; first | done | with_reducible rfl)
      simp only [Act.put, List.setIfInBounds_toArray, List.set_cons_zero, List.set_cons_succ]
      refine rg_take (v := ?_) 5 rfl (by kernel_rfl) (by kernel_rfl) (by kernel_rfl) (fun _ _ _ h => h) (by kernel_rfl) ?_ (by assumption) ?_
      rotate_left
      · (intro w' hSw; (try dsimp only at hSw); go_simp; first | done | with_reducible rfl)
      simp only [Act.put, List.setIfInBounds_toArray, List.set_cons_zero, List.set_cons_succ]
      refine rg_take (v := ?_) 6 rfl (by kernel_rfl) (by kernel_rfl) (by kernel_rfl) (fun _ _ _ h => h) (by kernel_rfl) ?_ (by assumption) ?_
      rotate_left
      · (intro w' hSw; (try dsimp only at hSw); go_simp; first | done | with_reducible rfl)
      simp only [Act.put, List.setIfInBounds_toArray, List.set_cons_zero, List.set_cons_succ]
      refine rg_run 7 rfl (by kernel_rfl) (by kernel_rfl) (fun K hK => ?_)
      go_simp
      refine (c_l19Time c ab (some ⟨b1, o1, none⟩) cb cs x _ HD.out HBL.out HF1.out ((HC.out.below hb.out).below (Below.refl _ _).drew)).mono ?_
      rintro e w2 ⟨rfl, hb2⟩
      have hbs : Below wr.heap.size wr w2 := below_chain (Below.refl _ _).drew hb2
      have HA2 := Lib.hid (ha.out.below hbs)
      have HB2 := Lib.hid (below_chain hb.out hbs)
      replace g0 := cell_later hbs g0
      replace g1 := cell_later hbs g1
      clear a0 a1 a2 a3 a4 hbs hb2 ha hb
      obtain ⟨a0, a1, a2, a3, a4⟩ := HA2.out
      have hw : IntKind.i64.wrap (S + timI c x) = S + timI c x := IntWalk.i64_in _ (by omega)
      go_wp2
      clear hHeld
      refine hK.out _ _ (by exact ⟨⟨a0, a1, a2, a3, a4⟩, g0, g1⟩) (fun hHeld => ?_)
      clear hK K
      try simp only [Act.put, List.setIfInBounds_toArray, List.set_cons_zero, List.set_cons_succ]
      refine rg_take (v := ?_) 8 rfl (by kernel_rfl) (by kernel_rfl) (by kernel_rfl) (fun _ _ _ h => h) (by kernel_rfl) ?_ (by assumption) ?_
      rotate_left
      · (intro w' hSw; (try dsimp only at hSw); go_simp; first | done | with_reducible rfl)
      simp only [Act.put, List.setIfInBounds_toArray, List.set_cons_zero, List.set_cons_succ]
      refine rg_take (v := ?_) 9 rfl (by kernel_rfl) (by kernel_rfl) (by kernel_rfl) (fun _ _ _ h => h) (by kernel_rfl) ?_ (by assumption) ?_
      rotate_left
      · (intro w' hSw; (try dsimp only at hSw); go_simp; first | done | with_reducible rfl)
      simp only [Act.put, List.setIfInBounds_toArray, List.set_cons_zero, List.set_cons_succ]
      refine wpAnyH_done (by kernel_rfl) ?_ _
      clear hHeld
      clear a0 a1 a2 a3 a4 g0 g1 hw
      go_wp2_with (fail)
      go_roundw
      case rel => exact ⟨k + 1, by omega, by go_num, by rw [HX.out], HB2, HA2⟩
      case measure => simp [intOf]; omega
    · obtain rfl : k = c.ss.length := by omega
      go_wp2_with (fail)
      go_ret
      exact ⟨rfl, hb.out⟩
end Go.Proofs.YteengjcplmjakaaGreatDoor

/- Steps on the program's side: arguments, effect, timeOf (turned from the reference's). Condition: as there. -/
namespace Go.Proofs.YteengjcplmjakaaGreatDoor
open Go.RowKit

set_option maxHeartbeats 1000000 in
set_option maxRecDepth 100000 in
theorem c_effect (c : Cd) (ab as_ : Option Addr) (cb cs : Nat) (x : Ins) (w : World) (hf : fitB c x = true) (h : CdR w ab as_ c) :
    Calls Tryz.prog 149 #[cv c ab as_ cb cs, .agg #[.int .i64 x.o, .int .i64 x.a]] w (Ret2 (takI c x) (givI x) w) := by
  obtain ⟨o, a⟩ := x
  dsimp only
  by_cases h1 : o = 1
  · subst h1
    dsimp only [cv]
    go_enter Tryz.func149, Tryz.ntmps149
    go_wp2_with (fail)
    refine bodyPost_ret (v := .tuple #[.int .i64 0, .int .i64 1]) (by simp [results, Tryz.results149, go_sem]) rfl ⟨rfl, by (repeat (first | exact Below.refl _ _ | assumption | refine below_alloc ?_ _ | refine below_drewN ?_ _ | refine below_set ?_ _ (by simp; try omega) | refine Below.drew ?_))⟩
  by_cases h2 : o = 2
  · subst h2
    dsimp only [cv]
    go_enter Tryz.func149, Tryz.ntmps149
    go_wp2_with (fail)
    refine bodyPost_ret (v := .tuple #[.int .i64 0, .int .i64 1]) (by simp [results, Tryz.results149, go_sem]) rfl ⟨rfl, by (repeat (first | exact Below.refl _ _ | assumption | refine below_alloc ?_ _ | refine below_drewN ?_ _ | refine below_set ?_ _ (by simp; try omega) | refine Below.drew ?_))⟩
  by_cases h3 : o = 3
  · subst h3
    dsimp only [cv]
    go_enter Tryz.func149, Tryz.ntmps149
    go_wp2_with (fail)
    refine bodyPost_ret (v := .tuple #[.int .i64 0, .int .i64 1]) (by simp [results, Tryz.results149, go_sem]) rfl ⟨rfl, by (repeat (first | exact Below.refl _ _ | assumption | refine below_alloc ?_ _ | refine below_drewN ?_ _ | refine below_set ?_ _ (by simp; try omega) | refine Below.drew ?_))⟩
  by_cases h4 : o = 4
  · subst h4
    dsimp only [cv]
    go_enter Tryz.func149, Tryz.ntmps149
    go_wp2_with (fail)
    refine bodyPost_ret (v := .tuple #[.int .i64 1, .int .i64 1]) (by simp [results, Tryz.results149, go_sem]) rfl ⟨rfl, by (repeat (first | exact Below.refl _ _ | assumption | refine below_alloc ?_ _ | refine below_drewN ?_ _ | refine below_set ?_ _ (by simp; try omega) | refine Below.drew ?_))⟩
  by_cases h5 : o = 5
  · subst h5
    dsimp only [cv]
    go_enter Tryz.func149, Tryz.ntmps149
    go_wp2_with (fail)
    refine bodyPost_ret (v := .tuple #[.int .i64 2, .int .i64 1]) (by simp [results, Tryz.results149, go_sem]) rfl ⟨rfl, by (repeat (first | exact Below.refl _ _ | assumption | refine below_alloc ?_ _ | refine below_drewN ?_ _ | refine below_set ?_ _ (by simp; try omega) | refine Below.drew ?_))⟩
  by_cases h6 : o = 6
  · subst h6
    dsimp only [cv]
    go_enter Tryz.func149, Tryz.ntmps149
    go_wp2_with (fail)
    refine bodyPost_ret (v := .tuple #[.int .i64 2, .int .i64 1]) (by simp [results, Tryz.results149, go_sem]) rfl ⟨rfl, by (repeat (first | exact Below.refl _ _ | assumption | refine below_alloc ?_ _ | refine below_drewN ?_ _ | refine below_set ?_ _ (by simp; try omega) | refine Below.drew ?_))⟩
  by_cases h7 : o = 7
  · subst h7
    obtain ⟨ha0, ha1⟩ := of_decide_eq_true hf
    have HM : manyI c 7 = c.bs.length := rfl
    rw [HM] at ha1
    obtain ⟨t, ht, hk⟩ := tm_at ha0 ha1
    obtain ⟨n, rfl⟩ : ∃ n : Nat, a = n := ⟨a.toNat, by dsimp only at ha0; omega⟩
    rw [Int.toNat_natCast] at ht
    have HT : Hid (takI c ⟨7, (n : Int)⟩ = argI t.k ∧ givI ⟨7, (n : Int)⟩ = 1) := Lib.hid ⟨by show argI (kindA c n) = _; rw [hk], rfl⟩
    rw [HT.out.1, HT.out.2]
    have hr := ((h.b.alloc (.cells #[.int .i64 c.i, .int .i64 c.v, .int .i64 c.o, .slice ab c.bs.length cb, .slice as_ c.ss.length cs] 35)).alloc (.cells #[.int .i64 7, .int .i64 n] 88)).tm ht
    obtain ⟨b, off, rfl, _, g0, g1, g2⟩ := hr
    have hn0 : (0 : Int) ≤ (n : Int) := by omega
    dsimp only at ha1
    clear HM ha0 ht hk hf h
    dsimp only [cv]
    go_enter Tryz.func149, Tryz.ntmps149
    go_wp2_with (first
      | (go_at_call 120
         refine (c_arguments _ _).mono ?_
         rintro e w' ⟨rfl, rfl⟩)
      )
    refine bodyPost_ret (v := .tuple #[.int .i64 (argI t.k), .int .i64 1]) (by simp [results, Tryz.results149, go_sem]) rfl ⟨rfl, by (repeat (first | exact Below.refl _ _ | assumption | refine below_alloc ?_ _ | refine below_drewN ?_ _ | refine below_set ?_ _ (by simp; try omega) | refine Below.drew ?_))⟩
  by_cases h8 : o = 8
  · subst h8
    dsimp only [cv]
    go_enter Tryz.func149, Tryz.ntmps149
    go_wp2_with (fail)
    refine bodyPost_ret (v := .tuple #[.int .i64 1, .int .i64 0]) (by simp [results, Tryz.results149, go_sem]) rfl ⟨rfl, by (repeat (first | exact Below.refl _ _ | assumption | refine below_alloc ?_ _ | refine below_drewN ?_ _ | refine below_set ?_ _ (by simp; try omega) | refine Below.drew ?_))⟩
  by_cases h9 : o = 9
  · subst h9
    dsimp only [cv]
    go_enter Tryz.func149, Tryz.ntmps149
    go_wp2_with (fail)
    refine bodyPost_ret (v := .tuple #[.int .i64 1, .int .i64 0]) (by simp [results, Tryz.results149, go_sem]) rfl ⟨rfl, by (repeat (first | exact Below.refl _ _ | assumption | refine below_alloc ?_ _ | refine below_drewN ?_ _ | refine below_set ?_ _ (by simp; try omega) | refine Below.drew ?_))⟩
  have e1 : (o == 1) = false := by simpa using h1
  have e2 : (o == 2) = false := by simpa using h2
  have e3 : (o == 3) = false := by simpa using h3
  have e4 : (o == 4) = false := by simpa using h4
  have e5 : (o == 5) = false := by simpa using h5
  have e6 : (o == 6) = false := by simpa using h6
  have e7 : (o == 7) = false := by simpa using h7
  have e8 : (o == 8) = false := by simpa using h8
  have e9 : (o == 9) = false := by simpa using h9
  have HT : Hid (takI c ⟨o, a⟩ = 0 ∧ givI ⟨o, a⟩ = 0) := Lib.hid (by unfold takI givI; dsimp only; exact ⟨by rw [if_neg (by omega), if_neg (by omega), if_neg h7], by rw [if_neg (by omega)]⟩)
  rw [HT.out.1, HT.out.2]
  clear h1 h2 h3 h4 h5 h6 h7 h8 h9
  dsimp only [cv]
  go_enter Tryz.func149, Tryz.ntmps149
  go_wp2_with (fail)
  refine bodyPost_ret (v := .tuple #[.int .i64 0, .int .i64 0]) (by simp [results, Tryz.results149, go_sem]) rfl ⟨rfl, by (repeat (first | exact Below.refl _ _ | assumption | refine below_alloc ?_ _ | refine below_drewN ?_ _ | refine below_set ?_ _ (by simp; try omega) | refine Below.drew ?_))⟩
set_option maxHeartbeats 2000000 in
set_option maxRecDepth 100000 in
theorem c_timeOf (c : Cd) (ab as_ : Option Addr) (cb cs : Nat) (x : Ins) (w : World) (hd : Hd c) (hbl : ∀ t ∈ c.bs, blkB t = true) (hf : fitB c x = true) (h : CdR w ab as_ c) :
    Calls Tryz.prog 54 #[cv c ab as_ cb cs, .agg #[.int .i64 x.o, .int .i64 x.a]] w fun e w' => e = .returned (.int .i64 (timI c x)) ∧ Below w.heap.size w w' := by
  have hop := fit_op hf
  obtain ⟨o, a⟩ := x
  obtain ⟨i0, i1, v0, v1, o0, o1, hb, hs⟩ := hd
  dsimp only at hop ⊢
  rcases (show o = 1 ∨ o = 2 ∨ o = 3 ∨ o = 4 ∨ o = 5 ∨ o = 6 ∨ o = 7 ∨ o = 8 ∨ o = 9 ∨ o = 10 ∨ o = 11 by omega) with rfl | rfl | rfl | rfl | rfl | rfl | rfl | rfl | rfl | rfl | rfl
  · skip
    dsimp only [cv]
    go_enter Tryz.func54, Tryz.ntmps54
    go_wp2_with (fail)
    go_ret
    exact ⟨rfl, by (repeat (first | exact Below.refl _ _ | assumption | refine below_alloc ?_ _ | refine below_drewN ?_ _ | refine below_set ?_ _ (by simp; try omega) | refine Below.drew ?_))⟩
  · skip
    dsimp only [cv]
    go_enter Tryz.func54, Tryz.ntmps54
    go_wp2_with (fail)
    go_ret
    exact ⟨rfl, by (repeat (first | exact Below.refl _ _ | assumption | refine below_alloc ?_ _ | refine below_drewN ?_ _ | refine below_set ?_ _ (by simp; try omega) | refine Below.drew ?_))⟩
  · skip
    dsimp only [cv]
    go_enter Tryz.func54, Tryz.ntmps54
    go_wp2_with (fail)
    go_ret
    exact ⟨rfl, by (repeat (first | exact Below.refl _ _ | assumption | refine below_alloc ?_ _ | refine below_drewN ?_ _ | refine below_set ?_ _ (by simp; try omega) | refine Below.drew ?_))⟩
  · skip
    dsimp only [cv]
    go_enter Tryz.func54, Tryz.ntmps54
    go_wp2_with (fail)
    go_ret
    exact ⟨rfl, by (repeat (first | exact Below.refl _ _ | assumption | refine below_alloc ?_ _ | refine below_drewN ?_ _ | refine below_set ?_ _ (by simp; try omega) | refine Below.drew ?_))⟩
  · skip
    dsimp only [cv]
    go_enter Tryz.func54, Tryz.ntmps54
    go_wp2_with (fail)
    go_ret
    exact ⟨rfl, by (repeat (first | exact Below.refl _ _ | assumption | refine below_alloc ?_ _ | refine below_drewN ?_ _ | refine below_set ?_ _ (by simp; try omega) | refine Below.drew ?_))⟩
  · skip
    dsimp only [cv]
    go_enter Tryz.func54, Tryz.ntmps54
    go_wp2_with (fail)
    go_ret
    exact ⟨rfl, by (repeat (first | exact Below.refl _ _ | assumption | refine below_alloc ?_ _ | refine below_drewN ?_ _ | refine below_set ?_ _ (by simp; try omega) | refine Below.drew ?_))⟩
  · skip
    obtain ⟨ha0, ha1⟩ := of_decide_eq_true hf
    have HM : manyI c 7 = c.bs.length := rfl
    rw [HM] at ha1
    obtain ⟨t, ht, hk⟩ := tm_at ha0 ha1
    obtain ⟨n, rfl⟩ : ∃ n : Nat, a = n := ⟨a.toNat, by dsimp only at ha0; omega⟩
    rw [Int.toNat_natCast] at ht
    have hkk := blk_k (hbl t (List.mem_of_getElem? ht))
    have HT : Hid (timI c ⟨7, (n : Int)⟩ = tabI t.k) := Lib.hid (by show tabI (kindA c n) = _; rw [hk])
    have hr := h.b.tm ht
    obtain ⟨b, off, rfl, hlt, g0, g1, g2⟩ := hr
    have hn0 : (0 : Int) ≤ (n : Int) := by omega
    have hlt2 : b < w.heap.size + 1 := by omega
    have hlt3 : b < w.heap.size + 1 + 1 := by omega
    have hne1 : b ≠ w.heap.size := by omega
    have hne2 : b ≠ w.heap.size + 1 := by omega
    have hne3 : b ≠ w.heap.size + 1 + 1 := by omega
    dsimp only at ha1
    clear HM ha0 ht hk hf h
    obtain ⟨kk, nm, nn⟩ := t
    dsimp only at g0 g1 g2 hkk HT
    rw [HT.out]
    dsimp only [cv]
    rcases (show kk = 7 ∨ kk = 8 ∨ kk = 9 ∨ kk = 10 ∨ kk = 11 ∨ kk = 12 by omega) with rfl | rfl | rfl | rfl | rfl | rfl
    · skip
      go_enter Tryz.func54, Tryz.ntmps54
      go_wp2_with (fail)
      go_ret
      exact ⟨rfl, by (repeat (first | exact Below.refl _ _ | assumption | refine below_alloc ?_ _ | refine below_drewN ?_ _ | refine below_set ?_ _ (by simp; try omega) | refine Below.drew ?_))⟩
    · skip
      go_enter Tryz.func54, Tryz.ntmps54
      go_wp2_with (fail)
      go_ret
      exact ⟨rfl, by (repeat (first | exact Below.refl _ _ | assumption | refine below_alloc ?_ _ | refine below_drewN ?_ _ | refine below_set ?_ _ (by simp; try omega) | refine Below.drew ?_))⟩
    · skip
      go_enter Tryz.func54, Tryz.ntmps54
      go_wp2_with (fail)
      go_ret
      exact ⟨rfl, by (repeat (first | exact Below.refl _ _ | assumption | refine below_alloc ?_ _ | refine below_drewN ?_ _ | refine below_set ?_ _ (by simp; try omega) | refine Below.drew ?_))⟩
    · skip
      go_enter Tryz.func54, Tryz.ntmps54
      go_wp2_with (fail)
      go_ret
      exact ⟨rfl, by (repeat (first | exact Below.refl _ _ | assumption | refine below_alloc ?_ _ | refine below_drewN ?_ _ | refine below_set ?_ _ (by simp; try omega) | refine Below.drew ?_))⟩
    · skip
      go_enter Tryz.func54, Tryz.ntmps54
      go_wp2_with (fail)
      go_ret
      exact ⟨rfl, by (repeat (first | exact Below.refl _ _ | assumption | refine below_alloc ?_ _ | refine below_drewN ?_ _ | refine below_set ?_ _ (by simp; try omega) | refine Below.drew ?_))⟩
    · skip
      go_enter Tryz.func54, Tryz.ntmps54
      go_wp2_with (fail)
      go_ret
      exact ⟨rfl, by (repeat (first | exact Below.refl _ _ | assumption | refine below_alloc ?_ _ | refine below_drewN ?_ _ | refine below_set ?_ _ (by simp; try omega) | refine Below.drew ?_))⟩
  · skip
    dsimp only [cv]
    go_enter Tryz.func54, Tryz.ntmps54
    go_wp2_with (fail)
    go_ret
    exact ⟨rfl, by (repeat (first | exact Below.refl _ _ | assumption | refine below_alloc ?_ _ | refine below_drewN ?_ _ | refine below_set ?_ _ (by simp; try omega) | refine Below.drew ?_))⟩
  · skip
    dsimp only [cv]
    go_enter Tryz.func54, Tryz.ntmps54
    go_wp2_with (fail)
    go_ret
    exact ⟨rfl, by (repeat (first | exact Below.refl _ _ | assumption | refine below_alloc ?_ _ | refine below_drewN ?_ _ | refine below_set ?_ _ (by simp; try omega) | refine Below.drew ?_))⟩
  · skip
    have hw : IntKind.i64.wrap (2 + c.o) = 2 + c.o := IntWalk.i64_in _ (by omega)
    dsimp only [cv]
    go_enter Tryz.func54, Tryz.ntmps54
    go_wp2_with (fail)
    go_ret
    exact ⟨rfl, by (repeat (first | exact Below.refl _ _ | assumption | refine below_alloc ?_ _ | refine below_drewN ?_ _ | refine below_set ?_ _ (by simp; try omega) | refine Below.drew ?_))⟩
  · skip
    have hw : IntKind.i64.wrap (2 + c.o) = 2 + c.o := IntWalk.i64_in _ (by omega)
    dsimp only [cv]
    go_enter Tryz.func54, Tryz.ntmps54
    go_wp2_with (fail)
    go_ret
    exact ⟨rfl, by (repeat (first | exact Below.refl _ _ | assumption | refine below_alloc ?_ _ | refine below_drewN ?_ _ | refine below_set ?_ _ (by simp; try omega) | refine Below.drew ?_))⟩
end Go.Proofs.YteengjcplmjakaaGreatDoor

/- The time of some steps of a code, on the program's side. Condition: the code's head, its blocks; the steps fit. -/
namespace Go.Proofs.YteengjcplmjakaaGreatDoor
open Go.RowKit

theorem sumT_take {c : Cd} {l : List Ins} {k : Nat} {x : Ins} (hx : l[k]? = some x) : sumT c (l.take (k + 1)) = sumT c (l.take k) + timI c x := by
  rw [List.take_add_one, hx]
  exact sumT_app c _ x
theorem sumT_bd {c : Cd} (hd : Hd c) : ∀ l : List Ins, 0 ≤ sumT c l ∧ sumT c l ≤ 22 * l.length
  | [] => by simp [sumT]
  | x :: t => by
    have h1 := sumT_bd hd t
    have h2 := tim_bd hd x
    show 0 ≤ timI c x + sumT c t ∧ timI c x + sumT c t ≤ 22 * ((t.length + 1 : Nat) : Int)
    omega
set_option maxHeartbeats 2000000 in
set_option maxRecDepth 100000 in
theorem c_timeG (c : Cd) (l : List Ins) (ab as_ al : Option Addr) (cb cs cl n : Nat) (w : World) (hd : Hd c) (hbl : ∀ t ∈ c.bs, blkB t = true) (hn : l.length = n) (hn2 : n ≤ 3000) (hf : ∀ x ∈ l, fitB c x = true) (h : CdR w ab as_ c) (hl : Rd w al (insCells l)) :
    Calls Tryz.prog 43 #[cv c ab as_ cb cs, .slice al n cl] w fun e w' => e = .returned (.int .i64 (sumT c l)) ∧ Below w.heap.size w w' := by
  have HD := Lib.hid hd
  have HC := Lib.hid h
  have HBL := Lib.hid hbl
  have HFT := Lib.hid hf
  have HLR := Lib.hid hl
  have HN := Lib.hid hn
  have HV : Hid (sumT c l = sumT c (l.take n)) := Lib.hid (by rw [List.take_of_length_le (by omega)])
  have HAB : Hid (Below w.heap.size w (w.alloc (.cells #[.int .i64 c.i, .int .i64 c.v, .int .i64 c.o, .slice ab c.bs.length cb, .slice as_ c.ss.length cs] 35))) := Lib.hid (below_alloc (Below.refl _ _) _)
  have HA : Hid (CB (w.alloc (.cells #[.int .i64 c.i, .int .i64 c.v, .int .i64 c.o, .slice ab c.bs.length cb, .slice as_ c.ss.length cs] 35)) w.heap.size c ab as_ cb cs) := Lib.hid ⟨by go_simp, by go_simp, by go_simp, by go_simp, by go_simp⟩
  generalize sumT c l = R at *
  clear hd h hbl hf hl hn
  go_enter Tryz.func43, Tryz.ntmps43
  dsimp only [cv]
  go_wp2_with (fail)
  generalize w.alloc (.cells #[.int .i64 c.i, .int .i64 c.v, .int .i64 c.o, .slice ab c.bs.length cb, .slice as_ c.ss.length cs] 35) = W at *
  go_loopw [5, 7, 10] (fun t _ i wr => ∃ k : Nat, k ≤ n ∧ i = .int .i64 k ∧ t = .int .i64 (sumT c (l.take k)) ∧ Hid (Below w.heap.size w wr) ∧ Hid (CB wr w.heap.size c ab as_ cb cs)) (fun _ _ i _ => n - (intOf i).toNat)
  case atStart => exact ⟨0, Nat.zero_le _, rfl, rfl, HAB, HA⟩
  case round =>
    obtain ⟨k, hk, rfl, rfl, hb, ha⟩ := hrel
    clear HAB HA
    by_cases hlt : k < n
    · obtain ⟨x, hx⟩ : ∃ x, l[k]? = some x := ⟨_, List.getElem?_eq_getElem (by have := HN.out; omega)⟩
      have HX := Lib.hid (sumT_take (c := c) hx)
      have hsb := sumT_bd HD.out (l.take k)
      have hlk : (l.take k).length ≤ n := by rw [List.length_take]; have := HN.out; omega
      have htb := tim_bd HD.out x
      have HF1 := Lib.hid (HFT.out x (List.mem_of_getElem? hx))
      obtain ⟨b1, o1, rfl, _, g0, g1⟩ := (HLR.out.below hb.out).ins hx
      have hk0 : (0 : Int) ≤ (k : Int) := by omega
      have hk1 : (k : Int) < n := by omega
      have HX0 : Hid (w.heap.size ≤ wr.heap.size ∧ (wr.alloc (.cells #[.int .i64 x.o, .int .i64 x.a] 88)).cell? ⟨wr.heap.size, 0, none⟩ = some (.int .i64 x.o) ∧ (wr.alloc (.cells #[.int .i64 x.o, .int .i64 x.a] 88)).cell? ⟨wr.heap.size, 1, none⟩ = some (.int .i64 x.a)) := Lib.hid ⟨hb.out.size, by go_simp, by go_simp⟩
      have HBa := Lib.hid (below_alloc (Below.refl wr.heap.size wr) (.cells #[.int .i64 x.o, .int .i64 x.a] 88))
      clear hx
      generalize sumT c (l.take k) = S at *
      generalize (l.take k).length = lk at *
      go_upto_region 5 with (fail)
      generalize wr.alloc (.cells #[.int .i64 x.o, .int .i64 x.a] 88) = W1 at *
      have HA1 := Lib.hid (ha.out.below HBa.out)
      have HB1 := Lib.hid (below_chain hb.out HBa.out)
      clear ha hb HBa g0 g1
      obtain ⟨a0, a1, a2, a3, a4⟩ := HA1.out
      obtain ⟨_, g0, g1⟩ := HX0.out
      generalize wr.heap.size = bx at *
      have hw : IntKind.i64.wrap (S + timI c x) = S + timI c x := IntWalk.i64_in _ (by omega)
      go_wp2_with (fail)
      refine (c_timeOf c ab as_ cb cs x _ HD.out HBL.out HF1.out (HC.out.below HB1.out)).mono ?_
      rintro e w2 ⟨rfl, hb2⟩
      have HA2 := Lib.hid (HA1.out.below hb2)
      have HB2 := Lib.hid (below_chain HB1.out hb2)
      clear a0 a1 a2 a3 a4 g0 g1 hb2 HA1 HB1 HX0
      go_wp2_with (fail)
      go_roundw
      case rel => exact ⟨k + 1, by omega, by go_num, by rw [HX.out], HB2, HA2⟩
      case measure => simp [intOf]; omega
    · obtain rfl : k = n := by omega
      go_wp2_with (fail)
      go_ret
      exact ⟨by rw [HV.out]; rfl, hb.out⟩
end Go.Proofs.YteengjcplmjakaaGreatDoor

/- The code of a sound program, plainly: its steps, its head, its times. No condition but that the program is sound. -/
namespace Go.Proofs.YteengjcplmjakaaGreatDoor
open Go.RowKit

def nmI (p : Prg) (s : ByteArray) (a b : Int) : Ins := if 0 ≤ ixS p.ins s then ⟨a, ixS p.ins s⟩ else ⟨b, ixS p.vs s⟩
def insT (p : Prg) (b : Nat) (t : Tm) : Ins := if t.k = 1 then nmI p t.nm 2 3 else if t.k = 2 then ⟨1, 1⟩ else if t.k = 3 then ⟨1, 0⟩ else if t.k = 4 ∨ t.k = 5 ∨ t.k = 6 then ⟨t.k, 0⟩ else ⟨7, b⟩
def tgI (p : Prg) (s : ByteArray) : Ins := if 0 ≤ ixS p.vs s then ⟨8, ixS p.vs s⟩ else ⟨9, ixS p.os s⟩
def nbT (l : List Tm) : Nat := (l.filter isB).length
/-- The steps of terms; b blocks are before them. -/
def csT (p : Prg) : Nat → List Tm → List Ins
  | _, [] => []
  | b, t :: l => insT p b t :: csT p (b + nbT [t]) l
theorem nbT_cons (t : Tm) (l : List Tm) : nbT (t :: l) = nbT [t] + nbT l := by
  unfold nbT
  rw [show t :: l = [t] ++ l from rfl, List.filter_append, List.length_append]
theorem nbT_snoc (t : Tm) (l : List Tm) : nbT (l ++ [t]) = nbT l + nbT [t] := by
  unfold nbT
  rw [List.filter_append, List.length_append]
theorem nbT_one (t : Tm) : nbT [t] = if isB t then 1 else 0 := by
  unfold nbT
  rw [List.filter_cons]
  cases isB t <;> rfl
theorem csT_snoc (p : Prg) : ∀ (l : List Tm) (b : Nat) (t : Tm), csT p b (l ++ [t]) = csT p b l ++ [insT p (b + nbT l) t]
  | [], b, t => by simp [csT, nbT]
  | x :: l, b, t => by
    show insT p b x :: csT p (b + nbT [x]) (l ++ [t]) = insT p b x :: csT p (b + nbT [x]) l ++ _
    rw [csT_snoc p l, nbT_cons x l, ← Nat.add_assoc]
    rfl
theorem csT_len (p : Prg) : ∀ (l : List Tm) (b : Nat), (csT p b l).length = l.length
  | [], _ => rfl
  | x :: l, b => by
    show (csT p (b + nbT [x]) l).length + 1 = l.length + 1
    rw [csT_len p l]
/-- The steps of a line, of lines. -/
def csL (p : Prg) (b : Nat) (l : Lin) : List Ins := csT p b l.ts ++ [tgI p l.tg]
def csP (p : Prg) : Nat → List Lin → List Ins
  | _, [] => []
  | b, l :: r => csL p b l ++ csP p (b + nbT l.ts) r
def nbL (ls : List Lin) : Nat := (ls.flatMap blkL).length
theorem nbL_cons (l : Lin) (ls : List Lin) : nbL (l :: ls) = nbT l.ts + nbL ls := by
  unfold nbL nbT
  rw [List.flatMap_cons, List.length_append]
  rfl
theorem nbL_snoc (l : Lin) (ls : List Lin) : nbL (ls ++ [l]) = nbL ls + nbT l.ts := by
  unfold nbL nbT
  rw [List.flatMap_append, List.length_append]
  simp [blkL]
theorem csP_snoc (p : Prg) : ∀ (r : List Lin) (b : Nat) (l : Lin), csP p b (r ++ [l]) = csP p b r ++ csL p (b + nbL r) l
  | [], b, l => by simp [csP, nbL]
  | x :: r, b, l => by
    show csL p b x ++ csP p (b + nbT x.ts) (r ++ [l]) = csL p b x ++ csP p (b + nbT x.ts) r ++ _
    rw [csP_snoc p r, nbL_cons, ← Nat.add_assoc, List.append_assoc]
theorem csP_len (p : Prg) : ∀ (r : List Lin) (b : Nat), (∀ l ∈ r, l.ts.length ≤ 40) → (csP p b r).length ≤ 41 * r.length
  | [], _, _ => by simp [csP]
  | x :: r, b, h => by
    show (csL p b x ++ csP p (b + nbT x.ts) r).length ≤ 41 * (r.length + 1)
    have h1 := csP_len p r (b + nbT x.ts) (fun l hl => h l (List.mem_cons_of_mem _ hl))
    have h2 := h x List.mem_cons_self
    unfold csL
    rw [List.length_append, List.length_append, csT_len, List.length_singleton]
    omega
def gdI (p : Prg) : List Ins := if p.gd.toList.isEmpty then [] else [nmI p p.gd 10 11]
/-- The code of a program. -/
def cmp (p : Prg) : Cd := ⟨p.ins.length, p.vs.length, p.os.length, blk p, csP p 0 p.ls ++ gdI p⟩
theorem gdI_len (p : Prg) : (gdI p).length ≤ 1 := by unfold gdI; split <;> simp
theorem ins_nm {p : Prg} {s : ByteArray} {a b : Int} (h : s ∈ p.ins ∨ s ∈ p.vs) (ha : a = 2 ∧ b = 3 ∨ a = 10 ∧ b = 11) (bs : List Tm) (ss : List Ins) : fitB ⟨p.ins.length, p.vs.length, p.os.length, bs, ss⟩ (nmI p s a b) = true := by
  have b1 := ixS_bd s p.ins
  have b2 := ixS_bd s p.vs
  unfold nmI
  by_cases h0 : 0 ≤ ixS p.ins s
  · rw [if_pos h0]
    refine decide_eq_true ⟨h0, ?_⟩
    rcases ha with ⟨rfl, rfl⟩ | ⟨rfl, rfl⟩
    · exact b1.2
    · exact b1.2
  · rw [if_neg h0]
    have h2 : 0 ≤ ixS p.vs s := h.elim (fun e => absurd (ix_mem e) h0) ix_mem
    refine decide_eq_true ⟨h2, ?_⟩
    rcases ha with ⟨rfl, rfl⟩ | ⟨rfl, rfl⟩
    · exact b2.2
    · exact b2.2
theorem fit_T {p : Prg} (ss : List Ins) (bs : List Tm) : ∀ {l : List Tm} {b : Nat}, (∀ t ∈ l, trmT t.k t.nm t.n = true) → (∀ t ∈ l, t.k = 1 → t.nm ∈ p.ins ∨ t.nm ∈ p.vs) → b + nbT l ≤ bs.length → ∀ x ∈ csT p b l, fitB ⟨p.ins.length, p.vs.length, p.os.length, bs, ss⟩ x = true
  | [], _, _, _, _, x, hx => absurd hx (by simp [csT])
  | t :: l, b, hk, hr, hb, x, hx => by
    rw [nbT_cons] at hb
    rcases List.mem_cons.1 hx with rfl | hx
    · have hkk := trm_k (hk t List.mem_cons_self)
      unfold insT
      by_cases h1 : t.k = 1
      · rw [if_pos h1]
        exact ins_nm (hr t List.mem_cons_self h1) (.inl ⟨rfl, rfl⟩) _ _
      rw [if_neg h1]
      by_cases h2 : t.k = 2
      · rw [if_pos h2]; rfl
      rw [if_neg h2]
      by_cases h3 : t.k = 3
      · rw [if_pos h3]; rfl
      rw [if_neg h3]
      by_cases h4 : t.k = 4 ∨ t.k = 5 ∨ t.k = 6
      · rw [if_pos h4]
        rcases h4 with h4 | h4 | h4 <;> rw [h4] <;> rfl
      rw [if_neg h4]
      have hB : isB t = true := decide_eq_true (by omega)
      rw [nbT_one, if_pos hB] at hb
      refine decide_eq_true ⟨Int.natCast_nonneg _, ?_⟩
      show (b : Int) < (bs.length : Int)
      omega
    · exact fit_T ss bs (fun u hu => hk u (List.mem_cons_of_mem _ hu)) (fun u hu => hr u (List.mem_cons_of_mem _ hu)) (by omega) x hx
theorem fit_P {p : Prg} (ss : List Ins) (bs : List Tm) : ∀ {r : List Lin} {b : Nat}, (∀ l ∈ r, ∀ t ∈ l.ts, trmT t.k t.nm t.n = true) → (∀ l ∈ r, ∀ t ∈ l.ts, t.k = 1 → t.nm ∈ p.ins ∨ t.nm ∈ p.vs) → (∀ l ∈ r, l.tg ∈ p.vs ∨ l.tg ∈ p.os) → b + nbL r ≤ bs.length → ∀ x ∈ csP p b r, fitB ⟨p.ins.length, p.vs.length, p.os.length, bs, ss⟩ x = true
  | [], _, _, _, _, _, x, hx => absurd hx (by simp [csP])
  | l :: r, b, hk, hr, ht, hb, x, hx => by
    rw [nbL_cons] at hb
    rcases List.mem_append.1 hx with hx | hx
    · rcases List.mem_append.1 hx with hx | hx
      · exact fit_T ss bs (hk l List.mem_cons_self) (hr l List.mem_cons_self) (by omega) x hx
      · rw [List.mem_singleton] at hx
        subst hx
        have b1 := ixS_bd l.tg p.vs
        have b2 := ixS_bd l.tg p.os
        unfold tgI
        by_cases h0 : 0 ≤ ixS p.vs l.tg
        · rw [if_pos h0]; exact decide_eq_true ⟨h0, b1.2⟩
        · rw [if_neg h0]
          exact decide_eq_true ⟨(ht l List.mem_cons_self).elim (fun e => absurd (ix_mem e) h0) ix_mem, b2.2⟩
    · exact fit_P ss bs (fun u hu => hk u (List.mem_cons_of_mem _ hu)) (fun u hu => hr u (List.mem_cons_of_mem _ hu)) (fun u hu => ht u (List.mem_cons_of_mem _ hu)) (by omega) x hx
/-- All steps of a sound program's code fit. -/
theorem fit_cmp {p : Prg} (h : Snd p) : ∀ x ∈ (cmp p).ss, fitB (cmp p) x = true := by
  intro x hx
  rcases List.mem_append.1 (show x ∈ csP p 0 p.ls ++ gdI p from hx) with hx | hx
  · exact fit_P _ _ h.k h.r h.t (by rw [Nat.zero_add]; exact Nat.le_refl _) x hx
  · unfold gdI at hx
    split at hx
    · cases hx
    · rename_i he
      rw [List.mem_singleton] at hx
      subst hx
      exact ins_nm (h.g.elim (fun e => absurd e he) id) (.inr ⟨rfl, rfl⟩) _ _
theorem blk_cmp {p : Prg} (h : Snd p) : ∀ t ∈ (cmp p).bs, blkB t = true := by
  intro t ht
  obtain ⟨l, hl, ht⟩ := List.mem_flatMap.1 (show t ∈ p.ls.flatMap blkL from ht)
  obtain ⟨ht, h7⟩ := List.mem_filter.1 (show t ∈ l.ts.filter isB from ht)
  unfold blkB
  rw [h.k l hl t ht]
  exact h7
theorem blk_le {p : Prg} (h : PgB p) : (blk p).length ≤ 1600 := by
  have hl := h.l
  have ht := h.t
  unfold blk
  have : ∀ l : List Lin, (∀ x ∈ l, x.ts.length ≤ 40) → (l.flatMap blkL).length ≤ 40 * l.length := by
    intro l
    induction l with
    | nil => intro _; simp
    | cons x l ih =>
      intro hx
      rw [List.flatMap_cons, List.length_append, List.length_cons]
      have h1 := ih (fun y hy => hx y (List.mem_cons_of_mem _ hy))
      have h2 := hx x List.mem_cons_self
      have h3 : (blkL x).length ≤ x.ts.length := List.length_filter_le _ _
      omega
  have := this p.ls ht
  omega
theorem hd_cmp {p : Prg} (h : Snd p) : Hd (cmp p) := by
  have h1 := h.b.i
  have h2 := h.b.v
  have h3 := h.b.o
  have h4 := h.b.l
  have h5 := csP_len p p.ls 0 h.b.t
  have h6 := gdI_len p
  refine ⟨Int.natCast_nonneg _, ?_, Int.natCast_nonneg _, ?_, Int.natCast_nonneg _, ?_, ?_, ?_⟩
  · show (p.ins.length : Int) ≤ 20; omega
  · show (p.vs.length : Int) ≤ 20; omega
  · show (p.os.length : Int) ≤ 20; omega
  · exact Nat.le_trans (blk_le h.b) (by decide)
  · show (csP p 0 p.ls ++ gdI p).length ≤ 2000
    rw [List.length_append]
    omega
/-- The time of a term, of a line. -/
def tT (t : Tm) : Int := if t.k = 1 ∨ t.k = 5 ∨ t.k = 6 then 2 else if t.k = 2 ∨ t.k = 3 ∨ t.k = 4 then 1 else tabI t.k
def tTs : List Tm → Int
  | [] => 0
  | t :: l => tT t + tTs l
def tL (l : Lin) : Int := tTs l.ts + 3
theorem tab_bd (k : Int) : 4 ≤ tabI k ∧ tabI k ≤ 9 := by
  unfold tabI
  repeat' split
  all_goals omega
theorem tT_bd (t : Tm) : 1 ≤ tT t ∧ tT t ≤ 9 := by
  have := tab_bd t.k
  unfold tT
  repeat' split
  all_goals omega
theorem tTs_bd : ∀ l : List Tm, 0 ≤ tTs l ∧ tTs l ≤ 9 * l.length
  | [] => by simp [tTs]
  | t :: l => by
    have h1 := tT_bd t
    have h2 := tTs_bd l
    show 0 ≤ tT t + tTs l ∧ tT t + tTs l ≤ 9 * ((l.length + 1 : Nat) : Int)
    omega
theorem tim_nm (p : Prg) (c : Cd) (s : ByteArray) : timI c (nmI p s 2 3) = 2 := by
  unfold nmI
  split <;> rfl
theorem tim_T {p : Prg} {c : Cd} {b : Nat} {t : Tm} (hk : trmT t.k t.nm t.n = true) (hb : isB t = true → c.bs[b]? = some t) : timI c (insT p b t) = tT t := by
  have hkk := trm_k hk
  unfold insT tT
  by_cases h1 : t.k = 1
  · rw [if_pos h1, if_pos (.inl h1)]; exact tim_nm _ _ _
  rw [if_neg h1]
  by_cases h2 : t.k = 2
  · rw [if_pos h2, if_neg (by omega), if_pos (.inl h2)]; rfl
  rw [if_neg h2]
  by_cases h3 : t.k = 3
  · rw [if_pos h3, if_neg (by omega), if_pos (by omega)]; rfl
  rw [if_neg h3]
  by_cases h4 : t.k = 4 ∨ t.k = 5 ∨ t.k = 6
  · rw [if_pos h4]
    rcases h4 with h4 | h4 | h4 <;> rw [h4] <;> rfl
  rw [if_neg h4, if_neg (by omega), if_neg (by omega)]
  have hB : isB t = true := decide_eq_true (by omega)
  show tabI (kindA c (b : Int)) = _
  unfold kindA
  rw [Int.toNat_natCast, List.getD_eq_getElem?_getD, hb hB]
  rfl
theorem sum_T {p : Prg} {c : Cd} : ∀ {l : List Tm} {b : Nat} {pre post : List Tm}, (∀ t ∈ l, trmT t.k t.nm t.n = true) → c.bs = pre ++ (l.filter isB ++ post) → pre.length = b → sumT c (csT p b l) = tTs l
  | [], _, _, _, _, _, _ => rfl
  | t :: l, b, pre, post, hk, hc, hp => by
    show timI c (insT p b t) + sumT c (csT p (b + nbT [t]) l) = tT t + tTs l
    have e1 : timI c (insT p b t) = tT t := by
      refine tim_T (hk t List.mem_cons_self) (fun hB => ?_)
      rw [hc, List.getElem?_append_right (by omega), hp, Nat.sub_self, List.filter_cons, if_pos hB]
      rfl
    rw [e1]
    congr 1
    refine sum_T (pre := pre ++ [t].filter isB) (post := post) (fun u hu => hk u (List.mem_cons_of_mem _ hu)) ?_ ?_
    · rw [hc, show t :: l = [t] ++ l from rfl, List.filter_append]
      simp
    · rw [List.length_append, hp]
      rfl
theorem sumT_app2 (c : Cd) : ∀ (l r : List Ins), sumT c (l ++ r) = sumT c l + sumT c r
  | [], r => by simp [sumT]
  | y :: t, r => by
    show timI c y + sumT c (t ++ r) = timI c y + sumT c t + sumT c r
    rw [sumT_app2 c t r]
    omega
theorem tim_tg (p : Prg) (c : Cd) (s : ByteArray) : timI c (tgI p s) = 3 := by
  unfold tgI
  split <;> rfl
theorem sum_L {p : Prg} {c : Cd} {l : Lin} {b : Nat} {pre post : List Tm} (hk : ∀ t ∈ l.ts, trmT t.k t.nm t.n = true) (hc : c.bs = pre ++ (blkL l ++ post)) (hp : pre.length = b) : sumT c (csL p b l) = tL l := by
  unfold csL tL
  rw [sumT_app2, sum_T hk hc hp]
  show tTs l.ts + (timI c (tgI p l.tg) + 0) = _
  rw [tim_tg]
  omega
/-- The blocks before a line, its own, and those behind it. -/
theorem blk_split {p : Prg} {k : Nat} {l : Lin} (h : p.ls[k]? = some l) : blk p = (p.ls.take k).flatMap blkL ++ (blkL l ++ (p.ls.drop (k + 1)).flatMap blkL) := by
  obtain ⟨hk, e⟩ := List.getElem?_eq_some_iff.1 h
  unfold blk
  conv => lhs; rw [← List.take_append_drop k p.ls, List.drop_eq_getElem_cons hk, e]
  rw [List.flatMap_append, List.flatMap_cons]
/-- The time of a line's steps is the line's time. -/
theorem sum_line {p : Prg} (h : Snd p) {k : Nat} {l : Lin} (hl : p.ls[k]? = some l) : sumT (cmp p) (csL p (nbL (p.ls.take k)) l) = tL l :=
  sum_L (pre := (p.ls.take k).flatMap blkL) (post := (p.ls.drop (k + 1)).flatMap blkL) (h.k l (List.mem_of_getElem? hl)) (blk_split hl) rfl
/-- The times of lines, read off the steps. -/
def ltS (c : Cd) : List Ins → Int → List Int
  | [], _ => []
  | x :: r, n => if x.o = 8 ∨ x.o = 9 then (n + timI c x) :: ltS c r 0 else ltS c r (n + timI c x)
theorem op_T (p : Prg) : ∀ {l : List Tm} {b : Nat}, (∀ t ∈ l, trmT t.k t.nm t.n = true) → ∀ x ∈ csT p b l, ¬ (x.o = 8 ∨ x.o = 9)
  | [], _, _, x, hx => absurd hx (by simp [csT])
  | t :: l, b, hk, x, hx => by
    rcases List.mem_cons.1 hx with rfl | hx
    · unfold insT nmI
      repeat' split
      all_goals (dsimp only; omega)
    · exact op_T p (fun u hu => hk u (List.mem_cons_of_mem _ hu)) x hx
theorem ltS_run (c : Cd) : ∀ {l : List Ins} (r : List Ins) (n : Int), (∀ x ∈ l, ¬ (x.o = 8 ∨ x.o = 9)) → ltS c (l ++ r) n = ltS c r (n + sumT c l)
  | [], r, n, _ => by simp [sumT]
  | y :: t, r, n, h => by
    show (if y.o = 8 ∨ y.o = 9 then (n + timI c y) :: ltS c (t ++ r) 0 else ltS c (t ++ r) (n + timI c y)) = ltS c r (n + (timI c y + sumT c t))
    rw [if_neg (h y List.mem_cons_self), ltS_run c r _ (fun x hx => h x (List.mem_cons_of_mem _ hx)), Int.add_assoc]
theorem ltS_L (p : Prg) (c : Cd) {l : Lin} {b : Nat} (hk : ∀ t ∈ l.ts, trmT t.k t.nm t.n = true) (r : List Ins) : ltS c (csL p b l ++ r) 0 = sumT c (csL p b l) :: ltS c r 0 := by
  unfold csL
  rw [List.append_assoc, ltS_run c _ _ (op_T p hk), sumT_app2]
  have ho : (tgI p l.tg).o = 8 ∨ (tgI p l.tg).o = 9 := by unfold tgI; split <;> simp
  show (if (tgI p l.tg).o = 8 ∨ (tgI p l.tg).o = 9 then (0 + sumT c (csT p b l.ts) + timI c (tgI p l.tg)) :: ltS c r 0 else _) = _
  rw [if_pos ho]
  congr 1
  show _ = sumT c (csT p b l.ts) + (timI c (tgI p l.tg) + 0)
  omega
theorem ltS_P {p : Prg} (h : Snd p) : ∀ (k : Nat) (pre r : List Lin), p.ls = pre ++ r → r.length = k → ltS (cmp p) (csP p (nbL pre) r ++ gdI p) 0 = r.map tL
  | 0, pre, r, _, hr => by
    obtain rfl : r = [] := List.eq_nil_of_length_eq_zero hr
    show ltS (cmp p) (gdI p) 0 = []
    unfold gdI nmI
    repeat' split
    all_goals rfl
  | k + 1, pre, r, e, hr => by
    match r, hr with
    | l :: r, hr =>
      have hz : p.ls[pre.length]? = some l := by rw [e, List.getElem?_append_right (Nat.le_refl _), Nat.sub_self]; rfl
      have htk : p.ls.take pre.length = pre := by rw [e]; simp
      show ltS (cmp p) (csL p (nbL pre) l ++ csP p (nbL pre + nbT l.ts) r ++ gdI p) 0 = tL l :: r.map tL
      have h1 := sum_line h hz
      rw [htk] at h1
      rw [List.append_assoc, ltS_L p _ (h.k l (List.mem_of_getElem? hz)), h1]
      congr 1
      rw [← nbL_snoc]
      exact ltS_P h k (pre ++ [l]) r (by rw [e]; simp) (by simpa using hr)
/-- The times of lines, read off the steps of a sound program's code, are the lines' times. -/
theorem ltS_cmp {p : Prg} (h : Snd p) : ltS (cmp p) (cmp p).ss 0 = p.ls.map tL := ltS_P h p.ls.length [] p.ls rfl rfl
end Go.Proofs.YteengjcplmjakaaGreatDoor

/- Append of an instruction; one step more of a program's code. No condition but the sizes. -/
namespace Go.Proofs.YteengjcplmjakaaGreatDoor
open Go.RowKit

theorem wpList_push_ins (w : World) {ops : Array Oper} {rest : List Oper} {o : Oper} {a : Act} {Q : Exit → Act → World → Prop} (hgd : o.guard = none) (s x : Operand)
    (ho : o.op = .call { callee := .builtin .append, args := #[s, x], argTypes := #[33, 33] })
    (base : Nat) (v : Value) (n : Nat) (l : List Ins) (t : Ins) (g c : Nat) (hs : a.eval s = v) (hown : w.ownsRow base 88 2 v n (insCells l))
    (hx : a.eval x = .slice (some ⟨g, 0, none⟩) 1 c) (h0 : w.cell? ⟨g, 0, none⟩ = some (.int .i64 t.o)) (h1 : w.cell? ⟨g, 1, none⟩ = some (.int .i64 t.a)) (hn : n ≤ 1048577) (hbase : base ≤ w.heap.size)
    (h : ∀ v' w', w'.ownsRow base 88 2 v' (n + 1) (insCells (l ++ [t])) → w.grownBy w' v.ownBlock → wpList Tryz.prog ops Q rest (a.put o.dst v') w') : wpList Tryz.prog ops Q (o :: rest) a w := by
  obtain ⟨i0, hi, hz0, hz1, hz2⟩ := info_parts info_iInstruction
  refine wpList_push w hgd s x 33 ho base 88 i0 _ 2 16 Tryz.underlying33 hi hz0 hz1 hz2 rfl (by decide) v n (insCells l) hs hown ⟨g, 0, none⟩ c t.cells hx rfl ?_ ?_ (by unfold maxLen; omega) (by omega) hbase ?_
  · intro j u hu
    match j, hu with
    | 0, hu => simp only [Ins.cells, List.getElem?_cons_zero, Option.some.injEq] at hu; rw [← hu]; simpa [Addr.add] using h0
    | 1, hu => simp only [Ins.cells, List.getElem?_cons_succ, List.getElem?_cons_zero, Option.some.injEq] at hu; rw [← hu]; simpa [Addr.add] using h1
  · intro u hu
    simp only [Ins.cells, List.mem_cons, List.not_mem_nil, or_false] at hu
    rcases hu with rfl | rfl <;> rfl
  · intro v' w' hown1 hgrow _ _
    refine h v' w' ?_ hgrow
    have e : insCells (l ++ [t]) = insCells l ++ t.cells := by simp [insCells]
    rw [e]
    exact hown1
theorem wp_push_ins (w : World) {o : Oper} {a : Act} {K : Act → World → Prop} {Q : Exit → Act → World → Prop} (s x : Operand)
    (ho : o.op = .call { callee := .builtin .append, args := #[s, x], argTypes := #[33, 33] })
    (base : Nat) (v : Value) (n : Nat) (l : List Ins) (t : Ins) (g c : Nat) (hs : a.eval s = v) (hown : w.ownsRow base 88 2 v n (insCells l))
    (hx : a.eval x = .slice (some ⟨g, 0, none⟩) 1 c) (h0 : w.cell? ⟨g, 0, none⟩ = some (.int .i64 t.o)) (h1 : w.cell? ⟨g, 1, none⟩ = some (.int .i64 t.a)) (hn : n ≤ 1048577) (hbase : base ≤ w.heap.size)
    (h : ∀ v' w', w'.ownsRow base 88 2 v' (n + 1) (insCells (l ++ [t])) → w.grownBy w' v.ownBlock → K (a.put o.dst v') w') : o.wp Tryz.prog a w K Q := by
  obtain ⟨i0, hi, hz0, hz1, hz2⟩ := info_parts info_iInstruction
  refine wp_push w s x 33 ho base 88 i0 _ 2 16 Tryz.underlying33 hi hz0 hz1 hz2 rfl (by decide) v n (insCells l) hs hown ⟨g, 0, none⟩ c t.cells hx rfl ?_ ?_ (by unfold maxLen; omega) (by omega) hbase ?_
  · intro j u hu
    match j, hu with
    | 0, hu => simp only [Ins.cells, List.getElem?_cons_zero, Option.some.injEq] at hu; rw [← hu]; simpa [Addr.add] using h0
    | 1, hu => simp only [Ins.cells, List.getElem?_cons_succ, List.getElem?_cons_zero, Option.some.injEq] at hu; rw [← hu]; simpa [Addr.add] using h1
  · intro u hu
    simp only [Ins.cells, List.mem_cons, List.not_mem_nil, or_false] at hu
    rcases hu with rfl | rfl <;> rfl
  · intro v' w' hown1 hgrow _ _
    refine h v' w' ?_ hgrow
    have e : insCells (l ++ [t]) = insCells l ++ t.cells := by simp [insCells]
    rw [e]
    exact hown1
theorem cell_mark' {w w' : World} {row : Option Nat} {a : Addr} {v : Value} (h : w.cell? a = some v) (hg : w.grownBy w' row) (hne : ∀ q, row = some q → q ≠ a.block) : w'.cell? a = some v :=
  (hg.cell_far a (World.block_lt_of_cell? w a h) (fun h' => hne _ h'.symm rfl)).trans h
theorem csP_step {p : Prg} {k : Nat} {l : Lin} (h : p.ls[k]? = some l) : csP p 0 (p.ls.take (k + 1)) = csP p 0 (p.ls.take k) ++ csL p (nbL (p.ls.take k)) l := by
  rw [List.take_add_one, h]
  show csP p 0 (p.ls.take k ++ [l]) = _
  rw [csP_snoc, Nat.zero_add]
theorem nbL_step {p : Prg} {k : Nat} {l : Lin} (h : p.ls[k]? = some l) : nbL (p.ls.take (k + 1)) = nbL (p.ls.take k) + nbT l.ts := by
  rw [List.take_add_one, h]
  show nbL (p.ls.take k ++ [l]) = _
  rw [nbL_snoc]
theorem csT_step {p : Prg} {b q : Nat} {ts : List Tm} {t : Tm} (h : ts[q]? = some t) : csT p b (ts.take (q + 1)) = csT p b (ts.take q) ++ [insT p (b + nbT (ts.take q)) t] := by
  rw [List.take_add_one, h]
  show csT p b (ts.take q ++ [t]) = _
  rw [csT_snoc]
theorem nbT_step {q : Nat} {ts : List Tm} {t : Tm} (h : ts[q]? = some t) : nbT (ts.take (q + 1)) = nbT (ts.take q) + (if isB t then 1 else 0) := by
  rw [List.take_add_one, h]
  show nbT (ts.take q ++ [t]) = _
  rw [nbT_snoc, nbT_one]
theorem nbT_le (l : List Tm) : nbT l ≤ l.length := List.length_filter_le _ _
theorem nbL_le {p : Prg} (h : PgB p) (k : Nat) : nbL (p.ls.take k) ≤ 1600 := by
  refine Nat.le_trans ?_ (blk_le h)
  unfold nbL blk
  conv => rhs; rw [← List.take_append_drop k p.ls, List.flatMap_append, List.length_append]
  omega
theorem insT_d {p : Prg} {b : Nat} {t : Tm} (h : 7 ≤ t.k) : insT p b t = ⟨7, b⟩ := by
  unfold insT
  rw [if_neg (by omega), if_neg (by omega), if_neg (by omega), if_neg (by omega)]
theorem tgI_v {p : Prg} {s : ByteArray} (h : 0 ≤ ixS p.vs s) : tgI p s = ⟨8, ixS p.vs s⟩ := if_pos h
theorem tgI_o {p : Prg} {s : ByteArray} (h : ixS p.vs s < 0) : tgI p s = ⟨9, ixS p.os s⟩ := if_neg (by omega)
end Go.Proofs.YteengjcplmjakaaGreatDoor

/- The program's compiler: emit, load. Condition: the lengths. -/
namespace Go.Proofs.YteengjcplmjakaaGreatDoor
open Go.RowKit

/-- The compiler in its box, its steps in a row of the call's own (blocks from base on), the program's blocks. -/
def XBox (w : World) (base b : Nat) (x : List Value) : Prop := w.ownsRow base 82 12 (.slice (some ⟨b, 0, none⟩) 1 1) 1 x
def xCells (p : Prg) (a1 a2 a3 a4 ab : Option Addr) (c1 c2 c3 c4 cb : Nat) (A : Option Addr) (n c : Nat) (nb : Int) : List Value :=
  [.string p.nm, .slice a1 p.ins.length c1, .slice a2 p.vs.length c2, .slice a3 p.os.length c3, .string p.gd, .slice a4 p.ls.length c4, .int .i64 p.ins.length, .int .i64 p.vs.length, .int .i64 p.os.length, .slice ab (blk p).length cb, .slice A n c, .int .i64 nb]
/-- Blocks that a compiler's methods touch. -/
def PI (base : Nat) (k : Nat) (o : Obj) : Prop := base ≤ k ∧ ∃ cur fz, o = .cells cur 82 fz ∨ o = .cells cur 88 fz
structure XS (w0 w : World) (b : Nat) (p : Prg) (a1 a2 a3 a4 ab : Option Addr) (c1 c2 c3 c4 cb : Nat) (A : Option Addr) (c : Nat) (S : List Ins) (nb : Nat) : Prop where
  box : XBox w w0.heap.size b (xCells p a1 a2 a3 a4 ab c1 c2 c3 c4 cb A S.length c nb)
  row : w.ownsRow w0.heap.size 88 2 (.slice A S.length c) S.length (insCells S)
  blk : w.ownsRow w0.heap.size 60 3 (.slice ab (blk p).length cb) (blk p).length (tmCells (blk p))
  bel : Below w0.heap.size w0 w
theorem XS.below {w0 w w' : World} {b : Nat} {p : Prg} {a1 a2 a3 a4 ab : Option Addr} {c1 c2 c3 c4 cb : Nat} {A : Option Addr} {c : Nat} {S : List Ins} {nb : Nat} (h : XS w0 w b p a1 a2 a3 a4 ab c1 c2 c3 c4 cb A c S nb) (hb : Below w.heap.size w w') : XS w0 w' b p a1 a2 a3 a4 ab c1 c2 c3 c4 cb A c S nb :=
  ⟨own_below h.box hb, own_below h.row hb, own_below h.blk hb, below_chain h.bel hb⟩
/-- What the methods read of the compiler. -/
theorem XS.cells {w0 w : World} {b : Nat} {p : Prg} {a1 a2 a3 a4 ab : Option Addr} {c1 c2 c3 c4 cb : Nat} {A : Option Addr} {c : Nat} {S : List Ins} {nb : Nat} (h : XS w0 w b p a1 a2 a3 a4 ab c1 c2 c3 c4 cb A c S nb) :
    (w.cell? ⟨b, 1, none⟩ = some (.slice a1 p.ins.length c1) ∧ w.cell? ⟨b, 2, none⟩ = some (.slice a2 p.vs.length c2) ∧ w.cell? ⟨b, 3, none⟩ = some (.slice a3 p.os.length c3)) ∧
    (w.cell? ⟨b, 6, none⟩ = some (.int .i64 p.ins.length) ∧ w.cell? ⟨b, 7, none⟩ = some (.int .i64 p.vs.length) ∧ w.cell? ⟨b, 8, none⟩ = some (.int .i64 p.os.length) ∧ w.cell? ⟨b, 9, none⟩ = some (.slice ab (Go.Proofs.YteengjcplmjakaaGreatDoor.blk p).length cb) ∧ w.cell? ⟨b, 10, none⟩ = some (.slice A S.length c)) ∧
    w.cell? ⟨b, 11, none⟩ = some (.int .i64 nb) ∧ (w.frozen? ⟨b, 10, none⟩ = false ∧ w.frozen? ⟨b, 11, none⟩ = false) ∧ w0.heap.size ≤ b ∧ b < w.heap.size :=
  ⟨⟨World.ownsRow.cellAt h.box 1 (by decide), World.ownsRow.cellAt h.box 2 (by decide), World.ownsRow.cellAt h.box 3 (by decide)⟩,
   ⟨World.ownsRow.cellAt h.box 6 (by decide), World.ownsRow.cellAt h.box 7 (by decide), World.ownsRow.cellAt h.box 8 (by decide), World.ownsRow.cellAt h.box 9 (by decide), World.ownsRow.cellAt h.box 10 (by decide)⟩,
   World.ownsRow.cellAt h.box 11 (by decide), ⟨World.ownsRow.frozenAt h.box 10, World.ownsRow.frozenAt h.box 11⟩, own_ge h.box⟩
theorem fr_box {w : World} {base b : Nat} {x : List Value} (h : XBox w base b x) {j : Nat} (v : Value) : Fr (PI base) w (w.setCell ⟨b, j, none⟩ v) :=
  Fr.of_grown (World.ownsRow.stored h j v).2 (fun q o hq ho => by
    obtain ⟨h1, cur, h2⟩ := own_kind h hq ho
    exact ⟨h1, cur, _, .inl h2⟩)
theorem fr_row {w w' : World} {base n : Nat} {v : Value} {x : List Value} (h : w.ownsRow base 88 2 v n x) (hg : w.grownBy w' v.ownBlock) : Fr (PI base) w w' :=
  Fr.of_grown hg (fun q o hq ho => by
    obtain ⟨h1, cur, h2⟩ := own_kind h hq ho
    exact ⟨h1, cur, _, .inr h2⟩)
/-- The steps grow: the new row, then the box's cell. -/
theorem XS.push {w0 w w' : World} {b : Nat} {p : Prg} {a1 a2 a3 a4 ab : Option Addr} {c1 c2 c3 c4 cb : Nat} {A A' : Option Addr} {c c' : Nat} {S S' : List Ins} {nb : Nat} {n : Nat} (h : XS w0 w b p a1 a2 a3 a4 ab c1 c2 c3 c4 cb A c S nb)
    (hg : w.grownBy w' (Value.slice A S.length c).ownBlock) (ho : w'.ownsRow w0.heap.size 88 2 (.slice A' n c') n (insCells S')) (hn : n = S'.length) :
    XS w0 (w'.setCell ⟨b, 10, none⟩ (.slice A' n c')) b p a1 a2 a3 a4 ab c1 c2 c3 c4 cb A' c' S' nb ∧ Fr (PI w0.heap.size) w (w'.setCell ⟨b, 10, none⟩ (.slice A' n c')) := by
  subst hn
  have hb' : XBox w' w0.heap.size b _ := h.box.kept hg (.inr (fun e => own_ne h.box h.row (by decide) b rfl e.symm))
  have hst := World.ownsRow.stored hb' 10 (.slice A' S'.length c')
  have hblk : w'.ownsRow w0.heap.size 60 3 _ _ _ := h.blk.kept hg (by
    rcases hv : (Value.slice ab (Go.Proofs.YteengjcplmjakaaGreatDoor.blk p).length cb).ownBlock with _ | q
    · exact .inl rfl
    · exact .inr (fun e => own_ne h.blk h.row (by decide) q hv e.symm))
  have hF := (fr_row h.row hg).trans (fr_box hb' (j := 10) (.slice A' S'.length c'))
  refine ⟨⟨hst.1, ho.kept hst.2 ?_, hblk.kept hst.2 ?_, ?_⟩, hF⟩
  · rcases hv : (Value.slice A' S'.length c').ownBlock with _ | q
    · exact .inl rfl
    · exact .inr (fun e => own_ne ho hb' (by decide) q hv e.symm)
  · rcases hv : (Value.slice ab (Go.Proofs.YteengjcplmjakaaGreatDoor.blk p).length cb).ownBlock with _ | q
    · exact .inl rfl
    · exact .inr (fun e => own_ne hblk hb' (by decide) q hv e.symm)
  · exact h.bel.trans (hF.below (fun k o hp => hp.1) h.bel.size)
/-- The block counter is set. -/
theorem XS.count {w0 w : World} {b : Nat} {p : Prg} {a1 a2 a3 a4 ab : Option Addr} {c1 c2 c3 c4 cb : Nat} {A : Option Addr} {c : Nat} {S : List Ins} {nb : Nat} (h : XS w0 w b p a1 a2 a3 a4 ab c1 c2 c3 c4 cb A c S nb) (nb' : Nat) :
    XS w0 (w.setCell ⟨b, 11, none⟩ (.int .i64 nb')) b p a1 a2 a3 a4 ab c1 c2 c3 c4 cb A c S nb' ∧ Fr (PI w0.heap.size) w (w.setCell ⟨b, 11, none⟩ (.int .i64 nb')) := by
  have hst := World.ownsRow.stored h.box 11 (.int .i64 nb')
  have hF := fr_box h.box (j := 11) (.int .i64 nb')
  refine ⟨⟨hst.1, h.row.kept hst.2 ?_, h.blk.kept hst.2 ?_, ?_⟩, hF⟩
  · rcases hv : (Value.slice A S.length c).ownBlock with _ | q
    · exact .inl rfl
    · exact .inr (fun e => own_ne h.row h.box (by decide) q hv e.symm)
  · rcases hv : (Value.slice ab (Go.Proofs.YteengjcplmjakaaGreatDoor.blk p).length cb).ownBlock with _ | q
    · exact .inl rfl
    · exact .inr (fun e => own_ne h.blk h.box (by decide) q hv e.symm)
  · exact h.bel.trans (hF.below (fun k o hp => hp.1) h.bel.size)
/-- What a method of the compiler does: steps are added, the counter grows. -/
def RetX (w0 : World) (b : Nat) (p : Prg) (a1 a2 a3 a4 ab : Option Addr) (c1 c2 c3 c4 cb : Nat) (S : List Ins) (nb : Nat) (w : World) (e : Ending) (w' : World) : Prop :=
  e = .returned (.tuple #[]) ∧ (∃ A c, XS w0 w' b p a1 a2 a3 a4 ab c1 c2 c3 c4 cb A c S nb) ∧ Fr (PI w0.heap.size) w w'
set_option maxHeartbeats 1000000 in
set_option maxRecDepth 100000 in
theorem c_emit (w0 : World) (b : Nat) (p : Prg) (a1 a2 a3 a4 ab : Option Addr) (c1 c2 c3 c4 cb : Nat) (A : Option Addr) (c : Nat) (S : List Ins) (nb : Nat) (o a : Int) (w : World) (hS : S.length ≤ 3000) (h : XS w0 w b p a1 a2 a3 a4 ab c1 c2 c3 c4 cb A c S nb) :
    Calls Tryz.prog 91 #[.pointer (some ⟨b, 0, none⟩), .int .i64 o, .int .i64 a] w (RetX w0 b p a1 a2 a3 a4 ab c1 c2 c3 c4 cb (S ++ [⟨o, a⟩]) nb w) := by
  have HA := Lib.hid (h.below (below_alloc (Below.refl w.heap.size w) (.cells #[.int .i64 o, .int .i64 a] 88)))
  have HF := Lib.hid (show Fr (PI w0.heap.size) w (w.alloc (.cells #[.int .i64 o, .int .i64 a] 88)) from Fr.of_below (below_alloc (Below.refl w.heap.size w) _))
  obtain ⟨_, ⟨_, _, _, _, k10⟩, _, _, hb1, hb2⟩ := h.cells
  have HZ := Lib.hid (Nat.le_trans hb1 (Nat.le_of_lt hb2))
  clear h
  go_enter Tryz.func91, Tryz.ntmps91
  go_wp2_with (first
    | (at_builtin
       refine wpList_push_ins _ rfl (.tmp 11) (.tmp 15) rfl w0.heap.size _ S.length S ⟨o, a⟩ w.heap.size 1 rfl HA.out.row rfl (by go_simp) (by go_simp) (by omega) HA.out.bel.size ?_
       intro v7 w7 hown hgrow
       obtain ⟨A9, c9, rfl⟩ := own_shape hown
       have HP := Lib.hid (HA.out.push hgrow hown (by simp))
       have f10 := (World.ownsRow.frozenAt (HA.out.box.kept hgrow (.inr (fun e => own_ne HA.out.box HA.out.row (by decide) b rfl e.symm))) 10)
       have e10 := (World.ownsRow.cellAt (HA.out.box.kept hgrow (.inr (fun e => own_ne HA.out.box HA.out.row (by decide) b rfl e.symm))) 10 (by decide))
       clear hown hgrow k10)
    )
  go_end0
  exact ⟨rfl, ⟨_, _, HP.out.1⟩, HF.out.trans HP.out.2⟩
end Go.Proofs.YteengjcplmjakaaGreatDoor

/- The reference's compiler: l17Name. Condition: the lengths. -/
namespace Go.Proofs.YteengjcplmjakaaGreatDoor
open Go.RowKit

/-- The box of an instruction that is handed back. -/
def XR (w : World) (b : Nat) : Prop := w.cell? ⟨b, 0, none⟩ = some (.int .i64 0) ∧ w.cell? ⟨b, 1, none⟩ = some (.int .i64 0) ∧ w.frozen? ⟨b, 0, none⟩ = false ∧ w.frozen? ⟨b, 1, none⟩ = false
theorem XR.below {w w' : World} {b : Nat} (h : XR w b) (hb : Below w.heap.size w w') : XR w' b :=
  ⟨cell_later hb h.1, cell_later hb h.2.1, frozen_later hb (World.block_lt_of_cell? _ _ h.1) h.2.2.1, frozen_later hb (World.block_lt_of_cell? _ _ h.2.1) h.2.2.2⟩
theorem nmI_in {p : Prg} {s : ByteArray} {a b : Int} (h : 0 ≤ ixS p.ins s) : nmI p s a b = ⟨a, ixS p.ins s⟩ := if_pos h
theorem nmI_va {p : Prg} {s : ByteArray} {a b : Int} (h : ¬ 0 ≤ ixS p.ins s) : nmI p s a b = ⟨b, ixS p.vs s⟩ := if_neg h
set_option maxHeartbeats 1000000 in
set_option maxRecDepth 100000 in
theorem c_l17Name (p : Prg) (a1 a2 a3 a4 : Option Addr) (c1 c2 c3 c4 : Nat) (s : ByteArray) (a b : Int) (w : World) (hs : PgOk p) (h : PgR w a1 a2 a3 a4 p) :
    Calls Tryz.prog 94 #[pv p a1 a2 a3 a4 c1 c2 c3 c4, .string s, .int .i64 a, .int .i64 b] w fun e w' => e = .returned (.agg #[.int .i64 (nmI p s a b).o, .int .i64 (nmI p s a b).a]) ∧ Below w.heap.size w w' := by
  have H := Lib.hid h
  have HI := Lib.hid (fun w h => c_l14Index a1 c1 _ p.ins s w rfl hs.i.1 h)
  have HJ := Lib.hid (fun w h => c_l14Index a2 c2 _ p.vs s w rfl hs.v.1 h)
  have HV : Hid (0 ≤ ixS p.ins s ∧ nmI p s a b = ⟨a, ixS p.ins s⟩ ∨ ixS p.ins s < 0 ∧ nmI p s a b = ⟨b, ixS p.vs s⟩) := Lib.hid (by
    by_cases h0 : 0 ≤ ixS p.ins s
    · exact .inl ⟨h0, nmI_in h0⟩
    · exact .inr ⟨by omega, nmI_va h0⟩)
  generalize nmI p s a b = R at *
  generalize ixS p.ins s = z at *
  generalize ixS p.vs s = z2 at *
  have B0 := Lib.hid (below_alloc (below_alloc (Below.refl w.heap.size w) (.cells #[.string p.nm, .slice a1 p.ins.length c1, .slice a2 p.vs.length c2, .slice a3 p.os.length c3, .string p.gd, .slice a4 p.ls.length c4] 27)) (.cells #[.int .i64 0, .int .i64 0] 88))
  have HP : Hid (PB ((w.alloc (.cells #[.string p.nm, .slice a1 p.ins.length c1, .slice a2 p.vs.length c2, .slice a3 p.os.length c3, .string p.gd, .slice a4 p.ls.length c4] 27)).alloc (.cells #[.int .i64 0, .int .i64 0] 88)) w.heap.size p a1 a2 a3 a4 c1 c2 c3 c4) := Lib.hid ⟨by go_simp, by go_simp, by go_simp, by go_simp, by go_simp, by go_simp⟩
  have HX : Hid (XR ((w.alloc (.cells #[.string p.nm, .slice a1 p.ins.length c1, .slice a2 p.vs.length c2, .slice a3 p.os.length c3, .string p.gd, .slice a4 p.ls.length c4] 27)).alloc (.cells #[.int .i64 0, .int .i64 0] 88)) (w.heap.size + 1)) := Lib.hid ⟨by go_simp, by go_simp, by go_simp, by go_simp⟩
  clear hs h
  go_enter Tryz.func94, Tryz.ntmps94
  dsimp only [pv]
  go_upto_region 1 with (fail)
  generalize (w.alloc (.cells #[.string p.nm, .slice a1 p.ins.length c1, .slice a2 p.vs.length c2, .slice a3 p.os.length c3, .string p.gd, .slice a4 p.ls.length c4] 27)).alloc (.cells #[.int .i64 0, .int .i64 0] 88) = W at *
  obtain ⟨k0, k1, k2, k3, k4, k5⟩ := HP.out
  go_wp2_with (fail)
  refine (HI.out _ (H.out.i.below B0.out)).mono ?_
  rintro e w1 ⟨rfl, hb⟩
  have B1 := Lib.hid (below_chain B0.out hb)
  have HX1 := Lib.hid (HX.out.below hb)
  replace k2 := cell_later hb k2
  clear hb k0 k1 k3 k4 k5 HP HX
  rcases HV.out with ⟨h0, rfl⟩ | ⟨h0, rfl⟩
  · obtain ⟨x0, x1, f0, f1⟩ := HX1.out
    have hz := World.block_lt_of_cell? _ _ x0
    clear HV
    go_wp2_with (fail)
    refine bodyPost_ret (v := .agg #[.int .i64 a, .int .i64 z]) (by simp [results, Tryz.results94, go_sem, x0, x1]) rfl ⟨rfl, below_set (below_set B1.out _ (by simp)) _ (by simp)⟩
  · clear HV
    go_wp2_with (fail)
    refine (HJ.out _ (H.out.v.below B1.out)).mono ?_
    rintro e w2 ⟨rfl, hb⟩
    have B2 := Lib.hid (below_chain B1.out hb)
    have HX2 := Lib.hid (HX1.out.below hb)
    obtain ⟨x0, x1, f0, f1⟩ := HX2.out
    have hz := World.block_lt_of_cell? _ _ x0
    clear hb k2
    go_wp2_with (fail)
    refine bodyPost_ret (v := .agg #[.int .i64 b, .int .i64 z2]) (by simp [results, Tryz.results94, go_sem, x0, x1]) rfl ⟨rfl, below_set (below_set B2.out _ (by simp)) _ (by simp)⟩
end Go.Proofs.YteengjcplmjakaaGreatDoor

/- The program's compiler: load, term, line (printed by QCj.py). Condition: the lengths. -/
namespace Go.Proofs.YteengjcplmjakaaGreatDoor
open Go.RowKit

set_option maxHeartbeats 1000000 in
set_option maxRecDepth 100000 in
theorem c_load (w0 : World) (b : Nat) (p : Prg) (a1 a2 a3 a4 ab : Option Addr) (c1 c2 c3 c4 cb : Nat) (A : Option Addr) (c : Nat) (S : List Ins) (nb : Nat) (s : ByteArray) (oa ob : Int) (w : World) (hs : PgOk p) (hS : S.length ≤ 3000) (hp : PgR w0 a1 a2 a3 a4 p) (h : XS w0 w b p a1 a2 a3 a4 ab c1 c2 c3 c4 cb A c S nb) :
    Calls Tryz.prog 103 #[.pointer (some ⟨b, 0, none⟩), .string s, .int .i64 oa, .int .i64 ob] w (RetX w0 b p a1 a2 a3 a4 ab c1 c2 c3 c4 cb (S ++ [nmI p s oa ob]) nb w) := by
  have HX := Lib.hid h
  have HP := Lib.hid hp
  have HI := Lib.hid (fun w h => c_IndexS a1 c1 _ p.ins s w rfl hs.i.1 h)
  have HJ := Lib.hid (fun w h => c_IndexS a2 c2 _ p.vs s w rfl hs.v.1 h)
  have HE := Lib.hid (fun o a w h => c_emit w0 b p a1 a2 a3 a4 ab c1 c2 c3 c4 cb A c S nb o a w hS h)
  have HV : Hid (0 ≤ ixS p.ins s ∧ nmI p s oa ob = ⟨oa, ixS p.ins s⟩ ∨ ixS p.ins s < 0 ∧ nmI p s oa ob = ⟨ob, ixS p.vs s⟩) := Lib.hid (by
    by_cases h0 : 0 ≤ ixS p.ins s
    · exact .inl ⟨h0, nmI_in h0⟩
    · exact .inr ⟨by omega, nmI_va h0⟩)
  generalize nmI p s oa ob = R at *
  generalize ixS p.ins s = z at *
  generalize ixS p.vs s = z2 at *
  obtain ⟨⟨k1, k2, k3⟩, _, k11, _, hb1, hb2⟩ := h.cells
  clear h hp hs
  go_enter Tryz.func103, Tryz.ntmps103
  go_wp2_with (fail)
  refine (HI.out _ ((HP.out.i.below HX.out.bel))).mono ?_
  rintro e w1 ⟨rfl, hb⟩
  have HX1 := Lib.hid (HX.out.below hb)
  have HF1 := Lib.hid (show Fr (PI w0.heap.size) w w1 from Fr.of_below hb)
  clear hb k1 k2 k3 k11 hb1 hb2
  obtain ⟨⟨k1, k2, k3⟩, _, k11, _, hb1, hb2⟩ := HX1.out.cells
  rcases HV.out with ⟨h0, rfl⟩ | ⟨h0, rfl⟩
  · clear HV k1 k2 k3 k11
    go_wp2_with (fail)
    refine (HE.out oa z _ HX1.out).mono ?_
    rintro e w2 ⟨rfl, hx, hf⟩
    have HX2 := Lib.hid hx
    have HF2 := Lib.hid (HF1.out.trans hf)
    clear hx hf
    go_wp2_with (fail)
    go_end0
    exact ⟨rfl, HX2.out, HF2.out⟩
  · clear HV
    go_wp2_with (fail)
    refine (HJ.out _ ((HP.out.v.below HX1.out.bel))).mono ?_
    rintro e w2 ⟨rfl, hb⟩
    have HX2 := Lib.hid (HX1.out.below hb)
    have HF2 := Lib.hid (HF1.out.trans (Fr.of_below hb))
    clear hb k1 k2 k3 k11
    go_wp2_with (fail)
    refine (HE.out ob z2 _ HX2.out).mono ?_
    rintro e w3 ⟨rfl, hx, hf⟩
    have HX3 := Lib.hid hx
    have HF3 := Lib.hid (HF2.out.trans hf)
    clear hx hf
    go_wp2_with (fail)
    go_end0
    exact ⟨rfl, HX3.out, HF3.out⟩
set_option maxRecDepth 100000 in
theorem c_truth (x : Bool) (w : World) : Calls Tryz.prog 139 #[.bool x] w fun e w' => e = .returned (.int .i64 (if x then 1 else 0)) ∧ w = w' := by
  cases x
  · skip
    go_enter Tryz.func139, Tryz.ntmps139
    go_wp2_with (fail)
    go_ret
    exact ⟨rfl, rfl⟩
  · skip
    go_enter Tryz.func139, Tryz.ntmps139
    go_wp2_with (fail)
    go_ret
    exact ⟨rfl, rfl⟩
theorem retX_of {w0 : World} {b : Nat} {p : Prg} {a1 a2 a3 a4 ab : Option Addr} {c1 c2 c3 c4 cb : Nat} {S S' : List Ins} {nb nb' : Nat} {w w' : World} (h1 : S' = S) (h2 : nb' = nb) (hx : ∃ A c, XS w0 w' b p a1 a2 a3 a4 ab c1 c2 c3 c4 cb A c S nb) (hf : Fr (PI w0.heap.size) w w') :
    RetX w0 b p a1 a2 a3 a4 ab c1 c2 c3 c4 cb S' nb' w (.returned (.tuple #[])) w' := by
  subst h1; subst h2
  exact ⟨rfl, hx, hf⟩
set_option maxHeartbeats 2000000 in
set_option maxRecDepth 100000 in
theorem c_term (w0 : World) (b : Nat) (p : Prg) (a1 a2 a3 a4 ab : Option Addr) (c1 c2 c3 c4 cb : Nat) (A : Option Addr) (c : Nat) (S : List Ins) (nb : Nat) (t : Tm) (w : World) (hs : PgOk p) (hk : trmT t.k t.nm t.n = true) (hS : S.length ≤ 2900) (hn : nb ≤ 2900) (hp : PgR w0 a1 a2 a3 a4 p) (h : XS w0 w b p a1 a2 a3 a4 ab c1 c2 c3 c4 cb A c S nb) :
    Calls Tryz.prog 89 #[.pointer (some ⟨b, 0, none⟩), .agg #[.int .i64 t.k, .string t.nm, .int .i64 t.n]] w (RetX w0 b p a1 a2 a3 a4 ab c1 c2 c3 c4 cb (S ++ [insT p nb t]) (nb + nbT [t]) w) := by
  obtain ⟨tk, tm, tx⟩ := t
  have hkk := trm_k hk
  dsimp only at hkk ⊢
  have hal := below_alloc (Below.refl w.heap.size w) (.cells #[.int .i64 tk, .string tm, .int .i64 tx] 60)
  have HX := Lib.hid (h.below hal)
  have HF := Lib.hid (show Fr (PI w0.heap.size) w _ from Fr.of_below hal)
  have HL := Lib.hid (fun s oa ob w h => c_load w0 b p a1 a2 a3 a4 ab c1 c2 c3 c4 cb A c S nb s oa ob w hs (by omega) hp h)
  have HE := Lib.hid (fun o a w h => c_emit w0 b p a1 a2 a3 a4 ab c1 c2 c3 c4 cb A c S nb o a w (by omega) h)
  have x0 : (w.alloc (.cells #[.int .i64 tk, .string tm, .int .i64 tx] 60)).cell? ⟨w.heap.size, 0, none⟩ = some (.int .i64 tk) := by go_simp
  have x1 : (w.alloc (.cells #[.int .i64 tk, .string tm, .int .i64 tx] 60)).cell? ⟨w.heap.size, 1, none⟩ = some (.string tm) := by go_simp
  clear hal h hk hs hp
  rcases (show tk = 1 ∨ tk = 2 ∨ tk = 3 ∨ tk = 4 ∨ tk = 5 ∨ tk = 6 ∨ 7 ≤ tk by omega) with rfl | rfl | rfl | rfl | rfl | rfl | h7
  · have HI : Hid (insT p nb ⟨1, tm, tx⟩ = nmI p tm 2 3) := Lib.hid rfl
    have HB : Hid (nb + nbT [⟨1, tm, tx⟩] = nb) := Lib.hid rfl
    go_enter Tryz.func89, Tryz.ntmps89
    go_upto_region 1 with (fail)
    generalize w.alloc (.cells #[.int .i64 1, .string tm, .int .i64 tx] 60) = W at *
    clear hkk
    go_wp2_with (fail)
    refine (HL.out tm 2 3 _ HX.out).mono ?_
    rintro e w2 ⟨rfl, hx, hf⟩
    have HX2 := Lib.hid hx
    have HF2 := Lib.hid (HF.out.trans hf)
    clear hx hf
    go_wp2_with (fail)
    go_end0
    exact retX_of (congrArg (S ++ [·]) HI.out) HB.out HX2.out HF2.out
  · have HI : Hid (insT p nb ⟨2, tm, tx⟩ = ⟨1, 1⟩) := Lib.hid rfl
    have HB : Hid (nb + nbT [⟨2, tm, tx⟩] = nb) := Lib.hid rfl
    go_enter Tryz.func89, Tryz.ntmps89
    go_upto_region 1 with (fail)
    generalize w.alloc (.cells #[.int .i64 2, .string tm, .int .i64 tx] 60) = W at *
    clear hkk
    go_wp2_with (first
      | (go_at_call 139
         refine (c_truth true _).mono ?_
         rintro e w' ⟨rfl, rfl⟩)
      )
    refine (HE.out 1 1 _ HX.out).mono ?_
    rintro e w2 ⟨rfl, hx, hf⟩
    have HX2 := Lib.hid hx
    have HF2 := Lib.hid (HF.out.trans hf)
    clear hx hf
    go_wp2_with (fail)
    go_end0
    exact retX_of (congrArg (S ++ [·]) HI.out) HB.out HX2.out HF2.out
  · have HI : Hid (insT p nb ⟨3, tm, tx⟩ = ⟨1, 0⟩) := Lib.hid rfl
    have HB : Hid (nb + nbT [⟨3, tm, tx⟩] = nb) := Lib.hid rfl
    go_enter Tryz.func89, Tryz.ntmps89
    go_upto_region 1 with (fail)
    generalize w.alloc (.cells #[.int .i64 3, .string tm, .int .i64 tx] 60) = W at *
    clear hkk
    go_wp2_with (first
      | (go_at_call 139
         refine (c_truth false _).mono ?_
         rintro e w' ⟨rfl, rfl⟩)
      )
    refine (HE.out 1 0 _ HX.out).mono ?_
    rintro e w2 ⟨rfl, hx, hf⟩
    have HX2 := Lib.hid hx
    have HF2 := Lib.hid (HF.out.trans hf)
    clear hx hf
    go_wp2_with (fail)
    go_end0
    exact retX_of (congrArg (S ++ [·]) HI.out) HB.out HX2.out HF2.out
  · have HI : Hid (insT p nb ⟨4, tm, tx⟩ = ⟨4, 0⟩) := Lib.hid rfl
    have HB : Hid (nb + nbT [⟨4, tm, tx⟩] = nb) := Lib.hid rfl
    go_enter Tryz.func89, Tryz.ntmps89
    go_upto_region 1 with (fail)
    generalize w.alloc (.cells #[.int .i64 4, .string tm, .int .i64 tx] 60) = W at *
    clear hkk
    go_wp2_with (fail)
    refine (HE.out 4 0 _ HX.out).mono ?_
    rintro e w2 ⟨rfl, hx, hf⟩
    have HX2 := Lib.hid hx
    have HF2 := Lib.hid (HF.out.trans hf)
    clear hx hf
    go_wp2_with (fail)
    go_end0
    exact retX_of (congrArg (S ++ [·]) HI.out) HB.out HX2.out HF2.out
  · have HI : Hid (insT p nb ⟨5, tm, tx⟩ = ⟨5, 0⟩) := Lib.hid rfl
    have HB : Hid (nb + nbT [⟨5, tm, tx⟩] = nb) := Lib.hid rfl
    go_enter Tryz.func89, Tryz.ntmps89
    go_upto_region 1 with (fail)
    generalize w.alloc (.cells #[.int .i64 5, .string tm, .int .i64 tx] 60) = W at *
    clear hkk
    go_wp2_with (fail)
    refine (HE.out 5 0 _ HX.out).mono ?_
    rintro e w2 ⟨rfl, hx, hf⟩
    have HX2 := Lib.hid hx
    have HF2 := Lib.hid (HF.out.trans hf)
    clear hx hf
    go_wp2_with (fail)
    go_end0
    exact retX_of (congrArg (S ++ [·]) HI.out) HB.out HX2.out HF2.out
  · have HI : Hid (insT p nb ⟨6, tm, tx⟩ = ⟨6, 0⟩) := Lib.hid rfl
    have HB : Hid (nb + nbT [⟨6, tm, tx⟩] = nb) := Lib.hid rfl
    go_enter Tryz.func89, Tryz.ntmps89
    go_upto_region 1 with (fail)
    generalize w.alloc (.cells #[.int .i64 6, .string tm, .int .i64 tx] 60) = W at *
    clear hkk
    go_wp2_with (fail)
    refine (HE.out 6 0 _ HX.out).mono ?_
    rintro e w2 ⟨rfl, hx, hf⟩
    have HX2 := Lib.hid hx
    have HF2 := Lib.hid (HF.out.trans hf)
    clear hx hf
    go_wp2_with (fail)
    go_end0
    exact retX_of (congrArg (S ++ [·]) HI.out) HB.out HX2.out HF2.out
  · have HI : Hid (insT p nb ⟨tk, tm, tx⟩ = ⟨7, (nb : Int)⟩) := Lib.hid (insT_d h7)
    have HB : Hid (nb + nbT [⟨tk, tm, tx⟩] = nb + 1) := Lib.hid (by rw [nbT_one, if_pos (show isB ⟨tk, tm, tx⟩ = true from decide_eq_true h7)])
    have e1 : (tk == 1) = false := by simp; omega
    have e2 : (tk == 2) = false := by simp; omega
    have e3 : (tk == 3) = false := by simp; omega
    have e4 : (tk == 4) = false := by simp; omega
    have e5 : (tk == 5) = false := by simp; omega
    have e6 : (tk == 6) = false := by simp; omega
    go_enter Tryz.func89, Tryz.ntmps89
    go_upto_region 1 with (fail)
    generalize w.alloc (.cells #[.int .i64 tk, .string tm, .int .i64 tx] 60) = W at *
    have hw9 : IntKind.i64.wrap ((nb : Int) + 1) = (nb : Int) + 1 := IntWalk.i64_in _ (by omega)
    obtain ⟨_, _, k11, ⟨_, f11⟩, hb1, hb2⟩ := HX.out.cells
    clear hkk h7
    go_wp2_with (fail)
    refine (HE.out 7 nb _ HX.out).mono ?_
    rintro e w2 ⟨rfl, ⟨A9, c9, hx⟩, hf⟩
    have HX2 := Lib.hid (hx.count (nb + 1))
    have HF2 := Lib.hid (HF.out.trans (hf.trans HX2.out.2))
    clear k11 f11 hb1 hb2
    obtain ⟨_, _, k11, ⟨_, f11⟩, hb1, hb2⟩ := hx.cells
    clear hx hf
    go_wp2_with (fail)
    go_end0
    exact retX_of (congrArg (S ++ [·]) HI.out) HB.out ⟨_, _, HX2.out.1⟩ HF2.out
theorem Fr.obj {P : Nat → Obj → Prop} {w a : World} (h : Fr P w a) {k : Nat} {o : Obj} (hk : w.heap[k]? = some o) (hp : ¬ P k o) : a.heap[k]? = some o := (h.blk k o hk).elim id (fun e => absurd e hp)
theorem pi_no {base k : Nat} {cur : Array Value} {e : TypeId} {fz : Nat × Nat} (h1 : e ≠ 82) (h2 : e ≠ 88) : ¬ PI base k (.cells cur e fz) := by
  rintro ⟨_, c, f, h | h⟩
  · simp only [Obj.cells.injEq] at h; exact h1 h.2.1
  · simp only [Obj.cells.injEq] at h; exact h2 h.2.1
theorem cell_obj {w : World} {k j : Nat} {cur : Array Value} {e : TypeId} {v : Value} (h : w.heap[k]? = some (.cells cur e (0, 0))) (hv : cur[j]? = some v) : w.cell? ⟨k, j, none⟩ = some v := by
  unfold World.cell?
  rw [h]
  exact hv
set_option maxHeartbeats 2000000 in
set_option maxRecDepth 100000 in
theorem c_line (w0 : World) (b : Nat) (p : Prg) (a1 a2 a3 a4 ab : Option Addr) (c1 c2 c3 c4 cb : Nat) (A : Option Addr) (c : Nat) (S : List Ins) (nb : Nat) (tg : ByteArray) (ts : List Tm) (la : Option Addr) (lc : Nat) (w : World) (hs : PgOk p) (hk : ∀ t ∈ ts, trmT t.k t.nm t.n = true) (hts : ts.length ≤ 40) (hS : S.length ≤ 2000) (hn : nb ≤ 2000) (hp : PgR w0 a1 a2 a3 a4 p) (hr : Rd w0 la (tmCells ts)) (h : XS w0 w b p a1 a2 a3 a4 ab c1 c2 c3 c4 cb A c S nb) :
    Calls Tryz.prog 42 #[.pointer (some ⟨b, 0, none⟩), .agg #[.string tg, .slice la ts.length lc]] w (RetX w0 b p a1 a2 a3 a4 ab c1 c2 c3 c4 cb (S ++ csL p nb ⟨tg, ts⟩) (nb + nbT ts) w) := by
  have hal := below_alloc (Below.refl w.heap.size w) (.cells #[.string tg, .slice la ts.length lc] 80)
  have HX := Lib.hid (h.below hal)
  have HF := Lib.hid (show Fr (PI w0.heap.size) w _ from Fr.of_below hal)
  have HP := Lib.hid hp
  have HR := Lib.hid hr
  have HK := Lib.hid hk
  have HT := Lib.hid (fun A c S nb t w hk hS hn h => c_term w0 b p a1 a2 a3 a4 ab c1 c2 c3 c4 cb A c S nb t w hs hk hS hn hp h)
  have HE := Lib.hid (fun A c S nb o a w hS h => c_emit w0 b p a1 a2 a3 a4 ab c1 c2 c3 c4 cb A c S nb o a w hS h)
  have HI := Lib.hid (fun w h => c_IndexS a2 c2 _ p.vs tg w rfl hs.v.1 h)
  have HJ := Lib.hid (fun w h => c_IndexS a3 c3 _ p.os tg w rfl hs.o.1 h)
  have HO : Hid ((w.alloc (.cells #[.string tg, .slice la ts.length lc] 80)).heap[w.heap.size]? = some (.cells #[.string tg, .slice la ts.length lc] 80 (0, 0))) := Lib.hid (Go.MapKept.heap_alloc w _).1
  have hcl : S.length + (csT p nb ts).length ≤ 2040 := by rw [csT_len]; omega
  have hnt := nbT_le ts
  have HV : Hid (0 ≤ ixS p.vs tg ∧ tgI p tg = ⟨8, ixS p.vs tg⟩ ∨ ixS p.vs tg < 0 ∧ tgI p tg = ⟨9, ixS p.os tg⟩) := Lib.hid (by
    by_cases h0 : 0 ≤ ixS p.vs tg
    · exact .inl ⟨h0, tgI_v h0⟩
    · exact .inr ⟨by omega, tgI_o (by omega)⟩)
  have HL : Hid (csL p nb ⟨tg, ts⟩ = csT p nb ts ++ [tgI p tg]) := Lib.hid rfl
  generalize csL p nb ⟨tg, ts⟩ = LL at *
  generalize tgI p tg = TG at *
  generalize ixS p.vs tg = z at *
  generalize ixS p.os tg = z2 at *
  clear hal h hs hp hr hk
  go_enter Tryz.func42, Tryz.ntmps42
  go_upto_region 1 with (fail)
  generalize w.alloc (.cells #[.string tg, .slice la ts.length lc] 80) = W at *
  have x0 := cell_obj (j := 0) HO.out rfl
  have x1 := cell_obj (j := 1) HO.out rfl
  go_wp2_with (fail)
  go_loopw [5, 10] (fun _ i wr => ∃ q : Nat, q ≤ ts.length ∧ i = .int .i64 q ∧ Hid (∃ A c, XS w0 wr b p a1 a2 a3 a4 ab c1 c2 c3 c4 cb A c (S ++ csT p nb (ts.take q)) (nb + nbT (ts.take q))) ∧ Hid (Fr (PI w0.heap.size) W wr)) (fun _ i _ => ts.length - (intOf i).toNat)
  case atStart => exact ⟨0, Nat.zero_le _, rfl, Lib.hid ⟨A, c, by simpa [csT, nbT] using HX.out⟩, Lib.hid (Fr.refl _ _)⟩
  case round =>
    obtain ⟨q, hq, rfl, hx, hf⟩ := hrel
    clear x0 x1
    obtain ⟨A1, cc1, hx1⟩ := hx.out
    have HX1 := Lib.hid hx1
    clear hx hx1
    have hcq : (csT p nb (ts.take q)).length = min q ts.length := by rw [csT_len, List.length_take]
    have hnq := nbT_le (ts.take q)
    rw [List.length_take] at hnq
    by_cases hlt : q < ts.length
    · obtain ⟨⟨tk, tm, tx⟩, hz⟩ : ∃ z, ts[q]? = some z := ⟨_, List.getElem?_eq_getElem hlt⟩
      obtain ⟨b2, o2, rfl, _, m0, m1, m2⟩ := (HR.out.below HX1.out.bel).tm hz
      dsimp only at m0 m1 m2
      have HST := Lib.hid (csT_step (p := p) (b := nb) hz)
      have HNT := Lib.hid (show nbT (ts.take (q + 1)) = nbT (ts.take q) + nbT [⟨tk, tm, tx⟩] by rw [nbT_step hz, nbT_one])
      have HKT := Lib.hid (HK.out _ (List.mem_of_getElem? hz))
      have hq0 : (0 : Int) ≤ (q : Int) := by omega
      have hq1 : (q : Int) < ts.length := by omega
      have hal := below_alloc (Below.refl wr.heap.size wr) (.cells #[.int .i64 tk, .string tm, .int .i64 tx] 60)
      have HX2 := Lib.hid (HX1.out.below hal)
      have HF2 := Lib.hid (hf.out.trans (Fr.of_below hal))
      have hlen1 : (S ++ csT p nb (ts.take q)).length ≤ 2900 := by rw [List.length_append]; omega
      have HL1 := Lib.hid hlen1
      clear hz hal hf hlen1 HX1 hcq
      go_wp2_with (fail)
      refine (HT.out _ _ _ _ ⟨tk, tm, tx⟩ _ HKT.out HL1.out (by omega) HX2.out).mono ?_
      rintro e w3 ⟨rfl, hx, hf⟩
      have HX3 := Lib.hid hx
      have HF3 := Lib.hid (HF2.out.trans hf)
      clear hx hf m0 m1 m2
      go_wp2_with (fail)
      go_roundw
      case rel => exact ⟨q + 1, by omega, by go_num, Lib.hid (by rw [HST.out, HNT.out, ← List.append_assoc, ← Nat.add_assoc]; exact HX3.out), HF3⟩
      case measure => simp [intOf]; omega
    · obtain rfl : q = ts.length := by omega
      rw [List.take_length] at HX1
      clear hcq hnq
      have HO1 := Lib.hid (hf.out.obj HO.out (pi_no (by decide) (by decide)))
      have x0 := cell_obj (j := 0) HO1.out rfl
      have x1 := cell_obj (j := 1) HO1.out rfl
      have HF1 := Lib.hid (HF.out.trans hf.out)
      obtain ⟨⟨k1, k2, k3⟩, _, k11, _, hb1, hb2⟩ := HX1.out.cells
      have hl9 : (S ++ csT p nb ts).length ≤ 3000 := by rw [List.length_append]; omega
      have HL9 := Lib.hid hl9
      have HLL : Hid (S ++ LL = (S ++ csT p nb ts) ++ [TG]) := Lib.hid (by rw [HL.out, List.append_assoc])
      generalize S ++ csT p nb ts = S9 at *
      clear hf hl9 k1 k11
      go_wp2_with (fail)
      refine wp_region_held_drew (S := (fun w' => (w'.cell? ⟨b, 2, none⟩ = some (.slice a2 p.vs.length c2) ∧ w'.cell? ⟨b, 3, none⟩ = some (.slice a3 p.os.length c3)) ∧ w'.cell? ⟨w.heap.size, 0, none⟩ = some (.string tg))) (by kernel_rfl) ?_ (fun hHeld => ?_)
      · exact ⟨⟨k2, k3⟩, x0⟩
      refine rg_take (v := ?_) 0 rfl (by kernel_rfl) (by kernel_rfl) (by kernel_rfl) (fun _ _ _ h => h) (by kernel_rfl) ?_ (by assumption) ?_
      rotate_left
      · (intro w' hSw; (try dsimp only at hSw); go_simp; first | done | with_reducible rfl)
      simp only [Act.put, List.setIfInBounds_toArray, List.set_cons_zero, List.set_cons_succ]
      refine rg_take (v := ?_) 1 rfl (by kernel_rfl) (by kernel_rfl) (by kernel_rfl) (fun _ _ _ h => h) (by kernel_rfl) ?_ (by assumption) ?_
      rotate_left
      · (intro w' hSw; (try dsimp only at hSw); go_simp; first | done | with_reducible rfl)
      simp only [Act.put, List.setIfInBounds_toArray, List.set_cons_zero, List.set_cons_succ]
      refine rg_take (v := ?_) 2 rfl (by kernel_rfl) (by kernel_rfl) (by kernel_rfl) (fun _ _ _ h => h) (by kernel_rfl) ?_ (by assumption) ?_
      rotate_left
      · (intro w' hSw; (try dsimp only at hSw); go_simp; first | done | with_reducible rfl)
      simp only [Act.put, List.setIfInBounds_toArray, List.set_cons_zero, List.set_cons_succ]
      refine rg_take (v := ?_) 3 rfl (by kernel_rfl) (by kernel_rfl) (by kernel_rfl) (fun _ _ _ h => h) (by kernel_rfl) ?_ (by assumption) ?_
      rotate_left
      · (intro w' hSw; (try dsimp only at hSw); go_simp; first | done | with_reducible rfl)
      simp only [Act.put, List.setIfInBounds_toArray, List.set_cons_zero, List.set_cons_succ]
      refine rg_take (v := ?_) 4 rfl (by kernel_rfl) (by kernel_rfl) (by kernel_rfl) (fun _ _ _ h => h) (by kernel_rfl) ?_ (by assumption) ?_
      rotate_left
      · (intro w' hSw; (try dsimp only at hSw); go_simp; first | done | with_reducible rfl)
      simp only [Act.put, List.setIfInBounds_toArray, List.set_cons_zero, List.set_cons_succ]
      refine rg_take (v := ?_) 5 rfl (by kernel_rfl) (by kernel_rfl) (by kernel_rfl) (fun _ _ _ h => h) (by kernel_rfl) ?_ (by assumption) ?_
      rotate_left
      · (intro w' hSw; (try dsimp only at hSw); go_simp; first | done | with_reducible rfl)
      simp only [Act.put, List.setIfInBounds_toArray, List.set_cons_zero, List.set_cons_succ]
      refine rg_take (v := ?_) 6 rfl (by kernel_rfl) (by kernel_rfl) (by kernel_rfl) (fun _ _ _ h => h) (by kernel_rfl) ?_ (by assumption) ?_
      rotate_left
      · (intro w' hSw; (try dsimp only at hSw); go_simp; first | done | with_reducible rfl)
      simp only [Act.put, List.setIfInBounds_toArray, List.set_cons_zero, List.set_cons_succ]
      refine rg_run 7 rfl (by kernel_rfl) (by kernel_rfl) (fun K hK => ?_)
      go_simp
      refine (HI.out _ ((HP.out.v.below HX1.out.bel).below (Below.refl _ _).drew)).mono ?_
      rintro e w5 ⟨rfl, hb5⟩
      have hbs : Below wr.heap.size wr w5 := below_chain (Below.refl _ _).drew hb5
      have HX5 := Lib.hid (HX1.out.below hbs)
      have HF5 := Lib.hid (HF1.out.trans (Fr.of_below hbs))
      replace k2 := cell_later hbs (by exact k2)
      replace k3 := cell_later hbs (by exact k3)
      replace x0 := cell_later hbs (by exact x0)
      clear hbs hb5
      go_wp2
      clear hHeld
      refine hK.out _ _ (by exact ⟨⟨k2, k3⟩, x0⟩) (fun hHeld => ?_)
      clear hK K
      try simp only [Act.put, List.setIfInBounds_toArray, List.set_cons_zero, List.set_cons_succ]
      refine rg_take (v := ?_) 8 rfl (by kernel_rfl) (by kernel_rfl) (by kernel_rfl) (fun _ _ _ h => h) (by kernel_rfl) ?_ (by assumption) ?_
      rotate_left
      · (intro w' hSw; (try dsimp only at hSw); go_simp; first | done | with_reducible rfl)
      simp only [Act.put, List.setIfInBounds_toArray, List.set_cons_zero, List.set_cons_succ]
      refine wpAnyH_done (by kernel_rfl) ?_ _
      clear hHeld
      rcases HV.out with ⟨h0, rfl⟩ | ⟨h0, rfl⟩
      · clear HV k2 k3 x0 x1
        go_wp2_with (fail)
        refine (HE.out _ _ _ _ 8 z _ HL9.out HX5.out).mono ?_
        rintro e w6 ⟨rfl, hx, hf⟩
        have HX6 := Lib.hid hx
        have HF6 := Lib.hid (HF5.out.trans hf)
        clear hx hf
        go_wp2_with (fail)
        go_end0
        exact retX_of HLL.out rfl HX6.out HF6.out
      · clear HV x1
        go_wp2_with (fail)
        refine wp_region_heldE 9 (S := (fun w' => (w'.cell? ⟨b, 2, none⟩ = some (.slice a2 p.vs.length c2) ∧ w'.cell? ⟨b, 3, none⟩ = some (.slice a3 p.os.length c3)) ∧ w'.cell? ⟨w.heap.size, 0, none⟩ = some (.string tg))) (by kernel_rfl) ?_ (fun hHeld => ?_)
        · exact ⟨⟨k2, k3⟩, x0⟩
        refine rgE_take (v := ?_) 0 12 rfl (by kernel_rfl) (by kernel_rfl) (by kernel_rfl) (by kernel_rfl) (by kernel_rfl) (fun _ _ _ h => h) (by kernel_rfl) ?_ (by assumption) ?_
        rotate_left
        · (intro w' hSw; (try dsimp only at hSw); go_simp; first | done | with_reducible rfl)
        simp only [Act.put, List.setIfInBounds_toArray, List.set_cons_zero, List.set_cons_succ]
        refine rgE_take (v := ?_) 1 12 rfl (by kernel_rfl) (by kernel_rfl) (by kernel_rfl) (by kernel_rfl) (by kernel_rfl) (fun _ _ _ h => h) (by kernel_rfl) ?_ (by assumption) ?_
        rotate_left
        · (intro w' hSw; (try dsimp only at hSw); go_simp; first | done | with_reducible rfl)
        simp only [Act.put, List.setIfInBounds_toArray, List.set_cons_zero, List.set_cons_succ]
        refine rgE_take (v := ?_) 2 12 rfl (by kernel_rfl) (by kernel_rfl) (by kernel_rfl) (by kernel_rfl) (by kernel_rfl) (fun _ _ _ h => h) (by kernel_rfl) ?_ (by assumption) ?_
        rotate_left
        · (intro w' hSw; (try dsimp only at hSw); go_simp; first | done | with_reducible rfl)
        simp only [Act.put, List.setIfInBounds_toArray, List.set_cons_zero, List.set_cons_succ]
        refine rgE_take (v := ?_) 3 12 rfl (by kernel_rfl) (by kernel_rfl) (by kernel_rfl) (by kernel_rfl) (by kernel_rfl) (fun _ _ _ h => h) (by kernel_rfl) ?_ (by assumption) ?_
        rotate_left
        · (intro w' hSw; (try dsimp only at hSw); go_simp; first | done | with_reducible rfl)
        simp only [Act.put, List.setIfInBounds_toArray, List.set_cons_zero, List.set_cons_succ]
        refine rgE_take (v := ?_) 4 12 rfl (by kernel_rfl) (by kernel_rfl) (by kernel_rfl) (by kernel_rfl) (by kernel_rfl) (fun _ _ _ h => h) (by kernel_rfl) ?_ (by assumption) ?_
        rotate_left
        · (intro w' hSw; (try dsimp only at hSw); go_simp; first | done | with_reducible rfl)
        simp only [Act.put, List.setIfInBounds_toArray, List.set_cons_zero, List.set_cons_succ]
        refine rgE_take (v := ?_) 5 12 rfl (by kernel_rfl) (by kernel_rfl) (by kernel_rfl) (by kernel_rfl) (by kernel_rfl) (fun _ _ _ h => h) (by kernel_rfl) ?_ (by assumption) ?_
        rotate_left
        · (intro w' hSw; (try dsimp only at hSw); go_simp; first | done | with_reducible rfl)
        simp only [Act.put, List.setIfInBounds_toArray, List.set_cons_zero, List.set_cons_succ]
        refine rgE_take (v := ?_) 6 12 rfl (by kernel_rfl) (by kernel_rfl) (by kernel_rfl) (by kernel_rfl) (by kernel_rfl) (fun _ _ _ h => h) (by kernel_rfl) ?_ (by assumption) ?_
        rotate_left
        · (intro w' hSw; (try dsimp only at hSw); go_simp; first | done | with_reducible rfl)
        simp only [Act.put, List.setIfInBounds_toArray, List.set_cons_zero, List.set_cons_succ]
        refine rgE_take (v := ?_) 7 12 rfl (by kernel_rfl) (by kernel_rfl) (by kernel_rfl) (by kernel_rfl) (by kernel_rfl) (fun _ _ _ h => h) (by kernel_rfl) ?_ (by assumption) ?_
        rotate_left
        · (intro w' hSw; (try dsimp only at hSw); go_simp; first | done | with_reducible rfl)
        simp only [Act.put, List.setIfInBounds_toArray, List.set_cons_zero, List.set_cons_succ]
        refine rgE_run 8 rfl (by kernel_rfl) (by kernel_rfl) (by decide) (fun K hK => ?_)
        go_simp
        refine (HJ.out _ ((HP.out.o.below HX5.out.bel).below (Below.refl _ _).drew)).mono ?_
        rintro e w6 ⟨rfl, hb6⟩
        have hbs : Below w5.heap.size w5 w6 := below_chain (Below.refl _ _).drew hb6
        have HX6 := Lib.hid (HX5.out.below hbs)
        have HF6 := Lib.hid (HF5.out.trans (Fr.of_below hbs))
        replace k2 := cell_later hbs (by exact k2)
        replace k3 := cell_later hbs (by exact k3)
        replace x0 := cell_later hbs (by exact x0)
        clear hbs hb6
        go_wp2
        clear hHeld
        refine hK.out _ _ (.inr (by exact ⟨⟨k2, k3⟩, x0⟩)) (fun hHeld => ?_)
        clear hK K
        try simp only [Act.put, List.setIfInBounds_toArray, List.set_cons_zero, List.set_cons_succ]
        refine rgE_last rfl (by kernel_rfl) (by kernel_rfl) (by kernel_rfl) (fun K hK => ?_)
        go_simp
        refine (HE.out _ _ _ _ 9 z2 _ HL9.out HX6.out).mono ?_
        rintro e w7 ⟨rfl, hx, hf⟩
        have HX7 := Lib.hid hx
        have HF7 := Lib.hid (HF6.out.trans hf)
        clear hx hf k2 k3 x0
        go_wp2
        clear hHeld
        refine hK.out _ _ ?_
        clear hK K
        try simp only [Act.put, List.setIfInBounds_toArray, List.set_cons_zero, List.set_cons_succ]
        go_wp2_with (fail)
        go_end0
        exact retX_of HLL.out rfl HX7.out HF7.out
end Go.Proofs.YteengjcplmjakaaGreatDoor
