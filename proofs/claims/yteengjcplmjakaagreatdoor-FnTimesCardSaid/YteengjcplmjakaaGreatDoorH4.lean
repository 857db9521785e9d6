/- Contracts and helpers (joined texts, part 4). The conditions stand at each theorem. -/
import Derived.Test.YteengjcplmjakaaGreatDoorH3
import Derived.Test.YteengjcplmjakaaGreatDoorH0
import Derived.Test.YteengjcplmjakaaGreatDoorRgE
/- Steps: fits, takes, gives, times, on the reference's side. Condition: the code's head is in range. (Turned from CHs by qtexts.py.) -/
namespace Go.Proofs.YteengjcplmjakaaGreatDoor
open Go.RowKit

def blkB (t : Tm) : Bool := trmT t.k t.nm t.n && decide (7 ≤ t.k)
def tm0 : Tm := ⟨0, ⟨#[]⟩, 0⟩
def kindA (c : Cd) (a : Int) : Int := (c.bs.getD a.toNat tm0).k
def manyI (c : Cd) (o : Int) : Int := if o = 1 then 2 else if o = 2 ∨ o = 10 then c.i else if o = 3 ∨ o = 8 ∨ o = 11 then c.v else if o = 4 ∨ o = 5 ∨ o = 6 then 1 else if o = 7 then c.bs.length else if o = 9 then c.o else 0
def fitB (c : Cd) (x : Ins) : Bool := decide (0 ≤ x.a ∧ x.a < manyI c x.o)
def takI (c : Cd) (x : Ins) : Int := if x.o = 4 ∨ x.o = 8 ∨ x.o = 9 then 1 else if x.o = 5 ∨ x.o = 6 then 2 else if x.o = 7 then argI (kindA c x.a) else 0
def givI (x : Ins) : Int := if x.o = 1 ∨ x.o = 2 ∨ x.o = 3 ∨ x.o = 4 ∨ x.o = 5 ∨ x.o = 6 ∨ x.o = 7 then 1 else 0
def tabI (k : Int) : Int := if k = 7 then 6 else if k = 8 then 6 else if k = 9 then 4 else if k = 10 then 5 else if k = 11 then 8 else 9
def timI (c : Cd) (x : Ins) : Int := if x.o = 1 ∨ x.o = 4 then 1 else if x.o = 8 ∨ x.o = 9 then 3 else if x.o = 7 then tabI (kindA c x.a) else if x.o = 10 ∨ x.o = 11 then 2 + c.o else 2
/-- The code in its box. -/
def CB (w : World) (b : Nat) (c : Cd) (ab as_ : Option Addr) (cb cs : Nat) : Prop := w.cell? ⟨b, 0, none⟩ = some (.int .i64 c.i) ∧ w.cell? ⟨b, 1, none⟩ = some (.int .i64 c.v) ∧ w.cell? ⟨b, 2, none⟩ = some (.int .i64 c.o) ∧ w.cell? ⟨b, 3, none⟩ = some (.slice ab c.bs.length cb) ∧ w.cell? ⟨b, 4, none⟩ = some (.slice as_ c.ss.length cs)
theorem CB.below {w w' : World} {b : Nat} {c : Cd} {ab as_ : Option Addr} {cb cs : Nat} (h : CB w b c ab as_ cb cs) (hb : Below w.heap.size w w') : CB w' b c ab as_ cb cs :=
  ⟨cell_later hb h.1, cell_later hb h.2.1, cell_later hb h.2.2.1, cell_later hb h.2.2.2.1, cell_later hb h.2.2.2.2⟩
/-- The head of a code. -/
structure Hd (c : Cd) : Prop where
  i0 : 0 ≤ c.i
  i1 : c.i ≤ 20
  v0 : 0 ≤ c.v
  v1 : c.v ≤ 20
  o0 : 0 ≤ c.o
  o1 : c.o ≤ 20
  b : c.bs.length ≤ 2000
  s : c.ss.length ≤ 2000
theorem tm_at {c : Cd} {a : Int} (h0 : 0 ≤ a) (h1 : a < c.bs.length) : ∃ t, c.bs[a.toNat]? = some t ∧ kindA c a = t.k := by
  obtain ⟨t, ht⟩ : ∃ t, c.bs[a.toNat]? = some t := ⟨_, List.getElem?_eq_getElem (by omega)⟩
  refine ⟨t, ht, ?_⟩
  unfold kindA
  rw [List.getD_eq_getElem?_getD, ht]
  rfl

set_option maxHeartbeats 1000000 in
set_option maxRecDepth 100000 in
theorem c_l17Fits (c : Cd) (ab as_ : Option Addr) (cb cs : Nat) (x : Ins) (w : World) (hd : Hd c) :
    Calls Tryz.prog 151 #[cv c ab as_ cb cs, .agg #[.int .i64 x.o, .int .i64 x.a]] w fun e w' => e = .returned (.bool (fitB c x)) ∧ Below w.heap.size w w' := by
  obtain ⟨o, a⟩ := x
  obtain ⟨i0, i1, v0, v1, o0, o1, hb, hs⟩ := hd
  dsimp only
  by_cases h1 : o = 1
  · subst h1
    have HM : manyI c 1 = 2 := rfl
    have HE : Hid (inB a 0 (1) = fitB c ⟨1, a⟩) := Lib.hid (by rw [Bool.eq_iff_iff]; simp only [fitB, inB, HM, decide_eq_true_eq]; omega)
    clear HM
    rw [← HE.out]
    dsimp only [cv]
    go_enter Tryz.func151, Tryz.ntmps151
    go_wp2_with (first
      | (go_at_call 55
         refine (c_l01In _ _ _ _).mono ?_
         rintro e w' ⟨rfl, rfl⟩)
      )
    go_ret
    exact ⟨rfl, by (repeat (first | exact Below.refl _ _ | assumption | refine below_alloc ?_ _ | refine below_drewN ?_ _ | refine below_set ?_ _ (by simp; try omega) | refine Below.drew ?_))⟩
  by_cases h2 : o = 2
  · subst h2
    have HM : manyI c 2 = c.i := rfl
    have HE : Hid (inB a 0 (c.i - 1) = fitB c ⟨2, a⟩) := Lib.hid (by rw [Bool.eq_iff_iff]; simp only [fitB, inB, HM, decide_eq_true_eq]; omega)
    have hw : IntKind.i64.wrap (c.i - 1) = c.i - 1 := IntWalk.i64_in _ (by omega)
    clear HM
    rw [← HE.out]
    dsimp only [cv]
    go_enter Tryz.func151, Tryz.ntmps151
    go_wp2_with (first
      | (go_at_call 55
         refine (c_l01In _ _ _ _).mono ?_
         rintro e w' ⟨rfl, rfl⟩)
      )
    go_ret
    exact ⟨rfl, by (repeat (first | exact Below.refl _ _ | assumption | refine below_alloc ?_ _ | refine below_drewN ?_ _ | refine below_set ?_ _ (by simp; try omega) | refine Below.drew ?_))⟩
  by_cases h3 : o = 3
  · subst h3
    have HM : manyI c 3 = c.v := rfl
    have HE : Hid (inB a 0 (c.v - 1) = fitB c ⟨3, a⟩) := Lib.hid (by rw [Bool.eq_iff_iff]; simp only [fitB, inB, HM, decide_eq_true_eq]; omega)
    have hw : IntKind.i64.wrap (c.v - 1) = c.v - 1 := IntWalk.i64_in _ (by omega)
    clear HM
    rw [← HE.out]
    dsimp only [cv]
    go_enter Tryz.func151, Tryz.ntmps151
    go_wp2_with (first
      | (go_at_call 55
         refine (c_l01In _ _ _ _).mono ?_
         rintro e w' ⟨rfl, rfl⟩)
      )
    go_ret
    exact ⟨rfl, by (repeat (first | exact Below.refl _ _ | assumption | refine below_alloc ?_ _ | refine below_drewN ?_ _ | refine below_set ?_ _ (by simp; try omega) | refine Below.drew ?_))⟩
  by_cases h4 : o = 4
  · subst h4
    have HM : manyI c 4 = 1 := rfl
    have HE : Hid ((a == 0) = fitB c ⟨4, a⟩) := Lib.hid (by rw [Bool.eq_iff_iff]; simp only [fitB, HM, beq_iff_eq, decide_eq_true_eq]; omega)
    clear HM
    rw [← HE.out]
    go_enter Tryz.func151, Tryz.ntmps151
    go_wp2_with (fail)
    go_ret
    exact ⟨rfl, by (repeat (first | exact Below.refl _ _ | assumption | refine below_alloc ?_ _ | refine below_drewN ?_ _ | refine below_set ?_ _ (by simp; try omega) | refine Below.drew ?_))⟩
  by_cases h5 : o = 5
  · subst h5
    have HM : manyI c 5 = 1 := rfl
    have HE : Hid ((a == 0) = fitB c ⟨5, a⟩) := Lib.hid (by rw [Bool.eq_iff_iff]; simp only [fitB, HM, beq_iff_eq, decide_eq_true_eq]; omega)
    clear HM
    rw [← HE.out]
    go_enter Tryz.func151, Tryz.ntmps151
    go_wp2_with (fail)
    go_ret
    exact ⟨rfl, by (repeat (first | exact Below.refl _ _ | assumption | refine below_alloc ?_ _ | refine below_drewN ?_ _ | refine below_set ?_ _ (by simp; try omega) | refine Below.drew ?_))⟩
  by_cases h6 : o = 6
  · subst h6
    have HM : manyI c 6 = 1 := rfl
    have HE : Hid ((a == 0) = fitB c ⟨6, a⟩) := Lib.hid (by rw [Bool.eq_iff_iff]; simp only [fitB, HM, beq_iff_eq, decide_eq_true_eq]; omega)
    clear HM
    rw [← HE.out]
    go_enter Tryz.func151, Tryz.ntmps151
    go_wp2_with (fail)
    go_ret
    exact ⟨rfl, by (repeat (first | exact Below.refl _ _ | assumption | refine below_alloc ?_ _ | refine below_drewN ?_ _ | refine below_set ?_ _ (by simp; try omega) | refine Below.drew ?_))⟩
  by_cases h7 : o = 7
  · subst h7
    have HM : manyI c 7 = (c.bs.length : Int) := rfl
    have HE : Hid (inB a 0 ((c.bs.length : Int) - 1) = fitB c ⟨7, a⟩) := Lib.hid (by rw [Bool.eq_iff_iff]; simp only [fitB, inB, HM, decide_eq_true_eq]; omega)
    have hw : IntKind.i64.wrap ((c.bs.length : Int) - 1) = (c.bs.length : Int) - 1 := IntWalk.i64_in _ (by omega)
    clear HM
    rw [← HE.out]
    dsimp only [cv]
    go_enter Tryz.func151, Tryz.ntmps151
    go_wp2_with (first
      | (go_at_call 55
         refine (c_l01In _ _ _ _).mono ?_
         rintro e w' ⟨rfl, rfl⟩)
      )
    go_ret
    exact ⟨rfl, by (repeat (first | exact Below.refl _ _ | assumption | refine below_alloc ?_ _ | refine below_drewN ?_ _ | refine below_set ?_ _ (by simp; try omega) | refine Below.drew ?_))⟩
  by_cases h8 : o = 8
  · subst h8
    have HM : manyI c 8 = c.v := rfl
    have HE : Hid (inB a 0 (c.v - 1) = fitB c ⟨8, a⟩) := Lib.hid (by rw [Bool.eq_iff_iff]; simp only [fitB, inB, HM, decide_eq_true_eq]; omega)
    have hw : IntKind.i64.wrap (c.v - 1) = c.v - 1 := IntWalk.i64_in _ (by omega)
    clear HM
    rw [← HE.out]
    dsimp only [cv]
    go_enter Tryz.func151, Tryz.ntmps151
    go_wp2_with (first
      | (go_at_call 55
         refine (c_l01In _ _ _ _).mono ?_
         rintro e w' ⟨rfl, rfl⟩)
      )
    go_ret
    exact ⟨rfl, by (repeat (first | exact Below.refl _ _ | assumption | refine below_alloc ?_ _ | refine below_drewN ?_ _ | refine below_set ?_ _ (by simp; try omega) | refine Below.drew ?_))⟩
  by_cases h9 : o = 9
  · subst h9
    have HM : manyI c 9 = c.o := rfl
    have HE : Hid (inB a 0 (c.o - 1) = fitB c ⟨9, a⟩) := Lib.hid (by rw [Bool.eq_iff_iff]; simp only [fitB, inB, HM, decide_eq_true_eq]; omega)
    have hw : IntKind.i64.wrap (c.o - 1) = c.o - 1 := IntWalk.i64_in _ (by omega)
    clear HM
    rw [← HE.out]
    dsimp only [cv]
    go_enter Tryz.func151, Tryz.ntmps151
    go_wp2_with (first
      | (go_at_call 55
         refine (c_l01In _ _ _ _).mono ?_
         rintro e w' ⟨rfl, rfl⟩)
      )
    go_ret
    exact ⟨rfl, by (repeat (first | exact Below.refl _ _ | assumption | refine below_alloc ?_ _ | refine below_drewN ?_ _ | refine below_set ?_ _ (by simp; try omega) | refine Below.drew ?_))⟩
  by_cases h10 : o = 10
  · subst h10
    have HM : manyI c 10 = c.i := rfl
    have HE : Hid (inB a 0 (c.i - 1) = fitB c ⟨10, a⟩) := Lib.hid (by rw [Bool.eq_iff_iff]; simp only [fitB, inB, HM, decide_eq_true_eq]; omega)
    have hw : IntKind.i64.wrap (c.i - 1) = c.i - 1 := IntWalk.i64_in _ (by omega)
    clear HM
    rw [← HE.out]
    dsimp only [cv]
    go_enter Tryz.func151, Tryz.ntmps151
    go_wp2_with (first
      | (go_at_call 55
         refine (c_l01In _ _ _ _).mono ?_
         rintro e w' ⟨rfl, rfl⟩)
      )
    go_ret
    exact ⟨rfl, by (repeat (first | exact Below.refl _ _ | assumption | refine below_alloc ?_ _ | refine below_drewN ?_ _ | refine below_set ?_ _ (by simp; try omega) | refine Below.drew ?_))⟩
  by_cases h11 : o = 11
  · subst h11
    have HM : manyI c 11 = c.v := rfl
    have HE : Hid (inB a 0 (c.v - 1) = fitB c ⟨11, a⟩) := Lib.hid (by rw [Bool.eq_iff_iff]; simp only [fitB, inB, HM, decide_eq_true_eq]; omega)
    have hw : IntKind.i64.wrap (c.v - 1) = c.v - 1 := IntWalk.i64_in _ (by omega)
    clear HM
    rw [← HE.out]
    dsimp only [cv]
    go_enter Tryz.func151, Tryz.ntmps151
    go_wp2_with (first
      | (go_at_call 55
         refine (c_l01In _ _ _ _).mono ?_
         rintro e w' ⟨rfl, rfl⟩)
      )
    go_ret
    exact ⟨rfl, by (repeat (first | exact Below.refl _ _ | assumption | refine below_alloc ?_ _ | refine below_drewN ?_ _ | refine below_set ?_ _ (by simp; try omega) | refine Below.drew ?_))⟩
  have e1 : (o == 1) = false := by simpa using h1
  have e2 : (o == 2) = false := by simpa using h2
  have e3 : (o == 3) = false := by simpa using h3
  have e4 : (o == 4) = false := by simpa using h4
  have e5 : (o == 5) = false := by simpa using h5
  have e6 : (o == 6) = false := by simpa using h6
  have e7 : (o == 7) = false := by simpa using h7
  have e8 : (o == 8) = false := by simpa using h8
  have e9 : (o == 9) = false := by simpa using h9
  have e10 : (o == 10) = false := by simpa using h10
  have e11 : (o == 11) = false := by simpa using h11
  have HE : Hid (fitB c ⟨o, a⟩ = false) := Lib.hid (by
    have HM : manyI c o = 0 := by unfold manyI; rw [if_neg h1, if_neg (by omega), if_neg (by omega), if_neg (by omega), if_neg h7, if_neg h9]
    simp only [fitB, HM, decide_eq_false_iff_not]; omega)
  rw [HE.out]
  clear h1 h2 h3 h4 h5 h6 h7 h8 h9 h10 h11
  dsimp only [cv]
  go_enter Tryz.func151, Tryz.ntmps151
  go_wp2_with (fail)
  go_ret
  exact ⟨rfl, by (repeat (first | exact Below.refl _ _ | assumption | refine below_alloc ?_ _ | refine below_drewN ?_ _ | refine below_set ?_ _ (by simp; try omega) | refine Below.drew ?_))⟩
def Ret2 (x y : Int) (w : World) (e : Ending) (w' : World) : Prop := e = .returned (.tuple #[.int .i64 x, .int .i64 y]) ∧ Below w.heap.size w w'
set_option maxHeartbeats 1000000 in
set_option maxRecDepth 100000 in
theorem c_l17Takes (c : Cd) (ab as_ : Option Addr) (cb cs : Nat) (x : Ins) (w : World) (hf : fitB c x = true) (h : CdR w ab as_ c) :
    Calls Tryz.prog 152 #[cv c ab as_ cb cs, .agg #[.int .i64 x.o, .int .i64 x.a]] w (Ret2 (takI c x) (givI x) w) := by
  obtain ⟨o, a⟩ := x
  dsimp only
  by_cases h1 : o = 1
  · subst h1
    dsimp only [cv]
    go_enter Tryz.func152, Tryz.ntmps152
    go_wp2_with (fail)
    refine bodyPost_ret (v := .tuple #[.int .i64 0, .int .i64 1]) (by simp [results, Tryz.results152, go_sem]) rfl ⟨rfl, by (repeat (first | exact Below.refl _ _ | assumption | refine below_alloc ?_ _ | refine below_drewN ?_ _ | refine below_set ?_ _ (by simp; try omega) | refine Below.drew ?_))⟩
  by_cases h2 : o = 2
  · subst h2
    dsimp only [cv]
    go_enter Tryz.func152, Tryz.ntmps152
    go_wp2_with (fail)
    refine bodyPost_ret (v := .tuple #[.int .i64 0, .int .i64 1]) (by simp [results, Tryz.results152, go_sem]) rfl ⟨rfl, by (repeat (first | exact Below.refl _ _ | assumption | refine below_alloc ?_ _ | refine below_drewN ?_ _ | refine below_set ?_ _ (by simp; try omega) | refine Below.drew ?_))⟩
  by_cases h3 : o = 3
  · subst h3
    dsimp only [cv]
    go_enter Tryz.func152, Tryz.ntmps152
    go_wp2_with (fail)
    refine bodyPost_ret (v := .tuple #[.int .i64 0, .int .i64 1]) (by simp [results, Tryz.results152, go_sem]) rfl ⟨rfl, by (repeat (first | exact Below.refl _ _ | assumption | refine below_alloc ?_ _ | refine below_drewN ?_ _ | refine below_set ?_ _ (by simp; try omega) | refine Below.drew ?_))⟩
  by_cases h4 : o = 4
  · subst h4
    dsimp only [cv]
    go_enter Tryz.func152, Tryz.ntmps152
    go_wp2_with (fail)
    refine bodyPost_ret (v := .tuple #[.int .i64 1, .int .i64 1]) (by simp [results, Tryz.results152, go_sem]) rfl ⟨rfl, by (repeat (first | exact Below.refl _ _ | assumption | refine below_alloc ?_ _ | refine below_drewN ?_ _ | refine below_set ?_ _ (by simp; try omega) | refine Below.drew ?_))⟩
  by_cases h5 : o = 5
  · subst h5
    dsimp only [cv]
    go_enter Tryz.func152, Tryz.ntmps152
    go_wp2_with (fail)
    refine bodyPost_ret (v := .tuple #[.int .i64 2, .int .i64 1]) (by simp [results, Tryz.results152, go_sem]) rfl ⟨rfl, by (repeat (first | exact Below.refl _ _ | assumption | refine below_alloc ?_ _ | refine below_drewN ?_ _ | refine below_set ?_ _ (by simp; try omega) | refine Below.drew ?_))⟩
  by_cases h6 : o = 6
  · subst h6
    dsimp only [cv]
    go_enter Tryz.func152, Tryz.ntmps152
    go_wp2_with (fail)
    refine bodyPost_ret (v := .tuple #[.int .i64 2, .int .i64 1]) (by simp [results, Tryz.results152, go_sem]) rfl ⟨rfl, by (repeat (first | exact Below.refl _ _ | assumption | refine below_alloc ?_ _ | refine below_drewN ?_ _ | refine below_set ?_ _ (by simp; try omega) | refine Below.drew ?_))⟩
  by_cases h7 : o = 7
  · subst h7
    obtain ⟨ha0, ha1⟩ := of_decide_eq_true hf
    have HM : manyI c 7 = c.bs.length := rfl
    rw [HM] at ha1
    obtain ⟨t, ht, hk⟩ := tm_at ha0 ha1
    obtain ⟨n, rfl⟩ : ∃ n : Nat, a = n := ⟨a.toNat, by dsimp only at ha0; omega⟩
    rw [Int.toNat_natCast] at ht
    have HT : Hid (takI c ⟨7, (n : Int)⟩ = argI t.k ∧ givI ⟨7, (n : Int)⟩ = 1) := Lib.hid ⟨by show argI (kindA c n) = _; rw [hk], rfl⟩
    rw [HT.out.1, HT.out.2]
    have hr := ((h.b.alloc (.cells #[.int .i64 c.i, .int .i64 c.v, .int .i64 c.o, .slice ab c.bs.length cb, .slice as_ c.ss.length cs] 35)).alloc (.cells #[.int .i64 7, .int .i64 n] 88)).tm ht
    obtain ⟨b, off, rfl, _, g0, g1, g2⟩ := hr
    have hn0 : (0 : Int) ≤ (n : Int) := by omega
    dsimp only at ha1
    clear HM ha0 ht hk hf h
    dsimp only [cv]
    go_enter Tryz.func152, Tryz.ntmps152
    go_wp2_with (first
      | (go_at_call 171
         refine (c_l13Takes _ _).mono ?_
         rintro e w' ⟨rfl, rfl⟩)
      )
    refine bodyPost_ret (v := .tuple #[.int .i64 (argI t.k), .int .i64 1]) (by simp [results, Tryz.results152, go_sem]) rfl ⟨rfl, by (repeat (first | exact Below.refl _ _ | assumption | refine below_alloc ?_ _ | refine below_drewN ?_ _ | refine below_set ?_ _ (by simp; try omega) | refine Below.drew ?_))⟩
  by_cases h8 : o = 8
  · subst h8
    dsimp only [cv]
    go_enter Tryz.func152, Tryz.ntmps152
    go_wp2_with (fail)
    refine bodyPost_ret (v := .tuple #[.int .i64 1, .int .i64 0]) (by simp [results, Tryz.results152, go_sem]) rfl ⟨rfl, by (repeat (first | exact Below.refl _ _ | assumption | refine below_alloc ?_ _ | refine below_drewN ?_ _ | refine below_set ?_ _ (by simp; try omega) | refine Below.drew ?_))⟩
  by_cases h9 : o = 9
  · subst h9
    dsimp only [cv]
    go_enter Tryz.func152, Tryz.ntmps152
    go_wp2_with (fail)
    refine bodyPost_ret (v := .tuple #[.int .i64 1, .int .i64 0]) (by simp [results, Tryz.results152, go_sem]) rfl ⟨rfl, by (repeat (first | exact Below.refl _ _ | assumption | refine below_alloc ?_ _ | refine below_drewN ?_ _ | refine below_set ?_ _ (by simp; try omega) | refine Below.drew ?_))⟩
  have e1 : (o == 1) = false := by simpa using h1
  have e2 : (o == 2) = false := by simpa using h2
  have e3 : (o == 3) = false := by simpa using h3
  have e4 : (o == 4) = false := by simpa using h4
  have e5 : (o == 5) = false := by simpa using h5
  have e6 : (o == 6) = false := by simpa using h6
  have e7 : (o == 7) = false := by simpa using h7
  have e8 : (o == 8) = false := by simpa using h8
  have e9 : (o == 9) = false := by simpa using h9
  have HT : Hid (takI c ⟨o, a⟩ = 0 ∧ givI ⟨o, a⟩ = 0) := Lib.hid (by unfold takI givI; dsimp only; exact ⟨by rw [if_neg (by omega), if_neg (by omega), if_neg h7], by rw [if_neg (by omega)]⟩)
  rw [HT.out.1, HT.out.2]
  clear h1 h2 h3 h4 h5 h6 h7 h8 h9
  dsimp only [cv]
  go_enter Tryz.func152, Tryz.ntmps152
  go_wp2_with (fail)
  refine bodyPost_ret (v := .tuple #[.int .i64 0, .int .i64 0]) (by simp [results, Tryz.results152, go_sem]) rfl ⟨rfl, by (repeat (first | exact Below.refl _ _ | assumption | refine below_alloc ?_ _ | refine below_drewN ?_ _ | refine below_set ?_ _ (by simp; try omega) | refine Below.drew ?_))⟩
end Go.Proofs.YteengjcplmjakaaGreatDoor

/- Times of steps and of codes, on the reference's side. Condition: the code is one. Printed by CTm.py. -/
namespace Go.Proofs.YteengjcplmjakaaGreatDoor
open Go.RowKit

theorem fit_op {c : Cd} {x : Ins} (h : fitB c x = true) : 1 ≤ x.o ∧ x.o ≤ 11 := by
  have h1 := of_decide_eq_true h
  unfold manyI at h1
  by_cases h2 : x.o = 1
  · omega
  rw [if_neg h2] at h1
  by_cases h3 : x.o = 2 ∨ x.o = 10
  · omega
  rw [if_neg h3] at h1
  by_cases h4 : x.o = 3 ∨ x.o = 8 ∨ x.o = 11
  · omega
  rw [if_neg h4] at h1
  by_cases h5 : x.o = 4 ∨ x.o = 5 ∨ x.o = 6
  · omega
  rw [if_neg h5] at h1
  by_cases h6 : x.o = 7
  · omega
  rw [if_neg h6] at h1
  by_cases h7 : x.o = 9
  · omega
  rw [if_neg h7] at h1
  omega
theorem blk_k {t : Tm} (h : blkB t = true) : 7 ≤ t.k ∧ t.k ≤ 12 := by
  unfold blkB trmT inB at h
  simp only [Bool.and_eq_true] at h
  have h1 := of_decide_eq_true h.1.1
  have h2 := of_decide_eq_true h.2
  omega
set_option maxHeartbeats 2000000 in
set_option maxRecDepth 100000 in
theorem c_l19Time (c : Cd) (ab as_ : Option Addr) (cb cs : Nat) (x : Ins) (w : World) (hd : Hd c) (hbl : ∀ t ∈ c.bs, blkB t = true) (hf : fitB c x = true) (h : CdR w ab as_ c) :
    Calls Tryz.prog 46 #[cv c ab as_ cb cs, .agg #[.int .i64 x.o, .int .i64 x.a]] w fun e w' => e = .returned (.int .i64 (timI c x)) ∧ Below w.heap.size w w' := by
  have hop := fit_op hf
  obtain ⟨o, a⟩ := x
  obtain ⟨i0, i1, v0, v1, o0, o1, hb, hs⟩ := hd
  dsimp only at hop ⊢
  rcases (show o = 1 ∨ o = 2 ∨ o = 3 ∨ o = 4 ∨ o = 5 ∨ o = 6 ∨ o = 7 ∨ o = 8 ∨ o = 9 ∨ o = 10 ∨ o = 11 by omega) with rfl | rfl | rfl | rfl | rfl | rfl | rfl | rfl | rfl | rfl | rfl
  · skip
    dsimp only [cv]
    go_enter Tryz.func46, Tryz.ntmps46
    go_wp2_with (fail)
    go_ret
    exact ⟨rfl, by (repeat (first | exact Below.refl _ _ | assumption | refine below_alloc ?_ _ | refine below_drewN ?_ _ | refine below_set ?_ _ (by simp; try omega) | refine Below.drew ?_))⟩
  · skip
    dsimp only [cv]
    go_enter Tryz.func46, Tryz.ntmps46
    go_wp2_with (fail)
    go_ret
    exact ⟨rfl, by (repeat (first | exact Below.refl _ _ | assumption | refine below_alloc ?_ _ | refine below_drewN ?_ _ | refine below_set ?_ _ (by simp; try omega) | refine Below.drew ?_))⟩
  · skip
    dsimp only [cv]
    go_enter Tryz.func46, Tryz.ntmps46
    go_wp2_with (fail)
    go_ret
    exact ⟨rfl, by (repeat (first | exact Below.refl _ _ | assumption | refine below_alloc ?_ _ | refine below_drewN ?_ _ | refine below_set ?_ _ (by simp; try omega) | refine Below.drew ?_))⟩
  · skip
    dsimp only [cv]
    go_enter Tryz.func46, Tryz.ntmps46
    go_wp2_with (fail)
    go_ret
    exact ⟨rfl, by (repeat (first | exact Below.refl _ _ | assumption | refine below_alloc ?_ _ | refine below_drewN ?_ _ | refine below_set ?_ _ (by simp; try omega) | refine Below.drew ?_))⟩
  · skip
    dsimp only [cv]
    go_enter Tryz.func46, Tryz.ntmps46
    go_wp2_with (fail)
    go_ret
    exact ⟨rfl, by (repeat (first | exact Below.refl _ _ | assumption | refine below_alloc ?_ _ | refine below_drewN ?_ _ | refine below_set ?_ _ (by simp; try omega) | refine Below.drew ?_))⟩
  · skip
    dsimp only [cv]
    go_enter Tryz.func46, Tryz.ntmps46
    go_wp2_with (fail)
    go_ret
    exact ⟨rfl, by (repeat (first | exact Below.refl _ _ | assumption | refine below_alloc ?_ _ | refine below_drewN ?_ _ | refine below_set ?_ _ (by simp; try omega) | refine Below.drew ?_))⟩
  · skip
    obtain ⟨ha0, ha1⟩ := of_decide_eq_true hf
    have HM : manyI c 7 = c.bs.length := rfl
    rw [HM] at ha1
    obtain ⟨t, ht, hk⟩ := tm_at ha0 ha1
    obtain ⟨n, rfl⟩ : ∃ n : Nat, a = n := ⟨a.toNat, by dsimp only at ha0; omega⟩
    rw [Int.toNat_natCast] at ht
    have hkk := blk_k (hbl t (List.mem_of_getElem? ht))
    have HT : Hid (timI c ⟨7, (n : Int)⟩ = tabI t.k) := Lib.hid (by show tabI (kindA c n) = _; rw [hk])
    have hr := h.b.tm ht
    obtain ⟨b, off, rfl, hlt, g0, g1, g2⟩ := hr
    have hn0 : (0 : Int) ≤ (n : Int) := by omega
    have hlt2 : b < w.heap.size + 1 := by omega
    have hlt3 : b < w.heap.size + 1 + 1 := by omega
    have hne1 : b ≠ w.heap.size := by omega
    have hne2 : b ≠ w.heap.size + 1 := by omega
    have hne3 : b ≠ w.heap.size + 1 + 1 := by omega
    dsimp only at ha1
    clear HM ha0 ht hk hf h
    obtain ⟨kk, nm, nn⟩ := t
    dsimp only at g0 g1 g2 hkk HT
    rw [HT.out]
    dsimp only [cv]
    rcases (show kk = 7 ∨ kk = 8 ∨ kk = 9 ∨ kk = 10 ∨ kk = 11 ∨ kk = 12 by omega) with rfl | rfl | rfl | rfl | rfl | rfl
    · skip
      go_enter Tryz.func46, Tryz.ntmps46
      go_wp2_with (fail)
      go_ret
      exact ⟨rfl, by (repeat (first | exact Below.refl _ _ | assumption | refine below_alloc ?_ _ | refine below_drewN ?_ _ | refine below_set ?_ _ (by simp; try omega) | refine Below.drew ?_))⟩
    · skip
      go_enter Tryz.func46, Tryz.ntmps46
      go_wp2_with (fail)
      go_ret
      exact ⟨rfl, by (repeat (first | exact Below.refl _ _ | assumption | refine below_alloc ?_ _ | refine below_drewN ?_ _ | refine below_set ?_ _ (by simp; try omega) | refine Below.drew ?_))⟩
    · skip
      go_enter Tryz.func46, Tryz.ntmps46
      go_wp2_with (fail)
      go_ret
      exact ⟨rfl, by (repeat (first | exact Below.refl _ _ | assumption | refine below_alloc ?_ _ | refine below_drewN ?_ _ | refine below_set ?_ _ (by simp; try omega) | refine Below.drew ?_))⟩
    · skip
      go_enter Tryz.func46, Tryz.ntmps46
      go_wp2_with (fail)
      go_ret
      exact ⟨rfl, by (repeat (first | exact Below.refl _ _ | assumption | refine below_alloc ?_ _ | refine below_drewN ?_ _ | refine below_set ?_ _ (by simp; try omega) | refine Below.drew ?_))⟩
    · skip
      go_enter Tryz.func46, Tryz.ntmps46
      go_wp2_with (fail)
      go_ret
      exact ⟨rfl, by (repeat (first | exact Below.refl _ _ | assumption | refine below_alloc ?_ _ | refine below_drewN ?_ _ | refine below_set ?_ _ (by simp; try omega) | refine Below.drew ?_))⟩
    · skip
      go_enter Tryz.func46, Tryz.ntmps46
      go_wp2_with (fail)
      go_ret
      exact ⟨rfl, by (repeat (first | exact Below.refl _ _ | assumption | refine below_alloc ?_ _ | refine below_drewN ?_ _ | refine below_set ?_ _ (by simp; try omega) | refine Below.drew ?_))⟩
  · skip
    dsimp only [cv]
    go_enter Tryz.func46, Tryz.ntmps46
    go_wp2_with (fail)
    go_ret
    exact ⟨rfl, by (repeat (first | exact Below.refl _ _ | assumption | refine below_alloc ?_ _ | refine below_drewN ?_ _ | refine below_set ?_ _ (by simp; try omega) | refine Below.drew ?_))⟩
  · skip
    dsimp only [cv]
    go_enter Tryz.func46, Tryz.ntmps46
    go_wp2_with (fail)
    go_ret
    exact ⟨rfl, by (repeat (first | exact Below.refl _ _ | assumption | refine below_alloc ?_ _ | refine below_drewN ?_ _ | refine below_set ?_ _ (by simp; try omega) | refine Below.drew ?_))⟩
  · skip
    have hw : IntKind.i64.wrap (2 + c.o) = 2 + c.o := IntWalk.i64_in _ (by omega)
    dsimp only [cv]
    go_enter Tryz.func46, Tryz.ntmps46
    go_wp2_with (fail)
    go_ret
    exact ⟨rfl, by (repeat (first | exact Below.refl _ _ | assumption | refine below_alloc ?_ _ | refine below_drewN ?_ _ | refine below_set ?_ _ (by simp; try omega) | refine Below.drew ?_))⟩
  · skip
    have hw : IntKind.i64.wrap (2 + c.o) = 2 + c.o := IntWalk.i64_in _ (by omega)
    dsimp only [cv]
    go_enter Tryz.func46, Tryz.ntmps46
    go_wp2_with (fail)
    go_ret
    exact ⟨rfl, by (repeat (first | exact Below.refl _ _ | assumption | refine below_alloc ?_ _ | refine below_drewN ?_ _ | refine below_set ?_ _ (by simp; try omega) | refine Below.drew ?_))⟩
/-- The sum of the times of steps. -/
def sumT (c : Cd) : List Ins → Int
  | [] => 0
  | x :: t => timI c x + sumT c t
end Go.Proofs.YteengjcplmjakaaGreatDoor

/- The scan's time on the reference's side. Condition: the code is one. -/
namespace Go.Proofs.YteengjcplmjakaaGreatDoor
open Go.RowKit

theorem tim_bd {c : Cd} (hd : Hd c) (x : Ins) : 0 ≤ timI c x ∧ timI c x ≤ 22 := by
  have h1 := hd.o0
  have h2 := hd.o1
  unfold timI tabI
  repeat' split
  all_goals omega
def sumK (c : Cd) (k : Nat) : Int := sumT c (c.ss.take k)
theorem sumT_app (c : Cd) : ∀ (l : List Ins) (x : Ins), sumT c (l ++ [x]) = sumT c l + timI c x
  | [], x => by simp [sumT]
  | y :: t, x => by
    show timI c y + sumT c (t ++ [x]) = timI c y + sumT c t + timI c x
    rw [sumT_app c t x]
    omega
theorem sumK_step {c : Cd} {k : Nat} {x : Ins} (hx : c.ss[k]? = some x) : sumK c (k + 1) = sumK c k + timI c x := by
  unfold sumK
  rw [List.take_add_one, hx]
  exact sumT_app c _ x
theorem sumK_bd {c : Cd} (hd : Hd c) : ∀ k : Nat, k ≤ c.ss.length → 0 ≤ sumK c k ∧ sumK c k ≤ 22 * k
  | 0, _ => by unfold sumK; simp [sumT]
  | k + 1, hk => by
    obtain ⟨x, hx⟩ : ∃ x, c.ss[k]? = some x := ⟨_, List.getElem?_eq_getElem (by omega)⟩
    have h1 := sumK_bd hd k (by omega)
    have h2 := tim_bd hd x
    rw [sumK_step hx]
    omega
set_option maxHeartbeats 2000000 in
set_option maxRecDepth 100000 in
theorem c_l19Scan (c : Cd) (ab as_ : Option Addr) (cb cs : Nat) (w : World) (hd : Hd c) (hbl : ∀ t ∈ c.bs, blkB t = true) (hf : ∀ x ∈ c.ss, fitB c x = true) (h : CdR w ab as_ c) :
    Calls Tryz.prog 50 #[cv c ab as_ cb cs] w fun e w' => e = .returned (.int .i64 (sumK c c.ss.length)) ∧ Below w.heap.size w w' := by
  have HD := Lib.hid hd
  have HC := Lib.hid h
  have HBL := Lib.hid hbl
  have HFT := Lib.hid hf
  have hln := hd.s
  have HAB : Hid (Below w.heap.size w (w.alloc (.cells #[.int .i64 c.i, .int .i64 c.v, .int .i64 c.o, .slice ab c.bs.length cb, .slice as_ c.ss.length cs] 35))) := Lib.hid (below_alloc (Below.refl _ _) _)
  have HA : Hid (CB (w.alloc (.cells #[.int .i64 c.i, .int .i64 c.v, .int .i64 c.o, .slice ab c.bs.length cb, .slice as_ c.ss.length cs] 35)) w.heap.size c ab as_ cb cs) := Lib.hid ⟨by go_simp, by go_simp, by go_simp, by go_simp, by go_simp⟩
  clear hd h hbl hf
  go_enter Tryz.func50, Tryz.ntmps50
  dsimp only [cv]
  go_wp2_with (fail)
  generalize w.alloc (.cells #[.int .i64 c.i, .int .i64 c.v, .int .i64 c.o, .slice ab c.bs.length cb, .slice as_ c.ss.length cs] 35) = W at *
  go_loopw [3, 4] (fun t i wr => ∃ k : Nat, k ≤ c.ss.length ∧ i = .int .i64 k ∧ t = .int .i64 (sumK c k) ∧ Hid (Below w.heap.size w wr) ∧ Hid (CB wr w.heap.size c ab as_ cb cs)) (fun _ i _ => c.ss.length - (intOf i).toNat)
  case atStart => exact ⟨0, Nat.zero_le _, rfl, rfl, HAB, HA⟩
  case round =>
    obtain ⟨k, hk, rfl, rfl, hb, ha⟩ := hrel
    clear HAB HA
    obtain ⟨a0, a1, a2, a3, a4⟩ := ha.out
    by_cases hlt : k < c.ss.length
    · obtain ⟨x, hx⟩ : ∃ x, c.ss[k]? = some x := ⟨_, List.getElem?_eq_getElem hlt⟩
      have HX := Lib.hid (sumK_step hx)
      have hsb := sumK_bd HD.out k hk
      have htb := tim_bd HD.out x
      have HF1 := Lib.hid (HFT.out x (List.mem_of_getElem? hx))
      obtain ⟨b1, o1, rfl, _, g0, g1⟩ := (HC.out.below hb.out).s.ins hx
      have hk0 : (0 : Int) ≤ (k : Int) := by omega
      have hk1 : (k : Int) < c.ss.length := by omega
      clear hx
      generalize sumK c k = S at *
      go_wp2_with (fail)
      refine wp_region_held_drew (S := (fun w' => (w'.cell? ⟨w.heap.size, 0, none⟩ = some (.int .i64 c.i) ∧ w'.cell? ⟨w.heap.size, 1, none⟩ = some (.int .i64 c.v) ∧ w'.cell? ⟨w.heap.size, 2, none⟩ = some (.int .i64 c.o) ∧ w'.cell? ⟨w.heap.size, 3, none⟩ = some (.slice ab c.bs.length cb) ∧ w'.cell? ⟨w.heap.size, 4, none⟩ = some (.slice (some ⟨b1, o1, none⟩) c.ss.length cs)) ∧ w'.cell? ⟨b1, o1 + k * 2, none⟩ = some (.int .i64 x.o) ∧ w'.cell? ⟨b1, o1 + k * 2 + 1, none⟩ = some (.int .i64 x.a))) (by kernel_rfl) ?_ (fun hHeld => ?_)
      · exact ⟨⟨a0, a1, a2, a3, a4⟩, g0, g1⟩
      refine rg_take (v := ?_) 0 rfl (by kernel_rfl) (by kernel_rfl) (by kernel_rfl) (fun _ _ _ h => h) (by kernel_rfl) ?_ (by assumption) ?_
      rotate_left
      · (intro w' hSw; (try dsimp only at hSw); go_simp; first | done | with_reducible rfl)
      simp only [Act.put, List.setIfInBounds_toArray, List.set_cons_zero, List.set_cons_succ]
      refine rg_take (v := ?_) 1 rfl (by kernel_rfl) (by kernel_rfl) (by kernel_rfl) (fun _ _ _ h => h) (by kernel_rfl) ?_ (by assumption) ?_
      rotate_left
      · (intro w' hSw; (try dsimp only at hSw); go_simp; first | done | with_reducible rfl)
      simp only [Act.put, List.setIfInBounds_toArray, List.set_cons_zero, List.set_cons_succ]
      refine rg_take (v := ?_) 2 rfl (by kernel_rfl) (by kernel_rfl) (by kernel_rfl) (fun _ _ _ h => h) (by kernel_rfl) ?_ (by assumption) ?_
      rotate_left
      · (intro w' hSw; (try dsimp only at hSw); go_simp; first | done | with_reducible rfl)
      simp only [Act.put, List.setIfInBounds_toArray, List.set_cons_zero, List.set_cons_succ]
      refine rg_take (v := ?_) 3 rfl (by kernel_rfl) (by kernel_rfl) (by kernel_rfl) (fun _ _ _ h => h) (by kernel_rfl) ?_ (by assumption) ?_
      rotate_left
      · (intro w' hSw; (try dsimp only at hSw); go_simp; first | done | with_reducible rfl)
      simp only [Act.put, List.setIfInBounds_toArray, List.set_cons_zero, List.set_cons_succ]
      refine rg_take (v := ?_) 4 rfl (by kernel_rfl) (by kernel_rfl) (by kernel_rfl) (fun _ _ _ h => h) (by kernel_rfl) ?_ (by assumption) ?_
      rotate_left
      · (intro w' hSw; (try dsimp only at hSw); go_simp; first | done | with_reducible rfl)
      simp only [Act.put, List.setIfInBounds_toArray, List.set_cons_zero, List.set_cons_succ]
      refine rg_take (v := ?_) 5 rfl (by kernel_rfl) (by kernel_rfl) (by kernel_rfl) (fun _ _ _ h => h) (by kernel_rfl) ?_ (by assumption) ?_
      rotate_left
      · (intro w' hSw; (try dsimp only at hSw); go_simp; first | done | with_reducible rfl)
      simp only [Act.put, List.setIfInBounds_toArray, List.set_cons_zero, List.set_cons_succ]
      refine rg_take (v := ?_) 6 rfl (by kernel_rfl) (by kernel_rfl) (by kernel_rfl) (fun _ _ _ h => h) (by kernel_rfl) ?_ (by assumption) ?_
      rotate_left
      · (intro w' hSw; (try dsimp only at hSw); go_simp; first | done | with_reducible rfl)
      simp only [Act.put, List.setIfInBounds_toArray, List.set_cons_zero, List.set_cons_succ]
      refine rg_run 7 rfl (by kernel_rfl) (by kernel_rfl) (fun K hK => ?_)
      go_simp
      refine (c_l19Time c ab (some ⟨b1, o1, none⟩) cb cs x _ HD.out HBL.out HF1.out ((HC.out.below hb.out).below (Below.refl _ _).drew)).mono ?_
      rintro e w2 ⟨rfl, hb2⟩
      have hbs : Below wr.heap.size wr w2 := below_chain (Below.refl _ _).drew hb2
      have HA2 := Lib.hid (ha.out.below hbs)
      have HB2 := Lib.hid (below_chain hb.out hbs)
      replace g0 := cell_later hbs g0
      replace g1 := cell_later hbs g1
      clear a0 a1 a2 a3 a4 hbs hb2 ha hb
      obtain ⟨a0, a1, a2, a3, a4⟩ := HA2.out
      have hw : IntKind.i64.wrap (S + timI c x) = S + timI c x := IntWalk.i64_in _ (by omega)
      go_wp2
      clear hHeld
      refine hK.out _ _ (by exact ⟨⟨a0, a1, a2, a3, a4⟩, g0, g1⟩) (fun hHeld => ?_)
      clear hK K
      try simp only [Act.put, List.setIfInBounds_toArray, List.set_cons_zero, List.set_cons_succ]
      refine rg_take (v := ?_) 8 rfl (by kernel_rfl) (by kernel_rfl) (by kernel_rfl) (fun _ _ _ h => h) (by kernel_rfl) ?_ (by assumption) ?_
      rotate_left
      · (intro w' hSw; (try dsimp only at hSw); go_simp; first | done | with_reducible rfl)
      simp only [Act.put, List.setIfInBounds_toArray, List.set_cons_zero, List.set_cons_succ]
      refine rg_take (v := ?_) 9 rfl (by kernel_rfl) (by kernel_rfl) (by kernel_rfl) (fun _ _ _ h => h) (by kernel_rfl) ?_ (by assumption) ?_
      rotate_left
      · (intro w' hSw; (try dsimp only at hSw); go_simp; first | done | with_reducible rfl)
      simp only [Act.put, List.setIfInBounds_toArray, List.set_cons_zero, List.set_cons_succ]
      refine wpAnyH_done (by kernel_rfl) ?_ _
      clear hHeld
      clear a0 a1 a2 a3 a4 g0 g1 hw
      go_wp2_with (fail)
      go_roundw
      case rel => exact ⟨k + 1, by omega, by go_num, by rw [HX.out], HB2, HA2⟩
      case measure => simp [intOf]; omega
    · obtain rfl : k = c.ss.length := by omega
      go_wp2_with (fail)
      go_ret
      exact ⟨rfl, hb.out⟩
end Go.Proofs.YteengjcplmjakaaGreatDoor

/- Steps on the program's side: arguments, effect, timeOf (turned from the reference's). Condition: as there. -/
namespace Go.Proofs.YteengjcplmjakaaGreatDoor
open Go.RowKit

set_option maxHeartbeats 1000000 in
set_option maxRecDepth 100000 in
theorem c_effect (c : Cd) (ab as_ : Option Addr) (cb cs : Nat) (x : Ins) (w : World) (hf : fitB c x = true) (h : CdR w ab as_ c) :
    Calls Tryz.prog 149 #[cv c ab as_ cb cs, .agg #[.int .i64 x.o, .int .i64 x.a]] w (Ret2 (takI c x) (givI x) w) := by
  obtain ⟨o, a⟩ := x
  dsimp only
  by_cases h1 : o = 1
  · subst h1
    dsimp only [cv]
    go_enter Tryz.func149, Tryz.ntmps149
    go_wp2_with (fail)
    refine bodyPost_ret (v := .tuple #[.int .i64 0, .int .i64 1]) (by simp [results, Tryz.results149, go_sem]) rfl ⟨rfl, by (repeat (first | exact Below.refl _ _ | assumption | refine below_alloc ?_ _ | refine below_drewN ?_ _ | refine below_set ?_ _ (by simp; try omega) | refine Below.drew ?_))⟩
  by_cases h2 : o = 2
  · subst h2
    dsimp only [cv]
    go_enter Tryz.func149, Tryz.ntmps149
    go_wp2_with (fail)
    refine bodyPost_ret (v := .tuple #[.int .i64 0, .int .i64 1]) (by simp [results, Tryz.results149, go_sem]) rfl ⟨rfl, by (repeat (first | exact Below.refl _ _ | assumption | refine below_alloc ?_ _ | refine below_drewN ?_ _ | refine below_set ?_ _ (by simp; try omega) | refine Below.drew ?_))⟩
  by_cases h3 : o = 3
  · subst h3
    dsimp only [cv]
    go_enter Tryz.func149, Tryz.ntmps149
    go_wp2_with (fail)
    refine bodyPost_ret (v := .tuple #[.int .i64 0, .int .i64 1]) (by simp [results, Tryz.results149, go_sem]) rfl ⟨rfl, by (repeat (first | exact Below.refl _ _ | assumption | refine below_alloc ?_ _ | refine below_drewN ?_ _ | refine below_set ?_ _ (by simp; try omega) | refine Below.drew ?_))⟩
  by_cases h4 : o = 4
  · subst h4
    dsimp only [cv]
    go_enter Tryz.func149, Tryz.ntmps149
    go_wp2_with (fail)
    refine bodyPost_ret (v := .tuple #[.int .i64 1, .int .i64 1]) (by simp [results, Tryz.results149, go_sem]) rfl ⟨rfl, by (repeat (first | exact Below.refl _ _ | assumption | refine below_alloc ?_ _ | refine below_drewN ?_ _ | refine below_set ?_ _ (by simp; try omega) | refine Below.drew ?_))⟩
  by_cases h5 : o = 5
  · subst h5
    dsimp only [cv]
    go_enter Tryz.func149, Tryz.ntmps149
    go_wp2_with (fail)
    refine bodyPost_ret (v := .tuple #[.int .i64 2, .int .i64 1]) (by simp [results, Tryz.results149, go_sem]) rfl ⟨rfl, by (repeat (first | exact Below.refl _ _ | assumption | refine below_alloc ?_ _ | refine below_drewN ?_ _ | refine below_set ?_ _ (by simp; try omega) | refine Below.drew ?_))⟩
  by_cases h6 : o = 6
  · subst h6
    dsimp only [cv]
    go_enter Tryz.func149, Tryz.ntmps149
    go_wp2_with (fail)
    refine bodyPost_ret (v := .tuple #[.int .i64 2, .int .i64 1]) (by simp [results, Tryz.results149, go_sem]) rfl ⟨rfl, by (repeat (first | exact Below.refl _ _ | assumption | refine below_alloc ?_ _ | refine below_drewN ?_ _ | refine below_set ?_ _ (by simp; try omega) | refine Below.drew ?_))⟩
  by_cases h7 : o = 7
  · subst h7
    obtain ⟨ha0, ha1⟩ := of_decide_eq_true hf
    have HM : manyI c 7 = c.bs.length := rfl
    rw [HM] at ha1
    obtain ⟨t, ht, hk⟩ := tm_at ha0 ha1
    obtain ⟨n, rfl⟩ : ∃ n : Nat, a = n := ⟨a.toNat, by dsimp only at ha0; omega⟩
    rw [Int.toNat_natCast] at ht
    have HT : Hid (takI c ⟨7, (n : Int)⟩ = argI t.k ∧ givI ⟨7, (n : Int)⟩ = 1) := Lib.hid ⟨by show argI (kindA c n) = _; rw [hk], rfl⟩
    rw [HT.out.1, HT.out.2]
    have hr := ((h.b.alloc (.cells #[.int .i64 c.i, .int .i64 c.v, .int .i64 c.o, .slice ab c.bs.length cb, .slice as_ c.ss.length cs] 35)).alloc (.cells #[.int .i64 7, .int .i64 n] 88)).tm ht
    obtain ⟨b, off, rfl, _, g0, g1, g2⟩ := hr
    have hn0 : (0 : Int) ≤ (n : Int) := by omega
    dsimp only at ha1
    clear HM ha0 ht hk hf h
    dsimp only [cv]
    go_enter Tryz.func149, Tryz.ntmps149
    go_wp2_with (first
      | (go_at_call 120
         refine (c_arguments _ _).mono ?_
         rintro e w' ⟨rfl, rfl⟩)
      )
    refine bodyPost_ret (v := .tuple #[.int .i64 (argI t.k), .int .i64 1]) (by simp [results, Tryz.results149, go_sem]) rfl ⟨rfl, by (repeat (first | exact Below.refl _ _ | assumption | refine below_alloc ?_ _ | refine below_drewN ?_ _ | refine below_set ?_ _ (by simp; try omega) | refine Below.drew ?_))⟩
  by_cases h8 : o = 8
  · subst h8
    dsimp only [cv]
    go_enter Tryz.func149, Tryz.ntmps149
    go_wp2_with (fail)
    refine bodyPost_ret (v := .tuple #[.int .i64 1, .int .i64 0]) (by simp [results, Tryz.results149, go_sem]) rfl ⟨rfl, by (repeat (first | exact Below.refl _ _ | assumption | refine below_alloc ?_ _ | refine below_drewN ?_ _ | refine below_set ?_ _ (by simp; try omega) | refine Below.drew ?_))⟩
  by_cases h9 : o = 9
  · subst h9
    dsimp only [cv]
    go_enter Tryz.func149, Tryz.ntmps149
    go_wp2_with (fail)
    refine bodyPost_ret (v := .tuple #[.int .i64 1, .int .i64 0]) (by simp [results, Tryz.results149, go_sem]) rfl ⟨rfl, by (repeat (first | exact Below.refl _ _ | assumption | refine below_alloc ?_ _ | refine below_drewN ?_ _ | refine below_set ?_ _ (by simp; try omega) | refine Below.drew ?_))⟩
  have e1 : (o == 1) = false := by simpa using h1
  have e2 : (o == 2) = false := by simpa using h2
  have e3 : (o == 3) = false := by simpa using h3
  have e4 : (o == 4) = false := by simpa using h4
  have e5 : (o == 5) = false := by simpa using h5
  have e6 : (o == 6) = false := by simpa using h6
  have e7 : (o == 7) = false := by simpa using h7
  have e8 : (o == 8) = false := by simpa using h8
  have e9 : (o == 9) = false := by simpa using h9
  have HT : Hid (takI c ⟨o, a⟩ = 0 ∧ givI ⟨o, a⟩ = 0) := Lib.hid (by unfold takI givI; dsimp only; exact ⟨by rw [if_neg (by omega), if_neg (by omega), if_neg h7], by rw [if_neg (by omega)]⟩)
  rw [HT.out.1, HT.out.2]
  clear h1 h2 h3 h4 h5 h6 h7 h8 h9
  dsimp only [cv]
  go_enter Tryz.func149, Tryz.ntmps149
  go_wp2_with (fail)
  refine bodyPost_ret (v := .tuple #[.int .i64 0, .int .i64 0]) (by simp [results, Tryz.results149, go_sem]) rfl ⟨rfl, by (repeat (first | exact Below.refl _ _ | assumption | refine below_alloc ?_ _ | refine below_drewN ?_ _ | refine below_set ?_ _ (by simp; try omega) | refine Below.drew ?_))⟩
set_option maxHeartbeats 2000000 in
set_option maxRecDepth 100000 in
theorem c_timeOf (c : Cd) (ab as_ : Option Addr) (cb cs : Nat) (x : Ins) (w : World) (hd : Hd c) (hbl : ∀ t ∈ c.bs, blkB t = true) (hf : fitB c x = true) (h : CdR w ab as_ c) :
    Calls Tryz.prog 54 #[cv c ab as_ cb cs, .agg #[.int .i64 x.o, .int .i64 x.a]] w fun e w' => e = .returned (.int .i64 (timI c x)) ∧ Below w.heap.size w w' := by
  have hop := fit_op hf
  obtain ⟨o, a⟩ := x
  obtain ⟨i0, i1, v0, v1, o0, o1, hb, hs⟩ := hd
  dsimp only at hop ⊢
  rcases (show o = 1 ∨ o = 2 ∨ o = 3 ∨ o = 4 ∨ o = 5 ∨ o = 6 ∨ o = 7 ∨ o = 8 ∨ o = 9 ∨ o = 10 ∨ o = 11 by omega) with rfl | rfl | rfl | rfl | rfl | rfl | rfl | rfl | rfl | rfl | rfl
  · skip
    dsimp only [cv]
    go_enter Tryz.func54, Tryz.ntmps54
    go_wp2_with (fail)
    go_ret
    exact ⟨rfl, by (repeat (first | exact Below.refl _ _ | assumption | refine below_alloc ?_ _ | refine below_drewN ?_ _ | refine below_set ?_ _ (by simp; try omega) | refine Below.drew ?_))⟩
  · skip
    dsimp only [cv]
    go_enter Tryz.func54, Tryz.ntmps54
    go_wp2_with (fail)
    go_ret
    exact ⟨rfl, by (repeat (first | exact Below.refl _ _ | assumption | refine below_alloc ?_ _ | refine below_drewN ?_ _ | refine below_set ?_ _ (by simp; try omega) | refine Below.drew ?_))⟩
  · skip
    dsimp only [cv]
    go_enter Tryz.func54, Tryz.ntmps54
    go_wp2_with (fail)
    go_ret
    exact ⟨rfl, by (repeat (first | exact Below.refl _ _ | assumption | refine below_alloc ?_ _ | refine below_drewN ?_ _ | refine below_set ?_ _ (by simp; try omega) | refine Below.drew ?_))⟩
  · skip
    dsimp only [cv]
    go_enter Tryz.func54, Tryz.ntmps54
    go_wp2_with (fail)
    go_ret
    exact ⟨rfl, by (repeat (first | exact Below.refl _ _ | assumption | refine below_alloc ?_ _ | refine below_drewN ?_ _ | refine below_set ?_ _ (by simp; try omega) | refine Below.drew ?_))⟩
  · skip
    dsimp only [cv]
    go_enter Tryz.func54, Tryz.ntmps54
    go_wp2_with (fail)
    go_ret
    exact ⟨rfl, by (repeat (first | exact Below.refl _ _ | assumption | refine below_alloc ?_ _ | refine below_drewN ?_ _ | refine below_set ?_ _ (by simp; try omega) | refine Below.drew ?_))⟩
  · skip
    dsimp only [cv]
    go_enter Tryz.func54, Tryz.ntmps54
    go_wp2_with (fail)
    go_ret
    exact ⟨rfl, by (repeat (first | exact Below.refl _ _ | assumption | refine below_alloc ?_ _ | refine below_drewN ?_ _ | refine below_set ?_ _ (by simp; try omega) | refine Below.drew ?_))⟩
  · skip
    obtain ⟨ha0, ha1⟩ := of_decide_eq_true hf
    have HM : manyI c 7 = c.bs.length := rfl
    rw [HM] at ha1
    obtain ⟨t, ht, hk⟩ := tm_at ha0 ha1
    obtain ⟨n, rfl⟩ : ∃ n : Nat, a = n := ⟨a.toNat, by dsimp only at ha0; omega⟩
    rw [Int.toNat_natCast] at ht
    have hkk := blk_k (hbl t (List.mem_of_getElem? ht))
    have HT : Hid (timI c ⟨7, (n : Int)⟩ = tabI t.k) := Lib.hid (by show tabI (kindA c n) = _; rw [hk])
    have hr := h.b.tm ht
    obtain ⟨b, off, rfl, hlt, g0, g1, g2⟩ := hr
    have hn0 : (0 : Int) ≤ (n : Int) := by omega
    have hlt2 : b < w.heap.size + 1 := by omega
    have hlt3 : b < w.heap.size + 1 + 1 := by omega
    have hne1 : b ≠ w.heap.size := by omega
    have hne2 : b ≠ w.heap.size + 1 := by omega
    have hne3 : b ≠ w.heap.size + 1 + 1 := by omega
    dsimp only at ha1
    clear HM ha0 ht hk hf h
    obtain ⟨kk, nm, nn⟩ := t
    dsimp only at g0 g1 g2 hkk HT
    rw [HT.out]
    dsimp only [cv]
    rcases (show kk = 7 ∨ kk = 8 ∨ kk = 9 ∨ kk = 10 ∨ kk = 11 ∨ kk = 12 by omega) with rfl | rfl | rfl | rfl | rfl | rfl
    · skip
      go_enter Tryz.func54, Tryz.ntmps54
      go_wp2_with (fail)
      go_ret
      exact ⟨rfl, by (repeat (first | exact Below.refl _ _ | assumption | refine below_alloc ?_ _ | refine below_drewN ?_ _ | refine below_set ?_ _ (by simp; try omega) | refine Below.drew ?_))⟩
    · skip
      go_enter Tryz.func54, Tryz.ntmps54
      go_wp2_with (fail)
      go_ret
      exact ⟨rfl, by (repeat (first | exact Below.refl _ _ | assumption | refine below_alloc ?_ _ | refine below_drewN ?_ _ | refine below_set ?_ _ (by simp; try omega) | refine Below.drew ?_))⟩
    · skip
      go_enter Tryz.func54, Tryz.ntmps54
      go_wp2_with (fail)
      go_ret
      exact ⟨rfl, by (repeat (first | exact Below.refl _ _ | assumption | refine below_alloc ?_ _ | refine below_drewN ?_ _ | refine below_set ?_ _ (by simp; try omega) | refine Below.drew ?_))⟩
    · skip
      go_enter Tryz.func54, Tryz.ntmps54
      go_wp2_with (fail)
      go_ret
      exact ⟨rfl, by (repeat (first | exact Below.refl _ _ | assumption | refine below_alloc ?_ _ | refine below_drewN ?_ _ | refine below_set ?_ _ (by simp; try omega) | refine Below.drew ?_))⟩
    · skip
      go_enter Tryz.func54, Tryz.ntmps54
      go_wp2_with (fail)
      go_ret
      exact ⟨rfl, by (repeat (first | exact Below.refl _ _ | assumption | refine below_alloc ?_ _ | refine below_drewN ?_ _ | refine below_set ?_ _ (by simp; try omega) | refine Below.drew ?_))⟩
    · skip
      go_enter Tryz.func54, Tryz.ntmps54
      go_wp2_with (fail)
      go_ret
      exact ⟨rfl, by (repeat (first | exact Below.refl _ _ | assumption | refine below_alloc ?_ _ | refine below_drewN ?_ _ | refine below_set ?_ _ (by simp; try omega) | refine Below.drew ?_))⟩
  · skip
    dsimp only [cv]
    go_enter Tryz.func54, Tryz.ntmps54
    go_wp2_with (fail)
    go_ret
    exact ⟨rfl, by (repeat (first | exact Below.refl _ _ | assumption | refine below_alloc ?_ _ | refine below_drewN ?_ _ | refine below_set ?_ _ (by simp; try omega) | refine Below.drew ?_))⟩
  · skip
    dsimp only [cv]
    go_enter Tryz.func54, Tryz.ntmps54
    go_wp2_with (fail)
    go_ret
    exact ⟨rfl, by (repeat (first | exact Below.refl _ _ | assumption | refine below_alloc ?_ _ | refine below_drewN ?_ _ | refine below_set ?_ _ (by simp; try omega) | refine Below.drew ?_))⟩
  · skip
    have hw : IntKind.i64.wrap (2 + c.o) = 2 + c.o := IntWalk.i64_in _ (by omega)
    dsimp only [cv]
    go_enter Tryz.func54, Tryz.ntmps54
    go_wp2_with (fail)
    go_ret
    exact ⟨rfl, by (repeat (first | exact Below.refl _ _ | assumption | refine below_alloc ?_ _ | refine below_drewN ?_ _ | refine below_set ?_ _ (by simp; try omega) | refine Below.drew ?_))⟩
  · skip
    have hw : IntKind.i64.wrap (2 + c.o) = 2 + c.o := IntWalk.i64_in _ (by omega)
    dsimp only [cv]
    go_enter Tryz.func54, Tryz.ntmps54
    go_wp2_with (fail)
    go_ret
    exact ⟨rfl, by (repeat (first | exact Below.refl _ _ | assumption | refine below_alloc ?_ _ | refine below_drewN ?_ _ | refine below_set ?_ _ (by simp; try omega) | refine Below.drew ?_))⟩
end Go.Proofs.YteengjcplmjakaaGreatDoor

/- The code of a sound program, plainly: its steps, its head, its times. No condition but that the program is sound. -/
namespace Go.Proofs.YteengjcplmjakaaGreatDoor
open Go.RowKit

def nmI (p : Prg) (s : ByteArray) (a b : Int) : Ins := if 0 ≤ ixS p.ins s then ⟨a, ixS p.ins s⟩ else ⟨b, ixS p.vs s⟩
def insT (p : Prg) (b : Nat) (t : Tm) : Ins := if t.k = 1 then nmI p t.nm 2 3 else if t.k = 2 then ⟨1, 1⟩ else if t.k = 3 then ⟨1, 0⟩ else if t.k = 4 ∨ t.k = 5 ∨ t.k = 6 then ⟨t.k, 0⟩ else ⟨7, b⟩
def tgI (p : Prg) (s : ByteArray) : Ins := if 0 ≤ ixS p.vs s then ⟨8, ixS p.vs s⟩ else ⟨9, ixS p.os s⟩
def nbT (l : List Tm) : Nat := (l.filter isB).length
/-- The steps of terms; b blocks are before them. -/
def csT (p : Prg) : Nat → List Tm → List Ins
  | _, [] => []
  | b, t :: l => insT p b t :: csT p (b + nbT [t]) l
theorem nbT_cons (t : Tm) (l : List Tm) : nbT (t :: l) = nbT [t] + nbT l := by
  unfold nbT
  rw [show t :: l = [t] ++ l from rfl, List.filter_append, List.length_append]
theorem nbT_snoc (t : Tm) (l : List Tm) : nbT (l ++ [t]) = nbT l + nbT [t] := by
  unfold nbT
  rw [List.filter_append, List.length_append]
theorem nbT_one (t : Tm) : nbT [t] = if isB t then 1 else 0 := by
  unfold nbT
  rw [List.filter_cons]
  cases isB t <;> rfl
theorem csT_snoc (p : Prg) : ∀ (l : List Tm) (b : Nat) (t : Tm), csT p b (l ++ [t]) = csT p b l ++ [insT p (b + nbT l) t]
  | [], b, t => by simp [csT, nbT]
  | x :: l, b, t => by
    show insT p b x :: csT p (b + nbT [x]) (l ++ [t]) = insT p b x :: csT p (b + nbT [x]) l ++ _
    rw [csT_snoc p l, nbT_cons x l, ← Nat.add_assoc]
    rfl
theorem csT_len (p : Prg) : ∀ (l : List Tm) (b : Nat), (csT p b l).length = l.length
  | [], _ => rfl
  | x :: l, b => by
    show (csT p (b + nbT [x]) l).length + 1 = l.length + 1
    rw [csT_len p l]
/-- The steps of a line, of lines. -/
def csL (p : Prg) (b : Nat) (l : Lin) : List Ins := csT p b l.ts ++ [tgI p l.tg]
def csP (p : Prg) : Nat → List Lin → List Ins
  | _, [] => []
  | b, l :: r => csL p b l ++ csP p (b + nbT l.ts) r
def nbL (ls : List Lin) : Nat := (ls.flatMap blkL).length
theorem nbL_cons (l : Lin) (ls : List Lin) : nbL (l :: ls) = nbT l.ts + nbL ls := by
  unfold nbL nbT
  rw [List.flatMap_cons, List.length_append]
  rfl
theorem nbL_snoc (l : Lin) (ls : List Lin) : nbL (ls ++ [l]) = nbL ls + nbT l.ts := by
  unfold nbL nbT
  rw [List.flatMap_append, List.length_append]
  simp [blkL]
theorem csP_snoc (p : Prg) : ∀ (r : List Lin) (b : Nat) (l : Lin), csP p b (r ++ [l]) = csP p b r ++ csL p (b + nbL r) l
  | [], b, l => by simp [csP, nbL]
  | x :: r, b, l => by
    show csL p b x ++ csP p (b + nbT x.ts) (r ++ [l]) = csL p b x ++ csP p (b + nbT x.ts) r ++ _
    rw [csP_snoc p r, nbL_cons, ← Nat.add_assoc, List.append_assoc]
theorem csP_len (p : Prg) : ∀ (r : List Lin) (b : Nat), (∀ l ∈ r, l.ts.length ≤ 40) → (csP p b r).length ≤ 41 * r.length
  | [], _, _ => by simp [csP]
  | x :: r, b, h => by
    show (csL p b x ++ csP p (b + nbT x.ts) r).length ≤ 41 * (r.length + 1)
    have h1 := csP_len p r (b + nbT x.ts) (fun l hl => h l (List.mem_cons_of_mem _ hl))
    have h2 := h x List.mem_cons_self
    unfold csL
    rw [List.length_append, List.length_append, csT_len, List.length_singleton]
    omega
def gdI (p : Prg) : List Ins := if p.gd.toList.isEmpty then [] else [nmI p p.gd 10 11]
/-- The code of a program. -/
def cmp (p : Prg) : Cd := ⟨p.ins.length, p.vs.length, p.os.length, blk p, csP p 0 p.ls ++ gdI p⟩
theorem gdI_len (p : Prg) : (gdI p).length ≤ 1 := by unfold gdI; split <;> simp
theorem ins_nm {p : Prg} {s : ByteArray} {a b : Int} (h : s ∈ p.ins ∨ s ∈ p.vs) (ha : a = 2 ∧ b = 3 ∨ a = 10 ∧ b = 11) (bs : List Tm) (ss : List Ins) : fitB ⟨p.ins.length, p.vs.length, p.os.length, bs, ss⟩ (nmI p s a b) = true := by
  have b1 := ixS_bd s p.ins
  have b2 := ixS_bd s p.vs
  unfold nmI
  by_cases h0 : 0 ≤ ixS p.ins s
  · rw [if_pos h0]
    refine decide_eq_true ⟨h0, ?_⟩
    rcases ha with ⟨rfl, rfl⟩ | ⟨rfl, rfl⟩
    · exact b1.2
    · exact b1.2
  · rw [if_neg h0]
    have h2 : 0 ≤ ixS p.vs s := h.elim (fun e => absurd (ix_mem e) h0) ix_mem
    refine decide_eq_true ⟨h2, ?_⟩
    rcases ha with ⟨rfl, rfl⟩ | ⟨rfl, rfl⟩
    · exact b2.2
    · exact b2.2
theorem fit_T {p : Prg} (ss : List Ins) (bs : List Tm) : ∀ {l : List Tm} {b : Nat}, (∀ t ∈ l, trmT t.k t.nm t.n = true) → (∀ t ∈ l, t.k = 1 → t.nm ∈ p.ins ∨ t.nm ∈ p.vs) → b + nbT l ≤ bs.length → ∀ x ∈ csT p b l, fitB ⟨p.ins.length, p.vs.length, p.os.length, bs, ss⟩ x = true
  | [], _, _, _, _, x, hx => absurd hx (by simp [csT])
  | t :: l, b, hk, hr, hb, x, hx => by
    rw [nbT_cons] at hb
    rcases List.mem_cons.1 hx with rfl | hx
    · have hkk := trm_k (hk t List.mem_cons_self)
      unfold insT
      by_cases h1 : t.k = 1
      · rw [if_pos h1]
        exact ins_nm (hr t List.mem_cons_self h1) (.inl ⟨rfl, rfl⟩) _ _
      rw [if_neg h1]
      by_cases h2 : t.k = 2
      · rw [if_pos h2]; rfl
      rw [if_neg h2]
      by_cases h3 : t.k = 3
      · rw [if_pos h3]; rfl
      rw [if_neg h3]
      by_cases h4 : t.k = 4 ∨ t.k = 5 ∨ t.k = 6
      · rw [if_pos h4]
        rcases h4 with h4 | h4 | h4 <;> rw [h4] <;> rfl
      rw [if_neg h4]
      have hB : isB t = true := decide_eq_true (by omega)
      rw [nbT_one, if_pos hB] at hb
      refine decide_eq_true ⟨Int.natCast_nonneg _, ?_⟩
      show (b : Int) < (bs.length : Int)
      omega
    · exact fit_T ss bs (fun u hu => hk u (List.mem_cons_of_mem _ hu)) (fun u hu => hr u (List.mem_cons_of_mem _ hu)) (by omega) x hx
theorem fit_P {p : Prg} (ss : List Ins) (bs : List Tm) : ∀ {r : List Lin} {b : Nat}, (∀ l ∈ r, ∀ t ∈ l.ts, trmT t.k t.nm t.n = true) → (∀ l ∈ r, ∀ t ∈ l.ts, t.k = 1 → t.nm ∈ p.ins ∨ t.nm ∈ p.vs) → (∀ l ∈ r, l.tg ∈ p.vs ∨ l.tg ∈ p.os) → b + nbL r ≤ bs.length → ∀ x ∈ csP p b r, fitB ⟨p.ins.length, p.vs.length, p.os.length, bs, ss⟩ x = true
  | [], _, _, _, _, _, x, hx => absurd hx (by simp [csP])
  | l :: r, b, hk, hr, ht, hb, x, hx => by
    rw [nbL_cons] at hb
    rcases List.mem_append.1 hx with hx | hx
    · rcases List.mem_append.1 hx with hx | hx
      · exact fit_T ss bs (hk l List.mem_cons_self) (hr l List.mem_cons_self) (by omega) x hx
      · rw [List.mem_singleton] at hx
        subst hx
        have b1 := ixS_bd l.tg p.vs
        have b2 := ixS_bd l.tg p.os
        unfold tgI
        by_cases h0 : 0 ≤ ixS p.vs l.tg
        · rw [if_pos h0]; exact decide_eq_true ⟨h0, b1.2⟩
        · rw [if_neg h0]
          exact decide_eq_true ⟨(ht l List.mem_cons_self).elim (fun e => absurd (ix_mem e) h0) ix_mem, b2.2⟩
    · exact fit_P ss bs (fun u hu => hk u (List.mem_cons_of_mem _ hu)) (fun u hu => hr u (List.mem_cons_of_mem _ hu)) (fun u hu => ht u (List.mem_cons_of_mem _ hu)) (by omega) x hx
/-- All steps of a sound program's code fit. -/
theorem fit_cmp {p : Prg} (h : Snd p) : ∀ x ∈ (cmp p).ss, fitB (cmp p) x = true := by
  intro x hx
  rcases List.mem_append.1 (show x ∈ csP p 0 p.ls ++ gdI p from hx) with hx | hx
  · exact fit_P _ _ h.k h.r h.t (by rw [Nat.zero_add]; exact Nat.le_refl _) x hx
  · unfold gdI at hx
    split at hx
    · cases hx
    · rename_i he
      rw [List.mem_singleton] at hx
      subst hx
      exact ins_nm (h.g.elim (fun e => absurd e he) id) (.inr ⟨rfl, rfl⟩) _ _
theorem blk_cmp {p : Prg} (h : Snd p) : ∀ t ∈ (cmp p).bs, blkB t = true := by
  intro t ht
  obtain ⟨l, hl, ht⟩ := List.mem_flatMap.1 (show t ∈ p.ls.flatMap blkL from ht)
  obtain ⟨ht, h7⟩ := List.mem_filter.1 (show t ∈ l.ts.filter isB from ht)
  unfold blkB
  rw [h.k l hl t ht]
  exact h7
theorem blk_le {p : Prg} (h : PgB p) : (blk p).length ≤ 1600 := by
  have hl := h.l
  have ht := h.t
  unfold blk
  have : ∀ l : List Lin, (∀ x ∈ l, x.ts.length ≤ 40) → (l.flatMap blkL).length ≤ 40 * l.length := by
    intro l
    induction l with
    | nil => intro _; simp
    | cons x l ih =>
      intro hx
      rw [List.flatMap_cons, List.length_append, List.length_cons]
      have h1 := ih (fun y hy => hx y (List.mem_cons_of_mem _ hy))
      have h2 := hx x List.mem_cons_self
      have h3 : (blkL x).length ≤ x.ts.length := List.length_filter_le _ _
      omega
  have := this p.ls ht
  omega
theorem hd_cmp {p : Prg} (h : Snd p) : Hd (cmp p) := by
  have h1 := h.b.i
  have h2 := h.b.v
  have h3 := h.b.o
  have h4 := h.b.l
  have h5 := csP_len p p.ls 0 h.b.t
  have h6 := gdI_len p
  refine ⟨Int.natCast_nonneg _, ?_, Int.natCast_nonneg _, ?_, Int.natCast_nonneg _, ?_, ?_, ?_⟩
  · show (p.ins.length : Int) ≤ 20; omega
  · show (p.vs.length : Int) ≤ 20; omega
  · show (p.os.length : Int) ≤ 20; omega
  · exact Nat.le_trans (blk_le h.b) (by decide)
  · show (csP p 0 p.ls ++ gdI p).length ≤ 2000
    rw [List.length_append]
    omega
/-- The time of a term, of a line. -/
def tT (t : Tm) : Int := if t.k = 1 ∨ t.k = 5 ∨ t.k = 6 then 2 else if t.k = 2 ∨ t.k = 3 ∨ t.k = 4 then 1 else tabI t.k
def tTs : List Tm → Int
  | [] => 0
  | t :: l => tT t + tTs l
def tL (l : Lin) : Int := tTs l.ts + 3
theorem tab_bd (k : Int) : 4 ≤ tabI k ∧ tabI k ≤ 9 := by
  unfold tabI
  repeat' split
  all_goals omega
theorem tT_bd (t : Tm) : 1 ≤ tT t ∧ tT t ≤ 9 := by
  have := tab_bd t.k
  unfold tT
  repeat' split
  all_goals omega
theorem tTs_bd : ∀ l : List Tm, 0 ≤ tTs l ∧ tTs l ≤ 9 * l.length
  | [] => by simp [tTs]
  | t :: l => by
    have h1 := tT_bd t
    have h2 := tTs_bd l
    show 0 ≤ tT t + tTs l ∧ tT t + tTs l ≤ 9 * ((l.length + 1 : Nat) : Int)
    omega
theorem tim_nm (p : Prg) (c : Cd) (s : ByteArray) : timI c (nmI p s 2 3) = 2 := by
  unfold nmI
  split <;> rfl
theorem tim_T {p : Prg} {c : Cd} {b : Nat} {t : Tm} (hk : trmT t.k t.nm t.n = true) (hb : isB t = true → c.bs[b]? = some t) : timI c (insT p b t) = tT t := by
  have hkk := trm_k hk
  unfold insT tT
  by_cases h1 : t.k = 1
  · rw [if_pos h1, if_pos (.inl h1)]; exact tim_nm _ _ _
  rw [if_neg h1]
  by_cases h2 : t.k = 2
  · rw [if_pos h2, if_neg (by omega), if_pos (.inl h2)]; rfl
  rw [if_neg h2]
  by_cases h3 : t.k = 3
  · rw [if_pos h3, if_neg (by omega), if_pos (by omega)]; rfl
  rw [if_neg h3]
  by_cases h4 : t.k = 4 ∨ t.k = 5 ∨ t.k = 6
  · rw [if_pos h4]
    rcases h4 with h4 | h4 | h4 <;> rw [h4] <;> rfl
  rw [if_neg h4, if_neg (by omega), if_neg (by omega)]
  have hB : isB t = true := decide_eq_true (by omega)
  show tabI (kindA c (b : Int)) = _
  unfold kindA
  rw [Int.toNat_natCast, List.getD_eq_getElem?_getD, hb hB]
  rfl
theorem sum_T {p : Prg} {c : Cd} : ∀ {l : List Tm} {b : Nat} {pre post : List Tm}, (∀ t ∈ l, trmT t.k t.nm t.n = true) → c.bs = pre ++ (l.filter isB ++ post) → pre.length = b → sumT c (csT p b l) = tTs l
  | [], _, _, _, _, _, _ => rfl
  | t :: l, b, pre, post, hk, hc, hp => by
    show timI c (insT p b t) + sumT c (csT p (b + nbT [t]) l) = tT t + tTs l
    have e1 : timI c (insT p b t) = tT t := by
      refine tim_T (hk t List.mem_cons_self) (fun hB => ?_)
      rw [hc, List.getElem?_append_right (by omega), hp, Nat.sub_self, List.filter_cons, if_pos hB]
      rfl
    rw [e1]
    congr 1
    refine sum_T (pre := pre ++ [t].filter isB) (post := post) (fun u hu => hk u (List.mem_cons_of_mem _ hu)) ?_ ?_
    · rw [hc, show t :: l = [t] ++ l from rfl, List.filter_append]
      simp
    · rw [List.length_append, hp]
      rfl
theorem sumT_app2 (c : Cd) : ∀ (l r : List Ins), sumT c (l ++ r) = sumT c l + sumT c r
  | [], r => by simp [sumT]
  | y :: t, r => by
    show timI c y + sumT c (t ++ r) = timI c y + sumT c t + sumT c r
    rw [sumT_app2 c t r]
    omega
theorem tim_tg (p : Prg) (c : Cd) (s : ByteArray) : timI c (tgI p s) = 3 := by
  unfold tgI
  split <;> rfl
theorem sum_L {p : Prg} {c : Cd} {l : Lin} {b : Nat} {pre post : List Tm} (hk : ∀ t ∈ l.ts, trmT t.k t.nm t.n = true) (hc : c.bs = pre ++ (blkL l ++ post)) (hp : pre.length = b) : sumT c (csL p b l) = tL l := by
  unfold csL tL
  rw [sumT_app2, sum_T hk hc hp]
  show tTs l.ts + (timI c (tgI p l.tg) + 0) = _
  rw [tim_tg]
  omega
/-- The blocks before a line, its own, and those behind it. -/
theorem blk_split {p : Prg} {k : Nat} {l : Lin} (h : p.ls[k]? = some l) : blk p = (p.ls.take k).flatMap blkL ++ (blkL l ++ (p.ls.drop (k + 1)).flatMap blkL) := by
  obtain ⟨hk, e⟩ := List.getElem?_eq_some_iff.1 h
  unfold blk
  conv => lhs; rw [← List.take_append_drop k p.ls, List.drop_eq_getElem_cons hk, e]
  rw [List.flatMap_append, List.flatMap_cons]
/-- The time of a line's steps is the line's time. -/
theorem sum_line {p : Prg} (h : Snd p) {k : Nat} {l : Lin} (hl : p.ls[k]? = some l) : sumT (cmp p) (csL p (nbL (p.ls.take k)) l) = tL l :=
  sum_L (pre := (p.ls.take k).flatMap blkL) (post := (p.ls.drop (k + 1)).flatMap blkL) (h.k l (List.mem_of_getElem? hl)) (blk_split hl) rfl
/-- The times of lines, read off the steps. -/
def ltS (c : Cd) : List Ins → Int → List Int
  | [], _ => []
  | x :: r, n => if x.o = 8 ∨ x.o = 9 then (n + timI c x) :: ltS c r 0 else ltS c r (n + timI c x)
theorem op_T (p : Prg) : ∀ {l : List Tm} {b : Nat}, (∀ t ∈ l, trmT t.k t.nm t.n = true) → ∀ x ∈ csT p b l, ¬ (x.o = 8 ∨ x.o = 9)
  | [], _, _, x, hx => absurd hx (by simp [csT])
  | t :: l, b, hk, x, hx => by
    rcases List.mem_cons.1 hx with rfl | hx
    · unfold insT nmI
      repeat' split
      all_goals (dsimp only; omega)
    · exact op_T p (fun u hu => hk u (List.mem_cons_of_mem _ hu)) x hx
theorem ltS_run (c : Cd) : ∀ {l : List Ins} (r : List Ins) (n : Int), (∀ x ∈ l, ¬ (x.o = 8 ∨ x.o = 9)) → ltS c (l ++ r) n = ltS c r (n + sumT c l)
  | [], r, n, _ => by simp [sumT]
  | y :: t, r, n, h => by
    show (if y.o = 8 ∨ y.o = 9 then (n + timI c y) :: ltS c (t ++ r) 0 else ltS c (t ++ r) (n + timI c y)) = ltS c r (n + (timI c y + sumT c t))
    rw [if_neg (h y List.mem_cons_self), ltS_run c r _ (fun x hx => h x (List.mem_cons_of_mem _ hx)), Int.add_assoc]
theorem ltS_L (p : Prg) (c : Cd) {l : Lin} {b : Nat} (hk : ∀ t ∈ l.ts, trmT t.k t.nm t.n = true) (r : List Ins) : ltS c (csL p b l ++ r) 0 = sumT c (csL p b l) :: ltS c r 0 := by
  unfold csL
  rw [List.append_assoc, ltS_run c _ _ (op_T p hk), sumT_app2]
  have ho : (tgI p l.tg).o = 8 ∨ (tgI p l.tg).o = 9 := by unfold tgI; split <;> simp
  show (if (tgI p l.tg).o = 8 ∨ (tgI p l.tg).o = 9 then (0 + sumT c (csT p b l.ts) + timI c (tgI p l.tg)) :: ltS c r 0 else _) = _
  rw [if_pos ho]
  congr 1
  show _ = sumT c (csT p b l.ts) + (timI c (tgI p l.tg) + 0)
  omega
theorem ltS_P {p : Prg} (h : Snd p) : ∀ (k : Nat) (pre r : List Lin), p.ls = pre ++ r → r.length = k → ltS (cmp p) (csP p (nbL pre) r ++ gdI p) 0 = r.map tL
  | 0, pre, r, _, hr => by
    obtain rfl : r = [] := List.eq_nil_of_length_eq_zero hr
    show ltS (cmp p) (gdI p) 0 = []
    unfold gdI nmI
    repeat' split
    all_goals rfl
  | k + 1, pre, r, e, hr => by
    match r, hr with
    | l :: r, hr =>
      have hz : p.ls[pre.length]? = some l := by rw [e, List.getElem?_append_right (Nat.le_refl _), Nat.sub_self]; rfl
      have htk : p.ls.take pre.length = pre := by rw [e]; simp
      show ltS (cmp p) (csL p (nbL pre) l ++ csP p (nbL pre + nbT l.ts) r ++ gdI p) 0 = tL l :: r.map tL
      have h1 := sum_line h hz
      rw [htk] at h1
      rw [List.append_assoc, ltS_L p _ (h.k l (List.mem_of_getElem? hz)), h1]
      congr 1
      rw [← nbL_snoc]
      exact ltS_P h k (pre ++ [l]) r (by rw [e]; simp) (by simpa using hr)
/-- The times of lines, read off the steps of a sound program's code, are the lines' times. -/
theorem ltS_cmp {p : Prg} (h : Snd p) : ltS (cmp p) (cmp p).ss 0 = p.ls.map tL := ltS_P h p.ls.length [] p.ls rfl rfl
end Go.Proofs.YteengjcplmjakaaGreatDoor

/- The reference's compiler: l17Name. Condition: the lengths. -/
namespace Go.Proofs.YteengjcplmjakaaGreatDoor
open Go.RowKit

/-- The box of an instruction that is handed back. -/
def XR (w : World) (b : Nat) : Prop := w.cell? ⟨b, 0, none⟩ = some (.int .i64 0) ∧ w.cell? ⟨b, 1, none⟩ = some (.int .i64 0) ∧ w.frozen? ⟨b, 0, none⟩ = false ∧ w.frozen? ⟨b, 1, none⟩ = false
theorem XR.below {w w' : World} {b : Nat} (h : XR w b) (hb : Below w.heap.size w w') : XR w' b :=
  ⟨cell_later hb h.1, cell_later hb h.2.1, frozen_later hb (World.block_lt_of_cell? _ _ h.1) h.2.2.1, frozen_later hb (World.block_lt_of_cell? _ _ h.2.1) h.2.2.2⟩
theorem nmI_in {p : Prg} {s : ByteArray} {a b : Int} (h : 0 ≤ ixS p.ins s) : nmI p s a b = ⟨a, ixS p.ins s⟩ := if_pos h
theorem nmI_va {p : Prg} {s : ByteArray} {a b : Int} (h : ¬ 0 ≤ ixS p.ins s) : nmI p s a b = ⟨b, ixS p.vs s⟩ := if_neg h
set_option maxHeartbeats 1000000 in
set_option maxRecDepth 100000 in
theorem c_l17Name (p : Prg) (a1 a2 a3 a4 : Option Addr) (c1 c2 c3 c4 : Nat) (s : ByteArray) (a b : Int) (w : World) (hs : PgOk p) (h : PgR w a1 a2 a3 a4 p) :
    Calls Tryz.prog 94 #[pv p a1 a2 a3 a4 c1 c2 c3 c4, .string s, .int .i64 a, .int .i64 b] w fun e w' => e = .returned (.agg #[.int .i64 (nmI p s a b).o, .int .i64 (nmI p s a b).a]) ∧ Below w.heap.size w w' := by
  have H := Lib.hid h
  have HI := Lib.hid (fun w h => c_l14Index a1 c1 _ p.ins s w rfl hs.i.1 h)
  have HJ := Lib.hid (fun w h => c_l14Index a2 c2 _ p.vs s w rfl hs.v.1 h)
  have HV : Hid (0 ≤ ixS p.ins s ∧ nmI p s a b = ⟨a, ixS p.ins s⟩ ∨ ixS p.ins s < 0 ∧ nmI p s a b = ⟨b, ixS p.vs s⟩) := Lib.hid (by
    by_cases h0 : 0 ≤ ixS p.ins s
    · exact .inl ⟨h0, nmI_in h0⟩
    · exact .inr ⟨by omega, nmI_va h0⟩)
  generalize nmI p s a b = R at *
  generalize ixS p.ins s = z at *
  generalize ixS p.vs s = z2 at *
  have B0 := Lib.hid (below_alloc (below_alloc (Below.refl w.heap.size w) (.cells #[.string p.nm, .slice a1 p.ins.length c1, .slice a2 p.vs.length c2, .slice a3 p.os.length c3, .string p.gd, .slice a4 p.ls.length c4] 27)) (.cells #[.int .i64 0, .int .i64 0] 88))
  have HP : Hid (PB ((w.alloc (.cells #[.string p.nm, .slice a1 p.ins.length c1, .slice a2 p.vs.length c2, .slice a3 p.os.length c3, .string p.gd, .slice a4 p.ls.length c4] 27)).alloc (.cells #[.int .i64 0, .int .i64 0] 88)) w.heap.size p a1 a2 a3 a4 c1 c2 c3 c4) := Lib.hid ⟨by go_simp, by go_simp, by go_simp, by go_simp, by go_simp, by go_simp⟩
  have HX : Hid (XR ((w.alloc (.cells #[.string p.nm, .slice a1 p.ins.length c1, .slice a2 p.vs.length c2, .slice a3 p.os.length c3, .string p.gd, .slice a4 p.ls.length c4] 27)).alloc (.cells #[.int .i64 0, .int .i64 0] 88)) (w.heap.size + 1)) := Lib.hid ⟨by go_simp, by go_simp, by go_simp, by go_simp⟩
  clear hs h
  go_enter Tryz.func94, Tryz.ntmps94
  dsimp only [pv]
  go_upto_region 1 with (fail)
  generalize (w.alloc (.cells #[.string p.nm, .slice a1 p.ins.length c1, .slice a2 p.vs.length c2, .slice a3 p.os.length c3, .string p.gd, .slice a4 p.ls.length c4] 27)).alloc (.cells #[.int .i64 0, .int .i64 0] 88) = W at *
  obtain ⟨k0, k1, k2, k3, k4, k5⟩ := HP.out
  go_wp2_with (fail)
  refine (HI.out _ (H.out.i.below B0.out)).mono ?_
  rintro e w1 ⟨rfl, hb⟩
  have B1 := Lib.hid (below_chain B0.out hb)
  have HX1 := Lib.hid (HX.out.below hb)
  replace k2 := cell_later hb k2
  clear hb k0 k1 k3 k4 k5 HP HX
  rcases HV.out with ⟨h0, rfl⟩ | ⟨h0, rfl⟩
  · obtain ⟨x0, x1, f0, f1⟩ := HX1.out
    have hz := World.block_lt_of_cell? _ _ x0
    clear HV
    go_wp2_with (fail)
    refine bodyPost_ret (v := .agg #[.int .i64 a, .int .i64 z]) (by simp [results, Tryz.results94, go_sem, x0, x1]) rfl ⟨rfl, below_set (below_set B1.out _ (by simp)) _ (by simp)⟩
  · clear HV
    go_wp2_with (fail)
    refine (HJ.out _ (H.out.v.below B1.out)).mono ?_
    rintro e w2 ⟨rfl, hb⟩
    have B2 := Lib.hid (below_chain B1.out hb)
    have HX2 := Lib.hid (HX1.out.below hb)
    obtain ⟨x0, x1, f0, f1⟩ := HX2.out
    have hz := World.block_lt_of_cell? _ _ x0
    clear hb k2
    go_wp2_with (fail)
    refine bodyPost_ret (v := .agg #[.int .i64 b, .int .i64 z2]) (by simp [results, Tryz.results94, go_sem, x0, x1]) rfl ⟨rfl, below_set (below_set B2.out _ (by simp)) _ (by simp)⟩
end Go.Proofs.YteengjcplmjakaaGreatDoor

/- Append of an instruction; one step more of a program's code. No condition but the sizes. -/
namespace Go.Proofs.YteengjcplmjakaaGreatDoor
open Go.RowKit

theorem wpList_push_ins (w : World) {ops : Array Oper} {rest : List Oper} {o : Oper} {a : Act} {Q : Exit → Act → World → Prop} (hgd : o.guard = none) (s x : Operand)
    (ho : o.op = .call { callee := .builtin .append, args := #[s, x], argTypes := #[33, 33] })
    (base : Nat) (v : Value) (n : Nat) (l : List Ins) (t : Ins) (g c : Nat) (hs : a.eval s = v) (hown : w.ownsRow base 88 2 v n (insCells l))
    (hx : a.eval x = .slice (some ⟨g, 0, none⟩) 1 c) (h0 : w.cell? ⟨g, 0, none⟩ = some (.int .i64 t.o)) (h1 : w.cell? ⟨g, 1, none⟩ = some (.int .i64 t.a)) (hn : n ≤ 1048577) (hbase : base ≤ w.heap.size)
    (h : ∀ v' w', w'.ownsRow base 88 2 v' (n + 1) (insCells (l ++ [t])) → w.grownBy w' v.ownBlock → wpList Tryz.prog ops Q rest (a.put o.dst v') w') : wpList Tryz.prog ops Q (o :: rest) a w := by
  obtain ⟨i0, hi, hz0, hz1, hz2⟩ := info_parts info_iInstruction
  refine wpList_push w hgd s x 33 ho base 88 i0 _ 2 16 Tryz.underlying33 hi hz0 hz1 hz2 rfl (by decide) v n (insCells l) hs hown ⟨g, 0, none⟩ c t.cells hx rfl ?_ ?_ (by unfold maxLen; omega) (by omega) hbase ?_
  · intro j u hu
    match j, hu with
    | 0, hu => simp only [Ins.cells, List.getElem?_cons_zero, Option.some.injEq] at hu; rw [← hu]; simpa [Addr.add] using h0
    | 1, hu => simp only [Ins.cells, List.getElem?_cons_succ, List.getElem?_cons_zero, Option.some.injEq] at hu; rw [← hu]; simpa [Addr.add] using h1
  · intro u hu
    simp only [Ins.cells, List.mem_cons, List.not_mem_nil, or_false] at hu
    rcases hu with rfl | rfl <;> rfl
  · intro v' w' hown1 hgrow _ _
    refine h v' w' ?_ hgrow
    have e : insCells (l ++ [t]) = insCells l ++ t.cells := by simp [insCells]
    rw [e]
    exact hown1
theorem wp_push_ins (w : World) {o : Oper} {a : Act} {K : Act → World → Prop} {Q : Exit → Act → World → Prop} (s x : Operand)
    (ho : o.op = .call { callee := .builtin .append, args := #[s, x], argTypes := #[33, 33] })
    (base : Nat) (v : Value) (n : Nat) (l : List Ins) (t : Ins) (g c : Nat) (hs : a.eval s = v) (hown : w.ownsRow base 88 2 v n (insCells l))
    (hx : a.eval x = .slice (some ⟨g, 0, none⟩) 1 c) (h0 : w.cell? ⟨g, 0, none⟩ = some (.int .i64 t.o)) (h1 : w.cell? ⟨g, 1, none⟩ = some (.int .i64 t.a)) (hn : n ≤ 1048577) (hbase : base ≤ w.heap.size)
    (h : ∀ v' w', w'.ownsRow base 88 2 v' (n + 1) (insCells (l ++ [t])) → w.grownBy w' v.ownBlock → K (a.put o.dst v') w') : o.wp Tryz.prog a w K Q := by
  obtain ⟨i0, hi, hz0, hz1, hz2⟩ := info_parts info_iInstruction
  refine wp_push w s x 33 ho base 88 i0 _ 2 16 Tryz.underlying33 hi hz0 hz1 hz2 rfl (by decide) v n (insCells l) hs hown ⟨g, 0, none⟩ c t.cells hx rfl ?_ ?_ (by unfold maxLen; omega) (by omega) hbase ?_
  · intro j u hu
    match j, hu with
    | 0, hu => simp only [Ins.cells, List.getElem?_cons_zero, Option.some.injEq] at hu; rw [← hu]; simpa [Addr.add] using h0
    | 1, hu => simp only [Ins.cells, List.getElem?_cons_succ, List.getElem?_cons_zero, Option.some.injEq] at hu; rw [← hu]; simpa [Addr.add] using h1
  · intro u hu
    simp only [Ins.cells, List.mem_cons, List.not_mem_nil, or_false] at hu
    rcases hu with rfl | rfl <;> rfl
  · intro v' w' hown1 hgrow _ _
    refine h v' w' ?_ hgrow
    have e : insCells (l ++ [t]) = insCells l ++ t.cells := by simp [insCells]
    rw [e]
    exact hown1
theorem cell_mark' {w w' : World} {row : Option Nat} {a : Addr} {v : Value} (h : w.cell? a = some v) (hg : w.grownBy w' row) (hne : ∀ q, row = some q → q ≠ a.block) : w'.cell? a = some v :=
  (hg.cell_far a (World.block_lt_of_cell? w a h) (fun h' => hne _ h'.symm rfl)).trans h
theorem csP_step {p : Prg} {k : Nat} {l : Lin} (h : p.ls[k]? = some l) : csP p 0 (p.ls.take (k + 1)) = csP p 0 (p.ls.take k) ++ csL p (nbL (p.ls.take k)) l := by
  rw [List.take_add_one, h]
  show csP p 0 (p.ls.take k ++ [l]) = _
  rw [csP_snoc, Nat.zero_add]
theorem nbL_step {p : Prg} {k : Nat} {l : Lin} (h : p.ls[k]? = some l) : nbL (p.ls.take (k + 1)) = nbL (p.ls.take k) + nbT l.ts := by
  rw [List.take_add_one, h]
  show nbL (p.ls.take k ++ [l]) = _
  rw [nbL_snoc]
theorem csT_step {p : Prg} {b q : Nat} {ts : List Tm} {t : Tm} (h : ts[q]? = some t) : csT p b (ts.take (q + 1)) = csT p b (ts.take q) ++ [insT p (b + nbT (ts.take q)) t] := by
  rw [List.take_add_one, h]
  show csT p b (ts.take q ++ [t]) = _
  rw [csT_snoc]
theorem nbT_step {q : Nat} {ts : List Tm} {t : Tm} (h : ts[q]? = some t) : nbT (ts.take (q + 1)) = nbT (ts.take q) + (if isB t then 1 else 0) := by
  rw [List.take_add_one, h]
  show nbT (ts.take q ++ [t]) = _
  rw [nbT_snoc, nbT_one]
theorem nbT_le (l : List Tm) : nbT l ≤ l.length := List.length_filter_le _ _
theorem nbL_le {p : Prg} (h : PgB p) (k : Nat) : nbL (p.ls.take k) ≤ 1600 := by
  refine Nat.le_trans ?_ (blk_le h)
  unfold nbL blk
  conv => rhs; rw [← List.take_append_drop k p.ls, List.flatMap_append, List.length_append]
  omega
theorem insT_d {p : Prg} {b : Nat} {t : Tm} (h : 7 ≤ t.k) : insT p b t = ⟨7, b⟩ := by
  unfold insT
  rw [if_neg (by omega), if_neg (by omega), if_neg (by omega), if_neg (by omega)]
theorem tgI_v {p : Prg} {s : ByteArray} (h : 0 ≤ ixS p.vs s) : tgI p s = ⟨8, ixS p.vs s⟩ := if_pos h
theorem tgI_o {p : Prg} {s : ByteArray} (h : ixS p.vs s < 0) : tgI p s = ⟨9, ixS p.os s⟩ := if_neg (by omega)
end Go.Proofs.YteengjcplmjakaaGreatDoor

/- The reference's l17Compile (printed by QCc.py). Condition: the program is sound; the lengths. -/
namespace Go.Proofs.YteengjcplmjakaaGreatDoor
open Go.RowKit

/-- The box of a code that is handed back. -/
def CRB (w : World) (b : Nat) : Prop := (w.cell? ⟨b, 0, none⟩ = some (.int .i64 0) ∧ w.cell? ⟨b, 1, none⟩ = some (.int .i64 0) ∧ w.cell? ⟨b, 2, none⟩ = some (.int .i64 0) ∧ w.cell? ⟨b, 3, none⟩ = some (.slice none 0 0) ∧ w.cell? ⟨b, 4, none⟩ = some (.slice none 0 0)) ∧
  (w.frozen? ⟨b, 0, none⟩ = false ∧ w.frozen? ⟨b, 1, none⟩ = false ∧ w.frozen? ⟨b, 2, none⟩ = false ∧ w.frozen? ⟨b, 3, none⟩ = false ∧ w.frozen? ⟨b, 4, none⟩ = false)
theorem CRB.below {w w' : World} {b : Nat} (h : CRB w b) (hb : Below w.heap.size w w') : CRB w' b := by
  have hz := World.block_lt_of_cell? _ _ h.1.1
  obtain ⟨⟨x0, x1, x2, x3, x4⟩, f0, f1, f2, f3, f4⟩ := h
  exact ⟨⟨cell_later hb x0, cell_later hb x1, cell_later hb x2, cell_later hb x3, cell_later hb x4⟩, frozen_later hb hz f0, frozen_later hb hz f1, frozen_later hb hz f2, frozen_later hb hz f3, frozen_later hb hz f4⟩
theorem own_set5 {w : World} {base : Nat} {e : TypeId} {size : Nat} {v : Value} {n : Nat} {xs : List Value} (h : w.ownsRow base e size v n xs) {b : Nat} (hb : b < base) (u0 u1 u2 u3 u4 : Value) :
    (((((w.setCell ⟨b, 0, none⟩ u0).setCell ⟨b, 1, none⟩ u1).setCell ⟨b, 2, none⟩ u2).setCell ⟨b, 3, none⟩ u3).setCell ⟨b, 4, none⟩ u4).ownsRow base e size v n xs :=
  ownsRow_setCell_below (ownsRow_setCell_below (ownsRow_setCell_below (ownsRow_setCell_below (ownsRow_setCell_below h hb _) hb _) hb _) hb _) hb _
theorem below_set5 {w a : World} (h : Below w.heap.size w a) {b : Nat} (hb : w.heap.size ≤ b) (u0 u1 u2 u3 u4 : Value) :
    Below w.heap.size w (((((a.setCell ⟨b, 0, none⟩ u0).setCell ⟨b, 1, none⟩ u1).setCell ⟨b, 2, none⟩ u2).setCell ⟨b, 3, none⟩ u3).setCell ⟨b, 4, none⟩ u4) :=
  below_set (below_set (below_set (below_set (below_set h _ hb) _ hb) _ hb) _ hb) _ hb
/-- What is handed back: a code with lists of the call's own. -/
def RetCd (c : Cd) (w : World) (e : Ending) (w' : World) : Prop :=
  ∃ A1 c1 A2 c2, e = .returned (cv c A1 A2 c1 c2) ∧ w'.ownsRow w.heap.size 60 3 (.slice A1 c.bs.length c1) c.bs.length (tmCells c.bs) ∧ w'.ownsRow w.heap.size 88 2 (.slice A2 c.ss.length c2) c.ss.length (insCells c.ss) ∧ Below w.heap.size w w'
set_option maxHeartbeats 2000000 in
set_option maxRecDepth 100000 in
theorem c_l17CompileW (p : Prg) (a1 a2 a3 a4 : Option Addr) (c1 c2 c3 c4 : Nat) (w : World) (hs : PgOk p) (hdb : PgB p) (hdk : ∀ l ∈ p.ls, ∀ t ∈ l.ts, 1 ≤ t.k ∧ t.k ≤ 12) (h : PgR w a1 a2 a3 a4 p) :
    Calls Tryz.prog 45 #[pv p a1 a2 a3 a4 c1 c2 c3 c4] w (RetCd (cmp p) w) := by
  have H := Lib.hid h
  have HN := Lib.hid (fun s a b w h => c_l17Name p a1 a2 a3 a4 c1 c2 c3 c4 s a b w hs h)
  have HI := Lib.hid (fun s w h => c_l14Index a2 c2 _ p.vs s w rfl hs.v.1 h)
  have HJ := Lib.hid (fun s w h => c_l14Index a3 c3 _ p.os s w rfl hs.o.1 h)
  have HBL := Lib.hid (fun w h => c_l14Blocks p a1 a2 a3 a4 c1 c2 c3 c4 w hdb h)
  have HD := Lib.hid hdb
  have HDK := Lib.hid hdk
  have hi1 := hdb.i
  have hv1 := hdb.v
  have ho1 := hdb.o
  have bl := hdb.l
  have B0 := Lib.hid (below_alloc (below_alloc (Below.refl w.heap.size w) (.cells #[.string p.nm, .slice a1 p.ins.length c1, .slice a2 p.vs.length c2, .slice a3 p.os.length c3, .string p.gd, .slice a4 p.ls.length c4] 27)) (.cells #[.int .i64 0, .int .i64 0, .int .i64 0, .slice none 0 0, .slice none 0 0] 35))
  have HP : Hid (PB ((w.alloc (.cells #[.string p.nm, .slice a1 p.ins.length c1, .slice a2 p.vs.length c2, .slice a3 p.os.length c3, .string p.gd, .slice a4 p.ls.length c4] 27)).alloc (.cells #[.int .i64 0, .int .i64 0, .int .i64 0, .slice none 0 0, .slice none 0 0] 35)) w.heap.size p a1 a2 a3 a4 c1 c2 c3 c4) := Lib.hid ⟨by go_simp, by go_simp, by go_simp, by go_simp, by go_simp, by go_simp⟩
  have HX : Hid (CRB ((w.alloc (.cells #[.string p.nm, .slice a1 p.ins.length c1, .slice a2 p.vs.length c2, .slice a3 p.os.length c3, .string p.gd, .slice a4 p.ls.length c4] 27)).alloc (.cells #[.int .i64 0, .int .i64 0, .int .i64 0, .slice none 0 0, .slice none 0 0] 35)) (w.heap.size + 1)) := Lib.hid ⟨⟨by go_simp, by go_simp, by go_simp, by go_simp, by go_simp⟩, by go_simp, by go_simp, by go_simp, by go_simp, by go_simp⟩
  clear hs hdb hdk h
  dsimp only [pv]
  go_enter Tryz.func45, Tryz.ntmps45
  go_upto_region 1 with (fail)
  generalize (w.alloc (.cells #[.string p.nm, .slice a1 p.ins.length c1, .slice a2 p.vs.length c2, .slice a3 p.os.length c3, .string p.gd, .slice a4 p.ls.length c4] 27)).alloc (.cells #[.int .i64 0, .int .i64 0, .int .i64 0, .slice none 0 0, .slice none 0 0] 35) = W at *
  have HO0 : Hid ((W.alloc (.cells #[] 88)).ownsRow W.heap.size 88 2 (.slice (some ⟨W.heap.size, 0, none⟩) 0 0) 0 (insCells (csP p 0 (p.ls.take 0)))) := Lib.hid (by
    have h := World.ownsRow_lit (e := 88) (size := 2) (base := W.heap.size) W #[] 0 (Nat.le_refl _) (by decide) (by simp)
    simpa [insCells, csP] using h)
  have BE := Lib.hid (below_alloc (Below.refl W.heap.size W) (.cells #[] 88))
  go_wp2_with (fail)
  go_loopw [3, 4, 5, 6, 7, 8] (fun u bk i _ _ _ wr => ∃ (k n : Nat) (A3 : Option Addr) (c3 : Nat), k ≤ p.ls.length ∧ n ≤ 41 * k ∧ i = .int .i64 k ∧ u = .slice A3 n c3 ∧ bk = .int .i64 (nbL (p.ls.take k) : Nat) ∧ Hid ((csP p 0 (p.ls.take k)).length = n) ∧ Hid (wr.ownsRow W.heap.size 88 2 (.slice A3 n c3) n (insCells (csP p 0 (p.ls.take k)))) ∧ Hid (Below W.heap.size W wr)) (fun _ _ i _ _ _ _ => p.ls.length - (intOf i).toNat)
  case atStart => exact ⟨0, 0, _, _, Nat.zero_le _, by omega, rfl, rfl, rfl, Lib.hid rfl, HO0, BE⟩
  case round =>
    obtain ⟨k, n, A3, C3, hk, hn, rfl, rfl, rfl, hl3, ho, hb⟩ := hrel
    clear HO0 BE
    obtain ⟨k0, k1, k2, k3, k4, k5⟩ := HP.out.below hb.out
    have hnb := nbL_le HD.out k
    by_cases hlt : k < p.ls.length
    · obtain ⟨⟨tg, ts⟩, hz⟩ : ∃ z, p.ls[k]? = some z := ⟨_, List.getElem?_eq_getElem (by omega)⟩
      have HKD := Lib.hid (HDK.out _ (List.mem_of_getElem? hz))
      have htl := HD.out.t _ (List.mem_of_getElem? hz)
      have HFS := Lib.hid (csP_step hz)
      have HNS := Lib.hid (nbL_step hz)
      obtain ⟨b, off, la, lc, rfl, hblt, g0w, g1w, hroww⟩ := H.out.l.at hz
      dsimp only at g0w g1w hroww
      have GW0 := Lib.hid g0w
      have GW1 := Lib.hid g1w
      have HROW := Lib.hid hroww
      have HLB : Hid (b < W.heap.size) := Lib.hid (Nat.lt_of_lt_of_le hblt B0.out.size)
      have g0 := cell_later (below_chain B0.out hb.out) g0w
      have g1 := cell_later (below_chain B0.out hb.out) g1w
      clear g0w g1w hroww
      have hk0 : (0 : Int) ≤ (k : Int) := by omega
      have hk1 : (k : Int) < p.ls.length := by omega
      dsimp only at htl HKD HNS
      clear hz
      generalize csP p 0 (p.ls.take k) = S0 at *
      generalize nbL (p.ls.take k) = nb0 at *
      go_wp2_with (fail)
      go_loopw [3, 4, 6, 7] (fun u bk i _ wq => ∃ (q n2 : Nat) (A3 : Option Addr) (c3 : Nat), q ≤ ts.length ∧ n2 ≤ 41 * k + q ∧ i = .int .i64 q ∧ u = .slice A3 n2 c3 ∧ bk = .int .i64 (nb0 + nbT (ts.take q) : Nat) ∧ Hid ((S0 ++ csT p nb0 (ts.take q)).length = n2) ∧ Hid (wq.ownsRow W.heap.size 88 2 (.slice A3 n2 c3) n2 (insCells (S0 ++ csT p nb0 (ts.take q)))) ∧ Hid (Below W.heap.size W wq)) (fun _ _ i _ _ => ts.length - (intOf i).toNat)
      case atStart => exact ⟨0, n, A3, C3, Nat.zero_le _, by omega, rfl, rfl, by simp [nbT], Lib.hid (by simpa [csT] using hl3.out), Lib.hid (by simpa [csT] using ho.out), hb⟩
      case round =>
        obtain ⟨q, n2, A3, C3, hq, hn2, rfl, rfl, rfl, hl3, ho, hb⟩ := hrel
        clear k0 k1 k2 k3 k4 k5 g0 g1
        obtain ⟨k0, k1, k2, k3, k4, k5⟩ := HP.out.below hb.out
        have g0 := cell_later (below_chain B0.out hb.out) GW0.out
        have g1 := cell_later (below_chain B0.out hb.out) GW1.out
        have hrow := HROW.out.below (below_chain B0.out hb.out)
        by_cases hlt2 : q < ts.length
        · obtain ⟨⟨tk, tm, tx⟩, hz2⟩ : ∃ z, ts[q]? = some z := ⟨_, List.getElem?_eq_getElem hlt2⟩
          obtain ⟨b2, o2, rfl, _, m0, m1, m2⟩ := hrow.tm hz2
          have hkk := HKD.out _ (List.mem_of_getElem? hz2)
          dsimp only at m0 m1 m2 hkk
          have hq0 : (0 : Int) ≤ (q : Int) := by omega
          have hq1 : (q : Int) < ts.length := by omega
          have HST := Lib.hid (csT_step (p := p) (b := nb0) hz2)
          have HNT := Lib.hid (nbT_step hz2)
          have hnt := nbT_le (ts.take q)
          rw [List.length_take] at hnt
          have hal := below_alloc (Below.refl wr.heap.size wr) (.cells #[.int .i64 tk, .string tm, .int .i64 tx] 60)
          have HB1 := Lib.hid (below_chain hb.out hal)
          have HO1 := Lib.hid (own_below ho.out hal)
          clear hz2 hrow hal ho hb
          generalize nbT (ts.take q) = nt0 at *
          generalize csT p nb0 (ts.take q) = T0 at *
          rcases (show tk = 1 ∨ tk = 2 ∨ tk = 3 ∨ tk = 4 ∨ tk = 5 ∨ tk = 6 ∨ 7 ≤ tk by omega) with rfl | rfl | rfl | rfl | rfl | rfl | h7
          · have HI9 : Hid (insT p (nb0 + nt0) ⟨1, tm, tx⟩ = nmI p tm 2 3) := Lib.hid rfl
            have HNT2 : Hid (nbT (ts.take (q + 1)) = nt0) := Lib.hid (by rw [HNT.out]; rfl)
            have HPL := Lib.hid (HP.out.below HB1.out)
            clear k0 k1 k2 k3 k4
            have k0 := HPL.out.1
            have k1 := HPL.out.2.1
            have k2 := HPL.out.2.2.1
            have k3 := HPL.out.2.2.2.1
            have k4 := HPL.out.2.2.2.2.1
            have k6 := HPL.out.2.2.2.2.2
            have x0 : (wr.alloc (.cells #[.int .i64 1, .string tm, .int .i64 tx] 60)).cell? ⟨wr.heap.size, 1, none⟩ = some (.string tm) := by go_simp
            go_upto_region 14 with (fail)
            generalize wr.alloc (.cells #[.int .i64 1, .string tm, .int .i64 tx] 60) = wl at *
            clear k5 g0 g1 m0 m1 m2
            go_wp2_with (fail)
            refine (HN.out tm 2 3 _ ((H.out.below B0.out).below HB1.out)).mono ?_
            rintro e w5 ⟨rfl, hb⟩
            have HB5 := Lib.hid (below_chain HB1.out hb)
            have HO5 := Lib.hid (own_below HO1.out hb)
            clear hb k0 k1 k2 k3 k4 k6 x0 HPL
            generalize nmI p tm 2 3 = I at *
            go_wp2_with (first
              | (at_builtin
                 refine wpList_push_ins _ rfl (.tmp 48) (.tmp 53) rfl W.heap.size _ n2 _ I w5.heap.size 1 rfl (own_below HO5.out (below_alloc (Below.refl _ _) _)) rfl (by go_simp) (by go_simp) (by omega) (below_alloc HB5.out _).size ?_
                 intro v7 w7 hown hgrow
                 obtain ⟨A9, c9, rfl⟩ := own_shape hown
                 have HB7 := Lib.hid (below_of_grown (below_alloc HB5.out _) hgrow (fun q hq => (HO5.out.lt q hq).1))
                 have HO7 := Lib.hid hown
                 clear hown hgrow)
              )
            go_roundw
            case rel => exact ⟨q + 1, n2 + 1, A9, c9, by omega, by omega, by go_num, rfl, by rw [HNT2.out]; rfl, Lib.hid (by rw [HST.out, HI9.out, ← List.append_assoc, List.length_append, hl3.out]; rfl), Lib.hid (by rw [HST.out, HI9.out, ← List.append_assoc]; exact HO7.out), HB7⟩
            case measure => simp [intOf]; omega
          · have HI9 : Hid (insT p (nb0 + nt0) ⟨2, tm, tx⟩ = ⟨1, 1⟩) := Lib.hid rfl
            have HNT2 : Hid (nbT (ts.take (q + 1)) = nt0) := Lib.hid (by rw [HNT.out]; rfl)
            go_wp2_with (first
              | (at_builtin
                 refine wpList_push_ins _ rfl (.tmp 57) (.tmp 59) rfl W.heap.size _ n2 _ ⟨1, 1⟩ (wr.heap.size + 1) 1 rfl (own_below HO1.out (below_alloc (Below.refl _ _) _)) rfl (by go_simp) (by go_simp) (by omega) (below_alloc HB1.out _).size ?_
                 intro v7 w7 hown hgrow
                 obtain ⟨A9, c9, rfl⟩ := own_shape hown
                 have HB7 := Lib.hid (below_of_grown (below_alloc HB1.out _) hgrow (fun q hq => (HO1.out.lt q hq).1))
                 have HO7 := Lib.hid hown
                 clear hown hgrow)
              )
            go_roundw
            case rel => exact ⟨q + 1, n2 + 1, A9, c9, by omega, by omega, by go_num, rfl, by rw [HNT2.out]; rfl, Lib.hid (by rw [HST.out, HI9.out, ← List.append_assoc, List.length_append, hl3.out]; rfl), Lib.hid (by rw [HST.out, HI9.out, ← List.append_assoc]; exact HO7.out), HB7⟩
            case measure => simp [intOf]; omega
          · have HI9 : Hid (insT p (nb0 + nt0) ⟨3, tm, tx⟩ = ⟨1, 0⟩) := Lib.hid rfl
            have HNT2 : Hid (nbT (ts.take (q + 1)) = nt0) := Lib.hid (by rw [HNT.out]; rfl)
            go_wp2_with (first
              | (at_builtin
                 refine wpList_push_ins _ rfl (.tmp 63) (.tmp 65) rfl W.heap.size _ n2 _ ⟨1, 0⟩ (wr.heap.size + 1) 1 rfl (own_below HO1.out (below_alloc (Below.refl _ _) _)) rfl (by go_simp) (by go_simp) (by omega) (below_alloc HB1.out _).size ?_
                 intro v7 w7 hown hgrow
                 obtain ⟨A9, c9, rfl⟩ := own_shape hown
                 have HB7 := Lib.hid (below_of_grown (below_alloc HB1.out _) hgrow (fun q hq => (HO1.out.lt q hq).1))
                 have HO7 := Lib.hid hown
                 clear hown hgrow)
              )
            go_roundw
            case rel => exact ⟨q + 1, n2 + 1, A9, c9, by omega, by omega, by go_num, rfl, by rw [HNT2.out]; rfl, Lib.hid (by rw [HST.out, HI9.out, ← List.append_assoc, List.length_append, hl3.out]; rfl), Lib.hid (by rw [HST.out, HI9.out, ← List.append_assoc]; exact HO7.out), HB7⟩
            case measure => simp [intOf]; omega
          · have HI9 : Hid (insT p (nb0 + nt0) ⟨4, tm, tx⟩ = ⟨4, 0⟩) := Lib.hid rfl
            have HNT2 : Hid (nbT (ts.take (q + 1)) = nt0) := Lib.hid (by rw [HNT.out]; rfl)
            go_wp2_with (first
              | (at_builtin
                 refine wpList_push_ins _ rfl (.tmp 71) (.tmp 77) rfl W.heap.size _ n2 _ ⟨4, 0⟩ (wr.heap.size + 1) 1 rfl (own_below HO1.out (below_alloc (Below.refl _ _) _)) rfl (by go_simp) (by go_simp) (by omega) (below_alloc HB1.out _).size ?_
                 intro v7 w7 hown hgrow
                 obtain ⟨A9, c9, rfl⟩ := own_shape hown
                 have HB7 := Lib.hid (below_of_grown (below_alloc HB1.out _) hgrow (fun q hq => (HO1.out.lt q hq).1))
                 have HO7 := Lib.hid hown
                 clear hown hgrow)
              )
            go_roundw
            case rel => exact ⟨q + 1, n2 + 1, A9, c9, by omega, by omega, by go_num, rfl, by rw [HNT2.out]; rfl, Lib.hid (by rw [HST.out, HI9.out, ← List.append_assoc, List.length_append, hl3.out]; rfl), Lib.hid (by rw [HST.out, HI9.out, ← List.append_assoc]; exact HO7.out), HB7⟩
            case measure => simp [intOf]; omega
          · have HI9 : Hid (insT p (nb0 + nt0) ⟨5, tm, tx⟩ = ⟨5, 0⟩) := Lib.hid rfl
            have HNT2 : Hid (nbT (ts.take (q + 1)) = nt0) := Lib.hid (by rw [HNT.out]; rfl)
            go_wp2_with (first
              | (at_builtin
                 refine wpList_push_ins _ rfl (.tmp 71) (.tmp 77) rfl W.heap.size _ n2 _ ⟨5, 0⟩ (wr.heap.size + 1) 1 rfl (own_below HO1.out (below_alloc (Below.refl _ _) _)) rfl (by go_simp) (by go_simp) (by omega) (below_alloc HB1.out _).size ?_
                 intro v7 w7 hown hgrow
                 obtain ⟨A9, c9, rfl⟩ := own_shape hown
                 have HB7 := Lib.hid (below_of_grown (below_alloc HB1.out _) hgrow (fun q hq => (HO1.out.lt q hq).1))
                 have HO7 := Lib.hid hown
                 clear hown hgrow)
              )
            go_roundw
            case rel => exact ⟨q + 1, n2 + 1, A9, c9, by omega, by omega, by go_num, rfl, by rw [HNT2.out]; rfl, Lib.hid (by rw [HST.out, HI9.out, ← List.append_assoc, List.length_append, hl3.out]; rfl), Lib.hid (by rw [HST.out, HI9.out, ← List.append_assoc]; exact HO7.out), HB7⟩
            case measure => simp [intOf]; omega
          · have HI9 : Hid (insT p (nb0 + nt0) ⟨6, tm, tx⟩ = ⟨6, 0⟩) := Lib.hid rfl
            have HNT2 : Hid (nbT (ts.take (q + 1)) = nt0) := Lib.hid (by rw [HNT.out]; rfl)
            go_wp2_with (first
              | (at_builtin
                 refine wpList_push_ins _ rfl (.tmp 71) (.tmp 77) rfl W.heap.size _ n2 _ ⟨6, 0⟩ (wr.heap.size + 1) 1 rfl (own_below HO1.out (below_alloc (Below.refl _ _) _)) rfl (by go_simp) (by go_simp) (by omega) (below_alloc HB1.out _).size ?_
                 intro v7 w7 hown hgrow
                 obtain ⟨A9, c9, rfl⟩ := own_shape hown
                 have HB7 := Lib.hid (below_of_grown (below_alloc HB1.out _) hgrow (fun q hq => (HO1.out.lt q hq).1))
                 have HO7 := Lib.hid hown
                 clear hown hgrow)
              )
            go_roundw
            case rel => exact ⟨q + 1, n2 + 1, A9, c9, by omega, by omega, by go_num, rfl, by rw [HNT2.out]; rfl, Lib.hid (by rw [HST.out, HI9.out, ← List.append_assoc, List.length_append, hl3.out]; rfl), Lib.hid (by rw [HST.out, HI9.out, ← List.append_assoc]; exact HO7.out), HB7⟩
            case measure => simp [intOf]; omega
          · have HI9 : Hid (insT p (nb0 + nt0) ⟨tk, tm, tx⟩ = ⟨7, ((nb0 + nt0 : Nat) : Int)⟩) := Lib.hid (insT_d h7)
            have HNT2 : Hid (nbT (ts.take (q + 1)) = nt0 + 1) := Lib.hid (by rw [HNT.out, if_pos (show isB ⟨tk, tm, tx⟩ = true from decide_eq_true h7)])
            have e1 : (tk == 1) = false := by simp; omega
            have e2 : (tk == 2) = false := by simp; omega
            have e3 : (tk == 3) = false := by simp; omega
            have e4 : (tk == 4) = false := by simp; omega
            have e5 : (tk == 5) = false := by simp; omega
            have e6 : (tk == 6) = false := by simp; omega
            have hw9 : IntKind.i64.wrap (((nb0 + nt0 : Nat) : Int) + 1) = ((nb0 + nt0 : Nat) : Int) + 1 := IntWalk.i64_in _ (by omega)
            clear h7 hkk
            go_wp2_with (first
              | (at_builtin
                 refine wpList_push_ins _ rfl (.tmp 39) (.tmp 42) rfl W.heap.size _ n2 _ ⟨7, ((nb0 + nt0 : Nat) : Int)⟩ (wr.heap.size + 1) 1 rfl (own_below HO1.out (below_alloc (Below.refl _ _) _)) rfl (by go_simp) (by go_simp) (by omega) (below_alloc HB1.out _).size ?_
                 intro v7 w7 hown hgrow
                 obtain ⟨A9, c9, rfl⟩ := own_shape hown
                 have HB7 := Lib.hid (below_of_grown (below_alloc HB1.out _) hgrow (fun q hq => (HO1.out.lt q hq).1))
                 have HO7 := Lib.hid hown
                 clear hown hgrow)
              )
            go_roundw
            case rel => exact ⟨q + 1, n2 + 1, A9, c9, by omega, by omega, by go_num, rfl, by rw [HNT2.out]; rfl, Lib.hid (by rw [HST.out, HI9.out, ← List.append_assoc, List.length_append, hl3.out]; rfl), Lib.hid (by rw [HST.out, HI9.out, ← List.append_assoc]; exact HO7.out), HB7⟩
            case measure => simp [intOf]; omega
        · obtain rfl : q = ts.length := by omega
          have hts : ts.take ts.length = ts := List.take_length
          rw [hts] at hl3 ho
          have HL3 := Lib.hid hl3.out
          have HO3 := Lib.hid ho.out
          have hn2b : n2 ≤ 41 * k + 40 := by omega
          clear hl3 ho hrow hts
          have HTS : Hid (csP p 0 (p.ls.take (k + 1)) = S0 ++ csT p nb0 ts ++ [tgI p tg]) := Lib.hid (by rw [HFS.out]; unfold csL; rw [List.append_assoc])
          have HTV : Hid (0 ≤ ixS p.vs tg ∧ tgI p tg = ⟨8, ixS p.vs tg⟩ ∨ ixS p.vs tg < 0 ∧ tgI p tg = ⟨9, ixS p.os tg⟩) := Lib.hid (by
            by_cases h0 : 0 ≤ ixS p.vs tg
            · exact .inl ⟨h0, tgI_v h0⟩
            · exact .inr ⟨by omega, tgI_o (by omega)⟩)
          have HNB : Hid (nbT ts = nbT (ts.take ts.length)) := Lib.hid (by rw [List.take_length])
          rw [List.take_length]
          generalize csT p nb0 ts = T0 at *
          generalize nbT ts = nt0 at *
          go_wp2_with (fail)
          refine wp_region_held_drew (S := (fun w' => (w'.cell? ⟨w.heap.size, 0, none⟩ = some (.string p.nm) ∧ w'.cell? ⟨w.heap.size, 1, none⟩ = some (.slice a1 p.ins.length c1) ∧ w'.cell? ⟨w.heap.size, 2, none⟩ = some (.slice a2 p.vs.length c2) ∧ w'.cell? ⟨w.heap.size, 3, none⟩ = some (.slice a3 p.os.length c3) ∧ w'.cell? ⟨w.heap.size, 4, none⟩ = some (.string p.gd) ∧ w'.cell? ⟨w.heap.size, 5, none⟩ = some (.slice (some ⟨b, off, none⟩) p.ls.length c4)) ∧ w'.cell? ⟨b, off + k * 2, none⟩ = some (.string tg))) (by kernel_rfl) ?_ (fun hHeld => ?_)
          · exact ⟨⟨k0, k1, k2, k3, k4, k5⟩, g0⟩
          refine rg_take (v := ?_) 0 rfl (by kernel_rfl) (by kernel_rfl) (by kernel_rfl) (fun _ _ _ h => h) (by kernel_rfl) ?_ (by assumption) ?_
          rotate_left
          · (intro w' hSw; (try dsimp only at hSw); go_simp; first | done | with_reducible rfl)
          simp only [Act.put, List.setIfInBounds_toArray, List.set_cons_zero, List.set_cons_succ]
          refine rg_take (v := ?_) 1 rfl (by kernel_rfl) (by kernel_rfl) (by kernel_rfl) (fun _ _ _ h => h) (by kernel_rfl) ?_ (by assumption) ?_
          rotate_left
          · (intro w' hSw; (try dsimp only at hSw); go_simp; first | done | with_reducible rfl)
          simp only [Act.put, List.setIfInBounds_toArray, List.set_cons_zero, List.set_cons_succ]
          refine rg_take (v := ?_) 2 rfl (by kernel_rfl) (by kernel_rfl) (by kernel_rfl) (fun _ _ _ h => h) (by kernel_rfl) ?_ (by assumption) ?_
          rotate_left
          · (intro w' hSw; (try dsimp only at hSw); go_simp; first | done | with_reducible rfl)
          simp only [Act.put, List.setIfInBounds_toArray, List.set_cons_zero, List.set_cons_succ]
          refine rg_take (v := ?_) 3 rfl (by kernel_rfl) (by kernel_rfl) (by kernel_rfl) (fun _ _ _ h => h) (by kernel_rfl) ?_ (by assumption) ?_
          rotate_left
          · (intro w' hSw; (try dsimp only at hSw); go_simp; first | done | with_reducible rfl)
          simp only [Act.put, List.setIfInBounds_toArray, List.set_cons_zero, List.set_cons_succ]
          refine rg_take (v := ?_) 4 rfl (by kernel_rfl) (by kernel_rfl) (by kernel_rfl) (fun _ _ _ h => h) (by kernel_rfl) ?_ (by assumption) ?_
          rotate_left
          · (intro w' hSw; (try dsimp only at hSw); go_simp; first | done | with_reducible rfl)
          simp only [Act.put, List.setIfInBounds_toArray, List.set_cons_zero, List.set_cons_succ]
          refine rg_take (v := ?_) 5 rfl (by kernel_rfl) (by kernel_rfl) (by kernel_rfl) (fun _ _ _ h => h) (by kernel_rfl) ?_ (by assumption) ?_
          rotate_left
          · (intro w' hSw; (try dsimp only at hSw); go_simp; first | done | with_reducible rfl)
          simp only [Act.put, List.setIfInBounds_toArray, List.set_cons_zero, List.set_cons_succ]
          refine rg_take (v := ?_) 6 rfl (by kernel_rfl) (by kernel_rfl) (by kernel_rfl) (fun _ _ _ h => h) (by kernel_rfl) ?_ (by assumption) ?_
          rotate_left
          · (intro w' hSw; (try dsimp only at hSw); go_simp; first | done | with_reducible rfl)
          simp only [Act.put, List.setIfInBounds_toArray, List.set_cons_zero, List.set_cons_succ]
          refine rg_take (v := ?_) 7 rfl (by kernel_rfl) (by kernel_rfl) (by kernel_rfl) (fun _ _ _ h => h) (by kernel_rfl) ?_ (by assumption) ?_
          rotate_left
          · (intro w' hSw; (try dsimp only at hSw); go_simp; first | done | with_reducible rfl)
          simp only [Act.put, List.setIfInBounds_toArray, List.set_cons_zero, List.set_cons_succ]
          refine rg_run 8 rfl (by kernel_rfl) (by kernel_rfl) (fun K hK => ?_)
          go_simp
          refine (HI.out tg _ (H.out.v.below ((below_chain B0.out hb.out).drew))).mono ?_
          rintro e w5 ⟨rfl, hb5⟩
          have hbs : Below wr.heap.size wr w5 := below_chain (Below.refl _ _).drew hb5
          have HB5 := Lib.hid (below_chain hb.out hbs)
          have HO5 := Lib.hid (own_below HO3.out hbs)
          replace k0 := cell_later hbs (by exact k0)
          replace k1 := cell_later hbs (by exact k1)
          replace k2 := cell_later hbs (by exact k2)
          replace k3 := cell_later hbs (by exact k3)
          replace k4 := cell_later hbs (by exact k4)
          replace k5 := cell_later hbs (by exact k5)
          replace g0 := cell_later hbs (by exact g0)
          clear hbs hb5 hb HO3
          go_wp2
          clear hHeld
          refine hK.out _ _ (by exact ⟨⟨k0, k1, k2, k3, k4, k5⟩, g0⟩) (fun hHeld => ?_)
          clear hK K
          try simp only [Act.put, List.setIfInBounds_toArray, List.set_cons_zero, List.set_cons_succ]
          refine rg_take (v := ?_) 9 rfl (by kernel_rfl) (by kernel_rfl) (by kernel_rfl) (fun _ _ _ h => h) (by kernel_rfl) ?_ (by assumption) ?_
          rotate_left
          · (intro w' hSw; (try dsimp only at hSw); go_simp; first | done | with_reducible rfl)
          simp only [Act.put, List.setIfInBounds_toArray, List.set_cons_zero, List.set_cons_succ]
          refine wpAnyH_done (by kernel_rfl) ?_ _
          clear hHeld
          rcases HTV.out with ⟨h0, e0⟩ | ⟨h0, e0⟩
          · rw [e0] at HTS
            clear e0 HTV k0 k1 k2 k3 k4 k5 g0 g1
            generalize ixS p.vs tg = z at *
            go_wp2_with (first
              | (at_builtin
                 refine wpList_push_ins _ rfl (.tmp 90) (.tmp 93) rfl W.heap.size _ n2 _ ⟨8, z⟩ w5.heap.size 1 rfl (own_below HO5.out (below_alloc (Below.refl _ _) _)) rfl (by go_simp) (by go_simp) (by omega) (below_alloc HB5.out _).size ?_
                 intro v7 w7 hown hgrow
                 obtain ⟨A9, c9, rfl⟩ := own_shape hown
                 have HB7 := Lib.hid (below_of_grown (below_alloc HB5.out _) hgrow (fun q hq => (HO5.out.lt q hq).1))
                 have HO7 := Lib.hid hown
                 clear hown hgrow)
              )
            go_roundw
            case rel => exact ⟨k + 1, n2 + 1, A9, c9, by omega, by omega, by go_num, rfl, by rw [HNS.out, HNB.out]; rfl, Lib.hid (by rw [HTS.out, List.length_append, HL3.out]; rfl), Lib.hid (by rw [HTS.out]; exact HO7.out), HB7⟩
            case measure => simp [intOf]; omega
          · rw [e0] at HTS
            clear e0 HTV
            generalize ixS p.vs tg = z at *
            go_wp2_with (fail)
            refine wp_region_held_drew (S := (fun w' => (w'.cell? ⟨w.heap.size, 0, none⟩ = some (.string p.nm) ∧ w'.cell? ⟨w.heap.size, 1, none⟩ = some (.slice a1 p.ins.length c1) ∧ w'.cell? ⟨w.heap.size, 2, none⟩ = some (.slice a2 p.vs.length c2) ∧ w'.cell? ⟨w.heap.size, 3, none⟩ = some (.slice a3 p.os.length c3) ∧ w'.cell? ⟨w.heap.size, 4, none⟩ = some (.string p.gd) ∧ w'.cell? ⟨w.heap.size, 5, none⟩ = some (.slice (some ⟨b, off, none⟩) p.ls.length c4)) ∧ w'.cell? ⟨b, off + k * 2, none⟩ = some (.string tg))) (by kernel_rfl) ?_ (fun hHeld => ?_)
            · exact ⟨⟨k0, k1, k2, k3, k4, k5⟩, g0⟩
            refine rg_take (v := ?_) 0 rfl (by kernel_rfl) (by kernel_rfl) (by kernel_rfl) (fun _ _ _ h => h) (by kernel_rfl) ?_ (by assumption) ?_
            rotate_left
            · (intro w' hSw; (try dsimp only at hSw); go_simp; first | done | with_reducible rfl)
            simp only [Act.put, List.setIfInBounds_toArray, List.set_cons_zero, List.set_cons_succ]
            refine rg_take (v := ?_) 1 rfl (by kernel_rfl) (by kernel_rfl) (by kernel_rfl) (fun _ _ _ h => h) (by kernel_rfl) ?_ (by assumption) ?_
            rotate_left
            · (intro w' hSw; (try dsimp only at hSw); go_simp; first | done | with_reducible rfl)
            simp only [Act.put, List.setIfInBounds_toArray, List.set_cons_zero, List.set_cons_succ]
            refine rg_take (v := ?_) 2 rfl (by kernel_rfl) (by kernel_rfl) (by kernel_rfl) (fun _ _ _ h => h) (by kernel_rfl) ?_ (by assumption) ?_
            rotate_left
            · (intro w' hSw; (try dsimp only at hSw); go_simp; first | done | with_reducible rfl)
            simp only [Act.put, List.setIfInBounds_toArray, List.set_cons_zero, List.set_cons_succ]
            refine rg_take (v := ?_) 3 rfl (by kernel_rfl) (by kernel_rfl) (by kernel_rfl) (fun _ _ _ h => h) (by kernel_rfl) ?_ (by assumption) ?_
            rotate_left
            · (intro w' hSw; (try dsimp only at hSw); go_simp; first | done | with_reducible rfl)
            simp only [Act.put, List.setIfInBounds_toArray, List.set_cons_zero, List.set_cons_succ]
            refine rg_take (v := ?_) 4 rfl (by kernel_rfl) (by kernel_rfl) (by kernel_rfl) (fun _ _ _ h => h) (by kernel_rfl) ?_ (by assumption) ?_
            rotate_left
            · (intro w' hSw; (try dsimp only at hSw); go_simp; first | done | with_reducible rfl)
            simp only [Act.put, List.setIfInBounds_toArray, List.set_cons_zero, List.set_cons_succ]
            refine rg_take (v := ?_) 5 rfl (by kernel_rfl) (by kernel_rfl) (by kernel_rfl) (fun _ _ _ h => h) (by kernel_rfl) ?_ (by assumption) ?_
            rotate_left
            · (intro w' hSw; (try dsimp only at hSw); go_simp; first | done | with_reducible rfl)
            simp only [Act.put, List.setIfInBounds_toArray, List.set_cons_zero, List.set_cons_succ]
            refine rg_take (v := ?_) 6 rfl (by kernel_rfl) (by kernel_rfl) (by kernel_rfl) (fun _ _ _ h => h) (by kernel_rfl) ?_ (by assumption) ?_
            rotate_left
            · (intro w' hSw; (try dsimp only at hSw); go_simp; first | done | with_reducible rfl)
            simp only [Act.put, List.setIfInBounds_toArray, List.set_cons_zero, List.set_cons_succ]
            refine rg_take (v := ?_) 7 rfl (by kernel_rfl) (by kernel_rfl) (by kernel_rfl) (fun _ _ _ h => h) (by kernel_rfl) ?_ (by assumption) ?_
            rotate_left
            · (intro w' hSw; (try dsimp only at hSw); go_simp; first | done | with_reducible rfl)
            simp only [Act.put, List.setIfInBounds_toArray, List.set_cons_zero, List.set_cons_succ]
            refine rg_take (v := ?_) 8 rfl (by kernel_rfl) (by kernel_rfl) (by kernel_rfl) (fun _ _ _ h => h) (by kernel_rfl) ?_ (by assumption) ?_
            rotate_left
            · (intro w' hSw; (try dsimp only at hSw); go_simp; first | done | with_reducible rfl)
            simp only [Act.put, List.setIfInBounds_toArray, List.set_cons_zero, List.set_cons_succ]
            refine rg_run 9 rfl (by kernel_rfl) (by kernel_rfl) (fun K hK => ?_)
            go_simp
            refine (HJ.out tg _ (H.out.o.below ((below_chain B0.out HB5.out).drew))).mono ?_
            rintro e w6 ⟨rfl, hb6⟩
            have hbs : Below w5.heap.size w5 w6 := below_chain (Below.refl _ _).drew hb6
            have HB6 := Lib.hid (below_chain HB5.out hbs)
            have HO6 := Lib.hid (own_below HO5.out hbs)
            replace k0 := cell_later hbs (by exact k0)
            replace k1 := cell_later hbs (by exact k1)
            replace k2 := cell_later hbs (by exact k2)
            replace k3 := cell_later hbs (by exact k3)
            replace k4 := cell_later hbs (by exact k4)
            replace k5 := cell_later hbs (by exact k5)
            replace g0 := cell_later hbs (by exact g0)
            clear hbs hb6
            generalize ixS p.os tg = z2 at *
            go_wp2
            clear hHeld
            refine hK.out _ _ (by exact ⟨⟨k0, k1, k2, k3, k4, k5⟩, g0⟩) (fun hHeld => ?_)
            clear hK K
            try simp only [Act.put, List.setIfInBounds_toArray, List.set_cons_zero, List.set_cons_succ]
            refine rg_take (v := ?_) 10 rfl (by kernel_rfl) (by kernel_rfl) (by kernel_rfl) (fun _ _ _ h => h) (by kernel_rfl) ?_ (by assumption) ?_
            rotate_left
            · (intro w' hSw; (try dsimp only at hSw); go_simp; first | done | with_reducible rfl)
            simp only [Act.put, List.setIfInBounds_toArray, List.set_cons_zero, List.set_cons_succ]
            refine rg_run 11 rfl (by kernel_rfl) (by kernel_rfl) (fun K hK => ?_)
            go_simp
            go_wp2
            have hal := below_alloc (Below.refl w6.heap.size w6) (.cells #[.int .i64 9, .int .i64 z2] 88)
            replace k0 := cell_later hal (by exact k0)
            replace k1 := cell_later hal (by exact k1)
            replace k2 := cell_later hal (by exact k2)
            replace k3 := cell_later hal (by exact k3)
            replace k4 := cell_later hal (by exact k4)
            replace k5 := cell_later hal (by exact k5)
            replace g0 := cell_later hal (by exact g0)
            have HB6a := Lib.hid (below_chain HB6.out hal)
            have HO6a := Lib.hid (own_below HO6.out hal)
            have x0 : (w6.alloc (.cells #[.int .i64 9, .int .i64 z2] 88)).cell? ⟨w6.heap.size, 0, none⟩ = some (.int .i64 9) := by go_simp
            have x1 : (w6.alloc (.cells #[.int .i64 9, .int .i64 z2] 88)).cell? ⟨w6.heap.size, 1, none⟩ = some (.int .i64 z2) := by go_simp
            clear hal
            generalize w6.alloc (.cells #[.int .i64 9, .int .i64 z2] 88) = W6 at *
            generalize w6.heap.size = g6 at *
            clear hHeld
            refine hK.out _ _ (by exact ⟨⟨k0, k1, k2, k3, k4, k5⟩, g0⟩) (fun hHeld => ?_)
            clear hK K
            try simp only [Act.put, List.setIfInBounds_toArray, List.set_cons_zero, List.set_cons_succ]
            refine rg_run 12 rfl (by kernel_rfl) (by kernel_rfl) (fun K hK => ?_)
            refine wp_push_ins _ (.tmp 95) (.tmp 106) rfl W.heap.size _ n2 _ ⟨9, z2⟩ g6 1 rfl (by exact HO6a.out) rfl (by exact x0) (by exact x1) (by omega) HB6a.out.size ?_
            intro v7 w7 hown hgrow
            obtain ⟨A9, c9, rfl⟩ := own_shape hown
            have HB7 := Lib.hid (below_of_grown HB6a.out hgrow (fun q hq => (HO6a.out.lt q hq).1))
            have HO7 := Lib.hid hown
            have HG := Lib.hid (fun (bb : Nat) (hbb : bb < W.heap.size) => show ∀ q, (Value.slice A3 n2 C3).ownBlock = some q → q ≠ bb from fun q hq e => by have := (HO6a.out.lt q hq).1; omega)
            have hzb := World.block_lt_of_cell? _ _ HP.out.1
            dsimp only at hzb
            have hzl := HLB.out
            replace k0 := cell_mark' (by exact k0) hgrow (HG.out _ hzb)
            replace k1 := cell_mark' (by exact k1) hgrow (HG.out _ hzb)
            replace k2 := cell_mark' (by exact k2) hgrow (HG.out _ hzb)
            replace k3 := cell_mark' (by exact k3) hgrow (HG.out _ hzb)
            replace k4 := cell_mark' (by exact k4) hgrow (HG.out _ hzb)
            replace k5 := cell_mark' (by exact k5) hgrow (HG.out _ hzb)
            replace g0 := cell_mark' (by exact g0) hgrow (HG.out _ hzl)
            clear hown hgrow x0 x1
            clear hHeld
            refine hK.out _ _ (by exact ⟨⟨k0, k1, k2, k3, k4, k5⟩, g0⟩) (fun hHeld => ?_)
            clear hK K
            try simp only [Act.put, List.setIfInBounds_toArray, List.set_cons_zero, List.set_cons_succ]
            refine rg_take (v := ?_) 13 rfl (by kernel_rfl) (by kernel_rfl) (by kernel_rfl) (fun _ _ _ h => h) (by kernel_rfl) ?_ (by assumption) ?_
            rotate_left
            · (intro w' hSw; (try dsimp only at hSw); go_simp; first | done | with_reducible rfl)
            simp only [Act.put, List.setIfInBounds_toArray, List.set_cons_zero, List.set_cons_succ]
            refine wpAnyH_done (by kernel_rfl) ?_ _
            clear hHeld
            go_wp2_with (fail)
            go_roundw
            case rel => exact ⟨k + 1, n2 + 1, A9, c9, by omega, by omega, by go_num, rfl, by rw [HNS.out, HNB.out]; rfl, Lib.hid (by rw [HTS.out, List.length_append, HL3.out]; rfl), Lib.hid (by rw [HTS.out]; exact HO7.out), HB7⟩
            case measure => simp [intOf]; omega
    · obtain rfl : k = p.ls.length := by omega
      have htk : p.ls.take p.ls.length = p.ls := List.take_length
      rw [htk] at hl3 ho
      have HL3 := Lib.hid hl3.out
      have HO3 := Lib.hid ho.out
      have HSS : Hid ((cmp p).ss = csP p 0 p.ls ++ gdI p) := Lib.hid rfl
      have HRET : Hid (∀ A1 q1 A2 n2 q2 w', n2 = (cmp p).ss.length → w'.ownsRow w.heap.size 60 3 (.slice A1 (blk p).length q1) (blk p).length (tmCells (blk p)) → w'.ownsRow w.heap.size 88 2 (.slice A2 n2 q2) n2 (insCells (cmp p).ss) → Below w.heap.size w w' → RetCd (cmp p) w (.returned (.agg #[.int .i64 p.ins.length, .int .i64 p.vs.length, .int .i64 p.os.length, .slice A1 (blk p).length q1, .slice A2 n2 q2])) w') := Lib.hid (fun A1 q1 A2 n2 q2 w' e h1 h2 h3 => by subst e; exact ⟨A1, q1, A2, q2, rfl, h1, h2, h3⟩)
      have HLEN : Hid ((cmp p).ss.length = n + (gdI p).length) := Lib.hid (by rw [HSS.out, List.length_append, HL3.out])
      clear hl3 ho htk hlt
      generalize (cmp p).ss = CS at *
      generalize csP p 0 p.ls = S0 at *
      generalize nbL (p.ls.take p.ls.length) = nb0 at *
      have hw1 : IntKind.i64.wrap ((p.ins.length : Nat) : Int) = (p.ins.length : Nat) := IntWalk.i64_in _ (by omega)
      have hw2 : IntKind.i64.wrap ((p.vs.length : Nat) : Int) = (p.vs.length : Nat) := IntWalk.i64_in _ (by omega)
      have hw3 : IntKind.i64.wrap ((p.os.length : Nat) : Int) = (p.os.length : Nat) := IntWalk.i64_in _ (by omega)
      rcases hg : p.gd.toList.isEmpty with _ | _
      · have HGI : Hid (gdI p = [nmI p p.gd 10 11]) := Lib.hid (by unfold gdI; rw [hg]; rfl)
        rw [HGI.out] at HSS HLEN
        go_wp2_with (fail)
        refine (HN.out p.gd 10 11 _ ((H.out.below B0.out).below hb.out)).mono ?_
        rintro e w5 ⟨rfl, hb5⟩
        have HB5 := Lib.hid (below_chain hb.out hb5)
        have HO5 := Lib.hid (own_below HO3.out hb5)
        generalize nmI p p.gd 10 11 = I at *
        clear hb5 hb HO3 hg k0 k1 k2 k3 k4 k5 HGI
        go_wp2_with (first
          | (at_builtin
             refine wpList_push_ins _ rfl (.tmp 111) (.tmp 116) rfl W.heap.size _ n _ I w5.heap.size 1 rfl (own_below HO5.out (below_alloc (Below.refl _ _) _)) rfl (by go_simp) (by go_simp) (by omega) (below_alloc HB5.out _).size ?_
             intro v7 w7 hown hgrow
             obtain ⟨A9, c9, rfl⟩ := own_shape hown
             have HB7 := Lib.hid (below_of_grown (below_alloc HB5.out _) hgrow (fun q hq => (HO5.out.lt q hq).1))
             have HO7 := Lib.hid hown
             obtain ⟨k0, k1, k2, k3, k4, k5⟩ := HP.out.below HB7.out
             clear hown hgrow)
          )
        have HLN7 : Hid (n + 1 = CS.length) := Lib.hid (by rw [HLEN.out]; rfl)
        have HC7 : Hid (CS = S0 ++ [I]) := HSS
        clear HSS HLEN HO5 HB5 HL3
        refine wp_region_held_drew (S := (fun w' => w'.cell? ⟨w.heap.size, 0, none⟩ = some (.string p.nm) ∧ w'.cell? ⟨w.heap.size, 1, none⟩ = some (.slice a1 p.ins.length c1) ∧ w'.cell? ⟨w.heap.size, 2, none⟩ = some (.slice a2 p.vs.length c2) ∧ w'.cell? ⟨w.heap.size, 3, none⟩ = some (.slice a3 p.os.length c3) ∧ w'.cell? ⟨w.heap.size, 4, none⟩ = some (.string p.gd) ∧ w'.cell? ⟨w.heap.size, 5, none⟩ = some (.slice a4 p.ls.length c4))) (by kernel_rfl) ?_ (fun hHeld => ?_)
        · exact ⟨k0, k1, k2, k3, k4, k5⟩
        refine rg_take (v := ?_) 0 rfl (by kernel_rfl) (by kernel_rfl) (by kernel_rfl) (fun _ _ _ h => h) (by kernel_rfl) ?_ (by assumption) ?_
        rotate_left
        · (intro w' hSw; (try dsimp only at hSw); go_simp; first | done | with_reducible rfl)
        simp only [Act.put, List.setIfInBounds_toArray, List.set_cons_zero, List.set_cons_succ]
        refine rg_take (v := ?_) 1 rfl (by kernel_rfl) (by kernel_rfl) (by kernel_rfl) (fun _ _ _ h => h) (by kernel_rfl) ?_ (by assumption) ?_
        rotate_left
        · (intro w' hSw; (try dsimp only at hSw); go_simp; first | done | with_reducible rfl)
        simp only [Act.put, List.setIfInBounds_toArray, List.set_cons_zero, List.set_cons_succ]
        refine rg_take (v := ?_) 2 rfl (by kernel_rfl) (by kernel_rfl) (by kernel_rfl) (fun _ _ _ h => h) (by kernel_rfl) ?_ (by assumption) ?_
        rotate_left
        · (intro w' hSw; (try dsimp only at hSw); go_simp; first | done | with_reducible rfl)
        simp only [Act.put, List.setIfInBounds_toArray, List.set_cons_zero, List.set_cons_succ]
        refine rg_take (v := ?_) 3 rfl (by kernel_rfl) (by kernel_rfl) (by kernel_rfl) (fun _ _ _ h => h) (by kernel_rfl) ?_ (by assumption) ?_
        rotate_left
        · (intro w' hSw; (try dsimp only at hSw); go_simp; first | done | with_reducible rfl)
        simp only [Act.put, List.setIfInBounds_toArray, List.set_cons_zero, List.set_cons_succ]
        refine rg_take (v := ?_) 4 rfl (by kernel_rfl) (by kernel_rfl) (by kernel_rfl) (fun _ _ _ h => h) (by kernel_rfl) ?_ (by assumption) ?_
        rotate_left
        · (intro w' hSw; (try dsimp only at hSw); go_simp; first | done | with_reducible rfl)
        simp only [Act.put, List.setIfInBounds_toArray, List.set_cons_zero, List.set_cons_succ]
        refine rg_take (v := ?_) 5 rfl (by kernel_rfl) (by kernel_rfl) (by kernel_rfl) (fun _ _ _ h => h) (by kernel_rfl) ?_ (by assumption) ?_
        rotate_left
        · (intro w' hSw; (try dsimp only at hSw); go_simp; first | done | with_reducible rfl)
        simp only [Act.put, List.setIfInBounds_toArray, List.set_cons_zero, List.set_cons_succ]
        refine rg_take (v := ?_) 6 rfl (by kernel_rfl) (by kernel_rfl) (by kernel_rfl) (fun _ _ _ h => h) (by kernel_rfl) ?_ (by assumption) ?_
        rotate_left
        · (intro w' hSw; (try dsimp only at hSw); go_simp; first | done | with_reducible rfl)
        simp only [Act.put, List.setIfInBounds_toArray, List.set_cons_zero, List.set_cons_succ]
        refine rg_take (v := ?_) 7 rfl (by kernel_rfl) (by kernel_rfl) (by kernel_rfl) (fun _ _ _ h => h) (by kernel_rfl) ?_ (by assumption) ?_
        rotate_left
        · (intro w' hSw; (try dsimp only at hSw); go_simp; first | done | with_reducible rfl)
        simp only [Act.put, List.setIfInBounds_toArray, List.set_cons_zero, List.set_cons_succ]
        refine rg_take (v := ?_) 8 rfl (by kernel_rfl) (by kernel_rfl) (by kernel_rfl) (fun _ _ _ h => h) (by kernel_rfl) ?_ (by assumption) ?_
        rotate_left
        · (intro w' hSw; (try dsimp only at hSw); go_simp; first | done | with_reducible rfl)
        simp only [Act.put, List.setIfInBounds_toArray, List.set_cons_zero, List.set_cons_succ]
        refine rg_take (v := ?_) 9 rfl (by kernel_rfl) (by kernel_rfl) (by kernel_rfl) (fun _ _ _ h => h) (by kernel_rfl) ?_ (by assumption) ?_
        rotate_left
        · (intro w' hSw; (try dsimp only at hSw); go_simp; first | done | with_reducible rfl)
        simp only [Act.put, List.setIfInBounds_toArray, List.set_cons_zero, List.set_cons_succ]
        refine rg_take (v := ?_) 11 rfl (by kernel_rfl) (by kernel_rfl) (by kernel_rfl) (fun _ _ _ h => h) (by kernel_rfl) ?_ (by assumption) ?_
        rotate_left
        · (intro w' hSw; (try dsimp only at hSw); go_simp; first | done | with_reducible rfl)
        simp only [Act.put, List.setIfInBounds_toArray, List.set_cons_zero, List.set_cons_succ]
        refine rg_run 10 rfl (by kernel_rfl) (by kernel_rfl) (fun K hK => ?_)
        go_simp
        refine (HBL.out _ (((H.out.below B0.out).below HB7.out).below (Below.refl _ _).drew)).mono ?_
        rintro e w8 ⟨A8, c8, rfl, hob, hb8⟩
        have hbs := below_chain (Below.refl w7.heap.size w7).drew hb8
        have HB8 := Lib.hid (below_chain HB7.out hbs)
        have HO8 := Lib.hid (own_below HO7.out hbs)
        have HOB8 := Lib.hid (own_mono hob (show W.heap.size ≤ w7.drew.heap.size from HB7.out.size))
        replace k0 := cell_later hbs (by exact k0)
        replace k1 := cell_later hbs (by exact k1)
        replace k2 := cell_later hbs (by exact k2)
        replace k3 := cell_later hbs (by exact k3)
        replace k4 := cell_later hbs (by exact k4)
        replace k5 := cell_later hbs (by exact k5)
        obtain ⟨⟨x0, x1, x2, x3, x4⟩, f0, f1, f2, f3, f4⟩ := (HX.out.below HB7.out).below hbs
        have hrb := World.block_lt_of_cell? _ _ HX.out.1.1
        dsimp only at hrb
        clear hbs hb8 hob HB7 HO7
        have hxz := World.block_lt_of_cell? _ _ x0
        go_wp2
        clear hHeld
        refine hK.out _ _ (by exact ⟨k0, k1, k2, k3, k4, k5⟩) (fun hHeld => ?_)
        clear hK K
        try simp only [Act.put, List.setIfInBounds_toArray, List.set_cons_zero, List.set_cons_succ]
        refine rg_take (v := ?_) 12 rfl (by kernel_rfl) (by kernel_rfl) (by kernel_rfl) (fun _ _ _ h => h) (by kernel_rfl) ?_ (by assumption) ?_
        rotate_left
        · (intro w' hSw; (try dsimp only at hSw); go_simp; first | done | with_reducible rfl)
        simp only [Act.put, List.setIfInBounds_toArray, List.set_cons_zero, List.set_cons_succ]
        refine rg_run 13 rfl (by kernel_rfl) (by kernel_rfl) (fun K hK => ?_)
        go_simp
        go_wp2
        clear hHeld
        refine hK.out _ _ (by refine ⟨?_, ?_, ?_, ?_, ?_, ?_⟩ <;> go_simp) (fun hHeld => ?_)
        clear hK K
        try simp only [Act.put, List.setIfInBounds_toArray, List.set_cons_zero, List.set_cons_succ]
        refine wpAnyH_done (by kernel_rfl) ?_ _
        clear hHeld
        clear k0 k1 k2 k3 k4 k5
        go_wp2_with (fail)
        refine bodyPost_ret (v := .agg #[.int .i64 p.ins.length, .int .i64 p.vs.length, .int .i64 p.os.length, .slice A8 (blk p).length c8, .slice A9 (n + 1) c9]) (by simp [results, Tryz.results45, go_sem, x0, x1, x2, x3, x4]) rfl (by
          refine HRET.out _ _ _ _ _ _ HLN7.out ?_ ?_ ?_
          · exact own_mono (own_set5 HOB8.out hrb _ _ _ _ _) B0.out.size
          · rw [HC7.out]; exact own_mono (own_set5 HO8.out hrb _ _ _ _ _) B0.out.size
          · exact below_set5 (below_chain B0.out HB8.out) (by omega) _ _ _ _ _)
      · have HGI : Hid (gdI p = []) := Lib.hid (by unfold gdI; rw [hg]; rfl)
        rw [HGI.out] at HSS HLEN
        have HC7 : Hid (CS = S0) := Lib.hid (by rw [HSS.out, List.append_nil])
        have HLN7 : Hid (n = CS.length) := Lib.hid (by rw [HLEN.out]; rfl)
        clear HSS HLEN HL3 HGI
        have HB7 := hb
        have HO7 := HO3
        clear hb HO3
        go_wp2_with (fail)
        refine wp_region_held_drew (S := (fun w' => w'.cell? ⟨w.heap.size, 0, none⟩ = some (.string p.nm) ∧ w'.cell? ⟨w.heap.size, 1, none⟩ = some (.slice a1 p.ins.length c1) ∧ w'.cell? ⟨w.heap.size, 2, none⟩ = some (.slice a2 p.vs.length c2) ∧ w'.cell? ⟨w.heap.size, 3, none⟩ = some (.slice a3 p.os.length c3) ∧ w'.cell? ⟨w.heap.size, 4, none⟩ = some (.string p.gd) ∧ w'.cell? ⟨w.heap.size, 5, none⟩ = some (.slice a4 p.ls.length c4))) (by kernel_rfl) ?_ (fun hHeld => ?_)
        · exact ⟨k0, k1, k2, k3, k4, k5⟩
        refine rg_take (v := ?_) 0 rfl (by kernel_rfl) (by kernel_rfl) (by kernel_rfl) (fun _ _ _ h => h) (by kernel_rfl) ?_ (by assumption) ?_
        rotate_left
        · (intro w' hSw; (try dsimp only at hSw); go_simp; first | done | with_reducible rfl)
        simp only [Act.put, List.setIfInBounds_toArray, List.set_cons_zero, List.set_cons_succ]
        refine rg_take (v := ?_) 1 rfl (by kernel_rfl) (by kernel_rfl) (by kernel_rfl) (fun _ _ _ h => h) (by kernel_rfl) ?_ (by assumption) ?_
        rotate_left
        · (intro w' hSw; (try dsimp only at hSw); go_simp; first | done | with_reducible rfl)
        simp only [Act.put, List.setIfInBounds_toArray, List.set_cons_zero, List.set_cons_succ]
        refine rg_take (v := ?_) 2 rfl (by kernel_rfl) (by kernel_rfl) (by kernel_rfl) (fun _ _ _ h => h) (by kernel_rfl) ?_ (by assumption) ?_
        rotate_left
        · (intro w' hSw; (try dsimp only at hSw); go_simp; first | done | with_reducible rfl)
        simp only [Act.put, List.setIfInBounds_toArray, List.set_cons_zero, List.set_cons_succ]
        refine rg_take (v := ?_) 3 rfl (by kernel_rfl) (by kernel_rfl) (by kernel_rfl) (fun _ _ _ h => h) (by kernel_rfl) ?_ (by assumption) ?_
        rotate_left
        · (intro w' hSw; (try dsimp only at hSw); go_simp; first | done | with_reducible rfl)
        simp only [Act.put, List.setIfInBounds_toArray, List.set_cons_zero, List.set_cons_succ]
        refine rg_take (v := ?_) 4 rfl (by kernel_rfl) (by kernel_rfl) (by kernel_rfl) (fun _ _ _ h => h) (by kernel_rfl) ?_ (by assumption) ?_
        rotate_left
        · (intro w' hSw; (try dsimp only at hSw); go_simp; first | done | with_reducible rfl)
        simp only [Act.put, List.setIfInBounds_toArray, List.set_cons_zero, List.set_cons_succ]
        refine rg_take (v := ?_) 5 rfl (by kernel_rfl) (by kernel_rfl) (by kernel_rfl) (fun _ _ _ h => h) (by kernel_rfl) ?_ (by assumption) ?_
        rotate_left
        · (intro w' hSw; (try dsimp only at hSw); go_simp; first | done | with_reducible rfl)
        simp only [Act.put, List.setIfInBounds_toArray, List.set_cons_zero, List.set_cons_succ]
        refine rg_take (v := ?_) 6 rfl (by kernel_rfl) (by kernel_rfl) (by kernel_rfl) (fun _ _ _ h => h) (by kernel_rfl) ?_ (by assumption) ?_
        rotate_left
        · (intro w' hSw; (try dsimp only at hSw); go_simp; first | done | with_reducible rfl)
        simp only [Act.put, List.setIfInBounds_toArray, List.set_cons_zero, List.set_cons_succ]
        refine rg_take (v := ?_) 7 rfl (by kernel_rfl) (by kernel_rfl) (by kernel_rfl) (fun _ _ _ h => h) (by kernel_rfl) ?_ (by assumption) ?_
        rotate_left
        · (intro w' hSw; (try dsimp only at hSw); go_simp; first | done | with_reducible rfl)
        simp only [Act.put, List.setIfInBounds_toArray, List.set_cons_zero, List.set_cons_succ]
        refine rg_take (v := ?_) 8 rfl (by kernel_rfl) (by kernel_rfl) (by kernel_rfl) (fun _ _ _ h => h) (by kernel_rfl) ?_ (by assumption) ?_
        rotate_left
        · (intro w' hSw; (try dsimp only at hSw); go_simp; first | done | with_reducible rfl)
        simp only [Act.put, List.setIfInBounds_toArray, List.set_cons_zero, List.set_cons_succ]
        refine rg_take (v := ?_) 9 rfl (by kernel_rfl) (by kernel_rfl) (by kernel_rfl) (fun _ _ _ h => h) (by kernel_rfl) ?_ (by assumption) ?_
        rotate_left
        · (intro w' hSw; (try dsimp only at hSw); go_simp; first | done | with_reducible rfl)
        simp only [Act.put, List.setIfInBounds_toArray, List.set_cons_zero, List.set_cons_succ]
        refine rg_take (v := ?_) 11 rfl (by kernel_rfl) (by kernel_rfl) (by kernel_rfl) (fun _ _ _ h => h) (by kernel_rfl) ?_ (by assumption) ?_
        rotate_left
        · (intro w' hSw; (try dsimp only at hSw); go_simp; first | done | with_reducible rfl)
        simp only [Act.put, List.setIfInBounds_toArray, List.set_cons_zero, List.set_cons_succ]
        refine rg_run 10 rfl (by kernel_rfl) (by kernel_rfl) (fun K hK => ?_)
        go_simp
        refine (HBL.out _ (((H.out.below B0.out).below HB7.out).below (Below.refl _ _).drew)).mono ?_
        rintro e w8 ⟨A8, c8, rfl, hob, hb8⟩
        have hbs := below_chain (Below.refl wr.heap.size wr).drew hb8
        have HB8 := Lib.hid (below_chain HB7.out hbs)
        have HO8 := Lib.hid (own_below HO7.out hbs)
        have HOB8 := Lib.hid (own_mono hob (show W.heap.size ≤ wr.drew.heap.size from HB7.out.size))
        replace k0 := cell_later hbs (by exact k0)
        replace k1 := cell_later hbs (by exact k1)
        replace k2 := cell_later hbs (by exact k2)
        replace k3 := cell_later hbs (by exact k3)
        replace k4 := cell_later hbs (by exact k4)
        replace k5 := cell_later hbs (by exact k5)
        obtain ⟨⟨x0, x1, x2, x3, x4⟩, f0, f1, f2, f3, f4⟩ := (HX.out.below HB7.out).below hbs
        have hrb := World.block_lt_of_cell? _ _ HX.out.1.1
        dsimp only at hrb
        clear hbs hb8 hob HB7 HO7
        have hxz := World.block_lt_of_cell? _ _ x0
        go_wp2
        clear hHeld
        refine hK.out _ _ (by exact ⟨k0, k1, k2, k3, k4, k5⟩) (fun hHeld => ?_)
        clear hK K
        try simp only [Act.put, List.setIfInBounds_toArray, List.set_cons_zero, List.set_cons_succ]
        refine rg_take (v := ?_) 12 rfl (by kernel_rfl) (by kernel_rfl) (by kernel_rfl) (fun _ _ _ h => h) (by kernel_rfl) ?_ (by assumption) ?_
        rotate_left
        · (intro w' hSw; (try dsimp only at hSw); go_simp; first | done | with_reducible rfl)
        simp only [Act.put, List.setIfInBounds_toArray, List.set_cons_zero, List.set_cons_succ]
        refine rg_run 13 rfl (by kernel_rfl) (by kernel_rfl) (fun K hK => ?_)
        go_simp
        go_wp2
        clear hHeld
        refine hK.out _ _ (by refine ⟨?_, ?_, ?_, ?_, ?_, ?_⟩ <;> go_simp) (fun hHeld => ?_)
        clear hK K
        try simp only [Act.put, List.setIfInBounds_toArray, List.set_cons_zero, List.set_cons_succ]
        refine wpAnyH_done (by kernel_rfl) ?_ _
        clear hHeld
        clear k0 k1 k2 k3 k4 k5
        go_wp2_with (fail)
        refine bodyPost_ret (v := .agg #[.int .i64 p.ins.length, .int .i64 p.vs.length, .int .i64 p.os.length, .slice A8 (blk p).length c8, .slice A3 n C3]) (by simp [results, Tryz.results45, go_sem, x0, x1, x2, x3, x4]) rfl (by
          refine HRET.out _ _ _ _ _ _ HLN7.out ?_ ?_ ?_
          · exact own_mono (own_set5 HOB8.out hrb _ _ _ _ _) B0.out.size
          · rw [HC7.out]; exact own_mono (own_set5 HO8.out hrb _ _ _ _ _) B0.out.size
          · exact below_set5 (below_chain B0.out HB8.out) (by omega) _ _ _ _ _)
theorem c_l17Compile (p : Prg) (a1 a2 a3 a4 : Option Addr) (c1 c2 c3 c4 : Nat) (w : World) (hs : PgOk p) (hd : Snd p) (h : PgR w a1 a2 a3 a4 p) :
    Calls Tryz.prog 45 #[pv p a1 a2 a3 a4 c1 c2 c3 c4] w (RetCd (cmp p) w) :=
  c_l17CompileW p a1 a2 a3 a4 c1 c2 c3 c4 w hs hd.b (fun l hl t ht => trm_k (hd.k l hl t ht)) h
end Go.Proofs.YteengjcplmjakaaGreatDoor

/- Rows and boxes of codes: append of rows of instructions, what keeps them. No condition but the sizes. -/
namespace Go.Proofs.YteengjcplmjakaaGreatDoor
open Go.RowKit

/-- A box of a code. -/
def CBox (w : World) (base b : Nat) (x : List Value) : Prop := w.ownsRow base 35 5 (.slice (some ⟨b, 0, none⟩) 1 1) 1 x
theorem CBox.put {w : World} {base b : Nat} {x : List Value} (h : CBox w base b x) (j : Nat) (v : Value) : CBox (w.setCell ⟨b, j, none⟩ v) base b (x.set j v) ∧ w.grownBy (w.setCell ⟨b, j, none⟩ v) (some b) := World.ownsRow.stored h j v
theorem CBox.keep {w w' : World} {base b q : Nat} {x : List Value} (h : CBox w base b x) (hg : w.grownBy w' (some q)) (hne : q ≠ b) : CBox w' base b x :=
  World.ownsRow.kept h hg (.inr (fun e => hne (by simpa [Value.ownBlock] using e.symm)))
theorem CBox.c {w : World} {base b : Nat} {x0 x1 x2 x3 x4 : Value} (h : CBox w base b [x0, x1, x2, x3, x4]) : (w.cell? ⟨b, 0, none⟩ = some x0 ∧ w.cell? ⟨b, 1, none⟩ = some x1 ∧ w.cell? ⟨b, 2, none⟩ = some x2 ∧ w.cell? ⟨b, 3, none⟩ = some x3 ∧ w.cell? ⟨b, 4, none⟩ = some x4) ∧
    (w.frozen? ⟨b, 0, none⟩ = false ∧ w.frozen? ⟨b, 1, none⟩ = false ∧ w.frozen? ⟨b, 2, none⟩ = false ∧ w.frozen? ⟨b, 3, none⟩ = false ∧ w.frozen? ⟨b, 4, none⟩ = false) ∧ b < w.heap.size :=
  ⟨⟨World.ownsRow.cellAt h 0 (by decide), World.ownsRow.cellAt h 1 (by decide), World.ownsRow.cellAt h 2 (by decide), World.ownsRow.cellAt h 3 (by decide), World.ownsRow.cellAt h 4 (by decide)⟩, ⟨World.ownsRow.frozenAt h 0, World.ownsRow.frozenAt h 1, World.ownsRow.frozenAt h 2, World.ownsRow.frozenAt h 3, World.ownsRow.frozenAt h 4⟩, (own_ge h).2⟩
theorem CBox.fill {w : World} {base b : Nat} {y0 y1 y2 y3 y4 : Value} (h : CBox w base b [y0, y1, y2, y3, y4]) (x0 x1 x2 x3 x4 : Value) :
    CBox (((((w.setCell ⟨b, 0, none⟩ x0).setCell ⟨b, 1, none⟩ x1).setCell ⟨b, 2, none⟩ x2).setCell ⟨b, 3, none⟩ x3).setCell ⟨b, 4, none⟩ x4) base b [x0, x1, x2, x3, x4] ∧
    w.grownBy (((((w.setCell ⟨b, 0, none⟩ x0).setCell ⟨b, 1, none⟩ x1).setCell ⟨b, 2, none⟩ x2).setCell ⟨b, 3, none⟩ x3).setCell ⟨b, 4, none⟩ x4) (some b) := by
  have z0 := CBox.put h 0 x0
  have z1 := CBox.put z0.1 1 x1
  have z2 := CBox.put z1.1 2 x2
  have z3 := CBox.put z2.1 3 x3
  have z4 := CBox.put z3.1 4 x4
  exact ⟨z4.1, grown_trans (grown_trans (grown_trans (grown_trans z0.2 z1.2) z2.2) z3.2) z4.2⟩
theorem ins_set {i : Nat} (hi : i < 2) (u : Value) (t' : Ins) : ∀ (ts : List Ins) (k : Nat) (t : Ins), ts[k]? = some t → t.cells.set i u = t'.cells → (insCells ts).set (k * 2 + i) u = insCells (ts.set k t')
  | [], k, t, h, _ => by simp at h
  | a :: ts, 0, t, h, e => by
    simp only [List.getElem?_cons_zero, Option.some.injEq] at h
    subst h
    show (a.cells ++ insCells ts).set (0 * 2 + i) u = t'.cells ++ insCells ts
    rw [Nat.zero_mul, Nat.zero_add, List.set_append_left _ _ (by show i < 2; exact hi), e]
  | a :: ts, k + 1, t, h, e => by
    simp only [List.getElem?_cons_succ] at h
    have ih := ins_set hi u t' ts k t h e
    show (a.cells ++ insCells ts).set ((k + 1) * 2 + i) u = a.cells ++ insCells (ts.set k t')
    rw [List.set_append_right _ _ (by show 2 ≤ (k + 1) * 2 + i; omega), ← ih]
    congr 2
    show (k + 1) * 2 + i - 2 = _
    omega
theorem ins_take : ∀ (l : List Ins) (m : Nat), insCells (l.take m) = (insCells l).take (m * 2)
  | _, 0 => by simp [insCells]
  | [], m + 1 => by simp [insCells]
  | a :: l, m + 1 => by
    show a.cells ++ insCells (l.take m) = (a.cells ++ insCells l).take ((m + 1) * 2)
    have hl : a.cells.length = 2 := rfl
    have e1 : a.cells.take ((m + 1) * 2) = a.cells := List.take_of_length_le (by rw [hl]; omega)
    rw [ins_take l m, List.take_append, hl, show (m + 1) * 2 - 2 = m * 2 by omega, e1]
theorem ins_drop : ∀ (l : List Ins) (m : Nat), insCells (l.drop m) = (insCells l).drop (m * 2)
  | _, 0 => by simp
  | [], m + 1 => by simp [insCells]
  | a :: l, m + 1 => by
    show insCells (l.drop m) = (a.cells ++ insCells l).drop ((m + 1) * 2)
    have hl : a.cells.length = 2 := rfl
    have e1 : a.cells.drop ((m + 1) * 2) = [] := List.drop_of_length_le (by rw [hl]; omega)
    rw [ins_drop l m, List.drop_append, hl, show (m + 1) * 2 - 2 = m * 2 by omega, e1, List.nil_append]
theorem rd_takeI {w : World} {A : Option Addr} {l : List Ins} (h : Rd w A (insCells l)) (m : Nat) : Rd w A (insCells (l.take m)) := by
  rw [ins_take]
  rcases h with h | ⟨b, off, e, hb, hc⟩
  · rw [h]; exact .inl (by simp)
  · exact .inr ⟨b, off, e, hb, fun j u hu => hc j u (by
      rw [List.getElem?_take] at hu
      split at hu
      · exact hu
      · cases hu)⟩
theorem rd_dropI {w : World} {b off : Nat} {l : List Ins} (h : Rd w (some ⟨b, off, none⟩) (insCells l)) (m : Nat) : Rd w (some ⟨b, off + m * 2, none⟩) (insCells (l.drop m)) := by
  rw [ins_drop]
  rcases h with h | ⟨b', off', e, hb, hc⟩
  · rw [h]; exact .inl (by simp)
  · simp only [Option.some.injEq, Addr.mk.injEq, and_true] at e
    obtain ⟨rfl, rfl⟩ := e
    exact .inr ⟨b, off + m * 2, rfl, hb, fun j u hu => by
      rw [List.getElem?_drop] at hu
      have := hc (m * 2 + j) u hu
      rw [show off + m * 2 + j = off + (m * 2 + j) by omega]
      exact this⟩
theorem ins_cell1 {ys : List Ins} {u : Value} (hu : u ∈ insCells ys) : u.oneCell' = true := by
  unfold insCells at hu
  obtain ⟨t, _, hu⟩ := List.mem_flatMap.1 hu
  simp only [Ins.cells, List.mem_cons, List.not_mem_nil, or_false] at hu
  rcases hu with rfl | rfl <;> rfl
theorem app_ins (w : World) {ops : Array Oper} {rest : List Oper} {o : Oper} {a : Act} {Q : Exit → Act → World → Prop} (hgd : o.guard = none) (s x : Operand)
    (ho : o.op = .call { callee := .builtin .append, args := #[s, x], argTypes := #[33, 33] })
    (base : Nat) (v : Value) (n : Nat) (xs : List Ins) (hs : a.eval s = v) (hown : w.ownsRow base 88 2 v n (insCells xs))
    (ad : Addr) (m c : Nat) (ys : List Ins) (hx : a.eval x = .slice (some ad) m c) (hm : m = ys.length) (hr : Rd w (some ad) (insCells ys)) (hb : n + m ≤ 4000000) (hbase : base ≤ w.heap.size)
    (h : ∀ v' w', w'.ownsRow base 88 2 v' (n + m) (insCells (xs ++ ys)) → w.grownBy w' v.ownBlock → wpList Tryz.prog ops Q rest (a.put o.dst v') w') : wpList Tryz.prog ops Q (o :: rest) a w := by
  obtain ⟨i0, hi, hz0, hz1, hz2⟩ := info_parts info_iInstruction
  have hcat : insCells (xs ++ ys) = insCells xs ++ insCells ys := by simp [insCells]
  refine wpList_append_own (w := w) hgd s x 33 ho base 88 i0 _ 2 16 Tryz.underlying33 hi hz0 hz1 hz2 rfl (by decide) v n (insCells xs) hs hown ad m c (insCells ys) hx (by rw [insCells_length, hm]) ?_ (fun u hu => ins_cell1 hu) (by unfold maxLen; omega) (by omega) hbase ?_
  · intro j u hu
    rcases hr with h0 | ⟨b, off, e, _, hc⟩
    · rw [h0] at hu; simp at hu
    · simp only [Option.some.injEq] at e
      subst e
      rw [Addr.add_lit]
      exact hc j u hu
  · intro v' w' h1 h2 _
    exact h v' w' (by rw [hcat]; exact h1) h2
theorem wp_app_ins (w : World) {o : Oper} {a : Act} {K : Act → World → Prop} {Q : Exit → Act → World → Prop} (s x : Operand)
    (ho : o.op = .call { callee := .builtin .append, args := #[s, x], argTypes := #[33, 33] })
    (base : Nat) (v : Value) (n : Nat) (xs : List Ins) (hs : a.eval s = v) (hown : w.ownsRow base 88 2 v n (insCells xs))
    (ad : Addr) (m c : Nat) (ys : List Ins) (hx : a.eval x = .slice (some ad) m c) (hm : m = ys.length) (hr : Rd w (some ad) (insCells ys)) (hb : n + m ≤ 4000000) (hbase : base ≤ w.heap.size)
    (h : ∀ v' w', w'.ownsRow base 88 2 v' (n + m) (insCells (xs ++ ys)) → w.grownBy w' v.ownBlock → K (a.put o.dst v') w') : o.wp Tryz.prog a w K Q := by
  obtain ⟨i0, hi, hz0, hz1, hz2⟩ := info_parts info_iInstruction
  have hcat : insCells (xs ++ ys) = insCells xs ++ insCells ys := by simp [insCells]
  obtain ⟨v', w', hrun, h1, h2, _⟩ := run_append_own (P := Tryz.prog) w base 33 o.type 88 i0 _ 2 16 Tryz.underlying33 hi hz0 hz1 hz2 rfl (by decide) v n (insCells xs) hown ad m c (insCells ys) (by rw [insCells_length, hm]) (by
    intro j u hu
    rcases hr with h0 | ⟨b, off, e, _, hc⟩
    · rw [h0] at hu; simp at hu
    · simp only [Option.some.injEq] at e
      subst e
      rw [Addr.add_lit]
      exact hc j u hu) (fun u hu => ins_cell1 hu) (by unfold maxLen; omega) (by omega) hbase
  unfold Oper.wp execOp
  simp only [ho, resolve, invoke, builtin, Sem.run_bind, Sem.run_pure, Result.andThen_ok, List.map_toArray, List.map_cons, List.map_nil, hs, hx, hrun]
  exact h v' w' (by rw [hcat]; exact h1) h2
theorem own_litI0 (w : World) : (w.alloc (.cells #[] 88)).ownsRow w.heap.size 88 2 (.slice (some ⟨w.heap.size, 0, none⟩) 0 0) 0 (insCells []) := by
  have h := World.ownsRow_lit (e := 88) (size := 2) (base := w.heap.size) w #[] 0 (Nat.le_refl _) (by decide) (by simp)
  simpa [insCells] using h
/-- A code of the call's own, with bounded lengths; the source goes on. -/
def CodeP (B : Nat) (w : World) (e : Ending) (w' : World) : Prop := ∃ c A1 q1 A2 q2, e = .returned (cv c A1 A2 q1 q2) ∧ w'.ownsRow w.heap.size 60 3 (.slice A1 c.bs.length q1) c.bs.length (tmCells c.bs) ∧ w'.ownsRow w.heap.size 88 2 (.slice A2 c.ss.length q2) c.ss.length (insCells c.ss) ∧ CdOk c ∧ c.ss.length ≤ 3000 ∧ DW B w w'
theorem codeP_of {B : Nat} {w w' : World} {i v o : Int} {A1 A2 : Option Addr} {nb q1 ns q2 : Nat} {bs : List Tm} {l : List Ins} (h1 : w'.ownsRow w.heap.size 60 3 (.slice A1 nb q1) nb (tmCells bs)) (h2 : w'.ownsRow w.heap.size 88 2 (.slice A2 ns q2) ns (insCells l)) (hb : TmOk bs) (hl : ns ≤ 3000) (hd : DW B w w') : CodeP B w (.returned (.agg #[.int .i64 i, .int .i64 v, .int .i64 o, .slice A1 nb q1, .slice A2 ns q2])) w' := by
  obtain rfl : nb = bs.length := by have := h1.1; rw [tmCells_length] at this; omega
  obtain rfl : ns = l.length := by have := h2.1; rw [insCells_length] at this; omega
  exact ⟨⟨i, v, o, bs, l⟩, A1, q1, A2, q2, rfl, h1, h2, ⟨hb, by show l.length ≤ _; omega⟩, hl, hd⟩
theorem cmp_few {p : Prg} (h1 : 1 ≤ p.ls.length) (h6 : p.ls.length ≤ 6) (ht : ∀ l ∈ p.ls, l.ts.length ≤ 31) : 1 ≤ (cmp p).ss.length ∧ (cmp p).ss.length ≤ 247 := by
  have h5 := csP_len p p.ls 0 (fun l hl => by have := ht l hl; omega)
  have h7 := gdI_len p
  have e : (cmp p).ss.length = (csP p 0 p.ls).length + (gdI p).length := List.length_append
  have : 1 ≤ (csP p 0 p.ls).length := by
    cases hp : p.ls with
    | nil => rw [hp] at h1; simp at h1
    | cons l r =>
      show 1 ≤ (csL p 0 l ++ csP p (0 + nbT l.ts) r).length
      unfold csL
      rw [List.length_append, List.length_append, List.length_singleton]
      omega
  omega
end Go.Proofs.YteengjcplmjakaaGreatDoor
