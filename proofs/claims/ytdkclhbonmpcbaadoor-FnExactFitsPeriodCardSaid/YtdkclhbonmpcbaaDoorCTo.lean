/- Contracts of the laws' own copy of a code, and of the comparison. Condition: the lists' sizes. -/
import Derived.Test.YtdkclhbonmpcbaaDoorCSz
namespace Go.Proofs.YtdkclhbonmpcbaaDoor
open Go.RowKit

theorem own_box (w : World) (base : Nat) (t : TypeId) (xs : List Value) (s : Nat) (h : xs.length = s) (hb : base ≤ w.heap.size) : (w.alloc (.cells xs.toArray t)).ownsRow base t s (.slice (some ⟨w.heap.size, 0, none⟩) 1 1) 1 xs := by
  subst h
  have h := World.ownsRow_lit (e := t) (size := xs.length) (base := base) w xs.toArray 1 hb (by decide) (by simp)
  simpa using h
theorem own_ne {w : World} {b1 b2 : Nat} {e1 e2 : TypeId} {s1 s2 n1 n2 : Nat} {v1 v2 : Value} {x1 x2 : List Value} (h1 : w.ownsRow b1 e1 s1 v1 n1 x1) (h2 : w.ownsRow b2 e2 s2 v2 n2 x2) (he : e1 ≠ e2) : ∀ q, v1.ownBlock = some q → v2.ownBlock = some q → False := by
  intro q hq1 hq2
  rcases h1.2 with ⟨rfl, _⟩ | ⟨g1, c1, cur1, rfl, _, hg1, _⟩
  · simp [Value.ownBlock] at hq1
  · rcases h2.2 with ⟨rfl, _⟩ | ⟨g2, c2, cur2, rfl, _, hg2, _⟩
    · simp [Value.ownBlock] at hq2
    · simp [Value.ownBlock] at hq1 hq2
      subst hq1
      subst hq2
      rw [hg1] at hg2
      simp only [Option.some.injEq, Obj.cells.injEq] at hg2
      exact he hg2.2.1
theorem grown_trans {w a b : World} {row : Option Nat} (h : w.grownBy a row) (h2 : a.grownBy b row) : w.grownBy b row :=
  ⟨h2.os.trans h.os, h2.tape.trans h.tape, h2.output.trans h.output, Nat.le_trans h.size h2.size, fun k hk hne => (h2.block k (Nat.lt_of_lt_of_le hk h.size) hne).trans (h.block k hk hne)⟩
/-- A box of a code. -/
def CBox (w : World) (base b : Nat) (x : List Value) : Prop := w.ownsRow base 32 5 (.slice (some ⟨b, 0, none⟩) 1 1) 1 x
theorem CBox.put {w : World} {base b : Nat} {x : List Value} (h : CBox w base b x) (j : Nat) (v : Value) : CBox (w.setCell ⟨b, j, none⟩ v) base b (x.set j v) ∧ w.grownBy (w.setCell ⟨b, j, none⟩ v) (some b) := World.ownsRow.stored h j v
theorem CBox.keep {w w' : World} {base b q : Nat} {x : List Value} (h : CBox w base b x) (hg : w.grownBy w' (some q)) (hne : q ≠ b) : CBox w' base b x :=
  World.ownsRow.kept h hg (.inr (fun e => hne (by simpa [Value.ownBlock] using e.symm)))
theorem CBox.c {w : World} {base b : Nat} {x0 x1 x2 x3 x4 : Value} (h : CBox w base b [x0, x1, x2, x3, x4]) : (w.cell? ⟨b, 0, none⟩ = some x0 ∧ w.cell? ⟨b, 1, none⟩ = some x1 ∧ w.cell? ⟨b, 2, none⟩ = some x2 ∧ w.cell? ⟨b, 3, none⟩ = some x3 ∧ w.cell? ⟨b, 4, none⟩ = some x4) ∧
    (w.frozen? ⟨b, 0, none⟩ = false ∧ w.frozen? ⟨b, 1, none⟩ = false ∧ w.frozen? ⟨b, 2, none⟩ = false ∧ w.frozen? ⟨b, 3, none⟩ = false ∧ w.frozen? ⟨b, 4, none⟩ = false) ∧ b < w.heap.size :=
  ⟨⟨World.ownsRow.cellAt h 0 (by decide), World.ownsRow.cellAt h 1 (by decide), World.ownsRow.cellAt h 2 (by decide), World.ownsRow.cellAt h 3 (by decide), World.ownsRow.cellAt h 4 (by decide)⟩, ⟨World.ownsRow.frozenAt h 0, World.ownsRow.frozenAt h 1, World.ownsRow.frozenAt h 2, World.ownsRow.frozenAt h 3, World.ownsRow.frozenAt h 4⟩, (own_ge h).2⟩
def RetCd (c : Cd) (w : World) (e : Ending) (w' : World) : Prop :=
  ∃ A1 c1 A2 c2, e = .returned (cv c A1 A2 c1 c2) ∧ w'.ownsRow w.heap.size 59 3 (.slice A1 c.bs.length c1) c.bs.length (tmCells c.bs) ∧ w'.ownsRow w.heap.size 46 2 (.slice A2 c.ss.length c2) c.ss.length (insCells c.ss) ∧ Below w.heap.size w w'
set_option maxHeartbeats 1000000 in
set_option maxRecDepth 100000 in
theorem c_toCode (c : Cd) (ab as_ : Option Addr) (cb cs : Nat) (w : World) (hs : CdOk c) (h : CdR w ab as_ c) : Calls Tryd.prog 8 #[cv c ab as_ cb cs] w (RetCd c w) := by
  obtain ⟨ci, cvv, co, bs, ss⟩ := c
  obtain ⟨⟨s0, _⟩, s1⟩ := hs
  have H := Lib.hid h
  dsimp only [cv] at s0 s1 ⊢
  clear h
  go_enter Tryd.func8, Tryd.ntmps8
  go_wp2_with (fail)
  have B0 := below_alloc (below_alloc (below_alloc (Below.refl w.heap.size w) (.cells #[.int .i64 ci, .int .i64 cvv, .int .i64 co, .slice ab bs.length cb, .slice as_ ss.length cs] 25)) (.cells #[.int .i64 0, .int .i64 0, .int .i64 0, .slice none 0 0, .slice none 0 0] 32)) (.cells #[.int .i64 ci, .int .i64 cvv, .int .i64 co, .slice none 0 0, .slice none 0 0] 32)
  have X2 : CBox (((w.alloc (.cells #[.int .i64 ci, .int .i64 cvv, .int .i64 co, .slice ab bs.length cb, .slice as_ ss.length cs] 25)).alloc (.cells #[.int .i64 0, .int .i64 0, .int .i64 0, .slice none 0 0, .slice none 0 0] 32)).alloc (.cells #[.int .i64 ci, .int .i64 cvv, .int .i64 co, .slice none 0 0, .slice none 0 0] 32)) w.heap.size (w.heap.size + 1) [.int .i64 0, .int .i64 0, .int .i64 0, .slice none 0 0, .slice none 0 0] := by
    have h := own_box (w.alloc (.cells #[.int .i64 ci, .int .i64 cvv, .int .i64 co, .slice ab bs.length cb, .slice as_ ss.length cs] 25)) w.heap.size 32 [.int .i64 0, .int .i64 0, .int .i64 0, .slice none 0 0, .slice none 0 0] 5 rfl (by simp)
    have h2 := own_below h (below_alloc (Below.refl _ _) (.cells #[.int .i64 ci, .int .i64 cvv, .int .i64 co, .slice none 0 0, .slice none 0 0] 32))
    simpa [CBox] using h2
  have X3 : CBox (((w.alloc (.cells #[.int .i64 ci, .int .i64 cvv, .int .i64 co, .slice ab bs.length cb, .slice as_ ss.length cs] 25)).alloc (.cells #[.int .i64 0, .int .i64 0, .int .i64 0, .slice none 0 0, .slice none 0 0] 32)).alloc (.cells #[.int .i64 ci, .int .i64 cvv, .int .i64 co, .slice none 0 0, .slice none 0 0] 32)) w.heap.size (w.heap.size + 1 + 1) [.int .i64 ci, .int .i64 cvv, .int .i64 co, .slice none 0 0, .slice none 0 0] := by
    have h := own_box ((w.alloc (.cells #[.int .i64 ci, .int .i64 cvv, .int .i64 co, .slice ab bs.length cb, .slice as_ ss.length cs] 25)).alloc (.cells #[.int .i64 0, .int .i64 0, .int .i64 0, .slice none 0 0, .slice none 0 0] 32)) w.heap.size 32 [.int .i64 ci, .int .i64 cvv, .int .i64 co, .slice none 0 0, .slice none 0 0] 5 rfl (by simp; omega)
    simpa [CBox] using h
  have k4 : (((w.alloc (.cells #[.int .i64 ci, .int .i64 cvv, .int .i64 co, .slice ab bs.length cb, .slice as_ ss.length cs] 25)).alloc (.cells #[.int .i64 0, .int .i64 0, .int .i64 0, .slice none 0 0, .slice none 0 0] 32)).alloc (.cells #[.int .i64 ci, .int .i64 cvv, .int .i64 co, .slice none 0 0, .slice none 0 0] 32)).cell? ⟨w.heap.size, 4, none⟩ = some (.slice as_ ss.length cs) := by go_simp
  generalize ((w.alloc (.cells #[.int .i64 ci, .int .i64 cvv, .int .i64 co, .slice ab bs.length cb, .slice as_ ss.length cs] 25)).alloc (.cells #[.int .i64 0, .int .i64 0, .int .i64 0, .slice none 0 0, .slice none 0 0] 32)).alloc (.cells #[.int .i64 ci, .int .i64 cvv, .int .i64 co, .slice none 0 0, .slice none 0 0] 32) = W at *
  refine (c_toTermS ab cb _ bs _ rfl s0 (H.out.b.below B0)).mono ?_
  rintro e w1 ⟨A1, c1, rfl, ho, hb⟩
  have Y3 := X3
  have HX2 := Lib.hid (own_below X2 hb)
  have HX3 := Lib.hid (own_below X3 hb)
  have HB1 := Lib.hid (below_chain B0 hb)
  have HO := Lib.hid (own_mono ho (base' := w.heap.size) B0.size)
  replace k4 := cell_later hb k4
  clear X2 X3 Y3 hb ho B0
  have hp := CBox.put HX3.out 3 (.slice A1 bs.length c1)
  have HP3 := Lib.hid hp.1
  have HP2 := Lib.hid (CBox.keep HX2.out hp.2 (by omega))
  have HPO := Lib.hid (HO.out.kept hp.2 (.inr (fun e => own_ne HX3.out HO.out (by decide) _ rfl e)))
  have HPB := Lib.hid (below_of_grown HB1.out hp.2 (fun k hk => by simp at hk; omega))
  obtain ⟨⟨a0, a1, a2, a3, a4⟩, ⟨f0, f1, f2, f3, f4⟩, hlt⟩ := CBox.c HX3.out
  have k4' : (w1.setCell ⟨w.heap.size + 1 + 1, 3, none⟩ (.slice A1 bs.length c1)).cell? ⟨w.heap.size, 4, none⟩ = some (.slice as_ ss.length cs) := by go_simp
  clear hp HX2 HX3 HO HB1
  go_upto_region 6 with (fail)
  generalize w1.setCell ⟨w.heap.size + 1 + 1, 3, none⟩ (.slice A1 bs.length c1) = W2 at *
  clear k4 a0 a1 a2 a3 a4 f0 f1 f2 f3 f4 hlt
  go_wp2_with (fail)
  refine (c_toInstructionS as_ cs _ ss _ rfl s1 (H.out.s.below HPB.out)).mono ?_
  rintro e w3 ⟨A2, c2, rfl, ho, hb⟩
  have HX2 := Lib.hid (own_below HP2.out hb)
  have HX3 := Lib.hid (own_below HP3.out hb)
  have HO1 := Lib.hid (own_below HPO.out hb)
  have HO2 := Lib.hid (own_mono ho (base' := w.heap.size) HPB.out.size)
  have HB3 := Lib.hid (below_chain HPB.out hb)
  clear hb ho k4' HP2 HP3 HPO HPB
  have hp := CBox.put HX3.out 4 (.slice A2 ss.length c2)
  have HP3 := Lib.hid hp.1
  have HP2 := Lib.hid (CBox.keep HX2.out hp.2 (by omega))
  have HP1 := Lib.hid (HO1.out.kept hp.2 (.inr (fun e => own_ne HX3.out HO1.out (by decide) _ rfl e)))
  have HPO := Lib.hid (HO2.out.kept hp.2 (.inr (fun e => own_ne HX3.out HO2.out (by decide) _ rfl e)))
  have HPB := Lib.hid (below_of_grown HB3.out hp.2 (fun k hk => by simp at hk; omega))
  have hX3 := HX3.out
  simp only [List.set_cons_zero, List.set_cons_succ] at hX3
  obtain ⟨⟨a0, a1, a2, a3, a4⟩, ⟨f0, f1, f2, f3, f4⟩, hlt⟩ := CBox.c hX3
  clear hp HX2 HX3 hX3 HO1 HO2 HB3
  go_upto_region 7 with (fail)
  generalize w3.setCell ⟨w.heap.size + 1 + 1, 4, none⟩ (.slice A2 ss.length c2) = W4 at *
  clear a0 a1 a2 a3 a4 f0 f1 f2 f3 f4 hlt
  have hX3 := HP3.out
  simp only [List.set_cons_zero, List.set_cons_succ] at hX3
  obtain ⟨⟨a0, a1, a2, a3, a4⟩, _, hlt⟩ := CBox.c hX3
  obtain ⟨⟨b0, b1, b2, b3, b4⟩, ⟨f0, f1, f2, f3, f4⟩, hlt2⟩ := CBox.c HP2.out
  have z0 := CBox.put HP2.out 0 (.int .i64 ci)
  have z1 := CBox.put z0.1 1 (.int .i64 cvv)
  have z2 := CBox.put z1.1 2 (.int .i64 co)
  have z3 := CBox.put z2.1 3 (.slice A1 bs.length c1)
  have z4 := CBox.put z3.1 4 (.slice A2 ss.length c2)
  have zg := grown_trans (grown_trans (grown_trans (grown_trans z0.2 z1.2) z2.2) z3.2) z4.2
  have Z1 := Lib.hid (HP1.out.kept zg (.inr (fun e => own_ne HP2.out HP1.out (by decide) _ rfl e)))
  have Z2 := Lib.hid (HPO.out.kept zg (.inr (fun e => own_ne HP2.out HPO.out (by decide) _ rfl e)))
  have ZB := Lib.hid (below_of_grown HPB.out zg (fun k hk => by simp at hk; omega))
  have ZC := Lib.hid z4.1
  obtain ⟨WF, hWF⟩ : ∃ WF, WF = ((((W4.setCell ⟨w.heap.size + 1, 0, none⟩ (.int .i64 ci)).setCell ⟨w.heap.size + 1, 1, none⟩ (.int .i64 cvv)).setCell ⟨w.heap.size + 1, 2, none⟩ (.int .i64 co)).setCell ⟨w.heap.size + 1, 3, none⟩ (.slice A1 bs.length c1)).setCell ⟨w.heap.size + 1, 4, none⟩ (.slice A2 ss.length c2) := ⟨_, rfl⟩
  rw [← hWF] at Z1 Z2 ZB ZC
  have HF := Lib.hid hWF
  clear z0 z1 z2 z3 z4 zg hX3 hWF HP1 HP2 HP3 HPO HPB
  go_wp2_with (fail)
  rw [← HF.out]
  have zc := ZC.out
  simp only [List.set_cons_zero, List.set_cons_succ] at zc
  obtain ⟨⟨r0, r1, r2, r3, r4⟩, _⟩ := CBox.c zc
  clear a0 a1 a2 a3 a4 b0 b1 b2 b3 b4 f0 f1 f2 f3 f4
  refine bodyPost_ret (v := .agg #[.int .i64 ci, .int .i64 cvv, .int .i64 co, .slice A1 bs.length c1, .slice A2 ss.length c2]) (by simp [results, Tryd.results8, go_sem, r0, r1, r2, r3, r4]) rfl ⟨A1, c1, A2, c2, rfl, Z1.out, Z2.out, ZB.out⟩
set_option maxRecDepth 100000 in
theorem c_eqCode (c : Cd) (ab as_ ab' as' : Option Addr) (cb cs cb' cs' : Nat) (w : World) (hs : CdOk c) (h : CdR w ab as_ c) (h' : CdR w ab' as' c) :
    Calls Tryd.prog 10 #[cv c ab as_ cb cs, cv c ab' as' cb' cs'] w fun e w' => e = .returned (.bool true) ∧ Below w.heap.size w w' := by
  obtain ⟨ci, cvv, co, bs, ss⟩ := c
  obtain ⟨⟨s0, _⟩, s1⟩ := hs
  have H := Lib.hid h
  have H' := Lib.hid h'
  clear h h'
  dsimp only [cv] at s0 s1 ⊢
  go_enter Tryd.func10, Tryd.ntmps10
  go_wp2_with (fail)
  have B : Below w.heap.size w _ := below_alloc (below_alloc (Below.refl _ _) (.cells #[.int .i64 ci, .int .i64 cvv, .int .i64 co, .slice ab bs.length cb, .slice as_ ss.length cs] 32)) (.cells #[.int .i64 ci, .int .i64 cvv, .int .i64 co, .slice ab' bs.length cb', .slice as' ss.length cs'] 32)
  refine (c_eqTermS _ _ _ _ _ _ bs _ rfl rfl s0 (H.out.b.below B) (H'.out.b.below B)).mono ?_
  rintro e w1 ⟨rfl, hb⟩
  have k1 : w1.cell? ⟨w.heap.size, 4, none⟩ = some (.slice as_ ss.length cs) := cell_later hb (by go_simp)
  have j1 : w1.cell? ⟨w.heap.size + 1, 4, none⟩ = some (.slice as' ss.length cs') := cell_later hb (by go_simp)
  replace B := below_chain B hb
  clear hb
  go_wp2_with (fail)
  refine (c_eqInstructionS _ _ _ _ _ _ ss _ rfl rfl s1 (H.out.s.below B) (H'.out.s.below B)).mono ?_
  rintro e w3 ⟨rfl, hb⟩
  replace B := below_chain B hb
  clear hb
  go_wp2_with (fail)
  go_ret
  exact ⟨rfl, B⟩
end Go.Proofs.YtdkclhbonmpcbaaDoor
