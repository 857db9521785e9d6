/- Contracts of the laws' own copy, size and comparison of a memory (printed by PMe.py). Condition: the lists' sizes. -/
import Derived.Test.YtmjhihjjehagfaaGreatDoorRowB
namespace Go.Proofs.YtmjhihjjehagfaaGreatDoor
open Go.RowKit

theorem c_szInt64S (A : Option Addr) (c n : Nat) (left : Int) (w : World) (hn : n ≤ 9223372036854775807) (h0 : 0 ≤ left) (h1 : left ≤ 1048576) :
    Calls Tryz.prog 35 #[.slice A n c, .int .i64 left] w fun e w' => e = .returned (.int .i64 (szI left n)) ∧ w = w' := by
  go_enter Tryz.func35, Tryz.ntmps35
  go_wp2
  all_goals go_ret
  all_goals (refine ⟨?_, rfl⟩; simp [szI]; try omega)
/-- A memory. -/
structure Mem where
  vs : List Int
  bs : List Bs
def mv (m : Mem) (a1 a2 : Option Addr) (c1 c2 : Nat) : Value := .agg #[.slice a1 m.vs.length c1, .slice a2 m.bs.length c2]
structure MeR (w : World) (a1 a2 : Option Addr) (m : Mem) : Prop where
  v : Rd w a1 (ints m.vs)
  b : Rd w a2 (bsCells m.bs)
theorem MeR.below {w w' : World} {a1 a2 : Option Addr} {m : Mem} (h : MeR w a1 a2 m) (hb : Below w.heap.size w w') : MeR w' a1 a2 m := ⟨h.v.below hb, h.b.below hb⟩
structure MeSz (m : Mem) : Prop where
  v : m.vs.length ≤ 9223372036854775807
  b : m.bs.length ≤ 9223372036854775807
structure MeOk (m : Mem) : Prop where
  v : m.vs.length ≤ 1048576
  b : m.bs.length ≤ 1048576
set_option maxRecDepth 100000 in
theorem c_szMemory (m : Mem) (a1 a2 : Option Addr) (c1 c2 : Nat) (left : Int) (w : World) (hs : MeSz m) (h0 : 0 ≤ left) (h1 : left ≤ 1048576) :
    Calls Tryz.prog 14 #[mv m a1 a2 c1 c2, .int .i64 left] w (Left left (MeOk m) w) := by
  obtain ⟨vs, bs⟩ := m
  have sv := hs.v
  have sb := hs.b
  clear hs
  dsimp only [mv] at sv sb ⊢
  have B0 := Lib.hid (below_alloc (Below.refl w.heap.size w) (.cells #[.slice a1 vs.length c1, .slice a2 bs.length c2] 41))
  have k1 : (w.alloc (.cells #[.slice a1 vs.length c1, .slice a2 bs.length c2] 41)).cell? ⟨w.heap.size, 1, none⟩ = some (.slice a2 bs.length c2) := by go_simp
  go_enter Tryz.func14, Tryz.ntmps14
  go_upto_region 1 with (fail)
  go_wp2_with (fail)
  generalize w.alloc (.cells #[.slice a1 vs.length c1, .slice a2 bs.length c2] 41) = W0 at *
  refine (c_szInt64S a1 c1 _ left _ sv (by omega) (by omega)).mono ?_
  rintro e w1 ⟨rfl, rfl⟩
  rcases szI_cases (left := left) (n := vs.length) with ⟨h, h'⟩ | ⟨h, h'⟩
  · rw [h]
    go_wp2_with (fail)
    go_ret
    exact ⟨-1, rfl, .inl rfl, B0.out⟩
  rw [h]
  obtain ⟨v0, hv0⟩ : ∃ v0, v0 = left - (vs.length : Int) := ⟨_, rfl⟩
  have HV0 := Lib.hid hv0
  rw [← hv0] at h' ⊢
  have n0 : ¬ v0 < 0 := by omega
  have l1 : v0 ≤ 1048576 := by omega
  have l2 : v0 ≤ left := by omega
  clear h hv0
  go_wp2_with (fail)
  refine (c_szBlockStateS a2 c2 _ v0 _ sb (by omega) (by omega)).mono ?_
  rintro e w1 ⟨rfl, rfl⟩
  rcases szI_cases (left := v0) (n := bs.length) with ⟨h, h''⟩ | ⟨h, h''⟩
  · rw [h]
    go_wp2_with (fail)
    go_ret
    exact ⟨-1, rfl, .inl rfl, B0.out⟩
  rw [h]
  obtain ⟨v1, hv1⟩ : ∃ v1, v1 = v0 - (bs.length : Int) := ⟨_, rfl⟩
  have HV1 := Lib.hid hv1
  rw [← hv1] at h'' ⊢
  have n1 : ¬ v1 < 0 := by omega
  have l3 : v1 ≤ left := by omega
  clear h hv1
  go_wp2_with (fail)
  go_ret
  have e0 := HV0.out
  have e1 := HV1.out
  exact ⟨v1, rfl, .inr ⟨by omega, by omega, ⟨by show vs.length ≤ _; omega, by show bs.length ≤ _; omega⟩⟩, B0.out⟩
/-- A box of a memory. -/
def MBox (w : World) (base b : Nat) (x : List Value) : Prop := w.ownsRow base 46 2 (.slice (some ⟨b, 0, none⟩) 1 1) 1 x
theorem MBox.put {w : World} {base b : Nat} {x : List Value} (h : MBox w base b x) (j : Nat) (v : Value) : MBox (w.setCell ⟨b, j, none⟩ v) base b (x.set j v) ∧ w.grownBy (w.setCell ⟨b, j, none⟩ v) (some b) := World.ownsRow.stored h j v
theorem MBox.keep {w w' : World} {base b q : Nat} {x : List Value} (h : MBox w base b x) (hg : w.grownBy w' (some q)) (hne : q ≠ b) : MBox w' base b x :=
  World.ownsRow.kept h hg (.inr (fun e => hne (by simpa [Value.ownBlock] using e.symm)))
theorem MBox.c {w : World} {base b : Nat} {x0 x1 : Value} (h : MBox w base b [x0, x1]) : (w.cell? ⟨b, 0, none⟩ = some x0 ∧ w.cell? ⟨b, 1, none⟩ = some x1) ∧
    (w.frozen? ⟨b, 0, none⟩ = false ∧ w.frozen? ⟨b, 1, none⟩ = false) ∧ b < w.heap.size :=
  ⟨⟨World.ownsRow.cellAt h 0 (by decide), World.ownsRow.cellAt h 1 (by decide)⟩, ⟨World.ownsRow.frozenAt h 0, World.ownsRow.frozenAt h 1⟩, (own_ge h).2⟩
/-- The rows of a memory, all the call's own. -/
structure MeOwn (w : World) (base : Nat) (a1 a2 : Option Addr) (c1 c2 : Nat) (m : Mem) : Prop where
  v : w.ownsRow base 2 1 (.slice a1 m.vs.length c1) m.vs.length (ints m.vs)
  b : w.ownsRow base 81 3 (.slice a2 m.bs.length c2) m.bs.length (bsCells m.bs)
theorem MeOwn.below {w w' : World} {base : Nat} {a1 a2 : Option Addr} {c1 c2 : Nat} {m : Mem} (h : MeOwn w base a1 a2 c1 c2 m) (hb : Below w.heap.size w w') : MeOwn w' base a1 a2 c1 c2 m := ⟨own_below h.v hb, own_below h.b hb⟩
theorem MeOwn.rd {w : World} {base : Nat} {a1 a2 : Option Addr} {c1 c2 : Nat} {m : Mem} (h : MeOwn w base a1 a2 c1 c2 m) : MeR w a1 a2 m := ⟨Rd.own h.v, Rd.own h.b⟩
def RetMe (m : Mem) (w : World) (e : Ending) (w' : World) : Prop :=
  ∃ a1 a2 c1 c2, e = .returned (mv m a1 a2 c1 c2) ∧ MeOwn w' w.heap.size a1 a2 c1 c2 m ∧ Below w.heap.size w w'
set_option maxHeartbeats 2000000 in
set_option maxRecDepth 100000 in
theorem c_toMemory (m : Mem) (a1 a2 : Option Addr) (c1 c2 : Nat) (w : World) (hs : MeOk m) (h : MeR w a1 a2 m) : Calls Tryz.prog 16 #[mv m a1 a2 c1 c2] w (RetMe m w) := by
  obtain ⟨vs, bs⟩ := m
  have HS := Lib.hid hs
  have H := Lib.hid h
  clear hs h
  dsimp only [mv]
  have B0 := Lib.hid (below_alloc (below_alloc (below_alloc (Below.refl w.heap.size w) (.cells #[.slice a1 vs.length c1, .slice a2 bs.length c2] 41)) (.cells #[.slice none 0 0, .slice none 0 0] 46)) (.cells #[.slice none 0 0, .slice none 0 0] 46))
  have HX2 : Hid (MBox (((w.alloc (.cells #[.slice a1 vs.length c1, .slice a2 bs.length c2] 41)).alloc (.cells #[.slice none 0 0, .slice none 0 0] 46)).alloc (.cells #[.slice none 0 0, .slice none 0 0] 46)) w.heap.size (w.heap.size + 1) [.slice none 0 0, .slice none 0 0]) := Lib.hid (by
    have h := own_box (w.alloc (.cells #[.slice a1 vs.length c1, .slice a2 bs.length c2] 41)) w.heap.size 46 [.slice none 0 0, .slice none 0 0] 2 rfl (by simp)
    have h2 := own_below h (below_alloc (Below.refl _ _) (.cells #[.slice none 0 0, .slice none 0 0] 46))
    simpa [MBox] using h2)
  have HX3 : Hid (MBox (((w.alloc (.cells #[.slice a1 vs.length c1, .slice a2 bs.length c2] 41)).alloc (.cells #[.slice none 0 0, .slice none 0 0] 46)).alloc (.cells #[.slice none 0 0, .slice none 0 0] 46)) w.heap.size (w.heap.size + 1 + 1) [.slice none 0 0, .slice none 0 0]) := Lib.hid (by
    have h := own_box ((w.alloc (.cells #[.slice a1 vs.length c1, .slice a2 bs.length c2] 41)).alloc (.cells #[.slice none 0 0, .slice none 0 0] 46)) w.heap.size 46 [.slice none 0 0, .slice none 0 0] 2 rfl (by simp; omega)
    simpa [MBox] using h)
  have k0 : (((w.alloc (.cells #[.slice a1 vs.length c1, .slice a2 bs.length c2] 41)).alloc (.cells #[.slice none 0 0, .slice none 0 0] 46)).alloc (.cells #[.slice none 0 0, .slice none 0 0] 46)).cell? ⟨w.heap.size, 0, none⟩ = some (.slice a1 vs.length c1) := by go_simp
  have k1 : (((w.alloc (.cells #[.slice a1 vs.length c1, .slice a2 bs.length c2] 41)).alloc (.cells #[.slice none 0 0, .slice none 0 0] 46)).alloc (.cells #[.slice none 0 0, .slice none 0 0] 46)).cell? ⟨w.heap.size, 1, none⟩ = some (.slice a2 bs.length c2) := by go_simp
  go_enter Tryz.func16, Tryz.ntmps16
  go_upto_region 2 with (fail)
  generalize ((w.alloc (.cells #[.slice a1 vs.length c1, .slice a2 bs.length c2] 41)).alloc (.cells #[.slice none 0 0, .slice none 0 0] 46)).alloc (.cells #[.slice none 0 0, .slice none 0 0] 46) = W0 at *
  go_wp2_with (fail)
  refine (c_toInt64S a1 c1 _ vs _ rfl HS.out.v (H.out.v.below B0.out)).mono ?_
  rintro e w0 ⟨A0, C0, rfl, ho, hb⟩
  have HY2 := Lib.hid (own_below HX2.out hb)
  have HY3 := Lib.hid (own_below HX3.out hb)
  have HO0 := Lib.hid (own_mono ho (base' := w.heap.size) B0.out.size)
  have BB0 := Lib.hid (below_chain B0.out hb)
  replace k0 := cell_later hb k0
  replace k1 := cell_later hb k1
  clear hb ho HX2 HX3 
  have hp := MBox.put HY3.out 0 (.slice A0 vs.length C0)
  have HX3 : Hid (MBox (w0.setCell ⟨w.heap.size + 1 + 1, 0, none⟩ (.slice A0 vs.length C0)) w.heap.size (w.heap.size + 1 + 1) [.slice A0 vs.length C0, .slice none 0 0]) := Lib.hid hp.1
  have HX2 := Lib.hid (MBox.keep HY2.out hp.2 (by omega))
  have HP0 := Lib.hid (own_keep HO0.out HY3.out (by decide) hp.2)
  have B1 := Lib.hid (below_of_grown BB0.out hp.2 (fun k hk => by simp at hk; omega))
  obtain ⟨⟨x0, x1⟩, ⟨f0, f1⟩, hlt⟩ := MBox.c HY3.out
  have k1' := hp.2.cell k1 (fun e => by simp at e; omega)
  clear hp HY2 HY3 BB0 HO0
  go_upto_region 3 with (fail)
  generalize w0.setCell ⟨w.heap.size + 1 + 1, 0, none⟩ (.slice A0 vs.length C0) = W1 at *
  clear x0 x1 f0 f1 hlt k0 k1
  have k1 := k1'
  clear k1'
  have HO0 := HP0
  clear HP0
  go_wp2_with (fail)
  refine (c_toBlockStateS a2 c2 _ bs _ rfl HS.out.b (H.out.b.below B1.out)).mono ?_
  rintro e w1 ⟨A1, C1, rfl, ho, hb⟩
  have HY2 := Lib.hid (own_below HX2.out hb)
  have HY3 := Lib.hid (own_below HX3.out hb)
  have HO1 := Lib.hid (own_mono ho (base' := w.heap.size) B1.out.size)
  have HQ0 := Lib.hid (own_below HO0.out hb)
  have BB1 := Lib.hid (below_chain B1.out hb)
  replace k1 := cell_later hb k1
  clear hb ho HX2 HX3 HO0
  have hp := MBox.put HY3.out 1 (.slice A1 bs.length C1)
  have HX3 : Hid (MBox (w1.setCell ⟨w.heap.size + 1 + 1, 1, none⟩ (.slice A1 bs.length C1)) w.heap.size (w.heap.size + 1 + 1) [.slice A0 vs.length C0, .slice A1 bs.length C1]) := Lib.hid hp.1
  have HX2 := Lib.hid (MBox.keep HY2.out hp.2 (by omega))
  have HP0 := Lib.hid (own_keep HQ0.out HY3.out (by decide) hp.2)
  have HP1 := Lib.hid (own_keep HO1.out HY3.out (by decide) hp.2)
  have B2 := Lib.hid (below_of_grown BB1.out hp.2 (fun k hk => by simp at hk; omega))
  obtain ⟨⟨x0, x1⟩, ⟨f0, f1⟩, hlt⟩ := MBox.c HY3.out
  clear hp HY2 HY3 BB1 HQ0 HO1
  go_upto_region 4 with (fail)
  generalize w1.setCell ⟨w.heap.size + 1 + 1, 1, none⟩ (.slice A1 bs.length C1) = W2 at *
  clear x0 x1 f0 f1 hlt k1
  have HO0 := HP0
  clear HP0
  have HO1 := HP1
  clear HP1
  obtain ⟨⟨a0', a1'⟩, _, hlt⟩ := MBox.c HX3.out
  obtain ⟨⟨b0, b1⟩, ⟨f0, f1⟩, hlt2⟩ := MBox.c HX2.out
  have z0 := MBox.put HX2.out 0 (.slice A0 vs.length C0)
  have z1 := MBox.put z0.1 1 (.slice A1 bs.length C1)
  have zg := (grown_trans z0.2 z1.2)
  have Y0 := Lib.hid (own_keep HO0.out HX2.out (by decide) zg)
  have Y1 := Lib.hid (own_keep HO1.out HX2.out (by decide) zg)
  have YB := Lib.hid (below_of_grown B2.out zg (fun k hk => by simp at hk; omega))
  have YC := Lib.hid z1.1
  obtain ⟨WF, hWF⟩ : ∃ WF, WF = (W2.setCell ⟨w.heap.size + 1, 0, none⟩ (.slice A0 vs.length C0)).setCell ⟨w.heap.size + 1, 1, none⟩ (.slice A1 bs.length C1) := ⟨_, rfl⟩
  rw [← hWF] at Y0 Y1 YB YC
  have HF := Lib.hid hWF
  clear z0 z1 zg hWF HX2 HX3 HO0 HO1
  go_wp2_with (fail)
  rw [← HF.out]
  have zc := YC.out
  simp only [List.set_cons_zero, List.set_cons_succ] at zc
  obtain ⟨⟨r0, r1⟩, _⟩ := MBox.c zc
  clear a0' a1' b0 b1 f0 f1
  refine bodyPost_ret (v := .agg #[.slice A0 vs.length C0, .slice A1 bs.length C1]) (by simp [results, Tryz.results16, go_sem, r0, r1]) rfl ⟨A0, A1, C0, C1, rfl, ⟨Y0.out, Y1.out⟩, YB.out⟩
set_option maxRecDepth 100000 in
theorem c_eqMemory (m : Mem) (a1 a2 b1 b2 : Option Addr) (c1 c2 d1 d2 : Nat) (w : World) (hs : MeOk m) (h : MeR w a1 a2 m) (h' : MeR w b1 b2 m) :
    Calls Tryz.prog 18 #[mv m a1 a2 c1 c2, mv m b1 b2 d1 d2] w fun e w' => e = .returned (.bool true) ∧ Below w.heap.size w w' := by
  obtain ⟨vs, bs⟩ := m
  have H := Lib.hid h
  have H' := Lib.hid h'
  have lv := hs.v
  have lb := hs.b
  dsimp only at lv lb
  clear hs h h'
  dsimp only [mv]
  have B0 := Lib.hid (below_alloc (below_alloc (Below.refl w.heap.size w) (.cells #[.slice a1 vs.length c1, .slice a2 bs.length c2] 46)) (.cells #[.slice b1 vs.length d1, .slice b2 bs.length d2] 46))
  have k0 : ((w.alloc (.cells #[.slice a1 vs.length c1, .slice a2 bs.length c2] 46)).alloc (.cells #[.slice b1 vs.length d1, .slice b2 bs.length d2] 46)).cell? ⟨w.heap.size, 0, none⟩ = some (.slice a1 vs.length c1) := by go_simp
  have l0 : ((w.alloc (.cells #[.slice a1 vs.length c1, .slice a2 bs.length c2] 46)).alloc (.cells #[.slice b1 vs.length d1, .slice b2 bs.length d2] 46)).cell? ⟨w.heap.size + 1, 0, none⟩ = some (.slice b1 vs.length d1) := by go_simp
  have k1 : ((w.alloc (.cells #[.slice a1 vs.length c1, .slice a2 bs.length c2] 46)).alloc (.cells #[.slice b1 vs.length d1, .slice b2 bs.length d2] 46)).cell? ⟨w.heap.size, 1, none⟩ = some (.slice a2 bs.length c2) := by go_simp
  have l1 : ((w.alloc (.cells #[.slice a1 vs.length c1, .slice a2 bs.length c2] 46)).alloc (.cells #[.slice b1 vs.length d1, .slice b2 bs.length d2] 46)).cell? ⟨w.heap.size + 1, 1, none⟩ = some (.slice b2 bs.length d2) := by go_simp
  go_enter Tryz.func18, Tryz.ntmps18
  go_upto_region 1 with (fail)
  generalize (w.alloc (.cells #[.slice a1 vs.length c1, .slice a2 bs.length c2] 46)).alloc (.cells #[.slice b1 vs.length d1, .slice b2 bs.length d2] 46) = W0 at *
  go_wp2_with (fail)
  refine (c_eqInt64S a1 b1 c1 d1 _ _ vs _ rfl rfl (by omega) (H.out.v.below B0.out) (H'.out.v.below B0.out)).mono ?_
  rintro e w0 ⟨rfl, hb⟩
  have B1 := Lib.hid (below_chain B0.out hb)
  replace k0 := cell_later hb k0
  replace l0 := cell_later hb l0
  replace k1 := cell_later hb k1
  replace l1 := cell_later hb l1
  clear hb
  go_wp2_with (fail)
  refine (c_eqBlockStateS a2 b2 c2 d2 _ _ bs _ rfl rfl (by omega) (H.out.b.below B1.out) (H'.out.b.below B1.out)).mono ?_
  rintro e w1 ⟨rfl, hb⟩
  have B2 := Lib.hid (below_chain B1.out hb)
  replace k0 := cell_later hb k0
  replace l0 := cell_later hb l0
  replace k1 := cell_later hb k1
  replace l1 := cell_later hb l1
  clear hb
  go_wp2_with (fail)
  go_ret
  exact ⟨rfl, B2.out⟩
end Go.Proofs.YtmjhihjjehagfaaGreatDoor
