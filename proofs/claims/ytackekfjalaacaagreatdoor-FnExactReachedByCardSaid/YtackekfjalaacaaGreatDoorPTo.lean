/- Contracts of the laws' own copy of a program, and of the comparison (printed by PTo.py). Condition: the lists' sizes. -/
import Derived.Test.YtackekfjalaacaaGreatDoorPSz
namespace Go.Proofs.YtackekfjalaacaaGreatDoor
open Go.RowKit

theorem own_box (w : World) (base : Nat) (t : TypeId) (xs : List Value) (s : Nat) (h : xs.length = s) (hb : base ≤ w.heap.size) : (w.alloc (.cells xs.toArray t)).ownsRow base t s (.slice (some ⟨w.heap.size, 0, none⟩) 1 1) 1 xs := by
  subst h
  have h := World.ownsRow_lit (e := t) (size := xs.length) (base := base) w xs.toArray 1 hb (by decide) (by simp)
  simpa using h
theorem own_ne {w : World} {b1 b2 : Nat} {e1 e2 : TypeId} {s1 s2 n1 n2 : Nat} {v1 v2 : Value} {x1 x2 : List Value} (h1 : w.ownsRow b1 e1 s1 v1 n1 x1) (h2 : w.ownsRow b2 e2 s2 v2 n2 x2) (he : e1 ≠ e2) : ∀ q, v1.ownBlock = some q → v2.ownBlock = some q → False := by
  intro q hq1 hq2
  rcases h1.2 with ⟨rfl, _⟩ | ⟨g1, c1, cur1, rfl, _, hg1, _⟩
  · simp [Value.ownBlock] at hq1
  · rcases h2.2 with ⟨rfl, _⟩ | ⟨g2, c2, cur2, rfl, _, hg2, _⟩
    · simp [Value.ownBlock] at hq2
    · simp [Value.ownBlock] at hq1 hq2
      subst hq1
      subst hq2
      rw [hg1] at hg2
      simp only [Option.some.injEq, Obj.cells.injEq] at hg2
      exact he hg2.2.1
/-- A row written: a row of another kind of element stays. -/
theorem own_keep {w w' : World} {b1 b2 : Nat} {e1 e2 : TypeId} {s1 s2 n1 n2 : Nat} {v1 v2 : Value} {x1 x2 : List Value} (h1 : w.ownsRow b1 e1 s1 v1 n1 x1) (h2 : w.ownsRow b2 e2 s2 v2 n2 x2) (he : e1 ≠ e2) (hg : w.grownBy w' v2.ownBlock) : w'.ownsRow b1 e1 s1 v1 n1 x1 := by
  refine h1.kept hg ?_
  rcases hv : v1.ownBlock with _ | q
  · exact .inl rfl
  · exact .inr fun h' => own_ne h1 h2 he q hv h'.symm
/-- A box of a program. -/
def PBox (w : World) (base b : Nat) (x : List Value) : Prop := w.ownsRow base 31 6 (.slice (some ⟨b, 0, none⟩) 1 1) 1 x
theorem PBox.put {w : World} {base b : Nat} {x : List Value} (h : PBox w base b x) (j : Nat) (v : Value) : PBox (w.setCell ⟨b, j, none⟩ v) base b (x.set j v) ∧ w.grownBy (w.setCell ⟨b, j, none⟩ v) (some b) := World.ownsRow.stored h j v
theorem PBox.keep {w w' : World} {base b q : Nat} {x : List Value} (h : PBox w base b x) (hg : w.grownBy w' (some q)) (hne : q ≠ b) : PBox w' base b x :=
  World.ownsRow.kept h hg (.inr (fun e => hne (by simpa [Value.ownBlock] using e.symm)))
theorem PBox.c {w : World} {base b : Nat} {x0 x1 x2 x3 x4 x5 : Value} (h : PBox w base b [x0, x1, x2, x3, x4, x5]) : (w.cell? ⟨b, 0, none⟩ = some x0 ∧ w.cell? ⟨b, 1, none⟩ = some x1 ∧ w.cell? ⟨b, 2, none⟩ = some x2 ∧ w.cell? ⟨b, 3, none⟩ = some x3 ∧ w.cell? ⟨b, 4, none⟩ = some x4 ∧ w.cell? ⟨b, 5, none⟩ = some x5) ∧
    (w.frozen? ⟨b, 0, none⟩ = false ∧ w.frozen? ⟨b, 1, none⟩ = false ∧ w.frozen? ⟨b, 2, none⟩ = false ∧ w.frozen? ⟨b, 3, none⟩ = false ∧ w.frozen? ⟨b, 4, none⟩ = false ∧ w.frozen? ⟨b, 5, none⟩ = false) ∧ b < w.heap.size :=
  ⟨⟨World.ownsRow.cellAt h 0 (by decide), World.ownsRow.cellAt h 1 (by decide), World.ownsRow.cellAt h 2 (by decide), World.ownsRow.cellAt h 3 (by decide), World.ownsRow.cellAt h 4 (by decide), World.ownsRow.cellAt h 5 (by decide)⟩, ⟨World.ownsRow.frozenAt h 0, World.ownsRow.frozenAt h 1, World.ownsRow.frozenAt h 2, World.ownsRow.frozenAt h 3, World.ownsRow.frozenAt h 4, World.ownsRow.frozenAt h 5⟩, (own_ge h).2⟩
/-- The rows of a program, all the call's own. -/
structure POwn (w : World) (base : Nat) (a1 a2 a3 a4 : Option Addr) (c1 c2 c3 c4 : Nat) (p : Prg) (ds : List LiD) : Prop where
  i : w.ownsRow base 9 1 (.slice a1 p.ins.length c1) p.ins.length (sts p.ins)
  v : w.ownsRow base 9 1 (.slice a2 p.vs.length c2) p.vs.length (sts p.vs)
  o : w.ownsRow base 9 1 (.slice a3 p.os.length c3) p.os.length (sts p.os)
  l : w.ownsRow base 93 2 (.slice a4 p.ls.length c4) p.ls.length (lidCells ds)
  e : ds.map LiD.l = p.ls
  d : ∀ d ∈ ds, NestT w base d
theorem POwn.below {w w' : World} {base : Nat} {a1 a2 a3 a4 : Option Addr} {c1 c2 c3 c4 : Nat} {p : Prg} {ds : List LiD} (h : POwn w base a1 a2 a3 a4 c1 c2 c3 c4 p ds) (hb : Below w.heap.size w w') : POwn w' base a1 a2 a3 a4 c1 c2 c3 c4 p ds :=
  ⟨own_below h.i hb, own_below h.v hb, own_below h.o hb, own_below h.l hb, h.e, fun d hd => (h.d d hd).below hb⟩
theorem POwn.pg {w : World} {base : Nat} {a1 a2 a3 a4 : Option Addr} {c1 c2 c3 c4 : Nat} {p : Prg} {ds : List LiD} (h : POwn w base a1 a2 a3 a4 c1 c2 c3 c4 p ds) : PgR w a1 a2 a3 a4 p :=
  ⟨Rd.own h.i, Rd.own h.v, Rd.own h.o, ⟨ds, h.e, Rd.own h.l, fun d hd => Rd.own (h.d d hd)⟩⟩
def RetPg (p : Prg) (w : World) (e : Ending) (w' : World) : Prop :=
  ∃ a1 a2 a3 a4 c1 c2 c3 c4 ds, e = .returned (pv p a1 a2 a3 a4 c1 c2 c3 c4) ∧ POwn w' w.heap.size a1 a2 a3 a4 c1 c2 c3 c4 p ds ∧ Below w.heap.size w w'
set_option maxHeartbeats 2000000 in
set_option maxRecDepth 100000 in
theorem c_toProgram (p : Prg) (a1 a2 a3 a4 : Option Addr) (c1 c2 c3 c4 : Nat) (w : World) (hs : PgOk p) (h : PgR w a1 a2 a3 a4 p) : Calls Tryz.prog 8 #[pv p a1 a2 a3 a4 c1 c2 c3 c4] w (RetPg p w) := by
  obtain ⟨nm, ins, vs, os, gd, ls⟩ := p
  have HS := Lib.hid hs
  have H := Lib.hid h
  clear hs h
  dsimp only [pv]
  have B0 := Lib.hid (below_alloc (below_alloc (below_alloc (Below.refl w.heap.size w) (.cells #[.string nm, .slice a1 ins.length c1, .slice a2 vs.length c2, .slice a3 os.length c3, .string gd, .slice a4 ls.length c4] 25)) (.cells #[.string ⟨#[]⟩, .slice none 0 0, .slice none 0 0, .slice none 0 0, .string ⟨#[]⟩, .slice none 0 0] 31)) (.cells #[.string nm, .slice none 0 0, .slice none 0 0, .slice none 0 0, .string ⟨#[]⟩, .slice none 0 0] 31))
  have HX2 : Hid (PBox (((w.alloc (.cells #[.string nm, .slice a1 ins.length c1, .slice a2 vs.length c2, .slice a3 os.length c3, .string gd, .slice a4 ls.length c4] 25)).alloc (.cells #[.string ⟨#[]⟩, .slice none 0 0, .slice none 0 0, .slice none 0 0, .string ⟨#[]⟩, .slice none 0 0] 31)).alloc (.cells #[.string nm, .slice none 0 0, .slice none 0 0, .slice none 0 0, .string ⟨#[]⟩, .slice none 0 0] 31)) w.heap.size (w.heap.size + 1) [.string ⟨#[]⟩, .slice none 0 0, .slice none 0 0, .slice none 0 0, .string ⟨#[]⟩, .slice none 0 0]) := Lib.hid (by
    have h := own_box (w.alloc (.cells #[.string nm, .slice a1 ins.length c1, .slice a2 vs.length c2, .slice a3 os.length c3, .string gd, .slice a4 ls.length c4] 25)) w.heap.size 31 [.string ⟨#[]⟩, .slice none 0 0, .slice none 0 0, .slice none 0 0, .string ⟨#[]⟩, .slice none 0 0] 6 rfl (by simp)
    have h2 := own_below h (below_alloc (Below.refl _ _) (.cells #[.string nm, .slice none 0 0, .slice none 0 0, .slice none 0 0, .string ⟨#[]⟩, .slice none 0 0] 31))
    simpa [PBox] using h2)
  have HX3 : Hid (PBox (((w.alloc (.cells #[.string nm, .slice a1 ins.length c1, .slice a2 vs.length c2, .slice a3 os.length c3, .string gd, .slice a4 ls.length c4] 25)).alloc (.cells #[.string ⟨#[]⟩, .slice none 0 0, .slice none 0 0, .slice none 0 0, .string ⟨#[]⟩, .slice none 0 0] 31)).alloc (.cells #[.string nm, .slice none 0 0, .slice none 0 0, .slice none 0 0, .string ⟨#[]⟩, .slice none 0 0] 31)) w.heap.size (w.heap.size + 1 + 1) [.string nm, .slice none 0 0, .slice none 0 0, .slice none 0 0, .string ⟨#[]⟩, .slice none 0 0]) := Lib.hid (by
    have h := own_box ((w.alloc (.cells #[.string nm, .slice a1 ins.length c1, .slice a2 vs.length c2, .slice a3 os.length c3, .string gd, .slice a4 ls.length c4] 25)).alloc (.cells #[.string ⟨#[]⟩, .slice none 0 0, .slice none 0 0, .slice none 0 0, .string ⟨#[]⟩, .slice none 0 0] 31)) w.heap.size 31 [.string nm, .slice none 0 0, .slice none 0 0, .slice none 0 0, .string ⟨#[]⟩, .slice none 0 0] 6 rfl (by simp; omega)
    simpa [PBox] using h)
  have k1 : (((w.alloc (.cells #[.string nm, .slice a1 ins.length c1, .slice a2 vs.length c2, .slice a3 os.length c3, .string gd, .slice a4 ls.length c4] 25)).alloc (.cells #[.string ⟨#[]⟩, .slice none 0 0, .slice none 0 0, .slice none 0 0, .string ⟨#[]⟩, .slice none 0 0] 31)).alloc (.cells #[.string nm, .slice none 0 0, .slice none 0 0, .slice none 0 0, .string ⟨#[]⟩, .slice none 0 0] 31)).cell? ⟨w.heap.size, 1, none⟩ = some (.slice a1 ins.length c1) := by go_simp
  have k2 : (((w.alloc (.cells #[.string nm, .slice a1 ins.length c1, .slice a2 vs.length c2, .slice a3 os.length c3, .string gd, .slice a4 ls.length c4] 25)).alloc (.cells #[.string ⟨#[]⟩, .slice none 0 0, .slice none 0 0, .slice none 0 0, .string ⟨#[]⟩, .slice none 0 0] 31)).alloc (.cells #[.string nm, .slice none 0 0, .slice none 0 0, .slice none 0 0, .string ⟨#[]⟩, .slice none 0 0] 31)).cell? ⟨w.heap.size, 2, none⟩ = some (.slice a2 vs.length c2) := by go_simp
  have k3 : (((w.alloc (.cells #[.string nm, .slice a1 ins.length c1, .slice a2 vs.length c2, .slice a3 os.length c3, .string gd, .slice a4 ls.length c4] 25)).alloc (.cells #[.string ⟨#[]⟩, .slice none 0 0, .slice none 0 0, .slice none 0 0, .string ⟨#[]⟩, .slice none 0 0] 31)).alloc (.cells #[.string nm, .slice none 0 0, .slice none 0 0, .slice none 0 0, .string ⟨#[]⟩, .slice none 0 0] 31)).cell? ⟨w.heap.size, 3, none⟩ = some (.slice a3 os.length c3) := by go_simp
  have k4 : (((w.alloc (.cells #[.string nm, .slice a1 ins.length c1, .slice a2 vs.length c2, .slice a3 os.length c3, .string gd, .slice a4 ls.length c4] 25)).alloc (.cells #[.string ⟨#[]⟩, .slice none 0 0, .slice none 0 0, .slice none 0 0, .string ⟨#[]⟩, .slice none 0 0] 31)).alloc (.cells #[.string nm, .slice none 0 0, .slice none 0 0, .slice none 0 0, .string ⟨#[]⟩, .slice none 0 0] 31)).cell? ⟨w.heap.size, 4, none⟩ = some (.string gd) := by go_simp
  have k5 : (((w.alloc (.cells #[.string nm, .slice a1 ins.length c1, .slice a2 vs.length c2, .slice a3 os.length c3, .string gd, .slice a4 ls.length c4] 25)).alloc (.cells #[.string ⟨#[]⟩, .slice none 0 0, .slice none 0 0, .slice none 0 0, .string ⟨#[]⟩, .slice none 0 0] 31)).alloc (.cells #[.string nm, .slice none 0 0, .slice none 0 0, .slice none 0 0, .string ⟨#[]⟩, .slice none 0 0] 31)).cell? ⟨w.heap.size, 5, none⟩ = some (.slice a4 ls.length c4) := by go_simp
  go_enter Tryz.func8, Tryz.ntmps8
  go_upto_region 3 with (fail)
  generalize ((w.alloc (.cells #[.string nm, .slice a1 ins.length c1, .slice a2 vs.length c2, .slice a3 os.length c3, .string gd, .slice a4 ls.length c4] 25)).alloc (.cells #[.string ⟨#[]⟩, .slice none 0 0, .slice none 0 0, .slice none 0 0, .string ⟨#[]⟩, .slice none 0 0] 31)).alloc (.cells #[.string nm, .slice none 0 0, .slice none 0 0, .slice none 0 0, .string ⟨#[]⟩, .slice none 0 0] 31) = W0 at *
  go_wp2_with (fail)
  refine (c_toStringS a1 c1 _ ins _ rfl HS.out.i.1 (H.out.i.below B0.out)).mono ?_
  rintro e w1 ⟨A1, C1, rfl, ho, hb⟩
  have HY2 := Lib.hid (own_below HX2.out hb)
  have HY3 := Lib.hid (own_below HX3.out hb)
  have HO1 := Lib.hid (own_mono ho (base' := w.heap.size) B0.out.size)
  have BB1 := Lib.hid (below_chain B0.out hb)
  replace k1 := cell_later hb k1
  replace k2 := cell_later hb k2
  replace k3 := cell_later hb k3
  replace k4 := cell_later hb k4
  replace k5 := cell_later hb k5
  clear hb ho HX2 HX3 
  have hp := PBox.put HY3.out 1 (.slice A1 ins.length C1)
  have HX3 : Hid (PBox (w1.setCell ⟨w.heap.size + 1 + 1, 1, none⟩ (.slice A1 ins.length C1)) w.heap.size (w.heap.size + 1 + 1) [.string nm, .slice A1 ins.length C1, .slice none 0 0, .slice none 0 0, .string ⟨#[]⟩, .slice none 0 0]) := Lib.hid hp.1
  have HX2 := Lib.hid (PBox.keep HY2.out hp.2 (by omega))
  have HP1 := Lib.hid (own_keep HO1.out HY3.out (by decide) hp.2)
  have B1 := Lib.hid (below_of_grown BB1.out hp.2 (fun k hk => by simp at hk; omega))
  obtain ⟨⟨x0, x1, x2, x3, x4, x5⟩, ⟨f0, f1, f2, f3, f4, f5⟩, hlt⟩ := PBox.c HY3.out
  have k2' := hp.2.cell k2 (fun e => by simp at e; omega)
  have k3' := hp.2.cell k3 (fun e => by simp at e; omega)
  have k4' := hp.2.cell k4 (fun e => by simp at e; omega)
  have k5' := hp.2.cell k5 (fun e => by simp at e; omega)
  clear hp HY2 HY3 BB1 HO1
  go_upto_region 4 with (fail)
  generalize w1.setCell ⟨w.heap.size + 1 + 1, 1, none⟩ (.slice A1 ins.length C1) = W1 at *
  clear x0 x1 x2 x3 x4 x5 f0 f1 f2 f3 f4 f5 hlt k1 k2 k3 k4 k5
  have k2 := k2'
  clear k2'
  have k3 := k3'
  clear k3'
  have k4 := k4'
  clear k4'
  have k5 := k5'
  clear k5'
  have HO1 := HP1
  clear HP1
  go_wp2_with (fail)
  refine (c_toStringS a2 c2 _ vs _ rfl HS.out.v.1 (H.out.v.below B1.out)).mono ?_
  rintro e w2 ⟨A2, C2, rfl, ho, hb⟩
  have HY2 := Lib.hid (own_below HX2.out hb)
  have HY3 := Lib.hid (own_below HX3.out hb)
  have HO2 := Lib.hid (own_mono ho (base' := w.heap.size) B1.out.size)
  have HQ1 := Lib.hid (own_below HO1.out hb)
  have BB2 := Lib.hid (below_chain B1.out hb)
  replace k2 := cell_later hb k2
  replace k3 := cell_later hb k3
  replace k4 := cell_later hb k4
  replace k5 := cell_later hb k5
  clear hb ho HX2 HX3 HO1
  have hp := PBox.put HY3.out 2 (.slice A2 vs.length C2)
  have HX3 : Hid (PBox (w2.setCell ⟨w.heap.size + 1 + 1, 2, none⟩ (.slice A2 vs.length C2)) w.heap.size (w.heap.size + 1 + 1) [.string nm, .slice A1 ins.length C1, .slice A2 vs.length C2, .slice none 0 0, .string ⟨#[]⟩, .slice none 0 0]) := Lib.hid hp.1
  have HX2 := Lib.hid (PBox.keep HY2.out hp.2 (by omega))
  have HP1 := Lib.hid (own_keep HQ1.out HY3.out (by decide) hp.2)
  have HP2 := Lib.hid (own_keep HO2.out HY3.out (by decide) hp.2)
  have B2 := Lib.hid (below_of_grown BB2.out hp.2 (fun k hk => by simp at hk; omega))
  obtain ⟨⟨x0, x1, x2, x3, x4, x5⟩, ⟨f0, f1, f2, f3, f4, f5⟩, hlt⟩ := PBox.c HY3.out
  have k3' := hp.2.cell k3 (fun e => by simp at e; omega)
  have k4' := hp.2.cell k4 (fun e => by simp at e; omega)
  have k5' := hp.2.cell k5 (fun e => by simp at e; omega)
  clear hp HY2 HY3 BB2 HQ1 HO2
  go_upto_region 5 with (fail)
  generalize w2.setCell ⟨w.heap.size + 1 + 1, 2, none⟩ (.slice A2 vs.length C2) = W2 at *
  clear x0 x1 x2 x3 x4 x5 f0 f1 f2 f3 f4 f5 hlt k2 k3 k4 k5
  have k3 := k3'
  clear k3'
  have k4 := k4'
  clear k4'
  have k5 := k5'
  clear k5'
  have HO1 := HP1
  clear HP1
  have HO2 := HP2
  clear HP2
  go_wp2_with (fail)
  refine (c_toStringS a3 c3 _ os _ rfl HS.out.o.1 (H.out.o.below B2.out)).mono ?_
  rintro e w3 ⟨A3, C3, rfl, ho, hb⟩
  have HY2 := Lib.hid (own_below HX2.out hb)
  have HY3 := Lib.hid (own_below HX3.out hb)
  have HO3 := Lib.hid (own_mono ho (base' := w.heap.size) B2.out.size)
  have HQ1 := Lib.hid (own_below HO1.out hb)
  have HQ2 := Lib.hid (own_below HO2.out hb)
  have BB3 := Lib.hid (below_chain B2.out hb)
  replace k3 := cell_later hb k3
  replace k4 := cell_later hb k4
  replace k5 := cell_later hb k5
  clear hb ho HX2 HX3 HO1 HO2
  have hp := PBox.put HY3.out 3 (.slice A3 os.length C3)
  have HX3 : Hid (PBox (w3.setCell ⟨w.heap.size + 1 + 1, 3, none⟩ (.slice A3 os.length C3)) w.heap.size (w.heap.size + 1 + 1) [.string nm, .slice A1 ins.length C1, .slice A2 vs.length C2, .slice A3 os.length C3, .string ⟨#[]⟩, .slice none 0 0]) := Lib.hid hp.1
  have HX2 := Lib.hid (PBox.keep HY2.out hp.2 (by omega))
  have HP1 := Lib.hid (own_keep HQ1.out HY3.out (by decide) hp.2)
  have HP2 := Lib.hid (own_keep HQ2.out HY3.out (by decide) hp.2)
  have HP3 := Lib.hid (own_keep HO3.out HY3.out (by decide) hp.2)
  have B3 := Lib.hid (below_of_grown BB3.out hp.2 (fun k hk => by simp at hk; omega))
  obtain ⟨⟨x0, x1, x2, x3, x4, x5⟩, ⟨f0, f1, f2, f3, f4, f5⟩, hlt⟩ := PBox.c HY3.out
  have k4' := hp.2.cell k4 (fun e => by simp at e; omega)
  have k5' := hp.2.cell k5 (fun e => by simp at e; omega)
  clear hp HY2 HY3 BB3 HQ1 HQ2 HO3
  go_upto_region 6 with (fail)
  generalize w3.setCell ⟨w.heap.size + 1 + 1, 3, none⟩ (.slice A3 os.length C3) = W3 at *
  clear x0 x1 x2 x3 x4 x5 f0 f1 f2 f3 f4 f5 hlt k3 k4 k5
  have k4 := k4'
  clear k4'
  have k5 := k5'
  clear k5'
  have HO1 := HP1
  clear HP1
  have HO2 := HP2
  clear HP2
  have HO3 := HP3
  clear HP3
  have HY2 := HX2
  have HY3 := HX3
  have BB4 := B3
  have HQ1 := HO1
  have HQ2 := HO2
  have HQ3 := HO3
  clear HX2 HX3 HO1 HO2 HO3
  have hp := PBox.put HY3.out 4 (.string gd)
  have HX3 : Hid (PBox (W3.setCell ⟨w.heap.size + 1 + 1, 4, none⟩ (.string gd)) w.heap.size (w.heap.size + 1 + 1) [.string nm, .slice A1 ins.length C1, .slice A2 vs.length C2, .slice A3 os.length C3, .string gd, .slice none 0 0]) := Lib.hid hp.1
  have HX2 := Lib.hid (PBox.keep HY2.out hp.2 (by omega))
  have HP1 := Lib.hid (own_keep HQ1.out HY3.out (by decide) hp.2)
  have HP2 := Lib.hid (own_keep HQ2.out HY3.out (by decide) hp.2)
  have HP3 := Lib.hid (own_keep HQ3.out HY3.out (by decide) hp.2)
  have B4 := Lib.hid (below_of_grown BB4.out hp.2 (fun k hk => by simp at hk; omega))
  obtain ⟨⟨x0, x1, x2, x3, x4, x5⟩, ⟨f0, f1, f2, f3, f4, f5⟩, hlt⟩ := PBox.c HY3.out
  have k5' := hp.2.cell k5 (fun e => by simp at e; omega)
  clear hp HY2 HY3 BB4 HQ1 HQ2 HQ3
  go_upto_region 7 with (fail)
  generalize W3.setCell ⟨w.heap.size + 1 + 1, 4, none⟩ (.string gd) = W4 at *
  clear x0 x1 x2 x3 x4 x5 f0 f1 f2 f3 f4 f5 hlt k4 k5
  have k5 := k5'
  clear k5'
  have HO1 := HP1
  clear HP1
  have HO2 := HP2
  clear HP2
  have HO3 := HP3
  clear HP3
  go_wp2_with (fail)
  refine (c_toLineS a4 c4 _ ls _ rfl HS.out.l (H.out.l.below B4.out)).mono ?_
  rintro e w5 ⟨A5, C5, ds, rfl, hds, ho, hnest, hb⟩
  have HY2 := Lib.hid (own_below HX2.out hb)
  have HY3 := Lib.hid (own_below HX3.out hb)
  have HO5 := Lib.hid (own_mono ho (base' := w.heap.size) B4.out.size)
  have HNE := Lib.hid (fun d hd => (hnest d hd).mono B4.out.size)
  have HDS := Lib.hid hds
  have HQ1 := Lib.hid (own_below HO1.out hb)
  have HQ2 := Lib.hid (own_below HO2.out hb)
  have HQ3 := Lib.hid (own_below HO3.out hb)
  have BB5 := Lib.hid (below_chain B4.out hb)
  replace k5 := cell_later hb k5
  clear hb ho HX2 HX3 HO1 HO2 HO3 hnest hds
  have hp := PBox.put HY3.out 5 (.slice A5 ls.length C5)
  have HX3 : Hid (PBox (w5.setCell ⟨w.heap.size + 1 + 1, 5, none⟩ (.slice A5 ls.length C5)) w.heap.size (w.heap.size + 1 + 1) [.string nm, .slice A1 ins.length C1, .slice A2 vs.length C2, .slice A3 os.length C3, .string gd, .slice A5 ls.length C5]) := Lib.hid hp.1
  have HX2 := Lib.hid (PBox.keep HY2.out hp.2 (by omega))
  have HP1 := Lib.hid (own_keep HQ1.out HY3.out (by decide) hp.2)
  have HP2 := Lib.hid (own_keep HQ2.out HY3.out (by decide) hp.2)
  have HP3 := Lib.hid (own_keep HQ3.out HY3.out (by decide) hp.2)
  have HP5 := Lib.hid (own_keep HO5.out HY3.out (by decide) hp.2)
  have HPN := Lib.hid (fun d hd => own_keep (HNE.out d hd) HY3.out (by decide) hp.2)
  have B5 := Lib.hid (below_of_grown BB5.out hp.2 (fun k hk => by simp at hk; omega))
  obtain ⟨⟨x0, x1, x2, x3, x4, x5⟩, ⟨f0, f1, f2, f3, f4, f5⟩, hlt⟩ := PBox.c HY3.out
  clear hp HY2 HY3 BB5 HQ1 HQ2 HQ3 HO5 HNE
  go_upto_region 8 with (fail)
  generalize w5.setCell ⟨w.heap.size + 1 + 1, 5, none⟩ (.slice A5 ls.length C5) = W5 at *
  clear x0 x1 x2 x3 x4 x5 f0 f1 f2 f3 f4 f5 hlt k5
  have HO1 := HP1
  clear HP1
  have HO2 := HP2
  clear HP2
  have HO3 := HP3
  clear HP3
  have HO5 := HP5
  clear HP5
  obtain ⟨⟨a0', a1', a2', a3', a4', a5'⟩, _, hlt⟩ := PBox.c HX3.out
  obtain ⟨⟨b0, b1, b2, b3, b4, b5⟩, ⟨f0, f1, f2, f3, f4, f5⟩, hlt2⟩ := PBox.c HX2.out
  have z0 := PBox.put HX2.out 0 (.string nm)
  have z1 := PBox.put z0.1 1 (.slice A1 ins.length C1)
  have z2 := PBox.put z1.1 2 (.slice A2 vs.length C2)
  have z3 := PBox.put z2.1 3 (.slice A3 os.length C3)
  have z4 := PBox.put z3.1 4 (.string gd)
  have z5 := PBox.put z4.1 5 (.slice A5 ls.length C5)
  have zg := (grown_trans (grown_trans (grown_trans (grown_trans (grown_trans z0.2 z1.2) z2.2) z3.2) z4.2) z5.2)
  have Y1 := Lib.hid (own_keep HO1.out HX2.out (by decide) zg)
  have Y2 := Lib.hid (own_keep HO2.out HX2.out (by decide) zg)
  have Y3 := Lib.hid (own_keep HO3.out HX2.out (by decide) zg)
  have Y5 := Lib.hid (own_keep HO5.out HX2.out (by decide) zg)
  have YN := Lib.hid (fun d hd => own_keep (HPN.out d hd) HX2.out (by decide) zg)
  have YB := Lib.hid (below_of_grown B5.out zg (fun k hk => by simp at hk; omega))
  have YC := Lib.hid z5.1
  obtain ⟨WF, hWF⟩ : ∃ WF, WF = (((((W5.setCell ⟨w.heap.size + 1, 0, none⟩ (.string nm)).setCell ⟨w.heap.size + 1, 1, none⟩ (.slice A1 ins.length C1)).setCell ⟨w.heap.size + 1, 2, none⟩ (.slice A2 vs.length C2)).setCell ⟨w.heap.size + 1, 3, none⟩ (.slice A3 os.length C3)).setCell ⟨w.heap.size + 1, 4, none⟩ (.string gd)).setCell ⟨w.heap.size + 1, 5, none⟩ (.slice A5 ls.length C5) := ⟨_, rfl⟩
  rw [← hWF] at Y1 Y2 Y3 Y5 YN YB YC
  have HF := Lib.hid hWF
  clear z0 z1 z2 z3 z4 z5 zg hWF HX2 HX3 HO1 HO2 HO3 HO5 HPN
  go_wp2_with (fail)
  rw [← HF.out]
  have zc := YC.out
  simp only [List.set_cons_zero, List.set_cons_succ] at zc
  obtain ⟨⟨r0, r1, r2, r3, r4, r5⟩, _⟩ := PBox.c zc
  clear a0' a1' a2' a3' a4' a5' b0 b1 b2 b3 b4 b5 f0 f1 f2 f3 f4 f5
  refine bodyPost_ret (v := .agg #[.string nm, .slice A1 ins.length C1, .slice A2 vs.length C2, .slice A3 os.length C3, .string gd, .slice A5 ls.length C5]) (by simp [results, Tryz.results8, go_sem, r0, r1, r2, r3, r4, r5]) rfl ⟨A1, A2, A3, A5, C1, C2, C3, C5, ds, rfl, ⟨Y1.out, Y2.out, Y3.out, Y5.out, HDS.out, YN.out⟩, YB.out⟩
set_option maxHeartbeats 1000000 in
set_option maxRecDepth 100000 in
theorem c_eqProgram (p : Prg) (a1 a2 a3 a4 b1 b2 b3 b4 : Option Addr) (c1 c2 c3 c4 d1 d2 d3 d4 : Nat) (w : World) (hs : PgOk p) (h : PgR w a1 a2 a3 a4 p) (h' : PgR w b1 b2 b3 b4 p) :
    Calls Tryz.prog 11 #[pv p a1 a2 a3 a4 c1 c2 c3 c4, pv p b1 b2 b3 b4 d1 d2 d3 d4] w fun e w' => e = .returned (.bool true) ∧ Below w.heap.size w w' := by
  obtain ⟨nm, ins, vs, os, gd, ls⟩ := p
  have HS := Lib.hid hs
  have H := Lib.hid h
  have H' := Lib.hid h'
  have hnn : (nm.toList != nm.toList) = false := by simp
  have hgg : (gd.toList != gd.toList) = false := by simp
  have li := hs.i.1
  have lv := hs.v.1
  have lo := hs.o.1
  have ll := hs.l.1
  dsimp only at li lv lo ll
  clear hs h h'
  dsimp only [pv]
  have B0 := Lib.hid (below_alloc (below_alloc (Below.refl w.heap.size w) (.cells #[.string nm, .slice a1 ins.length c1, .slice a2 vs.length c2, .slice a3 os.length c3, .string gd, .slice a4 ls.length c4] 31)) (.cells #[.string nm, .slice b1 ins.length d1, .slice b2 vs.length d2, .slice b3 os.length d3, .string gd, .slice b4 ls.length d4] 31))
  have k1 : ((w.alloc (.cells #[.string nm, .slice a1 ins.length c1, .slice a2 vs.length c2, .slice a3 os.length c3, .string gd, .slice a4 ls.length c4] 31)).alloc (.cells #[.string nm, .slice b1 ins.length d1, .slice b2 vs.length d2, .slice b3 os.length d3, .string gd, .slice b4 ls.length d4] 31)).cell? ⟨w.heap.size, 1, none⟩ = some (.slice a1 ins.length c1) := by go_simp
  have l1 : ((w.alloc (.cells #[.string nm, .slice a1 ins.length c1, .slice a2 vs.length c2, .slice a3 os.length c3, .string gd, .slice a4 ls.length c4] 31)).alloc (.cells #[.string nm, .slice b1 ins.length d1, .slice b2 vs.length d2, .slice b3 os.length d3, .string gd, .slice b4 ls.length d4] 31)).cell? ⟨w.heap.size + 1, 1, none⟩ = some (.slice b1 ins.length d1) := by go_simp
  have k2 : ((w.alloc (.cells #[.string nm, .slice a1 ins.length c1, .slice a2 vs.length c2, .slice a3 os.length c3, .string gd, .slice a4 ls.length c4] 31)).alloc (.cells #[.string nm, .slice b1 ins.length d1, .slice b2 vs.length d2, .slice b3 os.length d3, .string gd, .slice b4 ls.length d4] 31)).cell? ⟨w.heap.size, 2, none⟩ = some (.slice a2 vs.length c2) := by go_simp
  have l2 : ((w.alloc (.cells #[.string nm, .slice a1 ins.length c1, .slice a2 vs.length c2, .slice a3 os.length c3, .string gd, .slice a4 ls.length c4] 31)).alloc (.cells #[.string nm, .slice b1 ins.length d1, .slice b2 vs.length d2, .slice b3 os.length d3, .string gd, .slice b4 ls.length d4] 31)).cell? ⟨w.heap.size + 1, 2, none⟩ = some (.slice b2 vs.length d2) := by go_simp
  have k3 : ((w.alloc (.cells #[.string nm, .slice a1 ins.length c1, .slice a2 vs.length c2, .slice a3 os.length c3, .string gd, .slice a4 ls.length c4] 31)).alloc (.cells #[.string nm, .slice b1 ins.length d1, .slice b2 vs.length d2, .slice b3 os.length d3, .string gd, .slice b4 ls.length d4] 31)).cell? ⟨w.heap.size, 3, none⟩ = some (.slice a3 os.length c3) := by go_simp
  have l3 : ((w.alloc (.cells #[.string nm, .slice a1 ins.length c1, .slice a2 vs.length c2, .slice a3 os.length c3, .string gd, .slice a4 ls.length c4] 31)).alloc (.cells #[.string nm, .slice b1 ins.length d1, .slice b2 vs.length d2, .slice b3 os.length d3, .string gd, .slice b4 ls.length d4] 31)).cell? ⟨w.heap.size + 1, 3, none⟩ = some (.slice b3 os.length d3) := by go_simp
  have k4 : ((w.alloc (.cells #[.string nm, .slice a1 ins.length c1, .slice a2 vs.length c2, .slice a3 os.length c3, .string gd, .slice a4 ls.length c4] 31)).alloc (.cells #[.string nm, .slice b1 ins.length d1, .slice b2 vs.length d2, .slice b3 os.length d3, .string gd, .slice b4 ls.length d4] 31)).cell? ⟨w.heap.size, 4, none⟩ = some (.string gd) := by go_simp
  have l4 : ((w.alloc (.cells #[.string nm, .slice a1 ins.length c1, .slice a2 vs.length c2, .slice a3 os.length c3, .string gd, .slice a4 ls.length c4] 31)).alloc (.cells #[.string nm, .slice b1 ins.length d1, .slice b2 vs.length d2, .slice b3 os.length d3, .string gd, .slice b4 ls.length d4] 31)).cell? ⟨w.heap.size + 1, 4, none⟩ = some (.string gd) := by go_simp
  have k5 : ((w.alloc (.cells #[.string nm, .slice a1 ins.length c1, .slice a2 vs.length c2, .slice a3 os.length c3, .string gd, .slice a4 ls.length c4] 31)).alloc (.cells #[.string nm, .slice b1 ins.length d1, .slice b2 vs.length d2, .slice b3 os.length d3, .string gd, .slice b4 ls.length d4] 31)).cell? ⟨w.heap.size, 5, none⟩ = some (.slice a4 ls.length c4) := by go_simp
  have l5 : ((w.alloc (.cells #[.string nm, .slice a1 ins.length c1, .slice a2 vs.length c2, .slice a3 os.length c3, .string gd, .slice a4 ls.length c4] 31)).alloc (.cells #[.string nm, .slice b1 ins.length d1, .slice b2 vs.length d2, .slice b3 os.length d3, .string gd, .slice b4 ls.length d4] 31)).cell? ⟨w.heap.size + 1, 5, none⟩ = some (.slice b4 ls.length d4) := by go_simp
  go_enter Tryz.func11, Tryz.ntmps11
  go_upto_region 3 with (fail)
  generalize (w.alloc (.cells #[.string nm, .slice a1 ins.length c1, .slice a2 vs.length c2, .slice a3 os.length c3, .string gd, .slice a4 ls.length c4] 31)).alloc (.cells #[.string nm, .slice b1 ins.length d1, .slice b2 vs.length d2, .slice b3 os.length d3, .string gd, .slice b4 ls.length d4] 31) = W0 at *
  go_wp2_with (fail)
  refine (c_eqStringS a1 b1 c1 d1 _ _ ins _ rfl rfl (by omega) (H.out.i.below B0.out) (H'.out.i.below B0.out)).mono ?_
  rintro e w0 ⟨rfl, hb⟩
  have B1 := Lib.hid (below_chain B0.out hb)
  replace k1 := cell_later hb k1
  replace l1 := cell_later hb l1
  replace k2 := cell_later hb k2
  replace l2 := cell_later hb l2
  replace k3 := cell_later hb k3
  replace l3 := cell_later hb l3
  replace k4 := cell_later hb k4
  replace l4 := cell_later hb l4
  replace k5 := cell_later hb k5
  replace l5 := cell_later hb l5
  clear hb
  go_wp2_with (fail)
  refine (c_eqStringS a2 b2 c2 d2 _ _ vs _ rfl rfl (by omega) (H.out.v.below B1.out) (H'.out.v.below B1.out)).mono ?_
  rintro e w1 ⟨rfl, hb⟩
  have B2 := Lib.hid (below_chain B1.out hb)
  replace k1 := cell_later hb k1
  replace l1 := cell_later hb l1
  replace k2 := cell_later hb k2
  replace l2 := cell_later hb l2
  replace k3 := cell_later hb k3
  replace l3 := cell_later hb l3
  replace k4 := cell_later hb k4
  replace l4 := cell_later hb l4
  replace k5 := cell_later hb k5
  replace l5 := cell_later hb l5
  clear hb
  go_wp2_with (fail)
  refine (c_eqStringS a3 b3 c3 d3 _ _ os _ rfl rfl (by omega) (H.out.o.below B2.out) (H'.out.o.below B2.out)).mono ?_
  rintro e w2 ⟨rfl, hb⟩
  have B3 := Lib.hid (below_chain B2.out hb)
  replace k1 := cell_later hb k1
  replace l1 := cell_later hb l1
  replace k2 := cell_later hb k2
  replace l2 := cell_later hb l2
  replace k3 := cell_later hb k3
  replace l3 := cell_later hb l3
  replace k4 := cell_later hb k4
  replace l4 := cell_later hb l4
  replace k5 := cell_later hb k5
  replace l5 := cell_later hb l5
  clear hb
  go_wp2_with (fail)
  refine (c_eqLineS a4 b4 c4 d4 _ _ ls _ rfl rfl HS.out.l (H.out.l.below B3.out) (H'.out.l.below B3.out)).mono ?_
  rintro e w3 ⟨rfl, hb⟩
  have B4 := Lib.hid (below_chain B3.out hb)
  replace k1 := cell_later hb k1
  replace l1 := cell_later hb l1
  replace k2 := cell_later hb k2
  replace l2 := cell_later hb l2
  replace k3 := cell_later hb k3
  replace l3 := cell_later hb l3
  replace k4 := cell_later hb k4
  replace l4 := cell_later hb l4
  replace k5 := cell_later hb k5
  replace l5 := cell_later hb l5
  clear hb
  go_wp2_with (fail)
  go_ret
  exact ⟨rfl, B4.out⟩
end Go.Proofs.YtackekfjalaacaaGreatDoor
