/- The program's compiler: emit, load. Condition: the lengths. -/
import Derived.Test.YtackekfjalaacaaGreatDoorFrQ
import Derived.Test.YtackekfjalaacaaGreatDoorQCp
namespace Go.Proofs.YtackekfjalaacaaGreatDoor
open Go.RowKit

/-- The compiler in its box, its steps in a row of the call's own (blocks from base on), the program's blocks. -/
def XBox (w : World) (base b : Nat) (x : List Value) : Prop := w.ownsRow base 118 12 (.slice (some ⟨b, 0, none⟩) 1 1) 1 x
def xCells (p : Prg) (a1 a2 a3 a4 ab : Option Addr) (c1 c2 c3 c4 cb : Nat) (A : Option Addr) (n c : Nat) (nb : Int) : List Value :=
  [.string p.nm, .slice a1 p.ins.length c1, .slice a2 p.vs.length c2, .slice a3 p.os.length c3, .string p.gd, .slice a4 p.ls.length c4, .int .i64 p.ins.length, .int .i64 p.vs.length, .int .i64 p.os.length, .slice ab (blk p).length cb, .slice A n c, .int .i64 nb]
/-- Blocks that a compiler's methods touch. -/
def PI (base : Nat) (k : Nat) (o : Obj) : Prop := base ≤ k ∧ ∃ cur fz, o = .cells cur 118 fz ∨ o = .cells cur 107 fz
structure XS (w0 w : World) (b : Nat) (p : Prg) (a1 a2 a3 a4 ab : Option Addr) (c1 c2 c3 c4 cb : Nat) (A : Option Addr) (c : Nat) (S : List Ins) (nb : Nat) : Prop where
  box : XBox w w0.heap.size b (xCells p a1 a2 a3 a4 ab c1 c2 c3 c4 cb A S.length c nb)
  row : w.ownsRow w0.heap.size 107 2 (.slice A S.length c) S.length (insCells S)
  blk : w.ownsRow w0.heap.size 109 3 (.slice ab (blk p).length cb) (blk p).length (tmCells (blk p))
  bel : Below w0.heap.size w0 w
theorem XS.below {w0 w w' : World} {b : Nat} {p : Prg} {a1 a2 a3 a4 ab : Option Addr} {c1 c2 c3 c4 cb : Nat} {A : Option Addr} {c : Nat} {S : List Ins} {nb : Nat} (h : XS w0 w b p a1 a2 a3 a4 ab c1 c2 c3 c4 cb A c S nb) (hb : Below w.heap.size w w') : XS w0 w' b p a1 a2 a3 a4 ab c1 c2 c3 c4 cb A c S nb :=
  ⟨own_below h.box hb, own_below h.row hb, own_below h.blk hb, below_chain h.bel hb⟩
/-- What the methods read of the compiler. -/
theorem XS.cells {w0 w : World} {b : Nat} {p : Prg} {a1 a2 a3 a4 ab : Option Addr} {c1 c2 c3 c4 cb : Nat} {A : Option Addr} {c : Nat} {S : List Ins} {nb : Nat} (h : XS w0 w b p a1 a2 a3 a4 ab c1 c2 c3 c4 cb A c S nb) :
    (w.cell? ⟨b, 1, none⟩ = some (.slice a1 p.ins.length c1) ∧ w.cell? ⟨b, 2, none⟩ = some (.slice a2 p.vs.length c2) ∧ w.cell? ⟨b, 3, none⟩ = some (.slice a3 p.os.length c3)) ∧
    (w.cell? ⟨b, 6, none⟩ = some (.int .i64 p.ins.length) ∧ w.cell? ⟨b, 7, none⟩ = some (.int .i64 p.vs.length) ∧ w.cell? ⟨b, 8, none⟩ = some (.int .i64 p.os.length) ∧ w.cell? ⟨b, 9, none⟩ = some (.slice ab (Go.Proofs.YtackekfjalaacaaGreatDoor.blk p).length cb) ∧ w.cell? ⟨b, 10, none⟩ = some (.slice A S.length c)) ∧
    w.cell? ⟨b, 11, none⟩ = some (.int .i64 nb) ∧ (w.frozen? ⟨b, 10, none⟩ = false ∧ w.frozen? ⟨b, 11, none⟩ = false) ∧ w0.heap.size ≤ b ∧ b < w.heap.size :=
  ⟨⟨World.ownsRow.cellAt h.box 1 (by decide), World.ownsRow.cellAt h.box 2 (by decide), World.ownsRow.cellAt h.box 3 (by decide)⟩,
   ⟨World.ownsRow.cellAt h.box 6 (by decide), World.ownsRow.cellAt h.box 7 (by decide), World.ownsRow.cellAt h.box 8 (by decide), World.ownsRow.cellAt h.box 9 (by decide), World.ownsRow.cellAt h.box 10 (by decide)⟩,
   World.ownsRow.cellAt h.box 11 (by decide), ⟨World.ownsRow.frozenAt h.box 10, World.ownsRow.frozenAt h.box 11⟩, own_ge h.box⟩
theorem fr_box {w : World} {base b : Nat} {x : List Value} (h : XBox w base b x) {j : Nat} (v : Value) : Fr (PI base) w (w.setCell ⟨b, j, none⟩ v) :=
  Fr.of_grown (World.ownsRow.stored h j v).2 (fun q o hq ho => by
    obtain ⟨h1, cur, h2⟩ := own_kind h hq ho
    exact ⟨h1, cur, _, .inl h2⟩)
theorem fr_row {w w' : World} {base n : Nat} {v : Value} {x : List Value} (h : w.ownsRow base 107 2 v n x) (hg : w.grownBy w' v.ownBlock) : Fr (PI base) w w' :=
  Fr.of_grown hg (fun q o hq ho => by
    obtain ⟨h1, cur, h2⟩ := own_kind h hq ho
    exact ⟨h1, cur, _, .inr h2⟩)
/-- The steps grow: the new row, then the box's cell. -/
theorem XS.push {w0 w w' : World} {b : Nat} {p : Prg} {a1 a2 a3 a4 ab : Option Addr} {c1 c2 c3 c4 cb : Nat} {A A' : Option Addr} {c c' : Nat} {S S' : List Ins} {nb : Nat} {n : Nat} (h : XS w0 w b p a1 a2 a3 a4 ab c1 c2 c3 c4 cb A c S nb)
    (hg : w.grownBy w' (Value.slice A S.length c).ownBlock) (ho : w'.ownsRow w0.heap.size 107 2 (.slice A' n c') n (insCells S')) (hn : n = S'.length) :
    XS w0 (w'.setCell ⟨b, 10, none⟩ (.slice A' n c')) b p a1 a2 a3 a4 ab c1 c2 c3 c4 cb A' c' S' nb ∧ Fr (PI w0.heap.size) w (w'.setCell ⟨b, 10, none⟩ (.slice A' n c')) := by
  subst hn
  have hb' : XBox w' w0.heap.size b _ := h.box.kept hg (.inr (fun e => own_ne h.box h.row (by decide) b rfl e.symm))
  have hst := World.ownsRow.stored hb' 10 (.slice A' S'.length c')
  have hblk : w'.ownsRow w0.heap.size 109 3 _ _ _ := h.blk.kept hg (by
    rcases hv : (Value.slice ab (Go.Proofs.YtackekfjalaacaaGreatDoor.blk p).length cb).ownBlock with _ | q
    · exact .inl rfl
    · exact .inr (fun e => own_ne h.blk h.row (by decide) q hv e.symm))
  have hF := (fr_row h.row hg).trans (fr_box hb' (j := 10) (.slice A' S'.length c'))
  refine ⟨⟨hst.1, ho.kept hst.2 ?_, hblk.kept hst.2 ?_, ?_⟩, hF⟩
  · rcases hv : (Value.slice A' S'.length c').ownBlock with _ | q
    · exact .inl rfl
    · exact .inr (fun e => own_ne ho hb' (by decide) q hv e.symm)
  · rcases hv : (Value.slice ab (Go.Proofs.YtackekfjalaacaaGreatDoor.blk p).length cb).ownBlock with _ | q
    · exact .inl rfl
    · exact .inr (fun e => own_ne hblk hb' (by decide) q hv e.symm)
  · exact h.bel.trans (hF.below (fun k o hp => hp.1) h.bel.size)
/-- The block counter is set. -/
theorem XS.count {w0 w : World} {b : Nat} {p : Prg} {a1 a2 a3 a4 ab : Option Addr} {c1 c2 c3 c4 cb : Nat} {A : Option Addr} {c : Nat} {S : List Ins} {nb : Nat} (h : XS w0 w b p a1 a2 a3 a4 ab c1 c2 c3 c4 cb A c S nb) (nb' : Nat) :
    XS w0 (w.setCell ⟨b, 11, none⟩ (.int .i64 nb')) b p a1 a2 a3 a4 ab c1 c2 c3 c4 cb A c S nb' ∧ Fr (PI w0.heap.size) w (w.setCell ⟨b, 11, none⟩ (.int .i64 nb')) := by
  have hst := World.ownsRow.stored h.box 11 (.int .i64 nb')
  have hF := fr_box h.box (j := 11) (.int .i64 nb')
  refine ⟨⟨hst.1, h.row.kept hst.2 ?_, h.blk.kept hst.2 ?_, ?_⟩, hF⟩
  · rcases hv : (Value.slice A S.length c).ownBlock with _ | q
    · exact .inl rfl
    · exact .inr (fun e => own_ne h.row h.box (by decide) q hv e.symm)
  · rcases hv : (Value.slice ab (Go.Proofs.YtackekfjalaacaaGreatDoor.blk p).length cb).ownBlock with _ | q
    · exact .inl rfl
    · exact .inr (fun e => own_ne h.blk h.box (by decide) q hv e.symm)
  · exact h.bel.trans (hF.below (fun k o hp => hp.1) h.bel.size)
/-- What a method of the compiler does: steps are added, the counter grows. -/
def RetX (w0 : World) (b : Nat) (p : Prg) (a1 a2 a3 a4 ab : Option Addr) (c1 c2 c3 c4 cb : Nat) (S : List Ins) (nb : Nat) (w : World) (e : Ending) (w' : World) : Prop :=
  e = .returned (.tuple #[]) ∧ (∃ A c, XS w0 w' b p a1 a2 a3 a4 ab c1 c2 c3 c4 cb A c S nb) ∧ Fr (PI w0.heap.size) w w'
set_option maxHeartbeats 1000000 in
set_option maxRecDepth 100000 in
theorem c_emit (w0 : World) (b : Nat) (p : Prg) (a1 a2 a3 a4 ab : Option Addr) (c1 c2 c3 c4 cb : Nat) (A : Option Addr) (c : Nat) (S : List Ins) (nb : Nat) (o a : Int) (w : World) (hS : S.length ≤ 3000) (h : XS w0 w b p a1 a2 a3 a4 ab c1 c2 c3 c4 cb A c S nb) :
    Calls Tryz.prog 116 #[.pointer (some ⟨b, 0, none⟩), .int .i64 o, .int .i64 a] w (RetX w0 b p a1 a2 a3 a4 ab c1 c2 c3 c4 cb (S ++ [⟨o, a⟩]) nb w) := by
  have HA := Lib.hid (h.below (below_alloc (Below.refl w.heap.size w) (.cells #[.int .i64 o, .int .i64 a] 107)))
  have HF := Lib.hid (show Fr (PI w0.heap.size) w (w.alloc (.cells #[.int .i64 o, .int .i64 a] 107)) from Fr.of_below (below_alloc (Below.refl w.heap.size w) _))
  obtain ⟨_, ⟨_, _, _, _, k10⟩, _, _, hb1, hb2⟩ := h.cells
  have HZ := Lib.hid (Nat.le_trans hb1 (Nat.le_of_lt hb2))
  clear h
  go_enter Tryz.func116, Tryz.ntmps116
  go_wp2_with (first
    | (at_builtin
       refine wpList_push_ins _ rfl (.tmp 11) (.tmp 15) rfl w0.heap.size _ S.length S ⟨o, a⟩ w.heap.size 1 rfl HA.out.row rfl (by go_simp) (by go_simp) (by omega) HA.out.bel.size ?_
       intro v7 w7 hown hgrow
       obtain ⟨A9, c9, rfl⟩ := own_shape hown
       have HP := Lib.hid (HA.out.push hgrow hown (by simp))
       have f10 := (World.ownsRow.frozenAt (HA.out.box.kept hgrow (.inr (fun e => own_ne HA.out.box HA.out.row (by decide) b rfl e.symm))) 10)
       have e10 := (World.ownsRow.cellAt (HA.out.box.kept hgrow (.inr (fun e => own_ne HA.out.box HA.out.row (by decide) b rfl e.symm))) 10 (by decide))
       clear hown hgrow k10)
    )
  go_end0
  exact ⟨rfl, ⟨_, _, HP.out.1⟩, HF.out.trans HP.out.2⟩
end Go.Proofs.YtackekfjalaacaaGreatDoor
