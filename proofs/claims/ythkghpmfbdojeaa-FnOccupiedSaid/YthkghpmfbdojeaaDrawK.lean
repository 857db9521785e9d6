/- What l04Draw carries: a layout, a list of blocks, the box of the result. -/
import Derived.Test.YthkghpmfbdojeaaDrawQ
import Derived.Test.YthkghpmfbdojeaaDefL
namespace Go.Proofs.Ythkghpmfbdojeaa
open Go.RowKit

structure DQ (B br bl : Nat) (w W : World) (A : Option Addr) (c : Nat) (L : List Seg) (v : Value) (fs : List Int) : Prop where
  row : W.ownsRow (br + 1) 61 7 (.slice A L.length c) L.length (segCells L)
  fr : W.ownsRow (br + 1) 2 1 v fs.length (ints fs)
  res : ∃ u, W.ownsRow br 26 1 (.slice (some ⟨br, 0, none⟩) 1 1) 1 [u]
  lb : W.ownsRow (br + 1) 26 1 (.slice (some ⟨bl, 0, none⟩) 1 1) 1 [.slice A L.length c]
  src : Src W B
  g : w.grownBy W (some B)
  h1 : B < br
  h2 : w.heap.size ≤ br
  h3 : L.length ≤ 100
  h4 : fs.length ≤ 20
section
variable {B br bl : Nat} {w W W' : World} {A : Option Addr} {c : Nat} {L : List Seg} {v : Value} {fs : List Int}
theorem DQ.step (h : DQ B br bl w W A c L v fs) (hs : Src W' B) (hg : W.grownBy W' (some B)) : DQ B br bl w W' A c L v fs := by
  have h1 := h.h1
  obtain ⟨u, hr⟩ := h.res
  exact ⟨own_at h.row hg (by omega), own_at h.fr hg (by omega), ⟨u, own_at hr hg h1⟩, own_at h.lb hg (by omega), hs, grown_trans h.g hg, h1, h.h2, h.h3, h.h4⟩
theorem DQ.below (h : DQ B br bl w W A c L v fs) (hb : Below W.heap.size W W') : DQ B br bl w W' A c L v fs := h.step (h.src.below hb) (grown_of_below hb _)
theorem DQ.alloc (h : DQ B br bl w W A c L v fs) (o : Obj) : DQ B br bl w (W.alloc o) A c L v fs := h.below (below_alloc (Below.refl _ _) o)
theorem DQ.drew (h : DQ B br bl w W A c L v fs) : DQ B br bl w W.drew A c L v fs := h.below (Below.refl _ _).drew
theorem grown_row {w a b : World} {B : Nat} {row : Option Nat} (h : w.grownBy a (some B)) (hg : a.grownBy b row) (hr : ∀ q, row = some q → w.heap.size ≤ q) : w.grownBy b (some B) :=
  ⟨hg.os.trans h.os, hg.tape.trans h.tape, hg.output.trans h.output, Nat.le_trans h.size hg.size, fun k hk hne => (hg.block k (Nat.lt_of_lt_of_le hk h.size) (fun e => by have := hr k e.symm; omega)).trans (h.block k hk hne)⟩
theorem DQ.sz (h : DQ B br bl w W A c L v fs) : br + 1 ≤ W.heap.size := by
  obtain ⟨u, hr⟩ := h.res
  exact (own_ge hr).2
/-- A new list of blocks. -/
theorem DQ.newfr (h : DQ B br bl w W A c L v fs) {v' : Value} {fs' : List Int} (hb : Below W.heap.size W W') (ho : W'.ownsRow W.heap.size 2 1 v' fs'.length (ints fs')) (h4 : fs'.length ≤ 20) : DQ B br bl w W' A c L v' fs' := by
  have h' := h.below hb
  exact ⟨h'.row, own_mono ho h.sz, h'.res, h'.lb, h'.src, h'.g, h'.h1, h'.h2, h'.h3, h4⟩
/-- The list of blocks is written. -/
theorem DQ.push (h : DQ B br bl w W A c L v fs) {v' : Value} {fs' : List Int} (hg : W.grownBy W' v.ownBlock) (ho : W'.ownsRow (br + 1) 2 1 v' fs'.length (ints fs')) (h4 : fs'.length ≤ 20) : DQ B br bl w W' A c L v' fs' := by
  have h1 := h.h1
  have h2 := h.h2
  obtain ⟨u, hr⟩ := h.res
  have hrow : ∀ q, v.ownBlock = some q → br + 1 ≤ q := fun q hq => (h.fr.lt q hq).1
  refine ⟨h.row.kept hg ?_, ho, ⟨u, hr.kept hg ?_⟩, h.lb.kept hg ?_, h.src.far hg (fun q hq => by have := hrow q hq; omega), grown_row h.g hg (fun q hq => by have := hrow q hq; omega), h1, h2, h.h3, h4⟩
  · rcases hv : v.ownBlock with _ | q
    · rcases ho2 : (Value.slice A L.length c).ownBlock with _ | q2
      · exact .inl rfl
      · exact .inr (by simp)
    · exact .inr (fun e => own_ne h.row h.fr (by decide) q e hv)
  · refine .inr (fun e => ?_)
    have e2 : some br = v.ownBlock := e
    have := hrow br e2.symm
    omega
  · rcases hv : v.ownBlock with _ | q
    · exact .inr (by simp [Value.ownBlock])
    · exact .inr (fun e => own_ne h.lb h.fr (by decide) q e hv)
/-- A segment is written. -/
theorem DQ.setRow {gA : Nat} (h : DQ B br bl w W (some ⟨gA, 0, none⟩) c L v fs) {k : Nat} (hk : k < L.length) (s : Seg) : DQ B br bl w (set7o W gA (k * 7) s) (some ⟨gA, 0, none⟩) c (L.set k s) v fs := by
  have h1 := h.h1
  have h2 := h.h2
  obtain ⟨u, hr⟩ := h.res
  obtain ⟨ho, hg⟩ := own_setSeg s hk h.row
  have hgA := (own_ge h.row).1
  have hlen : (L.set k s).length = L.length := by simp
  refine ⟨by rw [hlen]; exact ho, h.fr.kept hg (.inr (fun e => own_ne h.row h.fr (by decide) gA rfl e)), ⟨u, hr.kept hg (.inr (by simp [Value.ownBlock]; omega))⟩, ?_, h.src.far hg (by intro q hq; simp at hq; omega), grown_row h.g hg (by intro q hq; simp at hq; omega), h1, h2, by rw [hlen]; exact h.h3, h.h4⟩
  rw [hlen]
  exact h.lb.kept hg (.inr (fun e => own_ne h.row h.lb (by decide) gA rfl e))
/-- The list of blocks is cut. -/
theorem DQ.cutfr {gv cv : Nat} (h : DQ B br bl w W A c L (.slice (some ⟨gv, 0, none⟩) fs.length cv) fs) {m : Nat} (hm : m ≤ fs.length) : DQ B br bl w W A c L (.slice (some ⟨gv, 0, none⟩) m cv) (fs.take m) := by
  have hl : (fs.take m).length = m := by simp; omega
  refine ⟨h.row, ?_, h.res, h.lb, h.src, h.g, h.h1, h.h2, h.h3, by have := h.h4; omega⟩
  have := own_prefix h.fr hm
  rw [hl]
  simpa [ints, List.map_take] using this
theorem DQ.form (h : DQ B br bl w W A c L v fs) : ∃ A' c', v = .slice A' fs.length c' ∧ fs.length ≤ c' ∧ c' ≤ maxLen := by
  rcases h.fr.2 with ⟨h1, h2⟩ | ⟨g, cap, cur, h1, _, _, h5, h6, _⟩
  · exact ⟨none, 0, by rw [h1, h2], by omega, by simp [maxLen]⟩
  · exact ⟨_, _, h1, h5, h6⟩
def SomeLB (B : Nat) (w : World) (e : Ending) (w' : World) : Prop := ∃ A c l A' c' fs, e = .returned (.tuple #[.agg #[.slice A l.length c], .slice A' fs.length c']) ∧ l.length ≤ 100 ∧ fs.length ≤ 20 ∧ w'.ownsRow w.heap.size 61 7 (.slice A l.length c) l.length (segCells l) ∧ w'.ownsRow w.heap.size 2 1 (.slice A' fs.length c') fs.length (ints fs) ∧ Src w' B ∧ w.grownBy w' (some B)
theorem DQ.fin {A' : Option Addr} {c' : Nat} (h : DQ B br bl w W A c L (.slice A' fs.length c') fs) : (W.setCell ⟨br, 0, none⟩ (.slice A L.length c)).cell? ⟨br, 0, none⟩ = some (.slice A L.length c) ∧ SomeLB B w (.returned (.tuple #[.agg #[.slice A L.length c], .slice A' fs.length c'])) (W.setCell ⟨br, 0, none⟩ (.slice A L.length c)) := by
  have h1 := h.h1
  have h2 := h.h2
  obtain ⟨u, hr⟩ := h.res
  have hst := hr.stored 0 (.slice A L.length c)
  have hc := hst.1.cellAt 0 (by decide)
  refine ⟨by simpa using hc, A, c, L, A', c', fs, rfl, h.h3, h.h4, own_mono (h.row.kept hst.2 ?_) (by omega), own_mono (h.fr.kept hst.2 ?_) (by omega), h.src.far hst.2 (by intro q hq; simp at hq; omega), grown_set h.g _ h2⟩
  · refine .inr (fun e => ?_)
    have := (h.row.lt br e).1
    omega
  · refine .inr (fun e => ?_)
    have := (h.fr.lt br e).1
    omega
end
end Go.Proofs.Ythkghpmfbdojeaa
