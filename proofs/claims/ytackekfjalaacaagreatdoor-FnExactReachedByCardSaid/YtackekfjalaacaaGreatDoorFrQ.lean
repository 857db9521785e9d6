/- What a call leaves as it was: every block but those of given kinds. No condition. -/
import Derived.Test.YtackekfjalaacaaGreatDoorPGb
import Derived.Maps.Own
namespace Go.Proofs.YtackekfjalaacaaGreatDoor
open Go.RowKit

structure Fr (P : Nat → Obj → Prop) (w w' : World) : Prop where
  os : w'.os = w.os
  tape : w'.tape = w.tape
  output : w'.output = w.output
  size : w.heap.size ≤ w'.heap.size
  blk : ∀ (k : Nat) (o : Obj), w.heap[k]? = some o → w'.heap[k]? = some o ∨ P k o
section
variable {P Q : Nat → Obj → Prop} {w a b : World}
theorem heap_at {k : Nat} {o : Obj} (h : w.heap[k]? = some o) : k < w.heap.size := (Array.getElem?_eq_some_iff.1 h).1
theorem Fr.refl (P : Nat → Obj → Prop) (w : World) : Fr P w w := ⟨rfl, rfl, rfl, Nat.le_refl _, fun _ _ h => .inl h⟩
theorem Fr.trans (h : Fr P w a) (h2 : Fr P a b) : Fr P w b :=
  ⟨h2.os.trans h.os, h2.tape.trans h.tape, h2.output.trans h.output, Nat.le_trans h.size h2.size, fun k o hk => (h.blk k o hk).elim (fun h3 => h2.blk k o h3) .inr⟩
theorem Fr.mono (h : Fr P w a) (hi : ∀ k o, P k o → Q k o) : Fr Q w a := ⟨h.os, h.tape, h.output, h.size, fun k o hk => (h.blk k o hk).imp id (hi k o)⟩
theorem Fr.of_below (hb : Below w.heap.size w a) : Fr P w a := ⟨hb.os, hb.tape, hb.output, hb.size, fun k _ hk => .inl ((hb.block k (heap_at hk)).trans hk)⟩
theorem Fr.of_grown {row : Option Nat} (hg : w.grownBy a row) (hr : ∀ q o, row = some q → w.heap[q]? = some o → P q o) : Fr P w a :=
  ⟨hg.os, hg.tape, hg.output, hg.size, fun k o hk => by
    by_cases e : some k = row
    · exact .inr (hr k o e.symm hk)
    · exact .inl ((hg.block k (heap_at hk) e).trans hk)⟩
theorem Fr.own {base : Nat} {e : TypeId} {size n : Nat} {v : Value} {xs : List Value} (h : Fr P w a) (ho : w.ownsRow base e size v n xs) (hp : ∀ g cur fz, base ≤ g → v.ownBlock = some g → ¬ P g (.cells cur e fz)) : a.ownsRow base e size v n xs := by
  refine ⟨ho.1, ho.2.imp id ?_⟩
  rintro ⟨g, cap, cur, rfl, h1, h2, h3⟩
  exact ⟨g, cap, cur, rfl, h1, (h.blk g _ h2).elim id (fun h4 => absurd h4 (hp g cur _ h1 rfl)), h3⟩
theorem Fr.below {lo : Nat} (h : Fr P w a) (hp : ∀ k o, P k o → lo ≤ k) (hl : lo ≤ w.heap.size) : Below lo w a :=
  ⟨h.os, h.tape, h.output, h.size, fun k hk => by
    obtain ⟨o, ho⟩ : ∃ o, w.heap[k]? = some o := ⟨_, Array.getElem?_eq_getElem (by omega)⟩
    rcases h.blk k o ho with h1 | h1
    · rw [h1, ho]
    · have := hp k o h1; omega⟩
theorem Fr.cell {q : Addr} {v : Value} (h : Fr P w a) (hc : w.cell? q = some v) (hp : ∀ o, w.heap[q.block]? = some o → ¬ P q.block o) : a.cell? q = some v := by
  have hlt := World.block_lt_of_cell? w q hc
  obtain ⟨o, ho⟩ : ∃ o, w.heap[q.block]? = some o := ⟨_, Array.getElem?_eq_getElem hlt⟩
  have h1 := (h.blk _ o ho).elim id (fun h4 => absurd h4 (hp o ho))
  rw [← hc]
  unfold World.cell?
  rw [h1, ho]
end
/-- Own rows of one kind. -/
theorem own_kind {w : World} {base : Nat} {e : TypeId} {size n : Nat} {v : Value} {xs : List Value} (ho : w.ownsRow base e size v n xs) {q : Nat} {o : Obj} (hq : v.ownBlock = some q) (h : w.heap[q]? = some o) : base ≤ q ∧ ∃ cur, o = .cells cur e (0, 0) := by
  rcases ho.2 with ⟨rfl, _⟩ | ⟨g, cap, cur, rfl, h1, h2, _⟩
  · simp [Value.ownBlock] at hq
  · simp [Value.ownBlock] at hq
    subst hq
    rw [h2] at h
    simp only [Option.some.injEq] at h
    exact ⟨h1, cur, h.symm⟩
end Go.Proofs.YtackekfjalaacaaGreatDoor
