/- What marks do to memory: the relation Mk (blocks outside lo .. hi stay; every row keeps its shape), and its laws. No condition. -/
import Derived.Test.YteengjcplmjakaaGreatDoorPush
namespace Go.Proofs.YteengjcplmjakaaGreatDoor
open Go.RowKit

/-- The blocks outside lo .. hi stay as they were, and every row keeps its shape. -/
structure Mk (lo hi : Nat) (w w' : World) : Prop where
  os : w'.os = w.os
  tape : w'.tape = w.tape
  output : w'.output = w.output
  size : w.heap.size ≤ w'.heap.size
  block : ∀ k, k < w.heap.size → (k < lo ∨ hi ≤ k) → w'.heap[k]? = w.heap[k]?
  shape : ∀ (k : Nat) (cur : Array Value) (e : TypeId) (fz : Nat × Nat), w.heap[k]? = some (Obj.cells cur e fz) → ∃ cur' : Array Value, w'.heap[k]? = some (Obj.cells cur' e fz) ∧ cur'.size = cur.size
theorem Mk.refl (lo hi : Nat) (w : World) : Mk lo hi w w := ⟨rfl, rfl, rfl, Nat.le_refl _, fun _ _ _ => rfl, fun _ cur _ _ h => ⟨cur, h, rfl⟩⟩
theorem Mk.trans {lo hi : Nat} {a b c : World} (h1 : Mk lo hi a b) (h2 : Mk lo hi b c) : Mk lo hi a c :=
  ⟨h2.os.trans h1.os, h2.tape.trans h1.tape, h2.output.trans h1.output, Nat.le_trans h1.size h2.size, fun k hk ho => (h2.block k (Nat.lt_of_lt_of_le hk h1.size) ho).trans (h1.block k hk ho), fun k cur e fz h => by
    obtain ⟨c1, e1, s1⟩ := h1.shape k cur e fz h
    obtain ⟨c2, e2, s2⟩ := h2.shape k c1 e fz e1
    exact ⟨c2, e2, s2.trans s1⟩⟩
theorem Mk.wide {lo hi lo' hi' : Nat} {a b : World} (h : Mk lo hi a b) (h1 : lo' ≤ lo) (h2 : hi ≤ hi') : Mk lo' hi' a b :=
  ⟨h.os, h.tape, h.output, h.size, fun k hk ho => h.block k hk (by omega), h.shape⟩
theorem Mk.of_below {lo hi : Nat} {a b : World} (h : Below a.heap.size a b) : Mk lo hi a b :=
  ⟨h.os, h.tape, h.output, h.size, fun k hk _ => h.block k hk, fun k cur e fz hc => ⟨cur, by rw [h.block k (Array.getElem?_eq_some_iff.1 hc).1]; exact hc, rfl⟩⟩
theorem Mk.setCell {lo hi : Nat} {a b : World} (h : Mk lo hi a b) {p : Addr} (v : Value) (h1 : lo ≤ p.block) (h2 : p.block < hi) : Mk lo hi a (b.setCell p v) := by
  refine h.trans ⟨rfl, rfl, rfl, by simp [World.setCell], fun k hk ho => ?_, fun k cur e fz hc => ?_⟩
  · unfold World.setCell
    simp only
    rw [Array.getElem?_modify, if_neg (by omega)]
  · unfold World.setCell
    simp only
    rw [Array.getElem?_modify]
    split
    · rw [hc]
      refine ⟨_, rfl, ?_⟩
      split
      · rfl
      · simp
    · exact ⟨cur, hc, rfl⟩
theorem Mk.belowLo {lo hi : Nat} {a b : World} (h : Mk lo hi a b) : ∀ k, k < lo → k < a.heap.size → b.heap[k]? = a.heap[k]? := fun k h1 h2 => h.block k h2 (.inl h1)
theorem Below.mk {lo hi : Nat} {x a b : World} (hx : Below x.heap.size x a) (h : Mk lo hi a b) (hlo : x.heap.size ≤ lo) : Below x.heap.size x b :=
  ⟨h.os.trans hx.os, h.tape.trans hx.tape, h.output.trans hx.output, Nat.le_trans hx.size h.size, fun k hk => (h.block k (Nat.lt_of_lt_of_le hk hx.size) (.inl (by omega))).trans (hx.block k hk)⟩
theorem Mk.cell {lo hi : Nat} {a b : World} (h : Mk lo hi a b) {p : Addr} {v : Value} (hc : a.cell? p = some v) (ho : p.block < lo ∨ hi ≤ p.block) : b.cell? p = some v :=
  (World.cell?_of_block (h.block p.block (World.block_lt_of_cell? a p hc) ho)).trans hc
theorem Mk.own {lo hi : Nat} {a b : World} (h : Mk lo hi a b) {base : Nat} {e : TypeId} {size n : Nat} {v : Value} {xs : List Value} (ho : a.ownsRow base e size v n xs) (hb : ∀ q, v.ownBlock = some q → q < lo ∨ hi ≤ q) : b.ownsRow base e size v n xs := by
  refine ⟨ho.1, ?_⟩
  rcases ho.2 with h2 | ⟨g, cap, cur, hv, hg, hgg, r⟩
  · exact .inl h2
  · refine .inr ⟨g, cap, cur, hv, hg, ?_, r⟩
    rw [h.block g (Array.getElem?_eq_some_iff.1 hgg).1 (hb g (by rw [hv]; rfl))]
    exact hgg
theorem Mk.ownHi {lo hi : Nat} {a b : World} (h : Mk lo hi a b) {base : Nat} {e : TypeId} {size n : Nat} {v : Value} {xs : List Value} (ho : a.ownsRow base e size v n xs) (hb : hi ≤ base) : b.ownsRow base e size v n xs :=
  h.own ho fun q hq => .inr (Nat.le_trans hb (ho.lt q hq).1)
/-- A row of the call's own, whatever it holds. -/
def OwnX (w : World) (base : Nat) (e : TypeId) (size : Nat) (v : Value) (n : Nat) : Prop := ∃ xs, w.ownsRow base e size v n xs
theorem OwnX.mk {lo hi : Nat} {a b : World} {base : Nat} {e : TypeId} {size n : Nat} {v : Value} (ho : OwnX a base e size v n) (h : Mk lo hi a b) : OwnX b base e size v n := by
  obtain ⟨xs, h1, h2⟩ := ho
  rcases h2 with ⟨hv, rfl⟩ | ⟨g, cap, cur, hv, hg, hgg, hnc, hcm, hcs, htake⟩
  · exact ⟨[], by simp, .inl ⟨hv, rfl⟩⟩
  · obtain ⟨cur', e', s'⟩ := h.shape _ _ _ _ hgg
    refine ⟨cur'.toList.take (n * size), ?_, .inr ⟨g, cap, cur', hv, hg, e', hnc, hcm, s'.trans hcs, rfl⟩⟩
    rw [List.length_take, Nat.min_eq_left]
    rw [Array.length_toList, s', hcs]
    exact Nat.mul_le_mul_right _ hnc
theorem OwnX.blk {w : World} {base : Nat} {e : TypeId} {size n c : Nat} {A : Option Addr} (h : OwnX w base e size (.slice A n c) n) (hn : 0 < n) : ∃ g, A = some ⟨g, 0, none⟩ ∧ base ≤ g ∧ g < w.heap.size ∧ ∀ j, j < n * size → (∃ u, w.cell? ⟨g, j, none⟩ = some u) ∧ w.frozen? ⟨g, j, none⟩ = false := by
  obtain ⟨xs, ho⟩ := h
  obtain ⟨g, cap, hv, hg⟩ := ho.form hn
  simp only [Value.slice.injEq, true_and] at hv
  obtain ⟨rfl, rfl⟩ := hv
  exact ⟨g, rfl, (ho.lt g rfl).1, (ho.lt g rfl).2, fun j hj => ⟨own_cell ho hj, ho.frozenAt j⟩⟩
end Go.Proofs.YteengjcplmjakaaGreatDoor
