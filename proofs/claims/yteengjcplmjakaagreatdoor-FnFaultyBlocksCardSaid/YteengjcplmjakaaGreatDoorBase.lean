/- Plain helper lemmas on worlds: what lies below a block number stays; readings of slices. No condition. -/
import Derived.Test.YteengjcplmjakaaGreatDoorRows
import Derived.WalkKit
import Derived.WalkSpells
import Derived.WalkLawsBesides
import Derived.Deep.QuietTactic
import Derived.BigQuiet
import Derived.Lib.Hide
import Derived.Deep.Light
import Derived.StillTailTactics
namespace Go.Proofs.YteengjcplmjakaaGreatDoor
open Go.RowKit

theorem cell_later {W w1 : World} {a : Addr} {v : Value} (hb : Below W.heap.size W w1) (h : W.cell? a = some v) : w1.cell? a = some v :=
  (hb.cell (World.block_lt_of_cell? W a h)).trans h
theorem frozen_later {W w1 : World} {a : Addr} (hb : Below W.heap.size W w1) (hlt : a.block < W.heap.size) (h : W.frozen? a = false) : w1.frozen? a = false := (hb.frozen hlt).trans h
theorem frozen_later2 {W w1 : World} {a : Addr} {v : Value} (hb : Below W.heap.size W w1) (hc : W.cell? a = some v) (h : W.frozen? a = false) : w1.frozen? a = false := (hb.frozen (World.block_lt_of_cell? W a hc)).trans h
theorem below_chain {w a b : World} (h1 : Below w.heap.size w a) (h2 : Below a.heap.size a b) : Below w.heap.size w b := h1.trans (h2.mono h1.size)
theorem below_alloc {w a : World} (h1 : Below w.heap.size w a) (o : Obj) : Below w.heap.size w (a.alloc o) := h1.alloc h1.size o
theorem below_drewN {w a : World} (h1 : Below w.heap.size w a) (n : Nat) : Below w.heap.size w (a.drewN n) := ⟨h1.os, h1.tape, h1.output, h1.size, h1.block⟩
theorem below_set {w a : World} (h1 : Below w.heap.size w a) {p : Addr} (v : Value) (hp : w.heap.size ≤ p.block) : Below w.heap.size w (a.setCell p v) := h1.setCell hp v

theorem bcell {W w1 : World} (hb : Below W.heap.size W w1) : (∀ b o, b < W.heap.size → w1.cell? ⟨b, o, none⟩ = W.cell? ⟨b, o, none⟩) ∧ (∀ b o, b < W.heap.size → w1.frozen? ⟨b, o, none⟩ = W.frozen? ⟨b, o, none⟩) :=
  ⟨fun b o h => hb.cell (p := ⟨b, o, none⟩) h, fun b o h => hb.frozen (p := ⟨b, o, none⟩) h⟩
theorem later {W w1 : World} {n : Nat} (hb : Below W.heap.size W w1) (h : n < W.heap.size) : n < w1.heap.size := Nat.lt_of_lt_of_le h hb.size

theorem ret_bool {a b : Bool} (h : a = b) : Ending.returned (.bool a) = .returned (.bool b) := by rw [h]
theorem ret_int {k : IntKind} {a b : Int} (h : a = b) : Ending.returned (.int k a) = .returned (.int k b) := by rw [h]

/-- The slice value `.slice A n c` holds the cells xs (n elements, size cells each): they lie in a block that is there. -/
def Rd (w : World) (A : Option Addr) (xs : List Value) : Prop :=
  xs = [] ∨ ∃ b off, A = some ⟨b, off, none⟩ ∧ b < w.heap.size ∧ ∀ j u, xs[j]? = some u → w.cell? ⟨b, off + j, none⟩ = some u
theorem Rd.nil (w : World) (A : Option Addr) : Rd w A [] := .inl rfl
theorem Rd.below {w w1 : World} {A : Option Addr} {xs : List Value} (h : Rd w A xs) (hb : Below w.heap.size w w1) : Rd w1 A xs := by
  rcases h with h | ⟨b, off, rfl, hlt, hc⟩
  · exact .inl h
  · exact .inr ⟨b, off, rfl, Nat.lt_of_lt_of_le hlt hb.size, fun j u hu => cell_later hb (hc j u hu)⟩
theorem Rd.alloc {w : World} {A : Option Addr} {xs : List Value} (h : Rd w A xs) (o : Obj) : Rd (w.alloc o) A xs := h.below (below_alloc (Below.refl _ _) o)
theorem Rd.drew {w : World} {A : Option Addr} {xs : List Value} (h : Rd w A xs) : Rd w.drew A xs := h
theorem Rd.some_ {w : World} {A : Option Addr} {xs : List Value} (h : Rd w A xs) (hn : xs ≠ []) : ∃ b off, A = some ⟨b, off, none⟩ ∧ b < w.heap.size ∧ ∀ j u, xs[j]? = some u → w.cell? ⟨b, off + j, none⟩ = some u := by
  rcases h with h | h
  · exact absurd h hn
  · exact h
theorem Rd.own {w : World} {base : Nat} {e : TypeId} {size n c : Nat} {A : Option Addr} {xs : List Value} (h : w.ownsRow base e size (.slice A n c) n xs) : Rd w A xs := by
  rcases h.2 with ⟨hv, rfl⟩ | ⟨g, cap, cur, hv, _, hg, _⟩
  · exact .inl (List.eq_nil_of_length_eq_zero (by simpa using h.1))
  · have hA : A = some ⟨g, 0, none⟩ := by injection hv
    subst hA
    refine .inr ⟨g, 0, rfl, (Array.getElem?_eq_some_iff.1 hg).1, fun j u hu => ?_⟩
    have := h.cells (g := g) rfl j u hu
    have hadd : (⟨g, 0, none⟩ : Addr).add j = ⟨g, 0 + j, none⟩ := by unfold Addr.add; split <;> simp_all
    rwa [hadd] at this
theorem grown_of_below {w w1 : World} (hb : Below w.heap.size w w1) (row : Option Nat) : w.grownBy w1 row := ⟨hb.os, hb.tape, hb.output, hb.size, fun k hk _ => hb.block k hk⟩
theorem own_below {w w1 : World} {base : Nat} {e : TypeId} {size n : Nat} {v : Value} {xs : List Value} (h : w.ownsRow base e size v n xs) (hb : Below w.heap.size w w1) : w1.ownsRow base e size v n xs :=
  h.kept (grown_of_below hb none) (by cases hv : v.ownBlock <;> simp)
theorem own_mono {w : World} {base base' : Nat} {e : TypeId} {size n : Nat} {v : Value} {xs : List Value} (h : w.ownsRow base e size v n xs) (hb : base' ≤ base) : w.ownsRow base' e size v n xs := by
  refine ⟨h.1, ?_⟩
  rcases h.2 with h2 | ⟨g, cap, cur, hv, hg, r⟩
  · exact .inl h2
  · exact .inr ⟨g, cap, cur, hv, Nat.le_trans hb hg, r⟩
theorem below_of_grown {w a b : World} {row : Option Nat} (h : Below w.heap.size w a) (hg : a.grownBy b row) (hr : ∀ k, row = some k → w.heap.size ≤ k) : Below w.heap.size w b := h.grown hg h.size hr

theorem own_cell {w : World} {base : Nat} {e : TypeId} {size n g cap : Nat} {xs : List Value} (h : w.ownsRow base e size (.slice (some ⟨g, 0, none⟩) n cap) n xs) {j : Nat} (hj : j < n * size) : ∃ u, w.cell? ⟨g, j, none⟩ = some u := by
  rw [h.cellAt j hj, List.getElem?_eq_getElem (by rw [h.1]; exact hj)]
  exact ⟨_, rfl⟩

/-- The list L up to m, and behind it the list Z. -/
def mix (L Z : List Value) (m : Nat) : List Value := L.take m ++ Z.drop m
theorem mix_zero (L Z : List Value) : mix L Z 0 = Z := by simp [mix]
theorem mix_all {L Z : List Value} {m : Nat} (h : L.length ≤ m) (h2 : Z.length ≤ m) : mix L Z m = L := by simp [mix, List.take_of_length_le h, List.drop_eq_nil_of_le h2]
theorem mix_set {L Z : List Value} {m : Nat} {u : Value} (hl : L.length = Z.length) (hu : L[m]? = some u) : (mix L Z m).set m u = mix L Z (m + 1) := by
  have hm : m < L.length := (List.getElem?_eq_some_iff.1 hu).1
  have hz : Z.drop m = Z[m]'(by omega) :: Z.drop (m + 1) := List.drop_eq_getElem_cons (by omega)
  have ht : L.take (m + 1) = L.take m ++ [u] := by
    rw [List.take_add_one, hu]
    rfl
  have hlt : (L.take m).length = m := by simp; omega
  unfold mix
  rw [ht, List.set_append_right _ _ (by rw [hlt]; exact Nat.le_refl _), hlt, Nat.sub_self, hz]
  simp only [List.set_cons_zero, List.append_assoc, List.singleton_append]
theorem mix_set7 {L Z : List Value} {m : Nat} {u0 u1 u2 u3 u4 u5 u6 : Value} (hl : L.length = Z.length) (h0 : L[m]? = some u0) (h1 : L[m + 1]? = some u1) (h2 : L[m + 2]? = some u2) (h3 : L[m + 3]? = some u3) (h4 : L[m + 4]? = some u4) (h5 : L[m + 5]? = some u5) (h6 : L[m + 6]? = some u6) : ((((((((mix L Z m).set m u0).set (m + 1) u1).set (m + 2) u2).set (m + 3) u3).set (m + 4) u4).set (m + 5) u5).set (m + 6) u6) = mix L Z (m + 7) := by
  rw [mix_set hl h0]
  rw [mix_set hl h1]
  rw [mix_set hl h2]
  rw [mix_set hl h3]
  rw [mix_set hl h4]
  rw [mix_set hl h5]
  rw [mix_set hl h6]
theorem mix_set3 {L Z : List Value} {m : Nat} {u0 u1 u2 : Value} (hl : L.length = Z.length) (h0 : L[m]? = some u0) (h1 : L[m + 1]? = some u1) (h2 : L[m + 2]? = some u2) : ((((mix L Z m).set m u0).set (m + 1) u1).set (m + 2) u2) = mix L Z (m + 3) := by
  rw [mix_set hl h0]
  rw [mix_set hl h1]
  rw [mix_set hl h2]
def ints (zs : List Int) : List Value := zs.map (Value.int .i64)
theorem ints_get {zs : List Int} {j : Nat} (h : j < zs.length) : (ints zs)[j]? = some (.int .i64 (zs.getD j 0)) := by
  simp [ints, h]
theorem ints_length (zs : List Int) : (ints zs).length = zs.length := by simp [ints]
structure Seg where
  k : Int
  l : Int
  r : Int
  a : Int
  b : Int
  c : Int
  d : Int
def Seg.val (s : Seg) : Value := .agg #[.int .i64 s.k, .int .i64 s.l, .int .i64 s.r, .int .i64 s.a, .int .i64 s.b, .int .i64 s.c, .int .i64 s.d]
def Seg.cells (s : Seg) : List Value := [.int .i64 s.k, .int .i64 s.l, .int .i64 s.r, .int .i64 s.a, .int .i64 s.b, .int .i64 s.c, .int .i64 s.d]
def segCells (l : List Seg) : List Value := l.flatMap Seg.cells
theorem segCells_length (l : List Seg) : (segCells l).length = l.length * 7 := by
  induction l with
  | nil => rfl
  | cons s t ih => simp only [segCells, List.flatMap_cons, List.length_append, List.length_cons] at ih ⊢; rw [ih]; simp [Seg.cells]; omega
theorem segCells_get {s : Seg} {i : Nat} (hi : i < 7) : ∀ {l : List Seg} {k : Nat}, l[k]? = some s → (segCells l)[k * 7 + i]? = s.cells[i]?
  | [], k, h => by simp at h
  | t :: l, 0, h => by
    simp only [List.getElem?_cons_zero, Option.some.injEq] at h
    subst h
    simp only [segCells, List.flatMap_cons, Nat.zero_mul, Nat.zero_add]
    rw [List.getElem?_append_left (by simp [Seg.cells]; omega)]
  | t :: l, k + 1, h => by
    simp only [List.getElem?_cons_succ] at h
    have := segCells_get hi h
    simp only [segCells, List.flatMap_cons] at this ⊢
    rw [List.getElem?_append_right (by simp [Seg.cells]; omega), ← this]
    congr 1
    simp [Seg.cells]; omega
theorem segCells_at {s : Seg} {l : List Seg} {k : Nat} (h : l[k]? = some s) : (segCells l)[k * 7]? = some (.int .i64 s.k) ∧ (segCells l)[k * 7 + 1]? = some (.int .i64 s.l) ∧ (segCells l)[k * 7 + 2]? = some (.int .i64 s.r) ∧ (segCells l)[k * 7 + 3]? = some (.int .i64 s.a) ∧
    (segCells l)[k * 7 + 4]? = some (.int .i64 s.b) ∧ (segCells l)[k * 7 + 5]? = some (.int .i64 s.c) ∧ (segCells l)[k * 7 + 6]? = some (.int .i64 s.d) :=
  ⟨segCells_get (i := 0) (by omega) h, segCells_get (i := 1) (by omega) h, segCells_get (i := 2) (by omega) h, segCells_get (i := 3) (by omega) h, segCells_get (i := 4) (by omega) h, segCells_get (i := 5) (by omega) h, segCells_get (i := 6) (by omega) h⟩
theorem Rd.seg {w : World} {A : Option Addr} {l : List Seg} {k : Nat} {s : Seg} (h : Rd w A (segCells l)) (hk : l[k]? = some s) : ∃ b off, A = some ⟨b, off, none⟩ ∧ b < w.heap.size ∧ w.cell? ⟨b, off + k * 7, none⟩ = some (.int .i64 s.k) ∧ w.cell? ⟨b, off + k * 7 + 1, none⟩ = some (.int .i64 s.l) ∧ w.cell? ⟨b, off + k * 7 + 2, none⟩ = some (.int .i64 s.r) ∧ w.cell? ⟨b, off + k * 7 + 3, none⟩ = some (.int .i64 s.a) ∧ w.cell? ⟨b, off + k * 7 + 4, none⟩ = some (.int .i64 s.b) ∧ w.cell? ⟨b, off + k * 7 + 5, none⟩ = some (.int .i64 s.c) ∧ w.cell? ⟨b, off + k * 7 + 6, none⟩ = some (.int .i64 s.d) := by
  obtain ⟨u0, u1, u2, u3, u4, u5, u6⟩ := segCells_at hk
  obtain ⟨b, off, rfl, hb, hc⟩ := h.some_ (by intro e; rw [e] at u0; simp at u0)
  exact ⟨b, off, rfl, hb, hc _ _ u0, hc _ _ u1, hc _ _ u2, hc _ _ u3, hc _ _ u4, hc _ _ u5, hc _ _ u6⟩
theorem Rd.int {w : World} {A : Option Addr} {zs : List Int} {k : Nat} {z : Int} (h : Rd w A (ints zs)) (hk : zs[k]? = some z) : ∃ b off, A = some ⟨b, off, none⟩ ∧ b < w.heap.size ∧ w.cell? ⟨b, off + k, none⟩ = some (.int .i64 z) := by
  have u0 : (ints zs)[k]? = some (.int .i64 z) := by simp [ints, hk]
  obtain ⟨b, off, rfl, hb, hc⟩ := h.some_ (by intro e; rw [e] at u0; simp at u0)
  exact ⟨b, off, rfl, hb, hc _ _ u0⟩
theorem Rd.int0 {w : World} {A : Option Addr} {zs : List Int} {z : Int} (h : Rd w A (ints zs)) (hk : zs[0]? = some z) : ∃ b off, A = some ⟨b, off, none⟩ ∧ b < w.heap.size ∧ w.cell? ⟨b, off, none⟩ = some (.int .i64 z) := by
  obtain ⟨b, off, e, hb, g⟩ := h.int hk
  exact ⟨b, off, e, hb, g⟩
theorem own_cap {w : World} {base : Nat} {e : TypeId} {size n c : Nat} {A : Option Addr} {xs : List Value} (h : w.ownsRow base e size (.slice A n c) n xs) : n ≤ c ∧ c ≤ maxLen := by
  rcases h.2 with ⟨hv, rfl⟩ | ⟨g, cap, cur, hv, _, _, h1, h2, _⟩
  · injection hv with _ _ h3
    subst h3
    exact ⟨Nat.le_refl _, by simp [maxLen]⟩
  · injection hv with _ _ h3
    subst h3
    exact ⟨h1, h2⟩
theorem Rd.cut {w : World} {b off : Nat} {xs : List Value} (h : Rd w (some ⟨b, off, none⟩) xs) (m : Nat) : Rd w (some ⟨b, off + m, none⟩) (xs.drop m) := by
  rcases h with rfl | ⟨b1, o1, e, hlt, hc⟩
  · exact .inl (by simp)
  · simp only [Option.some.injEq, Addr.mk.injEq, and_true] at e
    obtain ⟨rfl, rfl⟩ := e
    refine .inr ⟨b, off + m, rfl, hlt, fun j u hu => ?_⟩
    rw [List.getElem?_drop] at hu
    rw [Nat.add_assoc]
    exact hc _ _ hu
theorem ints_drop (zs : List Int) (m : Nat) : (ints zs).drop m = ints (zs.drop m) := by simp [ints]
end Go.Proofs.YteengjcplmjakaaGreatDoor
