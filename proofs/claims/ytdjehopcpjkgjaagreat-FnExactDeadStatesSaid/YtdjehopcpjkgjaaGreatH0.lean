/- Contracts and helpers (joined texts, part 0). The conditions stand at each theorem. -/
import Derived.Test.YtdjehopcpjkgjaaGreatRows
import Derived.WalkKit
import Derived.WalkSpells
import Derived.WalkLawsBesides
import Derived.Deep.QuietTactic
import Derived.BigQuiet
import Derived.Lib.Hide
import Derived.Deep.Light
import Derived.StillTailTactics
import Derived.Deep.AppendLies
import Derived.Deep.RegionHeld3
/- Plain helper lemmas on worlds: what lies below a block number stays; readings of slices. No condition. -/
namespace Go.Proofs.YtdjehopcpjkgjaaGreat
open Go.RowKit

theorem cell_later {W w1 : World} {a : Addr} {v : Value} (hb : Below W.heap.size W w1) (h : W.cell? a = some v) : w1.cell? a = some v :=
  (hb.cell (World.block_lt_of_cell? W a h)).trans h
theorem frozen_later {W w1 : World} {a : Addr} (hb : Below W.heap.size W w1) (hlt : a.block < W.heap.size) (h : W.frozen? a = false) : w1.frozen? a = false := (hb.frozen hlt).trans h
theorem frozen_later2 {W w1 : World} {a : Addr} {v : Value} (hb : Below W.heap.size W w1) (hc : W.cell? a = some v) (h : W.frozen? a = false) : w1.frozen? a = false := (hb.frozen (World.block_lt_of_cell? W a hc)).trans h
theorem below_chain {w a b : World} (h1 : Below w.heap.size w a) (h2 : Below a.heap.size a b) : Below w.heap.size w b := h1.trans (h2.mono h1.size)
theorem below_alloc {w a : World} (h1 : Below w.heap.size w a) (o : Obj) : Below w.heap.size w (a.alloc o) := h1.alloc h1.size o
theorem below_drewN {w a : World} (h1 : Below w.heap.size w a) (n : Nat) : Below w.heap.size w (a.drewN n) := ⟨h1.os, h1.tape, h1.output, h1.size, h1.block⟩
theorem below_set {w a : World} (h1 : Below w.heap.size w a) {p : Addr} (v : Value) (hp : w.heap.size ≤ p.block) : Below w.heap.size w (a.setCell p v) := h1.setCell hp v

theorem bcell {W w1 : World} (hb : Below W.heap.size W w1) : (∀ b o, b < W.heap.size → w1.cell? ⟨b, o, none⟩ = W.cell? ⟨b, o, none⟩) ∧ (∀ b o, b < W.heap.size → w1.frozen? ⟨b, o, none⟩ = W.frozen? ⟨b, o, none⟩) :=
  ⟨fun b o h => hb.cell (p := ⟨b, o, none⟩) h, fun b o h => hb.frozen (p := ⟨b, o, none⟩) h⟩
theorem later {W w1 : World} {n : Nat} (hb : Below W.heap.size W w1) (h : n < W.heap.size) : n < w1.heap.size := Nat.lt_of_lt_of_le h hb.size

theorem ret_bool {a b : Bool} (h : a = b) : Ending.returned (.bool a) = .returned (.bool b) := by rw [h]
theorem ret_int {k : IntKind} {a b : Int} (h : a = b) : Ending.returned (.int k a) = .returned (.int k b) := by rw [h]

/-- The slice value `.slice A n c` holds the cells xs (n elements, size cells each): they lie in a block that is there. -/
def Rd (w : World) (A : Option Addr) (xs : List Value) : Prop :=
  xs = [] ∨ ∃ b off, A = some ⟨b, off, none⟩ ∧ b < w.heap.size ∧ ∀ j u, xs[j]? = some u → w.cell? ⟨b, off + j, none⟩ = some u
theorem Rd.nil (w : World) (A : Option Addr) : Rd w A [] := .inl rfl
theorem Rd.below {w w1 : World} {A : Option Addr} {xs : List Value} (h : Rd w A xs) (hb : Below w.heap.size w w1) : Rd w1 A xs := by
  rcases h with h | ⟨b, off, rfl, hlt, hc⟩
  · exact .inl h
  · exact .inr ⟨b, off, rfl, Nat.lt_of_lt_of_le hlt hb.size, fun j u hu => cell_later hb (hc j u hu)⟩
theorem Rd.alloc {w : World} {A : Option Addr} {xs : List Value} (h : Rd w A xs) (o : Obj) : Rd (w.alloc o) A xs := h.below (below_alloc (Below.refl _ _) o)
theorem Rd.drew {w : World} {A : Option Addr} {xs : List Value} (h : Rd w A xs) : Rd w.drew A xs := h
theorem Rd.some_ {w : World} {A : Option Addr} {xs : List Value} (h : Rd w A xs) (hn : xs ≠ []) : ∃ b off, A = some ⟨b, off, none⟩ ∧ b < w.heap.size ∧ ∀ j u, xs[j]? = some u → w.cell? ⟨b, off + j, none⟩ = some u := by
  rcases h with h | h
  · exact absurd h hn
  · exact h
theorem Rd.own {w : World} {base : Nat} {e : TypeId} {size n c : Nat} {A : Option Addr} {xs : List Value} (h : w.ownsRow base e size (.slice A n c) n xs) : Rd w A xs := by
  rcases h.2 with ⟨hv, rfl⟩ | ⟨g, cap, cur, hv, _, hg, _⟩
  · exact .inl (List.eq_nil_of_length_eq_zero (by simpa using h.1))
  · have hA : A = some ⟨g, 0, none⟩ := by injection hv
    subst hA
    refine .inr ⟨g, 0, rfl, (Array.getElem?_eq_some_iff.1 hg).1, fun j u hu => ?_⟩
    have := h.cells (g := g) rfl j u hu
    have hadd : (⟨g, 0, none⟩ : Addr).add j = ⟨g, 0 + j, none⟩ := by unfold Addr.add; split <;> simp_all
    rwa [hadd] at this
theorem grown_of_below {w w1 : World} (hb : Below w.heap.size w w1) (row : Option Nat) : w.grownBy w1 row := ⟨hb.os, hb.tape, hb.output, hb.size, fun k hk _ => hb.block k hk⟩
theorem own_below {w w1 : World} {base : Nat} {e : TypeId} {size n : Nat} {v : Value} {xs : List Value} (h : w.ownsRow base e size v n xs) (hb : Below w.heap.size w w1) : w1.ownsRow base e size v n xs :=
  h.kept (grown_of_below hb none) (by cases hv : v.ownBlock <;> simp)
theorem own_mono {w : World} {base base' : Nat} {e : TypeId} {size n : Nat} {v : Value} {xs : List Value} (h : w.ownsRow base e size v n xs) (hb : base' ≤ base) : w.ownsRow base' e size v n xs := by
  refine ⟨h.1, ?_⟩
  rcases h.2 with h2 | ⟨g, cap, cur, hv, hg, r⟩
  · exact .inl h2
  · exact .inr ⟨g, cap, cur, hv, Nat.le_trans hb hg, r⟩
theorem below_of_grown {w a b : World} {row : Option Nat} (h : Below w.heap.size w a) (hg : a.grownBy b row) (hr : ∀ k, row = some k → w.heap.size ≤ k) : Below w.heap.size w b := h.grown hg h.size hr

theorem own_cell {w : World} {base : Nat} {e : TypeId} {size n g cap : Nat} {xs : List Value} (h : w.ownsRow base e size (.slice (some ⟨g, 0, none⟩) n cap) n xs) {j : Nat} (hj : j < n * size) : ∃ u, w.cell? ⟨g, j, none⟩ = some u := by
  rw [h.cellAt j hj, List.getElem?_eq_getElem (by rw [h.1]; exact hj)]
  exact ⟨_, rfl⟩

/-- The list L up to m, and behind it the list Z. -/
def mix (L Z : List Value) (m : Nat) : List Value := L.take m ++ Z.drop m
theorem mix_zero (L Z : List Value) : mix L Z 0 = Z := by simp [mix]
theorem mix_all {L Z : List Value} {m : Nat} (h : L.length ≤ m) (h2 : Z.length ≤ m) : mix L Z m = L := by simp [mix, List.take_of_length_le h, List.drop_eq_nil_of_le h2]
theorem mix_set {L Z : List Value} {m : Nat} {u : Value} (hl : L.length = Z.length) (hu : L[m]? = some u) : (mix L Z m).set m u = mix L Z (m + 1) := by
  have hm : m < L.length := (List.getElem?_eq_some_iff.1 hu).1
  have hz : Z.drop m = Z[m]'(by omega) :: Z.drop (m + 1) := List.drop_eq_getElem_cons (by omega)
  have ht : L.take (m + 1) = L.take m ++ [u] := by
    rw [List.take_add_one, hu]
    rfl
  have hlt : (L.take m).length = m := by simp; omega
  unfold mix
  rw [ht, List.set_append_right _ _ (by rw [hlt]; exact Nat.le_refl _), hlt, Nat.sub_self, hz]
  simp only [List.set_cons_zero, List.append_assoc, List.singleton_append]
theorem mix_set7 {L Z : List Value} {m : Nat} {u0 u1 u2 u3 u4 u5 u6 : Value} (hl : L.length = Z.length) (h0 : L[m]? = some u0) (h1 : L[m + 1]? = some u1) (h2 : L[m + 2]? = some u2) (h3 : L[m + 3]? = some u3) (h4 : L[m + 4]? = some u4) (h5 : L[m + 5]? = some u5) (h6 : L[m + 6]? = some u6) : ((((((((mix L Z m).set m u0).set (m + 1) u1).set (m + 2) u2).set (m + 3) u3).set (m + 4) u4).set (m + 5) u5).set (m + 6) u6) = mix L Z (m + 7) := by
  rw [mix_set hl h0]
  rw [mix_set hl h1]
  rw [mix_set hl h2]
  rw [mix_set hl h3]
  rw [mix_set hl h4]
  rw [mix_set hl h5]
  rw [mix_set hl h6]
theorem mix_set3 {L Z : List Value} {m : Nat} {u0 u1 u2 : Value} (hl : L.length = Z.length) (h0 : L[m]? = some u0) (h1 : L[m + 1]? = some u1) (h2 : L[m + 2]? = some u2) : ((((mix L Z m).set m u0).set (m + 1) u1).set (m + 2) u2) = mix L Z (m + 3) := by
  rw [mix_set hl h0]
  rw [mix_set hl h1]
  rw [mix_set hl h2]
def ints (zs : List Int) : List Value := zs.map (Value.int .i64)
theorem ints_get {zs : List Int} {j : Nat} (h : j < zs.length) : (ints zs)[j]? = some (.int .i64 (zs.getD j 0)) := by
  simp [ints, h]
theorem ints_length (zs : List Int) : (ints zs).length = zs.length := by simp [ints]
structure Seg where
  k : Int
  l : Int
  r : Int
  a : Int
  b : Int
  c : Int
  d : Int
def Seg.val (s : Seg) : Value := .agg #[.int .i64 s.k, .int .i64 s.l, .int .i64 s.r, .int .i64 s.a, .int .i64 s.b, .int .i64 s.c, .int .i64 s.d]
def Seg.cells (s : Seg) : List Value := [.int .i64 s.k, .int .i64 s.l, .int .i64 s.r, .int .i64 s.a, .int .i64 s.b, .int .i64 s.c, .int .i64 s.d]
def segCells (l : List Seg) : List Value := l.flatMap Seg.cells
theorem segCells_length (l : List Seg) : (segCells l).length = l.length * 7 := by
  induction l with
  | nil => rfl
  | cons s t ih => simp only [segCells, List.flatMap_cons, List.length_append, List.length_cons] at ih ⊢; rw [ih]; simp [Seg.cells]; omega
theorem segCells_get {s : Seg} {i : Nat} (hi : i < 7) : ∀ {l : List Seg} {k : Nat}, l[k]? = some s → (segCells l)[k * 7 + i]? = s.cells[i]?
  | [], k, h => by simp at h
  | t :: l, 0, h => by
    simp only [List.getElem?_cons_zero, Option.some.injEq] at h
    subst h
    simp only [segCells, List.flatMap_cons, Nat.zero_mul, Nat.zero_add]
    rw [List.getElem?_append_left (by simp [Seg.cells]; omega)]
  | t :: l, k + 1, h => by
    simp only [List.getElem?_cons_succ] at h
    have := segCells_get hi h
    simp only [segCells, List.flatMap_cons] at this ⊢
    rw [List.getElem?_append_right (by simp [Seg.cells]; omega), ← this]
    congr 1
    simp [Seg.cells]; omega
theorem segCells_at {s : Seg} {l : List Seg} {k : Nat} (h : l[k]? = some s) : (segCells l)[k * 7]? = some (.int .i64 s.k) ∧ (segCells l)[k * 7 + 1]? = some (.int .i64 s.l) ∧ (segCells l)[k * 7 + 2]? = some (.int .i64 s.r) ∧ (segCells l)[k * 7 + 3]? = some (.int .i64 s.a) ∧
    (segCells l)[k * 7 + 4]? = some (.int .i64 s.b) ∧ (segCells l)[k * 7 + 5]? = some (.int .i64 s.c) ∧ (segCells l)[k * 7 + 6]? = some (.int .i64 s.d) :=
  ⟨segCells_get (i := 0) (by omega) h, segCells_get (i := 1) (by omega) h, segCells_get (i := 2) (by omega) h, segCells_get (i := 3) (by omega) h, segCells_get (i := 4) (by omega) h, segCells_get (i := 5) (by omega) h, segCells_get (i := 6) (by omega) h⟩
theorem Rd.seg {w : World} {A : Option Addr} {l : List Seg} {k : Nat} {s : Seg} (h : Rd w A (segCells l)) (hk : l[k]? = some s) : ∃ b off, A = some ⟨b, off, none⟩ ∧ b < w.heap.size ∧ w.cell? ⟨b, off + k * 7, none⟩ = some (.int .i64 s.k) ∧ w.cell? ⟨b, off + k * 7 + 1, none⟩ = some (.int .i64 s.l) ∧ w.cell? ⟨b, off + k * 7 + 2, none⟩ = some (.int .i64 s.r) ∧ w.cell? ⟨b, off + k * 7 + 3, none⟩ = some (.int .i64 s.a) ∧ w.cell? ⟨b, off + k * 7 + 4, none⟩ = some (.int .i64 s.b) ∧ w.cell? ⟨b, off + k * 7 + 5, none⟩ = some (.int .i64 s.c) ∧ w.cell? ⟨b, off + k * 7 + 6, none⟩ = some (.int .i64 s.d) := by
  obtain ⟨u0, u1, u2, u3, u4, u5, u6⟩ := segCells_at hk
  obtain ⟨b, off, rfl, hb, hc⟩ := h.some_ (by intro e; rw [e] at u0; simp at u0)
  exact ⟨b, off, rfl, hb, hc _ _ u0, hc _ _ u1, hc _ _ u2, hc _ _ u3, hc _ _ u4, hc _ _ u5, hc _ _ u6⟩
theorem Rd.int {w : World} {A : Option Addr} {zs : List Int} {k : Nat} {z : Int} (h : Rd w A (ints zs)) (hk : zs[k]? = some z) : ∃ b off, A = some ⟨b, off, none⟩ ∧ b < w.heap.size ∧ w.cell? ⟨b, off + k, none⟩ = some (.int .i64 z) := by
  have u0 : (ints zs)[k]? = some (.int .i64 z) := by simp [ints, hk]
  obtain ⟨b, off, rfl, hb, hc⟩ := h.some_ (by intro e; rw [e] at u0; simp at u0)
  exact ⟨b, off, rfl, hb, hc _ _ u0⟩
theorem Rd.int0 {w : World} {A : Option Addr} {zs : List Int} {z : Int} (h : Rd w A (ints zs)) (hk : zs[0]? = some z) : ∃ b off, A = some ⟨b, off, none⟩ ∧ b < w.heap.size ∧ w.cell? ⟨b, off, none⟩ = some (.int .i64 z) := by
  obtain ⟨b, off, e, hb, g⟩ := h.int hk
  exact ⟨b, off, e, hb, g⟩
theorem own_cap {w : World} {base : Nat} {e : TypeId} {size n c : Nat} {A : Option Addr} {xs : List Value} (h : w.ownsRow base e size (.slice A n c) n xs) : n ≤ c ∧ c ≤ maxLen := by
  rcases h.2 with ⟨hv, rfl⟩ | ⟨g, cap, cur, hv, _, _, h1, h2, _⟩
  · injection hv with _ _ h3
    subst h3
    exact ⟨Nat.le_refl _, by simp [maxLen]⟩
  · injection hv with _ _ h3
    subst h3
    exact ⟨h1, h2⟩
theorem Rd.cut {w : World} {b off : Nat} {xs : List Value} (h : Rd w (some ⟨b, off, none⟩) xs) (m : Nat) : Rd w (some ⟨b, off + m, none⟩) (xs.drop m) := by
  rcases h with rfl | ⟨b1, o1, e, hlt, hc⟩
  · exact .inl (by simp)
  · simp only [Option.some.injEq, Addr.mk.injEq, and_true] at e
    obtain ⟨rfl, rfl⟩ := e
    refine .inr ⟨b, off + m, rfl, hlt, fun j u hu => ?_⟩
    rw [List.getElem?_drop] at hu
    rw [Nat.add_assoc]
    exact hc _ _ hu
theorem ints_drop (zs : List Int) (m : Nat) : (ints zs).drop m = ints (zs.drop m) := by simp [ints]
end Go.Proofs.YtdjehopcpjkgjaaGreat

/- Laws for append of one element to a list of the call's own: the new list; and the old cells stay as they were. No condition but the sizes. -/
namespace Go.Proofs.YtdjehopcpjkgjaaGreat
open Go.RowKit

section
variable {P : Program}
theorem run_push (w : World) (base : Nat) (t ty e : TypeId) (i : TypeInfo) (z : Value) (size bytes : Nat) (ht : P.underlying t = some (.slice e)) (hi : P.info? e = some i) (hz : i.zero = some z)
    (hsize : i.size = size) (hby : i.bytes = bytes) (hzs : z.cells.size = size) (hsz : 0 < size)
    (v : Value) (n : Nat) (xs : List Value) (hown : w.ownsRow base e size v n xs)
    (a : Addr) (c : Nat) (news : List Value) (hl : news.length = size) (hnews : ∀ j u, news[j]? = some u → w.cell? (a.add j) = some u) (h1 : ∀ u ∈ news, u.oneCell' = true)
    (h63 : n + 1 ≤ maxLen) (hbytes : (n + 1) * bytes ≤ 140737488355328) (hbase : base ≤ w.heap.size) :
    ∃ v' w', (Builtin.append_ #[t, t] ty #[v, .slice (some a) 1 c]).run P w = .ok v' w' ∧ w'.ownsRow base e size v' (n + 1) (xs ++ news) ∧ w.grownBy w' v.ownBlock ∧
      (∀ g, v.ownBlock = some g → ∀ j, j < n * size → w'.cell? ⟨g, j, none⟩ = w.cell? ⟨g, j, none⟩) ∧ (v'.ownBlock = v.ownBlock ∨ v'.ownBlock = some w.heap.size) := by
  obtain ⟨v', w', hr, ho, hg, _⟩ := run_append_own (P := P) w base t ty e i z size bytes ht hi hz hsize hby hzs hsz v n xs hown a 1 c news (by rw [hl, Nat.one_mul]) hnews h1 h63 hbytes hbase
  subst hsize
  subst hby
  rcases hown.2 with ⟨rfl, rfl⟩ | ⟨g, cap, cur, rfl, hbg, hgg, hnc, hcm, hcs, htake⟩
  · refine ⟨v', w', hr, ho, hg, fun g h => by simp [Value.ownBlock] at h, ?_⟩
    have hx : xs = [] := List.eq_nil_of_length_eq_zero (by simpa using hown.1)
    subst hx
    have hr2 := run_append_nil (P := P) w t ty e i z ht hi hz a 1 c news (by rw [hl, Nat.one_mul]) hnews (by omega) (by unfold maxLen at h63; omega) (by have hb := hbytes; simp only [Nat.zero_add] at hb; omega)
    have h2 := hr.symm.trans hr2
    simp only [Result.ok.injEq] at h2
    right
    rw [h2.1]
    rfl
  · by_cases hroom : n + 1 ≤ cap
    · have hfit : n * i.size + news.length ≤ cur.size := by
        rw [hl, hcs]
        have := Nat.mul_le_mul_right i.size hroom
        rw [Nat.add_mul, Nat.one_mul] at this
        exact this
      have hr2 := run_append_room (P := P) w t ty e i ht hi g n cap cur hgg a 1 c news (by rw [hl, Nat.one_mul]) hnews h1 hroom hfit
      have h2 := hr.symm.trans hr2
      simp only [Result.ok.injEq] at h2
      refine ⟨v', w', hr, ho, hg, fun g' h j hj => ?_, ?_⟩
      · simp [Value.ownBlock] at h
        subst h
        rw [h2.2, cell_setRow_same w g j cur _ e _ hgg, cell_of_row w g j cur e _ hgg]
        have hlen : j < cur.toList.length := by simp; omega
        simp only [List.getElem?_toArray]
        rw [List.append_assoc, List.getElem?_append_left (by simp; omega), List.getElem?_take, if_pos hj]
        simp
      · left
        rw [h2.1]
        rfl
    · have holds : ∀ j u, xs[j]? = some u → w.cell? ((⟨g, 0, none⟩ : Addr).add j) = some u := hown.cells (g := g) rfl
      have hr2 := run_append_grow (P := P) w t ty e i z ht hi hz ⟨g, 0, none⟩ n cap xs hown.1 holds a 1 c news (by rw [hl, Nat.one_mul]) hnews (by omega) (by unfold maxLen at h63; omega) (growslice_fits (by omega) hbytes)
      have h2 := hr.symm.trans hr2
      simp only [Result.ok.injEq] at h2
      refine ⟨v', w', hr, ho, hg, fun g' h j hj => ?_, ?_⟩
      · simp [Value.ownBlock] at h
        subst h
        rw [h2.2]
        exact World.cell?_alloc_lt w.drew _ _ (Array.getElem?_eq_some_iff.1 hgg).1
      · right
        rw [h2.1]
        rfl
theorem wp_push (w : World) {o : Oper} {a : Act} {K : Act → World → Prop} {Q : Exit → Act → World → Prop} (s x : Operand) (t : TypeId)
    (ho : o.op = .call { callee := .builtin .append, args := #[s, x], argTypes := #[t, t] })
    (base : Nat) (e : TypeId) (i : TypeInfo) (z : Value) (size bytes : Nat) (ht : P.underlying t = some (.slice e)) (hi : P.info? e = some i) (hz : i.zero = some z)
    (hsize : i.size = size) (hby : i.bytes = bytes) (hzs : z.cells.size = size) (hsz : 0 < size)
    (v : Value) (n : Nat) (xs : List Value) (hs : a.eval s = v) (hown : w.ownsRow base e size v n xs)
    (ad : Addr) (c : Nat) (news : List Value) (hx : a.eval x = .slice (some ad) 1 c) (hl : news.length = size) (hnews : ∀ j u, news[j]? = some u → w.cell? (ad.add j) = some u) (h1 : ∀ u ∈ news, u.oneCell' = true)
    (h63 : n + 1 ≤ maxLen) (hbytes : (n + 1) * bytes ≤ 140737488355328) (hbase : base ≤ w.heap.size)
    (h : ∀ v' w', w'.ownsRow base e size v' (n + 1) (xs ++ news) → w.grownBy w' v.ownBlock → (∀ g, v.ownBlock = some g → ∀ j, j < n * size → w'.cell? ⟨g, j, none⟩ = w.cell? ⟨g, j, none⟩) → (v'.ownBlock = v.ownBlock ∨ v'.ownBlock = some w.heap.size) → K (a.put o.dst v') w') : o.wp P a w K Q := by
  obtain ⟨v', w', hr, h2, h3, h4, h5⟩ := run_push (P := P) w base t o.type e i z size bytes ht hi hz hsize hby hzs hsz v n xs hown ad c news hl hnews h1 h63 hbytes hbase
  unfold Oper.wp execOp
  simp only [ho, resolve, invoke, builtin, Sem.run_bind, Sem.run_pure, Result.andThen_ok, List.map_toArray, List.map_cons, List.map_nil, hs, hx, hr]
  exact h v' w' h2 h3 h4 h5
theorem wpList_push (w : World) {ops : Array Oper} {rest : List Oper} {o : Oper} {a : Act} {Q : Exit → Act → World → Prop} (hgd : o.guard = none) (s x : Operand) (t : TypeId)
    (ho : o.op = .call { callee := .builtin .append, args := #[s, x], argTypes := #[t, t] })
    (base : Nat) (e : TypeId) (i : TypeInfo) (z : Value) (size bytes : Nat) (ht : P.underlying t = some (.slice e)) (hi : P.info? e = some i) (hz : i.zero = some z)
    (hsize : i.size = size) (hby : i.bytes = bytes) (hzs : z.cells.size = size) (hsz : 0 < size)
    (v : Value) (n : Nat) (xs : List Value) (hs : a.eval s = v) (hown : w.ownsRow base e size v n xs)
    (ad : Addr) (c : Nat) (news : List Value) (hx : a.eval x = .slice (some ad) 1 c) (hl : news.length = size) (hnews : ∀ j u, news[j]? = some u → w.cell? (ad.add j) = some u) (h1 : ∀ u ∈ news, u.oneCell' = true)
    (h63 : n + 1 ≤ maxLen) (hbytes : (n + 1) * bytes ≤ 140737488355328) (hbase : base ≤ w.heap.size)
    (h : ∀ v' w', w'.ownsRow base e size v' (n + 1) (xs ++ news) → w.grownBy w' v.ownBlock → (∀ g, v.ownBlock = some g → ∀ j, j < n * size → w'.cell? ⟨g, j, none⟩ = w.cell? ⟨g, j, none⟩) → (v'.ownBlock = v.ownBlock ∨ v'.ownBlock = some w.heap.size) → wpList P ops Q rest (a.put o.dst v') w') : wpList P ops Q (o :: rest) a w :=
  wpList_plain hgd fun _ hK => wp_push w s x t ho base e i z size bytes ht hi hz hsize hby hzs hsz v n xs hs hown ad c news hx hl hnews h1 h63 hbytes hbase fun v' w' h2 h3 h4 h5 => hK _ _ (h v' w' h2 h3 h4 h5)
theorem step_push (w : World) {ops : Array Oper} {o : Oper} {a : Act} {K : Act → World → Prop} {Q : Exit → Act → World → Prop} {E : Prop} (hgd : o.guard = none) (s x : Operand) (t : TypeId)
    (ho : o.op = .call { callee := .builtin .append, args := #[s, x], argTypes := #[t, t] })
    (base : Nat) (e : TypeId) (i : TypeInfo) (z : Value) (size bytes : Nat) (ht : P.underlying t = some (.slice e)) (hi : P.info? e = some i) (hz : i.zero = some z)
    (hsize : i.size = size) (hby : i.bytes = bytes) (hzs : z.cells.size = size) (hsz : 0 < size)
    (v : Value) (n : Nat) (xs : List Value) (hs : a.eval s = v) (hown : w.ownsRow base e size v n xs)
    (ad : Addr) (c : Nat) (news : List Value) (hx : a.eval x = .slice (some ad) 1 c) (hl : news.length = size) (hnews : ∀ j u, news[j]? = some u → w.cell? (ad.add j) = some u) (h1 : ∀ u ∈ news, u.oneCell' = true)
    (h63 : n + 1 ≤ maxLen) (hbytes : (n + 1) * bytes ≤ 140737488355328) (hbase : base ≤ w.heap.size)
    (h : ∀ v' w', w'.ownsRow base e size v' (n + 1) (xs ++ news) → w.grownBy w' v.ownBlock → (∀ g, v.ownBlock = some g → ∀ j, j < n * size → w'.cell? ⟨g, j, none⟩ = w.cell? ⟨g, j, none⟩) → (v'.ownBlock = v.ownBlock ∨ v'.ownBlock = some w.heap.size) → K (a.put o.dst v') w') :
    if Region.wanted o (yielded ops a.tmps) = true then Oper.wp P o a w K Q else E := by
  have hw : Region.wanted o (yielded ops a.tmps) = true := by simp [Region.wanted, hgd]
  rw [if_pos hw]
  exact wp_push w s x t ho base e i z size bytes ht hi hz hsize hby hzs hsz v n xs hs hown ad c news hx hl hnews h1 h63 hbytes hbase h
end
theorem own_form {w : World} {base : Nat} {e : TypeId} {size n : Nat} {v : Value} {xs : List Value} (h : w.ownsRow base e size v (n + 1) xs) : ∃ g cap, v = .slice (some ⟨g, 0, none⟩) (n + 1) cap := by
  rcases h.2 with ⟨_, h0⟩ | ⟨g, cap, cur, hv, _⟩
  · omega
  · exact ⟨g, cap, hv⟩
theorem own_drew {w : World} {base : Nat} {e : TypeId} {size n : Nat} {v : Value} {xs : List Value} (h : w.ownsRow base e size v n xs) : w.drew.ownsRow base e size v n xs := h
theorem own_ge {w : World} {base : Nat} {e : TypeId} {size n g c : Nat} {xs : List Value} (h : w.ownsRow base e size (.slice (some ⟨g, 0, none⟩) n c) n xs) : base ≤ g ∧ g < w.heap.size := h.lt g rfl
end Go.Proofs.YtdjehopcpjkgjaaGreat

/- Contracts of the laws' copies and comparisons of lists of integers (the seats without layouts). No condition but the lists' sizes. -/
namespace Go.Proofs.YtdjehopcpjkgjaaGreat
open Go.RowKit

theorem info_int64 : (Tryz.prog.info? 2).map (fun i => (i.zero, i.size, i.bytes)) = some (some (.int .i64 0), 1, 8) := by kernel_rfl
/-- What is handed back is a new list of the call's own that holds zs. -/
def RetInts (zs : List Int) (w : World) (e : Ending) (w' : World) : Prop :=
  ∃ A c, e = .returned (.slice A zs.length c) ∧ w'.ownsRow w.heap.size 2 1 (.slice A zs.length c) zs.length (ints zs) ∧ Below w.heap.size w w'
set_option maxRecDepth 100000 in
theorem c_toInt64S (A : Option Addr) (c n : Nat) (zs : List Int) (w : World) (hn : n = zs.length) (hs : n ≤ 1048576) (hr : Rd w A (ints zs)) :
    Calls Tryz.prog 9 #[.slice A n c] w (RetInts zs w) := by
  obtain ⟨i0, hi, hz0, hz1, hz2⟩ := info_parts info_int64
  have HN := Lib.hid hn
  have HZ : (ints zs).length = n := by rw [ints_length, hn]
  clear hn
  go_enter Tryz.func9, Tryz.ntmps9
  go_wp2_with (first
    | (at_make
       refine wpList_make_full _ rfl (.tmp 6) (.tmp 6) _ rfl w.heap.size 2 i0 _ 1 Tryz.underlying22 hi hz0 hz1 .i64 .i64 _ _ n rfl rfl rfl rfl (by rw [hz2]; omega) (by unfold maxLen; omega) (Nat.le_refl _) ?_
       intro w1 hown hgrow)
    )
  have hb1 : Below w.heap.size w w1 := below_of_grown (Below.refl _ _) hgrow (by simp)
  have hZ : (madeCells (Value.int .i64 0).cells (n * 1)).toList.length = n := by simp [size_madeCells]
  generalize (madeCells (Value.int .i64 0).cells (n * 1)).toList = Z at hown hZ
  have hLZ := Lib.hid (HZ.trans hZ.symm)
  have HZZ := Lib.hid HZ
  clear hZ HZ hgrow
  go_loopw [4] (fun i wr => ∃ k : Nat, k ≤ n ∧ i = .int .i64 k ∧ wr.ownsRow w.heap.size 2 1 (.slice (some ⟨w.heap.size, 0, none⟩) n n) n (mix (ints zs) Z k) ∧ Below w.heap.size w wr) (fun i _ => n - (intOf i).toNat)
  case atStart => exact ⟨0, Nat.zero_le _, rfl, by rw [mix_zero]; exact hown, hb1⟩
  case round =>
    obtain ⟨k, hk, rfl, ho, hb⟩ := hrel
    clear hown hb1
    by_cases hlt : k < n
    · obtain ⟨b, off, rfl, _, hc⟩ := (hr.below hb).some_ (by intro h; have := HZZ.out; rw [h] at this; simp at this; omega)
      have hu := ints_get (zs := zs) (j := k) (by have := HN.out; omega)
      have g0 := hc k _ hu
      have f0 := ho.frozenAt k
      obtain ⟨old, hold⟩ := own_cell ho (j := k) (by omega)
      have hst := (ho.stored k (.int .i64 (zs.getD k 0))).1
      rw [mix_set hLZ.out hu] at hst
      have HST := Lib.hid hst
      have HB := Lib.hid hb
      clear hu hc hst ho hb hr
      go_wp2
      go_roundw
      case rel => exact ⟨k + 1, by omega, by go_num, HST.out, below_set HB.out _ (Nat.le_refl _)⟩
      case measure => simp [intOf]; omega
    · have : k = n := by omega
      subst this
      go_wp2
      go_ret
      have e := HN.out
      rw [mix_all (by rw [HZZ.out]; exact Nat.le_refl _) (by rw [← hLZ.out, HZZ.out]; exact Nat.le_refl _)] at ho
      subst e
      exact ⟨_, _, rfl, ho, hb⟩

def szI (left : Int) (n : Nat) : Int := if left - n < 0 then -1 else left - n
set_option maxRecDepth 100000 in
theorem c_eqInt64S (A A' : Option Addr) (c c' n n' : Nat) (zs : List Int) (w : World) (hn : n = zs.length) (hn' : n' = zs.length) (hs : zs.length ≤ 9223372036854775807) (hr : Rd w A (ints zs)) (hr' : Rd w A' (ints zs)) :
    Calls Tryz.prog 13 #[.slice A n c, .slice A' n' c'] w fun e w' => e = .returned (.bool true) ∧ Below w.heap.size w w' := by
  subst hn
  subst hn'
  go_enter Tryz.func13, Tryz.ntmps13
  go_wp2
  go_loopw [5] (fun i wr => ∃ k : Nat, k ≤ zs.length ∧ i = .int .i64 k ∧ Below w.heap.size w wr) (fun i _ => zs.length - (intOf i).toNat)
  case atStart => exact ⟨0, Nat.zero_le _, rfl, Below.refl _ _⟩
  case round =>
    obtain ⟨k, hk, rfl, hb⟩ := hrel
    by_cases hlt : k < zs.length
    · obtain ⟨z, hz⟩ : ∃ z, zs[k]? = some z := ⟨_, List.getElem?_eq_getElem hlt⟩
      obtain ⟨b, off, rfl, _, g0⟩ := (hr.below hb).int hz
      obtain ⟨b', off', rfl, _, g1⟩ := (hr'.below hb).int hz
      have HB := Lib.hid hb
      clear hz hb hr hr'
      go_wp2
      refine wp_region_quiet_lit (by kernel_rfl) (by kernel_rfl) ?_
      (repeat (any_goals (first | go_big_quiet_step (fail) | quiet_step (fail) | (refine wpQuiet_step (fun K hK => ?_); go_simp; split <;> (refine hK _ ?_; clear hK K)))))
      all_goals (refine wpQuiet_nil ?_; intro _ hw'; obtain ⟨nq, hw''⟩ := hw'; subst hw'')
      go_wp2
      go_roundw
      case rel => exact ⟨k + 1, by omega, by go_num, below_drewN HB.out _⟩
      case measure => simp [intOf]; omega
    · have : k = zs.length := by omega
      subst this
      go_wp2
      go_ret
      exact ⟨rfl, hb⟩
end Go.Proofs.YtdjehopcpjkgjaaGreat

/- Contracts of the laws' own copies, sizes and comparisons of rows of small structs (printed by rows.py). No condition but the lists' sizes. -/
namespace Go.Proofs.YtdjehopcpjkgjaaGreat
open Go.RowKit

structure Tst where
  v : Int
  x : Int
  q : Bool
def Tst.val (s : Tst) : Value := .agg #[.int .i64 s.v, .int .i64 s.x, .bool s.q]
def Tst.cells (s : Tst) : List Value := [.int .i64 s.v, .int .i64 s.x, .bool s.q]
def tstCells (l : List Tst) : List Value := l.flatMap Tst.cells
theorem tstCells_length (l : List Tst) : (tstCells l).length = l.length * 3 := by
  induction l with
  | nil => rfl
  | cons s t ih => simp only [tstCells, List.flatMap_cons, List.length_append, List.length_cons] at ih ⊢; rw [ih]; simp [Tst.cells]; omega
theorem tstCells_get {s : Tst} {i : Nat} (hi : i < 3) : ∀ {l : List Tst} {k : Nat}, l[k]? = some s → (tstCells l)[k * 3 + i]? = s.cells[i]?
  | [], k, h => by simp at h
  | t :: l, 0, h => by
    simp only [List.getElem?_cons_zero, Option.some.injEq] at h
    subst h
    simp only [tstCells, List.flatMap_cons, Nat.zero_mul, Nat.zero_add]
    rw [List.getElem?_append_left (by simp [Tst.cells]; omega)]
  | t :: l, k + 1, h => by
    simp only [List.getElem?_cons_succ] at h
    have := tstCells_get hi h
    simp only [tstCells, List.flatMap_cons] at this ⊢
    rw [List.getElem?_append_right (by simp [Tst.cells]; omega), ← this]
    congr 1
    simp [Tst.cells]; omega
theorem tstCells_at {s : Tst} {l : List Tst} {k : Nat} (h : l[k]? = some s) : (tstCells l)[k * 3]? = some (.int .i64 s.v) ∧ (tstCells l)[k * 3 + 1]? = some (.int .i64 s.x) ∧ (tstCells l)[k * 3 + 2]? = some (.bool s.q) :=
  ⟨tstCells_get (i := 0) (by omega) h, tstCells_get (i := 1) (by omega) h, tstCells_get (i := 2) (by omega) h⟩
theorem Rd.tst {w : World} {A : Option Addr} {l : List Tst} {k : Nat} {s : Tst} (h : Rd w A (tstCells l)) (hk : l[k]? = some s) : ∃ b off, A = some ⟨b, off, none⟩ ∧ b < w.heap.size ∧ w.cell? ⟨b, off + k * 3, none⟩ = some (.int .i64 s.v) ∧ w.cell? ⟨b, off + k * 3 + 1, none⟩ = some (.int .i64 s.x) ∧ w.cell? ⟨b, off + k * 3 + 2, none⟩ = some (.bool s.q) := by
  obtain ⟨u0, u1, u2⟩ := tstCells_at hk
  obtain ⟨b, off, rfl, hb, hc⟩ := h.some_ (by intro e; rw [e] at u0; simp at u0)
  exact ⟨b, off, rfl, hb, hc _ _ u0, hc _ _ u1, hc _ _ u2⟩
theorem info_iTest : (Tryz.prog.info? 100).map (fun i => (i.zero, i.size, i.bytes)) = some (some (.agg #[.int .i64 0, .int .i64 0, .bool false]), 3, 24) := by kernel_rfl
theorem mix_tst {L Z : List Value} {m : Nat} {u0 u1 u2 : Value} (hl : L.length = Z.length) (h0 : L[m]? = some u0) (h1 : L[m + 1]? = some u1) (h2 : L[m + 2]? = some u2) : ((((mix L Z m).set m u0).set (m + 1) u1).set (m + 2) u2) = mix L Z (m + 3) := by
  rw [mix_set hl h0]
  rw [mix_set hl h1]
  rw [mix_set hl h2]
theorem c_toTest (v : Int) (x : Int) (q : Bool) (w : World) : Calls Tryz.prog 93 #[.agg #[.int .i64 v, .int .i64 x, .bool q]] w fun e w' => e = .returned (.agg #[.int .i64 v, .int .i64 x, .bool q]) ∧ Below w.heap.size w w' := by
  go_enter Tryz.func93, Tryz.ntmps93
  go_wp2
  refine bodyPost_ret (v := .agg #[.int .i64 v, .int .i64 x, .bool q]) (by simp [results, Tryz.results93, go_sem]) rfl ⟨rfl, by (repeat (first | exact Below.refl _ _ | assumption | refine below_alloc ?_ _ | refine below_drewN ?_ _ | refine below_set ?_ _ (by simp; try omega) | refine Below.drew ?_))⟩
/-- What is handed back is a new list of the call's own that holds l. -/
def RetTst (l : List Tst) (w : World) (e : Ending) (w' : World) : Prop :=
  ∃ A c, e = .returned (.slice A l.length c) ∧ w'.ownsRow w.heap.size 100 3 (.slice A l.length c) l.length (tstCells l) ∧ Below w.heap.size w w'
set_option maxRecDepth 100000 in
theorem c_toTestS (A : Option Addr) (c n : Nat) (l : List Tst) (w : World) (hn : n = l.length) (hs : n ≤ 1048576) (hr : Rd w A (tstCells l)) :
    Calls Tryz.prog 70 #[.slice A n c] w (RetTst l w) := by
  obtain ⟨i0, hi, hz0, hz1, hz2⟩ := info_parts info_iTest
  have HN := Lib.hid hn
  have HZ : (tstCells l).length = n * 3 := by rw [tstCells_length, hn]
  clear hn
  go_enter Tryz.func70, Tryz.ntmps70
  go_wp2_with (first
    | (at_make
       refine wpList_make_full _ rfl (.tmp 6) (.tmp 6) _ rfl w.heap.size 100 i0 _ 3 Tryz.underlying72 hi hz0 hz1 .i64 .i64 _ _ n rfl rfl rfl rfl (by rw [hz2]; omega) (by unfold maxLen; omega) (Nat.le_refl _) ?_
       intro w1 hown hgrow)
    )
  have hb1 : Below w.heap.size w w1 := below_of_grown (Below.refl _ _) hgrow (by simp)
  have hZ : (madeCells (Value.agg #[.int .i64 0, .int .i64 0, .bool false]).cells (n * 3)).toList.length = n * 3 := by simp [size_madeCells]
  generalize (madeCells (Value.agg #[.int .i64 0, .int .i64 0, .bool false]).cells (n * 3)).toList = Z at hown hZ
  have hLZ := Lib.hid (HZ.trans hZ.symm)
  have HZZ := Lib.hid HZ
  clear hZ HZ hgrow
  go_loopw [4] (fun i wr => ∃ k : Nat, k ≤ n ∧ i = .int .i64 k ∧ wr.ownsRow w.heap.size 100 3 (.slice (some ⟨w.heap.size, 0, none⟩) n n) n (mix (tstCells l) Z (k * 3)) ∧ Below w.heap.size w wr) (fun i _ => n - (intOf i).toNat)
  case atStart => exact ⟨0, Nat.zero_le _, rfl, by rw [Nat.zero_mul, mix_zero]; exact hown, hb1⟩
  case round =>
    obtain ⟨k, hk, rfl, ho, hb⟩ := hrel
    clear hown hb1
    by_cases hlt : k < n
    · obtain ⟨s, hs0⟩ : ∃ s, l[k]? = some s := ⟨_, List.getElem?_eq_getElem (by have := HN.out; omega)⟩
      obtain ⟨u0, u1, u2⟩ := tstCells_at hs0
      have HM := Lib.hid (mix_tst hLZ.out u0 u1 u2)
      clear u0 u1 u2
      obtain ⟨b, off, rfl, _, g0, g1, g2⟩ := (hr.below hb).tst hs0
      have HO := Lib.hid ho
      have HB := Lib.hid hb
      clear hs0 ho hb hr
      go_wp2_with (first
        | (go_at_call 93
           refine (c_toTest _ _ _ _).mono ?_
           rintro e w2 ⟨rfl, hb2⟩
           have ho1 := own_below HO.out hb2
           have f0 := ho1.frozenAt (k * 3)
           obtain ⟨o0, e0⟩ := own_cell ho1 (j := k * 3) (by omega)
           have f1 := ho1.frozenAt (k * 3 + 1)
           obtain ⟨o1, e1⟩ := own_cell ho1 (j := k * 3 + 1) (by omega)
           have f2 := ho1.frozenAt (k * 3 + 2)
           obtain ⟨o2, e2⟩ := own_cell ho1 (j := k * 3 + 2) (by omega)
           have HST := Lib.hid (((ho1.stored (k * 3) (.int .i64 s.v)).1.stored (k * 3 + 1) (.int .i64 s.x)).1.stored (k * 3 + 2) (.bool s.q)).1
           have HB2 := Lib.hid (below_chain HB.out hb2)
           clear ho1 hb2 g0 g1 g2)
        )
      go_roundw
      case rel =>
        refine ⟨k + 1, by omega, by go_num, ?_, ?_⟩
        · rw [show (k + 1) * 3 = k * 3 + 3 from by omega, ← HM.out]
          exact HST.out
        · exact below_set (below_set (below_set HB2.out _ (Nat.le_refl _)) _ (Nat.le_refl _)) _ (Nat.le_refl _)
      case measure => simp [intOf]; omega
    · have : k = n := by omega
      subst this
      go_wp2
      go_ret
      have e := HN.out
      rw [mix_all (by rw [HZZ.out]; exact Nat.le_refl _) (by rw [← hLZ.out, HZZ.out]; exact Nat.le_refl _)] at ho
      subst e
      exact ⟨_, _, rfl, ho, hb⟩
set_option maxRecDepth 100000 in
theorem c_eqTest (v : Int) (x : Int) (q : Bool) (w : World) : Calls Tryz.prog 109 #[.agg #[.int .i64 v, .int .i64 x, .bool q], .agg #[.int .i64 v, .int .i64 x, .bool q]] w fun e w' => e = .returned (.bool true) ∧ Below w.heap.size w w' := by
  go_enter Tryz.func109, Tryz.ntmps109
  go_wp2
  all_goals go_ret
  all_goals (refine ⟨rfl, by (repeat (first | exact Below.refl _ _ | assumption | refine below_alloc ?_ _ | refine below_drewN ?_ _ | refine below_set ?_ _ (by simp; try omega) | refine Below.drew ?_))⟩)
set_option maxRecDepth 100000 in
theorem c_eqTestS (A A' : Option Addr) (c c' n n' : Nat) (l : List Tst) (w : World) (hn : n = l.length) (hn' : n' = l.length) (hs : l.length ≤ 1048576) (hr : Rd w A (tstCells l)) (hr' : Rd w A' (tstCells l)) :
    Calls Tryz.prog 84 #[.slice A n c, .slice A' n' c'] w fun e w' => e = .returned (.bool true) ∧ Below w.heap.size w w' := by
  subst hn
  subst hn'
  go_enter Tryz.func84, Tryz.ntmps84
  go_wp2
  go_loopw [5] (fun i wr => ∃ k : Nat, k ≤ l.length ∧ i = .int .i64 k ∧ Below w.heap.size w wr) (fun i _ => l.length - (intOf i).toNat)
  case atStart => exact ⟨0, Nat.zero_le _, rfl, Below.refl _ _⟩
  case round =>
    obtain ⟨k, hk, rfl, hb⟩ := hrel
    by_cases hlt : k < l.length
    · obtain ⟨s, hz⟩ : ∃ z, l[k]? = some z := ⟨_, List.getElem?_eq_getElem hlt⟩
      obtain ⟨b, off, rfl, _, g0, g1, g2⟩ := (hr.below hb).tst hz
      obtain ⟨b', off', rfl, _, e0, e1, e2⟩ := (hr'.below hb).tst hz
      have HB := Lib.hid hb
      clear hz hb hr hr'
      go_wp2
      go_still_tail 8, (by kernel_rfl)
      change wpList _ _ _ _ _ wr.drew
      have HB2 := Lib.hid (below_drewN HB.out 1)
      go_wp2_with (first
        | (go_at_call 109
           refine (c_eqTest _ _ _ _).mono ?_
           rintro e w2 ⟨rfl, hb2⟩
           have HB3 := Lib.hid (below_chain HB.out.drew hb2)
           clear hb2)
        )
      go_roundw
      case rel => exact ⟨k + 1, by omega, by go_num, HB3.out⟩
      case measure => simp [intOf]; omega
    · have : k = l.length := by omega
      subst this
      go_wp2
      go_ret
      exact ⟨rfl, hb⟩
theorem c_szTestS (A : Option Addr) (c n : Nat) (left : Int) (w : World) (hn : n ≤ 9223372036854775807) (h0 : 0 ≤ left) (h1 : left ≤ 1048576) :
    Calls Tryz.prog 65 #[.slice A n c, .int .i64 left] w fun e w' => e = .returned (.int .i64 (szI left n)) ∧ w = w' := by
  go_enter Tryz.func65, Tryz.ntmps65
  go_wp2
  all_goals go_ret
  all_goals (refine ⟨?_, rfl⟩; simp [szI]; try omega)
structure Asg where
  v : Int
  x : Int
def Asg.val (s : Asg) : Value := .agg #[.int .i64 s.v, .int .i64 s.x]
def Asg.cells (s : Asg) : List Value := [.int .i64 s.v, .int .i64 s.x]
def asgCells (l : List Asg) : List Value := l.flatMap Asg.cells
theorem asgCells_length (l : List Asg) : (asgCells l).length = l.length * 2 := by
  induction l with
  | nil => rfl
  | cons s t ih => simp only [asgCells, List.flatMap_cons, List.length_append, List.length_cons] at ih ⊢; rw [ih]; simp [Asg.cells]; omega
theorem asgCells_get {s : Asg} {i : Nat} (hi : i < 2) : ∀ {l : List Asg} {k : Nat}, l[k]? = some s → (asgCells l)[k * 2 + i]? = s.cells[i]?
  | [], k, h => by simp at h
  | t :: l, 0, h => by
    simp only [List.getElem?_cons_zero, Option.some.injEq] at h
    subst h
    simp only [asgCells, List.flatMap_cons, Nat.zero_mul, Nat.zero_add]
    rw [List.getElem?_append_left (by simp [Asg.cells]; omega)]
  | t :: l, k + 1, h => by
    simp only [List.getElem?_cons_succ] at h
    have := asgCells_get hi h
    simp only [asgCells, List.flatMap_cons] at this ⊢
    rw [List.getElem?_append_right (by simp [Asg.cells]; omega), ← this]
    congr 1
    simp [Asg.cells]; omega
theorem asgCells_at {s : Asg} {l : List Asg} {k : Nat} (h : l[k]? = some s) : (asgCells l)[k * 2]? = some (.int .i64 s.v) ∧ (asgCells l)[k * 2 + 1]? = some (.int .i64 s.x) :=
  ⟨asgCells_get (i := 0) (by omega) h, asgCells_get (i := 1) (by omega) h⟩
theorem Rd.asg {w : World} {A : Option Addr} {l : List Asg} {k : Nat} {s : Asg} (h : Rd w A (asgCells l)) (hk : l[k]? = some s) : ∃ b off, A = some ⟨b, off, none⟩ ∧ b < w.heap.size ∧ w.cell? ⟨b, off + k * 2, none⟩ = some (.int .i64 s.v) ∧ w.cell? ⟨b, off + k * 2 + 1, none⟩ = some (.int .i64 s.x) := by
  obtain ⟨u0, u1⟩ := asgCells_at hk
  obtain ⟨b, off, rfl, hb, hc⟩ := h.some_ (by intro e; rw [e] at u0; simp at u0)
  exact ⟨b, off, rfl, hb, hc _ _ u0, hc _ _ u1⟩
theorem info_iAssign : (Tryz.prog.info? 79).map (fun i => (i.zero, i.size, i.bytes)) = some (some (.agg #[.int .i64 0, .int .i64 0]), 2, 16) := by kernel_rfl
theorem mix_asg {L Z : List Value} {m : Nat} {u0 u1 : Value} (hl : L.length = Z.length) (h0 : L[m]? = some u0) (h1 : L[m + 1]? = some u1) : (((mix L Z m).set m u0).set (m + 1) u1) = mix L Z (m + 2) := by
  rw [mix_set hl h0]
  rw [mix_set hl h1]
theorem c_toAssign (v : Int) (x : Int) (w : World) : Calls Tryz.prog 94 #[.agg #[.int .i64 v, .int .i64 x]] w fun e w' => e = .returned (.agg #[.int .i64 v, .int .i64 x]) ∧ Below w.heap.size w w' := by
  go_enter Tryz.func94, Tryz.ntmps94
  go_wp2
  refine bodyPost_ret (v := .agg #[.int .i64 v, .int .i64 x]) (by simp [results, Tryz.results94, go_sem]) rfl ⟨rfl, by (repeat (first | exact Below.refl _ _ | assumption | refine below_alloc ?_ _ | refine below_drewN ?_ _ | refine below_set ?_ _ (by simp; try omega) | refine Below.drew ?_))⟩
/-- What is handed back is a new list of the call's own that holds l. -/
def RetAsg (l : List Asg) (w : World) (e : Ending) (w' : World) : Prop :=
  ∃ A c, e = .returned (.slice A l.length c) ∧ w'.ownsRow w.heap.size 79 2 (.slice A l.length c) l.length (asgCells l) ∧ Below w.heap.size w w'
set_option maxRecDepth 100000 in
theorem c_toAssignS (A : Option Addr) (c n : Nat) (l : List Asg) (w : World) (hn : n = l.length) (hs : n ≤ 1048576) (hr : Rd w A (asgCells l)) :
    Calls Tryz.prog 71 #[.slice A n c] w (RetAsg l w) := by
  obtain ⟨i0, hi, hz0, hz1, hz2⟩ := info_parts info_iAssign
  have HN := Lib.hid hn
  have HZ : (asgCells l).length = n * 2 := by rw [asgCells_length, hn]
  clear hn
  go_enter Tryz.func71, Tryz.ntmps71
  go_wp2_with (first
    | (at_make
       refine wpList_make_full _ rfl (.tmp 6) (.tmp 6) _ rfl w.heap.size 79 i0 _ 2 Tryz.underlying73 hi hz0 hz1 .i64 .i64 _ _ n rfl rfl rfl rfl (by rw [hz2]; omega) (by unfold maxLen; omega) (Nat.le_refl _) ?_
       intro w1 hown hgrow)
    )
  have hb1 : Below w.heap.size w w1 := below_of_grown (Below.refl _ _) hgrow (by simp)
  have hZ : (madeCells (Value.agg #[.int .i64 0, .int .i64 0]).cells (n * 2)).toList.length = n * 2 := by simp [size_madeCells]
  generalize (madeCells (Value.agg #[.int .i64 0, .int .i64 0]).cells (n * 2)).toList = Z at hown hZ
  have hLZ := Lib.hid (HZ.trans hZ.symm)
  have HZZ := Lib.hid HZ
  clear hZ HZ hgrow
  go_loopw [4] (fun i wr => ∃ k : Nat, k ≤ n ∧ i = .int .i64 k ∧ wr.ownsRow w.heap.size 79 2 (.slice (some ⟨w.heap.size, 0, none⟩) n n) n (mix (asgCells l) Z (k * 2)) ∧ Below w.heap.size w wr) (fun i _ => n - (intOf i).toNat)
  case atStart => exact ⟨0, Nat.zero_le _, rfl, by rw [Nat.zero_mul, mix_zero]; exact hown, hb1⟩
  case round =>
    obtain ⟨k, hk, rfl, ho, hb⟩ := hrel
    clear hown hb1
    by_cases hlt : k < n
    · obtain ⟨s, hs0⟩ : ∃ s, l[k]? = some s := ⟨_, List.getElem?_eq_getElem (by have := HN.out; omega)⟩
      obtain ⟨u0, u1⟩ := asgCells_at hs0
      have HM := Lib.hid (mix_asg hLZ.out u0 u1)
      clear u0 u1
      obtain ⟨b, off, rfl, _, g0, g1⟩ := (hr.below hb).asg hs0
      have HO := Lib.hid ho
      have HB := Lib.hid hb
      clear hs0 ho hb hr
      go_wp2_with (first
        | (go_at_call 94
           refine (c_toAssign _ _ _).mono ?_
           rintro e w2 ⟨rfl, hb2⟩
           have ho1 := own_below HO.out hb2
           have f0 := ho1.frozenAt (k * 2)
           obtain ⟨o0, e0⟩ := own_cell ho1 (j := k * 2) (by omega)
           have f1 := ho1.frozenAt (k * 2 + 1)
           obtain ⟨o1, e1⟩ := own_cell ho1 (j := k * 2 + 1) (by omega)
           have HST := Lib.hid ((ho1.stored (k * 2) (.int .i64 s.v)).1.stored (k * 2 + 1) (.int .i64 s.x)).1
           have HB2 := Lib.hid (below_chain HB.out hb2)
           clear ho1 hb2 g0 g1)
        )
      go_roundw
      case rel =>
        refine ⟨k + 1, by omega, by go_num, ?_, ?_⟩
        · rw [show (k + 1) * 2 = k * 2 + 2 from by omega, ← HM.out]
          exact HST.out
        · exact below_set (below_set HB2.out _ (Nat.le_refl _)) _ (Nat.le_refl _)
      case measure => simp [intOf]; omega
    · have : k = n := by omega
      subst this
      go_wp2
      go_ret
      have e := HN.out
      rw [mix_all (by rw [HZZ.out]; exact Nat.le_refl _) (by rw [← hLZ.out, HZZ.out]; exact Nat.le_refl _)] at ho
      subst e
      exact ⟨_, _, rfl, ho, hb⟩
set_option maxRecDepth 100000 in
theorem c_eqAssign (v : Int) (x : Int) (w : World) : Calls Tryz.prog 110 #[.agg #[.int .i64 v, .int .i64 x], .agg #[.int .i64 v, .int .i64 x]] w fun e w' => e = .returned (.bool true) ∧ Below w.heap.size w w' := by
  go_enter Tryz.func110, Tryz.ntmps110
  go_wp2
  all_goals go_ret
  all_goals (refine ⟨rfl, by (repeat (first | exact Below.refl _ _ | assumption | refine below_alloc ?_ _ | refine below_drewN ?_ _ | refine below_set ?_ _ (by simp; try omega) | refine Below.drew ?_))⟩)
set_option maxRecDepth 100000 in
theorem c_eqAssignS (A A' : Option Addr) (c c' n n' : Nat) (l : List Asg) (w : World) (hn : n = l.length) (hn' : n' = l.length) (hs : l.length ≤ 1048576) (hr : Rd w A (asgCells l)) (hr' : Rd w A' (asgCells l)) :
    Calls Tryz.prog 85 #[.slice A n c, .slice A' n' c'] w fun e w' => e = .returned (.bool true) ∧ Below w.heap.size w w' := by
  subst hn
  subst hn'
  go_enter Tryz.func85, Tryz.ntmps85
  go_wp2
  go_loopw [5] (fun i wr => ∃ k : Nat, k ≤ l.length ∧ i = .int .i64 k ∧ Below w.heap.size w wr) (fun i _ => l.length - (intOf i).toNat)
  case atStart => exact ⟨0, Nat.zero_le _, rfl, Below.refl _ _⟩
  case round =>
    obtain ⟨k, hk, rfl, hb⟩ := hrel
    by_cases hlt : k < l.length
    · obtain ⟨s, hz⟩ : ∃ z, l[k]? = some z := ⟨_, List.getElem?_eq_getElem hlt⟩
      obtain ⟨b, off, rfl, _, g0, g1⟩ := (hr.below hb).asg hz
      obtain ⟨b', off', rfl, _, e0, e1⟩ := (hr'.below hb).asg hz
      have HB := Lib.hid hb
      clear hz hb hr hr'
      go_wp2
      go_still_tail 8, (by kernel_rfl)
      change wpList _ _ _ _ _ wr.drew
      have HB2 := Lib.hid (below_drewN HB.out 1)
      go_wp2_with (first
        | (go_at_call 110
           refine (c_eqAssign _ _ _).mono ?_
           rintro e w2 ⟨rfl, hb2⟩
           have HB3 := Lib.hid (below_chain HB.out.drew hb2)
           clear hb2)
        )
      go_roundw
      case rel => exact ⟨k + 1, by omega, by go_num, HB3.out⟩
      case measure => simp [intOf]; omega
    · have : k = l.length := by omega
      subst this
      go_wp2
      go_ret
      exact ⟨rfl, hb⟩
theorem c_szAssignS (A : Option Addr) (c n : Nat) (left : Int) (w : World) (hn : n ≤ 9223372036854775807) (h0 : 0 ≤ left) (h1 : left ≤ 1048576) :
    Calls Tryz.prog 66 #[.slice A n c, .int .i64 left] w fun e w' => e = .returned (.int .i64 (szI left n)) ∧ w = w' := by
  go_enter Tryz.func66, Tryz.ntmps66
  go_wp2
  all_goals go_ret
  all_goals (refine ⟨?_, rfl⟩; simp [szI]; try omega)
end Go.Proofs.YtdjehopcpjkgjaaGreat

/- Contracts of the laws' own copies of rules. No condition but the lists' sizes. -/
namespace Go.Proofs.YtdjehopcpjkgjaaGreat
open Go.RowKit

/-- A rule. -/
structure Rul where
  nm : ByteArray
  gs : List Tst
  es : List Asg
/-- A rule as it lies in memory. -/
structure RuD where
  r : Rul
  ag : Option Addr
  cg : Nat
  ae : Option Addr
  ce : Nat
def RuD.vg (d : RuD) : Value := .slice d.ag d.r.gs.length d.cg
def RuD.ve (d : RuD) : Value := .slice d.ae d.r.es.length d.ce
def RuD.cells (d : RuD) : List Value := [.string d.r.nm, d.vg, d.ve]
def rudCells (ds : List RuD) : List Value := ds.flatMap RuD.cells
theorem rudCells_length (l : List RuD) : (rudCells l).length = l.length * 3 := by
  induction l with
  | nil => rfl
  | cons s t ih => simp only [rudCells, List.flatMap_cons, List.length_append, List.length_cons] at ih ⊢; rw [ih]; simp [RuD.cells]; omega
theorem rudCells_snoc (l : List RuD) (d : RuD) : rudCells (l ++ [d]) = rudCells l ++ [.string d.r.nm, d.vg, d.ve] := by simp [rudCells, RuD.cells]
theorem rudCells_get {s : RuD} {i : Nat} (hi : i < 3) : ∀ {l : List RuD} {k : Nat}, l[k]? = some s → (rudCells l)[k * 3 + i]? = s.cells[i]?
  | [], k, h => by simp at h
  | t :: l, 0, h => by
    simp only [List.getElem?_cons_zero, Option.some.injEq] at h
    subst h
    simp only [rudCells, List.flatMap_cons, Nat.zero_mul, Nat.zero_add]
    rw [List.getElem?_append_left (by simp [RuD.cells]; omega)]
  | t :: l, k + 1, h => by
    simp only [List.getElem?_cons_succ] at h
    have := rudCells_get hi h
    simp only [rudCells, List.flatMap_cons] at this ⊢
    rw [List.getElem?_append_right (by simp [RuD.cells]; omega), ← this]
    congr 1
    simp [RuD.cells]; omega
theorem rudCells_at {s : RuD} {l : List RuD} {k : Nat} (h : l[k]? = some s) : (rudCells l)[k * 3]? = some (.string s.r.nm) ∧ (rudCells l)[k * 3 + 1]? = some s.vg ∧ (rudCells l)[k * 3 + 2]? = some s.ve :=
  ⟨rudCells_get (i := 0) (by omega) h, rudCells_get (i := 1) (by omega) h, rudCells_get (i := 2) (by omega) h⟩
/-- The slice value `.slice A l.length c` holds the rules l. -/
def Rl (w : World) (A : Option Addr) (l : List Rul) : Prop :=
  ∃ ds : List RuD, ds.map RuD.r = l ∧ Rd w A (rudCells ds) ∧ ∀ d ∈ ds, Rd w d.ag (tstCells d.r.gs) ∧ Rd w d.ae (asgCells d.r.es)
theorem Rl.below {w w1 : World} {A : Option Addr} {l : List Rul} (h : Rl w A l) (hb : Below w.heap.size w w1) : Rl w1 A l := by
  obtain ⟨ds, e, h1, h2⟩ := h
  exact ⟨ds, e, h1.below hb, fun d hd => ⟨(h2 d hd).1.below hb, (h2 d hd).2.below hb⟩⟩
theorem Rl.alloc {w : World} {A : Option Addr} {l : List Rul} (h : Rl w A l) (o : Obj) : Rl (w.alloc o) A l := h.below (below_alloc (Below.refl _ _) o)
/-- What one rule of the list reads. -/
theorem Rl.at {w : World} {A : Option Addr} {l : List Rul} {k : Nat} {r : Rul} (h : Rl w A l) (hk : l[k]? = some r) : ∃ b off ag cg ae ce, A = some ⟨b, off, none⟩ ∧ b < w.heap.size ∧ w.cell? ⟨b, off + k * 3, none⟩ = some (.string r.nm) ∧
    w.cell? ⟨b, off + k * 3 + 1, none⟩ = some (.slice ag r.gs.length cg) ∧ w.cell? ⟨b, off + k * 3 + 2, none⟩ = some (.slice ae r.es.length ce) ∧ Rd w ag (tstCells r.gs) ∧ Rd w ae (asgCells r.es) := by
  obtain ⟨ds, rfl, h1, h2⟩ := h
  rw [List.getElem?_map, Option.map_eq_some_iff] at hk
  obtain ⟨d, hd, rfl⟩ := hk
  obtain ⟨u0, u1, u2⟩ := rudCells_at hd
  obtain ⟨b, off, rfl, hb, hc⟩ := h1.some_ (by intro e; rw [e] at u0; simp at u0)
  have hm := h2 d (List.mem_of_getElem? hd)
  exact ⟨b, off, d.ag, d.cg, d.ae, d.ce, rfl, hb, hc _ _ u0, hc _ _ u1, hc _ _ u2, hm.1, hm.2⟩
/-- The two rows behind a rule are the call's own. -/
def Nest (w : World) (base : Nat) (d : RuD) : Prop := w.ownsRow base 100 3 d.vg d.r.gs.length (tstCells d.r.gs) ∧ w.ownsRow base 79 2 d.ve d.r.es.length (asgCells d.r.es)
theorem Nest.below {w w1 : World} {base : Nat} {d : RuD} (h : Nest w base d) (hb : Below w.heap.size w w1) : Nest w1 base d := ⟨own_below h.1 hb, own_below h.2 hb⟩
theorem Nest.mono {w : World} {base base' : Nat} {d : RuD} (h : Nest w base d) (hb : base' ≤ base) : Nest w base' d := ⟨own_mono h.1 hb, own_mono h.2 hb⟩
theorem kept_far {w w' : World} {row : Option Nat} {base : Nat} {e : TypeId} {size n : Nat} {v : Value} {xs : List Value} (h : w.ownsRow base e size v n xs) (hg : w.grownBy w' row) (hlt : ∀ q, row = some q → q < base) : w'.ownsRow base e size v n xs := by
  refine h.kept hg ?_
  rcases hv : v.ownBlock with _ | q
  · exact .inl rfl
  · refine .inr fun h' => ?_
    have := (h.lt q hv).1
    have := hlt q h'.symm
    omega
theorem Nest.far {w w1 : World} {base : Nat} {d : RuD} {row : Option Nat} (h : Nest w base d) (hg : w.grownBy w1 row) (hlt : ∀ q, row = some q → q < base) : Nest w1 base d := ⟨kept_far h.1 hg hlt, kept_far h.2 hg hlt⟩
theorem grown_trans {w a b : World} {row : Option Nat} (h : w.grownBy a row) (h2 : a.grownBy b row) : w.grownBy b row :=
  ⟨h2.os.trans h.os, h2.tape.trans h.tape, h2.output.trans h.output, Nat.le_trans h.size h2.size, fun k hk hne => (h2.block k (Nat.lt_of_lt_of_le hk h.size) hne).trans (h.block k hk hne)⟩
theorem app_set {xs Z : List Value} {m : Nat} (u : Value) (hx : xs.length = m) (hz : m < Z.length) : (xs ++ Z.drop m).set m u = (xs ++ [u]) ++ Z.drop (m + 1) := by
  have hz' : Z.drop m = Z[m] :: Z.drop (m + 1) := List.drop_eq_getElem_cons hz
  rw [List.set_append_right _ _ (by omega), hx, Nat.sub_self, hz', List.set_cons_zero]
  simp
theorem app_set3 {xs Z : List Value} {m : Nat} (u0 u1 u2 : Value) (hx : xs.length = m) (hz : m + 3 ≤ Z.length) : ((((xs ++ Z.drop m).set m u0).set (m + 1) u1).set (m + 2) u2) = (xs ++ [u0, u1, u2]) ++ Z.drop (m + 3) := by
  rw [app_set u0 hx (by omega), app_set u1 (by simp [hx]) (by omega), app_set u2 (by simp [hx]) (by omega)]
  simp
/-- What is handed back is a rule with rows of the call's own. -/
def RetRul (r : Rul) (w : World) (e : Ending) (w' : World) : Prop :=
  ∃ d : RuD, d.r = r ∧ e = .returned (.agg #[.string r.nm, d.vg, d.ve]) ∧ Nest w' w.heap.size d ∧ Below w.heap.size w w'
set_option maxRecDepth 100000 in
theorem c_toRule (r : Rul) (ag ae : Option Addr) (cg ce : Nat) (w : World) (hsg : r.gs.length ≤ 1048576) (hse : r.es.length ≤ 1048576) (hg : Rd w ag (tstCells r.gs)) (he : Rd w ae (asgCells r.es)) :
    Calls Tryz.prog 48 #[.agg #[.string r.nm, .slice ag r.gs.length cg, .slice ae r.es.length ce]] w (RetRul r w) := by
  obtain ⟨nm, gs, es⟩ := r
  simp only at hsg hse hg he ⊢
  have HE := Lib.hid he
  clear he
  go_enter Tryz.func48, Tryz.ntmps48
  go_wp2_with (first
    | (go_at_call 70
       refine (c_toTestS _ _ _ gs _ rfl hsg (((hg.alloc _).alloc _).alloc _)).mono ?_
       rintro e w1 ⟨A1, c1, rfl, ho, hb⟩
       have kr : w1.cell? ⟨w.heap.size, 2, none⟩ = some (.slice ae es.length ce) := cell_later hb (by go_simp)
       have o0 : w1.cell? ⟨w.heap.size + 1 + 1, 0, none⟩ = some (.string nm) := cell_later hb (by go_simp)
       have o1 : w1.cell? ⟨w.heap.size + 1 + 1, 1, none⟩ = some (.slice none 0 0) := cell_later hb (by go_simp)
       have o2 : w1.cell? ⟨w.heap.size + 1 + 1, 2, none⟩ = some (.slice none 0 0) := cell_later hb (by go_simp)
       have p0 : w1.cell? ⟨w.heap.size + 1, 0, none⟩ = some (.string ⟨#[]⟩) := cell_later hb (by go_simp)
       have p1 : w1.cell? ⟨w.heap.size + 1, 1, none⟩ = some (.slice none 0 0) := cell_later hb (by go_simp)
       have p2 : w1.cell? ⟨w.heap.size + 1, 2, none⟩ = some (.slice none 0 0) := cell_later hb (by go_simp)
       have f1 : w1.frozen? ⟨w.heap.size + 1 + 1, 1, none⟩ = false := frozen_later hb (by simp) (by go_simp)
       have f2 : w1.frozen? ⟨w.heap.size + 1 + 1, 2, none⟩ = false := frozen_later hb (by simp) (by go_simp)
       have e0 : w1.frozen? ⟨w.heap.size + 1, 0, none⟩ = false := frozen_later hb (by simp) (by go_simp)
       have e1 : w1.frozen? ⟨w.heap.size + 1, 1, none⟩ = false := frozen_later hb (by simp) (by go_simp)
       have e2 : w1.frozen? ⟨w.heap.size + 1, 2, none⟩ = false := frozen_later hb (by simp) (by go_simp)
       have B := Lib.hid (below_chain (by (repeat (first | exact Below.refl _ _ | assumption | refine below_alloc ?_ _ | refine below_drewN ?_ _ | refine below_set ?_ _ (by simp; try omega) | refine Below.drew ?_)) : Below w.heap.size w _) hb)
       have HO := Lib.hid ho
       have hz := World.block_lt_of_cell? _ _ o0
       clear hb ho hg)
    | (go_at_call 71
       refine (c_toAssignS _ _ _ es _ rfl hse (HE.out.below (below_set B.out _ (by simp; try omega)))).mono ?_
       rintro e w2 ⟨A2, c2, rfl, ho2, hb2⟩
       have q0 : w2.cell? ⟨w.heap.size + 1 + 1, 0, none⟩ = some (.string nm) := cell_later hb2 (by go_simp)
       have q1 : w2.cell? ⟨w.heap.size + 1 + 1, 1, none⟩ = some (.slice A1 gs.length c1) := cell_later hb2 (by go_simp)
       have q2 : w2.cell? ⟨w.heap.size + 1 + 1, 2, none⟩ = some (.slice none 0 0) := cell_later hb2 (by go_simp)
       have r0 : w2.cell? ⟨w.heap.size + 1, 0, none⟩ = some (.string ⟨#[]⟩) := cell_later hb2 (by go_simp)
       have r1 : w2.cell? ⟨w.heap.size + 1, 1, none⟩ = some (.slice none 0 0) := cell_later hb2 (by go_simp)
       have r2 : w2.cell? ⟨w.heap.size + 1, 2, none⟩ = some (.slice none 0 0) := cell_later hb2 (by go_simp)
       have g2 : w2.frozen? ⟨w.heap.size + 1 + 1, 2, none⟩ = false := frozen_later hb2 (by simp; omega) (by go_simp)
       have h0 : w2.frozen? ⟨w.heap.size + 1, 0, none⟩ = false := frozen_later hb2 (by simp; omega) (by go_simp)
       have h1 : w2.frozen? ⟨w.heap.size + 1, 1, none⟩ = false := frozen_later hb2 (by simp; omega) (by go_simp)
       have h2 : w2.frozen? ⟨w.heap.size + 1, 2, none⟩ = false := frozen_later hb2 (by simp; omega) (by go_simp)
       have B2 := Lib.hid (below_chain (below_set B.out _ (by simp; try omega)) hb2)
       have HO1 := Lib.hid (own_below (ownsRow_setCell_below HO.out (by simp) _) hb2)
       have HO2 := Lib.hid ho2
       have hz2 := World.block_lt_of_cell? _ _ q0
       clear hb2 ho2 kr o0 o1 o2 p0 p1 p2 f1 f2 e0 e1 e2 B HO)
    )
  refine bodyPost_ret (v := .agg #[.string nm, .slice A1 gs.length c1, .slice A2 es.length c2]) (by simp [results, Tryz.results48, go_sem, r0, r1, r2]) rfl ⟨⟨⟨nm, gs, es⟩, A1, c1, A2, c2⟩, rfl, rfl, ⟨?_, ?_⟩, ?_⟩
  · exact own_mono (ownsRow_setCell_below (ownsRow_setCell_below (ownsRow_setCell_below (ownsRow_setCell_below HO1.out (by simp) _) (by simp) _) (by simp) _) (by simp) _) (by simp; omega)
  · exact own_mono (ownsRow_setCell_below (ownsRow_setCell_below (ownsRow_setCell_below (ownsRow_setCell_below HO2.out (by simp; omega) _) (by simp; omega) _) (by simp; omega) _) (by simp; omega) _) (by simp; omega)
  · exact below_set (below_set (below_set (below_set B2.out _ (by simp; try omega)) _ (by simp; try omega)) _ (by simp; try omega)) _ (by simp; try omega)
theorem info_iRule : (Tryz.prog.info? 75).map (fun i => (i.zero, i.size, i.bytes)) = some (some (.agg #[.string ⟨#[]⟩, .slice none 0 0, .slice none 0 0]), 3, 64) := by kernel_rfl
/-- What is handed back is a list of rules of the call's own. -/
def RetRuls (l : List Rul) (w : World) (e : Ending) (w' : World) : Prop :=
  ∃ A c, ∃ ds : List RuD, e = .returned (.slice A l.length c) ∧ ds.map RuD.r = l ∧ w'.ownsRow w.heap.size 75 3 (.slice A l.length c) l.length (rudCells ds) ∧ (∀ d ∈ ds, Nest w' w.heap.size d) ∧ Below w.heap.size w w'
def RulOk (l : List Rul) : Prop := l.length ≤ 1048576 ∧ ∀ r ∈ l, r.gs.length ≤ 1048576 ∧ r.es.length ≤ 1048576
set_option maxRecDepth 100000 in
theorem c_toRuleS (A : Option Addr) (c n : Nat) (l : List Rul) (w : World) (hn : n = l.length) (hs : RulOk l) (hr : Rl w A l) :
    Calls Tryz.prog 28 #[.slice A n c] w (RetRuls l w) := by
  obtain ⟨i0, hi, hz0, hz1, hz2⟩ := info_parts info_iRule
  have HN := Lib.hid hn
  have HS := Lib.hid hs.2
  have hs1 : n ≤ 1048576 := by rw [hn]; exact hs.1
  clear hn hs
  go_enter Tryz.func28, Tryz.ntmps28
  go_wp2_with (first
    | (at_make
       refine wpList_make_full _ rfl (.tmp 6) (.tmp 6) _ rfl w.heap.size 75 i0 _ 3 Tryz.underlying30 hi hz0 hz1 .i64 .i64 _ _ n rfl rfl rfl rfl (by rw [hz2]; omega) (by unfold maxLen; omega) (Nat.le_refl _) ?_
       intro w1 hown hgrow)
    )
  have hb1 : Below w.heap.size w w1 := below_of_grown (Below.refl _ _) hgrow (by simp)
  have hZ : (madeCells (Value.agg #[.string ⟨#[]⟩, .slice none 0 0, .slice none 0 0]).cells (n * 3)).toList.length = n * 3 := by simp [size_madeCells]
  generalize (madeCells (Value.agg #[.string ⟨#[]⟩, .slice none 0 0, .slice none 0 0]).cells (n * 3)).toList = Z at hown hZ
  have HZ := Lib.hid hZ
  clear hZ hgrow
  go_loopw [4] (fun i wr => ∃ k : Nat, k ≤ n ∧ i = .int .i64 k ∧ (∃ ds : List RuD, ds.map RuD.r = l.take k ∧ wr.ownsRow w.heap.size 75 3 (.slice (some ⟨w.heap.size, 0, none⟩) n n) n (rudCells ds ++ Z.drop (k * 3)) ∧ (∀ d ∈ ds, Nest wr (w.heap.size + 1) d)) ∧ Below w.heap.size w wr ∧ w.heap.size < wr.heap.size) (fun i _ => n - (intOf i).toNat)
  case atStart => exact ⟨0, Nat.zero_le _, rfl, ⟨[], by simp, by simpa [rudCells] using hown, by simp⟩, hb1, (hown.lt _ rfl).2⟩
  case round =>
    obtain ⟨k, hk, rfl, ⟨ds, hds, ho, hnest⟩, hb, hsz⟩ := hrel
    clear hown hb1
    have HD := Lib.hid hds
    have HNE := Lib.hid hnest
    clear hds hnest
    by_cases hlt : k < n
    · obtain ⟨r, hr0⟩ : ∃ s, l[k]? = some s := ⟨_, List.getElem?_eq_getElem (by have := HN.out; omega)⟩
      obtain ⟨b, off, ag, cg, ae, ce, rfl, _, g0, g1, g2, hrg, hre⟩ := (hr.below hb).at hr0
      have hok := HS.out r (List.mem_of_getElem? hr0)
      have HR := Lib.hid hr0
      have HOK := Lib.hid hok
      have HRG := Lib.hid hrg
      have HRE := Lib.hid hre
      have HO := Lib.hid ho
      have HB := Lib.hid hb
      clear hr0 ho hb hr hrg hre hok
      go_wp2_with (first
        | (go_at_call 48
           refine (c_toRule r _ _ _ _ _ HOK.out.1 HOK.out.2 HRG.out HRE.out).mono ?_
           rintro e w2 ⟨⟨r', A1, c1, A2, c2⟩, hdr, rfl, hd2, hb2⟩
           change r' = r at hdr
           subst r'
           dsimp only [RuD.vg, RuD.ve]
           have ho1 := own_below HO.out hb2
           have f0 := ho1.frozenAt (k * 3)
           obtain ⟨o0, e0⟩ := own_cell ho1 (j := k * 3) (by omega)
           have f1 := ho1.frozenAt (k * 3 + 1)
           obtain ⟨o1, e1⟩ := own_cell ho1 (j := k * 3 + 1) (by omega)
           have f2 := ho1.frozenAt (k * 3 + 2)
           obtain ⟨o2, e2⟩ := own_cell ho1 (j := k * 3 + 2) (by omega)
           have HST := Lib.hid (((ho1.stored (k * 3) (.string r.nm)).1.stored (k * 3 + 1) (.slice A1 r.gs.length c1)).1.stored (k * 3 + 2) (.slice A2 r.es.length c2)).1
           have HG := Lib.hid (grown_trans (grown_trans (ho1.stored (k * 3) (.string r.nm)).2 ((ho1.stored (k * 3) (.string r.nm)).1.stored (k * 3 + 1) (.slice A1 r.gs.length c1)).2) (((ho1.stored (k * 3) (.string r.nm)).1.stored (k * 3 + 1) (.slice A1 r.gs.length c1)).1.stored (k * 3 + 2) (.slice A2 r.es.length c2)).2)
           have HN2 := Lib.hid (fun d' hd' => (HNE.out d' hd').below hb2)
           have HD2 := Lib.hid (hd2.mono (show w.heap.size + 1 ≤ wr.heap.size from hsz))
           have HB2 := Lib.hid (below_chain HB.out hb2)
           have hsz2 := Nat.lt_of_lt_of_le hsz hb2.size
           clear ho1 hb2 hd2 g0 g1 g2 HNE HB HO)
        )
      go_roundw
      case rel =>
        have hlen : ds.length = k := by have := congrArg List.length HD.out; simp at this; have := HN.out; omega
        refine ⟨k + 1, by omega, by go_num, ⟨ds ++ [⟨r, A1, c1, A2, c2⟩], ?_, ?_, ?_⟩, below_set (below_set (below_set HB2.out _ (Nat.le_refl _)) _ (Nat.le_refl _)) _ (Nat.le_refl _), by simpa using hsz2⟩
        · rw [List.map_append, HD.out, List.take_add_one, HR.out]
          rfl
        · have := HST.out
          rw [app_set3 _ _ _ (by rw [rudCells_length, hlen]) (by rw [HZ.out]; omega), show k * 3 + 3 = (k + 1) * 3 by omega] at this
          rw [rudCells_snoc]
          exact this
        · intro d' hd'
          rw [List.mem_append, List.mem_singleton] at hd'
          have hlt2 : ∀ q, (Value.slice (some ⟨w.heap.size, 0, none⟩) n n).ownBlock = some q → q < w.heap.size + 1 := by intro q hq; simp [Value.ownBlock] at hq; omega
          rcases hd' with hd' | rfl
          · exact (HN2.out d' hd').far HG.out hlt2
          · exact HD2.out.far HG.out hlt2
      case measure => simp [intOf]; omega
    · have : k = n := by omega
      subst this
      have e := HN.out
      have hds := HD.out
      rw [List.take_of_length_le (by omega)] at hds
      have HO := Lib.hid ho
      have HB := Lib.hid hb
      clear ho hb hr
      go_wp2
      go_ret
      have ho := HO.out
      have hlen : ds.length = l.length := by rw [← hds]; simp
      rw [List.drop_eq_nil_of_le (by rw [HZ.out]; exact Nat.le_refl _), List.append_nil] at ho
      subst e
      exact ⟨_, _, ds, rfl, hds, ho, fun d hd => (HNE.out d hd).mono (by omega), HB.out⟩
end Go.Proofs.YtdjehopcpjkgjaaGreat

/- Contracts of the laws' own comparisons and sizes of rules and models. No condition but the lists' sizes. -/
namespace Go.Proofs.YtdjehopcpjkgjaaGreat
open Go.RowKit

set_option maxRecDepth 100000 in
theorem c_eqRule (r : Rul) (ag ae ag' ae' : Option Addr) (cg ce cg' ce' : Nat) (w : World) (hsg : r.gs.length ≤ 1048576) (hse : r.es.length ≤ 1048576) (hg : Rd w ag (tstCells r.gs)) (he : Rd w ae (asgCells r.es)) (hg' : Rd w ag' (tstCells r.gs)) (he' : Rd w ae' (asgCells r.es)) :
    Calls Tryz.prog 56 #[.agg #[.string r.nm, .slice ag r.gs.length cg, .slice ae r.es.length ce], .agg #[.string r.nm, .slice ag' r.gs.length cg', .slice ae' r.es.length ce']] w fun e w' => e = .returned (.bool true) ∧ Below w.heap.size w w' := by
  obtain ⟨nm, gs, es⟩ := r
  simp only at hsg hse hg he hg' he' ⊢
  have HE := Lib.hid he
  have HE' := Lib.hid he'
  clear he he'
  go_enter Tryz.func56, Tryz.ntmps56
  go_wp2_with (first
    | (go_at_call 84
       refine (c_eqTestS _ _ _ _ _ _ gs _ rfl rfl hsg ((hg.alloc _).alloc _) ((hg'.alloc _).alloc _)).mono ?_
       rintro e w1 ⟨rfl, hb⟩
       have k1 : w1.cell? ⟨w.heap.size, 2, none⟩ = some (.slice ae es.length ce) := cell_later hb (by go_simp)
       have k2 : w1.cell? ⟨w.heap.size + 1, 2, none⟩ = some (.slice ae' es.length ce') := cell_later hb (by go_simp)
       have B := Lib.hid (below_chain (by (repeat (first | exact Below.refl _ _ | assumption | refine below_alloc ?_ _ | refine below_drewN ?_ _ | refine below_set ?_ _ (by simp; try omega) | refine Below.drew ?_)) : Below w.heap.size w _) hb)
       clear hb hg hg')
    | (go_at_call 85
       refine (c_eqAssignS _ _ _ _ _ _ es _ rfl rfl hse (HE.out.below B.out) (HE'.out.below B.out)).mono ?_
       rintro e w2 ⟨rfl, hb⟩
       have B2 := Lib.hid (below_chain B.out hb)
       clear hb)
    )
  go_ret
  exact ⟨rfl, B2.out⟩
set_option maxRecDepth 100000 in
theorem c_eqRuleS (A A' : Option Addr) (c c' n n' : Nat) (l : List Rul) (w : World) (hn : n = l.length) (hn' : n' = l.length) (hs : RulOk l) (hr : Rl w A l) (hr' : Rl w A' l) :
    Calls Tryz.prog 32 #[.slice A n c, .slice A' n' c'] w fun e w' => e = .returned (.bool true) ∧ Below w.heap.size w w' := by
  subst hn
  subst hn'
  have HS := Lib.hid hs.2
  have hs1 := hs.1
  clear hs
  go_enter Tryz.func32, Tryz.ntmps32
  go_wp2
  go_loopw [5] (fun i wr => ∃ k : Nat, k ≤ l.length ∧ i = .int .i64 k ∧ Below w.heap.size w wr) (fun i _ => l.length - (intOf i).toNat)
  case atStart => exact ⟨0, Nat.zero_le _, rfl, Below.refl _ _⟩
  case round =>
    obtain ⟨k, hk, rfl, hb⟩ := hrel
    by_cases hlt : k < l.length
    · obtain ⟨r, hz⟩ : ∃ z, l[k]? = some z := ⟨_, List.getElem?_eq_getElem hlt⟩
      obtain ⟨b, off, ag, cg, ae, ce, rfl, _, g0, g1, g2, hg, he⟩ := (hr.below hb).at hz
      obtain ⟨b', off', ag', cg', ae', ce', rfl, _, e0, e1, e2, hg', he'⟩ := (hr'.below hb).at hz
      have HOK := Lib.hid (HS.out r (List.mem_of_getElem? hz))
      have HB := Lib.hid hb
      have H1 := Lib.hid hg
      have H2 := Lib.hid he
      have H3 := Lib.hid hg'
      have H4 := Lib.hid he'
      clear hz hb hr hr' hg he hg' he'
      go_wp2
      go_still_tail 8, (by kernel_rfl)
      change wpList _ _ _ _ _ wr.drew
      have HB2 := Lib.hid (below_drewN HB.out 1)
      go_wp2_with (first
        | (go_at_call 56
           refine (c_eqRule r _ _ _ _ _ _ _ _ _ HOK.out.1 HOK.out.2 H1.out.drew H2.out.drew H3.out.drew H4.out.drew).mono ?_
           rintro e w2 ⟨rfl, hb2⟩
           have HB3 := Lib.hid (below_chain HB.out.drew hb2)
           clear hb2)
        )
      go_roundw
      case rel => exact ⟨k + 1, by omega, by go_num, HB3.out⟩
      case measure => simp [intOf]; omega
    · have : k = l.length := by omega
      subst this
      go_wp2
      go_ret
      exact ⟨rfl, hb⟩
structure Mdl where
  sz : List Int
  st : List Int
  rs : List Rul
def MdlOk (m : Mdl) : Prop := m.sz.length ≤ 1048576 ∧ m.st.length ≤ 1048576 ∧ RulOk m.rs
/-- The model m ax it reads. -/
structure Md (w : World) (az ax ar : Option Addr) (m : Mdl) : Prop where
  z : Rd w az (ints m.sz)
  s : Rd w ax (ints m.st)
  r : Rl w ar m.rs
theorem Md.below {w w1 : World} {az ax ar : Option Addr} {m : Mdl} (h : Md w az ax ar m) (hb : Below w.heap.size w w1) : Md w1 az ax ar m := ⟨h.z.below hb, h.s.below hb, h.r.below hb⟩
theorem Md.alloc {w : World} {az ax ar : Option Addr} {m : Mdl} (h : Md w az ax ar m) (o : Obj) : Md (w.alloc o) az ax ar m := h.below (below_alloc (Below.refl _ _) o)
def mv (m : Mdl) (az ax ar : Option Addr) (cz cs cr : Nat) : Value := .agg #[.slice az m.sz.length cz, .slice ax m.st.length cs, .slice ar m.rs.length cr]
set_option maxRecDepth 100000 in
theorem c_eqModel (m : Mdl) (az ax ar az' ax' ar' : Option Addr) (cz cs cr cz' cs' cr' : Nat) (w : World) (hs : MdlOk m) (h : Md w az ax ar m) (h' : Md w az' ax' ar' m) :
    Calls Tryz.prog 12 #[mv m az ax ar cz cs cr, mv m az' ax' ar' cz' cs' cr'] w fun e w' => e = .returned (.bool true) ∧ Below w.heap.size w w' := by
  obtain ⟨sz, st, rs⟩ := m
  have hs1 := hs.1
  have hs2 := hs.2.1
  have HS := Lib.hid hs.2.2
  have H := Lib.hid h
  have H' := Lib.hid h'
  clear hs h h'
  dsimp only [mv] at hs1 hs2 ⊢
  go_enter Tryz.func12, Tryz.ntmps12
  go_wp2_with (fail)
  have B : Below w.heap.size w _ := below_alloc (below_alloc (Below.refl _ _) (.cells #[.slice az sz.length cz, .slice ax st.length cs, .slice ar rs.length cr] 32)) (.cells #[.slice az' sz.length cz', .slice ax' st.length cs', .slice ar' rs.length cr'] 32)
  refine (c_eqInt64S _ _ _ _ _ _ sz _ rfl rfl (by omega) (H.out.z.below B) (H'.out.z.below B)).mono ?_
  rintro e w1 ⟨rfl, hb⟩
  have k1 : w1.cell? ⟨w.heap.size, 1, none⟩ = some (.slice ax st.length cs) := cell_later hb (by go_simp)
  have k2 : w1.cell? ⟨w.heap.size, 2, none⟩ = some (.slice ar rs.length cr) := cell_later hb (by go_simp)
  have j1 : w1.cell? ⟨w.heap.size + 1, 1, none⟩ = some (.slice ax' st.length cs') := cell_later hb (by go_simp)
  have j2 : w1.cell? ⟨w.heap.size + 1, 2, none⟩ = some (.slice ar' rs.length cr') := cell_later hb (by go_simp)
  replace B := below_chain B hb
  clear hb
  go_wp2_with (fail)
  refine (c_eqInt64S _ _ _ _ _ _ st _ rfl rfl (by omega) (H.out.s.below B) (H'.out.s.below B)).mono ?_
  rintro e w2 ⟨rfl, hb⟩
  replace k2 := cell_later hb k2
  replace j2 := cell_later hb j2
  replace B := below_chain B hb
  clear hb k1 j1
  go_wp2_with (fail)
  refine (c_eqRuleS _ _ _ _ _ _ rs _ rfl rfl HS.out (H.out.r.below B) (H'.out.r.below B)).mono ?_
  rintro e w3 ⟨rfl, hb⟩
  replace B := below_chain B hb
  clear hb
  go_wp2_with (fail)
  go_ret
  exact ⟨rfl, B⟩
end Go.Proofs.YtdjehopcpjkgjaaGreat

/- Contracts of the laws' own sizes of rules and models. No condition but that the lengths are those of a run. -/
namespace Go.Proofs.YtdjehopcpjkgjaaGreat
open Go.RowKit

/-- The lengths of a rule are those of a run. -/
def SzOk (r : Rul) : Prop := r.nm.size ≤ 9223372036854775807 ∧ r.gs.length ≤ 9223372036854775807 ∧ r.es.length ≤ 9223372036854775807
/-- What a size may be: -1, or what is left of left, and then P holds. -/
def Left (left : Int) (P : Prop) (w : World) (e : Ending) (w' : World) : Prop := ∃ v : Int, e = .returned (.int .i64 v) ∧ (v = -1 ∨ (0 ≤ v ∧ v ≤ left ∧ P)) ∧ Below w.heap.size w w'
theorem szI_cases {left : Int} {n : Nat} : szI left n = -1 ∧ left - n < 0 ∨ szI left n = left - n ∧ 0 ≤ left - n := by
  unfold szI; split <;> omega
set_option maxRecDepth 100000 in
theorem c_szRule (r : Rul) (ag ae : Option Addr) (cg ce : Nat) (left : Int) (w : World) (hs : SzOk r) (h0 : 0 ≤ left) (h1 : left ≤ 1048576) :
    Calls Tryz.prog 43 #[.agg #[.string r.nm, .slice ag r.gs.length cg, .slice ae r.es.length ce], .int .i64 left] w (Left left (r.gs.length ≤ 1048576 ∧ r.es.length ≤ 1048576) w) := by
  obtain ⟨nm, gs, es⟩ := r
  obtain ⟨s0, s1, s2⟩ := hs
  dsimp only at s0 s1 s2 ⊢
  generalize gs.length = a at *
  generalize es.length = b at *
  have hw1 : IntKind.i64.wrap (left - (nm.size : Int)) = left - nm.size := IntWalk.i64_in _ (by omega)
  by_cases c0 : left - (nm.size : Int) < 0
  · skip
    go_enter Tryz.func43, Tryz.ntmps43
    go_wp2
    go_ret
    exact ⟨-1, rfl, .inl rfl, by (repeat (first | exact Below.refl _ _ | assumption | refine below_alloc ?_ _ | refine below_drewN ?_ _ | refine below_set ?_ _ (by simp; try omega) | refine Below.drew ?_))⟩
  rcases szI_cases (left := left - nm.size) (n := a) with ⟨e1, c1⟩ | ⟨e1, c1⟩
  · skip
    go_enter Tryz.func43, Tryz.ntmps43
    go_wp2_with (first
      | (go_at_call 65
         refine (c_szTestS _ _ _ _ _ s1 (by omega) (by omega)).mono ?_
         rintro e w' ⟨rfl, rfl⟩)
      )
    go_ret
    exact ⟨-1, rfl, .inl rfl, by (repeat (first | exact Below.refl _ _ | assumption | refine below_alloc ?_ _ | refine below_drewN ?_ _ | refine below_set ?_ _ (by simp; try omega) | refine Below.drew ?_))⟩
  rcases szI_cases (left := left - nm.size - a) (n := b) with ⟨e2, c2⟩ | ⟨e2, c2⟩
  · skip
    go_enter Tryz.func43, Tryz.ntmps43
    go_wp2_with (first
      | (go_at_call 65
         refine (c_szTestS _ _ _ _ _ s1 (by omega) (by omega)).mono ?_
         rintro e w' ⟨rfl, rfl⟩)
      | (go_at_call 66
         refine (c_szAssignS _ _ _ _ _ s2 (by omega) (by omega)).mono ?_
         rintro e w' ⟨rfl, rfl⟩)
      )
    go_ret
    exact ⟨-1, rfl, .inl rfl, by (repeat (first | exact Below.refl _ _ | assumption | refine below_alloc ?_ _ | refine below_drewN ?_ _ | refine below_set ?_ _ (by simp; try omega) | refine Below.drew ?_))⟩
  · skip
    go_enter Tryz.func43, Tryz.ntmps43
    go_wp2_with (first
      | (go_at_call 65
         refine (c_szTestS _ _ _ _ _ s1 (by omega) (by omega)).mono ?_
         rintro e w' ⟨rfl, rfl⟩)
      | (go_at_call 66
         refine (c_szAssignS _ _ _ _ _ s2 (by omega) (by omega)).mono ?_
         rintro e w' ⟨rfl, rfl⟩)
      )
    go_ret
    exact ⟨_, rfl, .inr ⟨by omega, by omega, by omega, by omega⟩, by (repeat (first | exact Below.refl _ _ | assumption | refine below_alloc ?_ _ | refine below_drewN ?_ _ | refine below_set ?_ _ (by simp; try omega) | refine Below.drew ?_))⟩
set_option maxRecDepth 100000 in
theorem c_szRuleS (A : Option Addr) (c n : Nat) (l : List Rul) (left : Int) (w : World) (hn : n = l.length) (hm : n ≤ 9223372036854775807) (hs : ∀ r ∈ l, SzOk r) (h0 : 0 ≤ left) (h1 : left ≤ 1048576) (hr : Rl w A l) :
    Calls Tryz.prog 23 #[.slice A n c, .int .i64 left] w (Left left (RulOk l) w) := by
  have HN := Lib.hid hn
  clear hn
  have hw1 : IntKind.i64.wrap (left - (n : Int)) = left - n := IntWalk.i64_in _ (by omega)
  by_cases c0 : left - (n : Int) < 0
  · skip
    go_enter Tryz.func23, Tryz.ntmps23
    go_wp2
    go_ret
    exact ⟨-1, rfl, .inl rfl, by (repeat (first | exact Below.refl _ _ | assumption | refine below_alloc ?_ _ | refine below_drewN ?_ _ | refine below_set ?_ _ (by simp; try omega) | refine Below.drew ?_))⟩
  go_enter Tryz.func23, Tryz.ntmps23
  go_wp2
  go_loopw [1, 5] (fun t i wr => ∃ k : Nat, ∃ v : Int, k ≤ n ∧ i = .int .i64 k ∧ t = .int .i64 v ∧ 0 ≤ v ∧ v ≤ left ∧ Hid (∀ r ∈ l.take k, r.gs.length ≤ 1048576 ∧ r.es.length ≤ 1048576) ∧ Below w.heap.size w wr) (fun _ i _ => n - (intOf i).toNat)
  case atStart => exact ⟨0, _, Nat.zero_le _, rfl, rfl, by omega, by omega, by simp [Hid], by (repeat (first | exact Below.refl _ _ | assumption | refine below_alloc ?_ _ | refine below_drewN ?_ _ | refine below_set ?_ _ (by simp; try omega) | refine Below.drew ?_))⟩
  case round =>
    obtain ⟨k, v, hk, rfl, rfl, hv0, hv1, ha, hb⟩ := hrel
    by_cases hlt : k < n
    · obtain ⟨r, hz⟩ : ∃ z, l[k]? = some z := ⟨_, List.getElem?_eq_getElem (by have := HN.out; omega)⟩
      obtain ⟨b, off, ag, cg, ae, ce, rfl, _, g0, g1, g2, hg, he⟩ := (hr.below hb).at hz
      have HOK := Lib.hid (hs r (List.mem_of_getElem? hz))
      have HZ := Lib.hid hz
      have HB := Lib.hid hb
      clear hz hb hr hg he hs
      go_wp2_with (fail)
      refine (c_szRule r _ _ _ _ v _ HOK.out hv0 (by omega)).mono ?_
      rintro e w2 ⟨u, rfl, hu, hb⟩
      have HB2 := Lib.hid (below_chain HB.out hb)
      clear hb HB
      rcases hu with rfl | ⟨u0, u1, u2, u3⟩
      · go_wp2
        go_ret
        exact ⟨-1, rfl, .inl rfl, HB2.out⟩
      · go_wp2
        go_roundw
        case rel =>
          refine ⟨k + 1, u, by omega, by go_num, rfl, u0, by omega, ?_, HB2.out⟩
          refine Lib.hid ?_
          intro r' hr'
          rw [List.take_add_one, HZ.out, List.mem_append] at hr'
          rcases hr' with hr' | hr'
          · exact ha.out r' hr'
          · simp at hr'
            subst hr'
            exact ⟨u2, u3⟩
        case measure => simp [intOf]; omega
    · have : k = n := by omega
      subst this
      have HA := Lib.hid ha
      clear ha
      go_wp2
      go_ret
      refine ⟨v, rfl, .inr ⟨hv0, hv1, by have := HN.out; omega, ?_⟩, hb⟩
      have := HA.out.out
      rwa [List.take_of_length_le (by have := HN.out; omega)] at this
/-- The lengths of a model are those of a run. -/
def MSzOk (m : Mdl) : Prop := m.sz.length ≤ 9223372036854775807 ∧ m.st.length ≤ 9223372036854775807 ∧ m.rs.length ≤ 9223372036854775807 ∧ ∀ r ∈ m.rs, SzOk r
theorem c_szInt64S (A : Option Addr) (c n : Nat) (left : Int) (w : World) (hn : n ≤ 9223372036854775807) (h0 : 0 ≤ left) (h1 : left ≤ 1048576) :
    Calls Tryz.prog 22 #[.slice A n c, .int .i64 left] w fun e w' => e = .returned (.int .i64 (szI left n)) ∧ w = w' := by
  go_enter Tryz.func22, Tryz.ntmps22
  go_wp2
  all_goals go_ret
  all_goals (refine ⟨?_, rfl⟩; simp [szI]; try omega)
set_option maxRecDepth 100000 in
theorem c_szModel (m : Mdl) (az ax ar : Option Addr) (cz cs cr : Nat) (left : Int) (w : World) (hs : MSzOk m) (h0 : 0 ≤ left) (h1 : left ≤ 1048576) (h : Md w az ax ar m) :
    Calls Tryz.prog 6 #[mv m az ax ar cz cs cr, .int .i64 left] w (Left left (MdlOk m) w) := by
  obtain ⟨sz, st, rs⟩ := m
  obtain ⟨s0, s1, s2, s3⟩ := hs
  dsimp only [mv] at s0 s1 s2 s3 ⊢
  have H := Lib.hid h
  have HS3 := Lib.hid s3
  clear h s3
  have HL := Lib.hid (show MdlOk ⟨sz, st, rs⟩ ↔ (sz.length ≤ 1048576 ∧ st.length ≤ 1048576 ∧ RulOk rs) from Iff.rfl)
  rcases szI_cases (left := left) (n := sz.length) with ⟨e1, c1⟩ | ⟨e1, c1⟩
  · skip
    go_enter Tryz.func6, Tryz.ntmps6
    go_wp2_with (first
      | (go_at_call 22
         refine (c_szInt64S _ _ _ _ _ s0 (by omega) (by omega)).mono ?_
         rintro e w' ⟨rfl, rfl⟩)
      )
    go_ret
    exact ⟨-1, rfl, .inl rfl, by (repeat (first | exact Below.refl _ _ | assumption | refine below_alloc ?_ _ | refine below_drewN ?_ _ | refine below_set ?_ _ (by simp; try omega) | refine Below.drew ?_))⟩
  rcases szI_cases (left := left - sz.length) (n := st.length) with ⟨e2, c2⟩ | ⟨e2, c2⟩
  · skip
    go_enter Tryz.func6, Tryz.ntmps6
    go_wp2_with (first
      | (go_at_call 22
         refine (c_szInt64S _ _ _ _ _ (by assumption) (by omega) (by omega)).mono ?_
         rintro e w' ⟨rfl, rfl⟩)
      )
    go_ret
    exact ⟨-1, rfl, .inl rfl, by (repeat (first | exact Below.refl _ _ | assumption | refine below_alloc ?_ _ | refine below_drewN ?_ _ | refine below_set ?_ _ (by simp; try omega) | refine Below.drew ?_))⟩
  go_enter Tryz.func6, Tryz.ntmps6
  go_wp2_with (first
    | (go_at_call 22
       refine (c_szInt64S _ _ _ _ _ (by assumption) (by omega) (by omega)).mono ?_
       rintro e w' ⟨rfl, rfl⟩)
    )
  refine (c_szRuleS _ _ _ rs _ _ rfl s2 HS3.out (by omega) (by omega) (H.out.r.alloc _)).mono ?_
  rintro e w2 ⟨u, rfl, hu, hb⟩
  have HB2 := Lib.hid (below_chain (below_alloc (Below.refl _ _) _) hb)
  clear hb
  rcases hu with rfl | ⟨u0, u1, u2⟩
  · go_wp2
    go_ret
    exact ⟨-1, rfl, .inl rfl, HB2.out⟩
  · have HU := Lib.hid u2
    clear u2
    go_wp2
    go_ret
    exact ⟨u, rfl, .inr ⟨u0, by omega, HL.out.2 ⟨by omega, by omega, HU.out⟩⟩, HB2.out⟩
end Go.Proofs.YtdjehopcpjkgjaaGreat

/- Contract of the laws' own copy of a model. No condition but the lists' sizes. -/
namespace Go.Proofs.YtdjehopcpjkgjaaGreat
open Go.RowKit

/-- The rows of a model are the call's own. -/
structure MOwn (w : World) (base : Nat) (az ax ar : Option Addr) (cz cs cr : Nat) (m : Mdl) (ds : List RuD) : Prop where
  z : w.ownsRow base 2 1 (.slice az m.sz.length cz) m.sz.length (ints m.sz)
  s : w.ownsRow base 2 1 (.slice ax m.st.length cs) m.st.length (ints m.st)
  r : w.ownsRow base 75 3 (.slice ar m.rs.length cr) m.rs.length (rudCells ds)
  e : ds.map RuD.r = m.rs
  d : ∀ d ∈ ds, Nest w base d
theorem Nest.rd {w : World} {base : Nat} {d : RuD} (h : Nest w base d) : Rd w d.ag (tstCells d.r.gs) ∧ Rd w d.ae (asgCells d.r.es) := ⟨Rd.own h.1, Rd.own h.2⟩
theorem MOwn.md {w : World} {base : Nat} {az ax ar : Option Addr} {cz cs cr : Nat} {m : Mdl} {ds : List RuD} (h : MOwn w base az ax ar cz cs cr m ds) : Md w az ax ar m :=
  ⟨Rd.own h.z, Rd.own h.s, ds, h.e, Rd.own h.r, fun d hd => (h.d d hd).rd⟩
theorem MOwn.below {w w1 : World} {base : Nat} {az ax ar : Option Addr} {cz cs cr : Nat} {m : Mdl} {ds : List RuD} (h : MOwn w base az ax ar cz cs cr m ds) (hb : Below w.heap.size w w1) : MOwn w1 base az ax ar cz cs cr m ds :=
  ⟨own_below h.z hb, own_below h.s hb, own_below h.r hb, h.e, fun d hd => (h.d d hd).below hb⟩
theorem Nest.set {w : World} {base : Nat} {d : RuD} (h : Nest w base d) {p : Addr} (hp : p.block < base) (v : Value) : Nest (w.setCell p v) base d := ⟨ownsRow_setCell_below h.1 hp v, ownsRow_setCell_below h.2 hp v⟩
/-- What is handed back is a model of the call's own. -/
def RetMdl (m : Mdl) (w : World) (e : Ending) (w' : World) : Prop :=
  ∃ az ax ar cz cs cr, ∃ ds : List RuD, e = .returned (mv m az ax ar cz cs cr) ∧ MOwn w' w.heap.size az ax ar cz cs cr m ds ∧ Below w.heap.size w w'
set_option maxHeartbeats 1000000 in
set_option maxRecDepth 100000 in
theorem c_toModel (m : Mdl) (az ax ar : Option Addr) (cz cs cr : Nat) (w : World) (hs : MdlOk m) (h : Md w az ax ar m) :
    Calls Tryz.prog 8 #[mv m az ax ar cz cs cr] w (RetMdl m w) := by
  obtain ⟨sz, st, rs⟩ := m
  have hs1 := hs.1
  have hs2 := hs.2.1
  have HS := Lib.hid hs.2.2
  have H := Lib.hid h
  clear hs h
  dsimp only [mv] at hs1 hs2 ⊢
  go_enter Tryz.func8, Tryz.ntmps8
  go_wp2_with (fail)
  refine (c_toInt64S _ _ _ sz _ rfl hs1 (((H.out.z.alloc _).alloc _).alloc _)).mono ?_
  rintro e w1 ⟨A1, c1, rfl, ho, hb⟩
  have kr1 : w1.cell? ⟨w.heap.size, 1, none⟩ = some (.slice ax st.length cs) := cell_later hb (by go_simp)
  have kr2 : w1.cell? ⟨w.heap.size, 2, none⟩ = some (.slice ar rs.length cr) := cell_later hb (by go_simp)
  have o0 : w1.cell? ⟨w.heap.size + 1 + 1, 0, none⟩ = some (.slice none 0 0) := cell_later hb (by go_simp)
  have o1 : w1.cell? ⟨w.heap.size + 1 + 1, 1, none⟩ = some (.slice none 0 0) := cell_later hb (by go_simp)
  have o2 : w1.cell? ⟨w.heap.size + 1 + 1, 2, none⟩ = some (.slice none 0 0) := cell_later hb (by go_simp)
  have p0 : w1.cell? ⟨w.heap.size + 1, 0, none⟩ = some (.slice none 0 0) := cell_later hb (by go_simp)
  have p1 : w1.cell? ⟨w.heap.size + 1, 1, none⟩ = some (.slice none 0 0) := cell_later hb (by go_simp)
  have p2 : w1.cell? ⟨w.heap.size + 1, 2, none⟩ = some (.slice none 0 0) := cell_later hb (by go_simp)
  have f0 : w1.frozen? ⟨w.heap.size + 1 + 1, 0, none⟩ = false := frozen_later hb (by simp) (by go_simp)
  have f1 : w1.frozen? ⟨w.heap.size + 1 + 1, 1, none⟩ = false := frozen_later hb (by simp) (by go_simp)
  have f2 : w1.frozen? ⟨w.heap.size + 1 + 1, 2, none⟩ = false := frozen_later hb (by simp) (by go_simp)
  have e0 : w1.frozen? ⟨w.heap.size + 1, 0, none⟩ = false := frozen_later hb (by simp) (by go_simp)
  have e1 : w1.frozen? ⟨w.heap.size + 1, 1, none⟩ = false := frozen_later hb (by simp) (by go_simp)
  have e2 : w1.frozen? ⟨w.heap.size + 1, 2, none⟩ = false := frozen_later hb (by simp) (by go_simp)
  have hz := World.block_lt_of_cell? _ _ o0
  have B := below_set (below_chain (by (repeat (first | exact Below.refl _ _ | assumption | refine below_alloc ?_ _ | refine below_drewN ?_ _ | refine below_set ?_ _ (by simp; try omega) | refine Below.drew ?_)) : Below w.heap.size w _) hb) (p := ⟨w.heap.size + 1 + 1, 0, none⟩) (.slice A1 sz.length c1) (by simp; try omega)
  have HO := Lib.hid (ownsRow_setCell_below ho (by simp : (⟨w.heap.size + 1 + 1, 0, none⟩ : Addr).block < _) (.slice A1 sz.length c1))
  clear hb ho
  go_wp2_with (fail)
  refine (c_toInt64S _ _ _ st _ rfl hs2 (H.out.s.below B)).mono ?_
  rintro e w2 ⟨A2, c2, rfl, ho, hb⟩
  have k2 : w2.cell? ⟨w.heap.size, 2, none⟩ = some (.slice ar rs.length cr) := cell_later hb (by go_simp)
  have q0 : w2.cell? ⟨w.heap.size + 1 + 1, 0, none⟩ = some (.slice A1 sz.length c1) := cell_later hb (by go_simp)
  have q1 : w2.cell? ⟨w.heap.size + 1 + 1, 1, none⟩ = some (.slice none 0 0) := cell_later hb (by go_simp)
  have q2 : w2.cell? ⟨w.heap.size + 1 + 1, 2, none⟩ = some (.slice none 0 0) := cell_later hb (by go_simp)
  have r0 : w2.cell? ⟨w.heap.size + 1, 0, none⟩ = some (.slice none 0 0) := cell_later hb (by go_simp)
  have r1 : w2.cell? ⟨w.heap.size + 1, 1, none⟩ = some (.slice none 0 0) := cell_later hb (by go_simp)
  have r2 : w2.cell? ⟨w.heap.size + 1, 2, none⟩ = some (.slice none 0 0) := cell_later hb (by go_simp)
  have g1 : w2.frozen? ⟨w.heap.size + 1 + 1, 1, none⟩ = false := frozen_later hb (by simp; omega) (by go_simp)
  have g2 : w2.frozen? ⟨w.heap.size + 1 + 1, 2, none⟩ = false := frozen_later hb (by simp; omega) (by go_simp)
  have h0 : w2.frozen? ⟨w.heap.size + 1, 0, none⟩ = false := frozen_later hb (by simp; omega) (by go_simp)
  have h1 : w2.frozen? ⟨w.heap.size + 1, 1, none⟩ = false := frozen_later hb (by simp; omega) (by go_simp)
  have h2 : w2.frozen? ⟨w.heap.size + 1, 2, none⟩ = false := frozen_later hb (by simp; omega) (by go_simp)
  have hz2 := World.block_lt_of_cell? _ _ q0
  have hz3 : w.heap.size + 1 + 1 < (w1.setCell ⟨w.heap.size + 1 + 1, 0, none⟩ (.slice A1 sz.length c1)).heap.size := by simp; omega
  replace B := below_set (below_chain B hb) (p := ⟨w.heap.size + 1 + 1, 1, none⟩) (.slice A2 st.length c2) (by simp; try omega)
  have HO1 := Lib.hid (ownsRow_setCell_below (own_below HO.out hb) (by simp : (⟨w.heap.size + 1 + 1, 1, none⟩ : Addr).block < _) (.slice A2 st.length c2))
  have HO2 := Lib.hid (ownsRow_setCell_below ho (by exact hz3 : (⟨w.heap.size + 1 + 1, 1, none⟩ : Addr).block < _) (.slice A2 st.length c2))
  clear hb ho HO kr1 kr2 o0 o1 o2 p0 p1 p2 f0 f1 f2 e0 e1 e2
  go_wp2_with (fail)
  refine (c_toRuleS _ _ _ rs _ rfl HS.out (H.out.r.below B)).mono ?_
  rintro e w3 ⟨A3, c3, ds, rfl, hds, ho, hn, hb⟩
  have k0 : w3.cell? ⟨w.heap.size + 1 + 1, 0, none⟩ = some (.slice A1 sz.length c1) := cell_later hb (by go_simp)
  have k1 : w3.cell? ⟨w.heap.size + 1 + 1, 1, none⟩ = some (.slice A2 st.length c2) := cell_later hb (by go_simp)
  have k3 : w3.cell? ⟨w.heap.size + 1 + 1, 2, none⟩ = some (.slice none 0 0) := cell_later hb (by go_simp)
  have s0 : w3.cell? ⟨w.heap.size + 1, 0, none⟩ = some (.slice none 0 0) := cell_later hb (by go_simp)
  have s1 : w3.cell? ⟨w.heap.size + 1, 1, none⟩ = some (.slice none 0 0) := cell_later hb (by go_simp)
  have s2 : w3.cell? ⟨w.heap.size + 1, 2, none⟩ = some (.slice none 0 0) := cell_later hb (by go_simp)
  have j2 : w3.frozen? ⟨w.heap.size + 1 + 1, 2, none⟩ = false := frozen_later hb (by simp; omega) (by go_simp)
  have t0 : w3.frozen? ⟨w.heap.size + 1, 0, none⟩ = false := frozen_later hb (by simp; omega) (by go_simp)
  have t1 : w3.frozen? ⟨w.heap.size + 1, 1, none⟩ = false := frozen_later hb (by simp; omega) (by go_simp)
  have t2 : w3.frozen? ⟨w.heap.size + 1, 2, none⟩ = false := frozen_later hb (by simp; omega) (by go_simp)
  have hz4 : w.heap.size + 1 + 1 < (w2.setCell ⟨w.heap.size + 1 + 1, 1, none⟩ (.slice A2 st.length c2)).heap.size := by simp; omega
  replace B := below_chain B hb
  have HP1 := Lib.hid (own_mono (own_below HO1.out hb) (show w.heap.size + 1 + 1 + 1 ≤ _ by simp))
  have HP2 := Lib.hid (own_mono (own_below HO2.out hb) (show w.heap.size + 1 + 1 + 1 ≤ _ from hz3))
  have HP3 := Lib.hid (own_mono ho (show w.heap.size + 1 + 1 + 1 ≤ _ from hz4))
  have HN3 := Lib.hid (fun d hd => (hn d hd).mono (show w.heap.size + 1 + 1 + 1 ≤ _ from hz4))
  have HDS := Lib.hid hds
  have HB3 := Lib.hid B
  clear hb ho hn hds HO1 HO2 k2 q0 q1 q2 r0 r1 r2 g1 g2 h0 h1 h2 B hz3 hz4 hz2 hz
  go_wp2_with (fail)
  refine bodyPost_ret (v := .agg #[.slice A1 sz.length c1, .slice A2 st.length c2, .slice A3 rs.length c3]) (by simp [results, Tryz.results8, go_sem, s0, s1, s2]) rfl ⟨A1, A2, A3, c1, c2, c3, ds, rfl, ⟨?_, ?_, ?_, HDS.out, ?_⟩, ?_⟩
  · exact own_mono (ownsRow_setCell_below (ownsRow_setCell_below (ownsRow_setCell_below (ownsRow_setCell_below HP1.out (by simp) _) (by simp) _) (by simp) _) (by simp) _) (by omega)
  · exact own_mono (ownsRow_setCell_below (ownsRow_setCell_below (ownsRow_setCell_below (ownsRow_setCell_below HP2.out (by simp) _) (by simp) _) (by simp) _) (by simp) _) (by omega)
  · exact own_mono (ownsRow_setCell_below (ownsRow_setCell_below (ownsRow_setCell_below (ownsRow_setCell_below HP3.out (by simp) _) (by simp) _) (by simp) _) (by simp) _) (by omega)
  · exact fun d hd => (((((HN3.out d hd).set (by simp) _).set (by simp) _).set (by simp) _).set (by simp) _).mono (by omega)
  · exact below_set (below_set (below_set (below_set HB3.out _ (by simp; try omega)) _ (by simp; try omega)) _ (by simp; try omega)) _ (by simp; try omega)
end Go.Proofs.YtdjehopcpjkgjaaGreat
