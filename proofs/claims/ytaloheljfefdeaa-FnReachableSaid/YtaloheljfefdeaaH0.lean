/- Contracts and helpers (joined texts, part 0). The conditions stand at each theorem. -/
import Derived.Test.YtaloheljfefdeaaRows
import Derived.WalkKit
import Derived.WalkSpells
import Derived.WalkLawsBesides
import Derived.Deep.QuietTactic
import Derived.BigQuiet
import Derived.Lib.Hide
import Derived.Deep.Light
import Derived.StillTailTactics
import Derived.Deep.AppendLies
import Derived.Deep.RegionHeld3
import Derived.Deep.RegionLaw
import Derived.Lib.SliceRun
import Derived.Laws.OwnMore
import Derived.Shelf.RegionOpenPlain
/- Plain helper lemmas on worlds: what lies below a block number stays; readings of slices. No condition. -/
namespace Go.Proofs.Ytaloheljfefdeaa
open Go.RowKit

theorem cell_later {W w1 : World} {a : Addr} {v : Value} (hb : Below W.heap.size W w1) (h : W.cell? a = some v) : w1.cell? a = some v :=
  (hb.cell (World.block_lt_of_cell? W a h)).trans h
theorem frozen_later {W w1 : World} {a : Addr} (hb : Below W.heap.size W w1) (hlt : a.block < W.heap.size) (h : W.frozen? a = false) : w1.frozen? a = false := (hb.frozen hlt).trans h
theorem frozen_later2 {W w1 : World} {a : Addr} {v : Value} (hb : Below W.heap.size W w1) (hc : W.cell? a = some v) (h : W.frozen? a = false) : w1.frozen? a = false := (hb.frozen (World.block_lt_of_cell? W a hc)).trans h
theorem below_chain {w a b : World} (h1 : Below w.heap.size w a) (h2 : Below a.heap.size a b) : Below w.heap.size w b := h1.trans (h2.mono h1.size)
theorem below_alloc {w a : World} (h1 : Below w.heap.size w a) (o : Obj) : Below w.heap.size w (a.alloc o) := h1.alloc h1.size o
theorem below_drewN {w a : World} (h1 : Below w.heap.size w a) (n : Nat) : Below w.heap.size w (a.drewN n) := ⟨h1.os, h1.tape, h1.output, h1.size, h1.block⟩
theorem below_set {w a : World} (h1 : Below w.heap.size w a) {p : Addr} (v : Value) (hp : w.heap.size ≤ p.block) : Below w.heap.size w (a.setCell p v) := h1.setCell hp v

theorem bcell {W w1 : World} (hb : Below W.heap.size W w1) : (∀ b o, b < W.heap.size → w1.cell? ⟨b, o, none⟩ = W.cell? ⟨b, o, none⟩) ∧ (∀ b o, b < W.heap.size → w1.frozen? ⟨b, o, none⟩ = W.frozen? ⟨b, o, none⟩) :=
  ⟨fun b o h => hb.cell (p := ⟨b, o, none⟩) h, fun b o h => hb.frozen (p := ⟨b, o, none⟩) h⟩
theorem later {W w1 : World} {n : Nat} (hb : Below W.heap.size W w1) (h : n < W.heap.size) : n < w1.heap.size := Nat.lt_of_lt_of_le h hb.size

theorem ret_bool {a b : Bool} (h : a = b) : Ending.returned (.bool a) = .returned (.bool b) := by rw [h]
theorem ret_int {k : IntKind} {a b : Int} (h : a = b) : Ending.returned (.int k a) = .returned (.int k b) := by rw [h]

/-- The slice value `.slice A n c` holds the cells xs (n elements, size cells each): they lie in a block that is there. -/
def Rd (w : World) (A : Option Addr) (xs : List Value) : Prop :=
  xs = [] ∨ ∃ b off, A = some ⟨b, off, none⟩ ∧ b < w.heap.size ∧ ∀ j u, xs[j]? = some u → w.cell? ⟨b, off + j, none⟩ = some u
theorem Rd.nil (w : World) (A : Option Addr) : Rd w A [] := .inl rfl
theorem Rd.below {w w1 : World} {A : Option Addr} {xs : List Value} (h : Rd w A xs) (hb : Below w.heap.size w w1) : Rd w1 A xs := by
  rcases h with h | ⟨b, off, rfl, hlt, hc⟩
  · exact .inl h
  · exact .inr ⟨b, off, rfl, Nat.lt_of_lt_of_le hlt hb.size, fun j u hu => cell_later hb (hc j u hu)⟩
theorem Rd.alloc {w : World} {A : Option Addr} {xs : List Value} (h : Rd w A xs) (o : Obj) : Rd (w.alloc o) A xs := h.below (below_alloc (Below.refl _ _) o)
theorem Rd.drew {w : World} {A : Option Addr} {xs : List Value} (h : Rd w A xs) : Rd w.drew A xs := h
theorem Rd.some_ {w : World} {A : Option Addr} {xs : List Value} (h : Rd w A xs) (hn : xs ≠ []) : ∃ b off, A = some ⟨b, off, none⟩ ∧ b < w.heap.size ∧ ∀ j u, xs[j]? = some u → w.cell? ⟨b, off + j, none⟩ = some u := by
  rcases h with h | h
  · exact absurd h hn
  · exact h
theorem Rd.own {w : World} {base : Nat} {e : TypeId} {size n c : Nat} {A : Option Addr} {xs : List Value} (h : w.ownsRow base e size (.slice A n c) n xs) : Rd w A xs := by
  rcases h.2 with ⟨hv, rfl⟩ | ⟨g, cap, cur, hv, _, hg, _⟩
  · exact .inl (List.eq_nil_of_length_eq_zero (by simpa using h.1))
  · have hA : A = some ⟨g, 0, none⟩ := by injection hv
    subst hA
    refine .inr ⟨g, 0, rfl, (Array.getElem?_eq_some_iff.1 hg).1, fun j u hu => ?_⟩
    have := h.cells (g := g) rfl j u hu
    have hadd : (⟨g, 0, none⟩ : Addr).add j = ⟨g, 0 + j, none⟩ := by unfold Addr.add; split <;> simp_all
    rwa [hadd] at this
theorem grown_of_below {w w1 : World} (hb : Below w.heap.size w w1) (row : Option Nat) : w.grownBy w1 row := ⟨hb.os, hb.tape, hb.output, hb.size, fun k hk _ => hb.block k hk⟩
theorem own_below {w w1 : World} {base : Nat} {e : TypeId} {size n : Nat} {v : Value} {xs : List Value} (h : w.ownsRow base e size v n xs) (hb : Below w.heap.size w w1) : w1.ownsRow base e size v n xs :=
  h.kept (grown_of_below hb none) (by cases hv : v.ownBlock <;> simp)
theorem own_mono {w : World} {base base' : Nat} {e : TypeId} {size n : Nat} {v : Value} {xs : List Value} (h : w.ownsRow base e size v n xs) (hb : base' ≤ base) : w.ownsRow base' e size v n xs := by
  refine ⟨h.1, ?_⟩
  rcases h.2 with h2 | ⟨g, cap, cur, hv, hg, r⟩
  · exact .inl h2
  · exact .inr ⟨g, cap, cur, hv, Nat.le_trans hb hg, r⟩
theorem below_of_grown {w a b : World} {row : Option Nat} (h : Below w.heap.size w a) (hg : a.grownBy b row) (hr : ∀ k, row = some k → w.heap.size ≤ k) : Below w.heap.size w b := h.grown hg h.size hr

theorem own_cell {w : World} {base : Nat} {e : TypeId} {size n g cap : Nat} {xs : List Value} (h : w.ownsRow base e size (.slice (some ⟨g, 0, none⟩) n cap) n xs) {j : Nat} (hj : j < n * size) : ∃ u, w.cell? ⟨g, j, none⟩ = some u := by
  rw [h.cellAt j hj, List.getElem?_eq_getElem (by rw [h.1]; exact hj)]
  exact ⟨_, rfl⟩

/-- The list L up to m, and behind it the list Z. -/
def mix (L Z : List Value) (m : Nat) : List Value := L.take m ++ Z.drop m
theorem mix_zero (L Z : List Value) : mix L Z 0 = Z := by simp [mix]
theorem mix_all {L Z : List Value} {m : Nat} (h : L.length ≤ m) (h2 : Z.length ≤ m) : mix L Z m = L := by simp [mix, List.take_of_length_le h, List.drop_eq_nil_of_le h2]
theorem mix_set {L Z : List Value} {m : Nat} {u : Value} (hl : L.length = Z.length) (hu : L[m]? = some u) : (mix L Z m).set m u = mix L Z (m + 1) := by
  have hm : m < L.length := (List.getElem?_eq_some_iff.1 hu).1
  have hz : Z.drop m = Z[m]'(by omega) :: Z.drop (m + 1) := List.drop_eq_getElem_cons (by omega)
  have ht : L.take (m + 1) = L.take m ++ [u] := by
    rw [List.take_add_one, hu]
    rfl
  have hlt : (L.take m).length = m := by simp; omega
  unfold mix
  rw [ht, List.set_append_right _ _ (by rw [hlt]; exact Nat.le_refl _), hlt, Nat.sub_self, hz]
  simp only [List.set_cons_zero, List.append_assoc, List.singleton_append]
theorem mix_set7 {L Z : List Value} {m : Nat} {u0 u1 u2 u3 u4 u5 u6 : Value} (hl : L.length = Z.length) (h0 : L[m]? = some u0) (h1 : L[m + 1]? = some u1) (h2 : L[m + 2]? = some u2) (h3 : L[m + 3]? = some u3) (h4 : L[m + 4]? = some u4) (h5 : L[m + 5]? = some u5) (h6 : L[m + 6]? = some u6) : ((((((((mix L Z m).set m u0).set (m + 1) u1).set (m + 2) u2).set (m + 3) u3).set (m + 4) u4).set (m + 5) u5).set (m + 6) u6) = mix L Z (m + 7) := by
  rw [mix_set hl h0]
  rw [mix_set hl h1]
  rw [mix_set hl h2]
  rw [mix_set hl h3]
  rw [mix_set hl h4]
  rw [mix_set hl h5]
  rw [mix_set hl h6]
theorem mix_set3 {L Z : List Value} {m : Nat} {u0 u1 u2 : Value} (hl : L.length = Z.length) (h0 : L[m]? = some u0) (h1 : L[m + 1]? = some u1) (h2 : L[m + 2]? = some u2) : ((((mix L Z m).set m u0).set (m + 1) u1).set (m + 2) u2) = mix L Z (m + 3) := by
  rw [mix_set hl h0]
  rw [mix_set hl h1]
  rw [mix_set hl h2]
def ints (zs : List Int) : List Value := zs.map (Value.int .i64)
theorem ints_get {zs : List Int} {j : Nat} (h : j < zs.length) : (ints zs)[j]? = some (.int .i64 (zs.getD j 0)) := by
  simp [ints, h]
theorem ints_length (zs : List Int) : (ints zs).length = zs.length := by simp [ints]
structure Seg where
  k : Int
  l : Int
  r : Int
  a : Int
  b : Int
  c : Int
  d : Int
def Seg.val (s : Seg) : Value := .agg #[.int .i64 s.k, .int .i64 s.l, .int .i64 s.r, .int .i64 s.a, .int .i64 s.b, .int .i64 s.c, .int .i64 s.d]
def Seg.cells (s : Seg) : List Value := [.int .i64 s.k, .int .i64 s.l, .int .i64 s.r, .int .i64 s.a, .int .i64 s.b, .int .i64 s.c, .int .i64 s.d]
def segCells (l : List Seg) : List Value := l.flatMap Seg.cells
theorem segCells_length (l : List Seg) : (segCells l).length = l.length * 7 := by
  induction l with
  | nil => rfl
  | cons s t ih => simp only [segCells, List.flatMap_cons, List.length_append, List.length_cons] at ih ⊢; rw [ih]; simp [Seg.cells]; omega
theorem segCells_get {s : Seg} {i : Nat} (hi : i < 7) : ∀ {l : List Seg} {k : Nat}, l[k]? = some s → (segCells l)[k * 7 + i]? = s.cells[i]?
  | [], k, h => by simp at h
  | t :: l, 0, h => by
    simp only [List.getElem?_cons_zero, Option.some.injEq] at h
    subst h
    simp only [segCells, List.flatMap_cons, Nat.zero_mul, Nat.zero_add]
    rw [List.getElem?_append_left (by simp [Seg.cells]; omega)]
  | t :: l, k + 1, h => by
    simp only [List.getElem?_cons_succ] at h
    have := segCells_get hi h
    simp only [segCells, List.flatMap_cons] at this ⊢
    rw [List.getElem?_append_right (by simp [Seg.cells]; omega), ← this]
    congr 1
    simp [Seg.cells]; omega
theorem segCells_at {s : Seg} {l : List Seg} {k : Nat} (h : l[k]? = some s) : (segCells l)[k * 7]? = some (.int .i64 s.k) ∧ (segCells l)[k * 7 + 1]? = some (.int .i64 s.l) ∧ (segCells l)[k * 7 + 2]? = some (.int .i64 s.r) ∧ (segCells l)[k * 7 + 3]? = some (.int .i64 s.a) ∧
    (segCells l)[k * 7 + 4]? = some (.int .i64 s.b) ∧ (segCells l)[k * 7 + 5]? = some (.int .i64 s.c) ∧ (segCells l)[k * 7 + 6]? = some (.int .i64 s.d) :=
  ⟨segCells_get (i := 0) (by omega) h, segCells_get (i := 1) (by omega) h, segCells_get (i := 2) (by omega) h, segCells_get (i := 3) (by omega) h, segCells_get (i := 4) (by omega) h, segCells_get (i := 5) (by omega) h, segCells_get (i := 6) (by omega) h⟩
theorem Rd.seg {w : World} {A : Option Addr} {l : List Seg} {k : Nat} {s : Seg} (h : Rd w A (segCells l)) (hk : l[k]? = some s) : ∃ b off, A = some ⟨b, off, none⟩ ∧ b < w.heap.size ∧ w.cell? ⟨b, off + k * 7, none⟩ = some (.int .i64 s.k) ∧ w.cell? ⟨b, off + k * 7 + 1, none⟩ = some (.int .i64 s.l) ∧ w.cell? ⟨b, off + k * 7 + 2, none⟩ = some (.int .i64 s.r) ∧ w.cell? ⟨b, off + k * 7 + 3, none⟩ = some (.int .i64 s.a) ∧ w.cell? ⟨b, off + k * 7 + 4, none⟩ = some (.int .i64 s.b) ∧ w.cell? ⟨b, off + k * 7 + 5, none⟩ = some (.int .i64 s.c) ∧ w.cell? ⟨b, off + k * 7 + 6, none⟩ = some (.int .i64 s.d) := by
  obtain ⟨u0, u1, u2, u3, u4, u5, u6⟩ := segCells_at hk
  obtain ⟨b, off, rfl, hb, hc⟩ := h.some_ (by intro e; rw [e] at u0; simp at u0)
  exact ⟨b, off, rfl, hb, hc _ _ u0, hc _ _ u1, hc _ _ u2, hc _ _ u3, hc _ _ u4, hc _ _ u5, hc _ _ u6⟩
theorem Rd.int {w : World} {A : Option Addr} {zs : List Int} {k : Nat} {z : Int} (h : Rd w A (ints zs)) (hk : zs[k]? = some z) : ∃ b off, A = some ⟨b, off, none⟩ ∧ b < w.heap.size ∧ w.cell? ⟨b, off + k, none⟩ = some (.int .i64 z) := by
  have u0 : (ints zs)[k]? = some (.int .i64 z) := by simp [ints, hk]
  obtain ⟨b, off, rfl, hb, hc⟩ := h.some_ (by intro e; rw [e] at u0; simp at u0)
  exact ⟨b, off, rfl, hb, hc _ _ u0⟩
theorem Rd.int0 {w : World} {A : Option Addr} {zs : List Int} {z : Int} (h : Rd w A (ints zs)) (hk : zs[0]? = some z) : ∃ b off, A = some ⟨b, off, none⟩ ∧ b < w.heap.size ∧ w.cell? ⟨b, off, none⟩ = some (.int .i64 z) := by
  obtain ⟨b, off, e, hb, g⟩ := h.int hk
  exact ⟨b, off, e, hb, g⟩
theorem own_cap {w : World} {base : Nat} {e : TypeId} {size n c : Nat} {A : Option Addr} {xs : List Value} (h : w.ownsRow base e size (.slice A n c) n xs) : n ≤ c ∧ c ≤ maxLen := by
  rcases h.2 with ⟨hv, rfl⟩ | ⟨g, cap, cur, hv, _, _, h1, h2, _⟩
  · injection hv with _ _ h3
    subst h3
    exact ⟨Nat.le_refl _, by simp [maxLen]⟩
  · injection hv with _ _ h3
    subst h3
    exact ⟨h1, h2⟩
theorem Rd.cut {w : World} {b off : Nat} {xs : List Value} (h : Rd w (some ⟨b, off, none⟩) xs) (m : Nat) : Rd w (some ⟨b, off + m, none⟩) (xs.drop m) := by
  rcases h with rfl | ⟨b1, o1, e, hlt, hc⟩
  · exact .inl (by simp)
  · simp only [Option.some.injEq, Addr.mk.injEq, and_true] at e
    obtain ⟨rfl, rfl⟩ := e
    refine .inr ⟨b, off + m, rfl, hlt, fun j u hu => ?_⟩
    rw [List.getElem?_drop] at hu
    rw [Nat.add_assoc]
    exact hc _ _ hu
theorem ints_drop (zs : List Int) (m : Nat) : (ints zs).drop m = ints (zs.drop m) := by simp [ints]
end Go.Proofs.Ytaloheljfefdeaa

/- Laws for append of one element to a list of the call's own: the new list; and the old cells stay as they were. No condition but the sizes. -/
namespace Go.Proofs.Ytaloheljfefdeaa
open Go.RowKit

section
variable {P : Program}
theorem run_push (w : World) (base : Nat) (t ty e : TypeId) (i : TypeInfo) (z : Value) (size bytes : Nat) (ht : P.underlying t = some (.slice e)) (hi : P.info? e = some i) (hz : i.zero = some z)
    (hsize : i.size = size) (hby : i.bytes = bytes) (hzs : z.cells.size = size) (hsz : 0 < size)
    (v : Value) (n : Nat) (xs : List Value) (hown : w.ownsRow base e size v n xs)
    (a : Addr) (c : Nat) (news : List Value) (hl : news.length = size) (hnews : ∀ j u, news[j]? = some u → w.cell? (a.add j) = some u) (h1 : ∀ u ∈ news, u.oneCell' = true)
    (h63 : n + 1 ≤ maxLen) (hbytes : (n + 1) * bytes ≤ 140737488355328) (hbase : base ≤ w.heap.size) :
    ∃ v' w', (Builtin.append_ #[t, t] ty #[v, .slice (some a) 1 c]).run P w = .ok v' w' ∧ w'.ownsRow base e size v' (n + 1) (xs ++ news) ∧ w.grownBy w' v.ownBlock ∧
      (∀ g, v.ownBlock = some g → ∀ j, j < n * size → w'.cell? ⟨g, j, none⟩ = w.cell? ⟨g, j, none⟩) ∧ (v'.ownBlock = v.ownBlock ∨ v'.ownBlock = some w.heap.size) := by
  obtain ⟨v', w', hr, ho, hg, _⟩ := run_append_own (P := P) w base t ty e i z size bytes ht hi hz hsize hby hzs hsz v n xs hown a 1 c news (by rw [hl, Nat.one_mul]) hnews h1 h63 hbytes hbase
  subst hsize
  subst hby
  rcases hown.2 with ⟨rfl, rfl⟩ | ⟨g, cap, cur, rfl, hbg, hgg, hnc, hcm, hcs, htake⟩
  · refine ⟨v', w', hr, ho, hg, fun g h => by simp [Value.ownBlock] at h, ?_⟩
    have hx : xs = [] := List.eq_nil_of_length_eq_zero (by simpa using hown.1)
    subst hx
    have hr2 := run_append_nil (P := P) w t ty e i z ht hi hz a 1 c news (by rw [hl, Nat.one_mul]) hnews (by omega) (by unfold maxLen at h63; omega) (by have hb := hbytes; simp only [Nat.zero_add] at hb; omega)
    have h2 := hr.symm.trans hr2
    simp only [Result.ok.injEq] at h2
    right
    rw [h2.1]
    rfl
  · by_cases hroom : n + 1 ≤ cap
    · have hfit : n * i.size + news.length ≤ cur.size := by
        rw [hl, hcs]
        have := Nat.mul_le_mul_right i.size hroom
        rw [Nat.add_mul, Nat.one_mul] at this
        exact this
      have hr2 := run_append_room (P := P) w t ty e i ht hi g n cap cur hgg a 1 c news (by rw [hl, Nat.one_mul]) hnews h1 hroom hfit
      have h2 := hr.symm.trans hr2
      simp only [Result.ok.injEq] at h2
      refine ⟨v', w', hr, ho, hg, fun g' h j hj => ?_, ?_⟩
      · simp [Value.ownBlock] at h
        subst h
        rw [h2.2, cell_setRow_same w g j cur _ e _ hgg, cell_of_row w g j cur e _ hgg]
        have hlen : j < cur.toList.length := by simp; omega
        simp only [List.getElem?_toArray]
        rw [List.append_assoc, List.getElem?_append_left (by simp; omega), List.getElem?_take, if_pos hj]
        simp
      · left
        rw [h2.1]
        rfl
    · have holds : ∀ j u, xs[j]? = some u → w.cell? ((⟨g, 0, none⟩ : Addr).add j) = some u := hown.cells (g := g) rfl
      have hr2 := run_append_grow (P := P) w t ty e i z ht hi hz ⟨g, 0, none⟩ n cap xs hown.1 holds a 1 c news (by rw [hl, Nat.one_mul]) hnews (by omega) (by unfold maxLen at h63; omega) (growslice_fits (by omega) hbytes)
      have h2 := hr.symm.trans hr2
      simp only [Result.ok.injEq] at h2
      refine ⟨v', w', hr, ho, hg, fun g' h j hj => ?_, ?_⟩
      · simp [Value.ownBlock] at h
        subst h
        rw [h2.2]
        exact World.cell?_alloc_lt w.drew _ _ (Array.getElem?_eq_some_iff.1 hgg).1
      · right
        rw [h2.1]
        rfl
theorem wp_push (w : World) {o : Oper} {a : Act} {K : Act → World → Prop} {Q : Exit → Act → World → Prop} (s x : Operand) (t : TypeId)
    (ho : o.op = .call { callee := .builtin .append, args := #[s, x], argTypes := #[t, t] })
    (base : Nat) (e : TypeId) (i : TypeInfo) (z : Value) (size bytes : Nat) (ht : P.underlying t = some (.slice e)) (hi : P.info? e = some i) (hz : i.zero = some z)
    (hsize : i.size = size) (hby : i.bytes = bytes) (hzs : z.cells.size = size) (hsz : 0 < size)
    (v : Value) (n : Nat) (xs : List Value) (hs : a.eval s = v) (hown : w.ownsRow base e size v n xs)
    (ad : Addr) (c : Nat) (news : List Value) (hx : a.eval x = .slice (some ad) 1 c) (hl : news.length = size) (hnews : ∀ j u, news[j]? = some u → w.cell? (ad.add j) = some u) (h1 : ∀ u ∈ news, u.oneCell' = true)
    (h63 : n + 1 ≤ maxLen) (hbytes : (n + 1) * bytes ≤ 140737488355328) (hbase : base ≤ w.heap.size)
    (h : ∀ v' w', w'.ownsRow base e size v' (n + 1) (xs ++ news) → w.grownBy w' v.ownBlock → (∀ g, v.ownBlock = some g → ∀ j, j < n * size → w'.cell? ⟨g, j, none⟩ = w.cell? ⟨g, j, none⟩) → (v'.ownBlock = v.ownBlock ∨ v'.ownBlock = some w.heap.size) → K (a.put o.dst v') w') : o.wp P a w K Q := by
  obtain ⟨v', w', hr, h2, h3, h4, h5⟩ := run_push (P := P) w base t o.type e i z size bytes ht hi hz hsize hby hzs hsz v n xs hown ad c news hl hnews h1 h63 hbytes hbase
  unfold Oper.wp execOp
  simp only [ho, resolve, invoke, builtin, Sem.run_bind, Sem.run_pure, Result.andThen_ok, List.map_toArray, List.map_cons, List.map_nil, hs, hx, hr]
  exact h v' w' h2 h3 h4 h5
theorem wpList_push (w : World) {ops : Array Oper} {rest : List Oper} {o : Oper} {a : Act} {Q : Exit → Act → World → Prop} (hgd : o.guard = none) (s x : Operand) (t : TypeId)
    (ho : o.op = .call { callee := .builtin .append, args := #[s, x], argTypes := #[t, t] })
    (base : Nat) (e : TypeId) (i : TypeInfo) (z : Value) (size bytes : Nat) (ht : P.underlying t = some (.slice e)) (hi : P.info? e = some i) (hz : i.zero = some z)
    (hsize : i.size = size) (hby : i.bytes = bytes) (hzs : z.cells.size = size) (hsz : 0 < size)
    (v : Value) (n : Nat) (xs : List Value) (hs : a.eval s = v) (hown : w.ownsRow base e size v n xs)
    (ad : Addr) (c : Nat) (news : List Value) (hx : a.eval x = .slice (some ad) 1 c) (hl : news.length = size) (hnews : ∀ j u, news[j]? = some u → w.cell? (ad.add j) = some u) (h1 : ∀ u ∈ news, u.oneCell' = true)
    (h63 : n + 1 ≤ maxLen) (hbytes : (n + 1) * bytes ≤ 140737488355328) (hbase : base ≤ w.heap.size)
    (h : ∀ v' w', w'.ownsRow base e size v' (n + 1) (xs ++ news) → w.grownBy w' v.ownBlock → (∀ g, v.ownBlock = some g → ∀ j, j < n * size → w'.cell? ⟨g, j, none⟩ = w.cell? ⟨g, j, none⟩) → (v'.ownBlock = v.ownBlock ∨ v'.ownBlock = some w.heap.size) → wpList P ops Q rest (a.put o.dst v') w') : wpList P ops Q (o :: rest) a w :=
  wpList_plain hgd fun _ hK => wp_push w s x t ho base e i z size bytes ht hi hz hsize hby hzs hsz v n xs hs hown ad c news hx hl hnews h1 h63 hbytes hbase fun v' w' h2 h3 h4 h5 => hK _ _ (h v' w' h2 h3 h4 h5)
theorem step_push (w : World) {ops : Array Oper} {o : Oper} {a : Act} {K : Act → World → Prop} {Q : Exit → Act → World → Prop} {E : Prop} (hgd : o.guard = none) (s x : Operand) (t : TypeId)
    (ho : o.op = .call { callee := .builtin .append, args := #[s, x], argTypes := #[t, t] })
    (base : Nat) (e : TypeId) (i : TypeInfo) (z : Value) (size bytes : Nat) (ht : P.underlying t = some (.slice e)) (hi : P.info? e = some i) (hz : i.zero = some z)
    (hsize : i.size = size) (hby : i.bytes = bytes) (hzs : z.cells.size = size) (hsz : 0 < size)
    (v : Value) (n : Nat) (xs : List Value) (hs : a.eval s = v) (hown : w.ownsRow base e size v n xs)
    (ad : Addr) (c : Nat) (news : List Value) (hx : a.eval x = .slice (some ad) 1 c) (hl : news.length = size) (hnews : ∀ j u, news[j]? = some u → w.cell? (ad.add j) = some u) (h1 : ∀ u ∈ news, u.oneCell' = true)
    (h63 : n + 1 ≤ maxLen) (hbytes : (n + 1) * bytes ≤ 140737488355328) (hbase : base ≤ w.heap.size)
    (h : ∀ v' w', w'.ownsRow base e size v' (n + 1) (xs ++ news) → w.grownBy w' v.ownBlock → (∀ g, v.ownBlock = some g → ∀ j, j < n * size → w'.cell? ⟨g, j, none⟩ = w.cell? ⟨g, j, none⟩) → (v'.ownBlock = v.ownBlock ∨ v'.ownBlock = some w.heap.size) → K (a.put o.dst v') w') :
    if Region.wanted o (yielded ops a.tmps) = true then Oper.wp P o a w K Q else E := by
  have hw : Region.wanted o (yielded ops a.tmps) = true := by simp [Region.wanted, hgd]
  rw [if_pos hw]
  exact wp_push w s x t ho base e i z size bytes ht hi hz hsize hby hzs hsz v n xs hs hown ad c news hx hl hnews h1 h63 hbytes hbase h
end
theorem own_form {w : World} {base : Nat} {e : TypeId} {size n : Nat} {v : Value} {xs : List Value} (h : w.ownsRow base e size v (n + 1) xs) : ∃ g cap, v = .slice (some ⟨g, 0, none⟩) (n + 1) cap := by
  rcases h.2 with ⟨_, h0⟩ | ⟨g, cap, cur, hv, _⟩
  · omega
  · exact ⟨g, cap, hv⟩
theorem own_drew {w : World} {base : Nat} {e : TypeId} {size n : Nat} {v : Value} {xs : List Value} (h : w.ownsRow base e size v n xs) : w.drew.ownsRow base e size v n xs := h
theorem own_ge {w : World} {base : Nat} {e : TypeId} {size n g c : Nat} {xs : List Value} (h : w.ownsRow base e size (.slice (some ⟨g, 0, none⟩) n c) n xs) : base ≤ g ∧ g < w.heap.size := h.lt g rfl
end Go.Proofs.Ytaloheljfefdeaa

/- What marks do to memory: the relation Mk (blocks outside lo .. hi stay; every row keeps its shape), and its laws. No condition. -/
namespace Go.Proofs.Ytaloheljfefdeaa
open Go.RowKit

/-- The blocks outside lo .. hi stay as they were, and every row keeps its shape. -/
structure Mk (lo hi : Nat) (w w' : World) : Prop where
  os : w'.os = w.os
  tape : w'.tape = w.tape
  output : w'.output = w.output
  size : w.heap.size ≤ w'.heap.size
  block : ∀ k, k < w.heap.size → (k < lo ∨ hi ≤ k) → w'.heap[k]? = w.heap[k]?
  shape : ∀ (k : Nat) (cur : Array Value) (e : TypeId) (fz : Nat × Nat), w.heap[k]? = some (Obj.cells cur e fz) → ∃ cur' : Array Value, w'.heap[k]? = some (Obj.cells cur' e fz) ∧ cur'.size = cur.size
theorem Mk.refl (lo hi : Nat) (w : World) : Mk lo hi w w := ⟨rfl, rfl, rfl, Nat.le_refl _, fun _ _ _ => rfl, fun _ cur _ _ h => ⟨cur, h, rfl⟩⟩
theorem Mk.trans {lo hi : Nat} {a b c : World} (h1 : Mk lo hi a b) (h2 : Mk lo hi b c) : Mk lo hi a c :=
  ⟨h2.os.trans h1.os, h2.tape.trans h1.tape, h2.output.trans h1.output, Nat.le_trans h1.size h2.size, fun k hk ho => (h2.block k (Nat.lt_of_lt_of_le hk h1.size) ho).trans (h1.block k hk ho), fun k cur e fz h => by
    obtain ⟨c1, e1, s1⟩ := h1.shape k cur e fz h
    obtain ⟨c2, e2, s2⟩ := h2.shape k c1 e fz e1
    exact ⟨c2, e2, s2.trans s1⟩⟩
theorem Mk.wide {lo hi lo' hi' : Nat} {a b : World} (h : Mk lo hi a b) (h1 : lo' ≤ lo) (h2 : hi ≤ hi') : Mk lo' hi' a b :=
  ⟨h.os, h.tape, h.output, h.size, fun k hk ho => h.block k hk (by omega), h.shape⟩
theorem Mk.of_below {lo hi : Nat} {a b : World} (h : Below a.heap.size a b) : Mk lo hi a b :=
  ⟨h.os, h.tape, h.output, h.size, fun k hk _ => h.block k hk, fun k cur e fz hc => ⟨cur, by rw [h.block k (Array.getElem?_eq_some_iff.1 hc).1]; exact hc, rfl⟩⟩
theorem Mk.setCell {lo hi : Nat} {a b : World} (h : Mk lo hi a b) {p : Addr} (v : Value) (h1 : lo ≤ p.block) (h2 : p.block < hi) : Mk lo hi a (b.setCell p v) := by
  refine h.trans ⟨rfl, rfl, rfl, by simp [World.setCell], fun k hk ho => ?_, fun k cur e fz hc => ?_⟩
  · unfold World.setCell
    simp only
    rw [Array.getElem?_modify, if_neg (by omega)]
  · unfold World.setCell
    simp only
    rw [Array.getElem?_modify]
    split
    · rw [hc]
      refine ⟨_, rfl, ?_⟩
      split
      · rfl
      · simp
    · exact ⟨cur, hc, rfl⟩
theorem Mk.belowLo {lo hi : Nat} {a b : World} (h : Mk lo hi a b) : ∀ k, k < lo → k < a.heap.size → b.heap[k]? = a.heap[k]? := fun k h1 h2 => h.block k h2 (.inl h1)
theorem Below.mk {lo hi : Nat} {x a b : World} (hx : Below x.heap.size x a) (h : Mk lo hi a b) (hlo : x.heap.size ≤ lo) : Below x.heap.size x b :=
  ⟨h.os.trans hx.os, h.tape.trans hx.tape, h.output.trans hx.output, Nat.le_trans hx.size h.size, fun k hk => (h.block k (Nat.lt_of_lt_of_le hk hx.size) (.inl (by omega))).trans (hx.block k hk)⟩
theorem Mk.cell {lo hi : Nat} {a b : World} (h : Mk lo hi a b) {p : Addr} {v : Value} (hc : a.cell? p = some v) (ho : p.block < lo ∨ hi ≤ p.block) : b.cell? p = some v :=
  (World.cell?_of_block (h.block p.block (World.block_lt_of_cell? a p hc) ho)).trans hc
theorem Mk.own {lo hi : Nat} {a b : World} (h : Mk lo hi a b) {base : Nat} {e : TypeId} {size n : Nat} {v : Value} {xs : List Value} (ho : a.ownsRow base e size v n xs) (hb : ∀ q, v.ownBlock = some q → q < lo ∨ hi ≤ q) : b.ownsRow base e size v n xs := by
  refine ⟨ho.1, ?_⟩
  rcases ho.2 with h2 | ⟨g, cap, cur, hv, hg, hgg, r⟩
  · exact .inl h2
  · refine .inr ⟨g, cap, cur, hv, hg, ?_, r⟩
    rw [h.block g (Array.getElem?_eq_some_iff.1 hgg).1 (hb g (by rw [hv]; rfl))]
    exact hgg
theorem Mk.ownHi {lo hi : Nat} {a b : World} (h : Mk lo hi a b) {base : Nat} {e : TypeId} {size n : Nat} {v : Value} {xs : List Value} (ho : a.ownsRow base e size v n xs) (hb : hi ≤ base) : b.ownsRow base e size v n xs :=
  h.own ho fun q hq => .inr (Nat.le_trans hb (ho.lt q hq).1)
/-- A row of the call's own, whatever it holds. -/
def OwnX (w : World) (base : Nat) (e : TypeId) (size : Nat) (v : Value) (n : Nat) : Prop := ∃ xs, w.ownsRow base e size v n xs
theorem OwnX.mk {lo hi : Nat} {a b : World} {base : Nat} {e : TypeId} {size n : Nat} {v : Value} (ho : OwnX a base e size v n) (h : Mk lo hi a b) : OwnX b base e size v n := by
  obtain ⟨xs, h1, h2⟩ := ho
  rcases h2 with ⟨hv, rfl⟩ | ⟨g, cap, cur, hv, hg, hgg, hnc, hcm, hcs, htake⟩
  · exact ⟨[], by simp, .inl ⟨hv, rfl⟩⟩
  · obtain ⟨cur', e', s'⟩ := h.shape _ _ _ _ hgg
    refine ⟨cur'.toList.take (n * size), ?_, .inr ⟨g, cap, cur', hv, hg, e', hnc, hcm, s'.trans hcs, rfl⟩⟩
    rw [List.length_take, Nat.min_eq_left]
    rw [Array.length_toList, s', hcs]
    exact Nat.mul_le_mul_right _ hnc
theorem OwnX.blk {w : World} {base : Nat} {e : TypeId} {size n c : Nat} {A : Option Addr} (h : OwnX w base e size (.slice A n c) n) (hn : 0 < n) : ∃ g, A = some ⟨g, 0, none⟩ ∧ base ≤ g ∧ g < w.heap.size ∧ ∀ j, j < n * size → (∃ u, w.cell? ⟨g, j, none⟩ = some u) ∧ w.frozen? ⟨g, j, none⟩ = false := by
  obtain ⟨xs, ho⟩ := h
  obtain ⟨g, cap, hv, hg⟩ := ho.form hn
  simp only [Value.slice.injEq, true_and] at hv
  obtain ⟨rfl, rfl⟩ := hv
  exact ⟨g, rfl, (ho.lt g rfl).1, (ho.lt g rfl).2, fun j hj => ⟨own_cell ho hj, ho.frozenAt j⟩⟩
end Go.Proofs.Ytaloheljfefdeaa

/- Contracts of the laws' copies and comparisons of lists of integers (the seats without layouts). No condition but the lists' sizes. -/
namespace Go.Proofs.Ytaloheljfefdeaa
open Go.RowKit

theorem info_int64 : (Try.prog.info? 2).map (fun i => (i.zero, i.size, i.bytes)) = some (some (.int .i64 0), 1, 8) := by kernel_rfl
/-- What is handed back is a new list of the call's own that holds zs. -/
def RetInts (zs : List Int) (w : World) (e : Ending) (w' : World) : Prop :=
  ∃ A c, e = .returned (.slice A zs.length c) ∧ w'.ownsRow w.heap.size 2 1 (.slice A zs.length c) zs.length (ints zs) ∧ Below w.heap.size w w'
def szI (left : Int) (n : Nat) : Int := if left - n < 0 then -1 else left - n
end Go.Proofs.Ytaloheljfefdeaa

/- Contracts of the laws' own copies, sizes and comparisons of rows of small structs (printed by rows.py). No condition but the lists' sizes. -/
namespace Go.Proofs.Ytaloheljfefdeaa
open Go.RowKit

structure Tst where
  v : Int
  x : Int
  q : Bool
def Tst.val (s : Tst) : Value := .agg #[.int .i64 s.v, .int .i64 s.x, .bool s.q]
def Tst.cells (s : Tst) : List Value := [.int .i64 s.v, .int .i64 s.x, .bool s.q]
def tstCells (l : List Tst) : List Value := l.flatMap Tst.cells
theorem tstCells_length (l : List Tst) : (tstCells l).length = l.length * 3 := by
  induction l with
  | nil => rfl
  | cons s t ih => simp only [tstCells, List.flatMap_cons, List.length_append, List.length_cons] at ih ⊢; rw [ih]; simp [Tst.cells]; omega
theorem tstCells_get {s : Tst} {i : Nat} (hi : i < 3) : ∀ {l : List Tst} {k : Nat}, l[k]? = some s → (tstCells l)[k * 3 + i]? = s.cells[i]?
  | [], k, h => by simp at h
  | t :: l, 0, h => by
    simp only [List.getElem?_cons_zero, Option.some.injEq] at h
    subst h
    simp only [tstCells, List.flatMap_cons, Nat.zero_mul, Nat.zero_add]
    rw [List.getElem?_append_left (by simp [Tst.cells]; omega)]
  | t :: l, k + 1, h => by
    simp only [List.getElem?_cons_succ] at h
    have := tstCells_get hi h
    simp only [tstCells, List.flatMap_cons] at this ⊢
    rw [List.getElem?_append_right (by simp [Tst.cells]; omega), ← this]
    congr 1
    simp [Tst.cells]; omega
theorem tstCells_at {s : Tst} {l : List Tst} {k : Nat} (h : l[k]? = some s) : (tstCells l)[k * 3]? = some (.int .i64 s.v) ∧ (tstCells l)[k * 3 + 1]? = some (.int .i64 s.x) ∧ (tstCells l)[k * 3 + 2]? = some (.bool s.q) :=
  ⟨tstCells_get (i := 0) (by omega) h, tstCells_get (i := 1) (by omega) h, tstCells_get (i := 2) (by omega) h⟩
theorem Rd.tst {w : World} {A : Option Addr} {l : List Tst} {k : Nat} {s : Tst} (h : Rd w A (tstCells l)) (hk : l[k]? = some s) : ∃ b off, A = some ⟨b, off, none⟩ ∧ b < w.heap.size ∧ w.cell? ⟨b, off + k * 3, none⟩ = some (.int .i64 s.v) ∧ w.cell? ⟨b, off + k * 3 + 1, none⟩ = some (.int .i64 s.x) ∧ w.cell? ⟨b, off + k * 3 + 2, none⟩ = some (.bool s.q) := by
  obtain ⟨u0, u1, u2⟩ := tstCells_at hk
  obtain ⟨b, off, rfl, hb, hc⟩ := h.some_ (by intro e; rw [e] at u0; simp at u0)
  exact ⟨b, off, rfl, hb, hc _ _ u0, hc _ _ u1, hc _ _ u2⟩
theorem info_iTest : (Try.prog.info? 100).map (fun i => (i.zero, i.size, i.bytes)) = some (some (.agg #[.int .i64 0, .int .i64 0, .bool false]), 3, 24) := by kernel_rfl
theorem mix_tst {L Z : List Value} {m : Nat} {u0 u1 u2 : Value} (hl : L.length = Z.length) (h0 : L[m]? = some u0) (h1 : L[m + 1]? = some u1) (h2 : L[m + 2]? = some u2) : ((((mix L Z m).set m u0).set (m + 1) u1).set (m + 2) u2) = mix L Z (m + 3) := by
  rw [mix_set hl h0]
  rw [mix_set hl h1]
  rw [mix_set hl h2]
/-- What is handed back is a new list of the call's own that holds l. -/
def RetTst (l : List Tst) (w : World) (e : Ending) (w' : World) : Prop :=
  ∃ A c, e = .returned (.slice A l.length c) ∧ w'.ownsRow w.heap.size 100 3 (.slice A l.length c) l.length (tstCells l) ∧ Below w.heap.size w w'
structure Asg where
  v : Int
  x : Int
def Asg.val (s : Asg) : Value := .agg #[.int .i64 s.v, .int .i64 s.x]
def Asg.cells (s : Asg) : List Value := [.int .i64 s.v, .int .i64 s.x]
def asgCells (l : List Asg) : List Value := l.flatMap Asg.cells
theorem asgCells_length (l : List Asg) : (asgCells l).length = l.length * 2 := by
  induction l with
  | nil => rfl
  | cons s t ih => simp only [asgCells, List.flatMap_cons, List.length_append, List.length_cons] at ih ⊢; rw [ih]; simp [Asg.cells]; omega
theorem asgCells_get {s : Asg} {i : Nat} (hi : i < 2) : ∀ {l : List Asg} {k : Nat}, l[k]? = some s → (asgCells l)[k * 2 + i]? = s.cells[i]?
  | [], k, h => by simp at h
  | t :: l, 0, h => by
    simp only [List.getElem?_cons_zero, Option.some.injEq] at h
    subst h
    simp only [asgCells, List.flatMap_cons, Nat.zero_mul, Nat.zero_add]
    rw [List.getElem?_append_left (by simp [Asg.cells]; omega)]
  | t :: l, k + 1, h => by
    simp only [List.getElem?_cons_succ] at h
    have := asgCells_get hi h
    simp only [asgCells, List.flatMap_cons] at this ⊢
    rw [List.getElem?_append_right (by simp [Asg.cells]; omega), ← this]
    congr 1
    simp [Asg.cells]; omega
theorem asgCells_at {s : Asg} {l : List Asg} {k : Nat} (h : l[k]? = some s) : (asgCells l)[k * 2]? = some (.int .i64 s.v) ∧ (asgCells l)[k * 2 + 1]? = some (.int .i64 s.x) :=
  ⟨asgCells_get (i := 0) (by omega) h, asgCells_get (i := 1) (by omega) h⟩
theorem Rd.asg {w : World} {A : Option Addr} {l : List Asg} {k : Nat} {s : Asg} (h : Rd w A (asgCells l)) (hk : l[k]? = some s) : ∃ b off, A = some ⟨b, off, none⟩ ∧ b < w.heap.size ∧ w.cell? ⟨b, off + k * 2, none⟩ = some (.int .i64 s.v) ∧ w.cell? ⟨b, off + k * 2 + 1, none⟩ = some (.int .i64 s.x) := by
  obtain ⟨u0, u1⟩ := asgCells_at hk
  obtain ⟨b, off, rfl, hb, hc⟩ := h.some_ (by intro e; rw [e] at u0; simp at u0)
  exact ⟨b, off, rfl, hb, hc _ _ u0, hc _ _ u1⟩
theorem info_iAssign : (Try.prog.info? 104).map (fun i => (i.zero, i.size, i.bytes)) = some (some (.agg #[.int .i64 0, .int .i64 0]), 2, 16) := by kernel_rfl
theorem mix_asg {L Z : List Value} {m : Nat} {u0 u1 : Value} (hl : L.length = Z.length) (h0 : L[m]? = some u0) (h1 : L[m + 1]? = some u1) : (((mix L Z m).set m u0).set (m + 1) u1) = mix L Z (m + 2) := by
  rw [mix_set hl h0]
  rw [mix_set hl h1]
/-- What is handed back is a new list of the call's own that holds l. -/
def RetAsg (l : List Asg) (w : World) (e : Ending) (w' : World) : Prop :=
  ∃ A c, e = .returned (.slice A l.length c) ∧ w'.ownsRow w.heap.size 104 2 (.slice A l.length c) l.length (asgCells l) ∧ Below w.heap.size w w'
end Go.Proofs.Ytaloheljfefdeaa

/- Contracts of the laws' own copies of rules. No condition but the lists' sizes. -/
namespace Go.Proofs.Ytaloheljfefdeaa
open Go.RowKit

/-- A rule. -/
structure Rul where
  nm : ByteArray
  gs : List Tst
  es : List Asg
/-- A rule as it lies in memory. -/
structure RuD where
  r : Rul
  ag : Option Addr
  cg : Nat
  ae : Option Addr
  ce : Nat
def RuD.vg (d : RuD) : Value := .slice d.ag d.r.gs.length d.cg
def RuD.ve (d : RuD) : Value := .slice d.ae d.r.es.length d.ce
def RuD.cells (d : RuD) : List Value := [.string d.r.nm, d.vg, d.ve]
def rudCells (ds : List RuD) : List Value := ds.flatMap RuD.cells
theorem rudCells_length (l : List RuD) : (rudCells l).length = l.length * 3 := by
  induction l with
  | nil => rfl
  | cons s t ih => simp only [rudCells, List.flatMap_cons, List.length_append, List.length_cons] at ih ⊢; rw [ih]; simp [RuD.cells]; omega
theorem rudCells_snoc (l : List RuD) (d : RuD) : rudCells (l ++ [d]) = rudCells l ++ [.string d.r.nm, d.vg, d.ve] := by simp [rudCells, RuD.cells]
theorem rudCells_get {s : RuD} {i : Nat} (hi : i < 3) : ∀ {l : List RuD} {k : Nat}, l[k]? = some s → (rudCells l)[k * 3 + i]? = s.cells[i]?
  | [], k, h => by simp at h
  | t :: l, 0, h => by
    simp only [List.getElem?_cons_zero, Option.some.injEq] at h
    subst h
    simp only [rudCells, List.flatMap_cons, Nat.zero_mul, Nat.zero_add]
    rw [List.getElem?_append_left (by simp [RuD.cells]; omega)]
  | t :: l, k + 1, h => by
    simp only [List.getElem?_cons_succ] at h
    have := rudCells_get hi h
    simp only [rudCells, List.flatMap_cons] at this ⊢
    rw [List.getElem?_append_right (by simp [RuD.cells]; omega), ← this]
    congr 1
    simp [RuD.cells]; omega
theorem rudCells_at {s : RuD} {l : List RuD} {k : Nat} (h : l[k]? = some s) : (rudCells l)[k * 3]? = some (.string s.r.nm) ∧ (rudCells l)[k * 3 + 1]? = some s.vg ∧ (rudCells l)[k * 3 + 2]? = some s.ve :=
  ⟨rudCells_get (i := 0) (by omega) h, rudCells_get (i := 1) (by omega) h, rudCells_get (i := 2) (by omega) h⟩
/-- The slice value `.slice A l.length c` holds the rules l. -/
def Rl (w : World) (A : Option Addr) (l : List Rul) : Prop :=
  ∃ ds : List RuD, ds.map RuD.r = l ∧ Rd w A (rudCells ds) ∧ ∀ d ∈ ds, Rd w d.ag (tstCells d.r.gs) ∧ Rd w d.ae (asgCells d.r.es)
theorem Rl.below {w w1 : World} {A : Option Addr} {l : List Rul} (h : Rl w A l) (hb : Below w.heap.size w w1) : Rl w1 A l := by
  obtain ⟨ds, e, h1, h2⟩ := h
  exact ⟨ds, e, h1.below hb, fun d hd => ⟨(h2 d hd).1.below hb, (h2 d hd).2.below hb⟩⟩
theorem Rl.alloc {w : World} {A : Option Addr} {l : List Rul} (h : Rl w A l) (o : Obj) : Rl (w.alloc o) A l := h.below (below_alloc (Below.refl _ _) o)
/-- What one rule of the list reads. -/
theorem Rl.at {w : World} {A : Option Addr} {l : List Rul} {k : Nat} {r : Rul} (h : Rl w A l) (hk : l[k]? = some r) : ∃ b off ag cg ae ce, A = some ⟨b, off, none⟩ ∧ b < w.heap.size ∧ w.cell? ⟨b, off + k * 3, none⟩ = some (.string r.nm) ∧
    w.cell? ⟨b, off + k * 3 + 1, none⟩ = some (.slice ag r.gs.length cg) ∧ w.cell? ⟨b, off + k * 3 + 2, none⟩ = some (.slice ae r.es.length ce) ∧ Rd w ag (tstCells r.gs) ∧ Rd w ae (asgCells r.es) := by
  obtain ⟨ds, rfl, h1, h2⟩ := h
  rw [List.getElem?_map, Option.map_eq_some_iff] at hk
  obtain ⟨d, hd, rfl⟩ := hk
  obtain ⟨u0, u1, u2⟩ := rudCells_at hd
  obtain ⟨b, off, rfl, hb, hc⟩ := h1.some_ (by intro e; rw [e] at u0; simp at u0)
  have hm := h2 d (List.mem_of_getElem? hd)
  exact ⟨b, off, d.ag, d.cg, d.ae, d.ce, rfl, hb, hc _ _ u0, hc _ _ u1, hc _ _ u2, hm.1, hm.2⟩
/-- The two rows behind a rule are the call's own. -/
def Nest (w : World) (base : Nat) (d : RuD) : Prop := w.ownsRow base 100 3 d.vg d.r.gs.length (tstCells d.r.gs) ∧ w.ownsRow base 104 2 d.ve d.r.es.length (asgCells d.r.es)
theorem Nest.below {w w1 : World} {base : Nat} {d : RuD} (h : Nest w base d) (hb : Below w.heap.size w w1) : Nest w1 base d := ⟨own_below h.1 hb, own_below h.2 hb⟩
theorem Nest.mono {w : World} {base base' : Nat} {d : RuD} (h : Nest w base d) (hb : base' ≤ base) : Nest w base' d := ⟨own_mono h.1 hb, own_mono h.2 hb⟩
theorem kept_far {w w' : World} {row : Option Nat} {base : Nat} {e : TypeId} {size n : Nat} {v : Value} {xs : List Value} (h : w.ownsRow base e size v n xs) (hg : w.grownBy w' row) (hlt : ∀ q, row = some q → q < base) : w'.ownsRow base e size v n xs := by
  refine h.kept hg ?_
  rcases hv : v.ownBlock with _ | q
  · exact .inl rfl
  · refine .inr fun h' => ?_
    have := (h.lt q hv).1
    have := hlt q h'.symm
    omega
theorem Nest.far {w w1 : World} {base : Nat} {d : RuD} {row : Option Nat} (h : Nest w base d) (hg : w.grownBy w1 row) (hlt : ∀ q, row = some q → q < base) : Nest w1 base d := ⟨kept_far h.1 hg hlt, kept_far h.2 hg hlt⟩
theorem grown_trans {w a b : World} {row : Option Nat} (h : w.grownBy a row) (h2 : a.grownBy b row) : w.grownBy b row :=
  ⟨h2.os.trans h.os, h2.tape.trans h.tape, h2.output.trans h.output, Nat.le_trans h.size h2.size, fun k hk hne => (h2.block k (Nat.lt_of_lt_of_le hk h.size) hne).trans (h.block k hk hne)⟩
theorem app_set {xs Z : List Value} {m : Nat} (u : Value) (hx : xs.length = m) (hz : m < Z.length) : (xs ++ Z.drop m).set m u = (xs ++ [u]) ++ Z.drop (m + 1) := by
  have hz' : Z.drop m = Z[m] :: Z.drop (m + 1) := List.drop_eq_getElem_cons hz
  rw [List.set_append_right _ _ (by omega), hx, Nat.sub_self, hz', List.set_cons_zero]
  simp
theorem app_set3 {xs Z : List Value} {m : Nat} (u0 u1 u2 : Value) (hx : xs.length = m) (hz : m + 3 ≤ Z.length) : ((((xs ++ Z.drop m).set m u0).set (m + 1) u1).set (m + 2) u2) = (xs ++ [u0, u1, u2]) ++ Z.drop (m + 3) := by
  rw [app_set u0 hx (by omega), app_set u1 (by simp [hx]) (by omega), app_set u2 (by simp [hx]) (by omega)]
  simp
/-- What is handed back is a rule with rows of the call's own. -/
def RetRul (r : Rul) (w : World) (e : Ending) (w' : World) : Prop :=
  ∃ d : RuD, d.r = r ∧ e = .returned (.agg #[.string r.nm, d.vg, d.ve]) ∧ Nest w' w.heap.size d ∧ Below w.heap.size w w'
theorem info_iRule : (Try.prog.info? 54).map (fun i => (i.zero, i.size, i.bytes)) = some (some (.agg #[.string ⟨#[]⟩, .slice none 0 0, .slice none 0 0]), 3, 64) := by kernel_rfl
/-- What is handed back is a list of rules of the call's own. -/
def RetRuls (l : List Rul) (w : World) (e : Ending) (w' : World) : Prop :=
  ∃ A c, ∃ ds : List RuD, e = .returned (.slice A l.length c) ∧ ds.map RuD.r = l ∧ w'.ownsRow w.heap.size 54 3 (.slice A l.length c) l.length (rudCells ds) ∧ (∀ d ∈ ds, Nest w' w.heap.size d) ∧ Below w.heap.size w w'
def RulOk (l : List Rul) : Prop := l.length ≤ 1048576 ∧ ∀ r ∈ l, r.gs.length ≤ 1048576 ∧ r.es.length ≤ 1048576
end Go.Proofs.Ytaloheljfefdeaa

/- Marks of lists of integers, and append of one number (the seats without layouts). No condition but the sizes. -/
namespace Go.Proofs.Ytaloheljfefdeaa
open Go.RowKit

/-- append of one number to a list of the call's own. -/
theorem wpList_push_int (w : World) {ops : Array Oper} {rest : List Oper} {o : Oper} {a : Act} {Q : Exit → Act → World → Prop} (hgd : o.guard = none) (s x : Operand)
    (ho : o.op = .call { callee := .builtin .append, args := #[s, x], argTypes := #[24, 24] })
    (base : Nat) (v : Value) (n : Nat) (zs : List Int) (z : Int) (g c : Nat) (hs : a.eval s = v) (hown : w.ownsRow base 2 1 v n (ints zs))
    (hx : a.eval x = .slice (some ⟨g, 0, none⟩) 1 c) (hc : w.cell? ⟨g, 0, none⟩ = some (.int .i64 z)) (hn : n ≤ 1048577) (hbase : base ≤ w.heap.size)
    (h : ∀ v' w', w'.ownsRow base 2 1 v' (n + 1) (ints (zs ++ [z])) → w.grownBy w' v.ownBlock → (∀ g, v.ownBlock = some g → ∀ j, j < n * 1 → w'.cell? ⟨g, j, none⟩ = w.cell? ⟨g, j, none⟩) → (v'.ownBlock = v.ownBlock ∨ v'.ownBlock = some w.heap.size) → wpList Try.prog ops Q rest (a.put o.dst v') w') : wpList Try.prog ops Q (o :: rest) a w := by
  obtain ⟨i0, hi, hz0, hz1, hz2⟩ := info_parts info_int64
  refine wpList_push w hgd s x 24 ho base 2 i0 (.int .i64 0) 1 8 Try.underlying24 hi hz0 hz1 hz2 rfl (by decide) v n (ints zs) hs hown ⟨g, 0, none⟩ c [.int .i64 z] hx rfl ?_ ?_ (by unfold maxLen; omega) (by omega) hbase ?_
  · intro j u hu
    match j, hu with
    | 0, hu =>
      simp only [List.getElem?_cons_zero, Option.some.injEq] at hu
      rw [← hu]
      simpa [Addr.add] using hc
  · intro u hu
    simp only [List.mem_singleton] at hu
    subst hu; rfl
  · intro v' w' h1 h2 h3 h4
    exact h v' w' (by simpa [ints] using h1) h2 h3 h4
theorem own_zero {w : World} {base : Nat} {e : TypeId} {size c : Nat} {A : Option Addr} {xs : List Value} (h : w.ownsRow base e size (.slice A 0 c) 0 xs) : xs = [] := List.eq_nil_of_length_eq_zero (by simpa using h.1)
def markL (k : Int) (n : Nat) : List Int := (List.range n).map fun (i : Nat) => k + (i : Int)
theorem markL_length (k : Int) (n : Nat) : (markL k n).length = n := by simp [markL]
theorem markL_get {k : Int} {n j : Nat} (h : j < n) : (markL k n)[j]? = some (k + j) := by simp [markL, h]
theorem cell_mark {w w' : World} {row : Option Nat} {a : Addr} {v : Value} (h : w.cell? a = some v) (hg : w.grownBy w' row) (hne : ∀ q, row = some q → q ≠ a.block) : w'.cell? a = some v :=
  (hg.cell_far a (World.block_lt_of_cell? w a h) (fun h' => hne _ h'.symm rfl)).trans h
theorem Mk.of_grown {w w' : World} {A : Option Addr} {n c base : Nat} {e : TypeId} {size : Nat} {xs : List Value} (hg : w.grownBy w' (Value.slice A n c).ownBlock) (ho : w.ownsRow base e size (.slice A n c) n xs) (ho' : ∃ ys, w'.ownsRow base e size (.slice A n c) n ys) : Mk base w.heap.size w w' := by
  refine ⟨hg.os, hg.tape, hg.output, hg.size, fun k hk h => hg.block k hk fun h2 => ?_, fun k cur e2 fz hc => ?_⟩
  · have := ho.lt k h2.symm
    omega
  · by_cases hk : (Value.slice A n c).ownBlock = some k
    · rcases ho.2 with ⟨hv, _⟩ | ⟨g, cap, cur1, hv, _, hg1, _, _, hs1, _⟩
      · rw [hv] at hk; cases hk
      · obtain ⟨ys, ho2⟩ := ho'
        rcases ho2.2 with ⟨hv2, _⟩ | ⟨g2, cap2, cur2, hv2, _, hg2, _, _, hs2, _⟩
        · rw [hv2] at hk; cases hk
        · rw [hv] at hk hv2
          simp only [Value.slice.injEq, Option.some.injEq, Addr.mk.injEq, and_true, true_and] at hv2
          obtain ⟨rfl, rfl⟩ := hv2
          simp only [Value.ownBlock, Option.some.injEq] at hk
          subst hk
          rw [hg1] at hc
          simp only [Option.some.injEq, Obj.cells.injEq] at hc
          obtain ⟨rfl, rfl, rfl⟩ := hc
          exact ⟨cur2, hg2, hs2.trans hs1.symm⟩
    · exact ⟨cur, by rw [hg.block k (Array.getElem?_eq_some_iff.1 hc).1 (fun h => hk h.symm)]; exact hc, rfl⟩
end Go.Proofs.Ytaloheljfefdeaa

/- append of a list of numbers to a list of the call's own; slices.Clone, l01Own (the seats without layouts). No condition but the sizes. -/
namespace Go.Proofs.Ytaloheljfefdeaa
open Go.RowKit

theorem own_prefix {w : World} {base : Nat} {e : TypeId} {size g n cap : Nat} {xs : List Value} (h : w.ownsRow base e size (.slice (some ⟨g, 0, none⟩) n cap) n xs) {i : Nat} (hi : i ≤ n) :
    w.ownsRow base e size (.slice (some ⟨g, 0, none⟩) i cap) i (xs.take (i * size)) := by
  have hle := Nat.mul_le_mul_right size hi
  refine ⟨by rw [List.length_take, h.1]; omega, ?_⟩
  rcases h.2 with ⟨h', _⟩ | ⟨g', cap', cur, h', hb, hg, hnc, hcm, hcs, ht⟩
  · simp at h'
  · simp only [Value.slice.injEq, Option.some.injEq, Addr.mk.injEq, and_true, true_and] at h'
    obtain ⟨rfl, rfl⟩ := h'
    refine .inr ⟨g, cap, cur, rfl, hb, hg, by omega, hcm, hcs, ?_⟩
    rw [← ht, List.take_take, Nat.min_eq_left hle]
theorem own_has {w : World} {base : Nat} {e : TypeId} {size g n cap : Nat} {xs : List Value} (h : w.ownsRow base e size (.slice (some ⟨g, 0, none⟩) n cap) n xs) {j : Nat} (hj : j < cap * size) : (w.cell? ⟨g, j, none⟩).isSome = true := by
  rcases h.2 with ⟨h', _⟩ | ⟨g', cap', cur, h', hb, hg, hnc, hcm, hcs, ht⟩
  · simp at h'
  · simp only [Value.slice.injEq, Option.some.injEq, Addr.mk.injEq, and_true, true_and] at h'
    obtain ⟨rfl, rfl⟩ := h'
    rw [cell_of_row w g j cur e (0, 0) hg]
    rw [Array.getElem?_eq_getElem (by omega)]
    rfl
theorem news_of {w : World} {A : Option Addr} {ys : List Int} {ad : Addr} (hr : Rd w A (ints ys)) (hA : A = some ad) : ∀ j u, (ints ys)[j]? = some u → w.cell? (ad.add j) = some u := by
  intro j u hu
  rcases hr with h | ⟨b, off, e, _, hc⟩
  · rw [h] at hu; simp at hu
  · rw [hA] at e
    simp only [Option.some.injEq] at e
    subst e
    rw [Addr.add_lit]
    exact hc j u hu
theorem ints_cells (ys : List Int) : ∀ u ∈ ints ys, u.oneCell' = true := by
  intro u hu
  obtain ⟨x, _, rfl⟩ := List.mem_map.1 hu
  rfl
theorem ints_append (a b : List Int) : ints a ++ ints b = ints (a ++ b) := by simp [ints]
theorem wpList_append_ints (w : World) {ops : Array Oper} {rest : List Oper} {o : Oper} {a : Act} {Q : Exit → Act → World → Prop} (hgd : o.guard = none) (s x : Operand)
    (ho : o.op = .call { callee := .builtin .append, args := #[s, x], argTypes := #[24, 24] })
    (base : Nat) (v : Value) (n : Nat) (zs ys : List Int) (ad : Addr) (m c : Nat) (hs : a.eval s = v) (hown : w.ownsRow base 2 1 v n (ints zs))
    (hx : a.eval x = .slice (some ad) m c) (hr : Rd w (some ad) (ints ys)) (hm : m = ys.length) (hn : n + m ≤ 1000000000000) (hbase : base ≤ w.heap.size)
    (h : ∀ v' w', w'.ownsRow base 2 1 v' (n + m) (ints (zs ++ ys)) → w.grownBy w' v.ownBlock → (v' = .slice none 0 0 ↔ v = .slice none 0 0 ∧ m = 0) → wpList Try.prog ops Q rest (a.put o.dst v') w') : wpList Try.prog ops Q (o :: rest) a w := by
  obtain ⟨i0, hi, hz0, hz1, hz2⟩ := info_parts info_int64
  refine wpList_append_own w hgd s x 24 ho base 2 i0 (.int .i64 0) 1 8 Try.underlying24 hi hz0 hz1 hz2 rfl (by decide) v n (ints zs) hs hown ad m c (ints ys) hx (by rw [ints_length, hm, Nat.mul_one]) (news_of hr rfl) (ints_cells ys) (by unfold maxLen; omega) (by omega) hbase ?_
  intro v' w' h1 h2 h3
  exact h v' w' (by rw [← ints_append]; exact h1) h2 h3
theorem step_append_fits {ops : Array Oper} {o : Oper} {a : Act} {w : World} {K : Act → World → Prop} {Q : Exit → Act → World → Prop} {E : Prop}
    (hg : o.guard = none) (s x : Operand) (hop : o.op = Op.call { callee := Callee.builtin Builtin.append, args := #[s, x], argTypes := #[24, 24] })
    (base g n cap : Nat) (zs ys : List Int) (hs : a.eval s = .slice (some ⟨g, 0, none⟩) n cap) (hown : w.ownsRow base 2 1 (.slice (some ⟨g, 0, none⟩) n cap) n (ints zs))
    (ad : Addr) (m c : Nat) (hx : a.eval x = .slice (some ad) m c) (hr : Rd w (some ad) (ints ys)) (hm : m = ys.length) (hroom : n + m ≤ cap)
    (h : ∀ w', w'.ownsRow base 2 1 (.slice (some ⟨g, 0, none⟩) (n + m) cap) (n + m) (ints (zs ++ ys)) → w.grownBy w' (some g) → K (a.put o.dst (.slice (some ⟨g, 0, none⟩) (n + m) cap)) w') :
    if Region.wanted o (yielded ops a.tmps) = true then Oper.wp Try.prog o a w K Q else E := by
  obtain ⟨i0, hi, hz0, hz1, hz2⟩ := info_parts info_int64
  have hw : Region.wanted o (yielded ops a.tmps) = true := by simp [Region.wanted, hg]
  rw [if_pos hw]
  obtain ⟨w', hrun, h1, h2⟩ := run_append_fits (P := Try.prog) w base 24 o.type 2 i0 1 Try.underlying24 hi hz1 g n cap (ints zs) hown ad m c (ints ys) (by rw [ints_length, hm, Nat.mul_one]) (news_of hr rfl) (ints_cells ys) hroom
  unfold Oper.wp
  simp [execOp, hop, resolve, invoke, builtin, hs, hx, hrun, Result.andThen]
  exact h w' (by rw [← ints_append]; exact h1) h2
theorem step_append_ints (w : World) {ops : Array Oper} {o : Oper} {a : Act} {K : Act → World → Prop} {Q : Exit → Act → World → Prop} {E : Prop} (hgd : o.guard = none) (s x : Operand)
    (ho : o.op = .call { callee := .builtin .append, args := #[s, x], argTypes := #[24, 24] })
    (base : Nat) (v : Value) (n : Nat) (zs ys : List Int) (ad : Addr) (m c : Nat) (hs : a.eval s = v) (hown : w.ownsRow base 2 1 v n (ints zs))
    (hx : a.eval x = .slice (some ad) m c) (hr : Rd w (some ad) (ints ys)) (hm : m = ys.length) (hn : n + m ≤ 1000000000000) (hbase : base ≤ w.heap.size)
    (h : ∀ v' w', w'.ownsRow base 2 1 v' (n + m) (ints (zs ++ ys)) → w.grownBy w' v.ownBlock → (v' = .slice none 0 0 ↔ v = .slice none 0 0 ∧ m = 0) → K (a.put o.dst v') w') :
    if Region.wanted o (yielded ops a.tmps) = true then Oper.wp Try.prog o a w K Q else E := by
  obtain ⟨i0, hi, hz0, hz1, hz2⟩ := info_parts info_int64
  have hw : Region.wanted o (yielded ops a.tmps) = true := by simp [Region.wanted, hgd]
  rw [if_pos hw]
  refine wp_append_own w s x 24 ho base 2 i0 (.int .i64 0) 1 8 Try.underlying24 hi hz0 hz1 hz2 rfl (by decide) v n (ints zs) hs hown ad m c (ints ys) hx (by rw [ints_length, hm, Nat.mul_one]) (news_of hr rfl) (ints_cells ys) (by unfold maxLen; omega) (by omega) hbase ?_
  intro v' w' h1 h2 h3
  exact h v' w' (by rw [← ints_append]; exact h1) h2 h3
set_option maxRecDepth 100000 in
theorem c_l01Own (b off c n : Nat) (zs : List Int) (w : World) (hn : n = zs.length) (hs : n ≤ 100000000) (hr : Rd w (some ⟨b, off, none⟩) (ints zs)) :
    Calls Try.prog 55 #[.slice (some ⟨b, off, none⟩) n c] w fun e w' => ∃ g c', e = .returned (.slice (some ⟨g, 0, none⟩) n c') ∧ w'.ownsRow w.heap.size 2 1 (.slice (some ⟨g, 0, none⟩) n c') n (ints zs) ∧ Below w.heap.size w w' := by
  have HN := Lib.hid hn
  have HR := Lib.hid hr
  clear hn hr
  go_enter Try.func55, Try.ntmps55
  go_wp2_with (first
    | (at_builtin
       refine wpList_append_ints _ (by rfl) (.tmp 3) (.tmp 4) (by rfl) w.heap.size (.slice (some ⟨w.heap.size, 0, none⟩) 0 0) 0 [] zs ⟨b, off, none⟩ n c (by rfl) (World.ownsRow_made w #[] 0 (Nat.le_refl _) (Nat.zero_le _) rfl) (by rfl) (HR.out.alloc _) HN.out (by omega) (by simp) ?_
       intro v' w1 hown hgrow hnil
       have HO := Lib.hid hown
       have HB := Lib.hid (show Below w.heap.size w w1 from ((Below.refl _ w).alloc (Nat.le_refl _) _).grown hgrow (by simp) (by intro k hk; simp [Value.ownBlock] at hk; omega))
       have HV := Lib.hid (show ∃ g c', v' = .slice (some ⟨g, 0, none⟩) n c' by
         rcases hown.2 with ⟨h1, h2⟩ | ⟨g, cap, cur, h1, _⟩
         · rw [hnil] at h1; simp at h1
         · exact ⟨g, cap, by rw [h1, Nat.zero_add]⟩)
       clear hown hgrow hnil)
    )
  go_ret
  obtain ⟨g, c', rfl⟩ := HV.out
  refine ⟨g, c', rfl, by simpa using HO.out, HB.out⟩
set_option maxRecDepth 100000 in
theorem c_Clone (b off c n : Nat) (zs : List Int) (w : World) (hn : n = zs.length) (hs : n ≤ 100000000) (hr : Rd w (some ⟨b, off, none⟩) (ints zs)) :
    Calls Try.prog 67 #[.slice (some ⟨b, off, none⟩) n c] w fun e w' => ∃ g c', e = .returned (.slice (some ⟨g, 0, none⟩) n c') ∧ w'.ownsRow w.heap.size 2 1 (.slice (some ⟨g, 0, none⟩) n c') n (ints zs) ∧ Below w.heap.size w w' := by
  have HN := Lib.hid hn
  have HR := Lib.hid hr
  clear hn hr
  have q22 : ∀ (w : World) (a : Option Addr) (n c n' c' : Nat), (binOp .eql 24 (.slice a n c) (.slice none n' c')).run Try.prog w = .ok (.bool a.isNone) w := fun w a n c n' c' => Lib.run_eql_slice_nil w _ _ a n c n' c' Try.underlying24
  go_enter Try.func67, Try.ntmps67
  go_wp2_with (first
    | (at_builtin
       refine wpList_append_ints _ (by rfl) (.tmp 5) (.tmp 6) (by rfl) w.heap.size (.slice (some ⟨w.heap.size, 0, none⟩) 0 0) 0 [] zs ⟨b, off, none⟩ n c (by rfl) (World.ownsRow_made w #[] 0 (Nat.le_refl _) (Nat.zero_le _) rfl) (by rfl) (HR.out.alloc _) HN.out (by omega) (by simp) ?_
       intro v' w1 hown hgrow hnil
       have HO := Lib.hid hown
       have HB := Lib.hid (show Below w.heap.size w w1 from ((Below.refl _ w).alloc (Nat.le_refl _) _).grown hgrow (by simp) (by intro k hk; simp [Value.ownBlock] at hk; omega))
       have HV := Lib.hid (show ∃ g c', v' = .slice (some ⟨g, 0, none⟩) n c' by
         rcases hown.2 with ⟨h1, h2⟩ | ⟨g, cap, cur, h1, _⟩
         · rw [hnil] at h1; simp at h1
         · exact ⟨g, cap, by rw [h1, Nat.zero_add]⟩)
       clear hown hgrow hnil)
    )
  go_ret
  obtain ⟨g, c', rfl⟩ := HV.out
  refine ⟨g, c', rfl, by simpa using HO.out, HB.out⟩
end Go.Proofs.Ytaloheljfefdeaa

/- Lists of lists of numbers: how they read, how they are owned, how one is appended. No condition but the sizes. -/
namespace Go.Proofs.Ytaloheljfefdeaa
open Go.RowKit

/-- A list of numbers as it lies in memory. -/
structure IvD where
  l : List Int
  a : Option Addr
  c : Nat
def IvD.v (d : IvD) : Value := .slice d.a d.l.length d.c
def rowsC (ds : List IvD) : List Value := ds.map IvD.v
theorem rowsC_length (ds : List IvD) : (rowsC ds).length = ds.length := by simp [rowsC]
/-- The slice value `.slice A L.length c` holds the lists L. -/
def RdS (w : World) (A : Option Addr) (L : List (List Int)) : Prop :=
  ∃ ds : List IvD, ds.map IvD.l = L ∧ Rd w A (rowsC ds) ∧ ∀ d ∈ ds, Rd w d.a (ints d.l)
theorem RdS.below {w w1 : World} {A : Option Addr} {L : List (List Int)} (h : RdS w A L) (hb : Below w.heap.size w w1) : RdS w1 A L := by
  obtain ⟨ds, e, h1, h2⟩ := h
  exact ⟨ds, e, h1.below hb, fun d hd => (h2 d hd).below hb⟩
theorem RdS.at {w : World} {A : Option Addr} {L : List (List Int)} {k : Nat} {l : List Int} (h : RdS w A L) (hk : L[k]? = some l) : ∃ b off a c, A = some ⟨b, off, none⟩ ∧ b < w.heap.size ∧ w.cell? ⟨b, off + k, none⟩ = some (.slice a l.length c) ∧ Rd w a (ints l) := by
  obtain ⟨ds, rfl, h1, h2⟩ := h
  rw [List.getElem?_map, Option.map_eq_some_iff] at hk
  obtain ⟨d, hd, rfl⟩ := hk
  have u0 : (rowsC ds)[k]? = some d.v := by simp [rowsC, hd]
  obtain ⟨b, off, rfl, hb, hc⟩ := h1.some_ (by intro e; rw [e] at u0; simp at u0)
  exact ⟨b, off, d.a, d.c, rfl, hb, hc _ _ u0, h2 d (List.mem_of_getElem? hd)⟩
/-- The lists are the call's own, each in a block below hi, no two in one; and so is the row of their slices. -/
def OwnS (w : World) (base hi : Nat) (v : Value) (L : List (List Int)) : Prop :=
  ∃ ds : List IvD, ds.map IvD.l = L ∧ w.ownsRow base 24 1 v L.length (rowsC ds) ∧ (∀ d ∈ ds, w.ownsRow base 2 1 d.v d.l.length (ints d.l) ∧ ∀ q, d.v.ownBlock = some q → q < hi) ∧ ds.Pairwise fun a b => ∀ q, a.v.ownBlock = some q → b.v.ownBlock ≠ some q
theorem OwnS.below {w w1 : World} {base hi : Nat} {v : Value} {L : List (List Int)} (h : OwnS w base hi v L) (hb : Below w.heap.size w w1) : OwnS w1 base hi v L := by
  obtain ⟨ds, e, h1, h2, h3⟩ := h
  exact ⟨ds, e, own_below h1 hb, fun d hd => ⟨own_below (h2 d hd).1 hb, (h2 d hd).2⟩, h3⟩
theorem OwnS.mono {w : World} {base base' hi hi' : Nat} {v : Value} {L : List (List Int)} (h : OwnS w base hi v L) (hb : base' ≤ base) (hh : hi ≤ hi') : OwnS w base' hi' v L := by
  obtain ⟨ds, e, h1, h2, h3⟩ := h
  exact ⟨ds, e, own_mono h1 hb, fun d hd => ⟨own_mono (h2 d hd).1 hb, fun q hq => Nat.lt_of_lt_of_le ((h2 d hd).2 q hq) hh⟩, h3⟩
theorem OwnS.rd {w : World} {base hi n c : Nat} {A : Option Addr} {L : List (List Int)} (h : OwnS w base hi (.slice A n c) L) (hn : n = L.length) : RdS w A L := by
  obtain ⟨ds, e, h1, h2, _⟩ := h
  subst hn
  exact ⟨ds, e, Rd.own h1, fun d hd => Rd.own (h2 d hd).1⟩
theorem OwnS.form {w : World} {base hi : Nat} {v : Value} {L : List (List Int)} (h : OwnS w base hi v L) : ∃ A c, v = .slice A L.length c := by
  obtain ⟨ds, _, h1, _⟩ := h
  rcases h1.2 with ⟨e, e2⟩ | ⟨g, cap, cur, e, _⟩
  · exact ⟨none, 0, by rw [e, e2]⟩
  · exact ⟨_, _, e⟩
theorem OwnS.ge {w : World} {base hi : Nat} {v : Value} {L : List (List Int)} (h : OwnS w base hi v L) : ∀ q, v.ownBlock = some q → base ≤ q ∧ q < w.heap.size := by
  obtain ⟨ds, _, h1, _⟩ := h
  exact fun q hq => h1.lt q hq
theorem own_ne {w : World} {b1 b2 : Nat} {e1 e2 : TypeId} {s1 s2 n1 n2 : Nat} {v1 v2 : Value} {x1 x2 : List Value} (h1 : w.ownsRow b1 e1 s1 v1 n1 x1) (h2 : w.ownsRow b2 e2 s2 v2 n2 x2) (he : e1 ≠ e2) : ∀ q, v1.ownBlock = some q → v2.ownBlock = some q → False := by
  intro q hq1 hq2
  rcases h1.2 with ⟨rfl, _⟩ | ⟨g1, c1, cur1, rfl, _, hg1, _⟩
  · simp [Value.ownBlock] at hq1
  · rcases h2.2 with ⟨rfl, _⟩ | ⟨g2, c2, cur2, rfl, _, hg2, _⟩
    · simp [Value.ownBlock] at hq2
    · simp [Value.ownBlock] at hq1 hq2
      subst hq1
      subst hq2
      rw [hg1] at hg2
      simp only [Option.some.injEq, Obj.cells.injEq] at hg2
      exact he hg2.2.1
theorem own_keep {w w' : World} {b1 b2 : Nat} {e1 e2 : TypeId} {s1 s2 n1 n2 : Nat} {v1 v2 : Value} {x1 x2 : List Value} (h1 : w.ownsRow b1 e1 s1 v1 n1 x1) (h2 : w.ownsRow b2 e2 s2 v2 n2 x2) (he : e1 ≠ e2) (hg : w.grownBy w' v2.ownBlock) : w'.ownsRow b1 e1 s1 v1 n1 x1 := by
  refine h1.kept hg ?_
  rcases hv : v1.ownBlock with _ | q
  · exact .inl rfl
  · exact .inr fun h' => own_ne h1 h2 he q hv h'.symm
theorem info_intS : (Try.prog.info? 24).map (fun i => (i.zero, i.size, i.bytes)) = some (some (.slice none 0 0), 1, 24) := by kernel_rfl
/-- append of one list to a list of lists of the call's own. -/
theorem wpList_push_row (w : World) {ops : Array Oper} {rest : List Oper} {o : Oper} {a : Act} {Q : Exit → Act → World → Prop} (hgd : o.guard = none) (s x : Operand)
    (ho : o.op = .call { callee := .builtin .append, args := #[s, x], argTypes := #[39, 39] })
    (base hi hi' : Nat) (v : Value) (L : List (List Int)) (d : IvD) (g c : Nat) (hs : a.eval s = v) (hown : OwnS w base hi v L)
    (hx : a.eval x = .slice (some ⟨g, 0, none⟩) 1 c) (hc : w.cell? ⟨g, 0, none⟩ = some d.v) (hd : w.ownsRow base 2 1 d.v d.l.length (ints d.l)) (hfr : ∀ q, d.v.ownBlock = some q → hi ≤ q ∧ q < hi') (hle : hi ≤ hi') (hn : L.length ≤ 1048577) (hbase : base ≤ w.heap.size)
    (h : ∀ v' w', OwnS w' base hi' v' (L ++ [d.l]) → w.grownBy w' v.ownBlock → wpList Try.prog ops Q rest (a.put o.dst v') w') : wpList Try.prog ops Q (o :: rest) a w := by
  obtain ⟨i0, hi, hz0, hz1, hz2⟩ := info_parts info_intS
  obtain ⟨ds, rfl, h1, h2, h3⟩ := hown
  rw [List.length_map] at h1 hn
  refine wpList_push w hgd s x 39 ho base 24 i0 (.slice none 0 0) 1 24 Try.underlying39 hi hz0 hz1 hz2 rfl (by decide) v ds.length (rowsC ds) hs h1 ⟨g, 0, none⟩ c [d.v] hx rfl ?_ ?_ (by unfold maxLen; omega) (by omega) hbase ?_
  · intro j u hu
    match j, hu with
    | 0, hu =>
      simp only [List.getElem?_cons_zero, Option.some.injEq] at hu
      rw [← hu]
      simpa [Addr.add] using hc
  · intro u hu
    simp only [List.mem_singleton] at hu
    subst hu
    rfl
  · intro v' w' hown1 hgrow _ _
    refine h v' w' ⟨ds ++ [d], by simp, ?_, fun d' hd' => ?_, ?_⟩ hgrow
    · have e : rowsC (ds ++ [d]) = rowsC ds ++ [d.v] := by simp [rowsC]
      rw [e]
      simpa using hown1
    · rcases List.mem_append.1 hd' with hd' | hd'
      · exact ⟨own_keep (h2 d' hd').1 h1 (by decide) hgrow, fun q hq => Nat.lt_of_lt_of_le ((h2 d' hd').2 q hq) hle⟩
      · simp only [List.mem_singleton] at hd'
        subst hd'
        exact ⟨own_keep hd h1 (by decide) hgrow, fun q hq => (hfr q hq).2⟩
    · rw [List.pairwise_append]
      refine ⟨h3, List.pairwise_singleton _ _, fun a' ha' b' hb' q hq hq2 => ?_⟩
      simp only [List.mem_singleton] at hb'
      subst hb'
      have := (h2 a' ha').2 q hq
      have := (hfr q hq2).1
      omega
/-- The same, as one operation. -/
theorem wp_push_row (w : World) {o : Oper} {a : Act} {K : Act → World → Prop} {Q : Exit → Act → World → Prop} (s x : Operand)
    (ho : o.op = .call { callee := .builtin .append, args := #[s, x], argTypes := #[39, 39] })
    (base hi hi' : Nat) (v : Value) (L : List (List Int)) (d : IvD) (g c : Nat) (hs : a.eval s = v) (hown : OwnS w base hi v L)
    (hx : a.eval x = .slice (some ⟨g, 0, none⟩) 1 c) (hc : w.cell? ⟨g, 0, none⟩ = some d.v) (hd : w.ownsRow base 2 1 d.v d.l.length (ints d.l)) (hfr : ∀ q, d.v.ownBlock = some q → hi ≤ q ∧ q < hi') (hle : hi ≤ hi') (hn : L.length ≤ 1048577) (hbase : base ≤ w.heap.size)
    (h : ∀ v' w', OwnS w' base hi' v' (L ++ [d.l]) → w.grownBy w' v.ownBlock → (∀ g, v.ownBlock = some g → ∀ j, j < L.length → w'.cell? ⟨g, j, none⟩ = w.cell? ⟨g, j, none⟩) → K (a.put o.dst v') w') : o.wp Try.prog a w K Q := by
  obtain ⟨i0, hi, hz0, hz1, hz2⟩ := info_parts info_intS
  obtain ⟨ds, rfl, h1, h2, h3⟩ := hown
  rw [List.length_map] at h1 hn
  refine wp_push w s x 39 ho base 24 i0 (.slice none 0 0) 1 24 Try.underlying39 hi hz0 hz1 hz2 rfl (by decide) v ds.length (rowsC ds) hs h1 ⟨g, 0, none⟩ c [d.v] hx rfl ?_ ?_ (by unfold maxLen; omega) (by omega) hbase ?_
  · intro j u hu
    match j, hu with
    | 0, hu =>
      simp only [List.getElem?_cons_zero, Option.some.injEq] at hu
      rw [← hu]
      simpa [Addr.add] using hc
  · intro u hu
    simp only [List.mem_singleton] at hu
    subst hu
    rfl
  · intro v' w' hown1 hgrow hold _
    refine h v' w' ⟨ds ++ [d], by simp, ?_, fun d' hd' => ?_, ?_⟩ hgrow fun g hg j hj => hold g hg j (by rw [List.length_map] at hj; omega)
    · have e : rowsC (ds ++ [d]) = rowsC ds ++ [d.v] := by simp [rowsC]
      rw [e]
      simpa using hown1
    · rcases List.mem_append.1 hd' with hd' | hd'
      · exact ⟨own_keep (h2 d' hd').1 h1 (by decide) hgrow, fun q hq => Nat.lt_of_lt_of_le ((h2 d' hd').2 q hq) hle⟩
      · simp only [List.mem_singleton] at hd'
        subst hd'
        exact ⟨own_keep hd h1 (by decide) hgrow, fun q hq => (hfr q hq).2⟩
    · rw [List.pairwise_append]
      refine ⟨h3, List.pairwise_singleton _ _, fun a' ha' b' hb' q hq hq2 => ?_⟩
      simp only [List.mem_singleton] at hb'
      subst hb'
      have := (h2 a' ha').2 q hq
      have := (hfr q hq2).1
      omega
end Go.Proofs.Ytaloheljfefdeaa

/- Contracts of the laws' own comparisons and sizes of rules and models. No condition but the lists' sizes. -/
namespace Go.Proofs.Ytaloheljfefdeaa
open Go.RowKit

structure Mdl where
  sz : List Int
  st : List Int
  rs : List Rul
def MdlOk (m : Mdl) : Prop := m.sz.length ≤ 1048576 ∧ m.st.length ≤ 1048576 ∧ RulOk m.rs
/-- The model m ax it reads. -/
structure Md (w : World) (az ax ar : Option Addr) (m : Mdl) : Prop where
  z : Rd w az (ints m.sz)
  s : Rd w ax (ints m.st)
  r : Rl w ar m.rs
theorem Md.below {w w1 : World} {az ax ar : Option Addr} {m : Mdl} (h : Md w az ax ar m) (hb : Below w.heap.size w w1) : Md w1 az ax ar m := ⟨h.z.below hb, h.s.below hb, h.r.below hb⟩
theorem Md.alloc {w : World} {az ax ar : Option Addr} {m : Mdl} (h : Md w az ax ar m) (o : Obj) : Md (w.alloc o) az ax ar m := h.below (below_alloc (Below.refl _ _) o)
def mv (m : Mdl) (az ax ar : Option Addr) (cz cs cr : Nat) : Value := .agg #[.slice az m.sz.length cz, .slice ax m.st.length cs, .slice ar m.rs.length cr]
end Go.Proofs.Ytaloheljfefdeaa

/- Contracts of the laws' own sizes of rules and models. No condition but that the lengths are those of a run. -/
namespace Go.Proofs.Ytaloheljfefdeaa
open Go.RowKit

/-- The lengths of a rule are those of a run. -/
def SzOk (r : Rul) : Prop := r.nm.size ≤ 9223372036854775807 ∧ r.gs.length ≤ 9223372036854775807 ∧ r.es.length ≤ 9223372036854775807
/-- What a size may be: -1, or what is left of left, and then P holds. -/
def Left (left : Int) (P : Prop) (w : World) (e : Ending) (w' : World) : Prop := ∃ v : Int, e = .returned (.int .i64 v) ∧ (v = -1 ∨ (0 ≤ v ∧ v ≤ left ∧ P)) ∧ Below w.heap.size w w'
theorem szI_cases {left : Int} {n : Nat} : szI left n = -1 ∧ left - n < 0 ∨ szI left n = left - n ∧ 0 ≤ left - n := by
  unfold szI; split <;> omega
/-- The lengths of a model are those of a run. -/
def MSzOk (m : Mdl) : Prop := m.sz.length ≤ 9223372036854775807 ∧ m.st.length ≤ 9223372036854775807 ∧ m.rs.length ≤ 9223372036854775807 ∧ ∀ r ∈ m.rs, SzOk r
end Go.Proofs.Ytaloheljfefdeaa

/- Contract of the laws' own copy of a model. No condition but the lists' sizes. -/
namespace Go.Proofs.Ytaloheljfefdeaa
open Go.RowKit

/-- The rows of a model are the call's own. -/
structure MOwn (w : World) (base : Nat) (az ax ar : Option Addr) (cz cs cr : Nat) (m : Mdl) (ds : List RuD) : Prop where
  z : w.ownsRow base 2 1 (.slice az m.sz.length cz) m.sz.length (ints m.sz)
  s : w.ownsRow base 2 1 (.slice ax m.st.length cs) m.st.length (ints m.st)
  r : w.ownsRow base 54 3 (.slice ar m.rs.length cr) m.rs.length (rudCells ds)
  e : ds.map RuD.r = m.rs
  d : ∀ d ∈ ds, Nest w base d
theorem Nest.rd {w : World} {base : Nat} {d : RuD} (h : Nest w base d) : Rd w d.ag (tstCells d.r.gs) ∧ Rd w d.ae (asgCells d.r.es) := ⟨Rd.own h.1, Rd.own h.2⟩
theorem MOwn.md {w : World} {base : Nat} {az ax ar : Option Addr} {cz cs cr : Nat} {m : Mdl} {ds : List RuD} (h : MOwn w base az ax ar cz cs cr m ds) : Md w az ax ar m :=
  ⟨Rd.own h.z, Rd.own h.s, ds, h.e, Rd.own h.r, fun d hd => (h.d d hd).rd⟩
theorem MOwn.below {w w1 : World} {base : Nat} {az ax ar : Option Addr} {cz cs cr : Nat} {m : Mdl} {ds : List RuD} (h : MOwn w base az ax ar cz cs cr m ds) (hb : Below w.heap.size w w1) : MOwn w1 base az ax ar cz cs cr m ds :=
  ⟨own_below h.z hb, own_below h.s hb, own_below h.r hb, h.e, fun d hd => (h.d d hd).below hb⟩
theorem Nest.set {w : World} {base : Nat} {d : RuD} (h : Nest w base d) {p : Addr} (hp : p.block < base) (v : Value) : Nest (w.setCell p v) base d := ⟨ownsRow_setCell_below h.1 hp v, ownsRow_setCell_below h.2 hp v⟩
/-- What is handed back is a model of the call's own. -/
def RetMdl (m : Mdl) (w : World) (e : Ending) (w' : World) : Prop :=
  ∃ az ax ar cz cs cr, ∃ ds : List RuD, e = .returned (mv m az ax ar cz cs cr) ∧ MOwn w' w.heap.size az ax ar cz cs cr m ds ∧ Below w.heap.size w w'
end Go.Proofs.Ytaloheljfefdeaa

/- Contracts of the small functions on models (has, isState, areTests) of the reference. Condition: the sizes lie in 1 .. 32. -/
namespace Go.Proofs.Ytaloheljfefdeaa
open Go.RowKit

def inB (x lo hi : Int) : Bool := decide (lo ≤ x ∧ x ≤ hi)
theorem c_within (x lo hi : Int) (w : World) : Calls Try.prog 65 #[.int .i64 x, .int .i64 lo, .int .i64 hi] w fun e w' => e = .returned (.bool (inB x lo hi)) ∧ w = w' := by
  go_enter Try.func65, Try.ntmps65
  go_wp2
  all_goals (go_ret)
  all_goals (refine ⟨?_, rfl⟩; congr 2; simp [inB]; omega)
theorem c_l01In (x lo hi : Int) (w : World) : Calls Try.prog 92 #[.int .i64 x, .int .i64 lo, .int .i64 hi] w fun e w' => e = .returned (.bool (inB x lo hi)) ∧ w = w' := by
  go_enter Try.func92, Try.ntmps92
  go_wp2
  all_goals (go_ret)
  all_goals (refine ⟨?_, rfl⟩; congr 2; simp [inB]; omega)
/-- The sizes lie in 1 .. 32. -/
def SzsOk (sz : List Int) : Prop := ∀ z ∈ sz, 1 ≤ z ∧ z ≤ 32
def hasB (sz : List Int) (v x : Int) : Bool := inB v 0 (sz.length - 1) && inB x 0 (sz.getD v.toNat 0 - 1)
set_option maxRecDepth 100000 in
theorem c_l20Has (m : Mdl) (az ax ar : Option Addr) (cz cs cr : Nat) (v x : Int) (w : World) (hs : SzsOk m.sz) (hl : m.sz.length ≤ 1048576) (h : Rd w az (ints m.sz)) :
    Calls Try.prog 102 #[mv m az ax ar cz cs cr, .int .i64 v, .int .i64 x] w fun e w' => e = .returned (.bool (hasB m.sz v x)) ∧ Below w.heap.size w w' := by
  obtain ⟨sz, st, rs⟩ := m
  dsimp only [mv] at hs hl h ⊢
  have hw : IntKind.i64.wrap ((sz.length : Int) - 1) = sz.length - 1 := IntWalk.i64_in _ (by omega)
  have HH := Lib.hid (show hasB sz v x = (inB v 0 (sz.length - 1) && inB x 0 (sz.getD v.toNat 0 - 1)) from rfl)
  generalize hasB sz v x = H at HH ⊢
  rcases hv : inB v 0 (sz.length - 1) with _ | _
  · have e := HH.out
    rw [hv, Bool.false_and] at e
    subst e
    clear HH h
    generalize sz.length = n at *
    go_enter Try.func102, Try.ntmps102
    go_wp2_with (first
      | (go_at_call 92
         refine (c_l01In _ _ _ _).mono ?_
         rintro e w' ⟨rfl, rfl⟩)
      )
    go_ret
    exact ⟨rfl, by (repeat (first | exact Below.refl _ _ | assumption | refine below_alloc ?_ _ | refine below_drewN ?_ _ | refine below_set ?_ _ (by simp; try omega) | refine Below.drew ?_))⟩
  · have e := HH.out
    rw [hv, Bool.true_and] at e
    clear HH
    have hvv : 0 ≤ v ∧ v < sz.length := by simp [inB] at hv; omega
    obtain ⟨k, rfl⟩ : ∃ k : Nat, v = k := ⟨v.toNat, by omega⟩
    have hk : k < sz.length := by omega
    obtain ⟨z, hz⟩ : ∃ z, sz[k]? = some z := ⟨_, List.getElem?_eq_getElem hk⟩
    have hzb := hs z (List.mem_of_getElem? hz)
    have hzg : sz.getD k 0 = z := by rw [List.getD_eq_getElem?_getD, hz]; rfl
    rw [Int.toNat_natCast, hzg] at e
    obtain ⟨b, off, rfl, _, g0⟩ := h.int hz
    have hw2 : IntKind.i64.wrap (z - 1) = z - 1 := IntWalk.i64_in _ (by omega)
    subst e
    clear hs hz hzg h
    generalize sz.length = n at *
    go_enter Try.func102, Try.ntmps102
    go_wp2_with (first
      | (go_at_call 92
         refine (c_l01In _ _ _ _).mono ?_
         rintro e w' ⟨rfl, rfl⟩)
      )
    go_ret
    exact ⟨rfl, by (repeat (first | exact Below.refl _ _ | assumption | refine below_alloc ?_ _ | refine below_drewN ?_ _ | refine below_set ?_ _ (by simp; try omega) | refine Below.drew ?_))⟩
theorem c_length (A : Option Addr) (c n : Nat) (w : World) : Calls Try.prog 103 #[.slice A n c] w fun e w' => e = .returned (.int .i64 n) ∧ w = w' := by
  go_enter Try.func103, Try.ntmps103
  go_wp2
  go_ret
  exact ⟨rfl, rfl⟩
set_option maxRecDepth 100000 in
theorem c_has (m : Mdl) (az ax ar : Option Addr) (cz cs cr : Nat) (v x : Int) (w : World) (hs : SzsOk m.sz) (hl : m.sz.length ≤ 1048576) (h : Rd w az (ints m.sz)) :
    Calls Try.prog 101 #[mv m az ax ar cz cs cr, .int .i64 v, .int .i64 x] w fun e w' => e = .returned (.bool (hasB m.sz v x)) ∧ Below w.heap.size w w' := by
  obtain ⟨sz, st, rs⟩ := m
  dsimp only [mv] at hs hl h ⊢
  have hw : IntKind.i64.wrap ((sz.length : Int) - 1) = sz.length - 1 := IntWalk.i64_in _ (by omega)
  have HH := Lib.hid (show hasB sz v x = (inB v 0 (sz.length - 1) && inB x 0 (sz.getD v.toNat 0 - 1)) from rfl)
  generalize hasB sz v x = H at HH ⊢
  rcases hv : inB v 0 (sz.length - 1) with _ | _
  · have e := HH.out
    rw [hv, Bool.false_and] at e
    subst e
    clear HH h
    generalize sz.length = n at *
    go_enter Try.func101, Try.ntmps101
    go_wp2_with (first
      | (go_at_call 65
         refine (c_within _ _ _ _).mono ?_
         rintro e w' ⟨rfl, rfl⟩)
      | (go_at_call 103
         refine (c_length _ _ _ _).mono ?_
         rintro e w' ⟨rfl, rfl⟩)
      )
    go_ret
    exact ⟨rfl, by (repeat (first | exact Below.refl _ _ | assumption | refine below_alloc ?_ _ | refine below_drewN ?_ _ | refine below_set ?_ _ (by simp; try omega) | refine Below.drew ?_))⟩
  · have e := HH.out
    rw [hv, Bool.true_and] at e
    clear HH
    have hvv : 0 ≤ v ∧ v < sz.length := by simp [inB] at hv; omega
    obtain ⟨k, rfl⟩ : ∃ k : Nat, v = k := ⟨v.toNat, by omega⟩
    have hk : k < sz.length := by omega
    obtain ⟨z, hz⟩ : ∃ z, sz[k]? = some z := ⟨_, List.getElem?_eq_getElem hk⟩
    have hzb := hs z (List.mem_of_getElem? hz)
    have hzg : sz.getD k 0 = z := by rw [List.getD_eq_getElem?_getD, hz]; rfl
    rw [Int.toNat_natCast, hzg] at e
    obtain ⟨b, off, rfl, _, g0⟩ := h.int hz
    have hw2 : IntKind.i64.wrap (z - 1) = z - 1 := IntWalk.i64_in _ (by omega)
    subst e
    clear hs hz hzg h
    generalize sz.length = n at *
    go_enter Try.func101, Try.ntmps101
    go_wp2_with (first
      | (go_at_call 65
         refine (c_within _ _ _ _).mono ?_
         rintro e w' ⟨rfl, rfl⟩)
      | (go_at_call 103
         refine (c_length _ _ _ _).mono ?_
         rintro e w' ⟨rfl, rfl⟩)
      )
    go_ret
    exact ⟨rfl, by (repeat (first | exact Below.refl _ _ | assumption | refine below_alloc ?_ _ | refine below_drewN ?_ _ | refine below_set ?_ _ (by simp; try omega) | refine Below.drew ?_))⟩
/-- The first k values lie within their sizes. -/
def stK (sz vs : List Int) (k : Nat) : Bool := (List.range k).all fun i => inB (vs.getD i 0) 0 (sz.getD i 0 - 1)
def stB (sz vs : List Int) : Bool := decide (vs.length = sz.length) && stK sz vs vs.length
theorem stK_zero (sz vs : List Int) : stK sz vs 0 = true := rfl
theorem stK_succ (sz vs : List Int) (k : Nat) : stK sz vs (k + 1) = (stK sz vs k && inB (vs.getD k 0) 0 (sz.getD k 0 - 1)) := by simp [stK, List.range_succ]
theorem stK_bad {sz vs : List Int} {k : Nat} (h : inB (vs.getD k 0) 0 (sz.getD k 0 - 1) = false) : ∀ n, k < n → stK sz vs n = false
  | 0, hk => by omega
  | n + 1, hk => by
    rw [stK_succ]
    by_cases e : k = n
    · subst e; rw [h]; simp
    · rw [stK_bad h n (by omega)]; rfl
theorem getD_of {l : List Int} {k : Nat} {z : Int} (h : l[k]? = some z) : l.getD k 0 = z := by rw [List.getD_eq_getElem?_getD, h]; rfl
set_option maxRecDepth 100000 in
theorem c_isState (m : Mdl) (az ax ar : Option Addr) (cz cs cr : Nat) (A : Option Addr) (c : Nat) (vs : List Int) (w : World) (hs : SzsOk m.sz) (hl : m.sz.length ≤ 1048576) (hl2 : vs.length ≤ 1048576) (h : Rd w az (ints m.sz)) (hv : Rd w A (ints vs)) :
    Calls Try.prog 69 #[mv m az ax ar cz cs cr, .slice A vs.length c] w fun e w' => e = .returned (.bool (stB m.sz vs)) ∧ Below w.heap.size w w' := by
  have HH := Lib.hid (fun (w : World) (h : Rd w az (ints m.sz)) (v x : Int) => c_has m az ax ar cz cs cr v x w hs hl h)
  have HB0 := Lib.hid (show stB m.sz vs = (decide (vs.length = m.sz.length) && stK m.sz vs vs.length) from rfl)
  generalize stB m.sz vs = R at HB0 ⊢
  by_cases hne : vs.length = m.sz.length
  · have e0 := HB0.out
    rw [decide_eq_true hne, Bool.true_and] at e0
    have E0 := Lib.hid e0
    have HNE := Lib.hid hne
    clear e0 HB0
    obtain ⟨sz, st, rs⟩ := m
    dsimp only [mv] at *
    generalize hsn : sz.length = sn at *
    generalize hvn : vs.length = vn at *
    subst hne
    have HSN := Lib.hid hsn
    have HVN := Lib.hid hvn
    clear hsn hvn
    go_enter Try.func69, Try.ntmps69
    go_wp2
    have HV := Lib.hid hv
    have HZ := Lib.hid h
    clear hv h
    go_loopw [15] (fun i wr => ∃ k : Nat, k ≤ vn ∧ i = .int .i64 k ∧ Hid (stK sz vs k = true) ∧ wr.cell? ⟨w.heap.size, 0, none⟩ = some (.slice az vn cz) ∧ wr.cell? ⟨w.heap.size, 1, none⟩ = some (.slice ax st.length cs) ∧ wr.cell? ⟨w.heap.size, 2, none⟩ = some (.slice ar rs.length cr) ∧ Below w.heap.size w wr) (fun i _ => vn - (intOf i).toNat)
    case atStart => exact ⟨0, Nat.zero_le _, rfl, Lib.hid rfl, by go_simp, by go_simp, by go_simp, by (repeat (first | exact Below.refl _ _ | assumption | refine below_alloc ?_ _ | refine below_drewN ?_ _ | refine below_set ?_ _ (by simp; try omega) | refine Below.drew ?_))⟩
    case round =>
      obtain ⟨k, hk, rfl, ha, k0, k1, k2, hb⟩ := hrel
      by_cases hlt : k < vn
      · obtain ⟨z, hz⟩ : ∃ z, vs[k]? = some z := ⟨_, List.getElem?_eq_getElem (by have := HVN.out; omega)⟩
        obtain ⟨b, off, rfl, _, g0⟩ := (HV.out.below hb).int hz
        have hg := getD_of hz
        have hb1 : inB (k : Int) 0 ((sz.length : Int) - 1) = true := by have := HSN.out; simp [inB]; omega
        have hh : hasB sz (k : Int) z = inB (vs.getD k 0) 0 (sz.getD k 0 - 1) := by unfold hasB; rw [hb1, Bool.true_and, hg, Int.toNat_natCast]
        have HC := Lib.hid (fun w h => HH.out w h k z)
        rw [hh] at HC
        have HBE := Lib.hid hb
        clear hz hb hb1 hg hh
        rcases hin : inB (vs.getD k 0) 0 (sz.getD k 0 - 1) with _ | _
        · rw [hin] at HC
          have HI := Lib.hid hin
          clear hin
          go_wp2_with (fail)
          refine (HC.out _ (HZ.out.below HBE.out)).mono ?_
          rintro e w2 ⟨rfl, hb⟩
          have HB2 := Lib.hid (below_chain HBE.out hb)
          clear hb
          go_wp2
          go_ret
          exact ⟨ret_bool (by rw [E0.out, stK_bad HI.out _ hlt]), HB2.out⟩
        · rw [hin] at HC
          have HI := Lib.hid hin
          clear hin
          go_wp2_with (fail)
          refine (HC.out _ (HZ.out.below HBE.out)).mono ?_
          rintro e w2 ⟨rfl, hb⟩
          have HB2 := Lib.hid (below_chain HBE.out hb)
          have K0 := Lib.hid (cell_later hb k0)
          have K1 := Lib.hid (cell_later hb k1)
          have K2 := Lib.hid (cell_later hb k2)
          clear hb k0 k1 k2
          go_wp2
          go_roundw
          case rel => exact ⟨k + 1, by omega, by go_num, Lib.hid (by rw [stK_succ, ha.out, HI.out]; rfl), K0.out, K1.out, K2.out, HB2.out⟩
          case measure => simp [intOf]; omega
      · have : k = vn := by omega
        subst this
        go_wp2
        go_ret
        exact ⟨ret_bool (by rw [E0.out, ha.out]), hb⟩
  · have e0 := HB0.out
    rw [decide_eq_false hne, Bool.false_and] at e0
    subst e0
    clear HB0 HH hs h hv
    obtain ⟨sz, st, rs⟩ := m
    dsimp only [mv] at *
    generalize sz.length = sn at *
    generalize vs.length = vn at *
    go_enter Try.func69, Try.ntmps69
    go_wp2
    go_ret
    exact ⟨rfl, by (repeat (first | exact Below.refl _ _ | assumption | refine below_alloc ?_ _ | refine below_drewN ?_ _ | refine below_set ?_ _ (by simp; try omega) | refine Below.drew ?_))⟩
end Go.Proofs.Ytaloheljfefdeaa

/- Contract of l20State (reference). Condition: the sizes lie in 1 .. 32. -/
namespace Go.Proofs.Ytaloheljfefdeaa
open Go.RowKit

set_option maxRecDepth 100000 in
theorem c_l20State (m : Mdl) (az ax ar : Option Addr) (cz cs cr : Nat) (A : Option Addr) (c : Nat) (vs : List Int) (w : World) (hs : SzsOk m.sz) (hl : m.sz.length ≤ 1048576) (hl2 : vs.length ≤ 1048576) (h : Rd w az (ints m.sz)) (hv : Rd w A (ints vs)) :
    Calls Try.prog 113 #[mv m az ax ar cz cs cr, .slice A vs.length c] w fun e w' => e = .returned (.bool (stB m.sz vs)) ∧ Below w.heap.size w w' := by
  have HB0 := Lib.hid (show stB m.sz vs = (decide (vs.length = m.sz.length) && stK m.sz vs vs.length) from rfl)
  generalize stB m.sz vs = R at HB0 ⊢
  obtain ⟨sz, st, rs⟩ := m
  dsimp only [mv] at *
  have HSN := Lib.hid (rfl : sz.length = sz.length)
  generalize hsn : sz.length = sn at *
  generalize hvn : vs.length = vn at *
  replace HSN := Lib.hid hsn
  have HVN := Lib.hid hvn
  have HV := Lib.hid hv
  have HZ := Lib.hid h
  have HS := Lib.hid hs
  clear hv h hs hsn hvn
  go_enter Try.func113, Try.ntmps113
  go_wp2
  go_loopw [5] (fun i wr => ∃ k : Nat, k ≤ vn ∧ k ≤ sn ∧ i = .int .i64 k ∧ Hid (stK sz vs k = true) ∧ wr.cell? ⟨w.heap.size, 0, none⟩ = some (.slice az sn cz) ∧ Below w.heap.size w wr) (fun i _ => vn - (intOf i).toNat)
  case atStart => exact ⟨0, Nat.zero_le _, Nat.zero_le _, rfl, Lib.hid rfl, by go_simp, by (repeat (first | exact Below.refl _ _ | assumption | refine below_alloc ?_ _ | refine below_drewN ?_ _ | refine below_set ?_ _ (by simp; try omega) | refine Below.drew ?_))⟩
  case round =>
    obtain ⟨k, hk, hk2, rfl, ha, k0, hb⟩ := hrel
    by_cases hlt : k < vn
    · by_cases hlt2 : k < sn
      · obtain ⟨z, hz⟩ : ∃ z, vs[k]? = some z := ⟨_, List.getElem?_eq_getElem (by have := HVN.out; omega)⟩
        obtain ⟨s, hz2⟩ : ∃ z, sz[k]? = some z := ⟨_, List.getElem?_eq_getElem (by have := HSN.out; omega)⟩
        obtain ⟨b, off, rfl, _, g0⟩ := (HV.out.below hb).int hz
        obtain ⟨b2, off2, rfl, _, g1⟩ := (HZ.out.below hb).int hz2
        have hsb := HS.out s (List.mem_of_getElem? hz2)
        have hw2 : IntKind.i64.wrap (s - 1) = s - 1 := IntWalk.i64_in _ (by omega)
        have HG := Lib.hid (show inB (vs.getD k 0) 0 (sz.getD k 0 - 1) = inB z 0 (s - 1) by rw [getD_of hz, getD_of hz2])
        have HBE := Lib.hid hb
        clear hz hb hz2
        rcases hin : inB z 0 (s - 1) with _ | _
        · have HI := Lib.hid (HG.out.trans hin)
          go_wp2
          refine wp_region_quiet_lit (by kernel_rfl) (by kernel_rfl) ?_
          (repeat (any_goals (first | go_big_quiet_step (first | (go_at_call 92; exact Calls.quiet_of_same ((c_l01In _ _ _ _).mono fun _ _ h => ⟨h.1, h.2.symm⟩))) | quiet_step (first | (go_at_call 92; exact Calls.quiet_of_same ((c_l01In _ _ _ _).mono fun _ _ h => ⟨h.1, h.2.symm⟩))) | (refine wpQuiet_step (fun K hK => ?_); go_simp; split <;> (refine hK _ ?_; clear hK K)))))
          all_goals (refine wpQuiet_nil ?_; intro _ hw'; obtain ⟨nq, hw''⟩ := hw'; subst hw'')
          go_wp2
          go_ret
          exact ⟨ret_bool (by rw [HB0.out, stK_bad HI.out _ hlt, Bool.and_false]), below_drewN HBE.out _⟩
        · have HI := Lib.hid (HG.out.trans hin)
          go_wp2
          refine wp_region_quiet_lit (by kernel_rfl) (by kernel_rfl) ?_
          (repeat (any_goals (first | go_big_quiet_step (first | (go_at_call 92; exact Calls.quiet_of_same ((c_l01In _ _ _ _).mono fun _ _ h => ⟨h.1, h.2.symm⟩))) | quiet_step (first | (go_at_call 92; exact Calls.quiet_of_same ((c_l01In _ _ _ _).mono fun _ _ h => ⟨h.1, h.2.symm⟩))) | (refine wpQuiet_step (fun K hK => ?_); go_simp; split <;> (refine hK _ ?_; clear hK K)))))
          all_goals (refine wpQuiet_nil ?_; intro _ hw'; obtain ⟨nq, hw''⟩ := hw'; subst hw'')
          go_wp2
          go_roundw
          case rel => exact ⟨k + 1, by omega, by omega, by go_num, Lib.hid (by rw [stK_succ, ha.out, HI.out]; rfl), k0, below_drewN HBE.out _⟩
          case measure => simp [intOf]; omega
      · have hne : ¬ vn = sn := by omega
        have e0 := HB0.out
        rw [decide_eq_false hne, Bool.false_and] at e0
        subst e0
        clear HB0
        go_wp2
        go_ret
        exact ⟨ret_bool (by simp; omega), hb⟩
    · have hkv : k = vn := by omega
      subst hkv
      have e0 := HB0.out
      rw [ha.out, Bool.and_true] at e0
      clear HB0
      by_cases hne : k = sn
      · rw [decide_eq_true hne] at e0
        subst e0
        subst hne
        go_wp2
        go_ret
        exact ⟨rfl, hb⟩
      · rw [decide_eq_false hne] at e0
        subst e0
        go_wp2
        go_ret
        exact ⟨ret_bool (by simp; omega), hb⟩
end Go.Proofs.Ytaloheljfefdeaa

/- Contracts of l20Tests (reference) and areTests (program). Condition: the sizes lie in 1 .. 32. -/
namespace Go.Proofs.Ytaloheljfefdeaa
open Go.RowKit

def tsK (sz : List Int) (l : List Tst) : Bool := l.all fun t => hasB sz t.v t.x
def tsB (sz : List Int) (l : List Tst) : Bool := tsK sz l && decide (l.length ≤ 24)
theorem tsK_snoc {sz : List Int} {l : List Tst} {k : Nat} {t : Tst} (hz : l[k]? = some t) (h : tsK sz (l.take k) = true) (h2 : hasB sz t.v t.x = true) : tsK sz (l.take (k + 1)) = true := by
  unfold tsK at h ⊢
  rw [List.take_add_one, List.all_append, h, hz]
  simp [h2]
theorem tsK_bad {sz : List Int} {l : List Tst} {k : Nat} {t : Tst} (hz : l[k]? = some t) (h2 : hasB sz t.v t.x = false) : tsK sz l = false := by
  unfold tsK
  rw [List.all_eq_false]
  exact ⟨t, List.mem_of_getElem? hz, by simp [h2]⟩
set_option maxRecDepth 100000 in
theorem c_l20Tests (m : Mdl) (az ax ar : Option Addr) (cz cs cr : Nat) (A : Option Addr) (c : Nat) (l : List Tst) (w : World) (hs : SzsOk m.sz) (hl : m.sz.length ≤ 1048576) (hl2 : l.length ≤ 1048576) (h : Rd w az (ints m.sz)) (hv : Rd w A (tstCells l)) :
    Calls Try.prog 60 #[mv m az ax ar cz cs cr, .slice A l.length c] w fun e w' => e = .returned (.bool (tsB m.sz l)) ∧ Below w.heap.size w w' := by
  have HH := Lib.hid (fun (w : World) (h : Rd w az (ints m.sz)) (v x : Int) => c_l20Has m az ax ar cz cs cr v x w hs hl h)
  have HB0 := Lib.hid (show tsB m.sz l = (tsK m.sz l && decide (l.length ≤ 24)) from rfl)
  generalize tsB m.sz l = R at HB0 ⊢
  obtain ⟨sz, st, rs⟩ := m
  dsimp only [mv] at *
  generalize sz.length = sn at *
  generalize hvn : l.length = vn at *
  have HVN := Lib.hid hvn
  have HV := Lib.hid hv
  have HZ := Lib.hid h
  clear hv h hs hvn
  go_enter Try.func60, Try.ntmps60
  go_wp2
  go_loopw [5] (fun i wr => ∃ k : Nat, k ≤ vn ∧ i = .int .i64 k ∧ Hid (tsK sz (l.take k) = true) ∧ wr.cell? ⟨w.heap.size, 0, none⟩ = some (.slice az sn cz) ∧ wr.cell? ⟨w.heap.size, 1, none⟩ = some (.slice ax st.length cs) ∧ wr.cell? ⟨w.heap.size, 2, none⟩ = some (.slice ar rs.length cr) ∧ Below w.heap.size w wr) (fun i _ => vn - (intOf i).toNat)
  case atStart => exact ⟨0, Nat.zero_le _, rfl, Lib.hid rfl, by go_simp, by go_simp, by go_simp, by (repeat (first | exact Below.refl _ _ | assumption | refine below_alloc ?_ _ | refine below_drewN ?_ _ | refine below_set ?_ _ (by simp; try omega) | refine Below.drew ?_))⟩
  case round =>
    obtain ⟨k, hk, rfl, ha, k0, k1, k2, hb⟩ := hrel
    by_cases hlt : k < vn
    · obtain ⟨t, hz⟩ : ∃ z, l[k]? = some z := ⟨_, List.getElem?_eq_getElem (by have := HVN.out; omega)⟩
      obtain ⟨b, off, rfl, _, g0, g1, g2⟩ := (HV.out.below hb).tst hz
      have HZZ := Lib.hid hz
      have HC := Lib.hid (fun w h => HH.out w h t.v t.x)
      have HBE := Lib.hid hb
      clear hz hb
      rcases hin : hasB sz t.v t.x with _ | _
      · rw [hin] at HC
        have HI := Lib.hid hin
        clear hin
        go_wp2
        go_still_tail 11, (by kernel_rfl)
        change wpList _ _ _ _ _ wr.drew
        go_wp2_with (fail)
        refine (HC.out _ (HZ.out.below HBE.out.drew)).mono ?_
        rintro e w2 ⟨rfl, hb⟩
        have HB2 := Lib.hid (below_chain HBE.out.drew hb)
        clear hb
        go_wp2
        go_ret
        exact ⟨ret_bool (by rw [HB0.out, tsK_bad HZZ.out HI.out, Bool.false_and]), HB2.out⟩
      · rw [hin] at HC
        have HI := Lib.hid hin
        clear hin
        go_wp2
        go_still_tail 11, (by kernel_rfl)
        change wpList _ _ _ _ _ wr.drew
        go_wp2_with (fail)
        refine (HC.out _ (HZ.out.below HBE.out.drew)).mono ?_
        rintro e w2 ⟨rfl, hb⟩
        have HB2 := Lib.hid (below_chain HBE.out.drew hb)
        have K0 := Lib.hid (cell_later hb (show wr.drew.cell? _ = _ from k0))
        have K1 := Lib.hid (cell_later hb (show wr.drew.cell? _ = _ from k1))
        have K2 := Lib.hid (cell_later hb (show wr.drew.cell? _ = _ from k2))
        clear hb k0 k1 k2
        go_wp2
        go_roundw
        case rel => exact ⟨k + 1, by omega, by go_num, Lib.hid (tsK_snoc HZZ.out ha.out HI.out), K0.out, K1.out, K2.out, HB2.out⟩
        case measure => simp [intOf]; omega
    · have : k = vn := by omega
      subst this
      have hA := ha.out
      rw [List.take_of_length_le (by have := HVN.out; omega)] at hA
      have HA := Lib.hid hA
      clear hA ha
      go_wp2
      go_ret
      exact ⟨ret_bool (by rw [HB0.out, HA.out, Bool.true_and]; simp; omega), hb⟩
end Go.Proofs.Ytaloheljfefdeaa
