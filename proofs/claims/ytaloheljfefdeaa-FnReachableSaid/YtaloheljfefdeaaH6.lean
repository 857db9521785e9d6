/- Contracts and helpers (joined texts, part 6). The conditions stand at each theorem. -/
import Derived.Test.YtaloheljfefdeaaH5
import Derived.Maps.OwnSet
import Derived.Test.YtaloheljfefdeaaH3
/- The search through all reachable states, as plain lists: the plain law of explore (program) and l21Run (reference). No condition. -/
namespace Go.Proofs.Ytaloheljfefdeaa
open Go.RowKit

structure Rc where
  v : List Int
  f : Int
  r : Int
  d : Int
  t : List Int
def hasV (acc : List Rc) (v : List Int) : Bool := acc.any fun x => decide (x.v = v)
def addR (acc : List Rc) (x : Rc) : List Rc := if hasV acc x.v then acc else acc ++ [x]
def mkR (x : Rc) (i : Nat) (p : Int × List Int) : Rc := ⟨p.2, i, p.1, x.d + 1, x.t ++ [p.1]⟩
def exP (x : Rc) (i : Nat) (acc : List Rc) (l : List (Int × List Int)) : List Rc := l.foldl (fun a p => addR a (mkR x i p)) acc
def sq (nx : List Int → List (Int × List Int)) (s : List Int) : Nat → List Rc
  | 0 => [⟨s, -1, 0, 0, []⟩]
  | k + 1 => match (sq nx s k)[k]? with
    | none => sq nx s k
    | some x => exP x k (sq nx s k) (nx x.v)
theorem exP_nil (x : Rc) (i : Nat) (acc : List Rc) : exP x i acc [] = acc := rfl
theorem exP_snoc {x : Rc} {i j : Nat} {acc : List Rc} {l : List (Int × List Int)} {p : Int × List Int} (h : l[j]? = some p) : exP x i acc (l.take (j + 1)) = addR (exP x i acc (l.take j)) (mkR x i p) := by
  unfold exP
  rw [List.take_add_one, h, List.foldl_append]
  rfl
theorem addR_pre (acc : List Rc) (x : Rc) : acc <+: addR acc x := by
  unfold addR
  split
  · exact List.prefix_refl _
  · exact List.prefix_append _ _
theorem exP_pre (x : Rc) (i : Nat) : ∀ (l : List (Int × List Int)) (acc : List Rc), acc <+: exP x i acc l
  | [], _ => List.prefix_refl _
  | p :: l, acc => (addR_pre acc (mkR x i p)).trans (exP_pre x i l (addR acc (mkR x i p)))
theorem exP_split (x : Rc) (i : Nat) (acc : List Rc) (l : List (Int × List Int)) (j : Nat) : exP x i acc l = exP x i (exP x i acc (l.take j)) (l.drop j) := by
  unfold exP
  rw [← List.foldl_append, List.take_append_drop]
section
variable {nx : List Int → List (Int × List Int)} {s : List Int}
theorem sq_succ {k : Nat} {x : Rc} (h : (sq nx s k)[k]? = some x) : sq nx s (k + 1) = exP x k (sq nx s k) (nx x.v) := by
  show (match (sq nx s k)[k]? with | none => sq nx s k | some x => exP x k (sq nx s k) (nx x.v)) = _
  rw [h]
theorem sq_none {k : Nat} (h : (sq nx s k)[k]? = none) : sq nx s (k + 1) = sq nx s k := by
  show (match (sq nx s k)[k]? with | none => sq nx s k | some x => exP x k (sq nx s k) (nx x.v)) = _
  rw [h]
theorem sq_pre1 (k : Nat) : sq nx s k <+: sq nx s (k + 1) := by
  cases h : (sq nx s k)[k]? with
  | none => rw [sq_none h]; exact List.prefix_refl _
  | some x => rw [sq_succ h]; exact exP_pre _ _ _ _
theorem sq_pre {j : Nat} : ∀ {k : Nat}, j ≤ k → sq nx s j <+: sq nx s k
  | 0, h => by obtain rfl : j = 0 := by omega
               exact List.prefix_refl _
  | k + 1, h => by
    rcases Nat.lt_or_ge j (k + 1) with h1 | h1
    · exact (sq_pre (by omega : j ≤ k)).trans (sq_pre1 k)
    · obtain rfl : j = k + 1 := by omega
      exact List.prefix_refl _
theorem sq_at {j k i : Nat} {x : Rc} (h : j ≤ k) (hx : (sq nx s j)[i]? = some x) : (sq nx s k)[i]? = some x := by
  obtain ⟨t, ht⟩ := sq_pre (nx := nx) (s := s) h
  rw [← ht, List.getElem?_append_left (List.getElem?_eq_some_iff.1 hx).1]
  exact hx
theorem sq_stop {k : Nat} (h : (sq nx s k).length ≤ k) : ∀ {m : Nat}, k ≤ m → sq nx s m = sq nx s k
  | 0, hm => by obtain rfl : k = 0 := by omega
                rfl
  | m + 1, hm => by
    rcases Nat.lt_or_ge k (m + 1) with h1 | h1
    · have ih := sq_stop h (by omega : k ≤ m)
      rw [sq_none, ih]
      rw [ih]
      exact List.getElem?_eq_none (by omega)
    · obtain rfl : k = m + 1 := by omega
      rfl
theorem sq_pos (k : Nat) : 0 < (sq nx s k).length := by
  have := (sq_pre (nx := nx) (s := s) (Nat.zero_le k)).length_le
  simp [sq] at this
  omega
def fin (nx : List Int → List (Int × List Int)) (s : List Int) : List Rc := sq nx s 4001
theorem fin_done {k : Nat} (h : (sq nx s k).length = k) (hk : k ≤ 4000) : fin nx s = sq nx s k := sq_stop (by omega) (by omega)
theorem fin_over {k j : Nat} {x : Rc} (hk : k ≤ 4000) (hx : (sq nx s k)[k]? = some x) (h : 4000 < (exP x k (sq nx s k) ((nx x.v).take j)).length) : 4000 < (fin nx s).length := by
  have h1 := (exP_pre x k ((nx x.v).drop j) (exP x k (sq nx s k) ((nx x.v).take j))).length_le
  rw [← exP_split, ← sq_succ hx] at h1
  have h2 := (sq_pre (nx := nx) (s := s) (by omega : k + 1 ≤ 4001)).length_le
  unfold fin
  omega
/-- What is kept: the states are different; each but the first one was reached from an earlier one. -/
structure InvR (acc : List Rc) : Prop where
  nd : (acc.map Rc.v).Nodup
  fr : ∀ (i : Nat) (x : Rc), acc[i]? = some x → (i = 0 ∧ x.f = -1 ∧ x.d = 0 ∧ x.t = []) ∨ (0 < i ∧ ∃ (j : Nat) (y : Rc), j < i ∧ acc[j]? = some y ∧ x.f = j ∧ x.d = y.d + 1 ∧ x.t = y.t ++ [x.r])
  dt : ∀ x ∈ acc, x.d = x.t.length
  di : ∀ (i : Nat) (x : Rc), acc[i]? = some x → 0 ≤ x.d ∧ x.d ≤ i
theorem hasV_iff {acc : List Rc} {v : List Int} : hasV acc v = true ↔ v ∈ acc.map Rc.v := by
  unfold hasV
  simp only [List.any_eq_true, decide_eq_true_eq, List.mem_map]
theorem InvR.add {acc : List Rc} (h : InvR acc) {k : Nat} {x : Rc} (hx : acc[k]? = some x) (p : Int × List Int) : InvR (addR acc (mkR x k p)) := by
  unfold addR
  split
  · exact h
  · rename_i hn
    have hk := (List.getElem?_eq_some_iff.1 hx).1
    have hn' : ¬ (p.2 ∈ acc.map Rc.v) := fun hm => hn (hasV_iff.2 hm)
    refine ⟨?_, ?_, ?_, ?_⟩
    · rw [List.map_append, List.nodup_append]
      refine ⟨h.nd, by simp, fun a ha b hb => ?_⟩
      simp only [List.map_cons, List.map_nil, List.mem_singleton, mkR] at hb
      subst hb
      exact fun e => hn' (e ▸ ha)
    · intro i y hy
      rcases Nat.lt_or_ge i acc.length with hi | hi
      · rw [List.getElem?_append_left hi] at hy
        rcases h.fr i y hy with h1 | ⟨h0, j, z, hj, hz, r⟩
        · exact .inl h1
        · exact .inr ⟨h0, j, z, hj, by rw [List.getElem?_append_left (by omega)]; exact hz, r⟩
      · rw [List.getElem?_append_right hi] at hy
        have hi2 : i - acc.length = 0 := by
          rcases hq : i - acc.length with _ | q
          · rfl
          · rw [hq] at hy; simp at hy
        rw [hi2] at hy
        simp only [List.getElem?_cons_zero, Option.some.injEq] at hy
        subst hy
        exact .inr ⟨by omega, k, x, by omega, by rw [List.getElem?_append_left hk]; exact hx, rfl, rfl, rfl⟩
    · intro y hy
      rcases List.mem_append.1 hy with hy | hy
      · exact h.dt y hy
      · simp only [List.mem_singleton] at hy
        subst hy
        have := h.dt x (List.mem_of_getElem? hx)
        simp only [mkR, List.length_append, List.length_cons, List.length_nil]
        omega
    · intro i y hy
      rcases Nat.lt_or_ge i acc.length with hi | hi
      · rw [List.getElem?_append_left hi] at hy
        exact h.di i y hy
      · rw [List.getElem?_append_right hi] at hy
        have hi2 : i - acc.length = 0 := by
          rcases hq : i - acc.length with _ | q
          · rfl
          · rw [hq] at hy; simp at hy
        rw [hi2] at hy
        simp only [List.getElem?_cons_zero, Option.some.injEq] at hy
        subst hy
        have := h.di k x hx
        simp only [mkR]
        omega
theorem addR_at {acc : List Rc} {k : Nat} {x y : Rc} (hx : acc[k]? = some x) : (addR acc y)[k]? = some x := by
  obtain ⟨t, ht⟩ := addR_pre acc y
  rw [← ht, List.getElem?_append_left (List.getElem?_eq_some_iff.1 hx).1]
  exact hx
theorem InvR.ex {k : Nat} {x : Rc} : ∀ (l : List (Int × List Int)) {acc : List Rc}, InvR acc → acc[k]? = some x → InvR (exP x k acc l)
  | [], _, h, _ => h
  | p :: l, _, h, hx => InvR.ex l (h.add hx p) (addR_at hx)
theorem inv_sq : ∀ k, InvR (sq nx s k)
  | 0 => ⟨by simp [sq], fun i x hx => by
      rcases i with _ | i
      · simp only [sq, List.getElem?_cons_zero, Option.some.injEq] at hx; subst hx; exact .inl ⟨rfl, rfl, rfl, rfl⟩
      · simp [sq] at hx, fun x hx => by simp only [sq, List.mem_singleton] at hx; subst hx; rfl, fun i x hx => by
      rcases i with _ | i
      · simp only [sq, List.getElem?_cons_zero, Option.some.injEq] at hx; subst hx; simp
      · simp [sq] at hx⟩
  | k + 1 => by
    cases h : (sq nx s k)[k]? with
    | none => rw [sq_none h]; exact inv_sq k
    | some x => rw [sq_succ h]; exact (inv_sq k).ex _ h
/-- A property of states that every step keeps. -/
theorem all_ex {P : List Int → Prop} {k : Nat} {x : Rc} : ∀ (l : List (Int × List Int)) {acc : List Rc}, (∀ p ∈ l, P p.2) → (∀ y ∈ acc, P y.v) → ∀ y ∈ exP x k acc l, P y.v
  | [], _, _, h, y, hy => h y hy
  | p :: l, _, hl, h, y, hy => all_ex l (acc := addR _ (mkR x k p)) (fun q hq => hl q (List.mem_cons_of_mem _ hq)) (fun z hz => by
      unfold addR at hz
      split at hz
      · exact h z hz
      · rcases List.mem_append.1 hz with hz | hz
        · exact h z hz
        · simp only [List.mem_singleton] at hz
          subst hz
          exact hl p (List.mem_cons_self ..)) y hy
theorem all_sq {P : List Int → Prop} (h0 : P s) (hn : ∀ v, P v → ∀ p ∈ nx v, P p.2) : ∀ k, ∀ y ∈ sq nx s k, P y.v
  | 0, y, hy => by simp only [sq, List.mem_singleton] at hy; subst hy; exact h0
  | k + 1, y, hy => by
    cases h : (sq nx s k)[k]? with
    | none => rw [sq_none h] at hy; exact all_sq h0 hn k y hy
    | some x => rw [sq_succ h] at hy; exact all_ex _ (hn _ (all_sq h0 hn k x (List.mem_of_getElem? h))) (all_sq h0 hn k) y hy
end
/-- Lists of numbers in lexicographic order. -/
def cmpL : List Int → List Int → Int
  | [], [] => 0
  | [], _ :: _ => -1
  | _ :: _, [] => 1
  | x :: a, y :: b => if x < y then -1 else if y < x then 1 else cmpL a b
theorem cmpL_self : ∀ a : List Int, cmpL a a = 0
  | [] => rfl
  | x :: a => by simp [cmpL, cmpL_self a]
theorem cmpL_zero : ∀ {a b : List Int}, cmpL a b = 0 → a = b
  | [], [], _ => rfl
  | [], _ :: _, h => by simp [cmpL] at h
  | _ :: _, [], h => by simp [cmpL] at h
  | x :: a, y :: b, h => by
    unfold cmpL at h
    split at h
    · simp at h
    · split at h
      · simp at h
      · rw [cmpL_zero h, show x = y by omega]
theorem cmpL_bd : ∀ (a b : List Int), -1 ≤ cmpL a b ∧ cmpL a b ≤ 1
  | [], [] => by simp [cmpL]
  | [], _ :: _ => by simp [cmpL]
  | _ :: _, [] => by simp [cmpL]
  | x :: a, y :: b => by
    unfold cmpL
    split
    · simp
    · split
      · simp
      · exact cmpL_bd a b
theorem cmpL_swap : ∀ (a b : List Int), cmpL b a = - cmpL a b
  | [], [] => by simp [cmpL]
  | [], _ :: _ => by simp [cmpL]
  | _ :: _, [] => by simp [cmpL]
  | x :: a, y :: b => by
    unfold cmpL
    rcases Int.lt_trichotomy x y with h | h | h
    · rw [if_neg (by omega), if_pos h, if_pos h]; rfl
    · rw [if_neg (by omega), if_neg (by omega), if_neg (by omega), if_neg (by omega)]; exact cmpL_swap a b
    · rw [if_pos h, if_neg (by omega), if_pos h]
def ltL (a b : List Int) : Bool := decide (cmpL a b < 0)
theorem ltL_cons {x y : Int} {a b : List Int} : ltL (x :: a) (y :: b) = true ↔ x < y ∨ (x = y ∧ ltL a b = true) := by
  unfold ltL
  rw [decide_eq_true_eq, decide_eq_true_eq]
  show (if x < y then (-1 : Int) else if y < x then 1 else cmpL a b) < 0 ↔ _
  rcases Int.lt_trichotomy x y with h | h | h
  · rw [if_pos h]; omega
  · rw [if_neg (by omega), if_neg (by omega)]; omega
  · rw [if_neg (by omega), if_pos h]; omega
theorem ltL_trans : ∀ {a b c : List Int}, ltL a b = true → ltL b c = true → ltL a c = true
  | [], [], c, h, _ => by simp [ltL, cmpL] at h
  | [], _ :: _, [], _, h => by simp [ltL, cmpL] at h
  | [], _ :: _, _ :: _, _, _ => by simp [ltL, cmpL]
  | _ :: _, [], _, h, _ => by simp [ltL, cmpL] at h
  | _ :: _, _ :: _, [], _, h => by simp [ltL, cmpL] at h
  | x :: a, y :: b, z :: c, h1, h2 => by
    rw [ltL_cons] at h1 h2 ⊢
    rcases h1 with h1 | ⟨h1, g1⟩
    · left; omega
    · rcases h2 with h2 | ⟨h2, g2⟩
      · left; omega
      · exact .inr ⟨h1.trans h2, ltL_trans g1 g2⟩
theorem ltL_irr (a : List Int) : ltL a a = false := by simp [ltL, cmpL_self]
theorem ltL_asym {a b : List Int} (h : ltL a b = true) : ltL b a = false := by
  have := cmpL_swap a b
  simp only [ltL, decide_eq_true_eq, decide_eq_false_iff_not] at *
  omega
theorem ltL_tri (a b : List Int) : ltL a b = true ∨ a = b ∨ ltL b a = true := by
  have := cmpL_swap a b
  have h2 := cmpL_zero (a := a) (b := b)
  simp only [ltL, decide_eq_true_eq]
  rcases Int.lt_trichotomy (cmpL a b) 0 with h | h | h
  · exact .inl h
  · exact .inr (.inl (h2 h))
  · exact .inr (.inr (by omega))
/-- Strictly ascending. -/
def Asc (L : List (List Int)) : Prop := L.Pairwise fun a b => ltL a b = true
theorem Asc.nodup {L : List (List Int)} (h : Asc L) : L.Nodup := h.imp fun {a b} hab e => by subst e; rw [ltL_irr] at hab; cases hab
theorem asc_ext : ∀ {L M : List (List Int)}, Asc L → Asc M → (∀ x, x ∈ L ↔ x ∈ M) → L = M
  | [], [], _, _, _ => rfl
  | [], b :: M, _, _, h => by have := (h b).2 (List.mem_cons_self ..); simp at this
  | a :: L, [], _, _, h => by have := (h a).1 (List.mem_cons_self ..); simp at this
  | a :: L, b :: M, h1, h2, h => by
    obtain ⟨p1, q1⟩ := List.pairwise_cons.1 h1
    obtain ⟨p2, q2⟩ := List.pairwise_cons.1 h2
    have hab : a = b := by
      rcases List.mem_cons.1 ((h a).1 (List.mem_cons_self ..)) with e | e
      · exact e
      · rcases List.mem_cons.1 ((h b).2 (List.mem_cons_self ..)) with e' | e'
        · exact e'.symm
        · have := ltL_asym (p2 a e)
          rw [p1 b e'] at this
          cases this
    subst hab
    have : L = M := asc_ext q1 q2 fun x => by
      refine ⟨fun hx => ?_, fun hx => ?_⟩
      · rcases List.mem_cons.1 ((h x).1 (List.mem_cons_of_mem _ hx)) with e | e
        · subst e
          have := p1 x hx
          rw [ltL_irr] at this
          cases this
        · exact e
      · rcases List.mem_cons.1 ((h x).2 (List.mem_cons_of_mem _ hx)) with e | e
        · subst e
          have := p2 x hx
          rw [ltL_irr] at this
          cases this
        · exact e
    rw [this]
/-- The place of a list in an ascending one. -/
def lbL (L : List (List Int)) (x : List Int) : Nat := (L.takeWhile fun y => ltL y x).length
theorem lb_le (L : List (List Int)) (x : List Int) : lbL L x ≤ L.length := by
  unfold lbL
  exact (List.takeWhile_prefix _).length_le
theorem lb_lt {L : List (List Int)} {x : List Int} : ∀ {i : Nat} {y : List Int}, i < lbL L x → L[i]? = some y → ltL y x = true := by
  induction L with
  | nil => intro i y h; simp [lbL] at h
  | cons a L ih =>
    intro i y h hy
    unfold lbL at h ih
    rw [List.takeWhile_cons] at h
    split at h
    · rename_i ha
      rcases i with _ | i
      · simp only [List.getElem?_cons_zero, Option.some.injEq] at hy
        subst hy; exact ha
      · simp only [List.getElem?_cons_succ] at hy
        exact ih (by simp at h; omega) hy
    · simp at h
theorem lb_ge {L : List (List Int)} {x : List Int} (ha : Asc L) : ∀ {i : Nat} {y : List Int}, lbL L x ≤ i → L[i]? = some y → ltL y x = false := by
  induction L with
  | nil => intro i y _ h; simp at h
  | cons a L ih =>
    intro i y h hy
    obtain ⟨p, q⟩ := List.pairwise_cons.1 ha
    unfold lbL at h ih
    rw [List.takeWhile_cons] at h
    split at h
    · rename_i hax
      rcases i with _ | i
      · simp at h
      · simp only [List.getElem?_cons_succ] at hy
        exact ih q (by simp at h; omega) hy
    · rename_i hax
      rcases i with _ | i
      · simp only [List.getElem?_cons_zero, Option.some.injEq] at hy
        subst hy
        simpa using hax
      · simp only [List.getElem?_cons_succ] at hy
        have h1 := p y (List.mem_of_getElem? hy)
        rcases hyx : ltL y x with _ | _
        · rfl
        · exact absurd (ltL_trans h1 hyx) hax
theorem lb_uniq {L : List (List Int)} {x : List Int} {n : Nat} (ha : Asc L) (hn : n ≤ L.length) (h1 : ∀ i y, i < n → L[i]? = some y → ltL y x = true) (h2 : ∀ i y, n ≤ i → L[i]? = some y → ltL y x = false) : n = lbL L x := by
  have hl := lb_le L x
  rcases Nat.lt_trichotomy n (lbL L x) with h | h | h
  · have hy : L[n]? = some (L[n]'(by omega)) := List.getElem?_eq_getElem _
    have := lb_lt h hy
    rw [h2 n _ (Nat.le_refl _) hy] at this
    cases this
  · exact h
  · have hy : L[lbL L x]? = some (L[lbL L x]'(by omega)) := List.getElem?_eq_getElem _
    have := lb_ge ha (Nat.le_refl _) hy
    rw [h1 _ _ h hy] at this
    cases this
theorem lb_mem {L : List (List Int)} {x : List Int} (ha : Asc L) : x ∈ L ↔ L[lbL L x]? = some x := by
  refine ⟨fun hx => ?_, fun h => List.mem_of_getElem? h⟩
  obtain ⟨i, hi⟩ := List.getElem?_of_mem hx
  have h1 : lbL L x ≤ i := by
    rcases Nat.lt_or_ge i (lbL L x) with h | h
    · have := lb_lt h hi
      rw [ltL_irr] at this
      cases this
    · exact h
  rcases Nat.eq_or_lt_of_le h1 with h | h
  · rw [h]; exact hi
  · have hlt := (List.getElem?_eq_some_iff.1 hi).1
    have hy : L[lbL L x]? = some (L[lbL L x]'(by omega)) := List.getElem?_eq_getElem _
    have h3 := lb_ge ha (Nat.le_refl _) hy
    have h4 : ltL (L[lbL L x]'(by omega)) x = true := by
      have := (List.pairwise_iff_getElem.1 ha) (lbL L x) i (by omega) hlt h
      rwa [(List.getElem?_eq_some_iff.1 hi).2] at this
    rw [h3] at h4
    cases h4
def insQ (L : List (List Int)) (x : List Int) : List (List Int) := if x ∈ L then L else L.take (lbL L x) ++ x :: L.drop (lbL L x)
theorem insQ_mem {L : List (List Int)} {x y : List Int} : y ∈ insQ L x ↔ y ∈ L ∨ y = x := by
  unfold insQ
  split
  · rename_i h
    exact ⟨.inl, fun h' => h'.elim id fun e => e ▸ h⟩
  · rw [List.mem_append, List.mem_cons]
    constructor
    · rintro (h | h | h)
      · exact .inl (List.mem_of_mem_take h)
      · exact .inr h
      · exact .inl (List.mem_of_mem_drop h)
    · rintro (h | h)
      · rw [← List.take_append_drop (lbL L x) L, List.mem_append] at h
        exact h.elim .inl fun h => .inr (.inr h)
      · exact .inr (.inl h)
theorem insQ_asc {L : List (List Int)} {x : List Int} (h : Asc L) : Asc (insQ L x) := by
  unfold insQ
  split
  · exact h
  · rename_i hx
    unfold Asc
    rw [List.pairwise_append, List.pairwise_cons]
    have hT : ∀ a ∈ L.take (lbL L x), ltL a x = true := fun a ha => by
      obtain ⟨i, hi⟩ := List.getElem?_of_mem ha
      rw [List.getElem?_take] at hi
      split at hi
      · exact lb_lt (by assumption) hi
      · cases hi
    have hD : ∀ b ∈ L.drop (lbL L x), ltL x b = true := fun b hb => by
      obtain ⟨i, hi⟩ := List.getElem?_of_mem hb
      rw [List.getElem?_drop] at hi
      have h1 := lb_ge (x := x) h (by omega) hi
      rcases ltL_tri x b with h2 | h2 | h2
      · exact h2
      · exact absurd (List.mem_of_mem_drop hb) (h2 ▸ hx)
      · rw [h2] at h1; cases h1
    refine ⟨h.sublist (List.take_sublist _ _), ⟨hD, h.sublist (List.drop_sublist _ _)⟩, fun a ha b hb => ?_⟩
    rcases List.mem_cons.1 hb with e | hb
    · exact e ▸ hT a ha
    · exact ltL_trans (hT a ha) (hD b hb)
theorem insQ_len {L : List (List Int)} {x : List Int} (h : x ∉ L) : (insQ L x).length = L.length + 1 := by
  unfold insQ
  rw [if_neg h, List.length_append, List.length_cons, List.length_take, List.length_drop]
  have := lb_le L x
  omega
/-- The states of a list in ascending order. -/
def ascL (L : List (List Int)) : List (List Int) := L.foldl insQ []
theorem ascL_snoc (L : List (List Int)) (x : List Int) : ascL (L ++ [x]) = insQ (ascL L) x := by simp [ascL, List.foldl_append]
theorem asc_fold : ∀ (L : List (List Int)) {M : List (List Int)}, Asc M → Asc (L.foldl insQ M)
  | [], _, h => h
  | _ :: L, _, h => asc_fold L (insQ_asc h)
theorem asc_ascL (L : List (List Int)) : Asc (ascL L) := asc_fold L List.Pairwise.nil
theorem mem_fold : ∀ (L : List (List Int)) {M : List (List Int)} {y : List Int}, y ∈ L.foldl insQ M ↔ y ∈ M ∨ y ∈ L
  | [], M, y => by simp
  | x :: L, M, y => by
    rw [List.foldl_cons, mem_fold L, insQ_mem, List.mem_cons]
    constructor
    · rintro ((h | h) | h)
      · exact .inl h
      · exact .inr (.inl h)
      · exact .inr (.inr h)
    · rintro (h | h | h)
      · exact .inl (.inl h)
      · exact .inl (.inr h)
      · exact .inr h
theorem mem_ascL {L : List (List Int)} {y : List Int} : y ∈ ascL L ↔ y ∈ L := by
  unfold ascL
  rw [mem_fold]
  simp
theorem ascL_len {L : List (List Int)} (h : L.Nodup) : (ascL L).length = L.length :=
  ((List.perm_ext_iff_of_nodup (asc_ascL L).nodup h).2 fun _ => mem_ascL).length_eq
theorem ascL_of {L M : List (List Int)} (h : Asc M) (hm : ∀ x, x ∈ M ↔ x ∈ L) : M = ascL L := asc_ext h (asc_ascL L) fun x => (hm x).trans mem_ascL.symm

theorem st_set {sz vs : List Int} (h : stB sz vs = true) {a : Asg} (ha : hasB sz a.v a.x = true) : stB sz (vs.set a.v.toNat a.x) = true := by
  unfold stB at h ⊢
  simp only [Bool.and_eq_true, decide_eq_true_eq] at h ⊢
  refine ⟨by rw [List.length_set]; exact h.1, ?_⟩
  have h2 := h.2
  unfold stK at h2 ⊢
  rw [List.all_eq_true] at h2 ⊢
  intro i hi
  rw [List.length_set] at hi
  have h3 := h2 i hi
  rw [List.mem_range] at hi
  by_cases e : a.v.toNat = i
  · rw [List.getD_eq_getElem?_getD, e, List.getElem?_set_self hi]
    simp only [Option.getD_some]
    unfold hasB at ha
    rw [Bool.and_eq_true, e] at ha
    exact ha.2
  · rw [List.getD_eq_getElem?_getD, List.getElem?_set_ne e, ← List.getD_eq_getElem?_getD]
    exact h3
theorem es_has {sz : List Int} {es : List Asg} (h : esK sz es es.length = true) : ∀ a ∈ es, hasB sz a.v a.x = true := by
  intro a ha
  obtain ⟨k, hk, rfl⟩ := List.getElem_of_mem ha
  unfold esK at h
  rw [List.all_eq_true] at h
  have := h k (List.mem_range.2 hk)
  unfold esS at this
  rw [getDA (List.getElem?_eq_getElem hk), Bool.and_eq_true] at this
  exact this.1
theorem st_ap {sz : List Int} : ∀ (es : List Asg) {vs : List Int}, (∀ a ∈ es, hasB sz a.v a.x = true) → stB sz vs = true → stB sz (apL vs es) = true
  | [], _, _, h => h
  | a :: es, _, he, h => st_ap es (fun b hb => he b (List.mem_cons_of_mem _ hb)) (st_set h (he a (List.mem_cons_self ..)))
theorem st_apR {m : Mdl} {vs : List Int} {r : Rul} (h : mdB m = true) (hv : stB m.sz vs = true) (hr : r ∈ m.rs) : stB m.sz (apL vs r.es) = true := by
  have h4 := rl_of h hr
  unfold rlB at h4
  simp only [Bool.and_eq_true] at h4
  exact st_ap _ (es_has h4.1) hv
/-- The rules that are enabled, and where they lead. -/
def nxL (m : Mdl) (vs : List Int) : List (Int × List Int) := (enL vs m.rs).map fun y => (y, apL vs (arR m y).es)
theorem en_rul {m : Mdl} {vs : List Int} {y : Int} (h : y ∈ enL vs m.rs) : 0 ≤ y ∧ y < m.rs.length ∧ arR m y ∈ m.rs ∧ m.rs[y.toNat]? = some (arR m y) ∧ hlB vs (arR m y).gs = true := by
  unfold enL enK at h
  obtain ⟨i, hi, rfl⟩ := List.mem_map.1 h
  rw [List.mem_filter, List.mem_range] at hi
  have hr : m.rs[i]? = some (m.rs[i]'hi.1) := List.getElem?_eq_getElem hi.1
  have e : arR m (i : Int) = m.rs[i]'hi.1 := by unfold arR; rw [Int.toNat_natCast]; exact getDR hr
  refine ⟨by omega, by have := hi.1; omega, by rw [e]; exact List.getElem_mem _, by rw [e, Int.toNat_natCast]; exact hr, ?_⟩
  have := hi.2
  unfold arR
  rw [Int.toNat_natCast]
  exact this
theorem nx_at {m : Mdl} {vs : List Int} {j : Nat} {y : Int} (h : (enL vs m.rs)[j]? = some y) : (nxL m vs)[j]? = some (y, apL vs (arR m y).es) := by
  unfold nxL
  rw [List.getElem?_map, h]
  rfl
theorem nx_len (m : Mdl) (vs : List Int) : (nxL m vs).length = (enL vs m.rs).length := by simp [nxL]
theorem nx_st {m : Mdl} {vs : List Int} (h : mdB m = true) (hv : stB m.sz vs = true) : ∀ p ∈ nxL m vs, stB m.sz p.2 = true := by
  intro p hp
  unfold nxL at hp
  obtain ⟨y, hy, rfl⟩ := List.mem_map.1 hp
  exact st_apR h hv (en_rul hy).2.2.1
def sqM (m : Mdl) (k : Nat) : List Rc := sq (nxL m) m.st k
def exM (m : Mdl) (k : Nat) (x : Rc) (j : Nat) : List Rc := exP x k (sqM m k) ((nxL m x.v).take j)
def finM (m : Mdl) : List Rc := fin (nxL m) m.st
theorem sqM_st {m : Mdl} (h : mdB m = true) (k : Nat) : ∀ y ∈ sqM m k, stB m.sz y.v = true := all_sq (P := fun v => stB m.sz v = true) (st_of h) (fun _ hv => nx_st h hv) k
theorem exM_st {m : Mdl} (h : mdB m = true) {k : Nat} {x : Rc} (hx : x ∈ sqM m k) (j : Nat) : ∀ y ∈ exM m k x j, stB m.sz y.v = true :=
  all_ex (P := fun v => stB m.sz v = true) _ (fun p hp => nx_st h (sqM_st h k x hx) p (List.mem_of_mem_take hp)) (sqM_st h k)
theorem exM_inv {m : Mdl} {k : Nat} {x : Rc} (hx : (sqM m k)[k]? = some x) (j : Nat) : InvR (exM m k x j) := (inv_sq k).ex _ hx
theorem exM_zero (m : Mdl) (k : Nat) (x : Rc) : exM m k x 0 = sqM m k := by simp [exM, exP]
theorem exM_all {m : Mdl} {k j : Nat} {x : Rc} (hx : (sqM m k)[k]? = some x) (hj : (enL x.v m.rs).length ≤ j) : exM m k x j = sqM m (k + 1) := by
  unfold exM sqM
  rw [sq_succ hx, List.take_of_length_le (by rw [nx_len]; exact hj)]
theorem exM_succ {m : Mdl} {k j : Nat} {x : Rc} {y : Int} (h : (enL x.v m.rs)[j]? = some y) : exM m k x (j + 1) = addR (exM m k x j) ⟨apL x.v (arR m y).es, k, y, x.d + 1, x.t ++ [y]⟩ := exP_snoc (nx_at h)
theorem exM_at {m : Mdl} {k j : Nat} {x : Rc} (hx : (sqM m k)[k]? = some x) : (exM m k x j)[k]? = some x := by
  obtain ⟨t, ht⟩ := exP_pre x k ((nxL m x.v).take j) (sqM m k)
  unfold exM
  rw [← ht, List.getElem?_append_left (List.getElem?_eq_some_iff.1 hx).1]
  exact hx
theorem add_len (acc : List Rc) (x : Rc) : (addR acc x).length ≤ acc.length + 1 := by
  unfold addR
  split
  · omega
  · simp
theorem exM_len (m : Mdl) (k : Nat) (x : Rc) : ∀ j, (exM m k x j).length ≤ (sqM m k).length + j
  | 0 => by rw [exM_zero]; omega
  | j + 1 => by
    unfold exM
    rcases hp : (nxL m x.v)[j]? with _ | p
    · rw [List.take_of_length_le (Nat.le_trans (List.getElem?_eq_none_iff.1 hp) (Nat.le_succ j))]
      have := exM_len m k x j
      unfold exM at this
      rw [List.take_of_length_le (List.getElem?_eq_none_iff.1 hp)] at this
      omega
    · rw [exP_snoc hp]
      have h1 := add_len (exP x k (sqM m k) ((nxL m x.v).take j)) (mkR x k p)
      have h2 := exM_len m k x j
      unfold exM at h2
      omega
/-- What the search hands back: whether the states are not too many. -/
def xpO (m : Mdl) : Bool := decide ((finM m).length ≤ 4000)
def xpL (m : Mdl) : List Rc := if xpO m then finM m else []
theorem xp_done {m : Mdl} {k : Nat} (h : (sqM m k).length = k) (hk : k ≤ 4000) : xpO m = true ∧ xpL m = sqM m k := by
  have e : finM m = sqM m k := fin_done h hk
  have h1 : xpO m = true := by unfold xpO; rw [e, h]; simpa using hk
  exact ⟨h1, by unfold xpL; rw [h1, if_pos rfl, e]⟩
theorem xp_over {m : Mdl} {k j : Nat} {x : Rc} (hk : k ≤ 4000) (hx : (sqM m k)[k]? = some x) (h : 4000 < (exM m k x j).length) : xpO m = false ∧ xpL m = [] := by
  have h1 : xpO m = false := by
    have := fin_over (nx := nxL m) (s := m.st) hk hx h
    unfold xpO finM
    rw [decide_eq_false_iff_not]
    omega
  exact ⟨h1, by unfold xpL; rw [h1]; rfl⟩
theorem xp_pos {m : Mdl} (h : xpO m = true) : 0 < (xpL m).length := by
  unfold xpL
  rw [h, if_pos rfl]
  exact sq_pos _
theorem xp_len (m : Mdl) : (xpL m).length ≤ 4000 := by
  unfold xpL
  split
  · rename_i h; exact of_decide_eq_true h
  · simp
theorem xp_st {m : Mdl} (h : mdB m = true) : ∀ y ∈ xpL m, stB m.sz y.v = true := by
  unfold xpL
  split
  · exact sqM_st h _
  · simp
theorem xp_inv (m : Mdl) : InvR (xpL m) := by
  unfold xpL
  split
  · exact inv_sq _
  · exact ⟨by simp, fun i x h => by simp at h, fun x h => by simp at h, fun i x h => by simp at h⟩
end Go.Proofs.Ytaloheljfefdeaa

/- A set of states as a map from their texts to true: made, asked, written; and the text of a state. Condition: each value of a state lies in 0 .. 255. -/
namespace Go.Proofs.Ytaloheljfefdeaa
open Go.RowKit Go.Maps Go.WideMaps

theorem plainElem_bool_inv {P : Program} {e : TypeId} (he : P.underlying e = some .bool) {v : Value} {z : DataW Unit × List MemPlace} (h : plainElem P e v = some z) : ∃ x, v = .bool x ∧ z = (.lit (.bool x), []) := by
  unfold plainElem at h
  split at h
  · cases h; exact ⟨_, rfl, rfl⟩
  · rename_i he2; rw [he] at he2; cases he2
  · rename_i he2; rw [he] at he2; cases he2
  · cases h
def In8 (vs : List Int) : Prop := ∀ z ∈ vs, 0 ≤ z ∧ z < 256
def keyV (vs : List Int) : List UInt8 := vs.map fun n => UInt8.ofNat n.toNat
theorem keyV_inj : ∀ {a b : List Int}, In8 a → In8 b → keyV a = keyV b → a = b
  | [], [], _, _, _ => rfl
  | [], _ :: _, _, _, h => by simp [keyV] at h
  | _ :: _, [], _, _, h => by simp [keyV] at h
  | x :: a, y :: b, ha, hb, h => by
    simp only [keyV, List.map_cons, List.cons.injEq] at h
    have h1 := congrArg UInt8.toNat h.1
    have hx := ha x (List.mem_cons_self ..)
    have hy := hb y (List.mem_cons_self ..)
    rw [UInt8.toNat_ofNat', UInt8.toNat_ofNat', Nat.mod_eq_of_lt (by omega), Nat.mod_eq_of_lt (by omega)] at h1
    rw [keyV_inj (fun z hz => ha z (List.mem_cons_of_mem _ hz)) (fun z hz => hb z (List.mem_cons_of_mem _ hz)) h.2, show x = y by omega]
theorem lawS : Keyed Try.prog 9 := string_keyed Try.underlying9
theorem zeroB (w : World) : (zeroValue 4).run Try.prog w = .ok (.bool false) w := by kernel_rfl
/-- Block b is a map of at most n entries that holds true at the texts of the states S alone. -/
def SetM (w : World) (b n : Nat) (S : List (List Int)) : Prop :=
  (∀ s ∈ S, In8 s) ∧ ∃ D : DataW Unit, w.ownsMap Try.prog 9 (plainElem Try.prog 4) b n D ∧ ∀ vs, In8 vs → D.atKey (.string (keyV vs)) (.lit (.bool false)) = .lit (.bool (decide (vs ∈ S)))
theorem SetM.made (w : World) : SetM (w.alloc (.map #[] 0)) w.heap.size 0 [] :=
  ⟨by simp, _, World.ownsMap_made _ _ _ _, fun vs _ => by rw [atKey_of_not_has (by rfl)]; rfl⟩
theorem SetM.lt {w : World} {b n : Nat} {S : List (List Int)} (h : SetM w b n S) : b < w.heap.size := by
  obtain ⟨_, D, hd, _⟩ := h
  exact hd.lt
theorem SetM.grown {w w' : World} {b n : Nat} {S : List (List Int)} {row : Option Nat} (h : SetM w b n S) (hg : w.grownBy w' row) (hne : some b ≠ row) : SetM w' b n S := by
  obtain ⟨h0, D, hd, h1⟩ := h
  exact ⟨h0, D, hd.kept hg hne, h1⟩
theorem SetM.below {w w' : World} {b n : Nat} {S : List (List Int)} (h : SetM w b n S) (hb : Below w.heap.size w w') : SetM w' b n S := h.grown (grown_of_below hb none) (by simp)
theorem keyOf_state {vs : List Int} (hl : vs.length ≤ 1048576) : keyOf Try.prog 9 (.string (strOfNums vs)) = some (.string (keyV vs)) :=
  keyOf_string_mk Try.underlying9 (by rw [strOfNums_size]; unfold maxLen; omega)
theorem SetM.look {w : World} {b n : Nat} {S : List (List Int)} (h : SetM w b n S) {vs : List Int} (hv : In8 vs) (hl : vs.length ≤ 1048576) :
    (Instr.lookup 137 (.map (some b)) (.string (strOfNums vs)) false).run Try.prog w = .ok (.bool (decide (vs ∈ S))) w := by
  obtain ⟨h0, D, hd, h1⟩ := h
  obtain ⟨v, ps, hrun, hR⟩ := hd.lookup lawS Try.underlying137 (zeroB w) (plainElem_bool Try.underlying4 false) (keyOf_state hl)
  rw [h1 vs hv] at hR
  obtain ⟨x, rfl, hx⟩ := plainElem_bool_inv Try.underlying4 hR
  simp only [Prod.mk.injEq, DataW.lit.injEq, Lit.bool.injEq] at hx
  rw [hrun, hx.1]
theorem SetM.put {w : World} {b n : Nat} {S : List (List Int)} (h : SetM w b n S) {vs : List Int} (hv : In8 vs) (hl : vs.length ≤ 1048576) (hn : n ≤ 1048576) :
    ∃ w', (Instr.mapUpdate 137 (.map (some b)) (.string (strOfNums vs)) (.bool true)).run Try.prog w = .ok () w' ∧ SetM w' b (n + 1) (S ++ [vs]) ∧ w.grownBy w' (some b) := by
  obtain ⟨h0, D, hd, h1⟩ := h
  obtain ⟨w', hrun, hd', hg⟩ := hd.update lawS Try.underlying137 (by unfold maxLen; omega) (keyOf_state hl) (plainElem_bool Try.underlying4 true)
  have hkl : WideAt.IsKeyLit (.string (keyV vs)) := by simp [WideAt.IsKeyLit]
  refine ⟨w', hrun, ⟨fun s hs => ?_, _, hd', fun us hu => ?_⟩, hg⟩
  · rcases List.mem_append.1 hs with hs | hs
    · exact h0 s hs
    · simp only [List.mem_singleton] at hs; subst hs; exact hv
  · by_cases e : us = vs
    · subst e
      rw [atKey_put_same hd.isMap hkl]
      simp
    · have hne : Lit.string (keyV us) ≠ Lit.string (keyV vs) := fun h => e (keyV_inj hu hv (by injection h))
      rw [atKey_put_other hne, h1 us hu]
      rw [show decide (us ∈ S ++ [vs]) = decide (us ∈ S) by simp [e]]
theorem wpList_look_set (w : World) {ops : Array Oper} {rest : List Oper} {o : Oper} {a : Act} {Q : Exit → Act → World → Prop} (hgd : o.guard = none) (m x : Operand) (hop : o.op = Op.lookup 137 m x false)
    (b n : Nat) (S : List (List Int)) (hm : a.eval m = .map (some b)) (hown : SetM w b n S) (vs : List Int) (hx : a.eval x = .string (strOfNums vs)) (hv : In8 vs) (hl : vs.length ≤ 1048576)
    (h : wpList Try.prog ops Q rest (a.put o.dst (.bool (decide (vs ∈ S)))) w) : wpList Try.prog ops Q (o :: rest) a w := by
  refine wpList_plain hgd fun K' hK' => ?_
  have hrun := hown.look hv hl
  unfold Oper.wp
  simp only [execOp, hop, hm, hx, hrun, Sem.run_bind, Sem.run_pure, Result.andThen_ok]
  exact hK' _ _ h
theorem wpList_put_set (w : World) {ops : Array Oper} {rest : List Oper} {o : Oper} {a : Act} {Q : Exit → Act → World → Prop} (hgd : o.guard = none) (m x y : Operand) (hop : o.op = Op.mapUpdate 137 m x y)
    (b n : Nat) (S : List (List Int)) (hm : a.eval m = .map (some b)) (hown : SetM w b n S) (vs : List Int) (hx : a.eval x = .string (strOfNums vs)) (hy : a.eval y = .bool true) (hv : In8 vs) (hl : vs.length ≤ 1048576) (hn : n ≤ 1048576)
    (h : ∀ w', SetM w' b (n + 1) (S ++ [vs]) → w.grownBy w' (some b) → wpList Try.prog ops Q rest (a.put o.dst undef) w') : wpList Try.prog ops Q (o :: rest) a w := by
  refine wpList_plain hgd fun K' hK' => ?_
  obtain ⟨w', hrun, r1, r2⟩ := hown.put hv hl hn
  unfold Oper.wp
  simp [execOp, hop, hm, hx, hy, hrun, Result.andThen]
  exact hK' _ _ (h w' r1 r2)
theorem wpList_insert_set (w : World) {ops : Array Oper} {rest : List Oper} {o : Oper} {a : Act} {Q : Exit → Act → World → Prop} (hgd : o.guard = none) (m x y : Operand) (hop : o.op = Op.insert 137 m x y)
    (b n : Nat) (S : List (List Int)) (hm : a.eval m = .map (some b)) (hown : SetM w b n S) (vs : List Int) (hx : a.eval x = .string (strOfNums vs)) (hy : a.eval y = .bool true) (hv : In8 vs) (hl : vs.length ≤ 1048576) (hn : n ≤ 1048576)
    (h : ∀ w', SetM w' b (n + 1) (S ++ [vs]) → w.grownBy w' (some b) → wpList Try.prog ops Q rest (a.put o.dst undef) w') : wpList Try.prog ops Q (o :: rest) a w := by
  refine wpList_plain hgd fun K' hK' => ?_
  obtain ⟨w', hrun, r1, r2⟩ := hown.put hv hl hn
  unfold Oper.wp
  simp [execOp, hop, hm, hx, hy, hrun, Result.andThen]
  exact hK' _ _ (h w' r1 r2)
theorem in8_of {sz vs : List Int} (h : stB sz vs = true) (hs : SzsOk sz) : In8 vs := by
  intro z hz
  unfold stB at h
  simp only [Bool.and_eq_true, decide_eq_true_eq] at h
  obtain ⟨i, hi, rfl⟩ := List.getElem_of_mem hz
  have h2 := h.2
  unfold stK at h2
  rw [List.all_eq_true] at h2
  have h3 := h2 i (List.mem_range.2 hi)
  rw [getD_of (List.getElem?_eq_getElem hi)] at h3
  have h4 := hs (sz.getD i 0) (by rw [getD_of (List.getElem?_eq_getElem (by omega : i < sz.length))]; exact List.getElem_mem _)
  unfold inB at h3
  rw [decide_eq_true_eq] at h3
  omega
theorem info_byte : (Try.prog.info? 5).map (fun i => (i.zero, i.size, i.bytes)) = some (some (.int .u8 0), 1, 1) := by kernel_rfl
def bytesC (zs : List Int) : List Value := zs.map (Value.int .u8)
theorem bytesC_length (zs : List Int) : (bytesC zs).length = zs.length := by simp [bytesC]
theorem bytesC_get {zs : List Int} {j : Nat} {z : Int} (h : zs[j]? = some z) : (bytesC zs)[j]? = some (.int .u8 z) := by simp [bytesC, h]
set_option maxHeartbeats 1000000 in
set_option maxRecDepth 100000 in
theorem c_stateKey (A : Option Addr) (c n : Nat) (vs : List Int) (w : World) (hn : n = vs.length) (hl : n ≤ 1048576) (h8 : In8 vs) (hv : Rd w A (ints vs)) :
    Calls Try.prog 117 #[.slice A n c] w fun e w' => e = .returned (.string (strOfNums vs)) ∧ Below w.heap.size w w' := by
  obtain ⟨i0, hi, hz0, hz1, hz2⟩ := info_parts info_byte
  have HN := Lib.hid hn
  have HZ : (bytesC vs).length = n := by rw [bytesC_length, hn]
  have H8 := Lib.hid h8
  have HV := Lib.hid hv
  clear hn h8 hv
  go_enter Try.func117, Try.ntmps117
  go_wp2_with (first
    | (at_make
       refine wpList_make_full _ rfl (.tmp 7) (.tmp 7) _ rfl w.heap.size 5 i0 _ 1 Try.underlying22 hi hz0 hz1 .i64 .i64 _ _ n rfl rfl rfl rfl (by rw [hz2]; omega) (by unfold maxLen; omega) (Nat.le_refl _) ?_
       intro w1 hown hgrow)
    )
  have hb1 : Below w.heap.size w w1 := below_of_grown (Below.refl _ _) hgrow (by simp)
  have hZ : (madeCells (Value.int .u8 0).cells (n * 1)).toList.length = n := by simp [size_madeCells]
  generalize (madeCells (Value.int .u8 0).cells (n * 1)).toList = Z at hown hZ
  have hLZ := Lib.hid (HZ.trans hZ.symm)
  have HZZ := Lib.hid HZ
  clear hZ HZ hgrow
  go_loopw [11] (fun i wr => ∃ k : Nat, k ≤ n ∧ i = .int .i64 k ∧ wr.ownsRow w.heap.size 5 1 (.slice (some ⟨w.heap.size, 0, none⟩) n n) n (mix (bytesC vs) Z k) ∧ Below w.heap.size w wr) (fun i _ => n - (intOf i).toNat)
  case atStart => exact ⟨0, Nat.zero_le _, rfl, by rw [mix_zero]; exact hown, hb1⟩
  case round =>
    obtain ⟨k, hk, rfl, ho, hb⟩ := hrel
    clear hown hb1
    by_cases hlt : k < n
    · obtain ⟨z, hz⟩ : ∃ z, vs[k]? = some z := ⟨_, List.getElem?_eq_getElem (by have := HN.out; omega)⟩
      have h8z := H8.out z (List.mem_of_getElem? hz)
      obtain ⟨b, off, rfl, _, g0⟩ := (HV.out.below hb).int hz
      have hwr : IntKind.u8.wrap z = z := by simp [IntKind.wrap, IntKind.bits, IntKind.signed]; omega
      have f0 := ho.frozenAt k
      obtain ⟨old, hold⟩ := own_cell ho (j := k) (by omega)
      have hst := (ho.stored k (.int .u8 z)).1
      rw [mix_set hLZ.out (bytesC_get hz)] at hst
      have HST := Lib.hid hst
      have HB := Lib.hid hb
      clear hst ho hb hz
      go_wp2
      go_roundw
      case rel => exact ⟨k + 1, by omega, by go_num, HST.out, below_set HB.out _ (Nat.le_refl _)⟩
      case measure => simp [intOf]; omega
    · have : k = n := by omega
      subst this
      rw [mix_all (by rw [HZZ.out]; exact Nat.le_refl _) (by rw [← hLZ.out, HZZ.out]; exact Nat.le_refl _)] at ho
      have hback := run_convert_bytes_arg wr 22 5 Try.underlying22 Try.underlying5 w.heap.size 0 k k vs HN.out.symm (fun i hi => by
        have := ho.cells (g := w.heap.size) rfl i (.int .u8 (vs.getD i 0)) (by rw [bytesC_get (z := vs.getD i 0)]; rw [List.getD_eq_getElem?_getD, List.getElem?_eq_getElem (by have := HN.out; omega)]; rfl)
        rwa [Addr.add_lit] at this) 9 Try.underlying9
      have HB := Lib.hid hb
      clear ho hb
      go_wp2
      go_ret
      exact ⟨rfl, HB.out⟩
end Go.Proofs.Ytaloheljfefdeaa

/- Lists of reached states in memory (program): how they read, how they are owned, how one is appended. No condition but the sizes. -/
namespace Go.Proofs.Ytaloheljfefdeaa
open Go.RowKit

/-- A reached state as it lies in memory. -/
structure RcD where
  x : Rc
  a : Option Addr
  c : Nat
def RcD.vv (d : RcD) : Value := .slice d.a d.x.v.length d.c
def RcD.cells (d : RcD) : List Value := [d.vv, .int .i64 d.x.f, .int .i64 d.x.r, .int .i64 d.x.d]
def rcC (ds : List RcD) : List Value := ds.flatMap RcD.cells
theorem rcC_length (l : List RcD) : (rcC l).length = l.length * 4 := by
  induction l with
  | nil => rfl
  | cons s t ih => simp only [rcC, List.flatMap_cons, List.length_append, List.length_cons] at ih ⊢; rw [ih]; simp [RcD.cells]; omega
theorem rcC_snoc (l : List RcD) (d : RcD) : rcC (l ++ [d]) = rcC l ++ d.cells := by simp [rcC]
theorem rcC_get {s : RcD} {i : Nat} (hi : i < 4) : ∀ {l : List RcD} {k : Nat}, l[k]? = some s → (rcC l)[k * 4 + i]? = s.cells[i]?
  | [], k, h => by simp at h
  | t :: l, 0, h => by
    simp only [List.getElem?_cons_zero, Option.some.injEq] at h
    subst h
    simp only [rcC, List.flatMap_cons, Nat.zero_mul, Nat.zero_add]
    rw [List.getElem?_append_left (by simp [RcD.cells]; omega)]
  | t :: l, k + 1, h => by
    simp only [List.getElem?_cons_succ] at h
    have := rcC_get hi h
    simp only [rcC, List.flatMap_cons] at this ⊢
    rw [List.getElem?_append_right (by simp [RcD.cells]; omega), ← this]
    congr 1
    simp [RcD.cells]; omega
theorem rcC_at {s : RcD} {l : List RcD} {k : Nat} (h : l[k]? = some s) : (rcC l)[k * 4]? = some s.vv ∧ (rcC l)[k * 4 + 1]? = some (.int .i64 s.x.f) ∧ (rcC l)[k * 4 + 2]? = some (.int .i64 s.x.r) ∧ (rcC l)[k * 4 + 3]? = some (.int .i64 s.x.d) :=
  ⟨rcC_get (i := 0) (by omega) h, rcC_get (i := 1) (by omega) h, rcC_get (i := 2) (by omega) h, rcC_get (i := 3) (by omega) h⟩
/-- The slice value `.slice A L.length c` holds the reached states L. -/
def RdRc (w : World) (A : Option Addr) (L : List Rc) : Prop :=
  ∃ ds : List RcD, ds.map RcD.x = L ∧ Rd w A (rcC ds) ∧ ∀ d ∈ ds, Rd w d.a (ints d.x.v)
theorem RdRc.below {w w1 : World} {A : Option Addr} {L : List Rc} (h : RdRc w A L) (hb : Below w.heap.size w w1) : RdRc w1 A L := by
  obtain ⟨ds, e, h1, h2⟩ := h
  exact ⟨ds, e, h1.below hb, fun d hd => (h2 d hd).below hb⟩
theorem RdRc.at {w : World} {A : Option Addr} {L : List Rc} {k : Nat} {x : Rc} (h : RdRc w A L) (hk : L[k]? = some x) : ∃ b off a c, A = some ⟨b, off, none⟩ ∧ b < w.heap.size ∧ w.cell? ⟨b, off + k * 4, none⟩ = some (.slice a x.v.length c) ∧ w.cell? ⟨b, off + k * 4 + 1, none⟩ = some (.int .i64 x.f) ∧ w.cell? ⟨b, off + k * 4 + 2, none⟩ = some (.int .i64 x.r) ∧ w.cell? ⟨b, off + k * 4 + 3, none⟩ = some (.int .i64 x.d) ∧ Rd w a (ints x.v) := by
  obtain ⟨ds, rfl, h1, h2⟩ := h
  rw [List.getElem?_map, Option.map_eq_some_iff] at hk
  obtain ⟨d, hd, rfl⟩ := hk
  obtain ⟨u0, u1, u2, u3⟩ := rcC_at hd
  obtain ⟨b, off, rfl, hb, hc⟩ := h1.some_ (by intro e; rw [e] at u0; simp at u0)
  exact ⟨b, off, d.a, d.c, rfl, hb, hc _ _ u0, hc _ _ u1, hc _ _ u2, hc _ _ u3, h2 d (List.mem_of_getElem? hd)⟩
/-- The reached states are the call's own, each in a block below hi, no two in one; and so is the row of their records. -/
def OwnRc (w : World) (base hi : Nat) (v : Value) (L : List Rc) : Prop :=
  ∃ ds : List RcD, ds.map RcD.x = L ∧ w.ownsRow base 108 4 v L.length (rcC ds) ∧ (∀ d ∈ ds, w.ownsRow base 2 1 d.vv d.x.v.length (ints d.x.v) ∧ ∀ q, d.vv.ownBlock = some q → q < hi) ∧ ds.Pairwise fun a b => ∀ q, a.vv.ownBlock = some q → b.vv.ownBlock ≠ some q
theorem OwnRc.below {w w1 : World} {base hi : Nat} {v : Value} {L : List Rc} (h : OwnRc w base hi v L) (hb : Below w.heap.size w w1) : OwnRc w1 base hi v L := by
  obtain ⟨ds, e, h1, h2, h3⟩ := h
  exact ⟨ds, e, own_below h1 hb, fun d hd => ⟨own_below (h2 d hd).1 hb, (h2 d hd).2⟩, h3⟩
theorem OwnRc.grown {w w1 : World} {base hi : Nat} {v : Value} {L : List Rc} {row : Option Nat} (h : OwnRc w base hi v L) (hg : w.grownBy w1 row) (hr : ∀ q, row = some q → q < base) : OwnRc w1 base hi v L := by
  obtain ⟨ds, e, h1, h2, h3⟩ := h
  have key : ∀ {e : TypeId} {size n : Nat} {v : Value} {xs : List Value}, w.ownsRow base e size v n xs → w1.ownsRow base e size v n xs := fun ho => ho.kept hg (by
    rename_i v _
    rcases hv : v.ownBlock with _ | q
    · exact .inl rfl
    · exact .inr fun h' => by have := hr q h'.symm; have := (ho.lt q hv).1; omega)
  exact ⟨ds, e, key h1, fun d hd => ⟨key (h2 d hd).1, (h2 d hd).2⟩, h3⟩
theorem OwnRc.mono {w : World} {base base' hi hi' : Nat} {v : Value} {L : List Rc} (h : OwnRc w base hi v L) (hb : base' ≤ base) (hh : hi ≤ hi') : OwnRc w base' hi' v L := by
  obtain ⟨ds, e, h1, h2, h3⟩ := h
  exact ⟨ds, e, own_mono h1 hb, fun d hd => ⟨own_mono (h2 d hd).1 hb, fun q hq => Nat.lt_of_lt_of_le ((h2 d hd).2 q hq) hh⟩, h3⟩
theorem OwnRc.rd {w : World} {base hi n c : Nat} {A : Option Addr} {L : List Rc} (h : OwnRc w base hi (.slice A n c) L) (hn : n = L.length) : RdRc w A L := by
  obtain ⟨ds, e, h1, h2, _⟩ := h
  subst hn
  exact ⟨ds, e, Rd.own h1, fun d hd => Rd.own (h2 d hd).1⟩
theorem OwnRc.form1 {w : World} {base hi : Nat} {v : Value} {L : List Rc} (h : OwnRc w base hi v L) (hn : 0 < L.length) : ∃ g c, v = .slice (some ⟨g, 0, none⟩) L.length c := by
  obtain ⟨ds, _, h1, _⟩ := h
  rcases h1.2 with ⟨e, e2⟩ | ⟨g, cap, cur, e, _⟩
  · omega
  · exact ⟨g, cap, e⟩
theorem OwnRc.ge {w : World} {base hi : Nat} {v : Value} {L : List Rc} (h : OwnRc w base hi v L) : ∀ q, v.ownBlock = some q → base ≤ q ∧ q < w.heap.size := by
  obtain ⟨ds, _, h1, _⟩ := h
  exact fun q hq => h1.lt q hq
theorem ownRc_nil (w : World) (base hi : Nat) : OwnRc w base hi (.slice none 0 0) [] := ⟨[], rfl, World.ownsRow_nil _ _ _ _, by simp, List.Pairwise.nil⟩
theorem ownRc_one {w : World} {base hi g c n : Nat} {l : List Int} (h : w.ownsRow base 2 1 (.slice (some ⟨g, 0, none⟩) n c) n (ints l)) (hn : n = l.length) (hb : base ≤ w.heap.size) (hh : g < hi) (f r d : Int) (t : List Int) :
    OwnRc (w.alloc (.cells #[.slice (some ⟨g, 0, none⟩) n c, .int .i64 f, .int .i64 r, .int .i64 d] 108)) base hi (.slice (some ⟨w.heap.size, 0, none⟩) 1 1) [⟨l, f, r, d, t⟩] := by
  subst hn
  refine ⟨[⟨⟨l, f, r, d, t⟩, some ⟨g, 0, none⟩, c⟩], rfl, ?_, fun x hx => ?_, List.pairwise_singleton _ _⟩
  · exact World.ownsRow_lit (e := 108) (size := 4) (base := base) w #[.slice (some ⟨g, 0, none⟩) l.length c, .int .i64 f, .int .i64 r, .int .i64 d] 1 hb (by decide) (by simp)
  · simp only [List.mem_singleton] at hx
    subst hx
    exact ⟨own_below h (below_alloc (Below.refl _ _) _), fun q hq => by simp [RcD.vv, Value.ownBlock] at hq; omega⟩
theorem info_rc : (Try.prog.info? 108).map (fun i => (i.zero, i.size, i.bytes)) = some (some (.agg #[.slice none 0 0, .int .i64 0, .int .i64 0, .int .i64 0]), 4, 48) := by kernel_rfl
/-- append of one reached state to a list of the call's own. -/
theorem wpList_push_rc (w : World) {ops : Array Oper} {rest : List Oper} {o : Oper} {a : Act} {Q : Exit → Act → World → Prop} (hgd : o.guard = none) (s x : Operand)
    (ho : o.op = .call { callee := .builtin .append, args := #[s, x], argTypes := #[67, 67] })
    (base hi hi' : Nat) (v : Value) (L : List Rc) (d : RcD) (g c : Nat) (hs : a.eval s = v) (hown : OwnRc w base hi v L)
    (hx : a.eval x = .slice (some ⟨g, 0, none⟩) 1 c) (hc0 : w.cell? ⟨g, 0, none⟩ = some d.vv) (hc1 : w.cell? ⟨g, 1, none⟩ = some (.int .i64 d.x.f)) (hc2 : w.cell? ⟨g, 2, none⟩ = some (.int .i64 d.x.r)) (hc3 : w.cell? ⟨g, 3, none⟩ = some (.int .i64 d.x.d))
    (hd : w.ownsRow base 2 1 d.vv d.x.v.length (ints d.x.v)) (hfr : ∀ q, d.vv.ownBlock = some q → hi ≤ q ∧ q < hi') (hle : hi ≤ hi') (hn : L.length ≤ 1048577) (hbase : base ≤ w.heap.size)
    (h : ∀ v' w', OwnRc w' base hi' v' (L ++ [d.x]) → w.grownBy w' v.ownBlock → wpList Try.prog ops Q rest (a.put o.dst v') w') : wpList Try.prog ops Q (o :: rest) a w := by
  obtain ⟨i0, hi, hz0, hz1, hz2⟩ := info_parts info_rc
  obtain ⟨ds, rfl, h1, h2, h3⟩ := hown
  rw [List.length_map] at h1 hn
  refine wpList_push w hgd s x 67 ho base 108 i0 _ 4 48 Try.underlying67 hi hz0 hz1 hz2 rfl (by decide) v ds.length (rcC ds) hs h1 ⟨g, 0, none⟩ c d.cells hx rfl ?_ ?_ (by unfold maxLen; omega) (by omega) hbase ?_
  · intro j u hu
    rw [Addr.add_lit, Nat.zero_add]
    match j, hu with
    | 0, hu => simp only [RcD.cells, List.getElem?_cons_zero, Option.some.injEq] at hu; rw [← hu]; exact hc0
    | 1, hu => simp only [RcD.cells, List.getElem?_cons_succ, List.getElem?_cons_zero, Option.some.injEq] at hu; rw [← hu]; exact hc1
    | 2, hu => simp only [RcD.cells, List.getElem?_cons_succ, List.getElem?_cons_zero, Option.some.injEq] at hu; rw [← hu]; exact hc2
    | 3, hu => simp only [RcD.cells, List.getElem?_cons_succ, List.getElem?_cons_zero, Option.some.injEq] at hu; rw [← hu]; exact hc3
    | j + 4, hu => simp [RcD.cells] at hu
  · intro u hu
    simp only [RcD.cells, List.mem_cons, List.not_mem_nil, or_false] at hu
    rcases hu with rfl | rfl | rfl | rfl <;> rfl
  · intro v' w' hown1 hgrow _ _
    refine h v' w' ⟨ds ++ [d], by simp, ?_, fun d' hd' => ?_, ?_⟩ hgrow
    · rw [rcC_snoc]
      simpa using hown1
    · rcases List.mem_append.1 hd' with hd' | hd'
      · exact ⟨own_keep (h2 d' hd').1 h1 (by decide) hgrow, fun q hq => Nat.lt_of_lt_of_le ((h2 d' hd').2 q hq) hle⟩
      · simp only [List.mem_singleton] at hd'
        subst hd'
        exact ⟨own_keep hd h1 (by decide) hgrow, fun q hq => (hfr q hq).2⟩
    · rw [List.pairwise_append]
      refine ⟨h3, List.pairwise_singleton _ _, fun a' ha' b' hb' q hq hq2 => ?_⟩
      simp only [List.mem_singleton] at hb'
      subst hb'
      have := (h2 a' ha').2 q hq
      have := (hfr q hq2).1
      omega
theorem own_map {w w1 : World} {b n base size n1 : Nat} {S : List (List Int)} {e : TypeId} {v : Value} {xs : List Value} (h : w.ownsRow base e size v n1 xs) (hs : SetM w b n S) (hg : w.grownBy w1 (some b)) : w1.ownsRow base e size v n1 xs := by
  obtain ⟨_, D, ⟨es, clock, hb, _⟩, _⟩ := hs
  refine h.kept hg ?_
  rcases h.2 with ⟨e, _⟩ | ⟨g, cap, cur, e, _, hgg, _⟩
  · exact .inl (by rw [e]; rfl)
  · refine .inr fun h' => ?_
    rw [e] at h'
    simp only [Value.ownBlock, Option.some.injEq] at h'
    subst h'
    rw [hb] at hgg
    cases hgg
theorem OwnRc.map {w w1 : World} {b n base hi : Nat} {S : List (List Int)} {v : Value} {L : List Rc} (h : OwnRc w base hi v L) (hs : SetM w b n S) (hg : w.grownBy w1 (some b)) : OwnRc w1 base hi v L := by
  obtain ⟨ds, e, h1, h2, h3⟩ := h
  exact ⟨ds, e, own_map h1 hs hg, fun d hd => ⟨own_map (h2 d hd).1 hs hg, (h2 d hd).2⟩, h3⟩
theorem OwnRc.ne {w : World} {base hi base2 size n : Nat} {e : TypeId} {v v2 : Value} {L : List Rc} {xs : List Value} (h : OwnRc w base hi v L) (h2 : w.ownsRow base2 e size v2 n xs) (he : e ≠ 108) : ∀ q, v.ownBlock = some q → v2.ownBlock = some q → False := by
  obtain ⟨ds, _, h1, _⟩ := h
  exact fun q h3 h4 => own_ne h2 h1 he q h4 h3
theorem OwnRc.keep {w w' : World} {base hi base2 size n : Nat} {e : TypeId} {v v2 : Value} {L : List Rc} {xs : List Value} (h : OwnRc w base hi v L) (h2 : w.ownsRow base2 e size v2 n xs) (he : e ≠ 108) (hg : w.grownBy w' v.ownBlock) : w'.ownsRow base2 e size v2 n xs := by
  obtain ⟨ds, _, h1, _⟩ := h
  exact own_keep h2 h1 he hg
theorem SetM.keep {w w' : World} {b n base hi : Nat} {S : List (List Int)} {v : Value} {L : List Rc} (h : SetM w b n S) (ho : OwnRc w base hi v L) (hg : w.grownBy w' v.ownBlock) : SetM w' b n S := by
  refine h.grown hg fun e => ?_
  obtain ⟨_, D, ⟨es, clock, hb, _⟩, _⟩ := h
  obtain ⟨ds, _, h1, _⟩ := ho
  rcases h1.2 with ⟨e2, _⟩ | ⟨g, cap, cur, e2, _, hgg, _⟩
  · rw [e2] at e; cases e
  · rw [e2] at e
    simp only [Value.ownBlock, Option.some.injEq] at e
    subst e
    rw [hb] at hgg
    cases hgg
theorem SetM.cellNe {w : World} {b n : Nat} {S : List (List Int)} (h : SetM w b n S) {a : Addr} {v : Value} (hc : w.cell? a = some v) : b ≠ a.block := by
  obtain ⟨_, D, ⟨es, clock, hb, _⟩, _⟩ := h
  rintro rfl
  simp [World.cell?, hb] at hc
end Go.Proofs.Ytaloheljfefdeaa

/- Helpers for the laws over models: a copied model. No condition. -/
namespace Go.Proofs.Ytaloheljfefdeaa
open Go.RowKit

/-- What is let by of a model whose size was reckoned. -/
theorem mok_of {m : Mdl} (h1 : MSzOk m) (h2 : MdlOk m) : MOk m := ⟨h2, fun r hr => (h1.2.2.2 r hr).1⟩
/-- RetMdl, the lengths written out. -/
def RetM2 (m : Mdl) (sn tn rn : Nat) (w : World) (e : Ending) (w' : World) : Prop :=
  ∃ az ax ar cz cs cr, ∃ ds : List RuD, e = .returned (.agg #[.slice az sn cz, .slice ax tn cs, .slice ar rn cr]) ∧ MOwn w' w.heap.size az ax ar cz cs cr m ds ∧ Below w.heap.size w w'
end Go.Proofs.Ytaloheljfefdeaa

/- Results of the laws' own copies, the lengths written out. No condition but the lengths. -/
namespace Go.Proofs.Ytaloheljfefdeaa
open Go.RowKit

def RetI2 (n : Nat) (zs : List Int) (w : World) (e : Ending) (w' : World) : Prop :=
  ∃ A c, e = .returned (.slice A n c) ∧ w'.ownsRow w.heap.size 2 1 (.slice A n c) n (ints zs) ∧ Below w.heap.size w w'
def RetT2 (n : Nat) (l : List Tst) (w : World) (e : Ending) (w' : World) : Prop :=
  ∃ A c, e = .returned (.slice A n c) ∧ w'.ownsRow w.heap.size 100 3 (.slice A n c) n (tstCells l) ∧ Below w.heap.size w w'
end Go.Proofs.Ytaloheljfefdeaa

/- explore (program): the walk. Condition: the model is one, the lengths are those that the laws let by. -/
namespace Go.Proofs.Ytaloheljfefdeaa
open Go.RowKit

/-- What explore hands back: the reached states, its own, and whether they are not too many. -/
def RetXp (n : Nat) (L : List Rc) (b : Bool) (w : World) (e : Ending) (w' : World) : Prop :=
  ∃ A cap, e = .returned (.tuple #[.slice A n cap, .bool b]) ∧ OwnRc w' w.heap.size w'.heap.size (.slice A n cap) L ∧ Below w.heap.size w w'
theorem hasV_false {acc : List Rc} {v : List Int} (h : ¬ v ∈ acc.map Rc.v) : hasV acc v = false := by
  rcases hh : hasV acc v with _ | _
  · rfl
  · exact absurd (hasV_iff.1 hh) h
theorem rs_200 {m : Mdl} (h : mdB m = true) : m.rs.length ≤ 200 := by
  unfold mdB at h
  simp only [Bool.and_eq_true, decide_eq_true_eq] at h
  exact h.2.2.2.1
set_option maxHeartbeats 4000000 in
set_option maxRecDepth 100000 in
theorem c_explore (m : Mdl) (az ax ar : Option Addr) (cz cs cr : Nat) (w : World) (hok : MOk m) (hmd : mdB m = true) (h : Md w az ax ar m) :
    Calls Try.prog 93 #[mv m az ax ar cz cs cr] w (RetXp (xpL m).length (xpL m) (xpO m) w) := by
  have hmm := @run_makeMap Try.prog
  have HM := Lib.hid h
  have hrl := hok.1.2.2.1
  have hr2 := rs_200 hmd
  have hst0 := st_of hmd
  have HVL := Lib.hid (fun (v : List Int) (hv : stB m.sz v = true) => show v.length = m.st.length by rw [st_len hv, st_len hst0])
  have HVP := vs_pos hmd hst0
  have H8 := Lib.hid (fun (v : List Int) (hv : stB m.sz v = true) => in8_of hv (md_szs hmd))
  have HENL := Lib.hid (fun (v : List Int) (hv : stB m.sz v = true) a c w' h hv' => show Calls Try.prog 78 #[mv m az ax ar cz cs cr, .slice a m.st.length c] w' (RetI2 (enL v m.rs).length (enL v m.rs) w') by
    have := c_enabled m az ax ar cz cs cr a c v w' hrl (by rw [HVL.out v hv]; exact hok.1.2.1) (gs_of hmd hv hok) h hv'
    rw [HVL.out v hv] at this
    exact this)
  have HKEY := Lib.hid (fun (v : List Int) (hv : stB m.sz v = true) a c w' h => c_stateKey a c m.st.length v w' (HVL.out v hv).symm hok.1.2.1 (H8.out v hv) h)
  have HAP := Lib.hid (fun (v : List Int) (hv : stB m.sz v = true) (r : Rul) (hr : r ∈ m.rs) nm ag ae gn cg ce b off c w' hv' he => c_apply nm ag ae gn cg r.es.length ce r.es b off c m.st.length v w' (HVL.out v hv).symm hok.1.2.1 rfl (hok.1.2.2.2 r hr).2 (by have := es_of hmd hv hr; rwa [HVL.out v hv] at this) hv' he)
  have HST := Lib.hid (fun k => sqM_st hmd k)
  have HSX := Lib.hid (fun k x hx j => exM_st hmd (k := k) (x := x) hx j)
  have HS0 := Lib.hid hst0
  have HAS := Lib.hid (fun (v : List Int) (hv : stB m.sz v = true) (r : Rul) (hr : r ∈ m.rs) => st_apR hmd hv hr)
  obtain ⟨bs, os, has, _, _⟩ := HM.out.s.some_ (by intro e; have h5 := ints_length m.st; rw [e] at h5; simp at h5; omega)
  subst has
  have HCLN := Lib.hid (fun w' h => c_Clone bs os cs m.st.length m.st w' rfl (by omega) h)
  have HENN := Lib.hid (fun v => show (enL v m.rs).length ≤ m.rs.length from enK_len v m.rs m.rs.length)
  have HEY := Lib.hid (fun v y (hy : y ∈ enL v m.rs) => en_rul hy)
  have HDN := Lib.hid (fun k h1 h2 => xp_done (m := m) (k := k) h1 h2)
  have HOV := Lib.hid (fun k j x h1 h2 h3 => xp_over (m := m) (k := k) (j := j) (x := x) h1 h2 h3)
  have HST1 := Lib.hid (rfl : m.st = m.st)
  generalize xpL m = XL at *
  generalize xpO m = XO at *
  clear h hok hmd hst0
  dsimp only [mv] at *
  generalize m.sz.length = sn at *
  generalize hstn : m.st.length = tn at *
  have HSTN := Lib.hid hstn
  clear hstn
  generalize hrn : m.rs.length = rn at *
  have HRN := Lib.hid hrn
  clear hrn
  have HR := Lib.hid HM.out.r
  have HX := Lib.hid HM.out.s
  go_enter Try.func93, Try.ntmps93
  go_wp2_with (fail)
  refine (HCLN.out _ (HX.out.alloc _)).mono ?_
  rintro e w1 ⟨g, c', rfl, ho, hb⟩
  have k0 : w1.cell? ⟨w.heap.size, 0, none⟩ = some (.slice az sn cz) := cell_later hb (by go_simp)
  have k1 : w1.cell? ⟨w.heap.size, 1, none⟩ = some (.slice (some ⟨bs, os, none⟩) tn cs) := cell_later hb (by go_simp)
  have k2 : w1.cell? ⟨w.heap.size, 2, none⟩ = some (.slice ar rn cr) := cell_later hb (by go_simp)
  have hsz1 := World.block_lt_of_cell? _ _ k2
  dsimp only at hsz1
  have HB1 := Lib.hid (below_chain (by (repeat (first | exact Below.refl _ _ | assumption | refine below_alloc ?_ _ | refine below_drewN ?_ _ | refine below_set ?_ _ (by simp; try omega) | refine Below.drew ?_)) : Below w.heap.size w _) hb)
  have HOW := Lib.hid (ownRc_one (hi := w1.heap.size) (own_mono ho (show w.heap.size + 1 ≤ _ by simp)) HSTN.out.symm (by omega) (ho.lt g rfl).2 (-1) 0 0 [])
  clear ho hb
  go_wp2_with (fail)
  refine (HKEY.out m.st HS0.out _ _ _ (by exact (HX.out.below HB1.out |>.alloc _ |>.alloc _))).mono ?_
  rintro e w2 ⟨rfl, hb⟩
  have hs2 := hb.size
  simp only [World.size_alloc] at hs2
  have HSM := Lib.hid ((SetM.made (w1.alloc (.cells #[.slice (some ⟨g, 0, none⟩) tn c', .int .i64 (-1), .int .i64 0, .int .i64 0] 108))).below hb)
  simp only [World.size_alloc] at HSM
  have HO2 := Lib.hid (HOW.out.below (below_chain (below_alloc (Below.refl _ _) _) hb))
  have HB2 := Lib.hid (below_chain (below_alloc (below_alloc HB1.out _) _) hb)
  replace k0 := cell_later hb (cell_later (below_alloc (below_alloc (Below.refl _ _) _) _) k0)
  replace k1 := cell_later hb (cell_later (below_alloc (below_alloc (Below.refl _ _) _) _) k1)
  replace k2 := cell_later hb (cell_later (below_alloc (below_alloc (Below.refl _ _) _) _) k2)
  clear hb HOW HB1
  go_wp2_with (first
    | (refine wpList_insert_set _ rfl (.tmp 16) (.tmp 19) (.const (.bool true)) rfl (w1.heap.size + 1) 0 [] rfl HSM.out m.st rfl rfl (H8.out _ HS0.out) (by have := HSTN.out; omega) (by omega) ?_
       intro w3 hsm hg
       have HSM3 := Lib.hid hsm
       have HO3 := Lib.hid ((HO2.out.map HSM.out hg).mono (Nat.le_refl _) (show w1.heap.size ≤ w3.heap.size from by have := hg.size; omega))
       have hs3 := hg.size
       have HB3 := Lib.hid (below_of_grown HB2.out hg (by intro q hq; simp at hq; omega))
       replace k0 := hg.cell k0 (fun h => HSM.out.cellNe k0 (by simpa using h.symm))
       replace k1 := hg.cell k1 (fun h => HSM.out.cellNe k1 (by simpa using h.symm))
       replace k2 := hg.cell k2 (fun h => HSM.out.cellNe k2 (by simpa using h.symm))
       clear hsm hg))
  have HSZ := Lib.hid (show sqM m 0 = [⟨m.st, -1, 0, 0, []⟩] from rfl)
  obtain ⟨mb, hmb⟩ : ∃ mb, mb = w1.heap.size + 1 := ⟨_, rfl⟩
  rw [← hmb] at HSM3 ⊢
  have hmb1 : w.heap.size + 1 < mb := by omega
  clear hmb HSM HO2 HB2
  go_loopw [4, 6] (fun v i wr => ∃ k : Nat, i = .int .i64 k ∧ k ≤ (sqM m k).length ∧ (sqM m k).length ≤ 4000 ∧ Hid (OwnRc wr (w.heap.size + 1) wr.heap.size v (sqM m k)) ∧ Hid (SetM wr mb (sqM m k).length ((sqM m k).map Rc.v)) ∧ wr.cell? ⟨w.heap.size, 0, none⟩ = some (.slice az sn cz) ∧ wr.cell? ⟨w.heap.size, 1, none⟩ = some (.slice (some ⟨bs, os, none⟩) tn cs) ∧ wr.cell? ⟨w.heap.size, 2, none⟩ = some (.slice ar rn cr) ∧ Below w.heap.size w wr) (fun _ i _ => 4001 - (intOf i).toNat)
  case atStart => exact ⟨0, rfl, Nat.zero_le _, by rw [HSZ.out]; simp, Lib.hid (by rw [HSZ.out]; exact HO3.out), Lib.hid (by rw [HSZ.out]; exact HSM3.out), k0, k1, k2, HB3.out⟩
  case round =>
    clear HO3 HSM3 HB3 k0 k1 k2 hs2 hs3 HSZ
    obtain ⟨k, rfl, hk, hln, ho, hsm, k0, k1, k2, hb⟩ := hrel
    obtain ⟨lg, lc, rfl⟩ := ho.out.form1 (sq_pos k)
    obtain ⟨wo, rfl⟩ : ∃ wo, wo = wr := ⟨_, rfl⟩
    by_cases hlt : k < (sqM m k).length
    · obtain ⟨x, hx⟩ : ∃ x, (sqM m k)[k]? = some x := ⟨_, List.getElem?_eq_getElem hlt⟩
      have hmx := List.mem_of_getElem? hx
      have hxs := HST.out k x hmx
      have hdi := (inv_sq k).di k x hx
      have HX1 := Lib.hid hx
      have HXS := Lib.hid hxs
      have HMX := Lib.hid hmx
      obtain ⟨b, off, xa, xc, hlg, _, s0, s1, s2, s3, hxv⟩ := (ho.out.rd rfl).at hx
      simp only [Option.some.injEq, Addr.mk.injEq, and_true] at hlg
      obtain ⟨rfl, rfl⟩ := hlg
      rw [HVL.out _ hxs, Nat.zero_add] at s0
      have HXV := Lib.hid hxv
      have HBE := Lib.hid hb
      have hblk := (ho.out.ge lg rfl)
      clear hx hmx hxs hb hxv s1 s2 s3
      have HLN := Lib.hid (rfl : (sqM m k).length = (sqM m k).length)
      generalize hlnn : (sqM m k).length = ln at *
      replace HLN := Lib.hid hlnn
      clear hlnn
      have HRL := Lib.hid (HENN.out x.v)
      have HEN := Lib.hid (fun a c w' h hv => HENL.out x.v HXS.out a c w' h hv)
      obtain ⟨R, hR⟩ : ∃ R, R = enL x.v m.rs := ⟨_, rfl⟩
      rw [← hR] at HRL HEN
      have HRE := Lib.hid hR
      clear hR
      generalize hrll : R.length = rl at *
      have HRLN := Lib.hid hrll
      clear hrll
      have hrl2 : rl ≤ rn := HRL.out
      go_wp2
      refine wp_region_held_drew (S := (fun w' => w'.cell? ⟨lg, k * 4, none⟩ = some (.slice xa tn xc) ∧ w'.cell? ⟨w.heap.size, 0, none⟩ = some (.slice az sn cz) ∧ w'.cell? ⟨w.heap.size, 1, none⟩ = some (.slice (some ⟨bs, os, none⟩) tn cs) ∧ w'.cell? ⟨w.heap.size, 2, none⟩ = some (.slice ar rn cr))) (by kernel_rfl) ?_ (fun hHeld => ?_)
      · exact ⟨s0, k0, k1, k2⟩
      refine rg_take (v := ?_) 0 rfl (by kernel_rfl) (by kernel_rfl) (by kernel_rfl) (fun _ _ _ h => h) (by kernel_rfl) ?_ (by assumption) ?_
      rotate_left
      · (intro w' hSw; (try dsimp only at hSw); go_simp; first | done | with_reducible rfl)
      simp only [Act.put, List.setIfInBounds_toArray, List.set_cons_zero, List.set_cons_succ]
      refine rg_take (v := ?_) 1 rfl (by kernel_rfl) (by kernel_rfl) (by kernel_rfl) (fun _ _ _ h => h) (by kernel_rfl) ?_ (by assumption) ?_
      rotate_left
      · (intro w' hSw; (try dsimp only at hSw); go_simp; first | done | with_reducible rfl)
      simp only [Act.put, List.setIfInBounds_toArray, List.set_cons_zero, List.set_cons_succ]
      refine rg_take (v := ?_) 2 rfl (by kernel_rfl) (by kernel_rfl) (by kernel_rfl) (fun _ _ _ h => h) (by kernel_rfl) ?_ (by assumption) ?_
      rotate_left
      · (intro w' hSw; (try dsimp only at hSw); go_simp; first | done | with_reducible rfl)
      simp only [Act.put, List.setIfInBounds_toArray, List.set_cons_zero, List.set_cons_succ]
      refine rg_take (v := ?_) 3 rfl (by kernel_rfl) (by kernel_rfl) (by kernel_rfl) (fun _ _ _ h => h) (by kernel_rfl) ?_ (by assumption) ?_
      rotate_left
      · (intro w' hSw; (try dsimp only at hSw); go_simp; first | done | with_reducible rfl)
      simp only [Act.put, List.setIfInBounds_toArray, List.set_cons_zero, List.set_cons_succ]
      refine rg_take (v := ?_) 4 rfl (by kernel_rfl) (by kernel_rfl) (by kernel_rfl) (fun _ _ _ h => h) (by kernel_rfl) ?_ (by assumption) ?_
      rotate_left
      · (intro w' hSw; (try dsimp only at hSw); go_simp; first | done | with_reducible rfl)
      simp only [Act.put, List.setIfInBounds_toArray, List.set_cons_zero, List.set_cons_succ]
      refine rg_take (v := ?_) 5 rfl (by kernel_rfl) (by kernel_rfl) (by kernel_rfl) (fun _ _ _ h => h) (by kernel_rfl) ?_ (by assumption) ?_
      rotate_left
      · (intro w' hSw; (try dsimp only at hSw); go_simp; first | done | with_reducible rfl)
      simp only [Act.put, List.setIfInBounds_toArray, List.set_cons_zero, List.set_cons_succ]
      refine rg_take (v := ?_) 8 rfl (by kernel_rfl) (by kernel_rfl) (by kernel_rfl) (fun _ _ _ h => h) (by kernel_rfl) ?_ (by assumption) ?_
      rotate_left
      · (intro w' hSw; (try dsimp only at hSw); go_simp; first | done | with_reducible rfl)
      simp only [Act.put, List.setIfInBounds_toArray, List.set_cons_zero, List.set_cons_succ]
      refine rg_run 6 rfl (by kernel_rfl) (by kernel_rfl) (fun K hK => ?_)
      go_simp
      refine (HEN.out _ _ _ (by exact HM.out.below HBE.out.drew) (by exact HXV.out.drew)).mono ?_
      rintro e w4 ⟨Ar, rc, rfl, hor, hb⟩
      have HB4 := Lib.hid (below_chain (by exact HBE.out.drew) hb)
      have HST4 := Lib.hid (show Below wo.heap.size wo w4 from below_chain (by exact (Below.refl _ _).drew) hb)
      have HOR := Lib.hid hor
      replace s0 := cell_later hb (by exact s0)
      replace k0 := cell_later hb (by exact k0)
      replace k1 := cell_later hb (by exact k1)
      replace k2 := cell_later hb (by exact k2)
      clear hb hor
      go_wp2
      clear hHeld
      refine hK.out _ _ ⟨s0, k0, k1, k2⟩ (fun hHeld => ?_)
      clear hK K
      try simp only [Act.put, List.setIfInBounds_toArray, List.set_cons_zero, List.set_cons_succ]
      refine rg_take (v := ?_) 7 rfl (by kernel_rfl) (by kernel_rfl) (by kernel_rfl) (fun _ _ _ h => h) (by kernel_rfl) ?_ (by assumption) ?_
      rotate_left
      · (intro w' hSw; (try dsimp only at hSw); go_simp; first | done | with_reducible rfl)
      simp only [Act.put, List.setIfInBounds_toArray, List.set_cons_zero, List.set_cons_succ]
      refine wpAnyH_done (by kernel_rfl) ?_ _
      clear hHeld
      have HO4 := Lib.hid (ho.out.below HST4.out)
      have HSM4 := Lib.hid (hsm.out.below HST4.out)
      have hs4 := HST4.out.size
      have hor1 : Hid (∀ q, (Value.slice Ar rl rc).ownBlock = some q → wo.heap.size ≤ q ∧ q < w4.heap.size) := Lib.hid (HOR.out.lt)
      have HXV4 := Lib.hid (HXV.out.below HST4.out)
      clear ho hsm HST4 HXV HBE
      go_wp2
      have HZ0 := Lib.hid (exM_zero m k x)
      go_loopw [4, 35] (fun v j wi => ∃ q : Nat, q ≤ rl ∧ j = .int .i64 q ∧ Hid (OwnRc wi (w.heap.size + 1) wi.heap.size v (exM m k x q)) ∧ Hid (SetM wi mb (exM m k x q).length ((exM m k x q).map Rc.v)) ∧ Hid (wi.ownsRow wo.heap.size 2 1 (.slice Ar rl rc) rl (ints R)) ∧ wi.cell? ⟨w.heap.size, 0, none⟩ = some (.slice az sn cz) ∧ wi.cell? ⟨w.heap.size, 1, none⟩ = some (.slice (some ⟨bs, os, none⟩) tn cs) ∧ wi.cell? ⟨w.heap.size, 2, none⟩ = some (.slice ar rn cr) ∧ Below w.heap.size w wi) (fun _ j _ => rl - (intOf j).toNat)
      case atStart => exact ⟨0, Nat.zero_le _, rfl, Lib.hid (by rw [HZ0.out, ← HLN.out]; exact (HLN.out ▸ HO4.out).mono (Nat.le_refl _) hs4), Lib.hid (by rw [HZ0.out]; exact HLN.out ▸ HSM4.out), HOR, k0, k1, k2, HB4.out⟩
      case round =>
        clear HO4 HSM4 HOR HB4 k0 k1 k2 s0 HXV4
        obtain ⟨q, hq, rfl, ho, hsm, hor, k0, k1, k2, hb⟩ := hrel
        obtain ⟨wi, rfl⟩ : ∃ wi, wi = wr := ⟨_, rfl⟩
        have hxq := exM_len m k x q
        rw [HLN.out] at hxq
        obtain ⟨lg2, lc2, rfl⟩ := ho.out.form1 (by have := (List.getElem?_eq_some_iff.1 (exM_at (j := q) HX1.out)).1; omega)
        by_cases hltq : q < rl
        · obtain ⟨y, hy⟩ : ∃ y, R[q]? = some y := ⟨_, List.getElem?_eq_getElem (by have := HRLN.out; omega)⟩
          obtain ⟨hy0, hy1, hy2, hy3, hy4⟩ := HEY.out x.v y (by rw [← HRE.out]; exact List.mem_of_getElem? hy)
          obtain ⟨kk, rfl⟩ : ∃ kk : Nat, y = kk := ⟨y.toNat, by omega⟩
          rw [Int.toNat_natCast] at hy3
          have hkk : kk < rn := by omega
          have HEXS := Lib.hid (exM_succ (m := m) (k := k) (j := q) (x := x) (y := (kk : Int)) (by rw [← HRE.out]; exact hy))
          obtain ⟨r, hr⟩ : ∃ r, r = arR m (kk : Int) := ⟨_, rfl⟩
          rw [← hr] at hy2 hy3 hy4 HEXS
          have HMR := Lib.hid hy2
          obtain ⟨rb, ro, ag, cg, ae, ce, har, hrb, g0, g1, g2, hg, he⟩ := (HR.out.below hb).at hy3
          obtain ⟨tb, to, htb, htbl, t0⟩ := (Rd.own hor.out).int hy
          obtain ⟨b, off, xa2, xc2, hlg, _, s0, s1, s2, s3, hxv⟩ := (ho.out.rd rfl).at (exM_at (j := q) HX1.out)
          simp only [Option.some.injEq, Addr.mk.injEq, and_true] at hlg
          obtain ⟨rfl, rfl⟩ := hlg
          rw [HVL.out _ HXS.out, Nat.zero_add] at s0
          rw [Nat.zero_add] at s3
          obtain ⟨xb, xo, rfl, _, _⟩ := hxv.some_ (by intro e; have h5 := ints_length x.v; rw [e, HVL.out _ HXS.out] at h5; simp at h5; omega)
          subst har
          subst htb
          have HGG := Lib.hid hg
          have HEE := Lib.hid he
          have HXV := Lib.hid hxv
          have HBI := Lib.hid hb
          have HAPL := Lib.hid (fun nm gn b off c w' hv he => HAP.out x.v HXS.out r HMR.out nm ag ae gn cg ce b off c w' hv he)
          have HNS := Lib.hid (HAS.out x.v HXS.out r HMR.out)
          have HLQ := Lib.hid (rfl : (exM m k x q).length = (exM m k x q).length)
          have hoge := ho.out.ge lg2 rfl
          generalize hlqq : (exM m k x q).length = lq at *
          replace HLQ := Lib.hid hlqq
          clear hlqq hy hy2 hy3 hy4 hr hg he hxv hb s1 s2
          have hk0 : (0 : Int) ≤ (k : Int) := by omega
          have hk1 : (k : Int) < (lq : Int) := by have := (List.getElem?_eq_some_iff.1 (exM_at (j := q) HX1.out)).1; rw [HLQ.out] at this; omega
          have hq0 : (0 : Int) ≤ (q : Int) := by omega
          have hq1 : (q : Int) < (rl : Int) := by omega
          have hkk0 : (0 : Int) ≤ (kk : Int) := by omega
          have hkk1 : (kk : Int) < (rn : Int) := by omega
          generalize r.gs.length = gn at *
          generalize r.es.length = en at *
          go_wp2
          refine wp_region_held_drew (S := (fun w' => w'.cell? ⟨lg2, k * 4, none⟩ = some (.slice (some ⟨xb, xo, none⟩) tn xc2) ∧ w'.cell? ⟨w.heap.size, 2, none⟩ = some (.slice (some ⟨rb, ro, none⟩) rn cr) ∧ w'.cell? ⟨rb, ro + kk * 3, none⟩ = some (.string r.nm) ∧ w'.cell? ⟨rb, ro + kk * 3 + 1, none⟩ = some (.slice ag gn cg) ∧ w'.cell? ⟨rb, ro + kk * 3 + 2, none⟩ = some (.slice ae en ce))) (by kernel_rfl) ?_ (fun hHeld => ?_)
          · exact ⟨s0, k2, g0, g1, g2⟩
          refine rg_take (v := ?_) 0 rfl (by kernel_rfl) (by kernel_rfl) (by kernel_rfl) (fun _ _ _ h => h) (by kernel_rfl) ?_ (by assumption) ?_
          rotate_left
          · (intro w' hSw; (try dsimp only at hSw); go_simp; first | done | with_reducible rfl)
          simp only [Act.put, List.setIfInBounds_toArray, List.set_cons_zero, List.set_cons_succ]
          refine rg_take (v := ?_) 1 rfl (by kernel_rfl) (by kernel_rfl) (by kernel_rfl) (fun _ _ _ h => h) (by kernel_rfl) ?_ (by assumption) ?_
          rotate_left
          · (intro w' hSw; (try dsimp only at hSw); go_simp; first | done | with_reducible rfl)
          simp only [Act.put, List.setIfInBounds_toArray, List.set_cons_zero, List.set_cons_succ]
          refine rg_take (v := ?_) 2 rfl (by kernel_rfl) (by kernel_rfl) (by kernel_rfl) (fun _ _ _ h => h) (by kernel_rfl) ?_ (by assumption) ?_
          rotate_left
          · (intro w' hSw; (try dsimp only at hSw); go_simp; first | done | with_reducible rfl)
          simp only [Act.put, List.setIfInBounds_toArray, List.set_cons_zero, List.set_cons_succ]
          refine rg_take (v := ?_) 3 rfl (by kernel_rfl) (by kernel_rfl) (by kernel_rfl) (fun _ _ _ h => h) (by kernel_rfl) ?_ (by assumption) ?_
          rotate_left
          · (intro w' hSw; (try dsimp only at hSw); go_simp; first | done | with_reducible rfl)
          simp only [Act.put, List.setIfInBounds_toArray, List.set_cons_zero, List.set_cons_succ]
          refine rg_take (v := ?_) 4 rfl (by kernel_rfl) (by kernel_rfl) (by kernel_rfl) (fun _ _ _ h => h) (by kernel_rfl) ?_ (by assumption) ?_
          rotate_left
          · (intro w' hSw; (try dsimp only at hSw); go_simp; first | done | with_reducible rfl)
          simp only [Act.put, List.setIfInBounds_toArray, List.set_cons_zero, List.set_cons_succ]
          refine rg_take (v := ?_) 5 rfl (by kernel_rfl) (by kernel_rfl) (by kernel_rfl) (fun _ _ _ h => h) (by kernel_rfl) ?_ (by assumption) ?_
          rotate_left
          · (intro w' hSw; (try dsimp only at hSw); go_simp; first | done | with_reducible rfl)
          simp only [Act.put, List.setIfInBounds_toArray, List.set_cons_zero, List.set_cons_succ]
          refine rg_take (v := ?_) 6 rfl (by kernel_rfl) (by kernel_rfl) (by kernel_rfl) (fun _ _ _ h => h) (by kernel_rfl) ?_ (by assumption) ?_
          rotate_left
          · (intro w' hSw; (try dsimp only at hSw); go_simp; first | done | with_reducible rfl)
          simp only [Act.put, List.setIfInBounds_toArray, List.set_cons_zero, List.set_cons_succ]
          refine rg_take (v := ?_) 7 rfl (by kernel_rfl) (by kernel_rfl) (by kernel_rfl) (fun _ _ _ h => h) (by kernel_rfl) ?_ (by assumption) ?_
          rotate_left
          · (intro w' hSw; (try dsimp only at hSw); go_simp; first | done | with_reducible rfl)
          simp only [Act.put, List.setIfInBounds_toArray, List.set_cons_zero, List.set_cons_succ]
          refine rg_take (v := ?_) 8 rfl (by kernel_rfl) (by kernel_rfl) (by kernel_rfl) (fun _ _ _ h => h) (by kernel_rfl) ?_ (by assumption) ?_
          rotate_left
          · (intro w' hSw; (try dsimp only at hSw); go_simp; first | done | with_reducible rfl)
          simp only [Act.put, List.setIfInBounds_toArray, List.set_cons_zero, List.set_cons_succ]
          refine rg_take (v := ?_) 9 rfl (by kernel_rfl) (by kernel_rfl) (by kernel_rfl) (fun _ _ _ h => h) (by kernel_rfl) ?_ (by assumption) ?_
          rotate_left
          · (intro w' hSw; (try dsimp only at hSw); go_simp; first | done | with_reducible rfl)
          simp only [Act.put, List.setIfInBounds_toArray, List.set_cons_zero, List.set_cons_succ]
          refine rg_run 10 rfl (by kernel_rfl) (by kernel_rfl) (fun K hK => ?_)
          go_simp
          refine (HAPL.out _ _ _ _ _ _ (by exact HXV.out.drew) (by exact HEE.out.drew)).mono ?_
          rintro e w5 ⟨g3, c3, rfl, hog, hb⟩
          have HB5 := Lib.hid (below_chain (by exact HBI.out.drew) hb)
          have HST5 := Lib.hid (show Below wi.heap.size wi w5 from below_chain (by exact (Below.refl _ _).drew) hb)
          have hg3 : wi.heap.size ≤ g3 ∧ g3 < w5.heap.size := hog.lt g3 rfl
          have HOG := Lib.hid hog
          replace s0 := cell_later hb (by exact s0)
          replace s3 := cell_later hb (by exact s3)
          replace k0 := cell_later hb (by exact k0)
          replace k1 := cell_later hb (by exact k1)
          replace k2 := cell_later hb (by exact k2)
          replace g0 := cell_later hb (by exact g0)
          replace g1 := cell_later hb (by exact g1)
          replace g2 := cell_later hb (by exact g2)
          clear hb hog
          go_wp2
          clear hHeld
          refine hK.out _ _ ⟨s0, k2, g0, g1, g2⟩ (fun hHeld => ?_)
          clear hK K
          try simp only [Act.put, List.setIfInBounds_toArray, List.set_cons_zero, List.set_cons_succ]
          refine rg_take (v := ?_) 11 rfl (by kernel_rfl) (by kernel_rfl) (by kernel_rfl) (fun _ _ _ h => h) (by kernel_rfl) ?_ (by assumption) ?_
          rotate_left
          · (intro w' hSw; (try dsimp only at hSw); go_simp; first | done | with_reducible rfl)
          simp only [Act.put, List.setIfInBounds_toArray, List.set_cons_zero, List.set_cons_succ]
          refine wpAnyH_done (by kernel_rfl) ?_ _
          clear hHeld
          go_wp2_with (fail)
          refine (HKEY.out (apL x.v r.es) HNS.out _ _ _ (Rd.own HOG.out)).mono ?_
          rintro e w6 ⟨rfl, hb⟩
          have HB6 := Lib.hid (below_chain HB5.out hb)
          have HST6 := Lib.hid (below_chain HST5.out hb)
          have HOG6 := Lib.hid (own_below HOG.out hb)
          replace s3 := cell_later hb s3
          replace k0 := cell_later hb k0
          replace k1 := cell_later hb k1
          replace k2 := cell_later hb k2
          have hs6 := hb.size
          have hs5 := HST5.out.size
          clear hb HB5 HOG s0 g0 g1 g2
          have HO6 := Lib.hid (ho.out.below HST6.out)
          have HSM6 := Lib.hid (hsm.out.below HST6.out)
          have HOR6 := Lib.hid (own_below hor.out HST6.out)
          clear ho hsm hor HST5 HST6
          have HL8 := Lib.hid (H8.out _ HNS.out)
          have HLL := Lib.hid (HVL.out _ HNS.out)
          by_cases hmem : apL x.v r.es ∈ (exM m k x q).map Rc.v
          · have hdec : decide (apL x.v r.es ∈ (exM m k x q).map Rc.v) = true := decide_eq_true hmem
            have HE := Lib.hid (show exM m k x (q + 1) = exM m k x q by rw [HEXS.out]; unfold addR; rw [if_pos (hasV_iff.2 hmem)])
            have HDEC := Lib.hid hdec
            clear hdec hmem
            go_wp2_with (first
              | (at_lookup
                 refine wpList_look_set _ rfl (.tmp 52) (.tmp 53) rfl mb lq ((exM m k x q).map Rc.v) rfl HSM6.out (apL x.v r.es) rfl HL8.out (by have := HLL.out; omega) ?_
                 rw [HDEC.out]))
            go_roundw
            case rel => exact ⟨q + 1, by omega, by go_num, Lib.hid (by rw [HE.out]; exact HO6.out.mono (Nat.le_refl _) (by omega)), Lib.hid (by rw [HE.out, HLQ.out]; exact HSM6.out), HOR6, k0, k1, k2, HB6.out⟩
            case measure => simp [intOf]; omega
          · have HE := Lib.hid (show exM m k x (q + 1) = exM m k x q ++ [⟨apL x.v r.es, k, kk, x.d + 1, x.t ++ [(kk : Int)]⟩] by rw [HEXS.out]; unfold addR; rw [hasV_false hmem]; rfl)
            have HDEC := Lib.hid (show decide (apL x.v r.es ∈ (exM m k x q).map Rc.v) = false from decide_eq_false hmem)
            clear hmem
            have hxd0 := hdi.1
            have hxd1 : x.d ≤ 4000 := by omega
            go_wp2_with (first
              | (at_lookup
                 refine wpList_look_set _ rfl (.tmp 52) (.tmp 53) rfl mb lq ((exM m k x q).map Rc.v) rfl HSM6.out (apL x.v r.es) rfl HL8.out (by have := HLL.out; omega) ?_
                 rw [HDEC.out])
              | (at_mapUpdate
                 refine wpList_put_set _ rfl (.tmp 56) (.tmp 57) (.const (.bool true)) rfl mb lq ((exM m k x q).map Rc.v) rfl HSM6.out (apL x.v r.es) rfl rfl HL8.out (by have := HLL.out; omega) (by omega) ?_
                 intro w7 hsm hg
                 have HSM7 := Lib.hid hsm
                 have HO7 := Lib.hid (HO6.out.map HSM6.out hg)
                 have HOR7 := Lib.hid (own_map HOR6.out HSM6.out hg)
                 have HOG7 := Lib.hid (own_map HOG6.out HSM6.out hg)
                 have hs7 := hg.size
                 have HB7 := Lib.hid (below_of_grown HB6.out hg (by intro q hq; simp at hq; omega))
                 replace s3 := hg.cell s3 (fun h => HSM6.out.cellNe s3 (by simpa using h.symm))
                 replace k0 := hg.cell k0 (fun h => HSM6.out.cellNe k0 (by simpa using h.symm))
                 replace k1 := hg.cell k1 (fun h => HSM6.out.cellNe k1 (by simpa using h.symm))
                 replace k2 := hg.cell k2 (fun h => HSM6.out.cellNe k2 (by simpa using h.symm))
                 have HAA := Lib.hid (below_alloc (Below.refl w7.heap.size w7) (Obj.cells #[Value.slice (some ⟨g3, 0, none⟩) tn c3, .int .i64 k, .int .i64 kk, .int .i64 (x.d + 1)] 108))
                 clear hsm hg)
              | (at_builtin
                 refine wpList_push_rc _ rfl (.tmp 58) (.tmp 69) rfl (w.heap.size + 1) wi.heap.size w7.heap.size (.slice (some ⟨lg2, 0, none⟩) lq lc2) (exM m k x q) ⟨⟨apL x.v r.es, k, kk, x.d + 1, x.t ++ [(kk : Int)]⟩, some ⟨g3, 0, none⟩, c3⟩ w7.heap.size 1 rfl (HO7.out.below HAA.out) rfl (by dsimp only [RcD.vv]; rw [HLL.out]; go_simp) (by dsimp only; go_simp) (by dsimp only; go_simp) (by dsimp only; go_simp) (by dsimp only [RcD.vv]; rw [HLL.out]; exact own_mono (own_below HOG7.out HAA.out) (show w.heap.size + 1 ≤ wi.drew.heap.size by show w.heap.size + 1 ≤ wi.heap.size; omega)) (fun q hq => by simp [RcD.vv, Value.ownBlock] at hq; omega) (by omega) (by rw [HLQ.out]; omega) (by simp; omega) ?_
                 intro v1 w8 hown1 hgrow
                 have HW1 := Lib.hid hown1
                 have hs8 : w7.heap.size ≤ w8.heap.size := Nat.le_trans (by simp) hgrow.size
                 have HB8 := Lib.hid (below_of_grown (below_chain HB7.out HAA.out) hgrow (fun q hq => by simp [Value.ownBlock] at hq; omega))
                 have HSM8 := Lib.hid ((HSM7.out.below HAA.out).keep (HO7.out.below HAA.out) hgrow)
                 have HOR8 := Lib.hid ((HO7.out.below HAA.out).keep (own_below HOR7.out HAA.out) (by decide) hgrow)
                 replace k0 := hgrow.cell (cell_later HAA.out k0) (by simp [Value.ownBlock]; omega)
                 replace k1 := hgrow.cell (cell_later HAA.out k1) (by simp [Value.ownBlock]; omega)
                 replace k2 := hgrow.cell (cell_later HAA.out k2) (by simp [Value.ownBlock]; omega)
                 clear hown1 hgrow))
            go_roundw
            case rel => exact ⟨q + 1, by omega, by go_num, Lib.hid (by rw [HE.out]; exact HW1.out.mono (Nat.le_refl _) hs8), Lib.hid (by rw [HE.out, List.length_append, List.map_append, HLQ.out]; exact HSM8.out), HOR8, k0, k1, k2, HB8.out⟩
            case measure => simp [intOf]; omega
        · obtain rfl : q = rl := by omega
          have HALL := Lib.hid (exM_all (j := q) HX1.out (by rw [← HRE.out, HRLN.out]; exact Nat.le_refl _))
          rcases Nat.lt_or_ge 4000 (exM m k x q).length with h4 | h4
          · obtain ⟨e1, e2⟩ := HOV.out k q x (by omega) HX1.out h4
            subst e1 e2
            have HBB := Lib.hid hb
            generalize (exM m k x q).length = lq at *
            have h4i : (4000 : Int) < (lq : Int) := by omega
            clear ho hsm hor hb
            go_wp2
            go_ret2
            exact ⟨none, 0, rfl, ownRc_nil _ _ _, HBB.out⟩
          · have h5 := HALL.out
            have hkl : k + 1 ≤ (sqM m (k + 1)).length := by rw [← h5]; have := (List.getElem?_eq_some_iff.1 (exM_at (j := q) HX1.out)).1; omega
            have h4' : (sqM m (k + 1)).length ≤ 4000 := by rw [← h5]; exact h4
            have HO := Lib.hid ho.out
            have HS := Lib.hid hsm.out
            rw [h5] at HO HS
            have HBB := Lib.hid hb
            have HQ := Lib.hid (show (exM m k x q).length = (sqM m (k + 1)).length by rw [h5])
            generalize hlqq : (exM m k x q).length = lq at *
            have h4i : ¬ (4000 : Int) < (lq : Int) := by omega
            clear ho hsm hor hb h5 hlqq
            go_wp2
            go_roundw
            case rel => exact ⟨k + 1, by go_num, hkl, h4', Lib.hid (by have := HO.out; rw [← HQ.out] at this; exact this), HS, k0, k1, k2, HBB.out⟩
            case measure => simp [intOf]; omega
    · have hkk : (sqM m k).length = k := by omega
      obtain ⟨e1, e2⟩ := HDN.out k hkk (by omega)
      have HO := Lib.hid ho.out
      have HBB := Lib.hid hb
      have HL := Lib.hid (show XL.length = k by rw [e2]; exact hkk)
      rw [← e2] at HO
      subst e1
      rw [hkk]
      have hki : ¬ (k : Int) < (k : Int) := by omega
      generalize XL.length = xn at *
      have e3 := HL.out
      subst e3
      clear ho hsm hb e2 hkk
      go_wp2
      go_ret2
      exact ⟨_, lc, rfl, HO.out.mono (by omega) (Nat.le_refl _), HBB.out⟩
end Go.Proofs.Ytaloheljfefdeaa

/- l20Compare, l20Place (reference): lists in lexicographic order, the place of one in an ascending list. Condition: all lists are of one length. -/
namespace Go.Proofs.Ytaloheljfefdeaa
open Go.RowKit

theorem cmp_step {a b : List Int} {k : Nat} {x y : Int} (ha : a[k]? = some x) (hb : b[k]? = some y) : cmpL (a.drop k) (b.drop k) = if x < y then -1 else if y < x then 1 else cmpL (a.drop (k + 1)) (b.drop (k + 1)) := by
  obtain ⟨h1, rfl⟩ := List.getElem?_eq_some_iff.1 ha
  obtain ⟨h2, rfl⟩ := List.getElem?_eq_some_iff.1 hb
  rw [List.drop_eq_getElem_cons h1, List.drop_eq_getElem_cons h2]
  rfl
set_option maxHeartbeats 1000000 in
set_option maxRecDepth 100000 in
theorem c_l20Compare (A A' : Option Addr) (c c' n : Nat) (a b : List Int) (w : World) (hn : a.length = n) (hn' : b.length = n) (hl : n ≤ 1048576) (ha : Rd w A (ints a)) (hb : Rd w A' (ints b)) :
    Calls Try.prog 125 #[.slice A n c, .slice A' n c'] w fun e w' => e = .returned (.int .i64 (cmpL a b)) ∧ Below w.heap.size w w' := by
  have HN := Lib.hid hn
  have HN' := Lib.hid hn'
  have HA := Lib.hid ha
  have HB := Lib.hid hb
  have HC := Lib.hid (show cmpL a b = cmpL (a.drop 0) (b.drop 0) from rfl)
  clear hn hn' ha hb
  generalize cmpL a b = C at *
  go_enter Try.func125, Try.ntmps125
  go_wp2
  go_loopw [5] (fun i wr => ∃ k : Nat, k ≤ n ∧ i = .int .i64 k ∧ Hid (C = cmpL (a.drop k) (b.drop k)) ∧ Below w.heap.size w wr) (fun i _ => n - (intOf i).toNat)
  case atStart => exact ⟨0, Nat.zero_le _, rfl, HC, Below.refl _ _⟩
  case round =>
    obtain ⟨k, hk, rfl, hc, hb⟩ := hrel
    by_cases hlt : k < n
    · obtain ⟨x, hx⟩ : ∃ z, a[k]? = some z := ⟨_, List.getElem?_eq_getElem (by have := HN.out; omega)⟩
      obtain ⟨y, hy⟩ : ∃ z, b[k]? = some z := ⟨_, List.getElem?_eq_getElem (by have := HN'.out; omega)⟩
      have HS := Lib.hid (hc.out.trans (cmp_step hx hy))
      obtain ⟨b1, o1, rfl, _, g0⟩ := (HA.out.below hb).int hx
      obtain ⟨b2, o2, rfl, _, g1⟩ := (HB.out.below hb).int hy
      have HBB := Lib.hid hb
      clear hx hy hb hc HA HB
      rcases Int.lt_trichotomy x y with h | h | h
      · have e := HS.out
        rw [if_pos h] at e
        subst e
        have h2 : ¬ y ≤ x := by omega
        go_wp2
        refine wp_region_quiet_lit (by kernel_rfl) (by kernel_rfl) ?_
        (repeat (any_goals (first | go_big_quiet_step (fail) | quiet_step (fail) | (refine wpQuiet_step (fun K hK => ?_); go_simp; split <;> (refine hK _ ?_; clear hK K)))))
        all_goals (refine wpQuiet_nil ?_; intro _ hw'; obtain ⟨nq, hw''⟩ := hw'; subst hw'')
        go_wp2
        go_ret
        exact ⟨rfl, below_drewN HBB.out _⟩
      · subst h
        have e := HS.out
        rw [if_neg (by omega), if_neg (by omega)] at e
        have HE := Lib.hid e
        clear e HS
        have h2 : ¬ x < x := by omega
        go_wp2
        refine wp_region_quiet_lit (by kernel_rfl) (by kernel_rfl) ?_
        (repeat (any_goals (first | go_big_quiet_step (fail) | quiet_step (fail) | (refine wpQuiet_step (fun K hK => ?_); go_simp; split <;> (refine hK _ ?_; clear hK K)))))
        all_goals (refine wpQuiet_nil ?_; intro _ hw'; obtain ⟨nq, hw''⟩ := hw'; subst hw'')
        go_wp2
        refine wp_region_quiet_lit (by kernel_rfl) (by kernel_rfl) ?_
        (repeat (any_goals (first | go_big_quiet_step (fail) | quiet_step (fail) | (refine wpQuiet_step (fun K hK => ?_); go_simp; split <;> (refine hK _ ?_; clear hK K)))))
        all_goals (refine wpQuiet_nil ?_; intro _ hw'; obtain ⟨nq, hw''⟩ := hw'; subst hw'')
        go_wp2
        go_roundw
        case rel => exact ⟨k + 1, by omega, by go_num, HE, (by first | exact below_drewN HBB.out _ | exact below_drewN (below_drewN HBB.out _) _)⟩
        case measure => simp [intOf]; omega
      · have e := HS.out
        rw [if_neg (by omega), if_pos h] at e
        subst e
        have h2 : ¬ x < y := by omega
        go_wp2
        refine wp_region_quiet_lit (by kernel_rfl) (by kernel_rfl) ?_
        (repeat (any_goals (first | go_big_quiet_step (fail) | quiet_step (fail) | (refine wpQuiet_step (fun K hK => ?_); go_simp; split <;> (refine hK _ ?_; clear hK K)))))
        all_goals (refine wpQuiet_nil ?_; intro _ hw'; obtain ⟨nq, hw''⟩ := hw'; subst hw'')
        go_wp2
        refine wp_region_quiet_lit (by kernel_rfl) (by kernel_rfl) ?_
        (repeat (any_goals (first | go_big_quiet_step (fail) | quiet_step (fail) | (refine wpQuiet_step (fun K hK => ?_); go_simp; split <;> (refine hK _ ?_; clear hK K)))))
        all_goals (refine wpQuiet_nil ?_; intro _ hw'; obtain ⟨nq, hw''⟩ := hw'; subst hw'')
        go_wp2
        go_ret
        exact ⟨rfl, (by first | exact below_drewN HBB.out _ | exact below_drewN (below_drewN HBB.out _) _)⟩
    · have hkn : k = n := by omega
      have HE := Lib.hid (show C = 0 by
        rw [hc.out, List.drop_eq_nil_of_le (by have := HN.out; omega), List.drop_eq_nil_of_le (by have := HN'.out; omega)]
        rfl)
      have HBB := Lib.hid hb
      clear hc HC hb
      have e := HE.out
      subst e
      subst hkn
      go_wp2
      go_ret
      exact ⟨rfl, HBB.out⟩
end Go.Proofs.Ytaloheljfefdeaa
