/- The search through all states, as plain lists: depths rise, each state's next states are there, a first bad state has a shortest trace. No program in sight. -/
import Derived.Test.YtaloheljfefdeaaHPlDed
import Derived.Test.YtaloheljfefdeaaH16
import Derived.Test.YtaloheljfefdeaaHMIcx
namespace Go.Proofs.Ytaloheljfefdeaa
open Go.RowKit

section
variable {nx : List Int → List (Int × List Int)} {s : List Int}
structure Bf (nx : List Int → List (Int × List Int)) (s : List Int) (acc : List Rc) : Prop where
  srt : ∀ (i j : Nat) (x y : Rc), i ≤ j → acc[i]? = some x → acc[j]? = some y → x.d ≤ y.d
  par : ∀ (i : Nat) (x : Rc), acc[i]? = some x → (x.v = s ∧ x.t = []) ∨ ∃ (j : Nat) (y : Rc), j < i ∧ acc[j]? = some y ∧ x.t = y.t ++ [x.r] ∧ (x.r, x.v) ∈ nx y.v
theorem bf_add {acc : List Rc} {k : Nat} {x : Rc} (h : Bf nx s acc) (hb : ∀ y ∈ acc, y.d ≤ x.d + 1) (hx : acc[k]? = some x) {p : Int × List Int} (hp : p ∈ nx x.v) :
    Bf nx s (addR acc (mkR x k p)) ∧ (∀ y ∈ addR acc (mkR x k p), y.d ≤ x.d + 1) ∧ ∃ y ∈ addR acc (mkR x k p), y.v = p.2 := by
  unfold addR
  split
  · rename_i hv
    refine ⟨h, hb, ?_⟩
    have := hasV_iff.1 hv
    obtain ⟨y, hy, e⟩ := List.mem_map.1 this
    exact ⟨y, hy, e⟩
  · have hkl := (List.getElem?_eq_some_iff.1 hx).1
    have hcase : ∀ {i : Nat} {y : Rc}, (acc ++ [mkR x k p])[i]? = some y → acc[i]? = some y ∨ (i = acc.length ∧ y = mkR x k p) := by
      intro i y hy
      rcases Nat.lt_or_ge i acc.length with h1 | h1
      · rw [List.getElem?_append_left h1] at hy
        exact .inl hy
      · rw [List.getElem?_append_right h1] at hy
        have hi : i = acc.length := by
          have := (List.getElem?_eq_some_iff.1 hy).1
          simp at this
          omega
        subst hi
        simp at hy
        exact .inr ⟨rfl, hy.symm⟩
    refine ⟨⟨fun i j y z hij hy hz => ?_, fun i y hy => ?_⟩, fun y hy => ?_, ⟨mkR x k p, by simp, rfl⟩⟩
    · rcases hcase hz with hz | ⟨rfl, rfl⟩
      · rcases hcase hy with hy | ⟨rfl, rfl⟩
        · exact h.srt i j y z hij hy hz
        · have := (List.getElem?_eq_some_iff.1 hz).1
          omega
      · rcases hcase hy with hy | ⟨_, rfl⟩
        · exact hb y (List.mem_of_getElem? hy)
        · exact Int.le_refl _
    · rcases hcase hy with hy | ⟨rfl, rfl⟩
      · rcases h.par i y hy with h1 | ⟨j, z, hj, hz, h2⟩
        · exact .inl h1
        · exact .inr ⟨j, z, hj, by rw [List.getElem?_append_left (List.getElem?_eq_some_iff.1 hz).1]; exact hz, h2⟩
      · exact .inr ⟨k, x, hkl, by rw [List.getElem?_append_left hkl]; exact hx, rfl, hp⟩
    · rcases List.mem_append.1 hy with hy | hy
      · exact hb y hy
      · rw [List.mem_singleton] at hy
        subst hy
        exact Int.le_refl _
theorem addR_mem {acc : List Rc} {x y : Rc} (h : y ∈ acc) : y ∈ addR acc x := by
  unfold addR
  split
  · exact h
  · exact List.mem_append_left _ h
theorem exP_mem {x : Rc} {i : Nat} {y : Rc} : ∀ (l : List (Int × List Int)) {acc : List Rc}, y ∈ acc → y ∈ exP x i acc l
  | [], _, h => h
  | _ :: l, _, h => exP_mem l (addR_mem h)
theorem bf_ex {k : Nat} {x : Rc} : ∀ (l : List (Int × List Int)) {acc : List Rc}, Bf nx s acc → (∀ y ∈ acc, y.d ≤ x.d + 1) → acc[k]? = some x → (∀ p ∈ l, p ∈ nx x.v) →
    Bf nx s (exP x k acc l) ∧ (∀ y ∈ exP x k acc l, y.d ≤ x.d + 1) ∧ ∀ p ∈ l, ∃ y ∈ exP x k acc l, y.v = p.2
  | [], _, h, hb, _, _ => ⟨h, hb, by simp⟩
  | p :: l, acc, h, hb, hx, hl => by
    obtain ⟨h1, h2, y, hy, e⟩ := bf_add h hb hx (hl p (List.mem_cons_self ..))
    obtain ⟨h3, h4, h5⟩ := bf_ex l h1 h2 (addR_at hx) (fun q hq => hl q (List.mem_cons_of_mem _ hq))
    refine ⟨h3, h4, fun q hq => ?_⟩
    rcases List.mem_cons.1 hq with rfl | hq
    · exact ⟨y, exP_mem l hy, e⟩
    · exact h5 q hq
theorem bf_sq : ∀ k, Bf nx s (sq nx s k) ∧ ∀ x, (sq nx s k)[k]? = some x → ∀ y ∈ sq nx s k, y.d ≤ x.d + 1
  | 0 => by
    have h0 : ∀ {i : Nat} {x : Rc}, (sq nx s 0)[i]? = some x → i = 0 ∧ x = ⟨s, -1, 0, 0, []⟩ := by
      intro i x hx
      rcases i with _ | i
      · simp only [sq, List.getElem?_cons_zero, Option.some.injEq] at hx
        exact ⟨rfl, hx.symm⟩
      · simp [sq] at hx
    refine ⟨⟨fun i j x y _ hx hy => ?_, fun i x hx => ?_⟩, fun x hx y hy => ?_⟩
    · rw [(h0 hx).2, (h0 hy).2]; exact Int.le_refl _
    · rw [(h0 hx).2]; exact .inl ⟨rfl, rfl⟩
    · simp only [sq, List.mem_singleton] at hy
      rw [(h0 hx).2, hy]
      show (0 : Int) ≤ 0 + 1
      omega
  | k + 1 => by
    obtain ⟨h1, h2⟩ := bf_sq k
    cases h : (sq nx s k)[k]? with
    | none =>
      rw [sq_none h]
      refine ⟨h1, fun x hx => ?_⟩
      have a := (List.getElem?_eq_some_iff.1 hx).1
      have b := List.getElem?_eq_none_iff.1 h
      omega
    | some x =>
      rw [sq_succ h]
      obtain ⟨h3, h4, _⟩ := bf_ex (nx x.v) h1 (h2 x h) h (fun p hp => hp)
      refine ⟨h3, fun z hz y hy => ?_⟩
      have h5 : (exP x k (sq nx s k) (nx x.v))[k]? = some x := by
        obtain ⟨t, ht⟩ := exP_pre x k (nx x.v) (sq nx s k)
        rw [← ht, List.getElem?_append_left (List.getElem?_eq_some_iff.1 h).1]
        exact h
      have h6 := h3.srt k (k + 1) x z (by omega) h5 hz
      have h7 := h4 y hy
      omega
theorem bf_fin : Bf nx s (fin nx s) := (bf_sq 4001).1
theorem fin_at {k : Nat} {x : Rc} (hl : (fin nx s).length ≤ 4000) (hx : (fin nx s)[k]? = some x) : (sq nx s k)[k]? = some x := by
  have hk := (List.getElem?_eq_some_iff.1 hx).1
  rcases Nat.lt_or_ge k (sq nx s k).length with h | h
  · obtain ⟨y, hy⟩ : ∃ y, (sq nx s k)[k]? = some y := ⟨_, List.getElem?_eq_getElem h⟩
    have := sq_at (nx := nx) (s := s) (show k ≤ 4001 by omega) hy
    unfold fin at hx
    rw [this] at hx
    rw [hy]
    exact hx
  · have e : fin nx s = sq nx s k := sq_stop h (by omega)
    rw [e] at hk
    omega
theorem fin_next {k : Nat} {x : Rc} {p : Int × List Int} (hl : (fin nx s).length ≤ 4000) (hx : (fin nx s)[k]? = some x) (hp : p ∈ nx x.v) : ∃ y ∈ fin nx s, y.v = p.2 ∧ y.d ≤ x.d + 1 := by
  have hk := (List.getElem?_eq_some_iff.1 hx).1
  have h := fin_at hl hx
  obtain ⟨h1, h2⟩ := bf_sq (nx := nx) (s := s) k
  obtain ⟨_, h4, h5⟩ := bf_ex (nx x.v) h1 (h2 x h) h (fun p hp => hp)
  obtain ⟨y, hy, e⟩ := h5 p hp
  rw [← sq_succ h] at hy h4
  refine ⟨y, ?_, e, h4 y hy⟩
  have := sq_pre (nx := nx) (s := s) (show k + 1 ≤ 4001 by omega)
  exact this.subset hy
theorem fin_start : ∃ y ∈ fin nx s, y.v = s ∧ y.d = 0 := by
  have := sq_pre (nx := nx) (s := s) (Nat.zero_le 4001)
  exact ⟨⟨s, -1, 0, 0, []⟩, this.subset (by simp [sq]), rfl, rfl⟩
end
end Go.Proofs.Ytaloheljfefdeaa
