/- Lists of lists of numbers: how they read, how they are owned, how one is appended. No condition but the sizes. -/
import Derived.Test.YticlpjljcedfmaaAppM
namespace Go.Proofs.Yticlpjljcedfmaa
open Go.RowKit

/-- A list of numbers as it lies in memory. -/
structure IvD where
  l : List Int
  a : Option Addr
  c : Nat
def IvD.v (d : IvD) : Value := .slice d.a d.l.length d.c
def rowsC (ds : List IvD) : List Value := ds.map IvD.v
theorem rowsC_length (ds : List IvD) : (rowsC ds).length = ds.length := by simp [rowsC]
/-- The slice value `.slice A L.length c` holds the lists L. -/
def RdS (w : World) (A : Option Addr) (L : List (List Int)) : Prop :=
  ∃ ds : List IvD, ds.map IvD.l = L ∧ Rd w A (rowsC ds) ∧ ∀ d ∈ ds, Rd w d.a (ints d.l)
theorem RdS.below {w w1 : World} {A : Option Addr} {L : List (List Int)} (h : RdS w A L) (hb : Below w.heap.size w w1) : RdS w1 A L := by
  obtain ⟨ds, e, h1, h2⟩ := h
  exact ⟨ds, e, h1.below hb, fun d hd => (h2 d hd).below hb⟩
theorem RdS.at {w : World} {A : Option Addr} {L : List (List Int)} {k : Nat} {l : List Int} (h : RdS w A L) (hk : L[k]? = some l) : ∃ b off a c, A = some ⟨b, off, none⟩ ∧ b < w.heap.size ∧ w.cell? ⟨b, off + k, none⟩ = some (.slice a l.length c) ∧ Rd w a (ints l) := by
  obtain ⟨ds, rfl, h1, h2⟩ := h
  rw [List.getElem?_map, Option.map_eq_some_iff] at hk
  obtain ⟨d, hd, rfl⟩ := hk
  have u0 : (rowsC ds)[k]? = some d.v := by simp [rowsC, hd]
  obtain ⟨b, off, rfl, hb, hc⟩ := h1.some_ (by intro e; rw [e] at u0; simp at u0)
  exact ⟨b, off, d.a, d.c, rfl, hb, hc _ _ u0, h2 d (List.mem_of_getElem? hd)⟩
/-- The lists are the call's own, each in a block below hi, no two in one; and so is the row of their slices. -/
def OwnS (w : World) (base hi : Nat) (v : Value) (L : List (List Int)) : Prop :=
  ∃ ds : List IvD, ds.map IvD.l = L ∧ w.ownsRow base 22 1 v L.length (rowsC ds) ∧ (∀ d ∈ ds, w.ownsRow base 2 1 d.v d.l.length (ints d.l) ∧ ∀ q, d.v.ownBlock = some q → q < hi) ∧ ds.Pairwise fun a b => ∀ q, a.v.ownBlock = some q → b.v.ownBlock ≠ some q
theorem OwnS.below {w w1 : World} {base hi : Nat} {v : Value} {L : List (List Int)} (h : OwnS w base hi v L) (hb : Below w.heap.size w w1) : OwnS w1 base hi v L := by
  obtain ⟨ds, e, h1, h2, h3⟩ := h
  exact ⟨ds, e, own_below h1 hb, fun d hd => ⟨own_below (h2 d hd).1 hb, (h2 d hd).2⟩, h3⟩
theorem OwnS.mono {w : World} {base base' hi hi' : Nat} {v : Value} {L : List (List Int)} (h : OwnS w base hi v L) (hb : base' ≤ base) (hh : hi ≤ hi') : OwnS w base' hi' v L := by
  obtain ⟨ds, e, h1, h2, h3⟩ := h
  exact ⟨ds, e, own_mono h1 hb, fun d hd => ⟨own_mono (h2 d hd).1 hb, fun q hq => Nat.lt_of_lt_of_le ((h2 d hd).2 q hq) hh⟩, h3⟩
theorem OwnS.rd {w : World} {base hi n c : Nat} {A : Option Addr} {L : List (List Int)} (h : OwnS w base hi (.slice A n c) L) (hn : n = L.length) : RdS w A L := by
  obtain ⟨ds, e, h1, h2, _⟩ := h
  subst hn
  exact ⟨ds, e, Rd.own h1, fun d hd => Rd.own (h2 d hd).1⟩
theorem OwnS.form {w : World} {base hi : Nat} {v : Value} {L : List (List Int)} (h : OwnS w base hi v L) : ∃ A c, v = .slice A L.length c := by
  obtain ⟨ds, _, h1, _⟩ := h
  rcases h1.2 with ⟨e, e2⟩ | ⟨g, cap, cur, e, _⟩
  · exact ⟨none, 0, by rw [e, e2]⟩
  · exact ⟨_, _, e⟩
theorem OwnS.ge {w : World} {base hi : Nat} {v : Value} {L : List (List Int)} (h : OwnS w base hi v L) : ∀ q, v.ownBlock = some q → base ≤ q ∧ q < w.heap.size := by
  obtain ⟨ds, _, h1, _⟩ := h
  exact fun q hq => h1.lt q hq
theorem own_ne {w : World} {b1 b2 : Nat} {e1 e2 : TypeId} {s1 s2 n1 n2 : Nat} {v1 v2 : Value} {x1 x2 : List Value} (h1 : w.ownsRow b1 e1 s1 v1 n1 x1) (h2 : w.ownsRow b2 e2 s2 v2 n2 x2) (he : e1 ≠ e2) : ∀ q, v1.ownBlock = some q → v2.ownBlock = some q → False := by
  intro q hq1 hq2
  rcases h1.2 with ⟨rfl, _⟩ | ⟨g1, c1, cur1, rfl, _, hg1, _⟩
  · simp [Value.ownBlock] at hq1
  · rcases h2.2 with ⟨rfl, _⟩ | ⟨g2, c2, cur2, rfl, _, hg2, _⟩
    · simp [Value.ownBlock] at hq2
    · simp [Value.ownBlock] at hq1 hq2
      subst hq1
      subst hq2
      rw [hg1] at hg2
      simp only [Option.some.injEq, Obj.cells.injEq] at hg2
      exact he hg2.2.1
theorem own_keep {w w' : World} {b1 b2 : Nat} {e1 e2 : TypeId} {s1 s2 n1 n2 : Nat} {v1 v2 : Value} {x1 x2 : List Value} (h1 : w.ownsRow b1 e1 s1 v1 n1 x1) (h2 : w.ownsRow b2 e2 s2 v2 n2 x2) (he : e1 ≠ e2) (hg : w.grownBy w' v2.ownBlock) : w'.ownsRow b1 e1 s1 v1 n1 x1 := by
  refine h1.kept hg ?_
  rcases hv : v1.ownBlock with _ | q
  · exact .inl rfl
  · exact .inr fun h' => own_ne h1 h2 he q hv h'.symm
theorem info_intS : (Try.prog.info? 22).map (fun i => (i.zero, i.size, i.bytes)) = some (some (.slice none 0 0), 1, 24) := by kernel_rfl
/-- append of one list to a list of lists of the call's own. -/
theorem wpList_push_row (w : World) {ops : Array Oper} {rest : List Oper} {o : Oper} {a : Act} {Q : Exit → Act → World → Prop} (hgd : o.guard = none) (s x : Operand)
    (ho : o.op = .call { callee := .builtin .append, args := #[s, x], argTypes := #[55, 55] })
    (base hi hi' : Nat) (v : Value) (L : List (List Int)) (d : IvD) (g c : Nat) (hs : a.eval s = v) (hown : OwnS w base hi v L)
    (hx : a.eval x = .slice (some ⟨g, 0, none⟩) 1 c) (hc : w.cell? ⟨g, 0, none⟩ = some d.v) (hd : w.ownsRow base 2 1 d.v d.l.length (ints d.l)) (hfr : ∀ q, d.v.ownBlock = some q → hi ≤ q ∧ q < hi') (hle : hi ≤ hi') (hn : L.length ≤ 1048577) (hbase : base ≤ w.heap.size)
    (h : ∀ v' w', OwnS w' base hi' v' (L ++ [d.l]) → w.grownBy w' v.ownBlock → wpList Try.prog ops Q rest (a.put o.dst v') w') : wpList Try.prog ops Q (o :: rest) a w := by
  obtain ⟨i0, hi, hz0, hz1, hz2⟩ := info_parts info_intS
  obtain ⟨ds, rfl, h1, h2, h3⟩ := hown
  rw [List.length_map] at h1 hn
  refine wpList_push w hgd s x 55 ho base 22 i0 (.slice none 0 0) 1 24 Try.underlying55 hi hz0 hz1 hz2 rfl (by decide) v ds.length (rowsC ds) hs h1 ⟨g, 0, none⟩ c [d.v] hx rfl ?_ ?_ (by unfold maxLen; omega) (by omega) hbase ?_
  · intro j u hu
    match j, hu with
    | 0, hu =>
      simp only [List.getElem?_cons_zero, Option.some.injEq] at hu
      rw [← hu]
      simpa [Addr.add] using hc
  · intro u hu
    simp only [List.mem_singleton] at hu
    subst hu
    rfl
  · intro v' w' hown1 hgrow _ _
    refine h v' w' ⟨ds ++ [d], by simp, ?_, fun d' hd' => ?_, ?_⟩ hgrow
    · have e : rowsC (ds ++ [d]) = rowsC ds ++ [d.v] := by simp [rowsC]
      rw [e]
      simpa using hown1
    · rcases List.mem_append.1 hd' with hd' | hd'
      · exact ⟨own_keep (h2 d' hd').1 h1 (by decide) hgrow, fun q hq => Nat.lt_of_lt_of_le ((h2 d' hd').2 q hq) hle⟩
      · simp only [List.mem_singleton] at hd'
        subst hd'
        exact ⟨own_keep hd h1 (by decide) hgrow, fun q hq => (hfr q hq).2⟩
    · rw [List.pairwise_append]
      refine ⟨h3, List.pairwise_singleton _ _, fun a' ha' b' hb' q hq hq2 => ?_⟩
      simp only [List.mem_singleton] at hb'
      subst hb'
      have := (h2 a' ha').2 q hq
      have := (hfr q hq2).1
      omega
/-- The same, as one operation. -/
theorem wp_push_row (w : World) {o : Oper} {a : Act} {K : Act → World → Prop} {Q : Exit → Act → World → Prop} (s x : Operand)
    (ho : o.op = .call { callee := .builtin .append, args := #[s, x], argTypes := #[55, 55] })
    (base hi hi' : Nat) (v : Value) (L : List (List Int)) (d : IvD) (g c : Nat) (hs : a.eval s = v) (hown : OwnS w base hi v L)
    (hx : a.eval x = .slice (some ⟨g, 0, none⟩) 1 c) (hc : w.cell? ⟨g, 0, none⟩ = some d.v) (hd : w.ownsRow base 2 1 d.v d.l.length (ints d.l)) (hfr : ∀ q, d.v.ownBlock = some q → hi ≤ q ∧ q < hi') (hle : hi ≤ hi') (hn : L.length ≤ 1048577) (hbase : base ≤ w.heap.size)
    (h : ∀ v' w', OwnS w' base hi' v' (L ++ [d.l]) → w.grownBy w' v.ownBlock → (∀ g, v.ownBlock = some g → ∀ j, j < L.length → w'.cell? ⟨g, j, none⟩ = w.cell? ⟨g, j, none⟩) → K (a.put o.dst v') w') : o.wp Try.prog a w K Q := by
  obtain ⟨i0, hi, hz0, hz1, hz2⟩ := info_parts info_intS
  obtain ⟨ds, rfl, h1, h2, h3⟩ := hown
  rw [List.length_map] at h1 hn
  refine wp_push w s x 55 ho base 22 i0 (.slice none 0 0) 1 24 Try.underlying55 hi hz0 hz1 hz2 rfl (by decide) v ds.length (rowsC ds) hs h1 ⟨g, 0, none⟩ c [d.v] hx rfl ?_ ?_ (by unfold maxLen; omega) (by omega) hbase ?_
  · intro j u hu
    match j, hu with
    | 0, hu =>
      simp only [List.getElem?_cons_zero, Option.some.injEq] at hu
      rw [← hu]
      simpa [Addr.add] using hc
  · intro u hu
    simp only [List.mem_singleton] at hu
    subst hu
    rfl
  · intro v' w' hown1 hgrow hold _
    refine h v' w' ⟨ds ++ [d], by simp, ?_, fun d' hd' => ?_, ?_⟩ hgrow fun g hg j hj => hold g hg j (by rw [List.length_map] at hj; omega)
    · have e : rowsC (ds ++ [d]) = rowsC ds ++ [d.v] := by simp [rowsC]
      rw [e]
      simpa using hown1
    · rcases List.mem_append.1 hd' with hd' | hd'
      · exact ⟨own_keep (h2 d' hd').1 h1 (by decide) hgrow, fun q hq => Nat.lt_of_lt_of_le ((h2 d' hd').2 q hq) hle⟩
      · simp only [List.mem_singleton] at hd'
        subst hd'
        exact ⟨own_keep hd h1 (by decide) hgrow, fun q hq => (hfr q hq).2⟩
    · rw [List.pairwise_append]
      refine ⟨h3, List.pairwise_singleton _ _, fun a' ha' b' hb' q hq hq2 => ?_⟩
      simp only [List.mem_singleton] at hb'
      subst hb'
      have := (h2 a' ha').2 q hq
      have := (hfr q hq2).1
      omega
end Go.Proofs.Yticlpjljcedfmaa
