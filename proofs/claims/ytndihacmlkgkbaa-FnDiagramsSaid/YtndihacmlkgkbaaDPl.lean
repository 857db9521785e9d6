/- Diagrams as plain lists: nodes without doubles, the canonical form with and without a search for doubles. No program in sight. -/
import Derived.Test.YtndihacmlkgkbaaDNode
namespace Go.Proofs.Ytndihacmlkgkbaa
open Go.RowKit

instance : DecidableEq Nd := fun a b => decidable_of_iff (a.i = b.i ∧ a.lo = b.lo ∧ a.hi = b.hi) (by
  cases a; cases b; simp)
theorem nodup_at {α : Type} {l : List α} (h : l.Nodup) {i j : Nat} {x : α} (hi : l[i]? = some x) (hj : l[j]? = some x) : i = j := by
  obtain ⟨h1, e1⟩ := List.getElem?_eq_some_iff.1 hi
  obtain ⟨h2, e2⟩ := List.getElem?_eq_some_iff.1 hj
  have hp := List.pairwise_iff_getElem.1 h
  rcases Nat.lt_trichotomy i j with h3 | h3 | h3
  · exact absurd (e1.trans e2.symm) (hp i j h1 h2 h3)
  · exact h3
  · exact absurd (e2.trans e1.symm) (hp j i h2 h1 h3)
def nd0 : Nd := ⟨0, 0, 0⟩
def idxN (out : List Nd) (x : Nd) : Option Nat := out.findIdx? fun y => decide (y = x)
theorem idxN_some {out : List Nd} {x : Nd} {k : Nat} (h : idxN out x = some k) : out[k]? = some x := by
  unfold idxN at h
  rw [List.findIdx?_eq_some_iff_getElem] at h
  obtain ⟨h1, h2, _⟩ := h
  rw [List.getElem?_eq_getElem h1]
  simpa using h2
theorem idxN_none {out : List Nd} {x : Nd} (h : idxN out x = none) : x ∉ out := by
  unfold idxN at h
  rw [List.findIdx?_eq_none_iff] at h
  intro hm
  have := h x hm
  simp at this
theorem idxN_not {out : List Nd} {x : Nd} (h : x ∉ out) : idxN out x = none := by
  unfold idxN
  rw [List.findIdx?_eq_none_iff]
  intro y hy
  simp only [decide_eq_false_iff_not]
  intro e
  exact h (e ▸ hy)
theorem idxN_at {out : List Nd} {x : Nd} {k : Nat} (hn : out.Nodup) (h : out[k]? = some x) : idxN out x = some k := by
  obtain ⟨hk, e⟩ := List.getElem?_eq_some_iff.1 h
  unfold idxN
  rw [List.findIdx?_eq_some_iff_getElem]
  refine ⟨hk, by simp [e], fun j hj => ?_⟩
  simp only [decide_eq_true_eq]
  intro e2
  have := nodup_at hn (show out[j]? = some x by rw [List.getElem?_eq_getElem (by omega), e2]) h
  omega
def mkN (out : List Nd) (x : Nd) : List Nd × Int :=
  if x.lo = x.hi then (out, x.lo) else match idxN out x with
    | some k => (out, (k : Int) + 2)
    | none => (out ++ [x], (out.length : Int) + 2)
theorem mkN_nodup {out : List Nd} {x : Nd} (h : out.Nodup) : (mkN out x).1.Nodup := by
  unfold mkN
  split
  · exact h
  · split
    · exact h
    · rename_i hn
      rw [List.nodup_append]
      refine ⟨h, by simp, fun a ha b hb e => ?_⟩
      rw [List.mem_singleton] at hb
      subst hb
      subst e
      exact idxN_none hn ha
theorem mkN_len (out : List Nd) (x : Nd) : out.length ≤ (mkN out x).1.length ∧ (mkN out x).1.length ≤ out.length + 1 := by
  unfold mkN
  split
  · exact ⟨Nat.le_refl _, by simp⟩
  · split
    · exact ⟨Nat.le_refl _, by simp⟩
    · simp
abbrev Cs := List Int × List Nd
def wlk (nodes : List Nd) : Nat → Cs → Nat → Cs × Int
  | 0, st, r => (st, r)
  | f + 1, st, r =>
    if r < 2 then (st, r) else if 0 < st.1.getD r 0 then (st, st.1.getD r 0) else
      let x := nodes.getD (r - 2) nd0
      let a := wlk nodes f st x.lo.toNat
      let b := wlk nodes f a.1 x.hi.toNat
      let c := mkN b.1.2 ⟨x.i, a.2, b.2⟩
      ((b.1.1.set r c.2, c.1), c.2)
def wlkI (nodes : List Nd) : Nat → Cs → Nat → Cs × Int
  | 0, st, r => (st, r)
  | f + 1, st, r =>
    if r < 2 then (st, r) else if 0 < st.1.getD r 0 then (st, st.1.getD r 0) else
      let x := nodes.getD (r - 2) nd0
      let a := wlkI nodes f st x.lo.toNat
      let b := wlkI nodes f a.1 x.hi.toNat
      ((b.1.1.set r ((b.1.2.length : Int) + 2), b.1.2 ++ [⟨x.i, a.2, b.2⟩]), (b.1.2.length : Int) + 2)
theorem wlk_nodup (nodes : List Nd) : ∀ (f : Nat) (st : Cs) (r : Nat), st.2.Nodup → (wlk nodes f st r).1.2.Nodup
  | 0, _, _, h => h
  | f + 1, st, r, h => by
    unfold wlk
    split
    · exact h
    · split
      · exact h
      · exact mkN_nodup (wlk_nodup nodes f _ _ (wlk_nodup nodes f st _ h))
theorem wlk_names (nodes : List Nd) : ∀ (f : Nat) (st : Cs) (r : Nat), (wlk nodes f st r).1.1.length = st.1.length
  | 0, _, _ => rfl
  | f + 1, st, r => by
    unfold wlk
    split
    · rfl
    · split
      · rfl
      · simp only [List.length_set]
        rw [wlk_names nodes f, wlk_names nodes f]
theorem wlkI_names (nodes : List Nd) : ∀ (f : Nat) (st : Cs) (r : Nat), (wlkI nodes f st r).1.1.length = st.1.length
  | 0, _, _ => rfl
  | f + 1, st, r => by
    unfold wlkI
    split
    · rfl
    · split
      · rfl
      · simp only [List.length_set]
        rw [wlkI_names nodes f, wlkI_names nodes f]
/-- The nodes' references lead to earlier ones, and to different ones. -/
def Good (nodes : List Nd) : Prop := ∀ (k : Nat) (x : Nd), nodes[k]? = some x → 0 ≤ x.lo ∧ x.lo < (k : Int) + 2 ∧ 0 ≤ x.hi ∧ x.hi < (k : Int) + 2 ∧ x.lo ≠ x.hi
def pl (names : List Int) (r : Nat) : Int := if r < 2 then r else names.getD r 0
def vs (names : List Int) (r : Nat) : Prop := r < 2 ∨ names.getD r 0 ≠ 0
structure CInv (nodes : List Nd) (st : Cs) : Prop where
  len : st.1.length = nodes.length + 2
  bd : ∀ r, 2 ≤ r → st.1.getD r 0 = 0 ∨ (2 ≤ st.1.getD r 0 ∧ st.1.getD r 0 < (st.2.length : Int) + 2)
  vis : ∀ (k : Nat) (x : Nd), nodes[k]? = some x → st.1.getD (k + 2) 0 ≠ 0 → vs st.1 x.lo.toNat ∧ vs st.1 x.hi.toNat
  own : ∀ (j : Nat) (y : Nd), st.2[j]? = some y → ∃ (k : Nat) (x : Nd), nodes[k]? = some x ∧ st.1.getD (k + 2) 0 = (j : Int) + 2 ∧ y = ⟨x.i, pl st.1 x.lo.toNat, pl st.1 x.hi.toNat⟩
  inj : ∀ r r', 2 ≤ r → 2 ≤ r' → st.1.getD r 0 ≠ 0 → st.1.getD r 0 = st.1.getD r' 0 → r = r'
theorem CInv.pinj {nodes : List Nd} {st : Cs} (h : CInv nodes st) {a b : Nat} (ha : vs st.1 a) (hb : vs st.1 b) (e : pl st.1 a = pl st.1 b) : a = b := by
  unfold pl at e
  split at e
  · split at e
    · omega
    · rename_i h1 h2
      rcases h.bd b (by omega) with h3 | h3
      · rcases hb with hb | hb
        · omega
        · exact absurd h3 hb
      · omega
  · rename_i h1
    rcases ha with ha | ha
    · omega
    · split at e
      · rcases h.bd a (by omega) with h3 | h3
        · exact absurd h3 ha
        · omega
      · exact h.inj a b (by omega) (by omega) ha e
theorem getD_set_eq {l : List Int} {r : Nat} {v : Int} (h : r < l.length) : (l.set r v).getD r 0 = v := by simp [List.getD_eq_getElem?_getD, h]
theorem getD_set_ne2 {l : List Int} {r q : Nat} {v : Int} (h : r ≠ q) : (l.set r v).getD q 0 = l.getD q 0 := by simp [List.getD_eq_getElem?_getD, List.getElem?_set_ne h]
/-- What visiting a reference does. -/
structure Went (nodes : List Nd) (st : Cs) (r : Nat) (res : Cs × Int) : Prop where
  inv : CInv nodes res.1
  vis : vs res.1.1 r
  val : res.2 = pl res.1.1 r
  hi : ∀ q, r < q → res.1.1.getD q 0 = st.1.getD q 0
  keep : ∀ q, st.1.getD q 0 ≠ 0 → res.1.1.getD q 0 = st.1.getD q 0
theorem vs_keep {n1 n2 : List Int} {r : Nat} (h : ∀ q, n1.getD q 0 ≠ 0 → n2.getD q 0 = n1.getD q 0) (hv : vs n1 r) : vs n2 r := by
  rcases hv with hv | hv
  · exact .inl hv
  · exact .inr (by rw [h r hv]; exact hv)
theorem pl_keep {n1 n2 : List Int} {r : Nat} (h : ∀ q, n1.getD q 0 ≠ 0 → n2.getD q 0 = n1.getD q 0) (hv : vs n1 r) : pl n2 r = pl n1 r := by
  unfold pl
  split
  · rfl
  · rcases hv with hv | hv
    · omega
    · exact h r hv
theorem wlk_same {nodes : List Nd} (hg : Good nodes) (hn : nodes.Nodup) : ∀ (f : Nat) (st : Cs) (r : Nat), r < f → r < nodes.length + 2 → CInv nodes st → wlkI nodes f st r = wlk nodes f st r ∧ Went nodes st r (wlk nodes f st r)
  | 0, _, _, h, _, _ => by omega
  | f + 1, st, r, hf, hr, hI => by
    unfold wlkI wlk
    by_cases h2 : r < 2
    · rw [if_pos h2, if_pos h2]
      exact ⟨rfl, hI, .inl h2, by unfold pl; rw [if_pos h2], fun _ _ => rfl, fun _ _ => rfl⟩
    · rw [if_neg h2, if_neg h2]
      by_cases h3 : 0 < st.1.getD r 0
      · rw [if_pos h3, if_pos h3]
        exact ⟨rfl, hI, .inr (by show st.1.getD r 0 ≠ 0; omega), by unfold pl; rw [if_neg h2], fun _ _ => rfl, fun _ _ => rfl⟩
      · rw [if_neg h3, if_neg h3]
        have hr0 : st.1.getD r 0 = 0 := by
          rcases hI.bd r (by omega) with h | h
          · exact h
          · omega
        obtain ⟨x, hx⟩ : ∃ x, nodes[r - 2]? = some x := ⟨_, List.getElem?_eq_getElem (by omega)⟩
        have hxg : nodes.getD (r - 2) nd0 = x := by rw [List.getD_eq_getElem?_getD, hx]; rfl
        obtain ⟨g1, g2, g3, g4, g5⟩ := hg _ x hx
        rw [hxg]
        obtain ⟨ea, wa⟩ := wlk_same hg hn f st x.lo.toNat (by omega) (by omega) hI
        obtain ⟨eb, wb⟩ := wlk_same hg hn f (wlk nodes f st x.lo.toNat).1 x.hi.toNat (by omega) (by omega) wa.inv
        simp only
        rw [ea, eb]
        generalize wlk nodes f st x.lo.toNat = A at *
        generalize wlk nodes f A.1 x.hi.toNat = Bq at *
        have hvl : vs Bq.1.1 x.lo.toNat := vs_keep wb.keep wa.vis
        have hva : A.2 = pl Bq.1.1 x.lo.toNat := wa.val.trans (pl_keep wb.keep wa.vis).symm
        have hvb := wb.val
        have hne : A.2 ≠ Bq.2 := by
          rw [hva, hvb]
          intro e
          have := wb.inv.pinj hvl wb.vis e
          omega
        have hz : Bq.1.1.getD r 0 = 0 := by rw [wb.hi r (by omega), wa.hi r (by omega)]; exact hr0
        have hnot : (⟨x.i, A.2, Bq.2⟩ : Nd) ∉ Bq.1.2 := by
          intro hm
          obtain ⟨j, hj, e⟩ := List.getElem_of_mem hm
          obtain ⟨k, y, hy, hk, e2⟩ := wb.inv.own j _ (List.getElem?_eq_getElem hj)
          rw [e] at e2
          simp only [Nd.mk.injEq] at e2
          obtain ⟨e3, e4, e5⟩ := e2
          have hvy := wb.inv.vis k y hy (by rw [hk]; omega)
          obtain ⟨y1, _, y3, _, _⟩ := hg k y hy
          have q1 := wb.inv.pinj hvl hvy.1 (hva.symm.trans e4)
          have q2 := wb.inv.pinj wb.vis hvy.2 (hvb.symm.trans e5)
          have exy : x = y := by
            cases x; cases y
            simp only [Nd.mk.injEq] at *
            exact ⟨e3, by omega, by omega⟩
          subst exy
          have hkr : k = r - 2 := nodup_at hn hy hx
          subst hkr
          rw [show r - 2 + 2 = r by omega, hz] at hk
          omega
        have hmk : mkN Bq.1.2 ⟨x.i, A.2, Bq.2⟩ = (Bq.1.2 ++ [⟨x.i, A.2, Bq.2⟩], (Bq.1.2.length : Int) + 2) := by
          unfold mkN
          rw [if_neg hne, idxN_not hnot]
        rw [hmk]
        refine ⟨rfl, ?_⟩
        have hlen := wb.inv.len
        have hself : (Bq.1.1.set r ((Bq.1.2.length : Int) + 2)).getD r 0 = (Bq.1.2.length : Int) + 2 := getD_set_eq (by omega)
        have hoth : ∀ q, q ≠ r → (Bq.1.1.set r ((Bq.1.2.length : Int) + 2)).getD q 0 = Bq.1.1.getD q 0 := fun q hq => getD_set_ne2 (fun e => hq e.symm)
        have hkeep : ∀ q, Bq.1.1.getD q 0 ≠ 0 → (Bq.1.1.set r ((Bq.1.2.length : Int) + 2)).getD q 0 = Bq.1.1.getD q 0 := fun q hq => hoth q (fun e => hq (by rw [e]; exact hz))
        refine ⟨⟨by rw [List.length_set]; exact hlen, fun q hq => ?_, fun k y hy hk => ?_, fun j y hy => ?_, fun q q' h4 h5 h6 h7 => ?_⟩, .inr (by rw [hself]; omega), by unfold pl; rw [if_neg h2, hself], fun q hq => ?_, fun q hq => ?_⟩
        · by_cases e : q = r
          · subst e
            rw [hself]
            right
            simp only [List.length_append, List.length_singleton]
            omega
          · rw [hoth q e]
            simp only [List.length_append, List.length_singleton]
            rcases wb.inv.bd q hq with h | h
            · exact .inl h
            · exact .inr (by omega)
        · by_cases e : k + 2 = r
          · have hkr : k = r - 2 := by omega
            subst hkr
            rw [hx] at hy
            cases hy
            exact ⟨vs_keep hkeep hvl, vs_keep hkeep wb.vis⟩
          · rw [hoth _ e] at hk
            have := wb.inv.vis k y hy hk
            exact ⟨vs_keep hkeep this.1, vs_keep hkeep this.2⟩
        · rcases Nat.lt_or_ge j Bq.1.2.length with h4 | h4
          · rw [List.getElem?_append_left h4] at hy
            obtain ⟨k, z, hz2, hk, e2⟩ := wb.inv.own j y hy
            have hnz : Bq.1.1.getD (k + 2) 0 ≠ 0 := by rw [hk]; omega
            have hv2 := wb.inv.vis k z hz2 hnz
            exact ⟨k, z, hz2, by rw [hkeep _ hnz]; exact hk, by rw [e2, pl_keep hkeep hv2.1, pl_keep hkeep hv2.2]⟩
          · rw [List.getElem?_append_right h4] at hy
            have hj : j = Bq.1.2.length := by
              have := (List.getElem?_eq_some_iff.1 hy).1
              simp at this
              omega
            subst hj
            simp at hy
            refine ⟨r - 2, x, hx, by rw [show r - 2 + 2 = r by omega]; exact hself, ?_⟩
            rw [← hy, pl_keep hkeep hvl, pl_keep hkeep wb.vis, ← hva, ← hvb]
        · by_cases e : q = r
          · by_cases e' : q' = r
            · omega
            · subst e
              rw [hself, hoth q' e'] at h7
              rcases wb.inv.bd q' h5 with h | h <;> omega
          · by_cases e' : q' = r
            · subst e'
              rw [hself, hoth q e] at h7
              rcases wb.inv.bd q h4 with h | h <;> omega
            · rw [hoth q e] at h6 h7
              rw [hoth q' e'] at h7
              exact wb.inv.inj q q' h4 h5 h6 h7
        · rw [hoth q (by omega), wb.hi q (by omega), wa.hi q (by omega)]
        · have h8 : Bq.1.1.getD q 0 = st.1.getD q 0 := by
            have h9 := wa.keep q hq
            rw [wb.keep q (by rw [h9]; exact hq), h9]
          rw [hkeep q (by rw [h8]; exact hq), h8]
end Go.Proofs.Ytndihacmlkgkbaa
