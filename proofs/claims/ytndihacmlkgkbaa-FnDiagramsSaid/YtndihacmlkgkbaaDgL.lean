/- What ValueOf, FirstOne, NotDiagram and FixInput compute: plain. Condition: the nodes lead to earlier ones. -/
import Derived.Test.YtndihacmlkgkbaaDgK
namespace Go.Proofs.Ytndihacmlkgkbaa
open Go.RowKit

theorem Good.at {l : List Nd} (h : Good l) {k : Nat} {x : Nd} (hx : l[k]? = some x) : x.lo.toNat < k + 2 ∧ x.hi.toNat < k + 2 ∧ ((x.lo.toNat : Nat) : Int) = x.lo ∧ ((x.hi.toNat : Nat) : Int) = x.hi ∧ k < l.length := by
  have := h k x hx
  have hk := (List.getElem?_eq_some_iff.1 hx).1
  omega
theorem nd_at {l : List Nd} {r : Nat} (h2 : ¬ r < 2) (hr : r < l.length + 2) : ∃ (k : Nat) (x : Nd), r = k + 2 ∧ l[k]? = some x :=
  ⟨r - 2, l[r - 2]'(by omega), by omega, List.getElem?_eq_getElem (by omega)⟩
def kid (bs : List Int) (x : Nd) : Nat := if bs.getD x.i.toNat 0 = 0 then x.lo.toNat else x.hi.toNat
def valF (l : List Nd) (bs : List Int) : Nat → Nat → Nat
  | 0, r => r
  | f + 1, r => if r < 2 then r else valF l bs f (kid bs (l.getD (r - 2) nd0))
def valR (l : List Nd) (bs : List Int) (r : Nat) : Nat := valF l bs r r
theorem kid_lt {l : List Nd} (hg : Good l) {bs : List Int} {k : Nat} {x : Nd} (hx : l[k]? = some x) : kid bs x < k + 2 := by
  have := hg.at hx
  unfold kid
  split <;> omega
theorem valF_big {l : List Nd} (hg : Good l) {bs : List Int} : ∀ (n r : Nat), r ≤ n → r < l.length + 2 → ∀ f, r ≤ f → valF l bs f r = valF l bs r r
  | n, r, hn, hr, f, hf => by
    by_cases h2 : r < 2
    · cases f with
      | zero =>
        obtain rfl : r = 0 := by omega
        rfl
      | succ f =>
        unfold valF
        rw [if_pos h2]
        split
        · rfl
        · rw [if_pos h2]
    · obtain ⟨k, x, rfl, hx⟩ := nd_at h2 hr
      have hk := kid_lt hg (bs := bs) hx
      match n, f, hn, hf with
      | n + 1, f + 1, hn, hf =>
        unfold valF
        rw [if_neg h2, if_neg h2, Nat.add_sub_cancel, getD_nd hx, valF_big hg n _ (by omega) (by omega) f (by omega), valF_big hg n _ (by omega) (by omega) (k + 1) (by omega)]
theorem val_lo {l : List Nd} {bs : List Int} {r : Nat} (h : r < 2) : valR l bs r = r := by
  unfold valR valF
  split
  · rfl
  · rw [if_pos h]
theorem val_step {l : List Nd} (hg : Good l) {bs : List Int} {k : Nat} {x : Nd} (hx : l[k]? = some x) : valR l bs (k + 2) = valR l bs (kid bs x) := by
  have hk := kid_lt hg (bs := bs) hx
  have := hg.at hx
  unfold valR
  rw [show valF l bs (k + 2) (k + 2) = valF l bs (k + 1) (kid bs x) by
    conv => lhs; unfold valF
    rw [if_neg (by omega), Nat.add_sub_cancel, getD_nd hx]]
  exact valF_big hg _ _ (Nat.le_refl _) (by omega) _ (by omega)
def fstF (l : List Nd) : Nat → List Int → Nat → List Int
  | 0, bs, _ => bs
  | f + 1, bs, r => if r < 2 then bs else
    let x := l.getD (r - 2) nd0
    if x.lo = 0 then fstF l f (bs.set x.i.toNat 1) x.hi.toNat else fstF l f bs x.lo.toNat
def fstR (l : List Nd) (bs : List Int) (r : Nat) : List Int := fstF l r bs r
theorem fstF_len (l : List Nd) : ∀ (f : Nat) (bs : List Int) (r : Nat), (fstF l f bs r).length = bs.length
  | 0, _, _ => rfl
  | f + 1, bs, r => by
    unfold fstF
    split
    · rfl
    · dsimp only
      split
      · rw [fstF_len l f, List.length_set]
      · rw [fstF_len l f]
theorem fstF_big {l : List Nd} (hg : Good l) : ∀ (n r : Nat), r ≤ n → r < l.length + 2 → ∀ (bs : List Int) f, r ≤ f → fstF l f bs r = fstF l r bs r
  | n, r, hn, hr, bs, f, hf => by
    by_cases h2 : r < 2
    · cases f with
      | zero =>
        obtain rfl : r = 0 := by omega
        rfl
      | succ f =>
        unfold fstF
        rw [if_pos h2]
        split
        · rfl
        · rw [if_pos h2]
    · obtain ⟨k, x, rfl, hx⟩ := nd_at h2 hr
      have hk := hg.at hx
      match n, f, hn, hf with
      | n + 1, f + 1, hn, hf =>
        unfold fstF
        rw [if_neg h2, if_neg h2, Nat.add_sub_cancel, getD_nd hx]
        dsimp only
        rw [fstF_big hg n _ (by omega) (by omega) _ f (by omega), fstF_big hg n _ (by omega) (by omega) _ (k + 1) (by omega), fstF_big hg n _ (by omega) (by omega) _ f (by omega), fstF_big hg n x.lo.toNat (by omega) (by omega) _ (k + 1) (by omega)]
theorem fst_lo {l : List Nd} {bs : List Int} {r : Nat} (h : r < 2) : fstR l bs r = bs := by
  unfold fstR fstF
  split
  · rfl
  · rw [if_pos h]
theorem fst_step {l : List Nd} (hg : Good l) {bs : List Int} {k : Nat} {x : Nd} (hx : l[k]? = some x) : fstR l bs (k + 2) = if x.lo = 0 then fstR l (bs.set x.i.toNat 1) x.hi.toNat else fstR l bs x.lo.toNat := by
  have := hg.at hx
  unfold fstR
  rw [show fstF l (k + 2) bs (k + 2) = if x.lo = 0 then fstF l (k + 1) (bs.set x.i.toNat 1) x.hi.toNat else fstF l (k + 1) bs x.lo.toNat by
    conv => lhs; unfold fstF
    rw [if_neg (by omega), Nat.add_sub_cancel, getD_nd hx]]
  split
  · exact fstF_big hg _ _ (Nat.le_refl _) (by omega) _ _ (by omega)
  · exact fstF_big hg _ _ (Nat.le_refl _) (by omega) _ _ (by omega)
def firstL (X : Int) (l : List Nd) (R : Int) : List Int := if isD X l R = true ∧ R ≠ 0 then fstR l (List.replicate X.toNat 0) R.toNat else []
def firstC (X : Int) (l : List Nd) (R : Int) : Int := if isD X l R then (if R = 0 then 4 else 0) else 1
def flipI (r : Int) : Int := if r < 2 then 1 - r else r
def flipN (x : Nd) : Nd := ⟨x.i, flipI x.lo, flipI x.hi⟩
theorem mkN_good {out : List Nd} {i a b : Int} (hg : Good out) (ha0 : 0 ≤ a) (ha : a < (out.length : Int) + 2) (hb0 : 0 ≤ b) (hb : b < (out.length : Int) + 2) :
    Good (mkN out ⟨i, a, b⟩).1 ∧ 0 ≤ (mkN out ⟨i, a, b⟩).2 ∧ (mkN out ⟨i, a, b⟩).2 < ((mkN out ⟨i, a, b⟩).1.length : Int) + 2 := by
  unfold mkN
  split
  · exact ⟨hg, ha0, ha⟩
  · rename_i hab
    split
    · rename_i k hk
      have := (List.getElem?_eq_some_iff.1 (idxN_some hk)).1
      exact ⟨hg, by show (0 : Int) ≤ k + 2; omega, by show (k : Int) + 2 < (out.length : Int) + 2; omega⟩
    · refine ⟨fun k x hx => ?_, by show (0 : Int) ≤ out.length + 2; omega, by show (out.length : Int) + 2 < ((out ++ [_]).length : Int) + 2; rw [List.length_append, List.length_singleton]; omega⟩
      by_cases hk : k < out.length
      · rw [List.getElem?_append_left hk] at hx
        exact hg k x hx
      · have hl := (List.getElem?_eq_some_iff.1 hx).1
        rw [List.length_append, List.length_singleton] at hl
        obtain rfl : k = out.length := by omega
        rw [List.getElem?_append_right (Nat.le_refl _), Nat.sub_self, List.getElem?_cons_zero, Option.some.injEq] at hx
        subst hx
        exact ⟨ha0, ha, hb0, hb, hab⟩
/-- FixInput: the names and the nodes behind k nodes. -/
def fixF (l : List Nd) (inp bit : Int) : Nat → List Int × List Nd
  | 0 => ([0, 1], [])
  | k + 1 =>
    let st := fixF l inp bit k
    let x := l.getD k nd0
    let lo := st.1.getD x.lo.toNat 0
    let hi := st.1.getD x.hi.toNat 0
    if x.i = inp then (st.1 ++ [if bit = 0 then lo else hi], st.2) else
      ((st.1 ++ [(mkN st.2 ⟨x.i, lo, hi⟩).2]), (mkN st.2 ⟨x.i, lo, hi⟩).1)
structure FxInv (k : Nat) (st : List Int × List Nd) : Prop where
  len : st.1.length = k + 2
  out : st.2.length ≤ k
  good : Good st.2
  nodup : st.2.Nodup
  nm : ∀ r, r < k + 2 → 0 ≤ st.1.getD r 0 ∧ st.1.getD r 0 < (st.2.length : Int) + 2
theorem FxInv.snoc {k : Nat} {st : List Int × List Nd} (h : FxInv k st) {z : Int} {out : List Nd} (h1 : st.2.length ≤ out.length) (h2 : out.length ≤ st.2.length + 1) (hg : Good out) (hn : out.Nodup) (hz0 : 0 ≤ z) (hz : z < (out.length : Int) + 2) : FxInv (k + 1) (st.1 ++ [z], out) := by
  refine ⟨by rw [List.length_append, h.len, List.length_singleton], by have := h.out; show out.length ≤ _; omega, hg, hn, fun r hr => ?_⟩
  have hl := h.len
  show 0 ≤ (st.1 ++ [z]).getD r 0 ∧ (st.1 ++ [z]).getD r 0 < (out.length : Int) + 2
  by_cases e : r < k + 2
  · rw [List.getD_eq_getElem?_getD, List.getElem?_append_left (by omega), ← List.getD_eq_getElem?_getD]
    have := h.nm r e
    omega
  · obtain rfl : r = k + 2 := by omega
    rw [List.getD_eq_getElem?_getD, List.getElem?_append_right (by omega), hl, Nat.sub_self, List.getElem?_cons_zero, Option.getD_some]
    exact ⟨hz0, hz⟩
theorem fix_inv {l : List Nd} (hg : Good l) (inp bit : Int) : ∀ k, k ≤ l.length → FxInv k (fixF l inp bit k)
  | 0, _ => ⟨rfl, Nat.le_refl _, fun _ _ h => by simp [fixF] at h, List.nodup_nil, fun r hr => by
      match r, hr with
      | 0, _ => exact ⟨by simp [fixF], by simp [fixF]⟩
      | 1, _ => exact ⟨by simp [fixF], by simp [fixF]⟩⟩
  | k + 1, hk => by
    have ih := fix_inv hg inp bit k (by omega)
    obtain ⟨x, hx⟩ : ∃ x, l[k]? = some x := ⟨_, List.getElem?_eq_getElem (by omega)⟩
    have hat := hg.at hx
    unfold fixF
    rw [getD_nd hx]
    dsimp only
    have b1 := ih.nm x.lo.toNat hat.1
    have b2 := ih.nm x.hi.toNat hat.2.1
    split
    · refine ih.snoc (Nat.le_refl _) (by omega) ih.good ih.nodup ?_ ?_ <;> split <;> omega
    · have h3 := mkN_good (i := x.i) ih.good b1.1 b1.2 b2.1 b2.2
      have h4 := mkN_len (fixF l inp bit k).2 ⟨x.i, (fixF l inp bit k).1.getD x.lo.toNat 0, (fixF l inp bit k).1.getD x.hi.toNat 0⟩
      exact ih.snoc h4.1 h4.2 h3.1 (mkN_nodup ih.nodup) h3.2.1 h3.2.2
/-- The result of FixInput: inputs, nodes, root, code. -/
def fixC (X : Int) (l : List Nd) (R inp bit : Int) : Int := if isD X l R then (if inB inp 0 (X - 1) = true ∧ inB bit 0 1 = true then 0 else 2) else 1
def fixD (l : List Nd) (R inp bit : Int) : List Nd × Int := canS (fixF l inp bit l.length).2 ((fixF l inp bit l.length).1.getD R.toNat 0).toNat
def resX (c X : Int) : Int := if c = 0 then X else 0
def resL (c : Int) (d : List Nd × Int) : List Nd := if c = 0 then d.1 else []
def resR (c : Int) (d : List Nd × Int) : Int := if c = 0 then d.2 else 0
theorem wlk_low (nodes : List Nd) {q : Nat} (hq : q < 2) : ∀ (f : Nat) (st : Cs) (r : Nat), (wlk nodes f st r).1.1.getD q 0 = st.1.getD q 0
  | 0, _, _ => rfl
  | f + 1, st, r => by
    unfold wlk
    split
    · rfl
    · split
      · rfl
      · dsimp only
        rw [getD_set_ne2 (by omega), wlk_low nodes hq f, wlk_low nodes hq f]
theorem cnt_two {l : List Int} (h : 2 ≤ l.length) (h0 : l.getD 0 0 = 0) (h1 : l.getD 1 0 = 0) : cnt l + 2 ≤ l.length := by
  match l, h with
  | a :: b :: t, _ =>
    simp only [List.getD_cons_zero, List.getD_cons_succ] at h0 h1
    subst h0; subst h1
    have h3 := List.countP_le_length (p := fun z : Int => !decide (z = 0)) (l := t)
    simp only [cnt, List.countP_cons, List.length_cons]
    simp
    omega
theorem canS_le {l : List Nd} (hg : Good l) {r : Nat} (hr : r < l.length + 2) : (canS l r).1.length ≤ l.length := by
  have hz : ∀ q, (List.replicate (l.length + 2) (0 : Int)).getD q 0 = 0 := fun q => by simp [List.getD_eq_getElem?_getD, List.getElem?_replicate]; split <;> simp
  have hb := wlk_bd hg (l.length + 2) (List.replicate (l.length + 2) 0, []) r (by omega) hr (by simp) (fun q => by show 0 ≤ (List.replicate (l.length + 2) (0 : Int)).getD q 0; rw [hz]; exact Int.le_refl 0) (by rw [cnt_zero]; exact Nat.le_refl 0)
  have h1 := hb.c
  have h2 := cnt_two (l := (wlk l (l.length + 2) (List.replicate (l.length + 2) 0, []) r).1.1) (by rw [hb.len]; omega) (by rw [wlk_low l (by omega)]; exact hz 0) (by rw [wlk_low l (by omega)]; exact hz 1)
  rw [hb.len] at h2
  show (wlk l (l.length + 2) (List.replicate (l.length + 2) 0, []) r).1.2.length ≤ _
  omega
end Go.Proofs.Ytndihacmlkgkbaa
