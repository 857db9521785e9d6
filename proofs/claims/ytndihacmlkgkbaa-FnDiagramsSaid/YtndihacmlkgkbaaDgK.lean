/- How many lists of bits have the value 1: plain. Condition: the nodes are valid. -/
import Derived.Test.YtndihacmlkgkbaaDgJ
namespace Go.Proofs.Ytndihacmlkgkbaa
open Go.RowKit

def sh (a s : Int) : Int := a * 2 ^ s.toNat
def onesAt (X : Int) (l : List Nd) (c : List Int) (x : Nd) : Int := sh (c.getD x.lo.toNat 0) (lvl X l x.lo.toNat - x.i - 1) + sh (c.getD x.hi.toNat 0) (lvl X l x.hi.toNat - x.i - 1)
def onesL (X : Int) (l : List Nd) : Nat → List Int
  | 0 => [0, 1]
  | k + 1 => onesL X l k ++ [onesAt X l (onesL X l k) (l.getD k nd0)]
def onesV (X : Int) (l : List Nd) (R : Int) : Int := if isD X l R then sh ((onesL X l l.length).getD R.toNat 0) (lvl X l R.toNat) else 0
def errD (X : Int) (l : List Nd) (R : Int) : Int := if isD X l R then 0 else 1
theorem onesL_len (X : Int) (l : List Nd) : ∀ k, (onesL X l k).length = k + 2
  | 0 => rfl
  | k + 1 => by unfold onesL; rw [List.length_append, onesL_len X l k, List.length_singleton]
theorem pow_mono {a b : Nat} (h : a ≤ b) : (2 : Int) ^ a ≤ 2 ^ b := by
  obtain ⟨d, rfl⟩ := Nat.exists_eq_add_of_le h
  rw [Int.pow_add]
  have h1 : (0 : Int) < 2 ^ a := Int.pow_pos (by decide)
  have h2 : (0 : Int) < 2 ^ d := Int.pow_pos (by decide)
  have := Int.mul_le_mul_of_nonneg_left (show (1 : Int) ≤ 2 ^ d by omega) (Int.le_of_lt h1)
  omega
theorem sh_bd {a s : Int} {p : Nat} (h0 : 0 ≤ a) (h1 : a ≤ 2 ^ p) : 0 ≤ sh a s ∧ sh a s ≤ 2 ^ (p + s.toNat) := by
  have h2 : (0 : Int) < 2 ^ s.toNat := Int.pow_pos (by decide)
  unfold sh
  rw [Int.pow_add]
  exact ⟨Int.mul_nonneg h0 (Int.le_of_lt h2), Int.mul_le_mul_of_nonneg_right h1 (Int.le_of_lt h2)⟩
structure VN (X : Int) (l : List Nd) : Prop where
  x0 : 0 ≤ X
  x1 : X ≤ 20
  n : l.length ≤ 2000
  good : Good l
  lv : ∀ (k : Nat) (x : Nd), l[k]? = some x → 0 ≤ x.i ∧ x.i ≤ X - 1 ∧ x.i < lvl X l x.lo.toNat ∧ x.i < lvl X l x.hi.toNat
theorem VN.lvl {X : Int} {l : List Nd} (h : VN X l) {r : Nat} (hr : r < l.length + 2) : 0 ≤ lvl X l r ∧ lvl X l r ≤ X := by
  unfold Proofs.Ytndihacmlkgkbaa.lvl
  split
  · exact ⟨h.x0, Int.le_refl _⟩
  · obtain ⟨x, hx⟩ : ∃ x, l[r - 2]? = some x := ⟨_, List.getElem?_eq_getElem (by omega)⟩
    rw [getD_nd hx]
    have := h.lv _ _ hx
    omega
theorem isD_VN {X R : Int} {l : List Nd} (h : isD X l R = true) : VN X l ∧ 0 ≤ R ∧ R < (l.length : Int) + 2 ∧ l.Nodup ∧ canS l R.toNat = (l, R) := by
  unfold isD at h
  simp only [Bool.and_eq_true] at h
  obtain ⟨⟨h1, h2⟩, h3⟩ := h
  unfold headB at h1
  simp only [Bool.and_eq_true, decide_eq_true_eq] at h1
  obtain ⟨⟨h4, h5⟩, h6⟩ := h1
  have e4 := inB_bd h4
  have e6 := inB_bd h6
  have e3 := of_decide_eq_true h3
  refine ⟨⟨e4.1, e4.2, h5, nodesB_good h2, fun k x hx => ?_⟩, by omega, by omega, ?_, ?_⟩
  · have := nodesB_at h2 hx
    simp only [okN, Bool.and_eq_true, inB, decide_eq_true_eq, Bool.not_eq_true', decide_eq_false_iff_not] at this
    omega
  · rw [e3.2.2]; exact canS_nodup _ _
  · exact Prod.ext e3.2.2.symm e3.2.1.symm
theorem onesL_bd {X : Int} {l : List Nd} (h : VN X l) : ∀ k, k ≤ l.length → ∀ r, r < k + 2 → 0 ≤ (onesL X l k).getD r 0 ∧ (onesL X l k).getD r 0 ≤ 2 ^ (X - lvl X l r).toNat
  | 0, _, r, hr => by
    have h1 : lvl X l r = X := by unfold Proofs.Ytndihacmlkgkbaa.lvl; rw [if_pos (by omega)]
    rw [h1]
    have h2 : (X - X).toNat = 0 := by omega
    rw [h2]
    match r, hr with
    | 0, _ => exact ⟨by simp [onesL], by simp [onesL]⟩
    | 1, _ => exact ⟨by simp [onesL], by simp [onesL]⟩
  | k + 1, hk, r, hr => by
    unfold onesL
    have hlen := onesL_len X l k
    by_cases e : r < k + 2
    · rw [List.getD_eq_getElem?_getD, List.getElem?_append_left (by omega), ← List.getD_eq_getElem?_getD]
      exact onesL_bd h k (by omega) r e
    · obtain rfl : r = k + 2 := by omega
      rw [List.getD_eq_getElem?_getD, List.getElem?_append_right (by omega), hlen, Nat.sub_self, List.getElem?_cons_zero, Option.getD_some]
      obtain ⟨x, hx⟩ : ∃ x, l[k]? = some x := ⟨_, List.getElem?_eq_getElem (by omega)⟩
      have hv := h.lv k x hx
      obtain ⟨g1, g2, g3, g4, _⟩ := h.good k x hx
      have l1 := h.lvl (r := x.lo.toNat) (by omega)
      have l2 := h.lvl (r := x.hi.toNat) (by omega)
      have hl : lvl X l (k + 2) = x.i := by unfold Proofs.Ytndihacmlkgkbaa.lvl; rw [if_neg (by omega), Nat.add_sub_cancel, getD_nd hx]
      rw [hl, getD_nd hx]
      show 0 ≤ onesAt X l (onesL X l k) x ∧ onesAt X l (onesL X l k) x ≤ _
      have b1 := onesL_bd h k (by omega) x.lo.toNat (by omega)
      have b2 := onesL_bd h k (by omega) x.hi.toNat (by omega)
      have s1 := sh_bd (s := lvl X l x.lo.toNat - x.i - 1) b1.1 b1.2
      have s2 := sh_bd (s := lvl X l x.hi.toNat - x.i - 1) b2.1 b2.2
      rw [show (X - lvl X l x.lo.toNat).toNat + (lvl X l x.lo.toNat - x.i - 1).toNat = (X - x.i - 1).toNat by omega] at s1
      rw [show (X - lvl X l x.hi.toNat).toNat + (lvl X l x.hi.toNat - x.i - 1).toNat = (X - x.i - 1).toNat by omega] at s2
      have hp : (2 : Int) ^ (X - x.i).toNat = 2 ^ (X - x.i - 1).toNat * 2 := by
        rw [show (X - x.i).toNat = (X - x.i - 1).toNat + 1 by omega, Int.pow_succ]
      rw [hp]
      unfold onesAt
      omega
/-- A count that is shifted is small. -/
theorem ones_sh {X : Int} {l : List Nd} (h : VN X l) {k r : Nat} (hk : k ≤ l.length) (hr : r < k + 2) {s : Int} (h1 : s ≤ lvl X l r) : 0 ≤ sh ((onesL X l k).getD r 0) s ∧ sh ((onesL X l k).getD r 0) s ≤ 1048576 := by
  have b := onesL_bd h k hk r hr
  have hl := h.lvl (r := r) (by omega)
  have hs := sh_bd (s := s) b.1 b.2
  have hx := h.x1
  have := pow_mono (a := (X - lvl X l r).toNat + s.toNat) (b := 20) (by omega)
  exact ⟨hs.1, Int.le_trans hs.2 this⟩
end Go.Proofs.Ytndihacmlkgkbaa
