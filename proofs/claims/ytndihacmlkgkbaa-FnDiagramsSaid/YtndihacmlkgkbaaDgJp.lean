/- What JoinDiagrams computes: plain. Condition: the nodes are valid. -/
import Derived.Test.YtndihacmlkgkbaaDgXf
import Derived.Test.YtndihacmlkgkbaaDgQ
import Derived.Test.YtndihacmlkgkbaaDgLm
namespace Go.Proofs.Ytndihacmlkgkbaa
open Go.RowKit

/-- A pair of references, and where it leads: as three numbers. -/
abbrev Jp := Nd
def jb (p : Jp) (x y : Nat) : Bool := decide (p.i = x ∧ p.lo = y)
def lk (ps : List Jp) (x y : Nat) : Option Int := (ps.find? fun p => jb p x y).map Nd.hi
def jn (j : Int) (x y : Nat) : Int := if j = 0 then (if x = 1 ∧ y = 1 then 1 else 0) else if j = 1 then (if x = 1 ∨ y = 1 then 1 else 0) else (if x = y then 0 else 1)
abbrev Js := List Jp × List Nd
def jlv (X : Int) (la lb : List Nd) (x y : Nat) : Int := min (lvl X la x) (lvl X lb y)
def jwk (j X : Int) (la lb : List Nd) : Nat → Js → Nat → Nat → Js × Int
  | 0, st, _, _ => (st, 0)
  | f + 1, st, x, y =>
    if x < 2 ∧ y < 2 then (st, jn j x y) else match lk st.1 x y with
      | some r => (st, r)
      | none =>
        let A := jwk j X la lb f st (brn X la x (jlv X la lb x y) 0).toNat (brn X lb y (jlv X la lb x y) 0).toNat
        let B := jwk j X la lb f A.1 (brn X la x (jlv X la lb x y) 1).toNat (brn X lb y (jlv X la lb x y) 1).toNat
        let M := mkN B.1.2 ⟨jlv X la lb x y, A.2, B.2⟩
        ((B.1.1 ++ [⟨x, y, M.2⟩], M.1), M.2)
theorem jn_bd (j : Int) (x y : Nat) : 0 ≤ jn j x y ∧ jn j x y < 2 := by
  unfold jn
  split
  · split <;> omega
  · split
    · split <;> omega
    · split <;> omega
def cn (p : Nat → Bool) : Nat → Nat
  | 0 => 0
  | k + 1 => cn p k + (if p k then 1 else 0)
theorem cn_le (p : Nat → Bool) : ∀ N, cn p N ≤ N
  | 0 => Nat.le_refl _
  | k + 1 => by
    have := cn_le p k
    unfold cn
    split <;> omega
theorem cn_all {p : Nat → Bool} (h : ∀ k, p k = true) : ∀ N, cn p N = N
  | 0 => rfl
  | k + 1 => by unfold cn; rw [cn_all h k, if_pos (h k)]
theorem cn_same {p p' : Nat → Bool} : ∀ N, (∀ k, k < N → p' k = p k) → cn p' N = cn p N
  | 0, _ => rfl
  | k + 1, h => by unfold cn; rw [cn_same k (fun q hq => h q (by omega)), h k (by omega)]
theorem cn_set {p p' : Nat → Bool} {k0 : Nat} (h0 : p k0 = true) (h1 : p' k0 = false) (h : ∀ k, k ≠ k0 → p' k = p k) : ∀ N, k0 < N → cn p' N + 1 = cn p N
  | 0, hk => by omega
  | k + 1, hk => by
    unfold cn
    by_cases e : k = k0
    · subst e
      rw [cn_same k (fun q hq => h q (by omega)), h0, h1]
      simp
    · have := cn_set h0 h1 h k (by omega)
      rw [h k e]
      omega
theorem lk_nil (x y : Nat) : lk [] x y = none := rfl
theorem lk_snoc (ps : List Jp) (x y p q : Nat) (r : Int) : lk (ps ++ [⟨x, y, r⟩]) p q = (lk ps p q).or (if x = p ∧ y = q then some r else none) := by
  unfold lk
  rw [List.find?_append]
  rcases hf : ps.find? fun p' => jb p' p q with _ | u
  · rw [Option.none_or]
    by_cases e : x = p ∧ y = q
    · obtain ⟨rfl, rfl⟩ := e
      have : jb ⟨x, y, r⟩ x y = true := by unfold jb; simp
      simp [this]
    · have : jb ⟨x, y, r⟩ p q = false := by
        unfold jb
        simp only [decide_eq_false_iff_not]
        intro h
        exact e ⟨by omega, by omega⟩
      rw [if_neg e]
      simp [this]
  · simp
theorem lk_mem {ps : List Jp} {x y : Nat} {r : Int} (h : lk ps x y = some r) : ∃ p ∈ ps, p.hi = r := by
  unfold lk at h
  rw [Option.map_eq_some_iff] at h
  obtain ⟨p, hp, rfl⟩ := h
  exact ⟨p, List.mem_of_find?_eq_some hp, rfl⟩
/-- Which pairs of references are free. -/
def fr (ps : List Jp) (m k : Nat) : Bool := (lk ps (k / m) (k % m)).isNone
structure JInv (na nb : Nat) (st : Js) : Prop where
  good : Good st.2
  nodup : st.2.Nodup
  refs : ∀ p ∈ st.1, 0 ≤ p.hi ∧ p.hi < (st.2.length : Int) + 2
  le : st.2.length ≤ st.1.length
  cnt : st.1.length + cn (fr st.1 (nb + 2)) ((nb + 2) * (na + 2)) = (nb + 2) * (na + 2)
theorem jinv0 (na nb : Nat) : JInv na nb ([], []) :=
  ⟨fun _ _ h => by simp at h, List.nodup_nil, fun p h => by simp at h, Nat.le_refl _, by
    rw [cn_all (p := fr [] (nb + 2)) (fun k => rfl)]
    simp⟩
theorem JInv.lt {na nb : Nat} {st : Js} (h : JInv na nb st) : st.2.length ≤ (nb + 2) * (na + 2) ∧ st.1.length ≤ (nb + 2) * (na + 2) := by
  have := h.cnt
  have := h.le
  omega
theorem JInv.push {na nb : Nat} {st : Js} (h : JInv na nb st) {x y : Nat} (hx : x < na + 2) (hy : y < nb + 2) (hl : lk st.1 x y = none) {i a b : Int} (ha0 : 0 ≤ a) (ha : a < (st.2.length : Int) + 2) (hb0 : 0 ≤ b) (hb : b < (st.2.length : Int) + 2) :
    JInv na nb (st.1 ++ [⟨x, y, (mkN st.2 ⟨i, a, b⟩).2⟩], (mkN st.2 ⟨i, a, b⟩).1) ∧ 0 ≤ (mkN st.2 ⟨i, a, b⟩).2 ∧ (mkN st.2 ⟨i, a, b⟩).2 < ((mkN st.2 ⟨i, a, b⟩).1.length : Int) + 2 := by
  have h3 := mkN_good (i := i) h.good ha0 ha hb0 hb
  have h4 := mkN_len st.2 ⟨i, a, b⟩
  refine ⟨⟨h3.1, mkN_nodup h.nodup, fun p hp => ?_, ?_, ?_⟩, h3.2⟩
  · rw [List.mem_append, List.mem_singleton] at hp
    rcases hp with hp | rfl
    · have := h.refs p hp
      dsimp only
      omega
    · exact h3.2
  · have := h.le
    simp only [List.length_append, List.length_singleton]
    omega
  · have hm : 0 < nb + 2 := by omega
    have hd : ((nb + 2) * x + y) / (nb + 2) = x := by rw [Nat.mul_add_div hm, Nat.div_eq_of_lt hy, Nat.add_zero]
    have he : ((nb + 2) * x + y) % (nb + 2) = y := by rw [Nat.mul_add_mod, Nat.mod_eq_of_lt hy]
    have hk : (nb + 2) * x + y < (nb + 2) * (na + 2) := by
      have h5 : (nb + 2) * (x + 1) ≤ (nb + 2) * (na + 2) := Nat.mul_le_mul_left _ (by omega)
      have h6 : (nb + 2) * (x + 1) = (nb + 2) * x + (nb + 2) := Nat.mul_succ _ _
      omega
    have hc := cn_set (p := fr st.1 (nb + 2)) (p' := fr (st.1 ++ [⟨x, y, (mkN st.2 ⟨i, a, b⟩).2⟩]) (nb + 2)) (k0 := (nb + 2) * x + y) (by unfold fr; rw [hd, he, hl]; rfl) (by unfold fr; rw [hd, he, lk_snoc, hl, Option.none_or, if_pos ⟨rfl, rfl⟩]; rfl) (fun k hk2 => by
      unfold fr
      rw [lk_snoc, if_neg, Option.or_none]
      rintro ⟨rfl, rfl⟩
      exact hk2 (Nat.div_add_mod k (nb + 2)).symm) _ hk
    have := h.cnt
    simp only [List.length_append, List.length_singleton]
    omega
theorem brn_bd {X : Int} {l : List Nd} (hg : Good l) {r : Nat} (hr : r < l.length + 2) (i bit : Int) : 0 ≤ brn X l r i bit ∧ brn X l r i bit ≤ r := by
  by_cases h2 : r < 2
  · rw [brn_lo h2]; omega
  · obtain ⟨k, x, rfl, hx⟩ := nd_at h2 hr
    by_cases hl : lvl X l (k + 2) = i
    · have hxi : x.i = i := by rw [← hl]; unfold lvl; rw [if_neg (by omega), Nat.add_sub_cancel, getD_nd hx]
      have := hg k x hx
      rw [brn_at hx hxi]
      split <;> omega
    · rw [brn_ne hl]; omega
theorem brn_dec {X : Int} {l : List Nd} (hg : Good l) {r : Nat} (h2 : ¬ r < 2) (hr : r < l.length + 2) {i : Int} (hl : lvl X l r = i) (bit : Int) : brn X l r i bit < r := by
  obtain ⟨k, x, rfl, hx⟩ := nd_at h2 hr
  have hxi : x.i = i := by rw [← hl]; unfold lvl; rw [if_neg (by omega), Nat.add_sub_cancel, getD_nd hx]
  have := hg k x hx
  rw [brn_at hx hxi]
  split <;> omega
theorem lvl_hi {X : Int} {l : List Nd} (h : VN X l) {r : Nat} (h2 : ¬ r < 2) (hr : r < l.length + 2) : lvl X l r < X := by
  obtain ⟨k, x, rfl, hx⟩ := nd_at h2 hr
  have := h.lv k x hx
  unfold lvl
  rw [if_neg (by omega), Nat.add_sub_cancel, getD_nd hx]
  omega
theorem lvl_lo (X : Int) (l : List Nd) {r : Nat} (h2 : r < 2) : lvl X l r = X := by unfold lvl; rw [if_pos h2]
/-- The pair of a branch is smaller. -/
theorem jdec {X : Int} {la lb : List Nd} (ha : VN X la) (hb : VN X lb) {x y : Nat} (hxy : ¬ (x < 2 ∧ y < 2)) (hx : x < la.length + 2) (hy : y < lb.length + 2) (bit : Int) :
    (brn X la x (jlv X la lb x y) bit).toNat + (brn X lb y (jlv X la lb x y) bit).toNat < x + y ∧ (brn X la x (jlv X la lb x y) bit).toNat < la.length + 2 ∧ (brn X lb y (jlv X la lb x y) bit).toNat < lb.length + 2 := by
  have b1 := brn_bd (X := X) ha.good hx (jlv X la lb x y) bit
  have b2 := brn_bd (X := X) hb.good hy (jlv X la lb x y) bit
  have hm : jlv X la lb x y = lvl X la x ∨ jlv X la lb x y = lvl X lb y := by unfold jlv; omega
  have hl1 : jlv X la lb x y ≤ lvl X la x := by unfold jlv; omega
  have hl2 : jlv X la lb x y ≤ lvl X lb y := by unfold jlv; omega
  refine ⟨?_, by omega, by omega⟩
  rcases hm with hm | hm
  · by_cases h2 : x < 2
    · have h3 : ¬ y < 2 := fun h => hxy ⟨h2, h⟩
      have := lvl_lo X la h2
      have := lvl_hi hb h3 hy
      omega
    · have := brn_dec ha.good h2 hx hm.symm bit
      omega
  · by_cases h2 : y < 2
    · have h3 : ¬ x < 2 := fun h => hxy ⟨h, h2⟩
      have := lvl_lo X lb h2
      have := lvl_hi ha h3 hx
      omega
    · have := brn_dec hb.good h2 hy hm.symm bit
      omega
structure JOut (na nb : Nat) (st : Js) (s : Nat) (R : Js × Int) : Prop where
  inv : JInv na nb R.1
  v0 : 0 ≤ R.2
  v1 : R.2 < (R.1.2.length : Int) + 2
  len : st.2.length ≤ R.1.2.length
  hi : ∀ p q : Nat, s < p + q → lk R.1.1 p q = lk st.1 p q
theorem jwk_out {j X : Int} {la lb : List Nd} (ha : VN X la) (hb : VN X lb) : ∀ (f : Nat) (st : Js) (x y : Nat), x + y < f → x < la.length + 2 → y < lb.length + 2 → JInv la.length lb.length st → JOut la.length lb.length st (x + y) (jwk j X la lb f st x y)
  | 0, _, _, _, h, _, _, _ => by omega
  | f + 1, st, x, y, hf, hx, hy, hI => by
    unfold jwk
    by_cases h2 : x < 2 ∧ y < 2
    · rw [if_pos h2]
      have := jn_bd j x y
      exact ⟨hI, this.1, by show jn j x y < (st.2.length : Int) + 2; omega, Nat.le_refl _, fun _ _ _ => rfl⟩
    · rw [if_neg h2]
      rcases hl : lk st.1 x y with _ | r
      · have d0 := jdec ha hb h2 hx hy 0
        have d1 := jdec ha hb h2 hx hy 1
        dsimp only
        have oa := jwk_out (j := j) ha hb f st _ _ (by omega) d0.2.1 d0.2.2 hI
        have ob := jwk_out (j := j) ha hb f (jwk j X la lb f st (brn X la x (jlv X la lb x y) 0).toNat (brn X lb y (jlv X la lb x y) 0).toNat).1 _ _ (by omega) d1.2.1 d1.2.2 oa.inv
        generalize jwk j X la lb f st (brn X la x (jlv X la lb x y) 0).toNat (brn X lb y (jlv X la lb x y) 0).toNat = Aq at *
        generalize jwk j X la lb f Aq.1 (brn X la x (jlv X la lb x y) 1).toNat (brn X lb y (jlv X la lb x y) 1).toNat = Bq at *
        have hl2 : lk Bq.1.1 x y = none := by rw [ob.hi x y (by omega), oa.hi x y (by omega), hl]
        have a1 := oa.v1
        have a2 := ob.len
        have hp := ob.inv.push hx hy hl2 (i := jlv X la lb x y) (a := Aq.2) (b := Bq.2) oa.v0 (by omega) ob.v0 ob.v1
        have h4 := mkN_len Bq.1.2 ⟨jlv X la lb x y, Aq.2, Bq.2⟩
        refine ⟨hp.1, hp.2.1, hp.2.2, ?_, fun p q hpq => ?_⟩
        · have := oa.len
          dsimp only
          omega
        · dsimp only
          rw [lk_snoc, if_neg (by omega), Option.or_none, ob.hi p q (by omega), oa.hi p q (by omega)]
      · obtain ⟨p, hp, rfl⟩ := lk_mem hl
        exact ⟨hI, (hI.refs p hp).1, (hI.refs p hp).2, Nat.le_refl _, fun _ _ _ => rfl⟩
/-- The result of JoinDiagrams. -/
def joinS (j X : Int) (la lb : List Nd) (ra rb : Nat) : Js × Int := jwk j X la lb (ra + rb + 1) ([], []) ra rb
def joinD (j X : Int) (la lb : List Nd) (ra rb : Nat) : List Nd × Int := canS (joinS j X la lb ra rb).1.2 (joinS j X la lb ra rb).2.toNat
def joinC (j X : Int) (la : List Nd) (ra Y : Int) (lb : List Nd) (rb : Int) : Int :=
  if isD X la ra = true ∧ isD Y lb rb = true then (if inB j 0 2 then (if X = Y then limC (joinD j X la lb ra.toNat rb.toNat) else 5) else 2) else 1
def joinX (j X : Int) (la : List Nd) (ra Y : Int) (lb : List Nd) (rb : Int) : Int := resX (joinC j X la ra Y lb rb) X
def joinL (j X : Int) (la : List Nd) (ra Y : Int) (lb : List Nd) (rb : Int) : List Nd := resL (joinC j X la ra Y lb rb) (joinD j X la lb ra.toNat rb.toNat)
def joinR (j X : Int) (la : List Nd) (ra Y : Int) (lb : List Nd) (rb : Int) : Int := resR (joinC j X la ra Y lb rb) (joinD j X la lb ra.toNat rb.toNat)
end Go.Proofs.Ytndihacmlkgkbaa
