/- Delays, plainly: what a change of an input reaches, and after how many scans; the reference's rounds. No condition but the names' rules. -/
import Derived.Test.YtackekfjalaacaaDoorQSn
namespace Go.Proofs.YtackekfjalaacaaDoor
open Go.RowKit

/-- Whether a name is used in a line. -/
def usB (s : ByteArray) (l : Lin) : Bool := l.ts.any fun t => t.k == 1 && decide (t.nm = s)
def wI (i k : Nat) : Int := if i ≤ k then 1 else 0
/-- A change of the input can reach line i's target after v scans. -/
inductive Ach (p : Prg) (inp : ByteArray) : Nat → Int → Prop
  | one {i : Nat} {l : Lin} : p.ls[i]? = some l → usB inp l = true → Ach p inp i 1
  | step {i k : Nat} {l m : Lin} {u : Int} : p.ls[i]? = some l → p.ls[k]? = some m → Ach p inp k u → usB m.tg l = true → Ach p inp i (u + wI i k)
theorem wI_bd (i k : Nat) : 0 ≤ wI i k ∧ wI i k ≤ 1 := by unfold wI; split <;> omega
theorem Ach.pos {p : Prg} {inp : ByteArray} {i : Nat} {v : Int} (h : Ach p inp i v) : 1 ≤ v := by
  induction h with
  | one _ _ => omega
  | @step i k l m u _ _ _ _ ih => have := wI_bd i k; omega
theorem Ach.line {p : Prg} {inp : ByteArray} {i : Nat} {v : Int} (h : Ach p inp i v) : ∃ l, p.ls[i]? = some l := by
  cases h with
  | one h _ => exact ⟨_, h⟩
  | step h _ _ _ => exact ⟨_, h⟩
/-- The best number among the first k lines' ones. -/
def bstS (z : Int) (ok : Bool) (w b : Int) : Int := if z = 0 ∨ ok = false then b else if b = 0 ∨ z + w < b then z + w else b
def bstK (p : Prg) (inp : ByteArray) (S : List Int) (i : Nat) (l : Lin) : Nat → Int
  | 0 => if usB inp l then 1 else 0
  | k + 1 => bstS (S.getD k 0) (decide (0 ≤ ixS p.vs ((p.ls.map Lin.tg).getD k ⟨#[]⟩)) && usB ((p.ls.map Lin.tg).getD k ⟨#[]⟩) l) (wI i k) (bstK p inp S i l k)
/-- The numbers after i lines of a round. -/
def rowK (p : Prg) (inp : ByteArray) (S : List Int) : Nat → List Int
  | 0 => S
  | i + 1 => match p.ls[i]? with
    | some l => (rowK p inp S i).set i (bstK p inp (rowK p inp S i) i l p.ls.length)
    | none => rowK p inp S i
def scnR (p : Prg) (inp : ByteArray) : Nat → List Int
  | 0 => List.replicate p.ls.length 0
  | r + 1 => rowK p inp (scnR p inp r) p.ls.length
def scnV (p : Prg) (inp : ByteArray) : List Int := scnR p inp (p.ls.length + 1)
theorem rowK_len (p : Prg) (inp : ByteArray) (S : List Int) : ∀ i, (rowK p inp S i).length = S.length
  | 0 => rfl
  | i + 1 => by
    unfold rowK
    split
    · rw [List.length_set, rowK_len p inp S i]
    · exact rowK_len p inp S i
theorem scnR_len (p : Prg) (inp : ByteArray) : ∀ r, (scnR p inp r).length = p.ls.length
  | 0 => List.length_replicate ..
  | r + 1 => by
    show (rowK p inp (scnR p inp r) p.ls.length).length = _
    rw [rowK_len, scnR_len p inp r]
theorem rowK_succ {p : Prg} {inp : ByteArray} {S : List Int} {i : Nat} {l : Lin} (h : p.ls[i]? = some l) : rowK p inp S (i + 1) = (rowK p inp S i).set i (bstK p inp (rowK p inp S i) i l p.ls.length) := by
  conv => lhs; unfold rowK
  rw [h]
theorem tg_get {p : Prg} {k : Nat} {m : Lin} (h : p.ls[k]? = some m) : (p.ls.map Lin.tg).getD k ⟨#[]⟩ = m.tg := by
  rw [List.getD_eq_getElem?_getD, List.getElem?_map, h]
  rfl
/-- What is in the list can be reached; nothing is below nought. -/
def SndS (p : Prg) (inp : ByteArray) (S : List Int) : Prop := ∀ (i : Nat) (z : Int), S[i]? = some z → 0 ≤ z ∧ (z ≠ 0 → Ach p inp i z)
theorem bst_snd {p : Prg} {inp : ByteArray} {S : List Int} {i : Nat} {l : Lin} (hl : p.ls[i]? = some l) (hS : SndS p inp S) : ∀ k, k ≤ p.ls.length → 0 ≤ bstK p inp S i l k ∧ (bstK p inp S i l k ≠ 0 → Ach p inp i (bstK p inp S i l k))
  | 0, _ => by
    unfold bstK
    by_cases h : usB inp l = true
    · rw [if_pos h]; exact ⟨by omega, fun _ => .one hl h⟩
    · rw [if_neg h]; exact ⟨by omega, fun h => absurd rfl h⟩
  | k + 1, hk => by
    have ih := bst_snd hl hS k (by omega)
    obtain ⟨m, hm⟩ : ∃ m, p.ls[k]? = some m := ⟨_, List.getElem?_eq_getElem (by omega)⟩
    unfold bstK bstS
    rw [tg_get hm]
    by_cases h1 : S.getD k 0 = 0 ∨ (decide (0 ≤ ixS p.vs m.tg) && usB m.tg l) = false
    · rw [if_pos h1]; exact ih
    rw [if_neg h1]
    rw [not_or] at h1
    have h2 : usB m.tg l = true := by
      cases e : usB m.tg l with
      | true => rfl
      | false => exfalso; apply h1.2; rw [e, Bool.and_false]
    by_cases h3 : bstK p inp S i l k = 0 ∨ S.getD k 0 + wI i k < bstK p inp S i l k
    · rw [if_pos h3]
      have hz : ∃ z, S[k]? = some z ∧ S.getD k 0 = z := by
        rw [List.getD_eq_getElem?_getD] at h1 ⊢
        cases e : S[k]? with
        | none => rw [e] at h1; exact absurd rfl h1.1
        | some z => exact ⟨z, rfl, rfl⟩
      obtain ⟨z, hz, e⟩ := hz
      rw [e] at h1 ⊢
      have h4 := hS k z hz
      have := wI_bd i k
      exact ⟨by omega, fun _ => .step hl hm (h4.2 h1.1) h2⟩
    · rw [if_neg h3]; exact ih
theorem SndS.set {p : Prg} {inp : ByteArray} {S : List Int} {i : Nat} {z : Int} (h : SndS p inp S) (hz : 0 ≤ z ∧ (z ≠ 0 → Ach p inp i z)) : SndS p inp (S.set i z) := by
  intro j y hy
  rw [List.getElem?_set] at hy
  split at hy
  · rename_i e
    subst e
    split at hy
    · simp only [Option.some.injEq] at hy; subst hy; exact hz
    · cases hy
  · exact h j y hy
theorem row_snd {p : Prg} {inp : ByteArray} {S : List Int} (h : SndS p inp S) : ∀ i, i ≤ p.ls.length → SndS p inp (rowK p inp S i)
  | 0, _ => h
  | i + 1, hi => by
    obtain ⟨l, hl⟩ : ∃ l, p.ls[i]? = some l := ⟨_, List.getElem?_eq_getElem (by omega)⟩
    rw [rowK_succ hl]
    have ih := row_snd h i (by omega)
    exact ih.set (bst_snd hl ih _ (Nat.le_refl _))
theorem scn_snd (p : Prg) (inp : ByteArray) : ∀ r, SndS p inp (scnR p inp r)
  | 0 => fun i z hz => by
    obtain rfl : z = 0 := by
      have := List.mem_of_getElem? hz
      exact (List.mem_replicate.1 this).2
    exact ⟨Int.le_refl _, fun h => absurd rfl h⟩
  | r + 1 => row_snd (scn_snd p inp r) _ (Nat.le_refl _)
/-- What is reached after few scans is in the list, with no more. -/
def UptoS (p : Prg) (inp : ByteArray) (S : List Int) (lim : Nat → Int) : Prop := ∀ (i : Nat) (v : Int), Ach p inp i v → v ≤ lim i → ∃ z, S[i]? = some z ∧ z ≠ 0 ∧ z ≤ v
/-- A target that is used in a line is a variable. -/
def VarT (p : Prg) : Prop := ∀ (k : Nat) (m l : Lin), p.ls[k]? = some m → l ∈ p.ls → usB m.tg l = true → 0 ≤ ixS p.vs m.tg
theorem bst_one {p : Prg} {inp : ByteArray} {S : List Int} {i : Nat} {l : Lin} (hu : usB inp l = true) (hl : p.ls[i]? = some l) (hS : SndS p inp S) : ∀ k, k ≤ p.ls.length → bstK p inp S i l k ≠ 0 ∧ bstK p inp S i l k ≤ 1
  | 0, _ => by
    unfold bstK
    rw [if_pos hu]
    omega
  | k + 1, hk => by
    have ih := bst_one hu hl hS k (by omega)
    have h0 := bst_snd hl hS k (by omega)
    have h1 := bst_snd hl hS (k + 1) hk
    unfold bstK bstS at h1 ⊢
    by_cases c1 : S.getD k 0 = 0 ∨ (decide (0 ≤ ixS p.vs ((p.ls.map Lin.tg).getD k ⟨#[]⟩)) && usB ((p.ls.map Lin.tg).getD k ⟨#[]⟩) l) = false
    · rw [if_pos c1]; exact ih
    · rw [if_neg c1] at h1 ⊢
      by_cases c2 : bstK p inp S i l k = 0 ∨ S.getD k 0 + wI i k < bstK p inp S i l k
      · rw [if_pos c2] at h1 ⊢
        have : 0 ≤ S.getD k 0 := by
          rw [List.getD_eq_getElem?_getD]
          cases e : S[k]? with
          | none => exact Int.le_refl _
          | some z => exact (hS k z e).1
        have hz : S.getD k 0 ≠ 0 := fun e => c1 (.inl e)
        have := wI_bd i k
        omega
      · rw [if_neg c2]; exact ih
theorem bst_cand {p : Prg} {inp : ByteArray} {S : List Int} {i : Nat} {l : Lin} {k0 : Nat} {m : Lin} {z : Int} (hl : p.ls[i]? = some l) (hS : SndS p inp S) (hm : p.ls[k0]? = some m) (hz : S[k0]? = some z) (hz0 : z ≠ 0) (hv : 0 ≤ ixS p.vs m.tg) (hu : usB m.tg l = true) :
    ∀ k, k ≤ p.ls.length → k0 < k → bstK p inp S i l k ≠ 0 ∧ bstK p inp S i l k ≤ z + wI i k0
  | 0, _, h => by omega
  | k + 1, hk, hlt => by
    have h0 := bst_snd hl hS k (by omega)
    have hzn := (hS k0 z hz).1
    by_cases e : k0 = k
    · subst e
      unfold bstK bstS
      rw [tg_get hm, List.getD_eq_getElem?_getD, hz]
      show (if z = 0 ∨ _ then _ else _) ≠ 0 ∧ (if z = 0 ∨ _ then _ else _) ≤ _
      have hc : ¬ (z = 0 ∨ (decide (0 ≤ ixS p.vs m.tg) && usB m.tg l) = false) := by
        rw [decide_eq_true hv, hu]
        simp [hz0]
      rw [if_neg hc]
      show (if bstK p inp S i l k0 = 0 ∨ z + wI i k0 < bstK p inp S i l k0 then z + wI i k0 else bstK p inp S i l k0) ≠ 0 ∧ (if bstK p inp S i l k0 = 0 ∨ z + wI i k0 < bstK p inp S i l k0 then z + wI i k0 else bstK p inp S i l k0) ≤ z + wI i k0
      have := wI_bd i k0
      by_cases c2 : bstK p inp S i l k0 = 0 ∨ z + wI i k0 < bstK p inp S i l k0
      · rw [if_pos c2]; omega
      · rw [if_neg c2]; omega
    · have ih := bst_cand hl hS hm hz hz0 hv hu k (by omega) (by omega)
      have h1 := bst_snd hl hS (k + 1) hk
      unfold bstK bstS at h1 ⊢
      by_cases c1 : S.getD k 0 = 0 ∨ (decide (0 ≤ ixS p.vs ((p.ls.map Lin.tg).getD k ⟨#[]⟩)) && usB ((p.ls.map Lin.tg).getD k ⟨#[]⟩) l) = false
      · rw [if_pos c1]; exact ih
      · rw [if_neg c1] at h1 ⊢
        by_cases c2 : bstK p inp S i l k = 0 ∨ S.getD k 0 + wI i k < bstK p inp S i l k
        · rw [if_pos c2] at h1 ⊢
          have : 0 ≤ S.getD k 0 := by
            rw [List.getD_eq_getElem?_getD]
            cases e : S[k]? with
            | none => exact Int.le_refl _
            | some z => exact (hS k z e).1
          have hz : S.getD k 0 ≠ 0 := fun e => c1 (.inl e)
          have := wI_bd i k
          omega
        · rw [if_neg c2]; exact ih
theorem row_upto {p : Prg} {inp : ByteArray} {S : List Int} {r : Int} (hV : VarT p) (hlen : S.length = p.ls.length) (h : SndS p inp S) (hu : UptoS p inp S fun _ => r) : ∀ i, i ≤ p.ls.length → UptoS p inp (rowK p inp S i) fun j => if j < i then r + 1 else r
  | 0, _ => fun i v hv hle => hu i v hv (by simpa using hle)
  | i + 1, hi => by
    obtain ⟨l, hl⟩ : ∃ l, p.ls[i]? = some l := ⟨_, List.getElem?_eq_getElem (by omega)⟩
    have ih := row_upto hV hlen h hu i (by omega)
    have hs := row_snd h i (by omega)
    have hln : (rowK p inp S i).length = p.ls.length := by rw [rowK_len, hlen]
    rw [rowK_succ hl]
    intro j v hv hle
    by_cases e : j = i
    · subst e
      dsimp only at hle
      rw [if_pos (by omega)] at hle
      refine ⟨_, by rw [List.getElem?_set, if_pos rfl, if_pos (by omega)], ?_⟩
      cases hv with
      | one h1 h2 =>
        rw [hl] at h1
        simp only [Option.some.injEq] at h1
        subst h1
        exact bst_one h2 hl hs _ (Nat.le_refl _)
      | step h1 h2 h3 h4 =>
        rename_i k l' m u
        rw [hl] at h1
        simp only [Option.some.injEq] at h1
        subst h1
        have hk : k < p.ls.length := (List.getElem?_eq_some_iff.1 h2).1
        obtain ⟨z, hz, hz0, hz1⟩ := ih k u h3 (by
          unfold wI at hle
          dsimp only
          split at hle
          · rw [if_neg (by omega)]; omega
          · rw [if_pos (by omega)]; omega)
        have := bst_cand hl hs h2 hz hz0 (hV k m l h2 (List.mem_of_getElem? hl) h4) h4 _ (Nat.le_refl _) hk
        exact ⟨this.1, by omega⟩
    · obtain ⟨z, hz, hz0, hz1⟩ := ih j v hv (by
        dsimp only at hle ⊢
        by_cases c : j < i
        · rw [if_pos c]; rw [if_pos (by omega)] at hle; exact hle
        · rw [if_neg c]; rw [if_neg (by omega)] at hle; exact hle)
      exact ⟨z, by rw [List.getElem?_set, if_neg (fun e2 => e e2.symm)]; exact hz, hz0, hz1⟩
theorem scn_upto {p : Prg} (inp : ByteArray) (hV : VarT p) : ∀ r : Nat, UptoS p inp (scnR p inp r) fun _ => (r : Int)
  | 0 => fun i v hv hle => by
    have := hv.pos
    dsimp only at hle
    omega
  | r + 1 => by
    have ih := scn_upto inp hV r
    have h := row_upto hV (scnR_len p inp r) (scn_snd p inp r) ih p.ls.length (Nat.le_refl _)
    intro i v hv hle
    obtain ⟨l, hl⟩ := hv.line
    have hk : i < p.ls.length := (List.getElem?_eq_some_iff.1 hl).1
    exact h i v hv (by
      dsimp only at hle ⊢
      rw [if_pos hk]
      omega)
/-- The reference's numbers are the least ones, where one is small. -/
theorem scn_least {p : Prg} {inp : ByteArray} (hV : VarT p) (hF : ∀ i v, Ach p inp i v → ∃ v', Ach p inp i v' ∧ v' ≤ v ∧ v' ≤ (p.ls.length : Int) + 1) {i : Nat} {z : Int} (hz : (scnV p inp)[i]? = some z) :
    (z = 0 → ∀ v, ¬ Ach p inp i v) ∧ (z ≠ 0 → Ach p inp i z ∧ ∀ v, Ach p inp i v → z ≤ v) := by
  have h1 := scn_snd p inp (p.ls.length + 1) i z hz
  have h2 : ∀ v, Ach p inp i v → z ≠ 0 ∧ z ≤ v := fun v hv => by
    obtain ⟨v', h3, h4, h5⟩ := hF i v hv
    obtain ⟨z', hz', h6, h7⟩ := scn_upto inp hV (p.ls.length + 1) i v' h3 (by dsimp only; omega)
    have e : some z = some z' := hz.symm.trans hz'
    simp only [Option.some.injEq] at e
    subst e
    exact ⟨h6, by omega⟩
  exact ⟨fun e v hv => (h2 v hv).1 e, fun hne => ⟨h1.2 hne, fun v hv => (h2 v hv).2⟩⟩
end Go.Proofs.YtackekfjalaacaaDoor
