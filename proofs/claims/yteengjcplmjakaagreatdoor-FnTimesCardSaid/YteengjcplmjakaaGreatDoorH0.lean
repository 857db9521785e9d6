/- Contracts and helpers (joined texts, part 0). The conditions stand at each theorem. -/
import Derived.Test.YteengjcplmjakaaGreatDoorPGb
import Derived.Maps.Own
import Derived.Maps.Range
import Derived.Maps.RangeWalk
import Derived.Test.YteengjcplmjakaaGreatDoorRgH
/- A sound program's parts. No condition. -/
namespace Go.Proofs.YteengjcplmjakaaGreatDoor
open Go.RowKit

/-- A program in its box. -/
def PB (w : World) (b : Nat) (p : Prg) (a1 a2 a3 a4 : Option Addr) (c1 c2 c3 c4 : Nat) : Prop := w.cell? ⟨b, 0, none⟩ = some (.string p.nm) ∧ w.cell? ⟨b, 1, none⟩ = some (.slice a1 p.ins.length c1) ∧ w.cell? ⟨b, 2, none⟩ = some (.slice a2 p.vs.length c2) ∧ w.cell? ⟨b, 3, none⟩ = some (.slice a3 p.os.length c3) ∧ w.cell? ⟨b, 4, none⟩ = some (.string p.gd) ∧ w.cell? ⟨b, 5, none⟩ = some (.slice a4 p.ls.length c4)
theorem PB.below {w w' : World} {b : Nat} {p : Prg} {a1 a2 a3 a4 : Option Addr} {c1 c2 c3 c4 : Nat} (h : PB w b p a1 a2 a3 a4 c1 c2 c3 c4) (hb : Below w.heap.size w w') : PB w' b p a1 a2 a3 a4 c1 c2 c3 c4 :=
  ⟨cell_later hb h.1, cell_later hb h.2.1, cell_later hb h.2.2.1, cell_later hb h.2.2.2.1, cell_later hb h.2.2.2.2.1, cell_later hb h.2.2.2.2.2⟩
/-- A sound program's parts. -/
structure Snd (p : Prg) : Prop where
  b : PgB p
  k : ∀ l ∈ p.ls, ∀ t ∈ l.ts, trmT t.k t.nm t.n = true
  r : ∀ l ∈ p.ls, ∀ t ∈ l.ts, t.k = 1 → t.nm ∈ p.ins ∨ t.nm ∈ p.vs
  g : p.gd.toList.isEmpty = true ∨ p.gd ∈ p.ins ∨ p.gd ∈ p.vs
  t : ∀ l ∈ p.ls, l.tg ∈ p.vs ∨ l.tg ∈ p.os
theorem run_trm' : ∀ {l : List Tm} {n : Int}, runH l n ≠ none → ∀ t ∈ l, trmT t.k t.nm t.n = true
  | [], _, _, t, ht => absurd ht (by simp)
  | x :: l, n, h, t, ht => by
    have e : runH (x :: l) n = if trmT x.k x.nm x.n = true ∧ argI x.k ≤ n then runH l (n - argI x.k + 1) else none := rfl
    rw [e] at h
    split at h
    · rename_i hx
      rcases List.mem_cons.1 ht with rfl | ht
      · exact hx.1
      · exact run_trm' h t ht
    · exact absurd rfl h
theorem snd_of {p : Prg} (h : (wrB p && fltB p) = true) : Snd p := by
  rw [Bool.and_eq_true] at h
  obtain ⟨hw, hf⟩ := h
  refine ⟨wr_bd hw, ?_, ?_, ?_, ?_⟩
  · intro l hl t ht
    unfold wrB at hw
    simp only [Bool.and_eq_true] at hw
    have h1 := List.all_eq_true.1 hw.2.2.2.2.2.1 l hl
    unfold linB exB at h1
    simp only [Bool.and_eq_true] at h1
    have h0 := h1.2.1
    unfold exF at h0
    refine run_trm' (n := 0) ?_ t ht
    intro e
    rw [e] at h0
    cases h0
  · intro l hl t ht hk
    unfold fltB at hf
    simp only [Bool.and_eq_true, Bool.not_eq_true', List.any_eq_false] at hf
    have h1 := hf.2.2.2.2.2 l hl
    unfold unL at h1
    rw [List.any_eq_true] at h1
    have h2 : ¬ unT p.ins p.vs t = true := fun e => h1 ⟨t, ht, e⟩
    unfold unT at h2
    rw [hk] at h2
    simp only [beq_self_eq_true, Bool.true_and, Bool.not_eq_true', Bool.not_eq_false, Bool.or_eq_true] at h2
    exact h2.imp memS_iff.1 memS_iff.1
  · unfold fltB at hf
    simp only [Bool.and_eq_true, Bool.or_eq_true] at hf
    exact hf.2.1.imp id (fun h => h.imp memS_iff.1 memS_iff.1)
  · intro l hl
    unfold fltB at hf
    simp only [Bool.and_eq_true] at hf
    have h1 := List.all_eq_true.1 hf.2.2.1 l hl
    unfold tgB at h1
    rw [Bool.or_eq_true] at h1
    exact h1.imp memS_iff.1 memS_iff.1
theorem ix_mem {l : List ByteArray} {s : ByteArray} (h : s ∈ l) : 0 ≤ ixS l s := by
  have := ixS_nn s l
  rw [memS_iff.2 h] at this
  exact of_decide_eq_true this
theorem trm_k {k n : Int} {nm : ByteArray} (h : trmT k nm n = true) : 1 ≤ k ∧ k ≤ 12 := by
  unfold trmT inB at h
  rw [Bool.and_eq_true] at h
  exact of_decide_eq_true h.1
end Go.Proofs.YteengjcplmjakaaGreatDoor

/- Delays, plainly: what a change of an input reaches, and after how many scans; the reference's rounds. No condition but the names' rules. -/
namespace Go.Proofs.YteengjcplmjakaaGreatDoor
open Go.RowKit

/-- Whether a name is used in a line. -/
def usB (s : ByteArray) (l : Lin) : Bool := l.ts.any fun t => t.k == 1 && decide (t.nm = s)
def wI (i k : Nat) : Int := if i ≤ k then 1 else 0
/-- A change of the input can reach line i's target after v scans. -/
inductive Ach (p : Prg) (inp : ByteArray) : Nat → Int → Prop
  | one {i : Nat} {l : Lin} : p.ls[i]? = some l → usB inp l = true → Ach p inp i 1
  | step {i k : Nat} {l m : Lin} {u : Int} : p.ls[i]? = some l → p.ls[k]? = some m → Ach p inp k u → usB m.tg l = true → Ach p inp i (u + wI i k)
theorem wI_bd (i k : Nat) : 0 ≤ wI i k ∧ wI i k ≤ 1 := by unfold wI; split <;> omega
theorem Ach.pos {p : Prg} {inp : ByteArray} {i : Nat} {v : Int} (h : Ach p inp i v) : 1 ≤ v := by
  induction h with
  | one _ _ => omega
  | @step i k l m u _ _ _ _ ih => have := wI_bd i k; omega
theorem Ach.line {p : Prg} {inp : ByteArray} {i : Nat} {v : Int} (h : Ach p inp i v) : ∃ l, p.ls[i]? = some l := by
  cases h with
  | one h _ => exact ⟨_, h⟩
  | step h _ _ _ => exact ⟨_, h⟩
/-- The best number among the first k lines' ones. -/
def bstS (z : Int) (ok : Bool) (w b : Int) : Int := if z = 0 ∨ ok = false then b else if b = 0 ∨ z + w < b then z + w else b
def bstK (p : Prg) (inp : ByteArray) (S : List Int) (i : Nat) (l : Lin) : Nat → Int
  | 0 => if usB inp l then 1 else 0
  | k + 1 => bstS (S.getD k 0) (decide (0 ≤ ixS p.vs ((p.ls.map Lin.tg).getD k ⟨#[]⟩)) && usB ((p.ls.map Lin.tg).getD k ⟨#[]⟩) l) (wI i k) (bstK p inp S i l k)
/-- The numbers after i lines of a round. -/
def rowK (p : Prg) (inp : ByteArray) (S : List Int) : Nat → List Int
  | 0 => S
  | i + 1 => match p.ls[i]? with
    | some l => (rowK p inp S i).set i (bstK p inp (rowK p inp S i) i l p.ls.length)
    | none => rowK p inp S i
def scnR (p : Prg) (inp : ByteArray) : Nat → List Int
  | 0 => List.replicate p.ls.length 0
  | r + 1 => rowK p inp (scnR p inp r) p.ls.length
def scnV (p : Prg) (inp : ByteArray) : List Int := scnR p inp (p.ls.length + 1)
theorem rowK_len (p : Prg) (inp : ByteArray) (S : List Int) : ∀ i, (rowK p inp S i).length = S.length
  | 0 => rfl
  | i + 1 => by
    unfold rowK
    split
    · rw [List.length_set, rowK_len p inp S i]
    · exact rowK_len p inp S i
theorem scnR_len (p : Prg) (inp : ByteArray) : ∀ r, (scnR p inp r).length = p.ls.length
  | 0 => List.length_replicate ..
  | r + 1 => by
    show (rowK p inp (scnR p inp r) p.ls.length).length = _
    rw [rowK_len, scnR_len p inp r]
theorem rowK_succ {p : Prg} {inp : ByteArray} {S : List Int} {i : Nat} {l : Lin} (h : p.ls[i]? = some l) : rowK p inp S (i + 1) = (rowK p inp S i).set i (bstK p inp (rowK p inp S i) i l p.ls.length) := by
  conv => lhs; unfold rowK
  rw [h]
theorem tg_get {p : Prg} {k : Nat} {m : Lin} (h : p.ls[k]? = some m) : (p.ls.map Lin.tg).getD k ⟨#[]⟩ = m.tg := by
  rw [List.getD_eq_getElem?_getD, List.getElem?_map, h]
  rfl
/-- What is in the list can be reached; nothing is below nought. -/
def SndS (p : Prg) (inp : ByteArray) (S : List Int) : Prop := ∀ (i : Nat) (z : Int), S[i]? = some z → 0 ≤ z ∧ (z ≠ 0 → Ach p inp i z)
theorem bst_snd {p : Prg} {inp : ByteArray} {S : List Int} {i : Nat} {l : Lin} (hl : p.ls[i]? = some l) (hS : SndS p inp S) : ∀ k, k ≤ p.ls.length → 0 ≤ bstK p inp S i l k ∧ (bstK p inp S i l k ≠ 0 → Ach p inp i (bstK p inp S i l k))
  | 0, _ => by
    unfold bstK
    by_cases h : usB inp l = true
    · rw [if_pos h]; exact ⟨by omega, fun _ => .one hl h⟩
    · rw [if_neg h]; exact ⟨by omega, fun h => absurd rfl h⟩
  | k + 1, hk => by
    have ih := bst_snd hl hS k (by omega)
    obtain ⟨m, hm⟩ : ∃ m, p.ls[k]? = some m := ⟨_, List.getElem?_eq_getElem (by omega)⟩
    unfold bstK bstS
    rw [tg_get hm]
    by_cases h1 : S.getD k 0 = 0 ∨ (decide (0 ≤ ixS p.vs m.tg) && usB m.tg l) = false
    · rw [if_pos h1]; exact ih
    rw [if_neg h1]
    rw [not_or] at h1
    have h2 : usB m.tg l = true := by
      cases e : usB m.tg l with
      | true => rfl
      | false => exfalso; apply h1.2; rw [e, Bool.and_false]
    by_cases h3 : bstK p inp S i l k = 0 ∨ S.getD k 0 + wI i k < bstK p inp S i l k
    · rw [if_pos h3]
      have hz : ∃ z, S[k]? = some z ∧ S.getD k 0 = z := by
        rw [List.getD_eq_getElem?_getD] at h1 ⊢
        cases e : S[k]? with
        | none => rw [e] at h1; exact absurd rfl h1.1
        | some z => exact ⟨z, rfl, rfl⟩
      obtain ⟨z, hz, e⟩ := hz
      rw [e] at h1 ⊢
      have h4 := hS k z hz
      have := wI_bd i k
      exact ⟨by omega, fun _ => .step hl hm (h4.2 h1.1) h2⟩
    · rw [if_neg h3]; exact ih
theorem SndS.set {p : Prg} {inp : ByteArray} {S : List Int} {i : Nat} {z : Int} (h : SndS p inp S) (hz : 0 ≤ z ∧ (z ≠ 0 → Ach p inp i z)) : SndS p inp (S.set i z) := by
  intro j y hy
  rw [List.getElem?_set] at hy
  split at hy
  · rename_i e
    subst e
    split at hy
    · simp only [Option.some.injEq] at hy; subst hy; exact hz
    · cases hy
  · exact h j y hy
theorem row_snd {p : Prg} {inp : ByteArray} {S : List Int} (h : SndS p inp S) : ∀ i, i ≤ p.ls.length → SndS p inp (rowK p inp S i)
  | 0, _ => h
  | i + 1, hi => by
    obtain ⟨l, hl⟩ : ∃ l, p.ls[i]? = some l := ⟨_, List.getElem?_eq_getElem (by omega)⟩
    rw [rowK_succ hl]
    have ih := row_snd h i (by omega)
    exact ih.set (bst_snd hl ih _ (Nat.le_refl _))
theorem scn_snd (p : Prg) (inp : ByteArray) : ∀ r, SndS p inp (scnR p inp r)
  | 0 => fun i z hz => by
    obtain rfl : z = 0 := by
      have := List.mem_of_getElem? hz
      exact (List.mem_replicate.1 this).2
    exact ⟨Int.le_refl _, fun h => absurd rfl h⟩
  | r + 1 => row_snd (scn_snd p inp r) _ (Nat.le_refl _)
/-- What is reached after few scans is in the list, with no more. -/
def UptoS (p : Prg) (inp : ByteArray) (S : List Int) (lim : Nat → Int) : Prop := ∀ (i : Nat) (v : Int), Ach p inp i v → v ≤ lim i → ∃ z, S[i]? = some z ∧ z ≠ 0 ∧ z ≤ v
/-- A target that is used in a line is a variable. -/
def VarT (p : Prg) : Prop := ∀ (k : Nat) (m l : Lin), p.ls[k]? = some m → l ∈ p.ls → usB m.tg l = true → 0 ≤ ixS p.vs m.tg
theorem bst_one {p : Prg} {inp : ByteArray} {S : List Int} {i : Nat} {l : Lin} (hu : usB inp l = true) (hl : p.ls[i]? = some l) (hS : SndS p inp S) : ∀ k, k ≤ p.ls.length → bstK p inp S i l k ≠ 0 ∧ bstK p inp S i l k ≤ 1
  | 0, _ => by
    unfold bstK
    rw [if_pos hu]
    omega
  | k + 1, hk => by
    have ih := bst_one hu hl hS k (by omega)
    have h0 := bst_snd hl hS k (by omega)
    have h1 := bst_snd hl hS (k + 1) hk
    unfold bstK bstS at h1 ⊢
    by_cases c1 : S.getD k 0 = 0 ∨ (decide (0 ≤ ixS p.vs ((p.ls.map Lin.tg).getD k ⟨#[]⟩)) && usB ((p.ls.map Lin.tg).getD k ⟨#[]⟩) l) = false
    · rw [if_pos c1]; exact ih
    · rw [if_neg c1] at h1 ⊢
      by_cases c2 : bstK p inp S i l k = 0 ∨ S.getD k 0 + wI i k < bstK p inp S i l k
      · rw [if_pos c2] at h1 ⊢
        have : 0 ≤ S.getD k 0 := by
          rw [List.getD_eq_getElem?_getD]
          cases e : S[k]? with
          | none => exact Int.le_refl _
          | some z => exact (hS k z e).1
        have hz : S.getD k 0 ≠ 0 := fun e => c1 (.inl e)
        have := wI_bd i k
        omega
      · rw [if_neg c2]; exact ih
theorem bst_cand {p : Prg} {inp : ByteArray} {S : List Int} {i : Nat} {l : Lin} {k0 : Nat} {m : Lin} {z : Int} (hl : p.ls[i]? = some l) (hS : SndS p inp S) (hm : p.ls[k0]? = some m) (hz : S[k0]? = some z) (hz0 : z ≠ 0) (hv : 0 ≤ ixS p.vs m.tg) (hu : usB m.tg l = true) :
    ∀ k, k ≤ p.ls.length → k0 < k → bstK p inp S i l k ≠ 0 ∧ bstK p inp S i l k ≤ z + wI i k0
  | 0, _, h => by omega
  | k + 1, hk, hlt => by
    have h0 := bst_snd hl hS k (by omega)
    have hzn := (hS k0 z hz).1
    by_cases e : k0 = k
    · subst e
      unfold bstK bstS
      rw [tg_get hm, List.getD_eq_getElem?_getD, hz]
      show (if z = 0 ∨ _ then _ else _) ≠ 0 ∧ (if z = 0 ∨ _ then _ else _) ≤ _
      have hc : ¬ (z = 0 ∨ (decide (0 ≤ ixS p.vs m.tg) && usB m.tg l) = false) := by
        rw [decide_eq_true hv, hu]
        simp [hz0]
      rw [if_neg hc]
      show (if bstK p inp S i l k0 = 0 ∨ z + wI i k0 < bstK p inp S i l k0 then z + wI i k0 else bstK p inp S i l k0) ≠ 0 ∧ (if bstK p inp S i l k0 = 0 ∨ z + wI i k0 < bstK p inp S i l k0 then z + wI i k0 else bstK p inp S i l k0) ≤ z + wI i k0
      have := wI_bd i k0
      by_cases c2 : bstK p inp S i l k0 = 0 ∨ z + wI i k0 < bstK p inp S i l k0
      · rw [if_pos c2]; omega
      · rw [if_neg c2]; omega
    · have ih := bst_cand hl hS hm hz hz0 hv hu k (by omega) (by omega)
      have h1 := bst_snd hl hS (k + 1) hk
      unfold bstK bstS at h1 ⊢
      by_cases c1 : S.getD k 0 = 0 ∨ (decide (0 ≤ ixS p.vs ((p.ls.map Lin.tg).getD k ⟨#[]⟩)) && usB ((p.ls.map Lin.tg).getD k ⟨#[]⟩) l) = false
      · rw [if_pos c1]; exact ih
      · rw [if_neg c1] at h1 ⊢
        by_cases c2 : bstK p inp S i l k = 0 ∨ S.getD k 0 + wI i k < bstK p inp S i l k
        · rw [if_pos c2] at h1 ⊢
          have : 0 ≤ S.getD k 0 := by
            rw [List.getD_eq_getElem?_getD]
            cases e : S[k]? with
            | none => exact Int.le_refl _
            | some z => exact (hS k z e).1
          have hz : S.getD k 0 ≠ 0 := fun e => c1 (.inl e)
          have := wI_bd i k
          omega
        · rw [if_neg c2]; exact ih
theorem row_upto {p : Prg} {inp : ByteArray} {S : List Int} {r : Int} (hV : VarT p) (hlen : S.length = p.ls.length) (h : SndS p inp S) (hu : UptoS p inp S fun _ => r) : ∀ i, i ≤ p.ls.length → UptoS p inp (rowK p inp S i) fun j => if j < i then r + 1 else r
  | 0, _ => fun i v hv hle => hu i v hv (by simpa using hle)
  | i + 1, hi => by
    obtain ⟨l, hl⟩ : ∃ l, p.ls[i]? = some l := ⟨_, List.getElem?_eq_getElem (by omega)⟩
    have ih := row_upto hV hlen h hu i (by omega)
    have hs := row_snd h i (by omega)
    have hln : (rowK p inp S i).length = p.ls.length := by rw [rowK_len, hlen]
    rw [rowK_succ hl]
    intro j v hv hle
    by_cases e : j = i
    · subst e
      dsimp only at hle
      rw [if_pos (by omega)] at hle
      refine ⟨_, by rw [List.getElem?_set, if_pos rfl, if_pos (by omega)], ?_⟩
      cases hv with
      | one h1 h2 =>
        rw [hl] at h1
        simp only [Option.some.injEq] at h1
        subst h1
        exact bst_one h2 hl hs _ (Nat.le_refl _)
      | step h1 h2 h3 h4 =>
        rename_i k l' m u
        rw [hl] at h1
        simp only [Option.some.injEq] at h1
        subst h1
        have hk : k < p.ls.length := (List.getElem?_eq_some_iff.1 h2).1
        obtain ⟨z, hz, hz0, hz1⟩ := ih k u h3 (by
          unfold wI at hle
          dsimp only
          split at hle
          · rw [if_neg (by omega)]; omega
          · rw [if_pos (by omega)]; omega)
        have := bst_cand hl hs h2 hz hz0 (hV k m l h2 (List.mem_of_getElem? hl) h4) h4 _ (Nat.le_refl _) hk
        exact ⟨this.1, by omega⟩
    · obtain ⟨z, hz, hz0, hz1⟩ := ih j v hv (by
        dsimp only at hle ⊢
        by_cases c : j < i
        · rw [if_pos c]; rw [if_pos (by omega)] at hle; exact hle
        · rw [if_neg c]; rw [if_neg (by omega)] at hle; exact hle)
      exact ⟨z, by rw [List.getElem?_set, if_neg (fun e2 => e e2.symm)]; exact hz, hz0, hz1⟩
theorem scn_upto {p : Prg} (inp : ByteArray) (hV : VarT p) : ∀ r : Nat, UptoS p inp (scnR p inp r) fun _ => (r : Int)
  | 0 => fun i v hv hle => by
    have := hv.pos
    dsimp only at hle
    omega
  | r + 1 => by
    have ih := scn_upto inp hV r
    have h := row_upto hV (scnR_len p inp r) (scn_snd p inp r) ih p.ls.length (Nat.le_refl _)
    intro i v hv hle
    obtain ⟨l, hl⟩ := hv.line
    have hk : i < p.ls.length := (List.getElem?_eq_some_iff.1 hl).1
    exact h i v hv (by
      dsimp only at hle ⊢
      rw [if_pos hk]
      omega)
/-- The reference's numbers are the least ones, where one is small. -/
theorem scn_least {p : Prg} {inp : ByteArray} (hV : VarT p) (hF : ∀ i v, Ach p inp i v → ∃ v', Ach p inp i v' ∧ v' ≤ v ∧ v' ≤ (p.ls.length : Int) + 1) {i : Nat} {z : Int} (hz : (scnV p inp)[i]? = some z) :
    (z = 0 → ∀ v, ¬ Ach p inp i v) ∧ (z ≠ 0 → Ach p inp i z ∧ ∀ v, Ach p inp i v → z ≤ v) := by
  have h1 := scn_snd p inp (p.ls.length + 1) i z hz
  have h2 : ∀ v, Ach p inp i v → z ≠ 0 ∧ z ≤ v := fun v hv => by
    obtain ⟨v', h3, h4, h5⟩ := hF i v hv
    obtain ⟨z', hz', h6, h7⟩ := scn_upto inp hV (p.ls.length + 1) i v' h3 (by dsimp only; omega)
    have e : some z = some z' := hz.symm.trans hz'
    simp only [Option.some.injEq] at e
    subst e
    exact ⟨h6, by omega⟩
  exact ⟨fun e v hv => (h2 v hv).1 e, fun hne => ⟨h1.2 hne, fun v hv => (h2 v hv).2⟩⟩
end Go.Proofs.YteengjcplmjakaaGreatDoor

/- Delays, plainly: what the map of delays holds in the end, and that it is what the reference says. Condition: the program is sound, the input is one of its inputs. -/
namespace Go.Proofs.YteengjcplmjakaaGreatDoor
open Go.RowKit

/-- The names' rules of a sound program. -/
structure Nmd (p : Prg) : Prop where
  all : (p.ins ++ p.vs ++ p.os).Nodup
  tgn : (tgs p).Nodup
  tgm : ∀ s ∈ tgs p, s ∈ p.vs ∨ s ∈ p.os
  mad : ∀ s, s ∈ p.vs ∨ s ∈ p.os → s ∈ tgs p
  use : ∀ l ∈ p.ls, ∀ s, usB s l = true → s ∈ p.ins ∨ s ∈ p.vs
  gd : p.gd.toList.isEmpty = true ∨ p.gd ∈ p.ins ∨ p.gd ∈ p.vs
theorem us_mem {s : ByteArray} {l : Lin} (h : usB s l = true) : ∃ t ∈ l.ts, t.k = 1 ∧ t.nm = s := by
  obtain ⟨t, ht, h⟩ := List.any_eq_true.1 h
  simp only [Bool.and_eq_true, beq_iff_eq, decide_eq_true_eq] at h
  exact ⟨t, ht, h⟩
theorem nmd_of {p : Prg} (h : (wrB p && fltB p) = true) : Nmd p := by
  have hs := snd_of h
  rw [Bool.and_eq_true] at h
  have hf := h.2
  rw [flt_impl] at hf
  simp only [Bool.and_eq_true, Bool.not_eq_true'] at hf
  obtain ⟨h1, _, h3, h4, h5, _⟩ := hf
  have hmem : ∀ {l : List ByteArray} {s : ByteArray}, s ∈ l ↔ memS l s = true := memS_iff.symm
  refine ⟨by have := tw_nodup h1; rwa [← List.append_assoc] at this, tw_nodup h4, fun s hs => ?_, fun s hs => ?_, fun l hl s hu => ?_, hs.g⟩
  · rw [List.any_eq_false] at h3
    have := h3 s hs
    simp only [Bool.not_eq_true', Bool.not_eq_false] at this
    rw [memS_app, Bool.or_eq_true] at this
    exact this.imp memS_iff.1 memS_iff.1
  · rw [List.any_eq_false] at h5
    have := h5 s (List.mem_append.2 hs)
    simp only [Bool.not_eq_true', Bool.not_eq_false] at this
    exact memS_iff.1 this
  · obtain ⟨t, ht, hk, rfl⟩ := us_mem hu
    exact hs.r l hl t ht hk
theorem Nmd.in_v {p : Prg} (h : Nmd p) {s : ByteArray} (h1 : s ∈ p.ins) (h2 : s ∈ p.vs ∨ s ∈ p.os) : False := by
  have := h.all
  rw [List.append_assoc, List.nodup_append] at this
  exact this.2.2 s h1 s (List.mem_append.2 h2) rfl
theorem Nmd.v_o {p : Prg} (h : Nmd p) {s : ByteArray} (h1 : s ∈ p.vs) (h2 : s ∈ p.os) : False := by
  have := h.all
  rw [List.append_assoc, List.nodup_append] at this
  have := this.2.1
  rw [List.nodup_append] at this
  exact this.2.2 s h1 s h2 rfl
theorem tg_mem {p : Prg} {k : Nat} {m : Lin} (h : p.ls[k]? = some m) : m.tg ∈ tgs p := List.mem_map.2 ⟨m, List.mem_of_getElem? h, rfl⟩
theorem var_of {p : Prg} (h : Nmd p) : VarT p := by
  intro k m l hm hl hu
  rcases h.use l hl m.tg hu with h1 | h1
  · exact (h.in_v h1 (h.tgm _ (tg_mem hm))).elim
  · exact ix_mem h1
theorem ix_at {l : List ByteArray} (hn : l.Nodup) {k : Nat} {s : ByteArray} (h : l[k]? = some s) : ixS l s = k := by
  refine ixS_at h fun hm => ?_
  obtain ⟨j, hj⟩ := List.getElem?_of_mem hm
  rw [List.getElem?_take] at hj
  split at hj
  · rename_i hlt
    rw [List.nodup_iff_pairwise_ne, List.pairwise_iff_getElem] at hn
    obtain ⟨h1, e1⟩ := List.getElem?_eq_some_iff.1 hj
    obtain ⟨h2, e2⟩ := List.getElem?_eq_some_iff.1 h
    exact hn j k h1 h2 hlt (e1.trans e2.symm)
  · cases hj
theorem ix_line {p : Prg} (h : Nmd p) {k : Nat} {m : Lin} (hm : p.ls[k]? = some m) : ixS (tgs p) m.tg = k :=
  ix_at h.tgn (by unfold tgs; rw [List.getElem?_map, hm]; rfl)
theorem line_of {p : Prg} {s : ByteArray} (h : s ∈ tgs p) : ∃ (k : Nat) (m : Lin), p.ls[k]? = some m ∧ m.tg = s := by
  obtain ⟨m, hm, rfl⟩ := List.mem_map.1 h
  obtain ⟨k, hk⟩ := List.getElem?_of_mem hm
  exact ⟨k, m, hk, rfl⟩
/-- One scan more, where the name's line does not come before line i. -/
def wN (p : Prg) (inp : ByteArray) (i : Nat) (s : ByteArray) : Int := if s = inp then 0 else if (i : Int) ≤ ixS (tgs p) s then 1 else 0
theorem wN_bd (p : Prg) (inp : ByteArray) (i : Nat) (s : ByteArray) : 0 ≤ wN p inp i s ∧ wN p inp i s ≤ 1 := by
  unfold wN
  repeat' split
  all_goals omega
theorem wN_line {p : Prg} (h : Nmd p) {inp : ByteArray} (hi : inp ∈ p.ins) {i k : Nat} {m : Lin} (hm : p.ls[k]? = some m) : wN p inp i m.tg = wI i k := by
  unfold wN wI
  rw [if_neg (fun e : m.tg = inp => h.in_v hi (e ▸ h.tgm _ (tg_mem hm))), ix_line h hm]
  by_cases c : i ≤ k
  · rw [if_pos c, if_pos (by omega)]
  · rw [if_neg c, if_neg (by omega)]
/-- What the map holds when nothing changes any more. -/
structure Fix (p : Prg) (inp : ByteArray) (f : ByteArray → Option Int) : Prop where
  one : f inp = some 1
  snd : ∀ s v, f s = some v → s = inp ∨ ∃ (k : Nat) (m : Lin), p.ls[k]? = some m ∧ m.tg = s ∧ Ach p inp k v
  cls : ∀ (i : Nat) (l : Lin) (s : ByteArray) (v : Int), p.ls[i]? = some l → f s = some v → usB s l = true → ∃ v', f l.tg = some v' ∧ v' ≤ v + wN p inp i s
  bnd : ∀ s v, f s = some v → v ≤ (p.ls.length : Int) + 1
theorem fix_ach {p : Prg} {inp : ByteArray} {f : ByteArray → Option Int} (hn : Nmd p) (hi : inp ∈ p.ins) (hf : Fix p inp f) {i : Nat} {v : Int} (h : Ach p inp i v) : ∀ l, p.ls[i]? = some l → ∃ v', f l.tg = some v' ∧ v' ≤ v := by
  induction h with
  | @one i l hl hu =>
    intro l' hl'
    rw [hl] at hl'
    simp only [Option.some.injEq] at hl'
    subst hl'
    obtain ⟨v', h1, h2⟩ := hf.cls i l inp 1 hl hf.one hu
    refine ⟨v', h1, ?_⟩
    unfold wN at h2
    rw [if_pos rfl] at h2
    omega
  | @step i k l m u hl hm _ hu ih =>
    intro l' hl'
    rw [hl] at hl'
    simp only [Option.some.injEq] at hl'
    subst hl'
    obtain ⟨v', h1, h2⟩ := ih m hm
    obtain ⟨v2, h3, h4⟩ := hf.cls i l m.tg v' hl h1 hu
    rw [wN_line hn hi hm] at h4
    exact ⟨v2, h3, by omega⟩
theorem fix_small {p : Prg} {inp : ByteArray} {f : ByteArray → Option Int} (hn : Nmd p) (hi : inp ∈ p.ins) (hf : Fix p inp f) : ∀ i v, Ach p inp i v → ∃ v', Ach p inp i v' ∧ v' ≤ v ∧ v' ≤ (p.ls.length : Int) + 1 := by
  intro i v h
  obtain ⟨l, hl⟩ := h.line
  obtain ⟨v', h1, h2⟩ := fix_ach hn hi hf h l hl
  rcases hf.snd _ _ h1 with e | ⟨k, m, hm, e, ha⟩
  · exact (hn.in_v hi (e ▸ hn.tgm _ (tg_mem hl))).elim
  · have : i = k := by
      have h3 := ix_line hn hl
      have h4 := ix_line hn hm
      rw [e, h3] at h4
      omega
    subst this
    exact ⟨v', ha, h2, hf.bnd _ _ h1⟩
/-- At a line's target the map holds what the reference's rounds give. -/
theorem fix_line {p : Prg} {inp : ByteArray} {f : ByteArray → Option Int} (hn : Nmd p) (hi : inp ∈ p.ins) (hf : Fix p inp f) {i : Nat} {l : Lin} (hl : p.ls[i]? = some l) :
    f l.tg = if (scnV p inp).getD i 0 = 0 then none else some ((scnV p inp).getD i 0) := by
  have hlen : i < (scnV p inp).length := by
    unfold scnV
    rw [scnR_len]
    exact (List.getElem?_eq_some_iff.1 hl).1
  obtain ⟨z, hz⟩ : ∃ z, (scnV p inp)[i]? = some z := ⟨_, List.getElem?_eq_getElem hlen⟩
  have h1 := scn_least (var_of hn) (fix_small hn hi hf) hz
  rw [List.getD_eq_getElem?_getD, hz]
  show f l.tg = if z = 0 then none else some z
  have hsnd : ∀ v, f l.tg = some v → Ach p inp i v := fun v hv => by
    rcases hf.snd _ _ hv with e | ⟨k, m, hm, e, ha⟩
    · exact (hn.in_v hi (e ▸ hn.tgm _ (tg_mem hl))).elim
    · have h3 := ix_line hn hl
      have h4 := ix_line hn hm
      rw [e, h3] at h4
      have : i = k := by omega
      subst this
      exact ha
  by_cases h0 : z = 0
  · rw [if_pos h0]
    cases hv : f l.tg with
    | none => rfl
    | some v => exact absurd (hsnd v hv) (h1.1 h0 v)
  · rw [if_neg h0]
    obtain ⟨ha, hmin⟩ := h1.2 h0
    obtain ⟨v', hv, hle⟩ := fix_ach hn hi hf ha l hl
    have := hmin v' (hsnd v' hv)
    rw [hv]
    congr 1
    omega
/-- The guard's number, an output's delay, as the reference has them. -/
def gdV (p : Prg) (inp : ByteArray) : Int := if p.gd.toList.isEmpty then 0 else if p.gd = inp then 1 else if ixS (tgs p) p.gd < 0 then 0 else (scnV p inp).getD (ixS (tgs p) p.gd).toNat 0
def dlyV (p : Prg) (inp out : ByteArray) : Int :=
  if (scnV p inp).getD (ixS (tgs p) out).toNat 0 = 0 ∨ (0 < gdV p inp ∧ gdV p inp < (scnV p inp).getD (ixS (tgs p) out).toNat 0) then gdV p inp else (scnV p inp).getD (ixS (tgs p) out).toNat 0
def some0 (z : Int) : Option Int := if z = 0 then none else some z
def minO (o : Option Int) (g : Int) : Int := match o with | some v => if v ≤ g then v else g | none => g
/-- The map behind the guard's round. -/
def fG (p : Prg) (f : ByteArray → Option Int) (s : ByteArray) : Option Int :=
  match f p.gd with
  | some g => if p.gd.toList.isEmpty = false ∧ memS p.os s = true then some (minO (f s) g) else f s
  | none => f s
theorem gd_is {p : Prg} {inp : ByteArray} {f : ByteArray → Option Int} (hn : Nmd p) (hi : inp ∈ p.ins) (hf : Fix p inp f) (hg : p.gd.toList.isEmpty = false) : f p.gd = some0 (gdV p inp) := by
  unfold gdV
  rw [hg, if_neg (by decide)]
  by_cases h1 : p.gd = inp
  · rw [if_pos h1, h1, hf.one]; rfl
  rw [if_neg h1]
  rcases hn.gd with h2 | h2 | h2
  · rw [hg] at h2; cases h2
  · have hno : ¬ p.gd ∈ tgs p := fun hm => hn.in_v h2 (hn.tgm _ hm)
    rw [ixS_out hno, if_pos (by decide)]
    cases hv : f p.gd with
    | none => rfl
    | some v =>
      rcases hf.snd _ _ hv with e | ⟨k, m, hm, e, _⟩
      · exact absurd e h1
      · exact absurd (e ▸ tg_mem hm) hno
  · obtain ⟨k, m, hm, e⟩ := line_of (hn.mad _ (.inl h2))
    rw [← e, ix_line hn hm, if_neg (by omega), Int.toNat_natCast]
    exact fix_line hn hi hf hm
theorem scn_nn {p : Prg} {inp : ByteArray} (i : Nat) : 0 ≤ (scnV p inp).getD i 0 := by
  rw [List.getD_eq_getElem?_getD]
  cases e : (scnV p inp)[i]? with
  | none => exact Int.le_refl _
  | some z => exact (scn_snd p inp _ i z e).1
theorem gdV_nn (p : Prg) (inp : ByteArray) : 0 ≤ gdV p inp := by
  unfold gdV
  repeat' split
  · omega
  · omega
  · omega
  · exact scn_nn _
theorem dlyV_nn (p : Prg) (inp out : ByteArray) : 0 ≤ dlyV p inp out := by
  unfold dlyV
  split
  · exact gdV_nn p inp
  · exact scn_nn _
/-- An output's entry, behind the guard's round. -/
theorem out_is {p : Prg} {inp : ByteArray} {f : ByteArray → Option Int} (hn : Nmd p) (hi : inp ∈ p.ins) (hf : Fix p inp f) {s : ByteArray} (hs : s ∈ p.os) : fG p f s = some0 (dlyV p inp s) := by
  obtain ⟨k, m, hm, e⟩ := line_of (hn.mad _ (.inr hs))
  have h1 : f s = some0 ((scnV p inp).getD k 0) := by rw [← e]; exact fix_line hn hi hf hm
  have h2 : (ixS (tgs p) s).toNat = k := by rw [← e, ix_line hn hm, Int.toNat_natCast]
  have hgn := gdV_nn p inp
  have hzn : 0 ≤ (scnV p inp).getD k 0 := scn_nn k
  unfold dlyV
  rw [h2]
  generalize (scnV p inp).getD k 0 = n at *
  cases hg : p.gd.toList.isEmpty with
  | true =>
    have hg0 : gdV p inp = 0 := by unfold gdV; rw [hg]; rfl
    have e1 : fG p f s = f s := by
      unfold fG
      split
      · rw [if_neg (by rw [hg]; simp)]
      · rfl
    rw [e1, h1, hg0]
    by_cases h0 : n = 0
    · have hD : (if n = 0 ∨ (0 < (0 : Int) ∧ 0 < n) then 0 else n) = n := by rw [if_pos (.inl h0), h0]
      rw [hD]
    · have hD : (if n = 0 ∨ (0 < (0 : Int) ∧ 0 < n) then 0 else n) = n := if_neg (by omega)
      rw [hD]
  | false =>
    have h3 := gd_is hn hi hf hg
    generalize gdV p inp = g at *
    unfold fG
    rw [h3]
    by_cases h0 : g = 0
    · have hD : (if n = 0 ∨ (0 < g ∧ g < n) then g else n) = n := by
        by_cases h4 : n = 0
        · rw [if_pos (.inl h4), h0, h4]
        · exact if_neg (by omega)
      rw [hD, show some0 g = none from if_pos h0]
      exact h1
    · rw [show some0 g = some g from if_neg h0]
      show (if p.gd.toList.isEmpty = false ∧ memS p.os s = true then some (minO (f s) g) else f s) = _
      rw [if_pos ⟨hg, memS_iff.2 hs⟩, h1]
      by_cases h4 : n = 0
      · have hD : (if n = 0 ∨ (0 < g ∧ g < n) then g else n) = g := if_pos (.inl h4)
        rw [hD, show some0 n = none from if_pos h4, show some0 g = some g from if_neg h0]
        rfl
      · rw [show some0 n = some n from if_neg h4]
        show some (if n ≤ g then n else g) = _
        by_cases h5 : n ≤ g
        · have hD : (if n = 0 ∨ (0 < g ∧ g < n) then g else n) = n := if_neg (by omega)
          rw [hD, if_pos h5, show some0 n = some n from if_neg h4]
        · have hD : (if n = 0 ∨ (0 < g ∧ g < n) then g else n) = g := if_pos (.inr ⟨by omega, by omega⟩)
          rw [hD, if_neg h5, show some0 g = some g from if_neg h0]
/-- A variable's entry. -/
theorem var_is {p : Prg} {inp : ByteArray} {f : ByteArray → Option Int} (hn : Nmd p) (hi : inp ∈ p.ins) (hf : Fix p inp f) {s : ByteArray} (hs : s ∈ p.vs) : fG p f s = some0 ((scnV p inp).getD (ixS (tgs p) s).toNat 0) := by
  obtain ⟨k, m, hm, e⟩ := line_of (hn.mad _ (.inl hs))
  have h1 : f s = some0 ((scnV p inp).getD k 0) := by rw [← e]; exact fix_line hn hi hf hm
  have h2 : (ixS (tgs p) s).toNat = k := by rw [← e, ix_line hn hm, Int.toNat_natCast]
  rw [h2, ← h1]
  unfold fG
  split
  · rw [if_neg (fun h => hn.v_o hs (memS_iff.1 h.2))]
  · rfl
end Go.Proofs.YteengjcplmjakaaGreatDoor

/- slices.IndexFunc at lines, with a closure over one captured value (printed by DlC.py). Condition: the lists' sizes. -/
namespace Go.Proofs.YteengjcplmjakaaGreatDoor
open Go.RowKit

/-- What a closure answers at an element of the list. -/
def ClLc (f : Nat) (x : Value) (pr : Lin → Bool) (l : List Lin) (w : World) : Prop :=
  ∀ (wr : World) (t : Lin) (a : Option Addr) (c : Nat), t ∈ l → Below w.heap.size w wr → Rd wr a (tmCells t.ts) → Calls Tryz.prog f #[.agg #[.string t.tg, .slice a t.ts.length c], x] wr fun e w2 => e = .returned (.bool (pr t)) ∧ Below wr.heap.size wr w2
set_option maxRecDepth 100000 in
theorem c_IndexLc (f : Nat) (x : Value) (pr : Lin → Bool) (A : Option Addr) (c vn : Nat) (l : List Lin) (w : World) (hvn : l.length = vn) (hl2 : vn ≤ 4000000) (hv : Ll w A l) (hcall : Hid (ClLc f x pr l w)) (hent : ∀ (args : Array Value) (w : World), (callFunc f args).run Tryz.prog w = .ok (.enter f args) w) :
    Calls Tryz.prog 167 #[.slice A vn c, .func (.func f) #[] #[x]] w fun e w' => e = .returned (.int .i64 (idxI pr l)) ∧ Below w.heap.size w w' := by
  generalize hR : idxI pr l = R
  have HR := Lib.hid hR
  clear hR
  have HVN := Lib.hid hvn
  have HV := Lib.hid hv
  clear hv hvn
  go_enter Tryz.func167, Tryz.ntmps167
  go_wp2
  go_loopw [8] (fun i wr => ∃ k : Nat, k ≤ vn ∧ i = .int .i64 k ∧ Hid ((l.take k).any pr = false) ∧ Hid (Below w.heap.size w wr)) (fun i _ => vn - (intOf i).toNat)
  case atStart => exact ⟨0, Nat.zero_le _, rfl, Lib.hid rfl, Lib.hid (by (repeat (first | exact Below.refl _ _ | assumption | refine below_alloc ?_ _ | refine below_drewN ?_ _ | refine below_set ?_ _ (by simp; try omega) | refine Below.drew ?_)))⟩
  case round =>
    obtain ⟨k, hk, rfl, ha, hb⟩ := hrel
    by_cases hlt : k < vn
    · obtain ⟨t, hz⟩ : ∃ z, l[k]? = some z := ⟨_, List.getElem?_eq_getElem (by have := HVN.out; omega)⟩
      obtain ⟨b', off, la, lc, rfl, _, g0, g1, hrow⟩ := (HV.out.below hb.out).at hz
      have HZZ := Lib.hid hz
      have HC := Lib.hid (hcall.out wr t la lc (List.mem_of_getElem? hz) hb.out hrow)
      have hk0 : (0 : Int) ≤ (k : Int) := by omega
      have hk1 : (k : Int) < vn := by omega
      clear hz
      rcases hin : pr t with _ | _
      · rw [hin] at HC
        have HI := Lib.hid hin
        clear hin
        go_wp2_with (fail)
        refine HC.out.mono ?_
        rintro e w2 ⟨rfl, hb2⟩
        have HB2 := Lib.hid (below_chain hb.out hb2)
        clear hb2
        go_wp2_with (fail)
        go_roundw
        case rel => exact ⟨k + 1, by omega, by go_num, Lib.hid (any_take_snoc HZZ.out ha.out HI.out), HB2⟩
        case measure => simp [intOf]; omega
      · rw [hin] at HC
        have HI := Lib.hid hin
        clear hin
        go_wp2_with (fail)
        refine HC.out.mono ?_
        rintro e w2 ⟨rfl, hb2⟩
        have HB2 := Lib.hid (below_chain hb.out hb2)
        clear hb2
        go_wp2_with (fail)
        go_ret
        exact ⟨ret_int (by rw [← HR.out, idxI_found HZZ.out ha.out HI.out]), HB2.out⟩
    · obtain rfl : k = vn := by omega
      have hA := ha.out
      rw [List.take_of_length_le (by have := HVN.out; omega)] at hA
      have HA := Lib.hid hA
      clear hA ha
      go_wp2_with (fail)
      go_ret
      exact ⟨ret_int (by rw [← HR.out, idxI_none HA.out]), hb.out⟩
end Go.Proofs.YteengjcplmjakaaGreatDoor

/- What a call leaves as it was: every block but those of given kinds. No condition. -/
namespace Go.Proofs.YteengjcplmjakaaGreatDoor
open Go.RowKit

structure Fr (P : Nat → Obj → Prop) (w w' : World) : Prop where
  os : w'.os = w.os
  tape : w'.tape = w.tape
  output : w'.output = w.output
  size : w.heap.size ≤ w'.heap.size
  blk : ∀ (k : Nat) (o : Obj), w.heap[k]? = some o → w'.heap[k]? = some o ∨ P k o
section
variable {P Q : Nat → Obj → Prop} {w a b : World}
theorem heap_at {k : Nat} {o : Obj} (h : w.heap[k]? = some o) : k < w.heap.size := (Array.getElem?_eq_some_iff.1 h).1
theorem Fr.refl (P : Nat → Obj → Prop) (w : World) : Fr P w w := ⟨rfl, rfl, rfl, Nat.le_refl _, fun _ _ h => .inl h⟩
theorem Fr.trans (h : Fr P w a) (h2 : Fr P a b) : Fr P w b :=
  ⟨h2.os.trans h.os, h2.tape.trans h.tape, h2.output.trans h.output, Nat.le_trans h.size h2.size, fun k o hk => (h.blk k o hk).elim (fun h3 => h2.blk k o h3) .inr⟩
theorem Fr.mono (h : Fr P w a) (hi : ∀ k o, P k o → Q k o) : Fr Q w a := ⟨h.os, h.tape, h.output, h.size, fun k o hk => (h.blk k o hk).imp id (hi k o)⟩
theorem Fr.of_below (hb : Below w.heap.size w a) : Fr P w a := ⟨hb.os, hb.tape, hb.output, hb.size, fun k _ hk => .inl ((hb.block k (heap_at hk)).trans hk)⟩
theorem Fr.of_grown {row : Option Nat} (hg : w.grownBy a row) (hr : ∀ q o, row = some q → w.heap[q]? = some o → P q o) : Fr P w a :=
  ⟨hg.os, hg.tape, hg.output, hg.size, fun k o hk => by
    by_cases e : some k = row
    · exact .inr (hr k o e.symm hk)
    · exact .inl ((hg.block k (heap_at hk) e).trans hk)⟩
theorem Fr.own {base : Nat} {e : TypeId} {size n : Nat} {v : Value} {xs : List Value} (h : Fr P w a) (ho : w.ownsRow base e size v n xs) (hp : ∀ g cur fz, base ≤ g → v.ownBlock = some g → ¬ P g (.cells cur e fz)) : a.ownsRow base e size v n xs := by
  refine ⟨ho.1, ho.2.imp id ?_⟩
  rintro ⟨g, cap, cur, rfl, h1, h2, h3⟩
  exact ⟨g, cap, cur, rfl, h1, (h.blk g _ h2).elim id (fun h4 => absurd h4 (hp g cur _ h1 rfl)), h3⟩
theorem Fr.below {lo : Nat} (h : Fr P w a) (hp : ∀ k o, P k o → lo ≤ k) (hl : lo ≤ w.heap.size) : Below lo w a :=
  ⟨h.os, h.tape, h.output, h.size, fun k hk => by
    obtain ⟨o, ho⟩ : ∃ o, w.heap[k]? = some o := ⟨_, Array.getElem?_eq_getElem (by omega)⟩
    rcases h.blk k o ho with h1 | h1
    · rw [h1, ho]
    · have := hp k o h1; omega⟩
theorem Fr.cell {q : Addr} {v : Value} (h : Fr P w a) (hc : w.cell? q = some v) (hp : ∀ o, w.heap[q.block]? = some o → ¬ P q.block o) : a.cell? q = some v := by
  have hlt := World.block_lt_of_cell? w q hc
  obtain ⟨o, ho⟩ : ∃ o, w.heap[q.block]? = some o := ⟨_, Array.getElem?_eq_getElem hlt⟩
  have h1 := (h.blk _ o ho).elim id (fun h4 => absurd h4 (hp o ho))
  rw [← hc]
  unfold World.cell?
  rw [h1, ho]
end
/-- Own rows of one kind. -/
theorem own_kind {w : World} {base : Nat} {e : TypeId} {size n : Nat} {v : Value} {xs : List Value} (ho : w.ownsRow base e size v n xs) {q : Nat} {o : Obj} (hq : v.ownBlock = some q) (h : w.heap[q]? = some o) : base ≤ q ∧ ∃ cur, o = .cells cur e (0, 0) := by
  rcases ho.2 with ⟨rfl, _⟩ | ⟨g, cap, cur, rfl, h1, h2, _⟩
  · simp [Value.ownBlock] at hq
  · simp [Value.ownBlock] at hq
    subst hq
    rw [h2] at h
    simp only [Option.some.injEq] at h
    exact ⟨h1, cur, h.symm⟩
end Go.Proofs.YteengjcplmjakaaGreatDoor

/- Maps from strings to numbers, entry by entry: look-ups, stores (new keys too), range with a round that stores. No condition but the keys' sizes. -/
namespace Go.Proofs.YteengjcplmjakaaGreatDoor
open Go.RowKit Go.Maps
open Go.ChangeMaps (setBlock)
open Go.WideMaps

/-- An entry: key, number, stamp. -/
structure En where
  s : ByteArray
  v : Int
  b : Nat
def En.e (x : En) : MapEntry := { key := .string x.s, val := .int .i64 x.v, born := x.b }
def ents (l : List En) : Array MapEntry := (l.map En.e).toArray
structure MOk (l : List En) (c : Nat) : Prop where
  key : l.Pairwise fun x y => x.s ≠ y.s
  brn : l.Pairwise fun x y => x.b ≠ y.b
  old : ∀ x ∈ l, x.b < c
  len : ∀ x ∈ l, x.s.size ≤ maxLen
def getE : List En → ByteArray → Option Int
  | [], _ => none
  | x :: l, s => if x.s = s then some x.v else getE l s
def setE : List En → ByteArray → Int → List En
  | [], _, _ => []
  | x :: l, s, v => if x.s = s then { x with v := v } :: l else x :: setE l s v
def putE (l : List En) (c : Nat) (s : ByteArray) (v : Int) : List En := if (getE l s).isSome then setE l s v else l ++ [⟨s, v, c⟩]
def putC (l : List En) (c : Nat) (s : ByteArray) : Nat := if (getE l s).isSome then c else c + 1
def delE (l : List En) (s : ByteArray) : List En := l.filter fun x => !decide (x.s = s)
theorem getE_no {s : ByteArray} : ∀ {l : List En}, (∀ x ∈ l, x.s ≠ s) → getE l s = none
  | [], _ => rfl
  | x :: l, h => by
    unfold getE
    rw [if_neg (h x List.mem_cons_self), getE_no (fun y hy => h y (List.mem_cons_of_mem _ hy))]
theorem getE_mem {s : ByteArray} {v : Int} : ∀ {l : List En}, getE l s = some v → ∃ x ∈ l, x.s = s ∧ x.v = v
  | [], h => by cases h
  | x :: l, h => by
    unfold getE at h
    split at h
    · rename_i e
      simp only [Option.some.injEq] at h
      exact ⟨x, List.mem_cons_self, e, h⟩
    · obtain ⟨y, hy, h2⟩ := getE_mem h
      exact ⟨y, List.mem_cons_of_mem _ hy, h2⟩
theorem getE_at : ∀ {l : List En} {x : En}, l.Pairwise (fun x y => x.s ≠ y.s) → x ∈ l → getE l x.s = some x.v
  | y :: l, x, hp, hx => by
    obtain ⟨h1, h2⟩ := List.pairwise_cons.1 hp
    unfold getE
    rcases List.mem_cons.1 hx with rfl | hx
    · rw [if_pos rfl]
    · rw [if_neg (h1 x hx), getE_at h2 hx]
theorem setE_at {s : ByteArray} {v : Int} : ∀ {l : List En} {j : Nat} {x : En}, l.Pairwise (fun x y => x.s ≠ y.s) → l[j]? = some x → x.s = s → setE l s v = l.set j { x with v := v }
  | y :: l, 0, x, hp, hj, hs => by
    simp only [List.getElem?_cons_zero, Option.some.injEq] at hj
    subst hj
    unfold setE
    rw [if_pos hs]
    rfl
  | y :: l, j + 1, x, hp, hj, hs => by
    obtain ⟨h1, h2⟩ := List.pairwise_cons.1 hp
    simp only [List.getElem?_cons_succ] at hj
    unfold setE
    rw [if_neg (fun e => h1 x (List.mem_of_getElem? hj) (e.trans hs.symm)), setE_at h2 hj hs]
    rfl
theorem setE_keys (s : ByteArray) (v : Int) : ∀ l : List En, (setE l s v).map En.s = l.map En.s
  | [] => rfl
  | x :: l => by
    unfold setE
    split
    · rfl
    · rw [List.map_cons, setE_keys s v l, List.map_cons]
theorem setE_born (s : ByteArray) (v : Int) : ∀ l : List En, (setE l s v).map En.b = l.map En.b
  | [] => rfl
  | x :: l => by
    unfold setE
    split
    · rfl
    · rw [List.map_cons, setE_born s v l, List.map_cons]
theorem getE_set (s t : ByteArray) (v : Int) : ∀ l : List En, getE (setE l s v) t = if t = s ∧ (getE l s).isSome then some v else getE l t
  | [] => by unfold setE getE; simp
  | x :: l => by
    have ih := getE_set s t v l
    by_cases h : x.s = s
    · have e1 : setE (x :: l) s v = { x with v := v } :: l := by unfold setE; rw [if_pos h]
      have e2 : getE (x :: l) s = some x.v := by unfold getE; rw [if_pos h]
      rw [e1, e2]
      by_cases h2 : t = s
      · subst h2
        rw [if_pos ⟨rfl, rfl⟩]
        unfold getE
        rw [if_pos h]
      · rw [if_neg (fun e => h2 e.1)]
        unfold getE
        rw [if_neg (fun e => h2 (e.symm.trans h)), if_neg (fun e => h2 (e.symm.trans h))]
    · have e1 : setE (x :: l) s v = x :: setE l s v := if_neg h
      have e2 : getE (x :: l) s = getE l s := if_neg h
      rw [e1, e2]
      by_cases h2 : x.s = t
      · have e3 : getE (x :: setE l s v) t = some x.v := by unfold getE; rw [if_pos h2]
        have e4 : getE (x :: l) t = some x.v := by unfold getE; rw [if_pos h2]
        rw [e3, e4, if_neg (fun e => h (h2.trans e.1))]
      · have e3 : getE (x :: setE l s v) t = getE (setE l s v) t := if_neg h2
        have e4 : getE (x :: l) t = getE l t := if_neg h2
        rw [e3, e4, ih]
theorem getE_app (x : En) (t : ByteArray) : ∀ l : List En, getE (l ++ [x]) t = if (getE l t).isSome then getE l t else if x.s = t then some x.v else none
  | [] => rfl
  | y :: l => by
    have ih := getE_app x t l
    rw [List.cons_append]
    by_cases h : y.s = t
    · have e1 : getE (y :: (l ++ [x])) t = some y.v := by unfold getE; rw [if_pos h]
      have e2 : getE (y :: l) t = some y.v := by unfold getE; rw [if_pos h]
      rw [e1, e2]
      rfl
    · have e1 : getE (y :: (l ++ [x])) t = getE (l ++ [x]) t := if_neg h
      have e2 : getE (y :: l) t = getE l t := if_neg h
      rw [e1, e2, ih]
/-- What a store does to what is held. -/
theorem getE_put (l : List En) (c : Nat) (s t : ByteArray) (v : Int) : getE (putE l c s v) t = if t = s then some v else getE l t := by
  unfold putE
  cases h : (getE l s).isSome with
  | true =>
    rw [if_pos rfl, getE_set, h]
    by_cases h2 : t = s
    · rw [if_pos ⟨h2, rfl⟩, if_pos h2]
    · rw [if_neg (fun e => h2 e.1), if_neg h2]
  | false =>
    rw [if_neg (by decide), getE_app]
    by_cases h2 : t = s
    · subst h2
      rw [h, if_neg (by decide), if_pos rfl, if_pos rfl]
    · rw [if_neg h2]
      cases h3 : getE l t with
      | none => rw [if_neg (by decide), if_neg (fun e => h2 e.symm)]
      | some z => rfl
theorem getE_del (s t : ByteArray) : ∀ l : List En, getE (delE l s) t = if t = s then none else getE l t
  | [] => by unfold delE getE; simp
  | x :: l => by
    have ih := getE_del s t l
    unfold delE at ih ⊢
    rw [List.filter_cons]
    by_cases h : x.s = s
    · rw [if_neg (by simp [h]), ih]
      by_cases h2 : t = s
      · rw [if_pos h2, if_pos h2]
      · rw [if_neg h2, if_neg h2]
        exact (show getE (x :: l) t = getE l t from if_neg (fun e => h2 (e.symm.trans h))).symm
    · rw [if_pos (by simp [h])]
      by_cases h2 : x.s = t
      · have e3 : ∀ r, getE (x :: r) t = some x.v := fun r => by unfold getE; rw [if_pos h2]
        rw [e3, e3, if_neg (fun e => h (h2.trans e))]
      · have e3 : ∀ r, getE (x :: r) t = getE r t := fun r => if_neg h2
        rw [e3, e3, ih]
theorem pw_map {α β : Type} {R : β → β → Prop} {f : α → β} : ∀ {l l' : List α}, l'.map f = l.map f → l.Pairwise (fun x y => R (f x) (f y)) → l'.Pairwise (fun x y => R (f x) (f y)) := by
  intro l l' h hp
  rw [← List.pairwise_map] at hp ⊢
  rwa [h]
theorem MOk.put {l : List En} {c : Nat} (h : MOk l c) {s : ByteArray} (v : Int) (hs : s.size ≤ maxLen) : MOk (putE l c s v) (putC l c s) := by
  unfold putE putC
  cases hb : (getE l s).isSome with
  | true =>
    rw [if_pos rfl, if_pos rfl]
    have hk := setE_keys s v l
    have hbn := setE_born s v l
    refine ⟨pw_map (R := fun a b => a ≠ b) hk h.key, pw_map (R := fun a b => a ≠ b) hbn h.brn, fun x hx => ?_, fun x hx => ?_⟩
    · have : x.b ∈ (setE l s v).map En.b := List.mem_map.2 ⟨x, hx, rfl⟩
      rw [hbn] at this
      obtain ⟨y, hy, e⟩ := List.mem_map.1 this
      rw [← e]; exact h.old y hy
    · have : x.s ∈ (setE l s v).map En.s := List.mem_map.2 ⟨x, hx, rfl⟩
      rw [hk] at this
      obtain ⟨y, hy, e⟩ := List.mem_map.1 this
      rw [← e]; exact h.len y hy
  | false =>
    rw [if_neg (by decide), if_neg (by decide)]
    have hno : ∀ x ∈ l, x.s ≠ s := fun x hx e => by
      have := getE_at h.key hx
      rw [e] at this
      rw [this] at hb
      cases hb
    refine ⟨List.pairwise_append.2 ⟨h.key, by simp, fun x hx y hy => ?_⟩, List.pairwise_append.2 ⟨h.brn, by simp, fun x hx y hy => ?_⟩, fun x hx => ?_, fun x hx => ?_⟩
    · rw [List.mem_singleton] at hy; subst hy; exact hno x hx
    · rw [List.mem_singleton] at hy; subst hy; have := h.old x hx; dsimp only; omega
    · rcases List.mem_append.1 hx with hx | hx
      · have := h.old x hx; omega
      · rw [List.mem_singleton] at hx; subst hx; dsimp only; omega
    · rcases List.mem_append.1 hx with hx | hx
      · exact h.len x hx
      · rw [List.mem_singleton] at hx; subst hx; exact hs
theorem MOk.del {l : List En} {c : Nat} (h : MOk l c) (s : ByteArray) : MOk (delE l s) c :=
  ⟨h.key.filter _, h.brn.filter _, fun x hx => h.old x (List.mem_filter.1 hx).1, fun x hx => h.len x (List.mem_filter.1 hx).1⟩
section
variable {P : Program} {T K E : TypeId} {w : World} {bm : Nat} {l : List En} {c : Nat}
theorem ents_list (l : List En) : (ents l).toList = l.map En.e := by simp [ents]
/-- The search for a key. -/
theorem find_en (hk : P.underlying K = some .string) (h : MOk l c) {s : ByteArray} (hs : s.size ≤ maxLen) :
    (getE l s = none ∧ (Instr.findKey K (.string s) (ents l).toList).run P w = .ok none w ∧ ∀ x ∈ l, x.s ≠ s) ∨
    ∃ (j : Nat) (x : En), l[j]? = some x ∧ x.s = s ∧ getE l s = some x.v ∧ (Instr.findKey K (.string s) (ents l).toList).run P w = .ok (some (j, .int .i64 x.v)) w := by
  have KY := string_keyed hk
  have hkey := keyOf_string_mk hk hs
  rcases KY.find w hkey (ents l).toList (fun e he => by
    rw [ents_list] at he
    obtain ⟨x, hx, rfl⟩ := List.mem_map.1 he
    exact ⟨_, keyOf_string_mk hk (h.len x hx)⟩) with ⟨h1, h2⟩ | ⟨j, e, h1, h2, h3⟩
  · left
    have hno : ∀ x ∈ l, x.s ≠ s := fun x hx e => h2 x.e (by rw [ents_list]; exact List.mem_map.2 ⟨x, hx, rfl⟩) (by rw [← e]; rfl)
    exact ⟨getE_no hno, h1, hno⟩
  · right
    rw [ents_list, List.getElem?_map, Option.map_eq_some_iff] at h2
    obtain ⟨x, hx, rfl⟩ := h2
    have hxs : x.s = s := by
      have : Value.string x.s = Value.string s := h3
      simpa using this
    exact ⟨j, x, hx, hxs, by rw [← hxs]; exact getE_at h.key (List.mem_of_getElem? hx), h1⟩
theorem run_lookE (b : Bool) (hk : P.underlying K = some .string) (ht : P.underlying T = some (.map K E)) (hz : (zeroValue E).run P w = .ok (.int .i64 0) w) (hb : w.heap[bm]? = some (.map (ents l) c)) (h : MOk l c) {s : ByteArray} (hs : s.size ≤ maxLen) :
    (Instr.lookup T (.map (some bm)) (.string s) b).run P w = .ok (if b then .tuple #[.int .i64 ((getE l s).getD 0), .bool (getE l s).isSome] else .int .i64 ((getE l s).getD 0)) w := by
  have KY := string_keyed hk
  have hkey := keyOf_string_mk hk hs
  rcases find_en (w := w) hk h hs with ⟨h1, h2, _⟩ | ⟨j, x, _, _, h1, h2⟩
  · rw [h1]
    simp [Instr.lookup, run_underlying ht, MapKept.run_getObj_map hb, KY.check w _ hkey, h2, hz, Result.andThen]
  · rw [h1]
    simp [Instr.lookup, run_underlying ht, MapKept.run_getObj_map hb, KY.check w _ hkey, h2, Result.andThen]
theorem ents_app (l : List En) (x : En) : (ents l).push x.e = ents (l ++ [x]) := by simp [ents]
theorem ents_mod {j : Nat} {x : En} (h : l[j]? = some x) (v : Int) : (ents l).modify j (fun e => { e with key := .string x.s, val := .int .i64 v }) = ents (l.set j { x with v := v }) := by
  apply Array.ext'
  rw [Array.toList_modify, ents_list, ents_list, ChangeMaps.modify_eq_set _ _ j x.e (by rw [List.getElem?_map, h]; rfl), List.map_set]
  rfl
theorem run_putE (hk : P.underlying K = some .string) (ht : P.underlying T = some (.map K E)) (hb : w.heap[bm]? = some (.map (ents l) c)) (h : MOk l c) {s : ByteArray} (hs : s.size ≤ maxLen) (v : Int) :
    (Instr.mapUpdate T (.map (some bm)) (.string s) (.int .i64 v)).run P w = .ok () (setBlock w bm (.map (ents (putE l c s v)) (putC l c s))) := by
  have KY := string_keyed hk
  have hkey := keyOf_string_mk hk hs
  rcases find_en (w := w) hk h hs with ⟨h1, h2, _⟩ | ⟨j, x, hj, hxs, h1, h2⟩
  · have e1 : putE l c s v = l ++ [⟨s, v, c⟩] := by unfold putE; rw [h1]; rfl
    have e2 : putC l c s = c + 1 := by unfold putC; rw [h1]; rfl
    rw [e1, e2, ← ents_app]
    simp [Instr.mapUpdate, run_underlying ht, MapKept.run_getObj_map hb, KY.check w false hkey, h2, MapKept.run_setObj_map _ hb, Result.andThen, setBlock, En.e]
  · have e1 : putE l c s v = l.set j { x with v := v } := by unfold putE; rw [h1]; exact setE_at h.key hj hxs
    have e2 : putC l c s = c := by unfold putC; rw [h1]; rfl
    have hj2 : (ents l)[j]? = some x.e := by simp [ents, hj]
    rw [e1, e2, ← ents_mod hj v, hxs]
    have hkk : x.e.key = .string s := by rw [← hxs]; rfl
    simp [Instr.mapUpdate, run_underlying ht, MapKept.run_getObj_map hb, KY.check w false hkey, h2, hj2, hkk, KY.stays w hkey, MapKept.run_setObj_map _ hb, Result.andThen, setBlock]
theorem run_delE (hk : P.underlying K = some .string) (ht : P.underlying T = some (.map K E)) (hb : w.heap[bm]? = some (.map (ents l) c)) (h : MOk l c) {s : ByteArray} (hs : s.size ≤ maxLen) (ty : TypeId) :
    (Builtin.delete_ #[T, K] ty #[.map (some bm), .string s]).run P w = .ok (.tuple #[]) (setBlock w bm (.map (ents (delE l s)) c)) := by
  have KY := string_keyed hk
  have hkey := keyOf_string_mk hk hs
  rcases find_en (w := w) hk h hs with ⟨h1, h2, hno⟩ | ⟨j, x, hj, hxs, h1, h2⟩
  · have e1 : delE l s = l := by
      unfold delE
      rw [List.filter_eq_self]
      intro y hy
      simp [hno y hy]
    rw [e1]
    simp [Builtin.delete_, run_underlying ht, MapKept.run_getObj_map hb, KY.check w _ hkey, h2, MapKept.run_setObj_map _ hb, Result.andThen, setBlock]
  · have hjl : j < (ents l).size := by simp [ents]; exact (List.getElem?_eq_some_iff.1 hj).1
    have e1 : (ents l).eraseIdxIfInBounds j = ents (delE l s) := by
      unfold Array.eraseIdxIfInBounds
      rw [dif_pos hjl]
      apply Array.ext'
      rw [ents_list]
      simp only [Array.toList_eraseIdx]
      rw [ents_list, ← ChangeMaps.map_eraseIdx]
      congr 1
      symm
      unfold delE
      refine ChangeMaps.filter_eq_eraseIdx _ _ j x hj ?_ ?_
      · simp [hxs]
      · refine h.key.imp fun {a b} hne => ?_
        simp only [decide_eq_true_eq]
        exact fun e => hne (e.1.trans e.2.symm)
    simp [Builtin.delete_, run_underlying ht, MapKept.run_getObj_map hb, KY.check w _ hkey, h2, MapKept.run_setObj_map _ hb, Result.andThen, setBlock, e1]
end
end Go.Proofs.YteengjcplmjakaaGreatDoor

/- Delays, plainly: one step of the program's search, what it keeps, and that it ends. Condition: the program is sound, the input is one of its inputs. -/
namespace Go.Proofs.YteengjcplmjakaaGreatDoor
open Go.RowKit

/-- Whether a number is better than what is held; what is held then. -/
def rB (l : List En) (s : ByteArray) (v : Int) : Bool := match getE l s with | some old => !decide (old ≤ v) | none => true
def rL (l : List En) (c : Nat) (s : ByteArray) (v : Int) : List En := if rB l s v then putE l c s v else l
def rC (l : List En) (c : Nat) (s : ByteArray) (v : Int) : Nat := if rB l s v then putC l c s else c
/-- What the search keeps. -/
structure Inv (p : Prg) (inp : ByteArray) (l : List En) : Prop where
  one : getE l inp = some 1
  snd : ∀ x ∈ l, x.s = inp ∧ x.v = 1 ∨ ∃ (k : Nat) (m : Lin), p.ls[k]? = some m ∧ m.tg = x.s ∧ Ach p inp k x.v
  pos : ∀ x ∈ l, 1 ≤ x.v ∧ x.v ≤ l.length
  key : ∀ x ∈ l, x.s = inp ∨ x.s ∈ tgs p
theorem Inv.len {p : Prg} {inp : ByteArray} {l : List En} {c : Nat} (h : Inv p inp l) (hm : MOk l c) : l.length ≤ p.ls.length + 1 := by
  have hn : (l.map En.s).Nodup := by
    rw [List.nodup_iff_pairwise_ne, List.pairwise_map]
    exact hm.key
  have := nodup_le (l2 := inp :: tgs p) hn (fun s hs => by
    obtain ⟨x, hx, rfl⟩ := List.mem_map.1 hs
    rcases h.key x hx with e | e
    · rw [e]; exact List.mem_cons_self
    · exact List.mem_cons_of_mem _ e)
  unfold tgs at this
  simpa using this
theorem setE_len (s : ByteArray) (v : Int) (l : List En) : (setE l s v).length = l.length := by
  have := congrArg List.length (setE_keys s v l)
  simpa using this
theorem put_len (l : List En) (c : Nat) (s : ByteArray) (v : Int) : (putE l c s v).length = if (getE l s).isSome then l.length else l.length + 1 := by
  unfold putE
  split
  · exact setE_len s v l
  · simp
theorem setE_mem {s : ByteArray} {v : Int} : ∀ {l : List En} {y : En}, l.Pairwise (fun x y => x.s ≠ y.s) → y ∈ setE l s v → (y ∈ l ∧ y.s ≠ s) ∨ (y.s = s ∧ y.v = v)
  | [], y, _, h => by cases h
  | x :: l, y, hp, h => by
    obtain ⟨h1, h2⟩ := List.pairwise_cons.1 hp
    unfold setE at h
    by_cases hs : x.s = s
    · rw [if_pos hs] at h
      rcases List.mem_cons.1 h with rfl | h
      · exact .inr ⟨hs, rfl⟩
      · exact .inl ⟨List.mem_cons_of_mem _ h, fun e => h1 y h (hs.trans e.symm)⟩
    · rw [if_neg hs] at h
      rcases List.mem_cons.1 h with rfl | h
      · exact .inl ⟨List.mem_cons_self, hs⟩
      · exact (setE_mem h2 h).imp (fun h => ⟨List.mem_cons_of_mem _ h.1, h.2⟩) id
theorem putE_mem {l : List En} {c : Nat} (hm : MOk l c) {s : ByteArray} {v : Int} {y : En} (h : y ∈ putE l c s v) : (y ∈ l ∧ y.s ≠ s) ∨ (y.s = s ∧ y.v = v) := by
  unfold putE at h
  cases hb : (getE l s).isSome with
  | true =>
    rw [hb, if_pos rfl] at h
    exact setE_mem hm.key h
  | false =>
    rw [hb, if_neg (by decide)] at h
    rcases List.mem_append.1 h with h | h
    · refine .inl ⟨h, fun e => ?_⟩
      have := getE_at hm.key h
      rw [e] at this
      rw [this] at hb
      cases hb
    · rw [List.mem_singleton] at h
      subst h
      exact .inr ⟨rfl, rfl⟩
/-- The number for a line's target, by an entry that is used in it. -/
theorem Inv.store {p : Prg} {inp : ByteArray} {l : List En} {c : Nat} (hn : Nmd p) (hi : inp ∈ p.ins) (h : Inv p inp l) (hm : MOk l c) {i : Nat} {ln : Lin} {x : En} (hl : p.ls[i]? = some ln) (hx : x ∈ l) (hu : usB x.s ln = true)
    (hb : rB l ln.tg (x.v + wN p inp i x.s) = true) : Inv p inp (putE l c ln.tg (x.v + wN p inp i x.s)) := by
  have hne : ln.tg ≠ inp := fun e => hn.in_v hi (e ▸ hn.tgm _ (tg_mem hl))
  have hw := wN_bd p inp i x.s
  have hp := h.pos x hx
  have hach : Ach p inp i (x.v + wN p inp i x.s) := by
    rcases h.snd x hx with ⟨e, e2⟩ | ⟨k, m, hk, e, ha⟩
    · have hw0 : wN p inp i x.s = 0 := by unfold wN; rw [if_pos e]
      rw [hw0, e2]
      rw [e] at hu
      exact .one hl hu
    · rw [← e, wN_line hn hi hk]
      rw [← e] at hu
      exact .step hl hk ha hu
  have hlen : x.v + wN p inp i x.s ≤ ((putE l c ln.tg (x.v + wN p inp i x.s)).length : Int) ∧ l.length ≤ (putE l c ln.tg (x.v + wN p inp i x.s)).length := by
    rw [put_len]
    cases hg : getE l ln.tg with
    | none =>
      show x.v + _ ≤ ((l.length + 1 : Nat) : Int) ∧ l.length ≤ l.length + 1
      omega
    | some old =>
      show x.v + _ ≤ (l.length : Int) ∧ l.length ≤ l.length
      unfold rB at hb
      rw [hg] at hb
      simp only [Bool.not_eq_true', decide_eq_false_iff_not] at hb
      obtain ⟨y, hy, _, e⟩ := getE_mem hg
      have := h.pos y hy
      omega
  refine ⟨?_, fun y hy => ?_, fun y hy => ?_, fun y hy => ?_⟩
  · rw [getE_put, if_neg (fun e => hne e.symm)]
    exact h.one
  · rcases putE_mem hm hy with ⟨h1, _⟩ | ⟨h1, h2⟩
    · exact h.snd y h1
    · exact .inr ⟨i, ln, hl, h1.symm, by rw [h2]; exact hach⟩
  · rcases putE_mem hm hy with ⟨h1, _⟩ | ⟨h1, h2⟩
    · have := h.pos y h1
      omega
    · rw [h2]
      omega
  · rcases putE_mem hm hy with ⟨h1, _⟩ | ⟨h1, _⟩
    · exact h.key y h1
    · exact .inr (h1 ▸ tg_mem hl)
/-- How far the search is from its end. -/
def phiS (M : Nat) (l : List En) : List ByteArray → Nat
  | [] => 0
  | s :: r => ((getE l s).getD M).toNat + phiS M l r
def phi (p : Prg) (inp : ByteArray) (l : List En) : Nat := phiS (p.ls.length + 3) l (inp :: tgs p)
theorem phiS_le {M : Nat} {l : List En} {c : Nat} {s : ByteArray} {v : Int} (hv : v ≤ (getE l s).getD M) : ∀ r : List ByteArray, phiS M (putE l c s v) r ≤ phiS M l r
  | [] => Nat.le_refl _
  | t :: r => by
    have ih := phiS_le (c := c) hv r
    show ((getE (putE l c s v) t).getD M).toNat + _ ≤ ((getE l t).getD M).toNat + _
    rw [getE_put]
    by_cases e : t = s
    · rw [if_pos e, e]
      show v.toNat + _ ≤ _
      omega
    · rw [if_neg e]
      omega
theorem phiS_lt {M : Nat} {l : List En} {c : Nat} {s : ByteArray} {v : Int} (h0 : 0 ≤ v) (hv : v < (getE l s).getD M) : ∀ r : List ByteArray, s ∈ r → phiS M (putE l c s v) r < phiS M l r
  | t :: r, hs => by
    have hle := phiS_le (c := c) (Int.le_of_lt hv) r
    show ((getE (putE l c s v) t).getD M).toNat + _ < ((getE l t).getD M).toNat + _
    rw [getE_put]
    by_cases e : t = s
    · rw [if_pos e, e]
      show v.toNat + _ < _
      omega
    · rw [if_neg e]
      have := phiS_lt (c := c) h0 hv r (by
        rcases List.mem_cons.1 hs with h | h
        · exact absurd h.symm e
        · exact h)
      omega
theorem phi_store {p : Prg} {inp : ByteArray} {l : List En} {c : Nat} (h : Inv p inp l) (hm : MOk l c) {i : Nat} {ln : Lin} {x : En} (hl : p.ls[i]? = some ln) (hx : x ∈ l) (hb : rB l ln.tg (x.v + wN p inp i x.s) = true) :
    phi p inp (putE l c ln.tg (x.v + wN p inp i x.s)) < phi p inp l := by
  have hw := wN_bd p inp i x.s
  have hp := h.pos x hx
  have hlen := h.len hm
  refine phiS_lt (by omega) ?_ _ (List.mem_cons_of_mem _ (tg_mem hl))
  unfold rB at hb
  cases hg : getE l ln.tg with
  | none =>
    show x.v + _ < ((p.ls.length + 3 : Nat) : Int)
    omega
  | some old =>
    rw [hg] at hb
    simp only [Bool.not_eq_true', decide_eq_false_iff_not] at hb
    show x.v + _ < old
    omega
/-- The line's target has what an entry asks for. -/
def ClD (p : Prg) (inp : ByteArray) (l : List En) (i : Nat) (ln : Lin) (x : En) : Prop := usB x.s ln = true → ∃ v', getE l ln.tg = some v' ∧ v' ≤ x.v + wN p inp i x.s
theorem clD_of {p : Prg} {inp : ByteArray} {l : List En} {i : Nat} {ln : Lin} {x : En} (hb : rB l ln.tg (x.v + wN p inp i x.s) = false) : ClD p inp l i ln x := fun _ => by
  unfold rB at hb
  cases hg : getE l ln.tg with
  | none => rw [hg] at hb; cases hb
  | some old =>
    rw [hg] at hb
    simp only [Bool.not_eq_false', decide_eq_true_eq] at hb
    exact ⟨old, rfl, hb⟩
/-- Nothing has changed in a whole sweep: what is held is the fixed point. -/
theorem fix_of {p : Prg} {inp : ByteArray} {l : List En} {c : Nat} (h : Inv p inp l) (hm : MOk l c) (hc : ∀ (i : Nat) (ln : Lin), p.ls[i]? = some ln → ∀ x ∈ l, ClD p inp l i ln x) : Fix p inp (getE l) := by
  have hlen := h.len hm
  refine ⟨h.one, fun s v hv => ?_, fun i ln s v hl hv hu => ?_, fun s v hv => ?_⟩
  · obtain ⟨x, hx, rfl, rfl⟩ := getE_mem hv
    exact (h.snd x hx).imp (fun e => e.1) id
  · obtain ⟨x, hx, rfl, rfl⟩ := getE_mem hv
    exact hc i ln hl x hx hu
  · obtain ⟨x, hx, rfl, rfl⟩ := getE_mem hv
    have := h.pos x hx
    omega
theorem inv_start (p : Prg) (inp : ByteArray) : Inv p inp [⟨inp, 1, 0⟩] := by
  refine ⟨by unfold getE; rw [if_pos rfl], fun x hx => ?_, fun x hx => ?_, fun x hx => ?_⟩
  all_goals (rw [List.mem_singleton] at hx; subst hx)
  · exact .inl ⟨rfl, rfl⟩
  · simp
  · exact .inl rfl
/-- The guard's round. -/
def gL (l : List En) (c : Nat) (g : Int) : List ByteArray → List En × Nat
  | [] => (l, c)
  | s :: r => gL (rL l c s g) (rC l c s g) g r
theorem getE_r (l : List En) (c : Nat) (s t : ByteArray) (g : Int) : getE (rL l c s g) t = if t = s then some (minO (getE l s) g) else getE l t := by
  unfold rL rB
  cases hg : getE l s with
  | none =>
    show getE (putE l c s g) t = _
    rw [getE_put]
    rfl
  | some old =>
    by_cases hle : old ≤ g
    · show getE (if (!decide (old ≤ g)) = true then putE l c s g else l) t = if t = s then some (if old ≤ g then old else g) else getE l t
      rw [decide_eq_true hle, if_neg (by decide), if_pos hle]
      by_cases e : t = s
      · rw [if_pos e, e, hg]
      · rw [if_neg e]
    · show getE (if (!decide (old ≤ g)) = true then putE l c s g else l) t = if t = s then some (if old ≤ g then old else g) else getE l t
      rw [decide_eq_false hle, if_pos (by decide), if_neg hle, getE_put]
theorem minO_min (o : Option Int) (g : Int) : minO (some (minO o g)) g = minO o g := by
  cases o with
  | none => show (if g ≤ g then g else g) = g; split <;> rfl
  | some v =>
    show (if (if v ≤ g then v else g) ≤ g then (if v ≤ g then v else g) else g) = if v ≤ g then v else g
    by_cases h : v ≤ g
    · rw [if_pos h, if_pos h]
    · rw [if_neg h]; split <;> rfl
theorem getE_g (g : Int) (t : ByteArray) : ∀ (r : List ByteArray) (l : List En) (c : Nat), getE (gL l c g r).1 t = if memS r t = true then some (minO (getE l t) g) else getE l t
  | [], l, c => rfl
  | s :: r, l, c => by
    show getE (gL (rL l c s g) (rC l c s g) g r).1 t = _
    rw [getE_g g t r, getE_r]
    have hm : memS (s :: r) t = (decide (s = t) || memS r t) := rfl
    rw [hm]
    by_cases e : t = s
    · subst e
      rw [if_pos rfl, decide_eq_true rfl, Bool.true_or, if_pos rfl]
      split
      · rw [minO_min]
      · rfl
    · rw [if_neg e, decide_eq_false (fun h => e h.symm), Bool.false_or]
theorem MOk.r {l : List En} {c : Nat} (h : MOk l c) {s : ByteArray} (v : Int) (hs : s.size ≤ maxLen) : MOk (rL l c s v) (rC l c s v) := by
  unfold rL rC
  split
  · exact h.put v hs
  · exact h
end Go.Proofs.YteengjcplmjakaaGreatDoor

/- Ranging over a map whose round stores into it (new keys too): run-level and walk-level laws. No condition but the keys' sizes. -/
namespace Go.Proofs.YteengjcplmjakaaGreatDoor
open Go.RowKit Go.Maps
open Go.ChangeMaps (setBlock)

/-- The map in its block. -/
def MpA (w : World) (bm : Nat) (l : List En) (c : Nat) : Prop := w.heap[bm]? = some (.map (ents l) c) ∧ MOk l c
/-- The range under way: an iterator in block r, what it has seen. -/
structure Itr (w : World) (bm r : Nat) (l : List En) (since : Nat) (seen : List Nat) : Prop where
  it : ∃ c0, w.heap[r]? = some (.mapIter (some bm) since seen.toArray c0) ∧ (seen = [] ∨ ∃ x ∈ l, x.b < c0)
  nd : seen.Nodup
  sub : ∀ b ∈ seen, ∃ x ∈ l, x.b = b
/-- How many entries have come. -/
def World.itrSeen (w : World) (r : Nat) : Nat := match w.heap[r]? with | some (.mapIter _ _ seen _) => seen.size | _ => 0
section
variable {w : World} {bm r : Nat} {l : List En} {c since : Nat} {seen : List Nat}
theorem Itr.count (h : Itr w bm r l since seen) : World.itrSeen w r = seen.length := by
  obtain ⟨c0, hr, _⟩ := h.it
  unfold World.itrSeen
  rw [hr]
  simp
theorem Itr.ne (h : Itr w bm r l since seen) (hm : MpA w bm l c) : r ≠ bm := by
  obtain ⟨c0, hr, _⟩ := h.it
  intro e
  rw [e, hm.1] at hr
  cases hr
theorem Itr.lt (h : Itr w bm r l since seen) : r < w.heap.size := by
  obtain ⟨c0, hr, _⟩ := h.it
  exact heap_at hr
theorem MpA.lt (h : MpA w bm l c) : bm < w.heap.size := heap_at h.1
theorem MpA.kept {w' : World} {row : Option Nat} (h : MpA w bm l c) (hg : w.grownBy w' row) (hne : some bm ≠ row) : MpA w' bm l c := ⟨(hg.block bm h.lt hne).trans h.1, h.2⟩
theorem MpA.below {w' : World} (h : MpA w bm l c) (hb : Below w.heap.size w w') : MpA w' bm l c := ⟨(hb.block bm h.lt).trans h.1, h.2⟩
theorem Itr.kept {w' : World} {row : Option Nat} (h : Itr w bm r l since seen) (hg : w.grownBy w' row) (hne : some r ≠ row) : Itr w' bm r l since seen := by
  have hlt := h.lt
  obtain ⟨⟨c0, hr, h2⟩, h3, h4⟩ := h
  exact ⟨⟨c0, (hg.block r hlt hne).trans hr, h2⟩, h3, h4⟩
theorem Itr.below {w' : World} (h : Itr w bm r l since seen) (hb : Below w.heap.size w w') : Itr w' bm r l since seen := by
  have hlt := h.lt
  obtain ⟨⟨c0, hr, h2⟩, h3, h4⟩ := h
  exact ⟨⟨c0, (hb.block r hlt).trans hr, h2⟩, h3, h4⟩
theorem nodup_leN : ∀ {l1 l2 : List Nat}, l1.Nodup → (∀ x ∈ l1, x ∈ l2) → l1.length ≤ l2.length
  | [], l2, _, _ => by simp
  | a :: t, l2, hn, hs => by
    rw [List.nodup_cons] at hn
    obtain ⟨s, r, e⟩ := List.append_of_mem (hs a (List.mem_cons_self ..))
    have ih := nodup_leN (l2 := s ++ r) hn.2 (fun x hx => by
      have h1 := hs x (List.mem_cons_of_mem _ hx)
      rw [e] at h1
      rcases List.mem_append.1 h1 with h | h
      · exact List.mem_append_left _ h
      · rcases List.mem_cons.1 h with h | h
        · subst h; exact absurd hx hn.1
        · exact List.mem_append_right _ h)
    rw [e]
    simp only [List.length_append, List.length_cons] at ih ⊢
    omega
theorem Itr.seen_le (h : Itr w bm r l since seen) : seen.length ≤ l.length := by
  have := nodup_leN (l2 := l.map En.b) h.nd (fun b hb => by
    obtain ⟨x, hx, e⟩ := h.sub b hb
    exact List.mem_map.2 ⟨x, hx, e⟩)
  simpa using this
theorem put_born (l : List En) (c : Nat) (s : ByteArray) (v : Int) {x : En} (hx : x ∈ l) : ∃ y ∈ putE l c s v, y.b = x.b := by
  unfold putE
  split
  · have : x.b ∈ (setE l s v).map En.b := by rw [setE_born]; exact List.mem_map.2 ⟨x, hx, rfl⟩
    obtain ⟨y, hy, e⟩ := List.mem_map.1 this
    exact ⟨y, hy, e⟩
  · exact ⟨x, List.mem_append_left _ hx, rfl⟩
/-- A store in the round. -/
theorem Itr.put {w' : World} (h : Itr w bm r l since seen) (s : ByteArray) (v : Int) (hr : w'.heap[r]? = w.heap[r]?) : Itr w' bm r (putE l c s v) since seen := by
  obtain ⟨⟨c0, h1, h2⟩, h3, h4⟩ := h
  refine ⟨⟨c0, hr.trans h1, h2.imp id ?_⟩, h3, fun b hb => ?_⟩
  · rintro ⟨x, hx, hlt⟩
    obtain ⟨y, hy, e⟩ := put_born l c s v hx
    exact ⟨y, hy, by omega⟩
  · obtain ⟨x, hx, e⟩ := h4 b hb
    obtain ⟨y, hy, e2⟩ := put_born l c s v hx
    exact ⟨y, hy, e2.trans e⟩
theorem run_chooseN {P : Program} (n : Nat) (hn : 0 < n) (w : World) : ∃ (j : Nat) (w1 : World), j < n ∧ (w1 = w ∨ w1 = w.drew) ∧ (choose (Question.mapNext n)).run P w = .ok j w1 := by
  by_cases hf : n ≤ 1
  · exact ⟨0, w, by omega, Or.inl rfl, by simp [choose, Sem.run, Question.forced, hf]⟩
  · exact ⟨_, w.drew, Nat.mod_lt _ (by omega), Or.inr rfl, by
      simp only [choose, Sem.run, Question.forced, decide_eq_true_eq, hf, if_false, Question.cut]
      rfl⟩
/-- The step. -/
theorem run_nextE {P : Program} (hm : MpA w bm l c) (hi : Itr w bm r l since seen) (ty : TypeId) :
    (∃ w1, (w1 = w ∨ w1 = w.drew) ∧ (Instr.next (.pointer (some ⟨r, 0, none⟩)) false ty).run P w = .ok (.tuple #[.bool false]) w1 ∧ ∀ x ∈ l, x.b < since → x.b ∈ seen) ∨
    ∃ x ∈ l, ¬ x.b ∈ seen ∧ ∃ w1, (w1 = w ∨ w1 = w.drew) ∧ (Instr.next (.pointer (some ⟨r, 0, none⟩)) false ty).run P w = .ok (.tuple #[.bool true, .string x.s, .int .i64 x.v]) (setBlock w1 r (.mapIter (some bm) since (seen ++ [x.b]).toArray c)) := by
  obtain ⟨⟨c0, hr, hlast⟩, _, _⟩ := hi
  have hb := hm.1
  have hguard : (!seen.toArray.isEmpty && !(ents l).isEmpty && (ents l).all (fun x => decide (x.born ≥ c0))) = false := by
    rcases hlast with h | ⟨x, hx, hlt⟩
    · subst h; rfl
    · have : (ents l).all (fun x => decide (x.born ≥ c0)) = false := by
        rw [Array.all_eq_false]
        obtain ⟨j, hj, e⟩ := List.getElem_of_mem hx
        refine ⟨j, by simpa [ents] using hj, ?_⟩
        simp only [ents, List.getElem_toArray, List.getElem_map]
        rw [e]
        simp only [En.e, ge_iff_le, decide_eq_true_eq]
        omega
      rw [this, Bool.and_false]
  simp only [Instr.next, getObj, Sem.run_bind, Sem.run, hr, hb, Result.andThen, hguard, Bool.false_eq_true, if_false]
  generalize hL : (ents l).filter (fun e => !seen.toArray.contains e.born) = L
  have hmemL : ∀ e, e ∈ L.toList ↔ ∃ x ∈ l, x.e = e ∧ ¬ x.b ∈ seen := by
    intro e
    rw [← hL]
    simp only [Array.toList_filter, List.mem_filter, ents_list, List.mem_map, Bool.not_eq_true', List.contains_toArray]
    constructor
    · rintro ⟨⟨x, hx, rfl⟩, h2⟩
      exact ⟨x, hx, rfl, by simpa [En.e] using h2⟩
    · rintro ⟨x, hx, rfl, h2⟩
      exact ⟨⟨x, hx, rfl⟩, by simpa [En.e] using h2⟩
  generalize hO : L.filter (fun x => decide (x.born < since)) = O
  generalize hN : L.filter (fun x => decide (x.born ≥ since)) = N
  have hmemC : ∀ e, e ∈ (O ++ N).toList → e ∈ L.toList := by
    intro e he
    rw [← hO, ← hN] at he
    simp only [Array.toList_append, Array.toList_filter, List.mem_append, List.mem_filter] at he
    rcases he with h | h <;> exact h.1
  generalize hC : ((if O.isEmpty = true then #[none] else #[]) ++ (O ++ N).map some : Array (Option MapEntry)) = C
  have hCs : 0 < C.size := by
    rw [← hC]
    by_cases hE : O.isEmpty = true
    · rw [if_pos hE]; simp; omega
    · rw [if_neg hE]
      have : O.size ≠ 0 := fun e => hE (by simp [Array.isEmpty, e])
      simp
      omega
  obtain ⟨j, w1, hj, hal, hrun⟩ := run_chooseN (P := P) C.size hCs w
  have hcj : C[j]? = some C[j] := Array.getElem?_eq_getElem hj
  have hmem : C[j] ∈ C.toList := by simp
  generalize C[j] = cd at hcj hmem
  have hr1 : w1.heap[r]? = some (.mapIter (some bm) since seen.toArray c0) := by rcases hal with rfl | rfl <;> exact hr
  cases cd with
  | none =>
    left
    refine ⟨w1, hal, by simp only [hrun, hcj]; rfl, fun x hx hlt => ?_⟩
    have hE : O.isEmpty = true := by
      rw [← hC] at hmem
      by_cases hE : O.isEmpty = true
      · exact hE
      · rw [if_neg hE] at hmem
        simp at hmem
    by_cases hs : x.b ∈ seen
    · exact hs
    · exfalso
      have h1 : x.e ∈ L.toList := (hmemL _).2 ⟨x, hx, rfl, hs⟩
      have h2 : x.e ∈ O.toList := by
        rw [← hO]
        simp only [Array.toList_filter, List.mem_filter, decide_eq_true_eq]
        exact ⟨h1, hlt⟩
      have h3 : O = #[] := by simpa using hE
      rw [h3] at h2
      cases h2
  | some e =>
    right
    have he : e ∈ (O ++ N).toList := by
      rw [← hC] at hmem
      simp only [Array.toList_append, List.mem_append, Array.toList_map, List.mem_map] at hmem
      rcases hmem with h | ⟨y, hy, e1⟩
      · split at h <;> simp at h
      · simp only [Option.some.injEq] at e1
        subst e1
        simp only [Array.toList_append, List.mem_append]
        exact hy
    obtain ⟨x, hx, rfl, hns⟩ := (hmemL e).1 (hmemC e he)
    refine ⟨x, hx, hns, w1, hal, ?_⟩
    simp only [hrun, hcj, Sem.run_bind, Result.andThen, run_setObj_at hr1]
    have : seen.toArray.push x.b = (seen ++ [x.b]).toArray := by simp
    show Result.ok _ (setBlock w1 r (.mapIter (some bm) since (seen.toArray.push x.b) c)) = _
    rw [this]
    rfl
theorem run_entryE {P : Program} (hm : MpA w bm l c) {x : En} (hx : x ∈ l) (hr : w.heap[r]? = some (.mapIter (some bm) since (seen ++ [x.b]).toArray c)) :
    (Instr.entry (.pointer (some ⟨r, 0, none⟩))).run P w = .ok (.tuple #[.string x.s, .int .i64 x.v]) w := by
  have e : (seen ++ [x.b]).toArray = seen.toArray.push x.e.born := by simp [En.e]
  rw [e] at hr
  have hn : ((ents l).toList.map (·.born)).Nodup := by
    rw [ents_list, List.map_map, List.nodup_iff_pairwise_ne, List.pairwise_map]
    exact hm.2.brn
  have := run_entry_at (P := P) w r bm since seen.toArray (ents l) c x.e hr hm.1 (by rw [ents_list]; exact List.mem_map.2 ⟨x, hx, rfl⟩) hn
  exact this
end
end Go.Proofs.YteengjcplmjakaaGreatDoor

/- Maps entry by entry: the laws at the operations, for the walk. No condition but the keys' sizes. -/
namespace Go.Proofs.YteengjcplmjakaaGreatDoor
open Go.RowKit Go.Maps
open Go.ChangeMaps (setBlock)

theorem grown_setBlock {w : World} {bm : Nat} {l : List En} {c : Nat} (h : MpA w bm l c) (o : Obj) : w.grownBy (setBlock w bm o) (some bm) :=
  ⟨rfl, rfl, rfl, by simp [setBlock], fun i _ hi => ChangeMaps.heap_setBlock_other h.1 o (fun e => hi (by rw [e]))⟩
theorem size_setBlock (w : World) (b : Nat) (o : Obj) : (setBlock w b o).heap.size = w.heap.size := by simp [setBlock]
theorem MpA.put {w : World} {bm : Nat} {l : List En} {c : Nat} (h : MpA w bm l c) {s : ByteArray} (v : Int) (hs : s.size ≤ maxLen) : MpA (setBlock w bm (.map (ents (putE l c s v)) (putC l c s))) bm (putE l c s v) (putC l c s) :=
  ⟨ChangeMaps.heap_setBlock_same h.1 _, h.2.put v hs⟩
theorem MpA.del {w : World} {bm : Nat} {l : List En} {c : Nat} (h : MpA w bm l c) (s : ByteArray) : MpA (setBlock w bm (.map (ents (delE l s)) c)) bm (delE l s) c :=
  ⟨ChangeMaps.heap_setBlock_same h.1 _, h.2.del s⟩
theorem mok_nil : MOk [] 0 := ⟨.nil, .nil, by simp, by simp⟩
theorem MpA.made (w : World) : MpA (w.alloc (.map #[] 0)) w.heap.size [] 0 := ⟨(MapKept.heap_alloc w _).1, mok_nil⟩
section
variable {P : Program} {T K E : TypeId} (w : World) {ops : Array Oper} {rest : List Oper} {o : Oper} {a : Act} {Q : Exit → Act → World → Prop}
/-- 'v, ok := m[k]'. -/
theorem wpList_lookE2 (hg : o.guard = none) (m x : Operand) (hop : o.op = Op.lookup T m x true) (hk : P.underlying K = some .string) (ht : P.underlying T = some (.map K E)) (hz : (zeroValue E).run P w = .ok (.int .i64 0) w)
    (bm : Nat) (l : List En) (c : Nat) (hm : a.eval m = .map (some bm)) (h : MpA w bm l c) (s : ByteArray) (hx : a.eval x = .string s) (hs : s.size ≤ maxLen)
    (hK : wpList P ops Q rest (a.put o.dst (.tuple #[.int .i64 ((getE l s).getD 0), .bool (getE l s).isSome])) w) : wpList P ops Q (o :: rest) a w := by
  refine wpList_plain hg fun K' hK' => ?_
  have hrun := run_lookE true hk ht hz h.1 h.2 hs
  rw [if_pos rfl] at hrun
  unfold Oper.wp
  simp [execOp, hop, hm, hx, hrun, Result.andThen]
  exact hK' _ _ hK
/-- 'm[k]'. -/
theorem wpList_lookE1 (hg : o.guard = none) (m x : Operand) (hop : o.op = Op.lookup T m x false) (hk : P.underlying K = some .string) (ht : P.underlying T = some (.map K E)) (hz : (zeroValue E).run P w = .ok (.int .i64 0) w)
    (bm : Nat) (l : List En) (c : Nat) (hm : a.eval m = .map (some bm)) (h : MpA w bm l c) (s : ByteArray) (hx : a.eval x = .string s) (hs : s.size ≤ maxLen)
    (hK : wpList P ops Q rest (a.put o.dst (.int .i64 ((getE l s).getD 0))) w) : wpList P ops Q (o :: rest) a w := by
  refine wpList_plain hg fun K' hK' => ?_
  have hrun := run_lookE false hk ht hz h.1 h.2 hs
  rw [if_neg (by decide)] at hrun
  unfold Oper.wp
  simp [execOp, hop, hm, hx, hrun, Result.andThen]
  exact hK' _ _ hK
/-- 'm[k] = v'. -/
theorem wpList_putE (hg : o.guard = none) (m x v : Operand) (hop : o.op = Op.mapUpdate T m x v) (hk : P.underlying K = some .string) (ht : P.underlying T = some (.map K E))
    (bm : Nat) (l : List En) (c : Nat) (hm : a.eval m = .map (some bm)) (h : MpA w bm l c) (s : ByteArray) (z : Int) (hx : a.eval x = .string s) (hv : a.eval v = .int .i64 z) (hs : s.size ≤ maxLen)
    (hK : ∀ w', MpA w' bm (putE l c s z) (putC l c s) → w.grownBy w' (some bm) → w'.heap.size = w.heap.size → wpList P ops Q rest (a.put o.dst undef) w') : wpList P ops Q (o :: rest) a w := by
  refine wpList_plain hg fun K' hK' => ?_
  have hrun := run_putE hk ht h.1 h.2 hs z
  unfold Oper.wp
  simp [execOp, hop, hm, hx, hv, hrun, Result.andThen]
  exact hK' _ _ (hK _ (h.put z hs) (grown_setBlock h _) (size_setBlock _ _ _))
/-- 'delete(m, k)'. -/
theorem wpList_delE (hg : o.guard = none) (m x : Operand) (hop : o.op = Op.call { callee := Callee.builtin Builtin.delete, args := #[m, x], argTypes := #[T, K] }) (hk : P.underlying K = some .string) (ht : P.underlying T = some (.map K E))
    (bm : Nat) (l : List En) (c : Nat) (hm : a.eval m = .map (some bm)) (h : MpA w bm l c) (s : ByteArray) (hx : a.eval x = .string s) (hs : s.size ≤ maxLen)
    (hK : ∀ w', MpA w' bm (delE l s) c → w.grownBy w' (some bm) → w'.heap.size = w.heap.size → wpList P ops Q rest (a.put o.dst (.tuple #[])) w') : wpList P ops Q (o :: rest) a w := by
  refine wpList_plain hg fun K' hK' => ?_
  have hrun := run_delE hk ht h.1 h.2 hs o.type
  unfold Oper.wp
  simp [execOp, hop, resolve, invoke, builtin, hm, hx, hrun, Result.andThen]
  exact hK' _ _ (hK _ (h.del s) (grown_setBlock h _) (size_setBlock _ _ _))
/-- 'range m'. -/
theorem wpList_rangeE (hg : o.guard = none) (m : Operand) (hop : o.op = Op.range T m) (ht : P.underlying T = some (.map K E)) (bm : Nat) (l : List En) (c : Nat) (hm : a.eval m = .map (some bm)) (h : MpA w bm l c)
    (hK : ∀ w', MpA w' bm l c → Itr w' bm w.heap.size l c [] → w.grownBy w' none → w'.heap.size = w.heap.size + 1 → wpList P ops Q rest (a.put o.dst (.pointer (some ⟨w.heap.size, 0, none⟩))) w') : wpList P ops Q (o :: rest) a w := by
  refine wpList_plain hg fun K' hK' => ?_
  have hrun := run_range_map (P := P) w T K E bm (ents l) c ht h.1
  unfold Oper.wp
  simp [execOp, hop, hm, hrun, Result.andThen]
  exact hK' _ _ (hK _ (h.kept (World.grownBy_alloc w _ none) (by simp)) ⟨⟨c, (MapKept.heap_alloc w _).1, .inl rfl⟩, .nil, by simp⟩ (World.grownBy_alloc w _ none) (by simp))
/-- The step. -/
theorem wpList_nextE (hg : o.guard = none) (it : Operand) (hop : o.op = Op.next it false) (bm r : Nat) (l : List En) (c since : Nat) (seen : List Nat) (hit : a.eval it = .pointer (some ⟨r, 0, none⟩)) (h : MpA w bm l c) (hi : Itr w bm r l since seen)
    (hDone : ∀ w', w.grownBy w' none → w'.heap.size = w.heap.size → (∀ x ∈ l, x.b < since → x.b ∈ seen) → wpList P ops Q rest (a.put o.dst (.tuple #[.bool false])) w')
    (hMore : ∀ (x : En) (w' : World), x ∈ l → ¬ x.b ∈ seen → MpA w' bm l c → Itr w' bm r l since (seen ++ [x.b]) → w.grownBy w' (some r) → w'.heap.size = w.heap.size → (Instr.entry (.pointer (some ⟨r, 0, none⟩))).run P w' = .ok (.tuple #[.string x.s, .int .i64 x.v]) w' →
      wpList P ops Q rest (a.put o.dst (.tuple #[.bool true, .string x.s, .int .i64 x.v])) w') : wpList P ops Q (o :: rest) a w := by
  refine wpList_plain hg fun K' hK' => ?_
  unfold Oper.wp
  have hne := hi.ne h
  rcases run_nextE (P := P) h hi o.type with ⟨w1, hal, hrun, hall⟩ | ⟨x, hx, hns, w1, hal, hrun⟩
  · simp [execOp, hop, hit, hrun, Result.andThen]
    refine hK' _ _ (hDone w1 ?_ ?_ hall)
    · rcases hal with rfl | rfl
      · exact ⟨rfl, rfl, rfl, Nat.le_refl _, fun _ _ _ => rfl⟩
      · exact ⟨rfl, rfl, rfl, Nat.le_refl _, fun _ _ _ => rfl⟩
    · rcases hal with rfl | rfl <;> rfl
  · simp [execOp, hop, hit, hrun, Result.andThen]
    obtain ⟨⟨c0, hr, _⟩, hnd, hsub⟩ := hi
    have hr1 : w1.heap[r]? = some (.mapIter (some bm) since seen.toArray c0) := by rcases hal with rfl | rfl <;> exact hr
    have hb1 : w1.heap[bm]? = some (.map (ents l) c) := by rcases hal with rfl | rfl <;> exact h.1
    have hset := MapKept.heap_set (o' := .mapIter (some bm) since (seen ++ [x.b]).toArray c) hr1
    have hm' : MpA (setBlock w1 r (.mapIter (some bm) since (seen ++ [x.b]).toArray c)) bm l c := ⟨(hset.2 bm (fun e => hne e.symm)).trans hb1, h.2⟩
    have hnd' : (seen ++ [x.b]).Nodup := by
      rw [List.nodup_append]
      refine ⟨hnd, by simp, fun y hy z hz e => ?_⟩
      rw [List.mem_singleton] at hz
      subst hz
      exact hns (e ▸ hy)
    refine hK' _ _ (hMore x _ hx hns hm' ⟨⟨c, hset.1, .inr ⟨x, hx, h.2.old x hx⟩⟩, hnd', fun b hb => ?_⟩ ?_ ?_ (run_entryE hm' hx hset.1))
    · rcases List.mem_append.1 hb with hb | hb
      · exact hsub b hb
      · rw [List.mem_singleton] at hb; subst hb; exact ⟨x, hx, rfl⟩
    · rcases hal with rfl | rfl <;> exact ⟨rfl, rfl, rfl, by simp [setBlock], fun i _ hi => hset.2 i (fun e1 => hi (by rw [e1]))⟩
    · rcases hal with rfl | rfl <;> simp [setBlock]
end
end Go.Proofs.YteengjcplmjakaaGreatDoor

/- The program's side of delays: isUsed, lineOf, reach. Condition: the lengths. -/
namespace Go.Proofs.YteengjcplmjakaaGreatDoor
open Go.RowKit

def usT (s : ByteArray) (t : Tm) : Bool := t.k == 1 && decide (t.nm = s)
set_option maxRecDepth 100000 in
theorem c_isUsed1 (b : Nat) (s : ByteArray) (t : Tm) (w : World) (k0 : w.cell? ⟨b, 0, none⟩ = some (.string s)) :
    Calls Tryz.prog 169 #[.agg #[.int .i64 t.k, .string t.nm, .int .i64 t.n], .pointer (some ⟨b, 0, none⟩)] w fun e w' => e = .returned (.bool (usT s t)) ∧ Below w.heap.size w w' := by
  obtain ⟨tk, tn, tx⟩ := t
  dsimp only
  have HV : Hid (usT s ⟨tk, tn, tx⟩ = (tk == 1 && decide (tn = s))) := Lib.hid rfl
  generalize usT s ⟨tk, tn, tx⟩ = R at *
  have hb0 := World.block_lt_of_cell? _ _ k0
  dsimp only at hb0
  have B0 := Lib.hid (below_alloc (Below.refl w.heap.size w) (.cells #[.int .i64 tk, .string tn, .int .i64 tx] 60))
  have m0 : (w.alloc (.cells #[.int .i64 tk, .string tn, .int .i64 tx] 60)).cell? ⟨w.heap.size, 0, none⟩ = some (.int .i64 tk) := by go_simp
  have m1 : (w.alloc (.cells #[.int .i64 tk, .string tn, .int .i64 tx] 60)).cell? ⟨w.heap.size, 1, none⟩ = some (.string tn) := by go_simp
  replace k0 := cell_later B0.out k0
  go_enter Tryz.func169, Tryz.ntmps169
  go_upto_region 1 with (fail)
  generalize w.alloc (.cells #[.int .i64 tk, .string tn, .int .i64 tx] 60) = W at *
  by_cases hk : tk = 1
  rotate_left
  · have hkb : (tk == 1) = false := by simpa using hk
    obtain rfl : R = false := by rw [HV.out, hkb]; rfl
    clear hk
    go_wp2_with (fail)
    go_ret
    exact ⟨rfl, B0.out⟩
  subst hk
  by_cases he : tn = s
  · subst he
    have heq : (tn.toList == tn.toList) = true := by simp
    obtain rfl : R = true := by rw [HV.out]; simp
    go_wp2_with (fail)
    go_ret
    exact ⟨rfl, B0.out⟩
  · have heq : (tn.toList == s.toList) = false := by rw [beq_str]; exact decide_eq_false he
    obtain rfl : R = false := by rw [HV.out, decide_eq_false he]; rfl
    clear he
    go_wp2_with (fail)
    go_ret
    exact ⟨rfl, B0.out⟩
set_option maxHeartbeats 1000000 in
set_option maxRecDepth 100000 in
theorem c_isUsed (tg : ByteArray) (ts : List Tm) (la : Option Addr) (lc : Nat) (s : ByteArray) (w : World) (hl : ts.length ≤ 1048576) (hr : Rd w la (tmCells ts)) :
    Calls Tryz.prog 126 #[.agg #[.string tg, .slice la ts.length lc], .string s] w fun e w' => e = .returned (.bool (usB s ⟨tg, ts⟩)) ∧ Below w.heap.size w w' := by
  have HC := Lib.hid (fun (b : Nat) (w : World) (k0 : w.cell? ⟨b, 0, none⟩ = some (.string s)) (hr : Rd w la (tmCells ts)) =>
    c_ContainsTc 169 (.pointer (some ⟨b, 0, none⟩)) (usT s) la lc _ ts w rfl (by omega) hr (Lib.hid (fun wr x _ hb => c_isUsed1 b s x wr (cell_later hb k0))) (enter_of Tryz.func169 (by kernel_rfl) rfl))
  have HV : Hid (usB s ⟨tg, ts⟩ = ts.any (usT s)) := Lib.hid rfl
  have HR := Lib.hid hr
  rw [HV.out]
  clear HV
  generalize ts.any (usT s) = q at *
  generalize ts.length = tn at *
  have B0 := Lib.hid (below_alloc (below_alloc (Below.refl w.heap.size w) (.cells #[.string tg, .slice la tn lc] 80)) (.cells #[.string s] 9))
  have g1 : ((w.alloc (.cells #[.string tg, .slice la tn lc] 80)).alloc (.cells #[.string s] 9)).cell? ⟨w.heap.size, 1, none⟩ = some (.slice la tn lc) := by go_simp
  have k0 : ((w.alloc (.cells #[.string tg, .slice la tn lc] 80)).alloc (.cells #[.string s] 9)).cell? ⟨w.heap.size + 1, 0, none⟩ = some (.string s) := by go_simp
  have HCC := Lib.hid (HC.out (w.heap.size + 1) _ k0 (HR.out.below B0.out))
  have hmf : ∀ (fn : Fn) (first cap : Array Value) (w : World), (Instr.makeFunc fn first cap).run Tryz.prog w = .ok (.func fn first cap) w := fun _ _ _ _ => rfl
  clear hl hr HC k0
  go_enter Tryz.func126, Tryz.ntmps126
  go_upto_region 1 with (fail)
  generalize (w.alloc (.cells #[.string tg, .slice la tn lc] 80)).alloc (.cells #[.string s] 9) = W at *
  go_wp2_with (fail)
  refine HCC.out.mono ?_
  rintro e w1 ⟨rfl, hb⟩
  have B1 := Lib.hid (below_chain B0.out hb)
  clear hb g1 HCC
  go_wp2_with (fail)
  go_ret
  exact ⟨rfl, B1.out⟩
def tgE (s : ByteArray) (l : Lin) : Bool := decide (l.tg = s)
theorem idx_tg (s : ByteArray) : ∀ l : List Lin, idxI (tgE s) l = ixS (l.map Lin.tg) s
  | [] => rfl
  | x :: l => by
    have ih := idx_tg s l
    have hb := ixS_bd s (l.map Lin.tg)
    rw [List.map_cons]
    show idxI (tgE s) (x :: l) = if x.tg = s then 0 else if ixS (l.map Lin.tg) s = -1 then -1 else ixS (l.map Lin.tg) s + 1
    rw [← ih]
    unfold idxI at ih ⊢
    rw [List.findIdx?_cons]
    unfold tgE
    by_cases h : x.tg = s
    · rw [decide_eq_true h, if_pos rfl, if_pos h]; rfl
    · rw [decide_eq_false h, if_neg (by decide), if_neg h]
      cases e : List.findIdx? (fun l : Lin => decide (l.tg = s)) l with
      | none => rfl
      | some k =>
        show ((k + 1 : Nat) : Int) = if (k : Int) = -1 then -1 else (k : Int) + 1
        rw [if_neg (by omega)]
        omega
set_option maxRecDepth 100000 in
theorem c_lineOf1 (b : Nat) (s : ByteArray) (tg : ByteArray) (a : Option Addr) (n c : Nat) (w : World) (k0 : w.cell? ⟨b, 0, none⟩ = some (.string s)) :
    Calls Tryz.prog 170 #[.agg #[.string tg, .slice a n c], .pointer (some ⟨b, 0, none⟩)] w fun e w' => e = .returned (.bool (decide (tg = s))) ∧ Below w.heap.size w w' := by
  have hb0 := World.block_lt_of_cell? _ _ k0
  dsimp only at hb0
  have B0 := Lib.hid (below_alloc (Below.refl w.heap.size w) (.cells #[.string tg, .slice a n c] 80))
  have m0 : (w.alloc (.cells #[.string tg, .slice a n c] 80)).cell? ⟨w.heap.size, 0, none⟩ = some (.string tg) := by go_simp
  replace k0 := cell_later B0.out k0
  have heq : (tg.toList == s.toList) = decide (tg = s) := beq_str tg s
  generalize decide (tg = s) = R at *
  go_enter Tryz.func170, Tryz.ntmps170
  go_upto_region 1 with (fail)
  generalize w.alloc (.cells #[.string tg, .slice a n c] 80) = W at *
  go_wp2_with (fail)
  go_ret
  exact ⟨rfl, B0.out⟩
set_option maxHeartbeats 1000000 in
set_option maxRecDepth 100000 in
theorem c_lineOf (p : Prg) (a1 a2 a3 a4 : Option Addr) (c1 c2 c3 c4 : Nat) (s : ByteArray) (w : World) (hs : p.ls.length ≤ 1048576) (h : PgR w a1 a2 a3 a4 p) :
    Calls Tryz.prog 127 #[pv p a1 a2 a3 a4 c1 c2 c3 c4, .string s] w fun e w' => e = .returned (.int .i64 (ixS (tgs p) s)) ∧ Below w.heap.size w w' := by
  have HC := Lib.hid (fun (b : Nat) (w : World) (k0 : w.cell? ⟨b, 0, none⟩ = some (.string s)) (hl : Ll w a4 p.ls) =>
    c_IndexLc 170 (.pointer (some ⟨b, 0, none⟩)) (tgE s) a4 c4 p.ls.length p.ls w rfl (by omega) hl (Lib.hid (fun wr x a c _ hb _ => c_lineOf1 b s x.tg a x.ts.length c wr (cell_later hb k0))) (enter_of Tryz.func170 (by kernel_rfl) rfl))
  have H := Lib.hid h
  have HV : Hid (idxI (tgE s) p.ls = ixS (tgs p) s) := Lib.hid (idx_tg s p.ls)
  have hw : IntKind.i64.wrap (idxI (tgE s) p.ls) = idxI (tgE s) p.ls := by
    have h1 := ixS_bd s (tgs p)
    have h2 : (tgs p).length = p.ls.length := by unfold tgs; simp
    rw [HV.out]
    exact IntWalk.i64_in _ (by omega)
  rw [← HV.out]
  clear HV
  generalize idxI (tgE s) p.ls = q at *
  have B0 := Lib.hid (below_alloc (below_alloc (Below.refl w.heap.size w) (.cells #[.string p.nm, .slice a1 p.ins.length c1, .slice a2 p.vs.length c2, .slice a3 p.os.length c3, .string p.gd, .slice a4 p.ls.length c4] 27)) (.cells #[.string s] 9))
  have k5 : ((w.alloc (.cells #[.string p.nm, .slice a1 p.ins.length c1, .slice a2 p.vs.length c2, .slice a3 p.os.length c3, .string p.gd, .slice a4 p.ls.length c4] 27)).alloc (.cells #[.string s] 9)).cell? ⟨w.heap.size, 5, none⟩ = some (.slice a4 p.ls.length c4) := by go_simp
  have k0 : ((w.alloc (.cells #[.string p.nm, .slice a1 p.ins.length c1, .slice a2 p.vs.length c2, .slice a3 p.os.length c3, .string p.gd, .slice a4 p.ls.length c4] 27)).alloc (.cells #[.string s] 9)).cell? ⟨w.heap.size + 1, 0, none⟩ = some (.string s) := by go_simp
  have HCC := Lib.hid (HC.out (w.heap.size + 1) _ k0 (H.out.l.below B0.out))
  have hmf : ∀ (fn : Fn) (first cap : Array Value) (w : World), (Instr.makeFunc fn first cap).run Tryz.prog w = .ok (.func fn first cap) w := fun _ _ _ _ => rfl
  clear hs h HC k0
  go_enter Tryz.func127, Tryz.ntmps127
  dsimp only [pv]
  go_upto_region 1 with (fail)
  generalize (w.alloc (.cells #[.string p.nm, .slice a1 p.ins.length c1, .slice a2 p.vs.length c2, .slice a3 p.os.length c3, .string p.gd, .slice a4 p.ls.length c4] 27)).alloc (.cells #[.string s] 9) = W at *
  go_wp2_with (fail)
  refine HCC.out.mono ?_
  rintro e w1 ⟨rfl, hb⟩
  have B1 := Lib.hid (below_chain B0.out hb)
  clear hb k5 HCC
  go_wp2_with (fail)
  go_ret
  exact ⟨rfl, B1.out⟩
theorem zero_int (w : World) : (zeroValue 2).run Tryz.prog w = .ok (.int .i64 0) w := by kernel_rfl
set_option maxHeartbeats 1000000 in
set_option maxRecDepth 100000 in
theorem c_reach (bf bm : Nat) (l : List En) (c : Nat) (s : ByteArray) (v : Int) (w : World) (hs : s.size ≤ maxLen) (k0 : w.cell? ⟨bf, 0, none⟩ = some (.map (some bm))) (hm : MpA w bm l c) :
    Calls Tryz.prog 125 #[.string s, .int .i64 v, .pointer (some ⟨bf, 0, none⟩)] w fun e w' => e = .returned (.bool (rB l s v)) ∧ MpA w' bm (rL l c s v) (rC l c s v) ∧ w.grownBy w' (some bm) ∧ w'.heap.size = w.heap.size := by
  have HM := Lib.hid hm
  have HV : Hid ((rB l s v = false ∧ rL l c s v = l ∧ rC l c s v = c) ∨ (rB l s v = true ∧ rL l c s v = putE l c s v ∧ rC l c s v = putC l c s)) := Lib.hid (by
    unfold rL rC
    cases rB l s v
    · exact .inl ⟨rfl, rfl, rfl⟩
    · exact .inr ⟨rfl, rfl, rfl⟩)
  have HBN : Hid (getE l s = none → rB l s v = true) := Lib.hid (fun h => by unfold rB; rw [h])
  have HBS : Hid (∀ old, getE l s = some old → rB l s v = !decide (old ≤ v)) := Lib.hid (fun old h => by unfold rB; rw [h])
  clear hm
  generalize rB l s v = R at *
  generalize rL l c s v = L2 at *
  generalize rC l c s v = C2 at *
  have HG : Hid (w.grownBy w (some bm)) := Lib.hid ⟨rfl, rfl, rfl, Nat.le_refl _, fun _ _ _ => rfl⟩
  go_enter Tryz.func125, Tryz.ntmps125
  rcases hg : getE l s with _ | old
  · obtain ⟨rfl, rfl, rfl⟩ : R = true ∧ L2 = putE l c s v ∧ C2 = putC l c s := by
      rcases HV.out with ⟨h1, _⟩ | h1
      · have := HBN.out hg; rw [h1] at this; cases this
      · exact h1
    have e1 : (getE l s).isSome = false := by rw [hg]; rfl
    have e2 : (getE l s).getD 0 = 0 := by rw [hg]; rfl
    clear HV HBN HBS
    go_wp2_with (first
      | (at_lookup
         refine wpList_lookE2 _ rfl (.tmp 9) (.tmp 10) rfl Tryz.underlying9 Tryz.underlying114 (zero_int _) bm l c rfl HM.out s rfl hs ?_
         rw [e1, e2])
      | (at_mapUpdate
         refine wpList_putE _ rfl (.tmp 20) (.tmp 21) (.tmp 22) rfl Tryz.underlying9 Tryz.underlying114 bm l c rfl HM.out s v rfl rfl hs ?_
         intro w2 hm2 hg2 hz2)
      )
    go_ret
    exact ⟨rfl, hm2, hg2, hz2⟩
  · have e1 : (getE l s).isSome = true := by rw [hg]; rfl
    have e2 : (getE l s).getD 0 = old := by rw [hg]; rfl
    have HB := Lib.hid (HBS.out old hg)
    by_cases hle : old ≤ v
    · obtain ⟨rfl, rfl, rfl⟩ : R = false ∧ L2 = l ∧ C2 = c := by
        rcases HV.out with h1 | ⟨h1, _⟩
        · exact h1
        · have := HB.out; rw [h1, decide_eq_true hle] at this; cases this
      clear HV HB HBN HBS
      go_wp2_with (first
        | (at_lookup
           refine wpList_lookE2 _ rfl (.tmp 9) (.tmp 10) rfl Tryz.underlying9 Tryz.underlying114 (zero_int _) bm _ _ rfl HM.out s rfl hs ?_
           rw [e1, e2])
        )
      go_ret
      exact ⟨rfl, HM.out, HG.out, rfl⟩
    · obtain ⟨rfl, rfl, rfl⟩ : R = true ∧ L2 = putE l c s v ∧ C2 = putC l c s := by
        rcases HV.out with ⟨h1, _⟩ | h1
        · have := HB.out; rw [h1, decide_eq_false hle] at this; cases this
        · exact h1
      clear HV HB HBN HBS
      go_wp2_with (first
        | (at_lookup
           refine wpList_lookE2 _ rfl (.tmp 9) (.tmp 10) rfl Tryz.underlying9 Tryz.underlying114 (zero_int _) bm l c rfl HM.out s rfl hs ?_
           rw [e1, e2])
        | (at_mapUpdate
           refine wpList_putE _ rfl (.tmp 20) (.tmp 21) (.tmp 22) rfl Tryz.underlying9 Tryz.underlying114 bm l c rfl HM.out s v rfl rfl hs ?_
           intro w2 hm2 hg2 hz2)
        )
      go_ret
      exact ⟨rfl, hm2, hg2, hz2⟩
end Go.Proofs.YteengjcplmjakaaGreatDoor

/- What the search of delays keeps of memory; its measure. No condition. -/
namespace Go.Proofs.YteengjcplmjakaaGreatDoor
open Go.RowKit

def decE (e : MapEntry) : En := ⟨(match e.key with | .string s => s | _ => ⟨#[]⟩), (match e.val with | .int _ v => v | _ => 0), e.born⟩
theorem decE_e (x : En) : decE x.e = x := rfl
/-- The measure of the search, read off memory. -/
def phiW (p : Prg) (inp : ByteArray) (w : World) (bm : Nat) : Nat := match w.heap[bm]? with | some (.map es _) => phi p inp (es.toList.map decE) | _ => 0
theorem phiW_eq {p : Prg} {inp : ByteArray} {w : World} {bm : Nat} {l : List En} {c : Nat} (h : MpA w bm l c) : phiW p inp w bm = phi p inp l := by
  unfold phiW
  rw [h.1]
  show phi p inp ((ents l).toList.map decE) = _
  rw [ents_list, List.map_map]
  congr 1
  exact (List.map_congr_left (fun x _ => decE_e x)).trans (List.map_id l)
/-- The search's memory: the program's box, the variable's box, the map. -/
structure DS (w wr : World) (b0 bf bm : Nat) (p : Prg) (a1 a2 a3 a4 : Option Addr) (c1 c2 c3 c4 : Nat) (l : List En) (c : Nat) : Prop where
  pb : PB wr b0 p a1 a2 a3 a4 c1 c2 c3 c4
  kf : wr.cell? ⟨bf, 0, none⟩ = some (.map (some bm))
  mp : MpA wr bm l c
  bel : Below w.heap.size w wr
  n1 : b0 ≠ bm
  n2 : bf ≠ bm
  n3 : w.heap.size ≤ bm
section
variable {w wr w' : World} {b0 bf bm : Nat} {p : Prg} {a1 a2 a3 a4 : Option Addr} {c1 c2 c3 c4 : Nat} {l l' : List En} {c c' : Nat}
theorem DS.below (h : DS w wr b0 bf bm p a1 a2 a3 a4 c1 c2 c3 c4 l c) (hb : Below wr.heap.size wr w') : DS w w' b0 bf bm p a1 a2 a3 a4 c1 c2 c3 c4 l c :=
  ⟨h.pb.below hb, cell_later hb h.kf, h.mp.below hb, below_chain h.bel hb, h.n1, h.n2, h.n3⟩
theorem cell_g {row : Option Nat} {a : Addr} {v : Value} (h : wr.cell? a = some v) (hg : wr.grownBy w' row) (hne : ∀ q, row = some q → a.block ≠ q) : w'.cell? a = some v :=
  (hg.cell_far a (World.block_lt_of_cell? wr a h) (fun h' => hne _ h'.symm rfl)).trans h
theorem PB.far {row : Option Nat} (h : PB wr b0 p a1 a2 a3 a4 c1 c2 c3 c4) (hg : wr.grownBy w' row) (hne : ∀ q, row = some q → b0 ≠ q) : PB w' b0 p a1 a2 a3 a4 c1 c2 c3 c4 :=
  ⟨cell_g h.1 hg hne, cell_g h.2.1 hg hne, cell_g h.2.2.1 hg hne, cell_g h.2.2.2.1 hg hne, cell_g h.2.2.2.2.1 hg hne, cell_g h.2.2.2.2.2 hg hne⟩
theorem DS.put (h : DS w wr b0 bf bm p a1 a2 a3 a4 c1 c2 c3 c4 l c) (hm : MpA w' bm l' c') (hg : wr.grownBy w' (some bm)) : DS w w' b0 bf bm p a1 a2 a3 a4 c1 c2 c3 c4 l' c' :=
  ⟨h.pb.far hg (fun q hq => by cases hq; exact h.n1), cell_g h.kf hg (fun q hq => by cases hq; exact h.n2), hm, below_of_grown h.bel hg (fun q hq => by cases hq; exact h.n3), h.n1, h.n2, h.n3⟩
theorem DS.other {row : Option Nat} (h : DS w wr b0 bf bm p a1 a2 a3 a4 c1 c2 c3 c4 l c) (hm : MpA w' bm l c) (hg : wr.grownBy w' row) (hr : ∀ q, row = some q → b0 ≠ q ∧ bf ≠ q ∧ w.heap.size ≤ q) : DS w w' b0 bf bm p a1 a2 a3 a4 c1 c2 c3 c4 l c :=
  ⟨h.pb.far hg (fun q hq => (hr q hq).1), cell_g h.kf hg (fun q hq => (hr q hq).2.1), hm, below_of_grown h.bel hg (fun q hq => (hr q hq).2.2), h.n1, h.n2, h.n3⟩
end
/-- The memory within the range over the map: the iterator and the line's box too. -/
structure DI (w wr : World) (b0 bf bm r bl : Nat) (p : Prg) (a1 a2 a3 a4 : Option Addr) (c1 c2 c3 c4 : Nat) (tg : ByteArray) (la : Option Addr) (n lc : Nat) (l : List En) (c since : Nat) (seen : List Nat) : Prop where
  ds : DS w wr b0 bf bm p a1 a2 a3 a4 c1 c2 c3 c4 l c
  it : Itr wr bm r l since seen
  x0 : wr.cell? ⟨bl, 0, none⟩ = some (.string tg)
  x1 : wr.cell? ⟨bl, 1, none⟩ = some (.slice la n lc)
  m1 : bl ≠ bm
  m2 : r ≠ b0 ∧ r ≠ bf ∧ r ≠ bl ∧ r ≠ bm ∧ w.heap.size ≤ r
section
variable {w wr w' : World} {b0 bf bm r bl : Nat} {p : Prg} {a1 a2 a3 a4 : Option Addr} {c1 c2 c3 c4 : Nat} {tg : ByteArray} {la : Option Addr} {n lc : Nat} {l l' : List En} {c c' since : Nat} {seen seen' : List Nat}
theorem DI.below (h : DI w wr b0 bf bm r bl p a1 a2 a3 a4 c1 c2 c3 c4 tg la n lc l c since seen) (hb : Below wr.heap.size wr w') : DI w w' b0 bf bm r bl p a1 a2 a3 a4 c1 c2 c3 c4 tg la n lc l c since seen :=
  ⟨h.ds.below hb, h.it.below hb, cell_later hb h.x0, cell_later hb h.x1, h.m1, h.m2⟩
theorem DI.step (h : DI w wr b0 bf bm r bl p a1 a2 a3 a4 c1 c2 c3 c4 tg la n lc l c since seen) (hm : MpA w' bm l c) (hi : Itr w' bm r l since seen') (hg : wr.grownBy w' (some r)) : DI w w' b0 bf bm r bl p a1 a2 a3 a4 c1 c2 c3 c4 tg la n lc l c since seen' :=
  ⟨h.ds.other hm hg (fun q hq => by cases hq; exact ⟨fun e => h.m2.1 e.symm, fun e => h.m2.2.1 e.symm, h.m2.2.2.2.2⟩), hi, cell_g h.x0 hg (fun q hq => by cases hq; exact fun e => h.m2.2.2.1 e.symm), cell_g h.x1 hg (fun q hq => by cases hq; exact fun e => h.m2.2.2.1 e.symm), h.m1, h.m2⟩
theorem DI.put (h : DI w wr b0 bf bm r bl p a1 a2 a3 a4 c1 c2 c3 c4 tg la n lc l c since seen) {s : ByteArray} {v : Int} (hm : MpA w' bm (rL l c s v) (rC l c s v)) (hg : wr.grownBy w' (some bm)) : DI w w' b0 bf bm r bl p a1 a2 a3 a4 c1 c2 c3 c4 tg la n lc (rL l c s v) (rC l c s v) since seen := by
  have hr : w'.heap[r]? = wr.heap[r]? := hg.block r h.it.lt (fun e => h.m2.2.2.2.1 (by simpa using e))
  refine ⟨h.ds.put hm hg, ?_, cell_g h.x0 hg (fun q hq => by cases hq; exact h.m1), cell_g h.x1 hg (fun q hq => by cases hq; exact h.m1), h.m1, h.m2⟩
  unfold rL
  split
  · exact h.it.put s v hr
  · obtain ⟨⟨c0, h1, h2⟩, h3, h4⟩ := h.it
    exact ⟨⟨c0, hr.trans h1, h2⟩, h3, h4⟩
end
/-- How far a sweep has come: something has changed and the search is nearer its end, or nothing has. -/
def SwP (p : Prg) (inp : ByteArray) (l0 : List En) (i : Nat) (ch : Bool) (l : List En) : Prop :=
  (ch = true ∧ phi p inp l < phi p inp l0) ∨ (ch = false ∧ l = l0 ∧ ∀ (j : Nat) (ln : Lin), j < i → p.ls[j]? = some ln → ∀ x ∈ l0, ClD p inp l0 j ln x)
/-- .. within a line's range. -/
def SwI (p : Prg) (inp : ByteArray) (l0 : List En) (i : Nat) (ln : Lin) (since : Nat) (seen : List Nat) (ch : Bool) (l : List En) : Prop :=
  (ch = true ∧ phi p inp l < phi p inp l0) ∨ (ch = false ∧ l = l0 ∧ (∀ (j : Nat) (ln : Lin), j < i → p.ls[j]? = some ln → ∀ x ∈ l0, ClD p inp l0 j ln x) ∧ (∀ x ∈ l0, x.b < since) ∧ ∀ x ∈ l0, x.b ∈ seen → ClD p inp l0 i ln x)
theorem SwP.enter {p : Prg} {inp : ByteArray} {l0 l : List En} {i : Nat} {ch : Bool} {c : Nat} (h : SwP p inp l0 i ch l) (ln : Lin) (hm : MOk l c) : SwI p inp l0 i ln c [] ch l := by
  rcases h with h | ⟨h1, h2, h3⟩
  · exact .inl h
  · subst h2
    exact .inr ⟨h1, rfl, h3, hm.old, fun x _ hb => by cases hb⟩
theorem SwI.leave {p : Prg} {inp : ByteArray} {l0 l : List En} {i : Nat} {ln : Lin} {ch : Bool} {since : Nat} {seen : List Nat} (h : SwI p inp l0 i ln since seen ch l) (hl : p.ls[i]? = some ln) (hd : ∀ x ∈ l, x.b < since → x.b ∈ seen) : SwP p inp l0 (i + 1) ch l := by
  rcases h with h | ⟨h1, h2, h3, h4, h5⟩
  · exact .inl h
  · refine .inr ⟨h1, h2, fun j lj hj hlj x hx => ?_⟩
    rcases Nat.lt_or_ge j i with hlt | hge
    · exact h3 j lj hlt hlj x hx
    · have : j = i := by omega
      subst this
      rw [hl] at hlj
      simp only [Option.some.injEq] at hlj
      subst hlj
      exact h5 x hx (hd x (h2 ▸ hx) (h4 x hx))
theorem born_one {l : List En} {c : Nat} (hm : MOk l c) {x y : En} (hx : x ∈ l) (hy : y ∈ l) (e : x.b = y.b) : x = y := by
  obtain ⟨i, hi, ei⟩ := List.getElem_of_mem hx
  obtain ⟨j, hj, ej⟩ := List.getElem_of_mem hy
  have hp := hm.brn
  rw [List.pairwise_iff_getElem] at hp
  rcases Nat.lt_trichotomy i j with h | h | h
  · exact absurd (by rw [ei, ej]; exact e) (hp i j hi hj h)
  · subst h; exact ei.symm.trans ej
  · exact absurd (by rw [ei, ej]; exact e.symm) (hp j i hj hi h)
/-- An entry that is not used in the line. -/
theorem SwI.pass {p : Prg} {inp : ByteArray} {l0 l : List En} {i : Nat} {ln : Lin} {ch : Bool} {since c : Nat} {seen : List Nat} {x : En} (h : SwI p inp l0 i ln since seen ch l) (hm : MOk l c) (hx : x ∈ l) (hc : ClD p inp l i ln x) : SwI p inp l0 i ln since (seen ++ [x.b]) ch l := by
  rcases h with h | ⟨h1, h2, h3, h4, h5⟩
  · exact .inl h
  · subst h2
    refine .inr ⟨h1, rfl, h3, h4, fun y hy hb => ?_⟩
    rcases List.mem_append.1 hb with hb | hb
    · exact h5 y hy hb
    · rw [List.mem_singleton] at hb
      have := born_one hm hy hx hb
      subst this
      exact hc
/-- An entry that is used in the line. -/
theorem SwI.use {p : Prg} {inp : ByteArray} {l0 l : List En} {i : Nat} {ln : Lin} {ch : Bool} {since c : Nat} {seen : List Nat} {x : En} (h : SwI p inp l0 i ln since seen ch l) (hv : Inv p inp l) (hm : MOk l c) (hl : p.ls[i]? = some ln) (hx : x ∈ l) :
    SwI p inp l0 i ln since (seen ++ [x.b]) (rB l ln.tg (x.v + wN p inp i x.s) || ch) (rL l c ln.tg (x.v + wN p inp i x.s)) := by
  cases hb : rB l ln.tg (x.v + wN p inp i x.s) with
  | true =>
    have e : rL l c ln.tg (x.v + wN p inp i x.s) = putE l c ln.tg (x.v + wN p inp i x.s) := by unfold rL; rw [hb]; rfl
    rw [e]
    have hlt := phi_store hv hm hl hx hb
    refine .inl ⟨rfl, ?_⟩
    rcases h with ⟨_, h⟩ | ⟨_, h, _⟩
    · omega
    · rw [h] at hlt ⊢; exact hlt
  | false =>
    have e : rL l c ln.tg (x.v + wN p inp i x.s) = l := by unfold rL; rw [hb]; rfl
    rw [e, Bool.false_or]
    exact h.pass hm hx (clD_of hb)
theorem Inv.r {p : Prg} {inp : ByteArray} {l : List En} {c : Nat} (hn : Nmd p) (hi : inp ∈ p.ins) (h : Inv p inp l) (hm : MOk l c) {i : Nat} {ln : Lin} {x : En} (hl : p.ls[i]? = some ln) (hx : x ∈ l) (hu : usB x.s ln = true) : Inv p inp (rL l c ln.tg (x.v + wN p inp i x.s)) := by
  unfold rL
  cases hb : rB l ln.tg (x.v + wN p inp i x.s) with
  | true => rw [if_pos rfl]; exact h.store hn hi hm hl hx hu hb
  | false => rw [if_neg (by decide)]; exact h
theorem gL_snoc (g : Int) (s : ByteArray) : ∀ (r : List ByteArray) (l : List En) (c : Nat), gL l c g (r ++ [s]) = (rL (gL l c g r).1 (gL l c g r).2 s g, rC (gL l c g r).1 (gL l c g r).2 s g)
  | [], _, _ => rfl
  | t :: r, l, c => gL_snoc g s r (rL l c t g) (rC l c t g)
end Go.Proofs.YteengjcplmjakaaGreatDoor

/- The program's delays: the map holds what the reference's rounds give. Condition: the program is sound, the input is one of its inputs; the lengths. -/
namespace Go.Proofs.YteengjcplmjakaaGreatDoor
open Go.RowKit

/-- What is handed back: a map of the call's own with the delays. -/
def RetDm (p : Prg) (inp : ByteArray) (w : World) (e : Ending) (w' : World) : Prop :=
  ∃ bm l c f, e = .returned (.map (some bm)) ∧ MpA w' bm l c ∧ Below w.heap.size w w' ∧ Fix p inp f ∧ (∀ s, getE l s = if s = inp then none else fG p f s) ∧ w.heap.size ≤ bm
theorem rL_start (inp : ByteArray) : rL [] 0 inp 1 = [⟨inp, 1, 0⟩] := rfl
theorem retDm_of {p : Prg} {inp : ByteArray} {w wr w' : World} {b0 bf bm : Nat} {a1 a2 a3 a4 : Option Addr} {c1 c2 c3 c4 : Nat} {l L : List En} {c c' : Nat} (hf : Fix p inp (getE l)) (hL : ∀ s, getE L s = fG p (getE l) s) (hd : DS w wr b0 bf bm p a1 a2 a3 a4 c1 c2 c3 c4 L c) (hm : MpA w' bm (delE L inp) c') (hg : wr.grownBy w' (some bm)) : RetDm p inp w (.returned (.map (some bm))) w' :=
  ⟨bm, _, _, getE l, rfl, hm, (hd.put hm hg).bel, hf, fun s => by rw [getE_del, hL], hd.n3⟩
theorem DS.kfar {p : Prg} {w wr w' : World} {b0 bf bm : Nat} {a1 a2 a3 a4 : Option Addr} {c1 c2 c3 c4 : Nat} {L : List En} {c : Nat} (hd : DS w wr b0 bf bm p a1 a2 a3 a4 c1 c2 c3 c4 L c) (hg : wr.grownBy w' (some bm)) : w'.cell? ⟨bf, 0, none⟩ = some (.map (some bm)) :=
  cell_g hd.kf hg (fun q hq => by cases hq; exact hd.n2)
def bitV : Value → Nat | .bool true => 1 | _ => 0
theorem SwP.done {p : Prg} {inp : ByteArray} {l0 l : List En} {ch : Bool} (h : SwP p inp l0 p.ls.length ch l) : ch = false → ∀ (i : Nat) (ln : Lin), p.ls[i]? = some ln → ∀ x ∈ l, ClD p inp l i ln x := by
  intro hc i ln hl x hx
  rcases h with ⟨h, _⟩ | ⟨_, rfl, h⟩
  · rw [hc] at h; cases h
  · exact h i ln (List.getElem?_eq_some_iff.1 hl).1 hl x hx
theorem SwP.meas {p : Prg} {inp : ByteArray} {l0 l : List En} {i : Nat} {ch : Bool} (h : SwP p inp l0 i ch l) : 2 * phi p inp l + bitV (.bool ch) < 2 * phi p inp l0 + bitV (.bool true) := by
  have h1 : bitV (.bool true) = 1 := rfl
  have h0 : bitV (.bool false) = 0 := rfl
  rcases h with ⟨rfl, h⟩ | ⟨rfl, rfl, _⟩ <;> omega
set_option maxHeartbeats 4000000 in
set_option maxRecDepth 100000 in
theorem c_delays (p : Prg) (a1 a2 a3 a4 : Option Addr) (c1 c2 c3 c4 : Nat) (inp : ByteArray) (w : World) (hs : PgOk p) (hbd : PgB p) (hn : Nmd p) (hi : inp ∈ p.ins) (h : PgR w a1 a2 a3 a4 p) :
    Calls Tryz.prog 78 #[pv p a1 a2 a3 a4 c1 c2 c3 c4, .string inp] w (RetDm p inp w) := by
  have H := Lib.hid h
  have HN := Lib.hid hn
  have HIN := Lib.hid hi
  have HRE := Lib.hid (fun bf bm l c s v w hs k0 hm => c_reach bf bm l c s v w hs k0 hm)
  have HLO := Lib.hid (fun s w h => c_lineOf p a1 a2 a3 a4 c1 c2 c3 c4 s w hs.l.1 h)
  have HUS := Lib.hid (fun tg ts la lc s w (hl : ts.length ≤ 1048576) h => c_isUsed tg ts la lc s w hl h)
  have hisz : inp.size ≤ maxLen := Nat.le_trans (hs.i.2 inp hi) (by decide)
  have HTZ : Hid (∀ l ∈ p.ls, l.tg.size ≤ maxLen ∧ l.ts.length ≤ 1048576) := Lib.hid (fun l hl => ⟨Nat.le_trans (hs.l.2 l hl).1 (by decide), (hs.l.2 l hl).2.1⟩)
  have HOZ : Hid (∀ s ∈ p.os, s.size ≤ maxLen) := Lib.hid (fun s h => Nat.le_trans (hs.o.2 s h) (by decide))
  have hgz : p.gd.size ≤ maxLen := Nat.le_trans hs.g (by decide)
  have bl := hbd.l
  have bo := hbd.o
  have hmf : ∀ (fn : Fn) (first cap : Array Value) (w : World), (Instr.makeFunc fn first cap).run Tryz.prog w = .ok (.func fn first cap) w := fun _ _ _ _ => rfl
  have hmm := @run_makeMap Tryz.prog
  have hent := enter_of Tryz.func125 (by kernel_rfl) rfl
  clear hs hbd hn hi h
  dsimp only [pv] at HLO
  have D0 : Hid (DS w (((w.alloc (.cells #[.string p.nm, .slice a1 p.ins.length c1, .slice a2 p.vs.length c2, .slice a3 p.os.length c3, .string p.gd, .slice a4 p.ls.length c4] 27)).alloc (.map #[] 0)).alloc (.cells #[.map (some (w.heap.size + 1))] 114)) w.heap.size (w.heap.size + 1 + 1) (w.heap.size + 1) p a1 a2 a3 a4 c1 c2 c3 c4 [] 0) := Lib.hid (by
    refine ⟨⟨by go_simp, by go_simp, by go_simp, by go_simp, by go_simp, by go_simp⟩, by go_simp, ?_, below_alloc (below_alloc (below_alloc (Below.refl _ _) _) _) _, by omega, by omega, by omega⟩
    have h1 := MpA.made (w.alloc (.cells #[.string p.nm, .slice a1 p.ins.length c1, .slice a2 p.vs.length c2, .slice a3 p.os.length c3, .string p.gd, .slice a4 p.ls.length c4] 27))
    have e1 : (w.alloc (.cells #[.string p.nm, .slice a1 p.ins.length c1, .slice a2 p.vs.length c2, .slice a3 p.os.length c3, .string p.gd, .slice a4 p.ls.length c4] 27)).heap.size = w.heap.size + 1 := by simp
    rw [e1] at h1
    exact h1.below (below_alloc (Below.refl _ _) _))
  go_enter Tryz.func78, Tryz.ntmps78
  dsimp only [pv]
  go_upto_region 2 with (fail)
  generalize ((w.alloc (.cells #[.string p.nm, .slice a1 p.ins.length c1, .slice a2 p.vs.length c2, .slice a3 p.os.length c3, .string p.gd, .slice a4 p.ls.length c4] 27)).alloc (.map #[] 0)).alloc (.cells #[.map (some (w.heap.size + 1))] 114) = W at *
  go_wp2_with (fail)
  refine (HRE.out (w.heap.size + 1 + 1) (w.heap.size + 1) [] 0 inp 1 W hisz D0.out.kf D0.out.mp).mono ?_
  rintro e w1 ⟨rfl, hm1, hg1, hz1⟩
  have D1 := Lib.hid (D0.out.put hm1 hg1)
  have I1 := Lib.hid (rL_start inp ▸ inv_start p inp : Inv p inp (rL [] 0 inp 1))
  clear D0 hm1 hg1 hz1
  generalize rL [] 0 inp 1 = l1 at *
  generalize rC [] 0 inp 1 = n1 at *
  generalize rB [] inp 1 = r1 at *
  generalize w.heap.size + 1 + 1 = bf at *
  generalize w.heap.size + 1 = bm at *
  generalize w.heap.size = b0 at *
  go_wp2_with (fail)
  go_loopw [7, 8, 9, 10, 11] (fun chv _ _ _ _ wr => ∃ (ch : Bool) (l : List En) (c : Nat), chv = .bool ch ∧ Hid (DS w wr b0 bf bm p a1 a2 a3 a4 c1 c2 c3 c4 l c) ∧ Hid (Inv p inp l) ∧ Hid (ch = false → ∀ (i : Nat) (ln : Lin), p.ls[i]? = some ln → ∀ x ∈ l, ClD p inp l i ln x)) (fun chv _ _ _ _ wr => 2 * phiW p inp wr bm + bitV chv)
  case atStart => exact ⟨true, l1, n1, rfl, D1, I1, Lib.hid (fun h => by cases h)⟩
  case round =>
    obtain ⟨ch, l, c, rfl, hd, hv, hcl⟩ := hrel
    clear D1 I1
    obtain ⟨k0, k1, k2, k3, k4, k5⟩ := hd.out.pb
    have kf := hd.out.kf
    cases ch
    rotate_left
    · clear hcl
      go_wp2_with (fail)
      obtain ⟨w0, rfl⟩ : ∃ w0, w0 = wr := ⟨_, rfl⟩
      obtain ⟨l0, rfl⟩ : ∃ l0, l0 = l := ⟨_, rfl⟩
      have HPH := Lib.hid (phiW_eq (p := p) (inp := inp) hd.out.mp)
      clear k0 k1 k2 k3 k4 k5 kf
      go_loopw [7, 8, 9, 10, 11, 25] (fun chv _ _ _ _ ii wm => ∃ (i : Nat) (ch : Bool) (l : List En) (c : Nat), i ≤ p.ls.length ∧ ii = .int .i64 i ∧ chv = .bool ch ∧ Hid (DS w wm b0 bf bm p a1 a2 a3 a4 c1 c2 c3 c4 l c) ∧ Hid (Inv p inp l) ∧ Hid (SwP p inp l0 i ch l)) (fun _ _ _ _ _ ii _ => p.ls.length - (intOf ii).toNat)
      case atStart => exact ⟨0, false, l0, c, Nat.zero_le _, rfl, rfl, hd, hv, Lib.hid (.inr ⟨rfl, rfl, fun j ln hj => absurd hj (Nat.not_lt_zero _)⟩)⟩
      case round =>
        clear hd hv
        obtain ⟨i, ch, l, c, hi, rfl, rfl, hd, hv, hsw⟩ := hrel
        obtain ⟨k0, k1, k2, k3, k4, k5⟩ := hd.out.pb
        have kf := hd.out.kf
        have hi0 : (0 : Int) ≤ (i : Int) := by omega
        by_cases hli : i < p.ls.length
        · obtain ⟨⟨tg, ts⟩, hz⟩ : ∃ z, p.ls[i]? = some z := ⟨_, List.getElem?_eq_getElem hli⟩
          have htz := HTZ.out _ (List.mem_of_getElem? hz)
          dsimp only at htz
          obtain ⟨b, off, la, lc, rfl, hblt, g0w, g1w, hrow⟩ := H.out.l.at hz
          dsimp only at g0w g1w hrow
          have HROW := Lib.hid hrow
          have g0 := cell_later hd.out.bel g0w
          have g1 := cell_later hd.out.bel g1w
          have hi1 : (i : Int) < p.ls.length := by omega
          have HZ := Lib.hid hz
          clear hz g0w g1w hrow hblt
          go_upto_region 10 with (fail)
          have hbm := hd.out.mp.lt
          have hb0 := World.block_lt_of_cell? _ _ k0
          have hbf := World.block_lt_of_cell? _ _ kf
          have hwz := hd.out.bel.size
          dsimp only at hb0 hbf
          have D2 := Lib.hid (hd.out.below (below_alloc (Below.refl wr.heap.size wr) (.cells #[.string tg, .slice la ts.length lc] 80)))
          have x0 : (wr.alloc (.cells #[.string tg, .slice la ts.length lc] 80)).cell? ⟨wr.heap.size, 0, none⟩ = some (.string tg) := by go_simp
          have x1 : (wr.alloc (.cells #[.string tg, .slice la ts.length lc] 80)).cell? ⟨wr.heap.size, 1, none⟩ = some (.slice la ts.length lc) := by go_simp
          have hsz : (wr.alloc (.cells #[.string tg, .slice la ts.length lc] 80)).heap.size = wr.heap.size + 1 := by simp
          replace hsz := Lib.hid hsz
          have HI0 := Lib.hid (hsw.out.enter ⟨tg, ts⟩ hd.out.mp.2)
          have kf2 := D2.out.kf
          generalize wr.alloc (.cells #[.string tg, .slice la ts.length lc] 80) = wl at *
          generalize wr.heap.size = bx at *
          clear k0 k1 k2 k3 k4 k5 kf g0 g1
          go_wp2_with (first
            | (at_range
               refine wpList_rangeE _ rfl (.tmp 30) rfl Tryz.underlying114 bm l c rfl D2.out.mp ?_
               intro w3 hm3 hit3 hg3 hz3)
            )
          go_simp
          have HDI : Hid (DI w w3 b0 bf bm wl.heap.size bx p a1 a2 a3 (some ⟨b, off, none⟩) c1 c2 c3 c4 tg la ts.length lc l c c []) := Lib.hid ⟨D2.out.other hm3 hg3 (fun q hq => by cases hq), hit3, cell_g x0 hg3 (fun q hq => by cases hq), cell_g x1 hg3 (fun q hq => by cases hq), by omega, by have := hsz.out; omega⟩
          clear D2 hd hm3 hit3 hg3 hz3 x0 x1 kf2 hbm hb0 hbf hwz hsz
          generalize wl.heap.size = rr at *
          obtain ⟨cs, hcs⟩ : ∃ cs, cs = c := ⟨_, rfl⟩
          have HI1 : Hid (SwI p inp l0 i ⟨tg, ts⟩ cs [] ch l) := by rw [hcs]; exact HI0
          have HD1 : Hid (DI w w3 b0 bf bm rr bx p a1 a2 a3 (some ⟨b, off, none⟩) c1 c2 c3 c4 tg la ts.length lc l c cs []) := by rw [hcs]; exact HDI
          clear HI0 HDI hcs hsw
          go_loopw [7, 10, 11] (fun chv _ _ wi => ∃ (ch : Bool) (l : List En) (c : Nat) (seen : List Nat), chv = .bool ch ∧ Hid (DI w wi b0 bf bm rr bx p a1 a2 a3 (some ⟨b, off, none⟩) c1 c2 c3 c4 tg la ts.length lc l c cs seen) ∧ Hid (Inv p inp l) ∧ Hid (SwI p inp l0 i ⟨tg, ts⟩ cs seen ch l)) (fun _ _ _ wi => p.ls.length + 2 - World.itrSeen wi rr)
          case atStart => exact ⟨ch, l, c, [], rfl, HD1, hv, HI1⟩
          case round =>
            clear HD1 HI1 hv
            obtain ⟨ch, l, c, seen, rfl, hdi, hv, hsi⟩ := hrel
            have hsl := hdi.out.it.seen_le
            have hll := hv.out.len hdi.out.ds.mp.2
            have HCNT := Lib.hid hdi.out.it.count
            go_wp2_with (first
              | (at_next
                 refine wpList_nextE _ rfl (.tmp 31) rfl bm rr l c cs seen rfl hdi.out.ds.mp hdi.out.it ?_ ?_)
              )
            · intro w5 hg5 hz5 hall
              have HSW := Lib.hid (hsi.out.leave HZ.out hall)
              have D5 := Lib.hid (hdi.out.ds.below (below_of_grown (Below.refl _ _) hg5 (fun q hq => by cases hq)))
              clear hall hg5
              go_wp2_with (fail)
              go_roundw
              case rel => exact ⟨i + 1, ch, l, c, by omega, by go_num, rfl, D5, hv, HSW⟩
              case measure => simp [intOf]; omega
            · intro x w5 hx hns hm5 hit5 hg5 hz5 hen
              have D3 := Lib.hid (hdi.out.step hm5 hit5 hg5)
              have HX := Lib.hid hx
              have hps := hv.out.pos x hx
              have x0 := D3.out.x0
              have x1 := D3.out.x1
              clear hns hm5 hit5 hg5 hx hdi
              go_wp2_with (fail)
              refine (HUS.out tg ts la lc x.s _ htz.2 (HROW.out.below D3.out.ds.bel)).mono ?_
              rintro e wu ⟨rfl, hbu⟩
              have D4 := Lib.hid (D3.out.below hbu)
              clear D3 hbu x0 x1 hen
              cases hub : usB x.s ⟨tg, ts⟩
              · have HS6 := Lib.hid (hsi.out.pass D4.out.ds.mp.2 HX.out (fun h => by rw [hub] at h; cases h))
                have HM6 := Lib.hid (show p.ls.length + 2 - World.itrSeen wu rr < p.ls.length + 2 - World.itrSeen wr rr by rw [HCNT.out, D4.out.it.count, List.length_append, List.length_singleton]; omega)
                clear hub
                go_wp2_with (fail)
                go_roundw
                case rel => exact ⟨ch, l, c, _, rfl, D4, hv, HS6⟩
                case measure => exact HM6.out
              · have HS6 := Lib.hid (hsi.out.use hv.out D4.out.ds.mp.2 HZ.out HX.out)
                have HV6 := Lib.hid (hv.out.r HN.out HIN.out D4.out.ds.mp.2 HZ.out HX.out hub)
                dsimp only at HS6 HV6
                have HWN : Hid (wN p inp i x.s = if x.s = inp then 0 else if (i : Int) ≤ ixS (tgs p) x.s then 1 else 0) := Lib.hid rfl
                generalize wN p inp i x.s = q at *
                obtain ⟨k0, k1, k2, k3, k4, k5⟩ := D4.out.ds.pb
                have g0 := D4.out.x0
                clear hub hsi hv
                by_cases hsi : x.s = inp
                · obtain rfl : q = 0 := by rw [HWN.out, if_pos hsi]
                  rw [Int.add_zero] at HS6 HV6
                  have heq : (x.s.toList == inp.toList) = true := by rw [beq_str]; exact decide_eq_true hsi
                  clear hsi HWN
                  go_wp2_with (fail)
                  refine (HRE.out bf bm l c tg _ _ htz.1 D4.out.ds.kf D4.out.ds.mp).mono ?_
                  rintro e w6 ⟨rfl, hm6, hg6, hz6⟩
                  have D6 := Lib.hid (D4.out.put hm6 hg6)
                  clear hm6 hg6 D4
                  generalize rB l tg _ = rb at *
                  generalize rL l c tg _ = l6 at *
                  generalize rC l c tg _ = n6 at *
                  have HM6 := Lib.hid (show p.ls.length + 2 - World.itrSeen w6 rr < p.ls.length + 2 - World.itrSeen wr rr by rw [HCNT.out, D6.out.it.count, List.length_append, List.length_singleton]; omega)
                  cases rb
                  · go_wp2_with (fail)
                    go_roundw
                    case rel => exact ⟨ch, l6, n6, _, rfl, D6, HV6, HS6⟩
                    case measure => exact HM6.out
                  · go_wp2_with (fail)
                    go_roundw
                    case rel => exact ⟨true, l6, n6, _, rfl, D6, HV6, HS6⟩
                    case measure => exact HM6.out
                · have heq : (x.s.toList == inp.toList) = false := by rw [beq_str]; exact decide_eq_false hsi
                  have HWN2 : Hid (q = if (i : Int) ≤ ixS (tgs p) x.s then 1 else 0) := Lib.hid (by rw [HWN.out, if_neg hsi])
                  clear hsi HWN
                  go_wp2_with (fail)
                  refine (HLO.out x.s _ (H.out.below D4.out.ds.bel)).mono ?_
                  rintro e wo ⟨rfl, hbo⟩
                  replace D4 := Lib.hid (D4.out.below hbo)
                  have g0 := D4.out.x0
                  clear hbo k0 k1 k2 k3 k4 k5
                  generalize ixS (tgs p) x.s = z at *
                  by_cases hz : (i : Int) ≤ z
                  · obtain rfl : q = 1 := by rw [HWN2.out, if_pos hz]
                    have hwr : IntKind.i64.wrap (x.v + 1) = x.v + 1 := IntWalk.i64_in _ (by omega)
                    clear HWN2
                    go_wp2_with (fail)
                    refine (HRE.out bf bm l c tg _ _ htz.1 D4.out.ds.kf D4.out.ds.mp).mono ?_
                    rintro e w6 ⟨rfl, hm6, hg6, hz6⟩
                    have D6 := Lib.hid (D4.out.put hm6 hg6)
                    clear hm6 hg6 D4
                    generalize rB l tg _ = rb at *
                    generalize rL l c tg _ = l6 at *
                    generalize rC l c tg _ = n6 at *
                    have HM6 := Lib.hid (show p.ls.length + 2 - World.itrSeen w6 rr < p.ls.length + 2 - World.itrSeen wr rr by rw [HCNT.out, D6.out.it.count, List.length_append, List.length_singleton]; omega)
                    cases rb
                    · go_wp2_with (fail)
                      go_roundw
                      case rel => exact ⟨ch, l6, n6, _, rfl, D6, HV6, HS6⟩
                      case measure => exact HM6.out
                    · go_wp2_with (fail)
                      go_roundw
                      case rel => exact ⟨true, l6, n6, _, rfl, D6, HV6, HS6⟩
                      case measure => exact HM6.out
                  · obtain rfl : q = 0 := by rw [HWN2.out, if_neg hz]
                    rw [Int.add_zero] at HS6 HV6
                    clear HWN2
                    go_wp2_with (fail)
                    refine (HRE.out bf bm l c tg _ _ htz.1 D4.out.ds.kf D4.out.ds.mp).mono ?_
                    rintro e w6 ⟨rfl, hm6, hg6, hz6⟩
                    have D6 := Lib.hid (D4.out.put hm6 hg6)
                    clear hm6 hg6 D4
                    generalize rB l tg _ = rb at *
                    generalize rL l c tg _ = l6 at *
                    generalize rC l c tg _ = n6 at *
                    have HM6 := Lib.hid (show p.ls.length + 2 - World.itrSeen w6 rr < p.ls.length + 2 - World.itrSeen wr rr by rw [HCNT.out, D6.out.it.count, List.length_append, List.length_singleton]; omega)
                    cases rb
                    · go_wp2_with (fail)
                      go_roundw
                      case rel => exact ⟨ch, l6, n6, _, rfl, D6, HV6, HS6⟩
                      case measure => exact HM6.out
                    · go_wp2_with (fail)
                      go_roundw
                      case rel => exact ⟨true, l6, n6, _, rfl, D6, HV6, HS6⟩
                      case measure => exact HM6.out
        · obtain rfl : i = p.ls.length := by omega
          have HDN := Lib.hid hsw.out.done
          have HME := Lib.hid hsw.out.meas
          have HP2 := Lib.hid (phiW_eq (p := p) (inp := inp) hd.out.mp)
          go_wp2_with (fail)
          go_roundw
          case rel => exact ⟨ch, l, c, rfl, hd, hv, HDN⟩
          case measure =>
            rw [HPH.out, HP2.out]
            exact HME.out
    · have HFX := Lib.hid (fix_of hv.out hd.out.mp.2 (hcl.out rfl))
      obtain ⟨w0, rfl⟩ : ∃ w0, w0 = wr := ⟨_, rfl⟩
      clear hv hcl
      rcases hgg : getE l p.gd with _ | g
      · have e1 : (getE l p.gd).isSome = false := by rw [hgg]; rfl
        have e2 : (getE l p.gd).getD 0 = 0 := by rw [hgg]; rfl
        have HF : Hid (∀ s, getE l s = fG p (getE l) s) := Lib.hid (fun s => by unfold fG; rw [hgg])
        clear hgg
        go_wp2_with (first
          | (at_lookup; refine wpList_lookE2 _ rfl (.tmp 63) (.tmp 65) rfl Tryz.underlying9 Tryz.underlying114 (zero_int _) bm l c rfl hd.out.mp p.gd rfl hgz ?_; rw [e1, e2])
          | (at_delete; refine wpList_delE _ rfl (.tmp 87) (.tmp 88) rfl Tryz.underlying9 Tryz.underlying114 bm l c rfl hd.out.mp inp rfl hisz ?_; intro w2 hm2 hg2 hz2; have kf2 := hd.out.kfar hg2)
          )
        go_ret
        exact retDm_of HFX.out HF.out hd.out hm2 hg2
      · have e1 : (getE l p.gd).isSome = true := by rw [hgg]; rfl
        have e2 : (getE l p.gd).getD 0 = g := by rw [hgg]; rfl
        rcases hg : p.gd.toList.isEmpty with _ | _
        rotate_left
        · have HF : Hid (∀ s, getE l s = fG p (getE l) s) := Lib.hid (fun s => by unfold fG; rw [hgg]; show getE l s = if p.gd.toList.isEmpty = false ∧ memS p.os s = true then some (minO (getE l s) g) else getE l s; rw [if_neg (by rw [hg]; simp)])
          clear hgg
          go_wp2_with (first
            | (at_lookup; refine wpList_lookE2 _ rfl (.tmp 63) (.tmp 65) rfl Tryz.underlying9 Tryz.underlying114 (zero_int _) bm l c rfl hd.out.mp p.gd rfl hgz ?_; rw [e1, e2])
            | (at_delete; refine wpList_delE _ rfl (.tmp 87) (.tmp 88) rfl Tryz.underlying9 Tryz.underlying114 bm l c rfl hd.out.mp inp rfl hisz ?_; intro w2 hm2 hg2 hz2; have kf2 := hd.out.kfar hg2)
            )
          go_ret
          exact retDm_of HFX.out HF.out hd.out hm2 hg2
        · have HF : Hid (∀ s, getE (gL l c g p.os).1 s = fG p (getE l) s) := Lib.hid (fun s => by
            rw [getE_g]
            unfold fG
            rw [hgg]
            show _ = if p.gd.toList.isEmpty = false ∧ memS p.os s = true then some (minO (getE l s) g) else getE l s
            rw [hg]
            simp only [true_and])
          clear hgg
          go_wp2_with (first
            | (at_lookup; refine wpList_lookE2 _ rfl (.tmp 63) (.tmp 65) rfl Tryz.underlying9 Tryz.underlying114 (zero_int _) bm l c rfl hd.out.mp p.gd rfl hgz ?_; rw [e1, e2])
            )
          clear k0 k1 k2 k3 k4 k5 kf e1 e2
          go_loopw [15, 78] (fun _ ii wk => ∃ k : Nat, k ≤ p.os.length ∧ ii = .int .i64 k ∧ Hid (DS w wk b0 bf bm p a1 a2 a3 a4 c1 c2 c3 c4 (gL l c g (p.os.take k)).1 (gL l c g (p.os.take k)).2)) (fun _ ii _ => p.os.length - (intOf ii).toNat)
          case atStart => exact ⟨0, Nat.zero_le _, rfl, hd⟩
          case round =>
            clear hd
            obtain ⟨k, hk, rfl, hd⟩ := hrel
            have kf := hd.out.kf
            have hk0 : (0 : Int) ≤ (k : Int) := by omega
            by_cases hlk : k < p.os.length
            · obtain ⟨x, hx⟩ : ∃ x, p.os[k]? = some x := ⟨_, List.getElem?_eq_getElem hlk⟩
              have hxz := HOZ.out x (List.mem_of_getElem? hx)
              obtain ⟨b, off, rfl, hblt, g0w⟩ := H.out.o.st hx
              have g0 := cell_later hd.out.bel g0w
              have hk1 : (k : Int) < p.os.length := by omega
              have HSN : Hid (gL l c g (p.os.take (k + 1)) = (rL (gL l c g (p.os.take k)).1 (gL l c g (p.os.take k)).2 x g, rC (gL l c g (p.os.take k)).1 (gL l c g (p.os.take k)).2 x g)) := Lib.hid (by
                rw [List.take_add_one, hx]
                exact gL_snoc g x _ l c)
              clear hx hblt g0w
              generalize gL l c g (p.os.take k) = G at *
              obtain ⟨gl, gc⟩ := G
              dsimp only at hd HSN
              go_wp2_with (fail)
              refine (HRE.out bf bm gl gc x g _ hxz hd.out.kf hd.out.mp).mono ?_
              rintro e w6 ⟨rfl, hm6, hg6, hz6⟩
              have D6 : Hid (DS w w6 b0 bf bm p a1 a2 (some ⟨b, off, none⟩) a4 c1 c2 c3 c4 (gL l c g (p.os.take (k + 1))).1 (gL l c g (p.os.take (k + 1))).2) := Lib.hid (by rw [HSN.out]; exact hd.out.put hm6 hg6)
              clear hm6 hg6 hd HSN kf
              go_wp2_with (fail)
              go_roundw
              case rel => exact ⟨k + 1, by omega, by go_num, D6⟩
              case measure => simp [intOf]; omega
            · obtain rfl : k = p.os.length := by omega
              rw [List.take_length] at hd
              generalize gL l c g p.os = G at *
              obtain ⟨gl, gc⟩ := G
              dsimp only at hd HF
              go_wp2_with (first
                | (at_delete; refine wpList_delE _ rfl (.tmp 87) (.tmp 88) rfl Tryz.underlying9 Tryz.underlying114 bm gl gc rfl hd.out.mp inp rfl hisz ?_; intro w2 hm2 hg2 hz2; have kf2 := hd.out.kfar hg2)
                )
              go_ret
              exact retDm_of HFX.out HF.out hd.out hm2 hg2
end Go.Proofs.YteengjcplmjakaaGreatDoor

/- The reference's side of delays: l14Line, l14Uses, l19Scans. Condition: the lengths. -/
namespace Go.Proofs.YteengjcplmjakaaGreatDoor
open Go.RowKit

set_option maxHeartbeats 1000000 in
set_option maxRecDepth 100000 in
theorem c_l14Line (p : Prg) (a1 a2 a3 a4 : Option Addr) (c1 c2 c3 c4 : Nat) (s : ByteArray) (w : World) (hs : p.ls.length ≤ 1048576) (h : PgR w a1 a2 a3 a4 p) :
    Calls Tryz.prog 84 #[pv p a1 a2 a3 a4 c1 c2 c3 c4, .string s] w fun e w' => e = .returned (.int .i64 (ixS (tgs p) s)) ∧ Below w.heap.size w w' := by
  have H := Lib.hid h
  have B0 := Lib.hid (below_alloc (Below.refl w.heap.size w) (.cells #[.string p.nm, .slice a1 p.ins.length c1, .slice a2 p.vs.length c2, .slice a3 p.os.length c3, .string p.gd, .slice a4 p.ls.length c4] 27))
  have HP : Hid (PB (w.alloc (.cells #[.string p.nm, .slice a1 p.ins.length c1, .slice a2 p.vs.length c2, .slice a3 p.os.length c3, .string p.gd, .slice a4 p.ls.length c4] 27)) w.heap.size p a1 a2 a3 a4 c1 c2 c3 c4) := Lib.hid ⟨by go_simp, by go_simp, by go_simp, by go_simp, by go_simp, by go_simp⟩
  have HTL : Hid ((tgs p).length = p.ls.length) := Lib.hid (by unfold tgs; simp)
  clear h
  go_enter Tryz.func84, Tryz.ntmps84
  dsimp only [pv]
  go_upto_region 1 with (fail)
  generalize w.alloc (.cells #[.string p.nm, .slice a1 p.ins.length c1, .slice a2 p.vs.length c2, .slice a3 p.os.length c3, .string p.gd, .slice a4 p.ls.length c4] 27) = W at *
  go_wp2_with (fail)
  go_loopw [5] (fun i wr => ∃ k : Nat, k ≤ p.ls.length ∧ i = .int .i64 k ∧ Hid (¬ s ∈ (tgs p).take k) ∧ Hid (Below W.heap.size W wr)) (fun i _ => p.ls.length - (intOf i).toNat)
  case atStart => exact ⟨0, Nat.zero_le _, rfl, Lib.hid (by simp), Lib.hid (Below.refl _ _)⟩
  case round =>
    obtain ⟨k, hk, rfl, hno, hb⟩ := hrel
    obtain ⟨k0, k1, k2, k3, k4, k5⟩ := HP.out.below hb.out
    by_cases hlt : k < p.ls.length
    · obtain ⟨⟨tg, ts⟩, hz⟩ : ∃ z, p.ls[k]? = some z := ⟨_, List.getElem?_eq_getElem hlt⟩
      obtain ⟨b, off, la, lc, rfl, _, g0, g1, _⟩ := (H.out.l.below (below_chain B0.out hb.out)).at hz
      dsimp only at g0 g1
      have HZT := Lib.hid (show (tgs p)[k]? = some tg by unfold tgs; rw [List.getElem?_map, hz]; rfl)
      have hk0 : (0 : Int) ≤ (k : Int) := by omega
      have hk1 : (k : Int) < p.ls.length := by omega
      clear hz
      by_cases e : tg = s
      · subst e
        have HR := Lib.hid (ixS_at HZT.out hno.out)
        have heq : (tg.toList == tg.toList) = true := by simp
        go_wp2_with (fail)
        go_ret
        exact ⟨by rw [HR.out]; rfl, below_chain B0.out hb.out⟩
      · have HNO := Lib.hid (no_snoc HZT.out hno.out e)
        have heq : (tg.toList == s.toList) = false := by rw [beq_str]; exact decide_eq_false e
        clear e
        go_wp2_with (fail)
        go_roundw
        case rel => exact ⟨k + 1, by omega, by go_num, HNO, hb⟩
        case measure => simp [intOf]; omega
    · obtain rfl : k = p.ls.length := by omega
      have HR := Lib.hid (ixS_no hno.out (by have := HTL.out; omega))
      go_wp2_with (fail)
      go_ret
      exact ⟨by rw [HR.out]; rfl, below_chain B0.out hb.out⟩
theorem any_hitT {s : ByteArray} {ts : List Tm} {k : Nat} {t : Tm} {tg : ByteArray} (hz : ts[k]? = some t) (h1 : t.k = 1) (h2 : t.nm = s) : usB s ⟨tg, ts⟩ = true :=
  List.any_eq_true.2 ⟨t, List.mem_of_getElem? hz, by simp [h1, h2]⟩
set_option maxHeartbeats 1000000 in
set_option maxRecDepth 100000 in
theorem c_l14Uses (tg : ByteArray) (ts : List Tm) (A : Option Addr) (c n : Nat) (s : ByteArray) (w : World) (hn : n = ts.length) (hs : n ≤ 1048576) (hr : Rd w A (tmCells ts)) :
    Calls Tryz.prog 130 #[.slice A n c, .string s] w fun e w' => e = .returned (.bool (usB s ⟨tg, ts⟩)) ∧ Below w.heap.size w w' := by
  have HN := Lib.hid hn
  clear hn
  have HYES := Lib.hid (fun (k : Nat) (t : Tm) (hz : ts[k]? = some t) h1 h2 => any_hitT (s := s) (tg := tg) hz h1 h2)
  have HNO : Hid ((∀ t ∈ ts.take n, ¬ (t.k = 1 ∧ t.nm = s)) → usB s ⟨tg, ts⟩ = false) := Lib.hid (fun h => by
    rw [List.take_of_length_le (by have := HN.out; omega)] at h
    unfold usB
    rw [List.any_eq_false]
    intro t ht e
    simp only [Bool.and_eq_true, beq_iff_eq, decide_eq_true_eq] at e
    exact h t ht e)
  generalize usB s ⟨tg, ts⟩ = R at *
  go_enter Tryz.func130, Tryz.ntmps130
  go_wp2_with (fail)
  go_loopw [5] (fun i wr => ∃ k : Nat, k ≤ n ∧ i = .int .i64 k ∧ Hid (∀ t ∈ ts.take k, ¬ (t.k = 1 ∧ t.nm = s)) ∧ Hid (Below w.heap.size w wr)) (fun i _ => n - (intOf i).toNat)
  case atStart => exact ⟨0, Nat.zero_le _, rfl, Lib.hid (by simp), Lib.hid (by (repeat (first | exact Below.refl _ _ | assumption | refine below_alloc ?_ _ | refine below_drewN ?_ _ | refine below_set ?_ _ (by simp; try omega) | refine Below.drew ?_)))⟩
  case round =>
    obtain ⟨k, hk, rfl, hno, hb⟩ := hrel
    by_cases hlt : k < n
    · obtain ⟨⟨tk, tm, tx⟩, hz⟩ : ∃ z, ts[k]? = some z := ⟨_, List.getElem?_eq_getElem (by have := HN.out; omega)⟩
      obtain ⟨b, off, rfl, _, g0, g1, g2⟩ := (hr.below hb.out).tm hz
      dsimp only at g0 g1 g2
      have hk0 : (0 : Int) ≤ (k : Int) := by omega
      have hk1 : (k : Int) < n := by omega
      have HST : Hid (¬ (tk = 1 ∧ tm = s) → ∀ t ∈ ts.take (k + 1), ¬ (t.k = 1 ∧ t.nm = s)) := Lib.hid (fun h t ht => by
        rw [List.take_add_one, hz, List.mem_append] at ht
        rcases ht with ht | ht
        · exact hno.out t ht
        · simp at ht
          subst ht
          exact h)
      have HY := Lib.hid (HYES.out k _ hz)
      clear hz hr
      by_cases e1 : tk = 1
      · subst e1
        by_cases e : tm = s
        · subst e
          have HR := Lib.hid (HY.out rfl rfl)
          have heq : (tm.toList == tm.toList) = true := by simp
          go_wp2_with (fail)
          go_ret
          exact ⟨by rw [HR.out]; rfl, hb.out⟩
        · have HNX := Lib.hid (HST.out (fun h => e h.2))
          have heq : (tm.toList == s.toList) = false := by rw [beq_str]; exact decide_eq_false e
          clear e
          go_wp2_with (fail)
          go_roundw
          case rel => exact ⟨k + 1, by omega, by go_num, HNX, hb⟩
          case measure => simp [intOf]; omega
      · have HNX := Lib.hid (HST.out (fun h => e1 h.1))
        have e2 : (tk == 1) = false := by simpa using e1
        clear e1
        go_wp2_with (fail)
        go_roundw
        case rel => exact ⟨k + 1, by omega, by go_num, HNX, hb⟩
        case measure => simp [intOf]; omega
    · obtain rfl : k = n := by omega
      have HR := Lib.hid (HNO.out hno.out)
      go_wp2_with (fail)
      go_ret
      exact ⟨by rw [HR.out]; rfl, hb.out⟩
theorem made_intQ (n : Nat) : (madeCells (Value.int .i64 0).cells (n * 1)).toList = ints (List.replicate n 0) := by
  rw [Nat.mul_one]
  show (madeCells #[Value.int .i64 0] n).toList = _
  rw [toList_madeCells_one]
  simp [ints]
/-- The numbers stay small. -/
theorem bst_le {p : Prg} {inp : ByteArray} {S : List Int} {i : Nat} {l : Lin} {M : Int} (h0 : 0 ≤ M) (hS : ∀ k, S.getD k 0 ≤ M) : ∀ k, bstK p inp S i l k ≤ M + 1
  | 0 => by unfold bstK; split <;> omega
  | k + 1 => by
    have ih := bst_le (p := p) (inp := inp) (i := i) (l := l) h0 hS k
    have h1 := hS k
    have := wI_bd i k
    unfold bstK bstS
    repeat' split
    all_goals omega
theorem getD_set {S : List Int} {i k : Nat} {z M : Int} (h : ∀ k, S.getD k 0 ≤ M) (hz : z ≤ M) : (S.set i z).getD k 0 ≤ M := by
  rw [List.getD_eq_getElem?_getD, List.getElem?_set]
  split
  · split
    · exact hz
    · have := h k
      rename_i e hlt
      rw [List.getD_eq_getElem?_getD, List.getElem?_eq_none (by omega)] at this
      exact this
  · have := h k
    rwa [List.getD_eq_getElem?_getD] at this
theorem row_le {p : Prg} {inp : ByteArray} {S : List Int} {M : Int} (h0 : 0 ≤ M) (hS : ∀ k, S.getD k 0 ≤ M) : ∀ (i k : Nat), (rowK p inp S i).getD k 0 ≤ M + i
  | 0, k => by have := hS k; show S.getD k 0 ≤ _; omega
  | i + 1, k => by
    have ih := row_le (p := p) (inp := inp) h0 hS i
    unfold rowK
    split
    · refine getD_set (fun k => ?_) ?_
      · have := ih k; omega
      · have := bst_le (p := p) (inp := inp) (i := i) (l := ‹Lin›) (M := M + i) (by omega) ih p.ls.length
        omega
    · have := ih k; omega
theorem scn_le (p : Prg) (inp : ByteArray) : ∀ (r k : Nat), (scnR p inp r).getD k 0 ≤ (r : Int) * p.ls.length
  | 0, k => by
    show (List.replicate p.ls.length (0 : Int)).getD k 0 ≤ _
    rw [List.getD_eq_getElem?_getD]
    cases e : (List.replicate p.ls.length (0 : Int))[k]? with
    | none => simp
    | some z =>
      have := (List.mem_replicate.1 (List.mem_of_getElem? e)).2
      subst this
      simp
  | r + 1, k => by
    have h := row_le (p := p) (inp := inp) (M := (r : Int) * p.ls.length) (Int.mul_nonneg (by omega) (by omega)) (scn_le p inp r) p.ls.length k
    show (rowK p inp (scnR p inp r) p.ls.length).getD k 0 ≤ _
    refine Int.le_trans h ?_
    rw [Int.natCast_add, Int.add_mul]
    omega
end Go.Proofs.YteengjcplmjakaaGreatDoor
