/- Delays, plainly: what the map of delays holds in the end, and that it is what the reference says. Condition: the program is sound, the input is one of its inputs. -/
import Derived.Test.YtackekfjalaacaaDoorDlP
namespace Go.Proofs.YtackekfjalaacaaDoor
open Go.RowKit

/-- The names' rules of a sound program. -/
structure Nmd (p : Prg) : Prop where
  all : (p.ins ++ p.vs ++ p.os).Nodup
  tgn : (tgs p).Nodup
  tgm : ∀ s ∈ tgs p, s ∈ p.vs ∨ s ∈ p.os
  mad : ∀ s, s ∈ p.vs ∨ s ∈ p.os → s ∈ tgs p
  use : ∀ l ∈ p.ls, ∀ s, usB s l = true → s ∈ p.ins ∨ s ∈ p.vs
  gd : p.gd.toList.isEmpty = true ∨ p.gd ∈ p.ins ∨ p.gd ∈ p.vs
theorem us_mem {s : ByteArray} {l : Lin} (h : usB s l = true) : ∃ t ∈ l.ts, t.k = 1 ∧ t.nm = s := by
  obtain ⟨t, ht, h⟩ := List.any_eq_true.1 h
  simp only [Bool.and_eq_true, beq_iff_eq, decide_eq_true_eq] at h
  exact ⟨t, ht, h⟩
theorem nmd_of {p : Prg} (h : (wrB p && fltB p) = true) : Nmd p := by
  have hs := snd_of h
  rw [Bool.and_eq_true] at h
  have hf := h.2
  rw [flt_impl] at hf
  simp only [Bool.and_eq_true, Bool.not_eq_true'] at hf
  obtain ⟨h1, _, h3, h4, h5, _⟩ := hf
  have hmem : ∀ {l : List ByteArray} {s : ByteArray}, s ∈ l ↔ memS l s = true := memS_iff.symm
  refine ⟨by have := tw_nodup h1; rwa [← List.append_assoc] at this, tw_nodup h4, fun s hs => ?_, fun s hs => ?_, fun l hl s hu => ?_, hs.g⟩
  · rw [List.any_eq_false] at h3
    have := h3 s hs
    simp only [Bool.not_eq_true', Bool.not_eq_false] at this
    rw [memS_app, Bool.or_eq_true] at this
    exact this.imp memS_iff.1 memS_iff.1
  · rw [List.any_eq_false] at h5
    have := h5 s (List.mem_append.2 hs)
    simp only [Bool.not_eq_true', Bool.not_eq_false] at this
    exact memS_iff.1 this
  · obtain ⟨t, ht, hk, rfl⟩ := us_mem hu
    exact hs.r l hl t ht hk
theorem Nmd.in_v {p : Prg} (h : Nmd p) {s : ByteArray} (h1 : s ∈ p.ins) (h2 : s ∈ p.vs ∨ s ∈ p.os) : False := by
  have := h.all
  rw [List.append_assoc, List.nodup_append] at this
  exact this.2.2 s h1 s (List.mem_append.2 h2) rfl
theorem Nmd.v_o {p : Prg} (h : Nmd p) {s : ByteArray} (h1 : s ∈ p.vs) (h2 : s ∈ p.os) : False := by
  have := h.all
  rw [List.append_assoc, List.nodup_append] at this
  have := this.2.1
  rw [List.nodup_append] at this
  exact this.2.2 s h1 s h2 rfl
theorem tg_mem {p : Prg} {k : Nat} {m : Lin} (h : p.ls[k]? = some m) : m.tg ∈ tgs p := List.mem_map.2 ⟨m, List.mem_of_getElem? h, rfl⟩
theorem var_of {p : Prg} (h : Nmd p) : VarT p := by
  intro k m l hm hl hu
  rcases h.use l hl m.tg hu with h1 | h1
  · exact (h.in_v h1 (h.tgm _ (tg_mem hm))).elim
  · exact ix_mem h1
theorem ix_at {l : List ByteArray} (hn : l.Nodup) {k : Nat} {s : ByteArray} (h : l[k]? = some s) : ixS l s = k := by
  refine ixS_at h fun hm => ?_
  obtain ⟨j, hj⟩ := List.getElem?_of_mem hm
  rw [List.getElem?_take] at hj
  split at hj
  · rename_i hlt
    rw [List.nodup_iff_pairwise_ne, List.pairwise_iff_getElem] at hn
    obtain ⟨h1, e1⟩ := List.getElem?_eq_some_iff.1 hj
    obtain ⟨h2, e2⟩ := List.getElem?_eq_some_iff.1 h
    exact hn j k h1 h2 hlt (e1.trans e2.symm)
  · cases hj
theorem ix_line {p : Prg} (h : Nmd p) {k : Nat} {m : Lin} (hm : p.ls[k]? = some m) : ixS (tgs p) m.tg = k :=
  ix_at h.tgn (by unfold tgs; rw [List.getElem?_map, hm]; rfl)
theorem line_of {p : Prg} {s : ByteArray} (h : s ∈ tgs p) : ∃ (k : Nat) (m : Lin), p.ls[k]? = some m ∧ m.tg = s := by
  obtain ⟨m, hm, rfl⟩ := List.mem_map.1 h
  obtain ⟨k, hk⟩ := List.getElem?_of_mem hm
  exact ⟨k, m, hk, rfl⟩
/-- One scan more, where the name's line does not come before line i. -/
def wN (p : Prg) (inp : ByteArray) (i : Nat) (s : ByteArray) : Int := if s = inp then 0 else if (i : Int) ≤ ixS (tgs p) s then 1 else 0
theorem wN_bd (p : Prg) (inp : ByteArray) (i : Nat) (s : ByteArray) : 0 ≤ wN p inp i s ∧ wN p inp i s ≤ 1 := by
  unfold wN
  repeat' split
  all_goals omega
theorem wN_line {p : Prg} (h : Nmd p) {inp : ByteArray} (hi : inp ∈ p.ins) {i k : Nat} {m : Lin} (hm : p.ls[k]? = some m) : wN p inp i m.tg = wI i k := by
  unfold wN wI
  rw [if_neg (fun e : m.tg = inp => h.in_v hi (e ▸ h.tgm _ (tg_mem hm))), ix_line h hm]
  by_cases c : i ≤ k
  · rw [if_pos c, if_pos (by omega)]
  · rw [if_neg c, if_neg (by omega)]
/-- What the map holds when nothing changes any more. -/
structure Fix (p : Prg) (inp : ByteArray) (f : ByteArray → Option Int) : Prop where
  one : f inp = some 1
  snd : ∀ s v, f s = some v → s = inp ∨ ∃ (k : Nat) (m : Lin), p.ls[k]? = some m ∧ m.tg = s ∧ Ach p inp k v
  cls : ∀ (i : Nat) (l : Lin) (s : ByteArray) (v : Int), p.ls[i]? = some l → f s = some v → usB s l = true → ∃ v', f l.tg = some v' ∧ v' ≤ v + wN p inp i s
  bnd : ∀ s v, f s = some v → v ≤ (p.ls.length : Int) + 1
theorem fix_ach {p : Prg} {inp : ByteArray} {f : ByteArray → Option Int} (hn : Nmd p) (hi : inp ∈ p.ins) (hf : Fix p inp f) {i : Nat} {v : Int} (h : Ach p inp i v) : ∀ l, p.ls[i]? = some l → ∃ v', f l.tg = some v' ∧ v' ≤ v := by
  induction h with
  | @one i l hl hu =>
    intro l' hl'
    rw [hl] at hl'
    simp only [Option.some.injEq] at hl'
    subst hl'
    obtain ⟨v', h1, h2⟩ := hf.cls i l inp 1 hl hf.one hu
    refine ⟨v', h1, ?_⟩
    unfold wN at h2
    rw [if_pos rfl] at h2
    omega
  | @step i k l m u hl hm _ hu ih =>
    intro l' hl'
    rw [hl] at hl'
    simp only [Option.some.injEq] at hl'
    subst hl'
    obtain ⟨v', h1, h2⟩ := ih m hm
    obtain ⟨v2, h3, h4⟩ := hf.cls i l m.tg v' hl h1 hu
    rw [wN_line hn hi hm] at h4
    exact ⟨v2, h3, by omega⟩
theorem fix_small {p : Prg} {inp : ByteArray} {f : ByteArray → Option Int} (hn : Nmd p) (hi : inp ∈ p.ins) (hf : Fix p inp f) : ∀ i v, Ach p inp i v → ∃ v', Ach p inp i v' ∧ v' ≤ v ∧ v' ≤ (p.ls.length : Int) + 1 := by
  intro i v h
  obtain ⟨l, hl⟩ := h.line
  obtain ⟨v', h1, h2⟩ := fix_ach hn hi hf h l hl
  rcases hf.snd _ _ h1 with e | ⟨k, m, hm, e, ha⟩
  · exact (hn.in_v hi (e ▸ hn.tgm _ (tg_mem hl))).elim
  · have : i = k := by
      have h3 := ix_line hn hl
      have h4 := ix_line hn hm
      rw [e, h3] at h4
      omega
    subst this
    exact ⟨v', ha, h2, hf.bnd _ _ h1⟩
/-- At a line's target the map holds what the reference's rounds give. -/
theorem fix_line {p : Prg} {inp : ByteArray} {f : ByteArray → Option Int} (hn : Nmd p) (hi : inp ∈ p.ins) (hf : Fix p inp f) {i : Nat} {l : Lin} (hl : p.ls[i]? = some l) :
    f l.tg = if (scnV p inp).getD i 0 = 0 then none else some ((scnV p inp).getD i 0) := by
  have hlen : i < (scnV p inp).length := by
    unfold scnV
    rw [scnR_len]
    exact (List.getElem?_eq_some_iff.1 hl).1
  obtain ⟨z, hz⟩ : ∃ z, (scnV p inp)[i]? = some z := ⟨_, List.getElem?_eq_getElem hlen⟩
  have h1 := scn_least (var_of hn) (fix_small hn hi hf) hz
  rw [List.getD_eq_getElem?_getD, hz]
  show f l.tg = if z = 0 then none else some z
  have hsnd : ∀ v, f l.tg = some v → Ach p inp i v := fun v hv => by
    rcases hf.snd _ _ hv with e | ⟨k, m, hm, e, ha⟩
    · exact (hn.in_v hi (e ▸ hn.tgm _ (tg_mem hl))).elim
    · have h3 := ix_line hn hl
      have h4 := ix_line hn hm
      rw [e, h3] at h4
      have : i = k := by omega
      subst this
      exact ha
  by_cases h0 : z = 0
  · rw [if_pos h0]
    cases hv : f l.tg with
    | none => rfl
    | some v => exact absurd (hsnd v hv) (h1.1 h0 v)
  · rw [if_neg h0]
    obtain ⟨ha, hmin⟩ := h1.2 h0
    obtain ⟨v', hv, hle⟩ := fix_ach hn hi hf ha l hl
    have := hmin v' (hsnd v' hv)
    rw [hv]
    congr 1
    omega
/-- The guard's number, an output's delay, as the reference has them. -/
def gdV (p : Prg) (inp : ByteArray) : Int := if p.gd.toList.isEmpty then 0 else if p.gd = inp then 1 else if ixS (tgs p) p.gd < 0 then 0 else (scnV p inp).getD (ixS (tgs p) p.gd).toNat 0
def dlyV (p : Prg) (inp out : ByteArray) : Int :=
  if (scnV p inp).getD (ixS (tgs p) out).toNat 0 = 0 ∨ (0 < gdV p inp ∧ gdV p inp < (scnV p inp).getD (ixS (tgs p) out).toNat 0) then gdV p inp else (scnV p inp).getD (ixS (tgs p) out).toNat 0
def some0 (z : Int) : Option Int := if z = 0 then none else some z
def minO (o : Option Int) (g : Int) : Int := match o with | some v => if v ≤ g then v else g | none => g
/-- The map behind the guard's round. -/
def fG (p : Prg) (f : ByteArray → Option Int) (s : ByteArray) : Option Int :=
  match f p.gd with
  | some g => if p.gd.toList.isEmpty = false ∧ memS p.os s = true then some (minO (f s) g) else f s
  | none => f s
theorem gd_is {p : Prg} {inp : ByteArray} {f : ByteArray → Option Int} (hn : Nmd p) (hi : inp ∈ p.ins) (hf : Fix p inp f) (hg : p.gd.toList.isEmpty = false) : f p.gd = some0 (gdV p inp) := by
  unfold gdV
  rw [hg, if_neg (by decide)]
  by_cases h1 : p.gd = inp
  · rw [if_pos h1, h1, hf.one]; rfl
  rw [if_neg h1]
  rcases hn.gd with h2 | h2 | h2
  · rw [hg] at h2; cases h2
  · have hno : ¬ p.gd ∈ tgs p := fun hm => hn.in_v h2 (hn.tgm _ hm)
    rw [ixS_out hno, if_pos (by decide)]
    cases hv : f p.gd with
    | none => rfl
    | some v =>
      rcases hf.snd _ _ hv with e | ⟨k, m, hm, e, _⟩
      · exact absurd e h1
      · exact absurd (e ▸ tg_mem hm) hno
  · obtain ⟨k, m, hm, e⟩ := line_of (hn.mad _ (.inl h2))
    rw [← e, ix_line hn hm, if_neg (by omega), Int.toNat_natCast]
    exact fix_line hn hi hf hm
theorem scn_nn {p : Prg} {inp : ByteArray} (i : Nat) : 0 ≤ (scnV p inp).getD i 0 := by
  rw [List.getD_eq_getElem?_getD]
  cases e : (scnV p inp)[i]? with
  | none => exact Int.le_refl _
  | some z => exact (scn_snd p inp _ i z e).1
theorem gdV_nn (p : Prg) (inp : ByteArray) : 0 ≤ gdV p inp := by
  unfold gdV
  repeat' split
  · omega
  · omega
  · omega
  · exact scn_nn _
theorem dlyV_nn (p : Prg) (inp out : ByteArray) : 0 ≤ dlyV p inp out := by
  unfold dlyV
  split
  · exact gdV_nn p inp
  · exact scn_nn _
/-- An output's entry, behind the guard's round. -/
theorem out_is {p : Prg} {inp : ByteArray} {f : ByteArray → Option Int} (hn : Nmd p) (hi : inp ∈ p.ins) (hf : Fix p inp f) {s : ByteArray} (hs : s ∈ p.os) : fG p f s = some0 (dlyV p inp s) := by
  obtain ⟨k, m, hm, e⟩ := line_of (hn.mad _ (.inr hs))
  have h1 : f s = some0 ((scnV p inp).getD k 0) := by rw [← e]; exact fix_line hn hi hf hm
  have h2 : (ixS (tgs p) s).toNat = k := by rw [← e, ix_line hn hm, Int.toNat_natCast]
  have hgn := gdV_nn p inp
  have hzn : 0 ≤ (scnV p inp).getD k 0 := scn_nn k
  unfold dlyV
  rw [h2]
  generalize (scnV p inp).getD k 0 = n at *
  cases hg : p.gd.toList.isEmpty with
  | true =>
    have hg0 : gdV p inp = 0 := by unfold gdV; rw [hg]; rfl
    have e1 : fG p f s = f s := by
      unfold fG
      split
      · rw [if_neg (by rw [hg]; simp)]
      · rfl
    rw [e1, h1, hg0]
    by_cases h0 : n = 0
    · have hD : (if n = 0 ∨ (0 < (0 : Int) ∧ 0 < n) then 0 else n) = n := by rw [if_pos (.inl h0), h0]
      rw [hD]
    · have hD : (if n = 0 ∨ (0 < (0 : Int) ∧ 0 < n) then 0 else n) = n := if_neg (by omega)
      rw [hD]
  | false =>
    have h3 := gd_is hn hi hf hg
    generalize gdV p inp = g at *
    unfold fG
    rw [h3]
    by_cases h0 : g = 0
    · have hD : (if n = 0 ∨ (0 < g ∧ g < n) then g else n) = n := by
        by_cases h4 : n = 0
        · rw [if_pos (.inl h4), h0, h4]
        · exact if_neg (by omega)
      rw [hD, show some0 g = none from if_pos h0]
      exact h1
    · rw [show some0 g = some g from if_neg h0]
      show (if p.gd.toList.isEmpty = false ∧ memS p.os s = true then some (minO (f s) g) else f s) = _
      rw [if_pos ⟨hg, memS_iff.2 hs⟩, h1]
      by_cases h4 : n = 0
      · have hD : (if n = 0 ∨ (0 < g ∧ g < n) then g else n) = g := if_pos (.inl h4)
        rw [hD, show some0 n = none from if_pos h4, show some0 g = some g from if_neg h0]
        rfl
      · rw [show some0 n = some n from if_neg h4]
        show some (if n ≤ g then n else g) = _
        by_cases h5 : n ≤ g
        · have hD : (if n = 0 ∨ (0 < g ∧ g < n) then g else n) = n := if_neg (by omega)
          rw [hD, if_pos h5, show some0 n = some n from if_neg h4]
        · have hD : (if n = 0 ∨ (0 < g ∧ g < n) then g else n) = g := if_pos (.inr ⟨by omega, by omega⟩)
          rw [hD, if_neg h5, show some0 g = some g from if_neg h0]
/-- A variable's entry. -/
theorem var_is {p : Prg} {inp : ByteArray} {f : ByteArray → Option Int} (hn : Nmd p) (hi : inp ∈ p.ins) (hf : Fix p inp f) {s : ByteArray} (hs : s ∈ p.vs) : fG p f s = some0 ((scnV p inp).getD (ixS (tgs p) s).toNat 0) := by
  obtain ⟨k, m, hm, e⟩ := line_of (hn.mad _ (.inl hs))
  have h1 : f s = some0 ((scnV p inp).getD k 0) := by rw [← e]; exact fix_line hn hi hf hm
  have h2 : (ixS (tgs p) s).toNat = k := by rw [← e, ix_line hn hm, Int.toNat_natCast]
  rw [h2, ← h1]
  unfold fG
  split
  · rw [if_neg (fun h => hn.v_o hs (memS_iff.1 h.2))]
  · rfl
end Go.Proofs.YtackekfjalaacaaDoor
