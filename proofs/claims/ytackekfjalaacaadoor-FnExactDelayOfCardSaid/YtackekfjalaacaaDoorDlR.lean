/- Delays, plainly: one step of the program's search, what it keeps, and that it ends. Condition: the program is sound, the input is one of its inputs. -/
import Derived.Test.YtackekfjalaacaaDoorDlQ
import Derived.Test.YtackekfjalaacaaDoorMpE
namespace Go.Proofs.YtackekfjalaacaaDoor
open Go.RowKit

/-- Whether a number is better than what is held; what is held then. -/
def rB (l : List En) (s : ByteArray) (v : Int) : Bool := match getE l s with | some old => !decide (old ≤ v) | none => true
def rL (l : List En) (c : Nat) (s : ByteArray) (v : Int) : List En := if rB l s v then putE l c s v else l
def rC (l : List En) (c : Nat) (s : ByteArray) (v : Int) : Nat := if rB l s v then putC l c s else c
/-- What the search keeps. -/
structure Inv (p : Prg) (inp : ByteArray) (l : List En) : Prop where
  one : getE l inp = some 1
  snd : ∀ x ∈ l, x.s = inp ∧ x.v = 1 ∨ ∃ (k : Nat) (m : Lin), p.ls[k]? = some m ∧ m.tg = x.s ∧ Ach p inp k x.v
  pos : ∀ x ∈ l, 1 ≤ x.v ∧ x.v ≤ l.length
  key : ∀ x ∈ l, x.s = inp ∨ x.s ∈ tgs p
theorem Inv.len {p : Prg} {inp : ByteArray} {l : List En} {c : Nat} (h : Inv p inp l) (hm : MOk l c) : l.length ≤ p.ls.length + 1 := by
  have hn : (l.map En.s).Nodup := by
    rw [List.nodup_iff_pairwise_ne, List.pairwise_map]
    exact hm.key
  have := nodup_le (l2 := inp :: tgs p) hn (fun s hs => by
    obtain ⟨x, hx, rfl⟩ := List.mem_map.1 hs
    rcases h.key x hx with e | e
    · rw [e]; exact List.mem_cons_self
    · exact List.mem_cons_of_mem _ e)
  unfold tgs at this
  simpa using this
theorem setE_len (s : ByteArray) (v : Int) (l : List En) : (setE l s v).length = l.length := by
  have := congrArg List.length (setE_keys s v l)
  simpa using this
theorem put_len (l : List En) (c : Nat) (s : ByteArray) (v : Int) : (putE l c s v).length = if (getE l s).isSome then l.length else l.length + 1 := by
  unfold putE
  split
  · exact setE_len s v l
  · simp
theorem setE_mem {s : ByteArray} {v : Int} : ∀ {l : List En} {y : En}, l.Pairwise (fun x y => x.s ≠ y.s) → y ∈ setE l s v → (y ∈ l ∧ y.s ≠ s) ∨ (y.s = s ∧ y.v = v)
  | [], y, _, h => by cases h
  | x :: l, y, hp, h => by
    obtain ⟨h1, h2⟩ := List.pairwise_cons.1 hp
    unfold setE at h
    by_cases hs : x.s = s
    · rw [if_pos hs] at h
      rcases List.mem_cons.1 h with rfl | h
      · exact .inr ⟨hs, rfl⟩
      · exact .inl ⟨List.mem_cons_of_mem _ h, fun e => h1 y h (hs.trans e.symm)⟩
    · rw [if_neg hs] at h
      rcases List.mem_cons.1 h with rfl | h
      · exact .inl ⟨List.mem_cons_self, hs⟩
      · exact (setE_mem h2 h).imp (fun h => ⟨List.mem_cons_of_mem _ h.1, h.2⟩) id
theorem putE_mem {l : List En} {c : Nat} (hm : MOk l c) {s : ByteArray} {v : Int} {y : En} (h : y ∈ putE l c s v) : (y ∈ l ∧ y.s ≠ s) ∨ (y.s = s ∧ y.v = v) := by
  unfold putE at h
  cases hb : (getE l s).isSome with
  | true =>
    rw [hb, if_pos rfl] at h
    exact setE_mem hm.key h
  | false =>
    rw [hb, if_neg (by decide)] at h
    rcases List.mem_append.1 h with h | h
    · refine .inl ⟨h, fun e => ?_⟩
      have := getE_at hm.key h
      rw [e] at this
      rw [this] at hb
      cases hb
    · rw [List.mem_singleton] at h
      subst h
      exact .inr ⟨rfl, rfl⟩
/-- The number for a line's target, by an entry that is used in it. -/
theorem Inv.store {p : Prg} {inp : ByteArray} {l : List En} {c : Nat} (hn : Nmd p) (hi : inp ∈ p.ins) (h : Inv p inp l) (hm : MOk l c) {i : Nat} {ln : Lin} {x : En} (hl : p.ls[i]? = some ln) (hx : x ∈ l) (hu : usB x.s ln = true)
    (hb : rB l ln.tg (x.v + wN p inp i x.s) = true) : Inv p inp (putE l c ln.tg (x.v + wN p inp i x.s)) := by
  have hne : ln.tg ≠ inp := fun e => hn.in_v hi (e ▸ hn.tgm _ (tg_mem hl))
  have hw := wN_bd p inp i x.s
  have hp := h.pos x hx
  have hach : Ach p inp i (x.v + wN p inp i x.s) := by
    rcases h.snd x hx with ⟨e, e2⟩ | ⟨k, m, hk, e, ha⟩
    · have hw0 : wN p inp i x.s = 0 := by unfold wN; rw [if_pos e]
      rw [hw0, e2]
      rw [e] at hu
      exact .one hl hu
    · rw [← e, wN_line hn hi hk]
      rw [← e] at hu
      exact .step hl hk ha hu
  have hlen : x.v + wN p inp i x.s ≤ ((putE l c ln.tg (x.v + wN p inp i x.s)).length : Int) ∧ l.length ≤ (putE l c ln.tg (x.v + wN p inp i x.s)).length := by
    rw [put_len]
    cases hg : getE l ln.tg with
    | none =>
      show x.v + _ ≤ ((l.length + 1 : Nat) : Int) ∧ l.length ≤ l.length + 1
      omega
    | some old =>
      show x.v + _ ≤ (l.length : Int) ∧ l.length ≤ l.length
      unfold rB at hb
      rw [hg] at hb
      simp only [Bool.not_eq_true', decide_eq_false_iff_not] at hb
      obtain ⟨y, hy, _, e⟩ := getE_mem hg
      have := h.pos y hy
      omega
  refine ⟨?_, fun y hy => ?_, fun y hy => ?_, fun y hy => ?_⟩
  · rw [getE_put, if_neg (fun e => hne e.symm)]
    exact h.one
  · rcases putE_mem hm hy with ⟨h1, _⟩ | ⟨h1, h2⟩
    · exact h.snd y h1
    · exact .inr ⟨i, ln, hl, h1.symm, by rw [h2]; exact hach⟩
  · rcases putE_mem hm hy with ⟨h1, _⟩ | ⟨h1, h2⟩
    · have := h.pos y h1
      omega
    · rw [h2]
      omega
  · rcases putE_mem hm hy with ⟨h1, _⟩ | ⟨h1, _⟩
    · exact h.key y h1
    · exact .inr (h1 ▸ tg_mem hl)
/-- How far the search is from its end. -/
def phiS (M : Nat) (l : List En) : List ByteArray → Nat
  | [] => 0
  | s :: r => ((getE l s).getD M).toNat + phiS M l r
def phi (p : Prg) (inp : ByteArray) (l : List En) : Nat := phiS (p.ls.length + 3) l (inp :: tgs p)
theorem phiS_le {M : Nat} {l : List En} {c : Nat} {s : ByteArray} {v : Int} (hv : v ≤ (getE l s).getD M) : ∀ r : List ByteArray, phiS M (putE l c s v) r ≤ phiS M l r
  | [] => Nat.le_refl _
  | t :: r => by
    have ih := phiS_le (c := c) hv r
    show ((getE (putE l c s v) t).getD M).toNat + _ ≤ ((getE l t).getD M).toNat + _
    rw [getE_put]
    by_cases e : t = s
    · rw [if_pos e, e]
      show v.toNat + _ ≤ _
      omega
    · rw [if_neg e]
      omega
theorem phiS_lt {M : Nat} {l : List En} {c : Nat} {s : ByteArray} {v : Int} (h0 : 0 ≤ v) (hv : v < (getE l s).getD M) : ∀ r : List ByteArray, s ∈ r → phiS M (putE l c s v) r < phiS M l r
  | t :: r, hs => by
    have hle := phiS_le (c := c) (Int.le_of_lt hv) r
    show ((getE (putE l c s v) t).getD M).toNat + _ < ((getE l t).getD M).toNat + _
    rw [getE_put]
    by_cases e : t = s
    · rw [if_pos e, e]
      show v.toNat + _ < _
      omega
    · rw [if_neg e]
      have := phiS_lt (c := c) h0 hv r (by
        rcases List.mem_cons.1 hs with h | h
        · exact absurd h.symm e
        · exact h)
      omega
theorem phi_store {p : Prg} {inp : ByteArray} {l : List En} {c : Nat} (h : Inv p inp l) (hm : MOk l c) {i : Nat} {ln : Lin} {x : En} (hl : p.ls[i]? = some ln) (hx : x ∈ l) (hb : rB l ln.tg (x.v + wN p inp i x.s) = true) :
    phi p inp (putE l c ln.tg (x.v + wN p inp i x.s)) < phi p inp l := by
  have hw := wN_bd p inp i x.s
  have hp := h.pos x hx
  have hlen := h.len hm
  refine phiS_lt (by omega) ?_ _ (List.mem_cons_of_mem _ (tg_mem hl))
  unfold rB at hb
  cases hg : getE l ln.tg with
  | none =>
    show x.v + _ < ((p.ls.length + 3 : Nat) : Int)
    omega
  | some old =>
    rw [hg] at hb
    simp only [Bool.not_eq_true', decide_eq_false_iff_not] at hb
    show x.v + _ < old
    omega
/-- The line's target has what an entry asks for. -/
def Cl (p : Prg) (inp : ByteArray) (l : List En) (i : Nat) (ln : Lin) (x : En) : Prop := usB x.s ln = true → ∃ v', getE l ln.tg = some v' ∧ v' ≤ x.v + wN p inp i x.s
theorem cl_of {p : Prg} {inp : ByteArray} {l : List En} {i : Nat} {ln : Lin} {x : En} (hb : rB l ln.tg (x.v + wN p inp i x.s) = false) : Cl p inp l i ln x := fun _ => by
  unfold rB at hb
  cases hg : getE l ln.tg with
  | none => rw [hg] at hb; cases hb
  | some old =>
    rw [hg] at hb
    simp only [Bool.not_eq_false', decide_eq_true_eq] at hb
    exact ⟨old, rfl, hb⟩
/-- Nothing has changed in a whole sweep: what is held is the fixed point. -/
theorem fix_of {p : Prg} {inp : ByteArray} {l : List En} {c : Nat} (h : Inv p inp l) (hm : MOk l c) (hc : ∀ (i : Nat) (ln : Lin), p.ls[i]? = some ln → ∀ x ∈ l, Cl p inp l i ln x) : Fix p inp (getE l) := by
  have hlen := h.len hm
  refine ⟨h.one, fun s v hv => ?_, fun i ln s v hl hv hu => ?_, fun s v hv => ?_⟩
  · obtain ⟨x, hx, rfl, rfl⟩ := getE_mem hv
    exact (h.snd x hx).imp (fun e => e.1) id
  · obtain ⟨x, hx, rfl, rfl⟩ := getE_mem hv
    exact hc i ln hl x hx hu
  · obtain ⟨x, hx, rfl, rfl⟩ := getE_mem hv
    have := h.pos x hx
    omega
theorem inv_start (p : Prg) (inp : ByteArray) : Inv p inp [⟨inp, 1, 0⟩] := by
  refine ⟨by unfold getE; rw [if_pos rfl], fun x hx => ?_, fun x hx => ?_, fun x hx => ?_⟩
  all_goals (rw [List.mem_singleton] at hx; subst hx)
  · exact .inl ⟨rfl, rfl⟩
  · simp
  · exact .inl rfl
/-- The guard's round. -/
def gL (l : List En) (c : Nat) (g : Int) : List ByteArray → List En × Nat
  | [] => (l, c)
  | s :: r => gL (rL l c s g) (rC l c s g) g r
theorem getE_r (l : List En) (c : Nat) (s t : ByteArray) (g : Int) : getE (rL l c s g) t = if t = s then some (minO (getE l s) g) else getE l t := by
  unfold rL rB
  cases hg : getE l s with
  | none =>
    show getE (putE l c s g) t = _
    rw [getE_put]
    rfl
  | some old =>
    by_cases hle : old ≤ g
    · show getE (if (!decide (old ≤ g)) = true then putE l c s g else l) t = if t = s then some (if old ≤ g then old else g) else getE l t
      rw [decide_eq_true hle, if_neg (by decide), if_pos hle]
      by_cases e : t = s
      · rw [if_pos e, e, hg]
      · rw [if_neg e]
    · show getE (if (!decide (old ≤ g)) = true then putE l c s g else l) t = if t = s then some (if old ≤ g then old else g) else getE l t
      rw [decide_eq_false hle, if_pos (by decide), if_neg hle, getE_put]
theorem minO_min (o : Option Int) (g : Int) : minO (some (minO o g)) g = minO o g := by
  cases o with
  | none => show (if g ≤ g then g else g) = g; split <;> rfl
  | some v =>
    show (if (if v ≤ g then v else g) ≤ g then (if v ≤ g then v else g) else g) = if v ≤ g then v else g
    by_cases h : v ≤ g
    · rw [if_pos h, if_pos h]
    · rw [if_neg h]; split <;> rfl
theorem getE_g (g : Int) (t : ByteArray) : ∀ (r : List ByteArray) (l : List En) (c : Nat), getE (gL l c g r).1 t = if memS r t = true then some (minO (getE l t) g) else getE l t
  | [], l, c => rfl
  | s :: r, l, c => by
    show getE (gL (rL l c s g) (rC l c s g) g r).1 t = _
    rw [getE_g g t r, getE_r]
    have hm : memS (s :: r) t = (decide (s = t) || memS r t) := rfl
    rw [hm]
    by_cases e : t = s
    · subst e
      rw [if_pos rfl, decide_eq_true rfl, Bool.true_or, if_pos rfl]
      split
      · rw [minO_min]
      · rfl
    · rw [if_neg e, decide_eq_false (fun h => e h.symm), Bool.false_or]
theorem MOk.r {l : List En} {c : Nat} (h : MOk l c) {s : ByteArray} (v : Int) (hs : s.size ≤ maxLen) : MOk (rL l c s v) (rC l c s v) := by
  unfold rL rC
  split
  · exact h.put v hs
  · exact h
end Go.Proofs.YtackekfjalaacaaDoor
