/- A region that draws its order, walked by hand, whose last operation may change what the others read: the condition on the world is asked behind every operation but that one. No condition. -/
import Derived.Test.YteengjcplmjakaaGreatDoorRgH
namespace Go.Proofs.YteengjcplmjakaaGreatDoor

section
variable {P : Program} {ops : Array Oper} {Q : Exit → Act → World → Prop} {md : Region.Mode} {S : World → Prop} {last : Nat}
def wpAnyE (P : Program) (md : Region.Mode) (ops : Array Oper) (Q : Exit → Act → World → Prop) (S : World → Prop) (last : Nat) : Nat → Array Bool → Act → World → Prop
  | 0, listed, a, w => Region.ready md ops listed = [] ∧ Q .normal a w
  | fuel + 1, listed, a, w =>
    (Region.ready md ops listed = [] → Q .normal a w) ∧
    ∀ i ∈ Region.ready md ops listed, wpOp P ops Q i (fun a' w' => (i = last ∨ S w') ∧ wpAnyE P md ops Q S last fuel (listed.setIfInBounds i true) a' w') a w
theorem wpAny_of_heldE : ∀ (fuel : Nat) (listed : Array Bool) (a : Act) (w : World), wpAnyE P md ops Q S last fuel listed a w → wpAny P md ops Q fuel listed a w
  | 0, _, _, _, h => h
  | fuel + 1, _, _, _, h => ⟨h.1, fun i hi => wpOp_mono (fun a' w' h' => wpAny_of_heldE fuel _ a' w' h'.2) (h.2 i hi)⟩
/-- What has come up is closed: whatever an operation waits for has come up before it. -/
def Cl (md : Region.Mode) (ops : Array Oper) (listed : Array Bool) : Prop := ∀ (j : Nat) (oj : Oper), ops[j]? = some oj → listed.getD j false = true → ∀ e ∈ oj.after, Region.binds md e = true → listed.getD e.on false = true
theorem Cl.set {listed : Array Bool} {j : Nat} (h : Cl md ops listed) (hj : j ∈ Region.ready md ops listed) : Cl md ops (listed.setIfInBounds j true) := by
  intro k ok hk hl e he hb
  by_cases e1 : j = k
  · subst e1
    obtain ⟨_, oj, hoj, hall⟩ := mem_ready.1 hj
    rw [hk] at hoj
    simp only [Option.some.injEq] at hoj
    subst hoj
    exact getD_set_true (hall e he hb)
  · rw [getD_set_ne false e1] at hl
    exact getD_set_true (h k ok hk hl e he hb)
/-- Operation l waits for operation i, directly or through others. -/
def depB (md : Region.Mode) (ops : Array Oper) : Nat → Nat → Nat → Bool
  | 0, _, _ => false
  | n + 1, l, i => match ops[l]? with
    | none => false
    | some o => o.after.toList.any fun e => Region.binds md e && (e.on == i || depB md ops n e.on i)
theorem dep_listed {listed : Array Bool} (hc : Cl md ops listed) {i : Nat} : ∀ {n l : Nat}, depB md ops n l i = true → (listed.getD l false = true ∨ l ∈ Region.ready md ops listed) → listed.getD i false = true
  | 0, _, h, _ => by cases h
  | n + 1, l, h, hl => by
    unfold depB at h
    split at h
    · cases h
    · rename_i o ho
      obtain ⟨e, he, h2⟩ := List.any_eq_true.1 h
      rw [Bool.and_eq_true] at h2
      have hem : e ∈ o.after := by simpa using he
      have hon : listed.getD e.on false = true := by
        rcases hl with hl | hl
        · exact hc l o ho hl e hem h2.1
        · obtain ⟨_, o', ho', hall⟩ := mem_ready.1 hl
          rw [ho] at ho'
          simp only [Option.some.injEq] at ho'
          subst ho'
          exact hall e hem h2.1
      have h3 := h2.2
      rw [Bool.or_eq_true] at h3
      rcases h3 with h3 | h3
      · rw [beq_iff_eq] at h3
        exact h3 ▸ hon
      · exact dep_listed hc h3 (.inl hon)
theorem wpAnyE_first {i n : Nat} {oi : Oper} {v : Value} (hi : ops[i]? = some oi) (hsel : ∀ (j : Nat) (o : Oper) cs b, ops[j]? = some o → o.op ≠ .select cs b)
    (hQ : ∀ c a w, Q (.panic c) (a.put oi.dst v) w → Q (.panic c) a w) (hdep : depB md ops n last i = true) :
    ∀ (fuel : Nat) (listed : Array Bool) (a : Act) (w : World), Cl md ops listed →
      (∀ j oj, ops[j]? = some oj → j ≠ i → listed.getD j true = false → (∀ e ∈ oj.after, Region.binds md e = true → e.on ≠ i) → oi.apart ops oj = true) →
      i ∈ Region.ready md ops listed → YieldsIf P ops S oi v a → S w →
      wpAnyE P md ops Q S last fuel (listed.setIfInBounds i true) (a.put oi.dst v) w → wpAnyE P md ops Q S last (fuel + 1) listed a w := by
  intro fuel
  induction fuel with
  | zero =>
    intro listed a w _ _ hr hy hS H
    refine ⟨fun h => (by rw [h] at hr; cases hr), fun j hj => ?_⟩
    by_cases hji : j = i
    · subst hji; exact hy.wpOp hi hS ⟨.inr hS, H⟩
    · have := ready_mono hj hji
      rw [H.1] at this
      cases this
  | succ fuel ih =>
    intro listed a w hc hfree hr hy hS H
    refine ⟨fun h => (by rw [h] at hr; cases hr), fun j hj => ?_⟩
    by_cases hji : j = i
    · subst hji; exact hy.wpOp hi hS ⟨.inr hS, H⟩
    · have h1 := H.2 j (ready_mono hj hji)
      obtain ⟨hjun, oj, hoj, hall⟩ := mem_ready.1 hj
      have hi0 := (mem_ready.1 hr).1
      have hnof : ¬ listed.getD i false = true := fun h => by
        rcases Nat.lt_or_ge i listed.size with h' | h'
        · simp [h'] at h hi0; rw [hi0] at h; cases h
        · simp [Array.getElem?_eq_none h'] at hi0
      have hnot : ∀ e ∈ oj.after, Region.binds md e = true → e.on ≠ i := fun e he hb heq => hnof (heq ▸ hall e he hb)
      have hjl : j ≠ last := fun e => hnof (dep_listed hc hdep (.inr (e ▸ hj)))
      have h2 := wpOp_putIf hoj (hfree j oj hoj hji hjun hnot) (fun cs b => hsel i oi cs b hi) (fun cs b => hsel j oj cs b hoj) hQ hy h1
      have hfree' : ∀ k ok, ops[k]? = some ok → k ≠ i → (listed.setIfInBounds j true).getD k true = false →
          (∀ e ∈ ok.after, Region.binds md e = true → e.on ≠ i) → oi.apart ops ok = true := fun k ok hk hki hun hno => by
        refine hfree k ok hk hki ?_ hno
        by_cases hjk : j = k
        · subst hjk; exact hjun
        · rw [getD_set_ne true hjk] at hun; exact hun
      refine wpOp_mono (fun a' w' h3 => ?_) h2
      have hSw : S w' := h3.2.1.resolve_left hjl
      refine ⟨.inr hSw, ih (listed.setIfInBounds j true) a' w' (hc.set hj) hfree' (ready_mono hr (Ne.symm hji)) h3.1 hSw ?_⟩
      rw [Array.setIfInBounds_comm _ _ hji]
      exact h3.2.2
def clB (md : Region.Mode) (ops : Array Oper) (listed : Array Bool) : Bool := (List.range ops.size).all fun j => match ops[j]? with
  | none => true
  | some o => !listed.getD j false || o.after.toList.all fun e => !Region.binds md e || listed.getD e.on false
theorem cl_of {listed : Array Bool} (h : clB md ops listed = true) : Cl md ops listed := by
  intro j oj hj hl e he hb
  have h1 := List.all_eq_true.1 h j (List.mem_range.2 (Array.getElem?_eq_some_iff.1 hj).1)
  rw [hj] at h1
  simp only [hl, Bool.not_true, Bool.false_or, List.all_eq_true] at h1
  have := h1 e (by simpa using he)
  simpa [hb] using this
end
section
variable {P : Program} {l : List Oper} {Q : Exit → Act → World → Prop} {md : Region.Mode} {S : World → Prop} {last fuel : Nat} {listed : Array Bool} {a : Act} {w : World}
theorem wp_region_heldE {id : Nat} {ops : Array Oper} (last : Nat) (hm : P.follows .mixedOrders = true) (hS : S w.drew)
    (h : S w.drew → wpAnyE P .any ops Q S last ops.size (Array.replicate ops.size false) a w.drew) : (Code.region id ops true).wp P Q a w :=
  wp_region_any hm (wpAny_of_heldE _ _ _ _ (h hS))
theorem rgE_take {oi : Oper} {v : Value} (i n : Nat) (hi : nthO l i = some oi)
    (hs : Region.noSelect l.toArray = true) (hf : Region.free md l.toArray listed i = true) (hr : (Region.ready md l.toArray listed).contains i = true)
    (hc : clB md l.toArray listed = true) (hd : depB md l.toArray n last i = true)
    (hQ : ∀ c a w, Q (.panic c) (a.put oi.dst v) w → Q (.panic c) a w) (hw : Region.wanted oi (yielded l.toArray a.tmps) = true) (hy : ∀ w, S w → (execOp a.eval oi).run P w = .ok (.value v) w) (hS : S w)
    (h : wpAnyE P md l.toArray Q S last fuel (listed.setIfInBounds i true) (a.put oi.dst v) w) : wpAnyE P md l.toArray Q S last (fuel + 1) listed a w :=
  wpAnyE_first (nthO_get hi) (Region.noSelect_spec hs) hQ hd fuel listed a w (cl_of hc) (Region.free_spec (nthO_get hi) hf) (by simpa using hr) (.inl ⟨hw, hy⟩) hS h
theorem rgE_skip {oi : Oper} (i n : Nat) (hi : nthO l i = some oi)
    (hs : Region.noSelect l.toArray = true) (hf : Region.free md l.toArray listed i = true) (hr : (Region.ready md l.toArray listed).contains i = true)
    (hc : clB md l.toArray listed = true) (hd : depB md l.toArray n last i = true)
    (hQ : ∀ c a w, Q (.panic c) (a.put oi.dst undef) w → Q (.panic c) a w) (hw : Region.wanted oi (yielded l.toArray a.tmps) = false) (hS : S w)
    (h : wpAnyE P md l.toArray Q S last fuel (listed.setIfInBounds i true) (a.put oi.dst undef) w) : wpAnyE P md l.toArray Q S last (fuel + 1) listed a w :=
  wpAnyE_first (nthO_get hi) (Region.noSelect_spec hs) hQ hd fuel listed a w (cl_of hc) (Region.free_spec (nthO_get hi) hf) (by simpa using hr) (.inr ⟨hw, rfl⟩) hS h
theorem rgE_one {oi : Oper} {i : Nat} (hi : nthO l i = some oi) (hw : Region.wanted oi (yielded l.toArray a.tmps) = true)
    (h : ∀ K' : Act → World → Prop, Shut (∀ a w, (i = last ∨ S w) → (S w → wpAnyE P md l.toArray Q S last fuel (listed.setIfInBounds i true) a w) → K' a w) → Oper.wp P oi a w K' Q)
    (hlast : i ≠ last) : wpOp P l.toArray Q i (fun a' w' => (i = last ∨ S w') ∧ wpAnyE P md l.toArray Q S last fuel (listed.setIfInBounds i true) a' w') a w :=
  wpOp_step (nthO_get hi) fun K' hK => by
    rw [if_pos hw]
    exact h K' fun a w hS hW => hK a w ⟨hS, hW (hS.resolve_left hlast)⟩
theorem rgE_run {oi : Oper} (i : Nat) (hi : nthO l i = some oi) (hr : Region.ready md l.toArray listed = [i]) (hw : Region.wanted oi (yielded l.toArray a.tmps) = true) (hlast : i ≠ last)
    (h : ∀ K' : Act → World → Prop, Shut (∀ a w, (i = last ∨ S w) → (S w → wpAnyE P md l.toArray Q S last fuel (listed.setIfInBounds i true) a w) → K' a w) → Oper.wp P oi a w K' Q) : wpAnyE P md l.toArray Q S last (fuel + 1) listed a w :=
  ⟨fun h0 => absurd (hr ▸ h0) (by simp), fun j hj => by
    rw [hr, List.mem_singleton] at hj
    subst hj
    exact rgE_one hi hw h hlast⟩
theorem rgE_two {oi oj : Oper} (i j : Nat) (hi : nthO l i = some oi) (hj : nthO l j = some oj) (hr : Region.ready md l.toArray listed = [i, j]) (hwi : Region.wanted oi (yielded l.toArray a.tmps) = true) (hwj : Region.wanted oj (yielded l.toArray a.tmps) = true) (hli : i ≠ last) (hlj : j ≠ last)
    (h : ∀ K' : Act → World → Prop, Shut (∀ a w, (i = last ∨ S w) → (S w → wpAnyE P md l.toArray Q S last fuel (listed.setIfInBounds i true) a w) → K' a w) → Oper.wp P oi a w K' Q)
    (h' : ∀ K' : Act → World → Prop, Shut (∀ a w, (j = last ∨ S w) → (S w → wpAnyE P md l.toArray Q S last fuel (listed.setIfInBounds j true) a w) → K' a w) → Oper.wp P oj a w K' Q) : wpAnyE P md l.toArray Q S last (fuel + 1) listed a w :=
  ⟨fun h0 => absurd (hr ▸ h0) (by simp), fun k hk => by
    rw [hr] at hk
    simp only [List.mem_cons, List.not_mem_nil, or_false] at hk
    rcases hk with rfl | rfl
    · exact rgE_one hi hwi h hli
    · exact rgE_one hj hwj h' hlj⟩
/-- The last operation: what is left behind it is Q. -/
theorem rgE_last {oi : Oper} (hi : nthO l last = some oi) (hr : Region.ready md l.toArray listed = [last]) (hw : Region.wanted oi (yielded l.toArray a.tmps) = true) (hr2 : Region.ready md l.toArray (listed.setIfInBounds last true) = [])
    (h : ∀ K' : Act → World → Prop, Shut (∀ a w, Q .normal a w → K' a w) → Oper.wp P oi a w K' Q) : wpAnyE P md l.toArray Q S last (fuel + 1) listed a w :=
  ⟨fun h0 => absurd (hr ▸ h0) (by simp), fun j hj => by
    rw [hr, List.mem_singleton] at hj
    subst hj
    refine wpOp_step (nthO_get hi) fun K' hK => ?_
    rw [if_pos hw]
    refine h K' fun a w hQ => hK a w ⟨.inl rfl, ?_⟩
    cases fuel with
    | zero => exact ⟨hr2, hQ⟩
    | succ n => exact ⟨fun _ => hQ, fun k hk => by rw [hr2] at hk; cases hk⟩⟩
end
end Go.Proofs.YteengjcplmjakaaGreatDoor
