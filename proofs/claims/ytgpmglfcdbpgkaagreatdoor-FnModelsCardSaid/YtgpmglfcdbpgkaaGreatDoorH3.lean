/- Contracts and helpers (joined texts, part 3). The conditions stand at each theorem. -/
import Derived.Test.YtgpmglfcdbpgkaaGreatDoorRgH
import Derived.Test.YtgpmglfcdbpgkaaGreatDoorH2
import Derived.Test.YtgpmglfcdbpgkaaGreatDoorH1
import Derived.Test.YtgpmglfcdbpgkaaGreatDoorShg
import Derived.Lib.SplitLaws
import Derived.Lib.ParseIntBTie
import Derived.Lib.AtoiErrMem
/- A region that draws its order, walked by hand, whose last operation may change what the others read: the condition on the world is asked behind every operation but that one. No condition. -/
namespace Go.Proofs.YtgpmglfcdbpgkaaGreatDoor

section
variable {P : Program} {ops : Array Oper} {Q : Exit → Act → World → Prop} {md : Region.Mode} {S : World → Prop} {last : Nat}
def wpAnyE (P : Program) (md : Region.Mode) (ops : Array Oper) (Q : Exit → Act → World → Prop) (S : World → Prop) (last : Nat) : Nat → Array Bool → Act → World → Prop
  | 0, listed, a, w => Region.ready md ops listed = [] ∧ Q .normal a w
  | fuel + 1, listed, a, w =>
    (Region.ready md ops listed = [] → Q .normal a w) ∧
    ∀ i ∈ Region.ready md ops listed, wpOp P ops Q i (fun a' w' => (i = last ∨ S w') ∧ wpAnyE P md ops Q S last fuel (listed.setIfInBounds i true) a' w') a w
theorem wpAny_of_heldE : ∀ (fuel : Nat) (listed : Array Bool) (a : Act) (w : World), wpAnyE P md ops Q S last fuel listed a w → wpAny P md ops Q fuel listed a w
  | 0, _, _, _, h => h
  | fuel + 1, _, _, _, h => ⟨h.1, fun i hi => wpOp_mono (fun a' w' h' => wpAny_of_heldE fuel _ a' w' h'.2) (h.2 i hi)⟩
/-- What has come up is closed: whatever an operation waits for has come up before it. -/
def Cl (md : Region.Mode) (ops : Array Oper) (listed : Array Bool) : Prop := ∀ (j : Nat) (oj : Oper), ops[j]? = some oj → listed.getD j false = true → ∀ e ∈ oj.after, Region.binds md e = true → listed.getD e.on false = true
theorem Cl.set {listed : Array Bool} {j : Nat} (h : Cl md ops listed) (hj : j ∈ Region.ready md ops listed) : Cl md ops (listed.setIfInBounds j true) := by
  intro k ok hk hl e he hb
  by_cases e1 : j = k
  · subst e1
    obtain ⟨_, oj, hoj, hall⟩ := mem_ready.1 hj
    rw [hk] at hoj
    simp only [Option.some.injEq] at hoj
    subst hoj
    exact getD_set_true (hall e he hb)
  · rw [getD_set_ne false e1] at hl
    exact getD_set_true (h k ok hk hl e he hb)
/-- Operation l waits for operation i, directly or through others. -/
def depB (md : Region.Mode) (ops : Array Oper) : Nat → Nat → Nat → Bool
  | 0, _, _ => false
  | n + 1, l, i => match ops[l]? with
    | none => false
    | some o => o.after.toList.any fun e => Region.binds md e && (e.on == i || depB md ops n e.on i)
theorem dep_listed {listed : Array Bool} (hc : Cl md ops listed) {i : Nat} : ∀ {n l : Nat}, depB md ops n l i = true → (listed.getD l false = true ∨ l ∈ Region.ready md ops listed) → listed.getD i false = true
  | 0, _, h, _ => by cases h
  | n + 1, l, h, hl => by
    unfold depB at h
    split at h
    · cases h
    · rename_i o ho
      obtain ⟨e, he, h2⟩ := List.any_eq_true.1 h
      rw [Bool.and_eq_true] at h2
      have hem : e ∈ o.after := by simpa using he
      have hon : listed.getD e.on false = true := by
        rcases hl with hl | hl
        · exact hc l o ho hl e hem h2.1
        · obtain ⟨_, o', ho', hall⟩ := mem_ready.1 hl
          rw [ho] at ho'
          simp only [Option.some.injEq] at ho'
          subst ho'
          exact hall e hem h2.1
      have h3 := h2.2
      rw [Bool.or_eq_true] at h3
      rcases h3 with h3 | h3
      · rw [beq_iff_eq] at h3
        exact h3 ▸ hon
      · exact dep_listed hc h3 (.inl hon)
theorem wpAnyE_first {i n : Nat} {oi : Oper} {v : Value} (hi : ops[i]? = some oi) (hsel : ∀ (j : Nat) (o : Oper) cs b, ops[j]? = some o → o.op ≠ .select cs b)
    (hQ : ∀ c a w, Q (.panic c) (a.put oi.dst v) w → Q (.panic c) a w) (hdep : depB md ops n last i = true) :
    ∀ (fuel : Nat) (listed : Array Bool) (a : Act) (w : World), Cl md ops listed →
      (∀ j oj, ops[j]? = some oj → j ≠ i → listed.getD j true = false → (∀ e ∈ oj.after, Region.binds md e = true → e.on ≠ i) → oi.apart ops oj = true) →
      i ∈ Region.ready md ops listed → YieldsIf P ops S oi v a → S w →
      wpAnyE P md ops Q S last fuel (listed.setIfInBounds i true) (a.put oi.dst v) w → wpAnyE P md ops Q S last (fuel + 1) listed a w := by
  intro fuel
  induction fuel with
  | zero =>
    intro listed a w _ _ hr hy hS H
    refine ⟨fun h => (by rw [h] at hr; cases hr), fun j hj => ?_⟩
    by_cases hji : j = i
    · subst hji; exact hy.wpOp hi hS ⟨.inr hS, H⟩
    · have := ready_mono hj hji
      rw [H.1] at this
      cases this
  | succ fuel ih =>
    intro listed a w hc hfree hr hy hS H
    refine ⟨fun h => (by rw [h] at hr; cases hr), fun j hj => ?_⟩
    by_cases hji : j = i
    · subst hji; exact hy.wpOp hi hS ⟨.inr hS, H⟩
    · have h1 := H.2 j (ready_mono hj hji)
      obtain ⟨hjun, oj, hoj, hall⟩ := mem_ready.1 hj
      have hi0 := (mem_ready.1 hr).1
      have hnof : ¬ listed.getD i false = true := fun h => by
        rcases Nat.lt_or_ge i listed.size with h' | h'
        · simp [h'] at h hi0; rw [hi0] at h; cases h
        · simp [Array.getElem?_eq_none h'] at hi0
      have hnot : ∀ e ∈ oj.after, Region.binds md e = true → e.on ≠ i := fun e he hb heq => hnof (heq ▸ hall e he hb)
      have hjl : j ≠ last := fun e => hnof (dep_listed hc hdep (.inr (e ▸ hj)))
      have h2 := wpOp_putIf hoj (hfree j oj hoj hji hjun hnot) (fun cs b => hsel i oi cs b hi) (fun cs b => hsel j oj cs b hoj) hQ hy h1
      have hfree' : ∀ k ok, ops[k]? = some ok → k ≠ i → (listed.setIfInBounds j true).getD k true = false →
          (∀ e ∈ ok.after, Region.binds md e = true → e.on ≠ i) → oi.apart ops ok = true := fun k ok hk hki hun hno => by
        refine hfree k ok hk hki ?_ hno
        by_cases hjk : j = k
        · subst hjk; exact hjun
        · rw [getD_set_ne true hjk] at hun; exact hun
      refine wpOp_mono (fun a' w' h3 => ?_) h2
      have hSw : S w' := h3.2.1.resolve_left hjl
      refine ⟨.inr hSw, ih (listed.setIfInBounds j true) a' w' (hc.set hj) hfree' (ready_mono hr (Ne.symm hji)) h3.1 hSw ?_⟩
      rw [Array.setIfInBounds_comm _ _ hji]
      exact h3.2.2
def clB (md : Region.Mode) (ops : Array Oper) (listed : Array Bool) : Bool := (List.range ops.size).all fun j => match ops[j]? with
  | none => true
  | some o => !listed.getD j false || o.after.toList.all fun e => !Region.binds md e || listed.getD e.on false
theorem cl_of {listed : Array Bool} (h : clB md ops listed = true) : Cl md ops listed := by
  intro j oj hj hl e he hb
  have h1 := List.all_eq_true.1 h j (List.mem_range.2 (Array.getElem?_eq_some_iff.1 hj).1)
  rw [hj] at h1
  simp only [hl, Bool.not_true, Bool.false_or, List.all_eq_true] at h1
  have := h1 e (by simpa using he)
  simpa [hb] using this
end
section
variable {P : Program} {l : List Oper} {Q : Exit → Act → World → Prop} {md : Region.Mode} {S : World → Prop} {last fuel : Nat} {listed : Array Bool} {a : Act} {w : World}
theorem wp_region_heldE {id : Nat} {ops : Array Oper} (last : Nat) (hm : P.follows .mixedOrders = true) (hS : S w.drew)
    (h : S w.drew → wpAnyE P .any ops Q S last ops.size (Array.replicate ops.size false) a w.drew) : (Code.region id ops true).wp P Q a w :=
  wp_region_any hm (wpAny_of_heldE _ _ _ _ (h hS))
theorem rgE_take {oi : Oper} {v : Value} (i n : Nat) (hi : nthO l i = some oi)
    (hs : Region.noSelect l.toArray = true) (hf : Region.free md l.toArray listed i = true) (hr : (Region.ready md l.toArray listed).contains i = true)
    (hc : clB md l.toArray listed = true) (hd : depB md l.toArray n last i = true)
    (hQ : ∀ c a w, Q (.panic c) (a.put oi.dst v) w → Q (.panic c) a w) (hw : Region.wanted oi (yielded l.toArray a.tmps) = true) (hy : ∀ w, S w → (execOp a.eval oi).run P w = .ok (.value v) w) (hS : S w)
    (h : wpAnyE P md l.toArray Q S last fuel (listed.setIfInBounds i true) (a.put oi.dst v) w) : wpAnyE P md l.toArray Q S last (fuel + 1) listed a w :=
  wpAnyE_first (nthO_get hi) (Region.noSelect_spec hs) hQ hd fuel listed a w (cl_of hc) (Region.free_spec (nthO_get hi) hf) (by simpa using hr) (.inl ⟨hw, hy⟩) hS h
theorem rgE_skip {oi : Oper} (i n : Nat) (hi : nthO l i = some oi)
    (hs : Region.noSelect l.toArray = true) (hf : Region.free md l.toArray listed i = true) (hr : (Region.ready md l.toArray listed).contains i = true)
    (hc : clB md l.toArray listed = true) (hd : depB md l.toArray n last i = true)
    (hQ : ∀ c a w, Q (.panic c) (a.put oi.dst undef) w → Q (.panic c) a w) (hw : Region.wanted oi (yielded l.toArray a.tmps) = false) (hS : S w)
    (h : wpAnyE P md l.toArray Q S last fuel (listed.setIfInBounds i true) (a.put oi.dst undef) w) : wpAnyE P md l.toArray Q S last (fuel + 1) listed a w :=
  wpAnyE_first (nthO_get hi) (Region.noSelect_spec hs) hQ hd fuel listed a w (cl_of hc) (Region.free_spec (nthO_get hi) hf) (by simpa using hr) (.inr ⟨hw, rfl⟩) hS h
theorem rgE_one {oi : Oper} {i : Nat} (hi : nthO l i = some oi) (hw : Region.wanted oi (yielded l.toArray a.tmps) = true)
    (h : ∀ K' : Act → World → Prop, Shut (∀ a w, (i = last ∨ S w) → (S w → wpAnyE P md l.toArray Q S last fuel (listed.setIfInBounds i true) a w) → K' a w) → Oper.wp P oi a w K' Q)
    (hlast : i ≠ last) : wpOp P l.toArray Q i (fun a' w' => (i = last ∨ S w') ∧ wpAnyE P md l.toArray Q S last fuel (listed.setIfInBounds i true) a' w') a w :=
  wpOp_step (nthO_get hi) fun K' hK => by
    rw [if_pos hw]
    exact h K' fun a w hS hW => hK a w ⟨hS, hW (hS.resolve_left hlast)⟩
theorem rgE_run {oi : Oper} (i : Nat) (hi : nthO l i = some oi) (hr : Region.ready md l.toArray listed = [i]) (hw : Region.wanted oi (yielded l.toArray a.tmps) = true) (hlast : i ≠ last)
    (h : ∀ K' : Act → World → Prop, Shut (∀ a w, (i = last ∨ S w) → (S w → wpAnyE P md l.toArray Q S last fuel (listed.setIfInBounds i true) a w) → K' a w) → Oper.wp P oi a w K' Q) : wpAnyE P md l.toArray Q S last (fuel + 1) listed a w :=
  ⟨fun h0 => absurd (hr ▸ h0) (by simp), fun j hj => by
    rw [hr, List.mem_singleton] at hj
    subst hj
    exact rgE_one hi hw h hlast⟩
theorem rgE_two {oi oj : Oper} (i j : Nat) (hi : nthO l i = some oi) (hj : nthO l j = some oj) (hr : Region.ready md l.toArray listed = [i, j]) (hwi : Region.wanted oi (yielded l.toArray a.tmps) = true) (hwj : Region.wanted oj (yielded l.toArray a.tmps) = true) (hli : i ≠ last) (hlj : j ≠ last)
    (h : ∀ K' : Act → World → Prop, Shut (∀ a w, (i = last ∨ S w) → (S w → wpAnyE P md l.toArray Q S last fuel (listed.setIfInBounds i true) a w) → K' a w) → Oper.wp P oi a w K' Q)
    (h' : ∀ K' : Act → World → Prop, Shut (∀ a w, (j = last ∨ S w) → (S w → wpAnyE P md l.toArray Q S last fuel (listed.setIfInBounds j true) a w) → K' a w) → Oper.wp P oj a w K' Q) : wpAnyE P md l.toArray Q S last (fuel + 1) listed a w :=
  ⟨fun h0 => absurd (hr ▸ h0) (by simp), fun k hk => by
    rw [hr] at hk
    simp only [List.mem_cons, List.not_mem_nil, or_false] at hk
    rcases hk with rfl | rfl
    · exact rgE_one hi hwi h hli
    · exact rgE_one hj hwj h' hlj⟩
/-- The last operation: what is left behind it is Q. -/
theorem rgE_last {oi : Oper} (hi : nthO l last = some oi) (hr : Region.ready md l.toArray listed = [last]) (hw : Region.wanted oi (yielded l.toArray a.tmps) = true) (hr2 : Region.ready md l.toArray (listed.setIfInBounds last true) = [])
    (h : ∀ K' : Act → World → Prop, Shut (∀ a w, Q .normal a w → K' a w) → Oper.wp P oi a w K' Q) : wpAnyE P md l.toArray Q S last (fuel + 1) listed a w :=
  ⟨fun h0 => absurd (hr ▸ h0) (by simp), fun j hj => by
    rw [hr, List.mem_singleton] at hj
    subst hj
    refine wpOp_step (nthO_get hi) fun K' hK => ?_
    rw [if_pos hw]
    refine h K' fun a w hQ => hK a w ⟨.inl rfl, ?_⟩
    cases fuel with
    | zero => exact ⟨hr2, hQ⟩
    | succ n => exact ⟨fun _ => hQ, fun k hk => by rw [hr2] at hk; cases hk⟩⟩
end
end Go.Proofs.YtgpmglfcdbpgkaaGreatDoor

/- Numbers and lists of numbers read from texts, on the program's side. Condition: the texts' lengths; the library's variables hold what they are set to. -/
namespace Go.Proofs.YtgpmglfcdbpgkaaGreatDoor
open Go.RowKit

/-- The library's variables hold what they are set to. -/
structure Gw (w : World) : Prop where
  p : Pw w
  m : ∃ m, w.cell? ⟨0, 0, none⟩ = some (.int .i64 m)
  s : ∃ ev, w.cell? ⟨3, 0, none⟩ = some ev ∧ (ev = .nilIface ∨ ∃ te pe, ev = .iface te pe)
  r : ∃ ev, w.cell? ⟨4, 0, none⟩ = some ev ∧ (ev = .nilIface ∨ ∃ te pe, ev = .iface te pe)
theorem Gw.below {w w' : World} (h : Gw w) (hb : Below w.heap.size w w') : Gw w' :=
  ⟨h.p.below hb, h.m.imp fun _ e => cell_later hb e, h.s.imp fun _ e => ⟨cell_later hb e.1, e.2⟩, h.r.imp fun _ e => ⟨cell_later hb e.1, e.2⟩⟩
theorem splitB_spl (c : UInt8) (s : ByteArray) : (Lib.splitB ⟨#[c]⟩ 0 (Lib.countB s ⟨#[c]⟩) s).map Value.string = strs (spl c s.data.toList) ∧ Lib.countB s ⟨#[c]⟩ + 1 = (spl c s.data.toList).length := by
  have e1 : (Lib.splitB ⟨#[c]⟩ 0 (Lib.countB s ⟨#[c]⟩) s).map (·.data.toList) = spl c s.data.toList := by
    rw [Lib.splitB_data]
    exact lib_split c s.data.toList
  refine ⟨?_, ?_⟩
  · rw [← e1]
    unfold strs
    rw [List.map_map]
    refine List.map_congr_left fun x _ => ?_
    show Value.string x = Value.string (bsT x.data.toList)
    rw [← bsT_of rfl]
  · rw [← Lib.splitB_all ⟨#[c]⟩ (by show 1 ≤ 1; decide) 0 _ s rfl, ← e1, List.length_map]
theorem c_split (s : ByteArray) (c : UInt8) (w : World) (hs : s.size ≤ 1048576) (hG : Gw w) : Calls Tryz.prog 24 #[.string s, .string ⟨#[c]⟩] w (RetStrs (spl c s.data.toList) (spl c s.data.toList).length w) := by
  obtain ⟨m, hm⟩ := hG.m
  obtain ⟨h1, h2⟩ := splitB_spl c s
  refine (sh_strings_Split s ⟨#[c]⟩ m w (by omega) hm (by show 1 ≤ 1; decide)).mono ?_
  rintro e w' ⟨rfl, rfl⟩
  rw [h1, h2]
  refine ⟨_, _, rfl, ?_, below_alloc (Below.refl _ _) _⟩
  have hle : (spl c s.data.toList).length ≤ maxLen := by
    have h3 := spl_count c s.data.toList
    have h4 : s.data.toList.length = s.size := by simp
    unfold maxLen
    omega
  have h := World.ownsRow_lit (e := 9) (size := 1) (base := w.heap.size) w (strs (spl c s.data.toList)).toArray (spl c s.data.toList).length (Nat.le_refl _) hle (by simp [strs])
  simpa using h
/-- A number and whether it is one. -/
def RetRN (o : Option Int) (w : World) (e : Ending) (w' : World) : Prop := ∃ (n : Int) (b : Bool), e = .returned (.tuple #[.int .i64 n, .bool b]) ∧ o = (if b then some n else none) ∧ Below w.heap.size w w'
set_option maxHeartbeats 1000000 in
set_option maxRecDepth 100000 in
theorem c_readNumber (s : ByteArray) (w : World) (hs : s.size ≤ 1048576) (hG : Gw w) : Calls Tryz.prog 69 #[.string s] w (RetRN (rdI s.data.toList) w) := by
  have HG := Lib.hid hG
  clear hG
  cases hp : Lib.parseIntB 64 s.data.toList with
  | ok v =>
    have hv := Lib.parseIntB_bounds hp
    have HP := Lib.hid (fun w' => sh_strconv_ParseInt_10_at64_ok s (by omega) v hp w')
    have HR : Hid (rdI s.data.toList = if Lib.itoa v = s.data.toList then some v else none) := Lib.hid (by unfold rdI; rw [hp])
    clear hp
    go_enter Tryz.func69, Tryz.ntmps69
    go_wp2_with (fail)
    refine (HP.out _).mono ?_
    rintro e w1 ⟨rfl, hw⟩
    have hb : Below w.heap.size w w1 := by
      rcases hw with rfl | ⟨t, rfl⟩
      · exact Below.refl _ _
      · exact Lib.bytesWorld_below w _ t
    have HB := Lib.hid hb
    have HGG := Lib.hid (HG.out.below hb).p
    clear hw hb HP
    have HC := Lib.hid (c_decimal v (by omega) (by omega) w1 HGG.out)
    go_wp2_with (fail)
    refine HC.out.mono ?_
    rintro e w2 ⟨rfl, hb⟩
    have HB2 := Lib.hid (below_chain HB.out hb)
    clear hb HC HB
    by_cases he : Lib.itoa v = s.data.toList
    · have hq : ((bsT (Lib.itoa v)).toList == s.toList) = true := by rw [str_eq, bsT_list, he]; simp
      have HV : Hid (rdI s.data.toList = some v) := Lib.hid (by rw [HR.out, if_pos he])
      clear he
      go_wp2_with (fail)
      go_ret2
      exact ⟨v, true, rfl, HV.out, HB2.out⟩
    · have hq : ((bsT (Lib.itoa v)).toList == s.toList) = false := by rw [str_eq, bsT_list]; simpa using he
      have HV : Hid (rdI s.data.toList = none) := Lib.hid (by rw [HR.out, if_neg he])
      clear he
      go_wp2_with (fail)
      go_ret2
      exact ⟨v, false, rfl, HV.out, HB2.out⟩
  | range =>
    have HV : Hid (rdI s.data.toList = none) := Lib.hid (by unfold rdI; rw [hp])
    obtain ⟨ev, he1, he2⟩ := HG.out.r
    have HP := Lib.hid (sh_strconv_ParseInt_10_at64_range s (by omega) hp ev w he1 he2)
    generalize Lib.intSat 64 s.data.toList = z at HP
    clear hp he1 he2
    go_enter Tryz.func69, Tryz.ntmps69
    go_wp2_with (fail)
    refine HP.out.mono ?_
    rintro e w1 ⟨N, rfl, _, _, hb⟩
    have HB := Lib.hid hb
    clear hb HP
    go_wp2_with (fail)
    go_ret2
    exact ⟨z, false, rfl, HV.out, HB.out⟩
  | _ =>
    have HV : Hid (rdI s.data.toList = none) := Lib.hid (by unfold rdI; rw [hp])
    obtain ⟨ev, he1, he2⟩ := HG.out.s
    have HP := Lib.hid (sh_strconv_ParseInt_10_at64_syntax s (by omega) (by rw [hp]) ev w he1 he2)
    clear hp he1 he2
    go_enter Tryz.func69, Tryz.ntmps69
    go_wp2_with (fail)
    refine HP.out.mono ?_
    rintro e w1 ⟨N, rfl, _, _, hb⟩
    have HB := Lib.hid hb
    clear hb HP
    go_wp2_with (fail)
    go_ret2
    exact ⟨0, false, rfl, HV.out, HB.out⟩
set_option maxHeartbeats 1000000 in
set_option maxRecDepth 100000 in
theorem c_readNumbers (A : Option Addr) (c n : Nat) (ws : List (List UInt8)) (w : World) (hn : n = ws.length) (hs : n ≤ 2000000) (hl : ∀ x ∈ ws, x.length ≤ 1048576) (hr : Rd w A (strs ws)) (hG : Gw w) :
    Calls Tryz.prog 27 #[.slice A n c] w (RetNO (seqO rdI ws) w) := by
  have HN := Lib.hid hn
  have HL := Lib.hid hl
  have HR := Lib.hid hr
  have HG := Lib.hid hG
  have HB0 := Lib.hid (Below.refl w.heap.size w)
  have HO : Hid (w.ownsRow w.heap.size 2 1 (.slice none 0 0) 0 (ints [])) := Lib.hid (World.ownsRow_nil _ _ _ _)
  clear hn hl hr hG
  go_enter Tryz.func27, Tryz.ntmps27
  go_wp2_with (fail)
  go_loopw [4, 6, 7, 8, 11] (fun v _ _ _ i wr => ∃ (k : Nat) (A3 : Option Addr) (c3 : Nat) (zs : List Int), k ≤ n ∧ i = .int .i64 k ∧ v = .slice A3 k c3 ∧ Hid (seqO rdI (ws.take k) = some zs) ∧ Hid (wr.ownsRow w.heap.size 2 1 (.slice A3 k c3) k (ints zs)) ∧ Hid (Below w.heap.size w wr)) (fun _ _ _ _ i _ => n - (intOf i).toNat)
  case atStart => exact ⟨0, _, _, [], Nat.zero_le _, rfl, rfl, Lib.hid rfl, HO, HB0⟩
  case round =>
    obtain ⟨k, A3, c3, zs, hk, rfl, rfl, hz, ho, hb⟩ := hrel
    clear HO HB0
    by_cases hlt : k < n
    · obtain ⟨x, hx⟩ : ∃ z, ws[k]? = some z := ⟨_, List.getElem?_eq_getElem (by have := HN.out; omega)⟩
      have hxl := HL.out x (List.mem_of_getElem? hx)
      obtain ⟨b, off, rfl, _, g0⟩ := (HR.out.below hb.out).str hx
      have hk0 : (0 : Int) ≤ (k : Int) := by omega
      have hk1 : (k : Int) < (n : Int) := by omega
      have HX := Lib.hid hx
      have HC := Lib.hid (fun w' => c_readNumber (bsT x) w' (by rw [bsT_size]; exact hxl))
      rw [bsT_list] at HC
      have HGK := Lib.hid (HG.out.below hb.out)
      clear hx
      go_wp2_with (fail)
      refine (HC.out _ HGK.out).mono ?_
      rintro e w2 ⟨m, q, rfl, hm, hb2⟩
      have HM := Lib.hid hm
      have HO2 := Lib.hid (own_below ho.out hb2)
      have HB2 := Lib.hid (below_chain hb.out hb2)
      clear hm hb2 ho hb g0 HGK
      cases q
      · have HV : Hid (seqO rdI ws = none) := Lib.hid (seqO_bad (List.mem_of_getElem? HX.out) HM.out)
        go_wp2_with (fail)
        go_ret2
        exact retNO_none HV.out HB2.out
      · have HZ2 : Hid (seqO rdI (ws.take (k + 1)) = some (zs ++ [m])) := Lib.hid (by
          rw [List.take_add_one, HX.out]
          exact seqO_snoc hz.out HM.out)
        have HA1 := Lib.hid (below_alloc (Below.refl w2.heap.size w2) (.cells #[.int .i64 m] 2))
        go_wp2_with (first
          | (at_builtin
             refine wpList_push_intT _ rfl (.tmp 22) (.tmp 24) rfl w.heap.size (.slice A3 k c3) k zs m w2.heap.size 1 rfl (own_below HO2.out HA1.out) rfl (by go_simp) (by omega) (Nat.le_trans HB2.out.size HA1.out.size) ?_
             intro v5 w5 hown hgrow
             obtain ⟨A9, c9, rfl⟩ := own_shape hown
             have HO5 := Lib.hid hown
             have HB5 := Lib.hid (below_of_grown (below_chain HB2.out HA1.out) hgrow (fun p hp => (HO2.out.lt p hp).1))
             clear hown hgrow HA1 HO2 HB2)
          )
        go_roundw
        case rel => exact ⟨k + 1, A9, c9, zs ++ [m], by omega, by go_num, rfl, HZ2, HO5, HB5⟩
        case measure => simp [intOf]; omega
    · obtain rfl : k = n := by omega
      have HT : Hid (seqO rdI ws = some zs) := Lib.hid (by rw [← hz.out, List.take_of_length_le (by have := HN.out; omega)])
      have HNL : Hid (k = zs.length) := Lib.hid (by rw [seqO_length HT.out]; exact HN.out)
      go_wp2_with (fail)
      go_ret2
      exact retNO_some HT.out HNL.out ho.out hb.out
end Go.Proofs.YtgpmglfcdbpgkaaGreatDoor

/- Pieces of a line, numbers around a sign: on the program's side. Condition: the texts' lengths; the library's variables hold what they are set to. -/
namespace Go.Proofs.YtgpmglfcdbpgkaaGreatDoor
open Go.RowKit

theorem idx_mem (c : UInt8) : ∀ (l : List UInt8), decide (0 ≤ Lib.indexByte l c) = l.contains c
  | [] => by simp [Lib.indexByte]
  | b :: l => by
    have ih := idx_mem c l
    have hg := Lib.indexByte_ge l c
    unfold Lib.indexByte
    by_cases hb : b = c
    · subst hb; simp
    · have h1 : (b == c) = false := by simpa using hb
      have h2 : ¬ c = b := fun e => hb e.symm
      simp only [h1]
      rw [List.contains_cons, show (c == b) = false by simpa using h2, Bool.false_or, ← ih]
      by_cases h0 : Lib.indexByte l c = -1
      · rw [h0]; simp
      · have : 0 ≤ Lib.indexByte l c := by omega
        have e : (Lib.indexByte l c == -1) = false := by simpa using h0
        simp [e, this]; omega
theorem c_contains (s : ByteArray) (c : UInt8) (w : World) : Calls Tryz.prog 71 #[.string s, .string ⟨#[c]⟩] w fun e w' => e = .returned (.bool (s.data.toList.contains c)) ∧ w' = w := by
  rw [← idx_mem]
  exact sh_strings_Contains_one s c w
/-- Pieces, or none. -/
def RetLs (ws : List (List UInt8)) (w : World) (e : Ending) (w' : World) : Prop := ∃ A n cp, e = .returned (.slice A n cp) ∧ n = ws.length ∧ w'.ownsRow w.heap.size 9 1 (.slice A n cp) n (strs ws) ∧ Below w.heap.size w w'
set_option maxRecDepth 100000 in
theorem c_listOf (s : ByteArray) (w : World) (hs : s.size ≤ 1048576) (hG : Gw w) : Calls Tryz.prog 70 #[.string s] w (RetLs (listI s.data.toList) w) := by
  have HC := Lib.hid (c_split s 38 w hs hG)
  clear hG
  by_cases he : s.data.toList = [45]
  · have hq : (s.toList == [45]) = true := by rw [Lib.toList_data, he]; rfl
    have HV : Hid (listI s.data.toList = []) := Lib.hid (by unfold listI; rw [if_pos he])
    clear he HC
    go_enter Tryz.func70, Tryz.ntmps70
    go_wp2_with (fail)
    go_ret
    rw [HV.out]
    exact ⟨none, 0, 0, rfl, rfl, World.ownsRow_nil _ _ _ _, by (repeat (first | exact Below.refl _ _ | assumption | refine below_alloc ?_ _ | refine below_drewN ?_ _ | refine below_set ?_ _ (by simp; try omega) | refine Below.drew ?_))⟩
  · have hq : (s.toList == [45]) = false := by rw [Lib.toList_data]; simpa using he
    have HV : Hid (listI s.data.toList = spl 38 s.data.toList) := Lib.hid (by unfold listI; rw [if_neg he])
    rw [HV.out]
    clear he
    go_enter Tryz.func70, Tryz.ntmps70
    go_wp2_with (fail)
    refine HC.out.mono ?_
    rintro e w1 ⟨A, cp, rfl, ho, hb⟩
    have HR := Lib.hid ho
    have HB := Lib.hid hb
    clear ho hb HC
    go_wp2_with (fail)
    go_ret
    exact ⟨_, _, _, rfl, rfl, HR.out, HB.out⟩
/-- Two numbers and whether there are two. -/
def RetAr (o : Option (Int × Int)) (w : World) (e : Ending) (w' : World) : Prop := ∃ A n cp q, e = .returned (.tuple #[.slice A n cp, .bool q]) ∧ (q = false → o = none) ∧ (q = true → ∃ a b, o = some (a, b) ∧ n = 2 ∧ w'.ownsRow w.heap.size 2 1 (.slice A n cp) n (ints [a, b])) ∧ Below w.heap.size w w'
set_option maxHeartbeats 1000000 in
set_option maxRecDepth 100000 in
theorem c_numbersAround (s : ByteArray) (c : UInt8) (w : World) (hs : s.size ≤ 1048576) (hG : Gw w) : Calls Tryz.prog 72 #[.string s, .string ⟨#[c]⟩] w (RetAr (aroundI c s.data.toList) w) := by
  have HC := Lib.hid (c_split s c w hs hG)
  have HG := Lib.hid hG
  have hL : s.data.toList.length = s.size := by simp
  have HXM := Lib.hid (fun z (h : z ∈ spl c s.data.toList) => spl_len z h)
  have HXC := Lib.hid (spl_count c s.data.toList)
  rw [hL] at HXM HXC
  have HV : Hid (aroundI c s.data.toList = match seqO rdI (spl c s.data.toList) with | some [a, b] => some (a, b) | _ => none) := Lib.hid rfl
  generalize aroundI c s.data.toList = V at *
  generalize spl c s.data.toList = ws at *
  clear hG hL
  go_enter Tryz.func72, Tryz.ntmps72
  go_wp2_with (fail)
  refine HC.out.mono ?_
  rintro e w1 ⟨A1, c1, rfl, ho, hb⟩
  have HR := Lib.hid (Rd.own ho)
  have HB := Lib.hid hb
  have HG1 := Lib.hid (HG.out.below hb)
  clear ho hb HC HG
  go_wp2_with (fail)
  refine (c_readNumbers A1 c1 ws.length ws _ rfl (by have := HXC.out; omega) (fun z h => Nat.le_trans (HXM.out z h) (by omega)) HR.out HG1.out).mono ?_
  rintro e w2 hret
  obtain ⟨A2, n, c2, q, rfl, hq0, hq1, hq2, hb⟩ := hret.both
  have HB2 := Lib.hid (below_chain HB.out hb)
  have HQ0 := Lib.hid hq0
  have HQ1 := Lib.hid hq1
  have HQ2 := Lib.hid (fun zs e => own_mono (hq2 zs e) HB.out.size)
  clear hret hb hq0 hq1 hq2 HB HR HG1
  cases q
  · have HN : Hid (V = none) := Lib.hid (by rw [HV.out, HQ0.out rfl])
    go_wp2_with (fail)
    go_ret2
    exact ⟨A2, n, c2, false, rfl, fun _ => HN.out, (fun h => nomatch h), HB2.out⟩
  · obtain ⟨zs, hz, rfl⟩ := HQ1.out rfl
    have HR2 := Lib.hid (HQ2.out zs hz)
    rw [hz] at HV
    clear HQ0 HQ1 HQ2 hz
    by_cases h2 : zs.length = 2
    · obtain ⟨a, b, rfl⟩ : ∃ a b, zs = [a, b] := by
        match zs, h2 with
        | [a, b], _ => exact ⟨a, b, rfl⟩
      have HN : Hid (V = some (a, b)) := Lib.hid HV.out
      simp only [List.length_cons, List.length_nil, Nat.zero_add, Nat.reduceAdd]
      clear h2
      go_wp2_with (fail)
      go_ret2
      exact ⟨A2, 2, c2, true, rfl, (fun h => nomatch h), fun _ => ⟨a, b, HN.out, rfl, HR2.out⟩, HB2.out⟩
    · have hq : ((zs.length : Int) == 2) = false := by rw [beq_eq_false_iff_ne]; omega
      have HN : Hid (V = none) := Lib.hid (by
        rw [HV.out]
        match zs, h2 with
        | [], _ => rfl
        | [_], _ => rfl
        | [_, _], h => exact absurd rfl h
        | _ :: _ :: _ :: _, _ => rfl)
      clear h2
      go_wp2_with (fail)
      go_ret2
      exact ⟨A2, zs.length, c2, false, rfl, fun _ => HN.out, (fun h => nomatch h), HB2.out⟩
theorem own2 {w : World} {base n c : Nat} {A : Option Addr} {a b : Int} (h : w.ownsRow base 2 1 (.slice A n c) n (ints [a, b])) (hn : n = 2) : ∃ g, A = some ⟨g, 0, none⟩ ∧ base ≤ g ∧ w.cell? ⟨g, 0, none⟩ = some (.int .i64 a) ∧ w.cell? ⟨g, 1, none⟩ = some (.int .i64 b) := by
  subst hn
  obtain ⟨bb, off, rfl, _, _⟩ := (Rd.own h).int (k := 0) rfl
  rcases h.2 with ⟨h1, _⟩ | ⟨g, cap, cur, hv, hge, _⟩
  · cases h1
  · injection hv with e1 _ _
    simp only [Option.some.injEq, Addr.mk.injEq, and_true] at e1
    obtain ⟨rfl, rfl⟩ := e1
    exact ⟨bb, rfl, hge, h.cellAt 0 (by decide), h.cellAt 1 (by decide)⟩
theorem Box3.set1 {t : TypeId} {w : World} {base p : Nat} {x y z : Value} (h : Box3 t w base p x y z) (v : Value) : Box3 t (w.setCell ⟨p, 1, none⟩ v) base p x v z ∧ w.grownBy (w.setCell ⟨p, 1, none⟩ v) (some p) := by
  have h1 := World.ownsRow.stored h 1 v
  exact ⟨by simpa [Box3] using h1.1, h1.2⟩
theorem Box3.set2 {t : TypeId} {w : World} {base p : Nat} {x y z : Value} (h : Box3 t w base p x y z) (v : Value) : Box3 t (w.setCell ⟨p, 2, none⟩ v) base p x y v ∧ w.grownBy (w.setCell ⟨p, 2, none⟩ v) (some p) := by
  have h1 := World.ownsRow.stored h 2 v
  exact ⟨by simpa [Box3] using h1.1, h1.2⟩
theorem testI_y {w : List UInt8} (h : w.contains 61 = true) : testI w = match aroundI 61 w with | some (a, b) => some ⟨a, b, true⟩ | none => none := by unfold testI; rw [h]; rfl
theorem testI_n {w : List UInt8} (h : w.contains 61 = false) : testI w = match aroundI 33 w with | some (a, b) => some ⟨a, b, false⟩ | none => none := by unfold testI; rw [h]; rfl
theorem ruleI_three {line a b c : List UInt8} (h : spl 32 line = [a, b, c]) : ruleI line = match seqO testI (listI b) with
    | none => none
    | some gs => match seqO asgI (listI c) with
      | none => none
      | some es => some ⟨⟨a.toArray⟩, gs, es⟩ := by unfold ruleI; rw [h]; rfl
theorem ruleI_not {line : List UInt8} (h : (spl 32 line).length ≠ 3) : ruleI line = none := by
  unfold ruleI
  split
  · next e => rw [e] at h; exact absurd rfl h
  · rfl
theorem listI_len {w : List UInt8} : (listI w).length ≤ w.length + 1 ∧ ∀ x ∈ listI w, x.length ≤ w.length := by
  unfold listI
  split
  · exact ⟨by simp, fun x h => by cases h⟩
  · exact ⟨spl_count 38 w, fun x h => spl_len x h⟩
end Go.Proofs.YtgpmglfcdbpgkaaGreatDoor

/- readRule: a line as a rule, on the program's side. Condition: the line's length; the library's variables hold what they are set to. -/
namespace Go.Proofs.YtgpmglfcdbpgkaaGreatDoor
open Go.RowKit

set_option maxHeartbeats 4000000 in
set_option maxRecDepth 100000 in
theorem c_readRule (s : ByteArray) (w : World) (hs : s.size ≤ 1048576) (hG : Gw w) : Calls Tryz.prog 28 #[.string s] w (RetRulO (ruleI s.data.toList) w) := by
  have hSL : s.data.toList.length = s.size := by simp
  have HBX : Hid (Box3 45 (w.alloc (.cells #[.string ⟨#[]⟩, .slice none 0 0, .slice none 0 0] 45)) w.heap.size w.heap.size (.string ⟨#[]⟩) (.slice none 0 0) (.slice none 0 0)) := Lib.hid (box3_new _ _ _)
  have HB0 := Lib.hid (below_alloc (Below.refl w.heap.size w) (.cells #[.string ⟨#[]⟩, .slice none 0 0, .slice none 0 0] 45))
  have HSP := Lib.hid (fun w' => c_split s 32 w' hs)
  have HNT := Lib.hid (fun h => ruleI_not (line := s.data.toList) h)
  have HTH := Lib.hid (fun a b c h => ruleI_three (a := a) (b := b) (c := c) (line := s.data.toList) h)
  have HWL := Lib.hid (fun x (h : x ∈ spl 32 s.data.toList) => spl_len x h)
  have HG0 := Lib.hid (hG.below HB0.out)
  rw [hSL] at HWL
  generalize ruleI s.data.toList = V at *
  generalize spl 32 s.data.toList = ws at *
  clear hSL hG
  go_enter Tryz.func28, Tryz.ntmps28
  go_upto_region 1 with (fail)
  generalize w.alloc (.cells #[.string ⟨#[]⟩, .slice none 0 0, .slice none 0 0] 45) = W at *
  go_wp2_with (fail)
  refine (HSP.out _ HG0.out).mono ?_
  rintro e w1 ⟨Aw, cw, rfl, how, hb⟩
  have HRW := Lib.hid (Rd.own how)
  have HB1 := Lib.hid (below_chain HB0.out hb)
  have HX1 := Lib.hid (HBX.out.below hb)
  have HG1 := Lib.hid (HG0.out.below hb)
  obtain ⟨wn, hwn⟩ : ∃ wn, wn = ws.length := ⟨_, rfl⟩
  rw [← hwn]
  clear how hb HB0 HBX HSP HG0
  by_cases h3 : ¬ ws.length = 3
  · have HN : Hid (V = none) := Lib.hid (HNT.out h3)
    have hq : ((wn : Int) != 3) = true := by simp; omega
    have HF := Lib.hid (Box3.set3 HX1.out (.string ⟨#[]⟩) (.slice none 0 0) (.slice none 0 0))
    have HBF := Lib.hid (below_put HB1.out (.string ⟨#[]⟩) (.slice none 0 0) (.slice none 0 0) (Nat.le_refl _))
    obtain ⟨v0, v1, v2, f0, f1, f2, _, _⟩ := HX1.out.c
    clear h3 hwn HNT HTH HWL HB1 HRW
    go_wp2_with (fail)
    change bodyPost _ _ _ _ _ (set3 w1 w.heap.size (.string ⟨#[]⟩) (.slice none 0 0) (.slice none 0 0))
    generalize set3 w1 w.heap.size (.string ⟨#[]⟩) (.slice none 0 0) (.slice none 0 0) = WF at HF HBF ⊢
    obtain ⟨r0, r1, r2, _⟩ := Box3.c HF.out.1
    clear f0 f1 f2 v0 v1 v2
    refine bodyPost_ret (v := .tuple #[.agg #[.string ⟨#[]⟩, .slice none 0 0, .slice none 0 0], .bool false]) (by simp [results, Tryz.results28, go_sem, r0, r1, r2]) rfl (retRulO_none HN.out HBF.out)
  replace h3 := Decidable.not_not.1 h3
  obtain ⟨x, y, z, rfl⟩ : ∃ x y z, ws = [x, y, z] := by
    match ws, h3 with
    | [x, y, z], _ => exact ⟨x, y, z, rfl⟩
  have HVV := Lib.hid (HTH.out x y z rfl)
  obtain ⟨bw, ow, rfl, _, y0⟩ := HRW.out.str (k := 0) rfl
  obtain ⟨_, _, e1, _, y1⟩ := HRW.out.str (k := 1) rfl
  obtain ⟨_, _, e2, _, y2⟩ := HRW.out.str (k := 2) rfl
  simp only [Option.some.injEq, Addr.mk.injEq, and_true] at e1 e2
  obtain ⟨rfl, rfl⟩ := e1
  obtain ⟨rfl, rfl⟩ := e2
  simp only [Nat.add_zero] at y0
  have hyl := HWL.out y (by simp)
  have hzl := HWL.out z (by simp)
  have HLY := Lib.hid (fun w' => c_listOf (bsT y) w' (by rw [bsT_size]; omega))
  have HLZ := Lib.hid (fun w' => c_listOf (bsT z) w' (by rw [bsT_size]; omega))
  rw [bsT_list] at HLY HLZ
  have HYN := Lib.hid (listI_len (w := y))
  have HZN := Lib.hid (listI_len (w := z))
  have HVW : Hid (V = match seqO testI (listI y) with
    | none => none
    | some gs => match seqO asgI (listI z) with
      | none => none
      | some es => some ⟨⟨x.toArray⟩, gs, es⟩) := HVV
  clear HVV HTH HNT HWL HRW h3
  generalize listI y = ls at *
  generalize listI z = lz at *
  simp only [List.length_cons, List.length_nil, Nat.zero_add, Nat.reduceAdd] at hwn
  subst hwn
  have HBr : Hid (Box3 45 (w1.alloc (.cells #[.string (bsT x), .slice none 0 0, .slice none 0 0] 45)) w1.heap.size w1.heap.size (.string (bsT x)) (.slice none 0 0) (.slice none 0 0)) := Lib.hid (box3_new _ _ _)
  have HBw := Lib.hid (below_alloc (Below.refl w1.heap.size w1) (.cells #[.string (bsT x), .slice none 0 0, .slice none 0 0] 45))
  have hw2s : (w1.alloc (.cells #[.string (bsT x), .slice none 0 0, .slice none 0 0] 45)).heap.size = w1.heap.size + 1 := by simp
  have HW2S := Lib.hid hw2s
  clear hw2s
  go_upto_region 5 with (fail)
  generalize w1.alloc (.cells #[.string (bsT x), .slice none 0 0, .slice none 0 0] 45) = w2 at *
  have HY2 := Lib.hid y2
  replace y1 := cell_later HBw.out y1
  clear y2
  have HG2 := Lib.hid (HG1.out.below HBw.out)
  go_wp2_with (fail)
  refine (HLY.out _ HG2.out).mono ?_
  rintro e w3 ⟨Al, ln, cl, rfl, hln, hlo, hb⟩
  have HB3 := Lib.hid (below_chain HBw.out hb)
  have HX3 := Lib.hid (HBr.out.below hb)
  have HL3 := Lib.hid hlo
  have HLN := Lib.hid hln
  clear hb hln hlo HBw HBr HLY HG2 y1
  have HOG : Hid (w3.ownsRow w1.heap.size 90 3 (.slice none 0 0) 0 (tstCells [])) := Lib.hid (World.ownsRow_nil _ _ _ _)
  have hlnb : ln ≤ 1048577 := by have := HYN.out.1; have := HLN.out; omega
  go_wp2_with (fail)
  go_loopw [7, 8, 9, 10, 30] (fun _ _ _ _ i wr => ∃ (k : Nat) (Ag : Option Addr) (cg : Nat) (gs : List Tst), k ≤ ln ∧ i = .int .i64 k ∧ Hid (seqO testI (ls.take k) = some gs) ∧ Hid (Box3 45 wr w1.heap.size w1.heap.size (.string (bsT x)) (.slice Ag k cg) (.slice none 0 0)) ∧ Hid (wr.ownsRow w1.heap.size 90 3 (.slice Ag k cg) k (tstCells gs)) ∧ Hid (wr.ownsRow w2.heap.size 9 1 (.slice Al ln cl) ln (strs ls)) ∧ Hid (Below w1.heap.size w1 wr)) (fun _ _ _ _ i _ => ln - (intOf i).toNat)
  case atStart => exact ⟨0, _, _, [], Nat.zero_le _, rfl, Lib.hid rfl, HX3, HOG, HL3, HB3⟩
  case round =>
    obtain ⟨k, Ag, cg, gs, hk, rfl, hz, hx, ho, hls, hb⟩ := hrel
    clear HX3 HOG HL3 HB3
    by_cases hlt : k < ln
    · obtain ⟨y', hxk⟩ : ∃ z, ls[k]? = some z := ⟨_, List.getElem?_eq_getElem (by have := HLN.out; omega)⟩
      have hyl' : y'.length ≤ 1048576 := by have := HYN.out.2 y' (List.mem_of_getElem? hxk); omega
      obtain ⟨bl, ol, rfl, _, g0⟩ := (Rd.own hls.out).str hxk
      have HXK := Lib.hid hxk
      have HCO := Lib.hid (fun w' => c_contains (bsT y') 61 w')
      rw [bsT_list] at HCO
      have HGK := Lib.hid (HG1.out.below hb.out)
      have hk0 : (0 : Int) ≤ (k : Int) := by omega
      have hk1 : (k : Int) < (ln : Int) := by omega
      clear hxk
      cases hcon : y'.contains 61 with
      | true =>
        rw [hcon] at HCO
        have HTE := Lib.hid (testI_y (w := y') hcon)
        have HNA := Lib.hid (fun w' => c_numbersAround (bsT y') 61 w' (by rw [bsT_size]; omega))
        rw [bsT_list] at HNA
        clear hcon
        go_wp2_with (first
          | (go_at_call 71
             refine (HCO.out _).mono ?_
             rintro e wq ⟨rfl, rfl⟩)
          )
        refine (HNA.out _ HGK.out).mono ?_
        rintro e w5 ⟨A5, n5, c5, q, rfl, hq0, hq1, hb5⟩
        have HB5 := Lib.hid (below_chain hb.out hb5)
        have HX5 := Lib.hid (hx.out.below hb5)
        have HO5 := Lib.hid (own_below ho.out hb5)
        have HL5 := Lib.hid (own_below hls.out hb5)
        have HQ0 := Lib.hid hq0
        have HQ1 := Lib.hid hq1
        clear hq0 hq1 hb5 hb hx ho hls g0 HGK HNA HCO
        cases q
        · have HN : Hid (V = none) := Lib.hid (by
            rw [HVW.out, seqO_bad (f := testI) (List.mem_of_getElem? HXK.out) (by rw [HTE.out, HQ0.out rfl])])
          have HX2 := Lib.hid (HX1.out.below HB5.out)
          have HBW := Lib.hid (below_chain HB1.out HB5.out)
          have HF := Lib.hid (Box3.set3 HX2.out (.string ⟨#[]⟩) (.slice none 0 0) (.slice none 0 0))
          have HBF := Lib.hid (below_put HBW.out (.string ⟨#[]⟩) (.slice none 0 0) (.slice none 0 0) (Nat.le_refl _))
          obtain ⟨v0, v1, v2, f0, f1, f2, _, _⟩ := HX2.out.c
          clear HX5 HO5 HL5 HB5 HQ0 HQ1 HX1 HB1
          go_wp2_with (fail)
          change bodyPost _ _ _ _ _ (set3 w5 w.heap.size (.string ⟨#[]⟩) (.slice none 0 0) (.slice none 0 0))
          generalize set3 w5 w.heap.size (.string ⟨#[]⟩) (.slice none 0 0) (.slice none 0 0) = WF at HF HBF ⊢
          obtain ⟨r0, r1, r2, _⟩ := Box3.c HF.out.1
          clear f0 f1 f2 v0 v1 v2
          refine bodyPost_ret (v := .tuple #[.agg #[.string ⟨#[]⟩, .slice none 0 0, .slice none 0 0], .bool false]) (by simp [results, Tryz.results28, go_sem, r0, r1, r2]) rfl (retRulO_none HN.out HBF.out)
        · obtain ⟨a, b, hab, h2, hown⟩ := HQ1.out rfl
          have HTK : Hid (testI y' = some ⟨a, b, true⟩) := Lib.hid (by rw [HTE.out, hab])
          obtain ⟨g5, rfl, hg5, m0, m1⟩ := own2 hown h2
          have HN5 := Lib.hid hown
          have HT1 : Hid (seqO testI (ls.take (k + 1)) = some (gs ++ [⟨a, b, true⟩])) := Lib.hid (by
            rw [List.take_add_one, HXK.out]
            exact seqO_snoc hz.out HTK.out)
          subst h2
          obtain ⟨_, b1, _, _, f1, _, _, _⟩ := HX5.out.c
          clear hab hown HQ0 HQ1 hz HTK HTE
          go_wp2_with (fail)
          refine wp_region_heldE 14 (S := (fun w' => w'.cell? ⟨w1.heap.size, 1, none⟩ = some (.slice Ag k cg) ∧ w'.cell? ⟨g5, 0, none⟩ = some (.int .i64 a) ∧ w'.cell? ⟨g5, 1, none⟩ = some (.int .i64 b))) (by kernel_rfl) ?_ (fun hHeld => ?_)
          · exact ⟨b1, m0, m1⟩
          refine rgE_take (v := ?_) 0 12 rfl (by kernel_rfl) (by kernel_rfl) (by kernel_rfl) (by kernel_rfl) (by kernel_rfl) (fun _ _ _ h => h) (by kernel_rfl) ?_ (by assumption) ?_
          rotate_left
          · (intro w' hSw; (try dsimp only at hSw); go_simp; first | done | with_reducible rfl)
          simp only [Act.put, List.setIfInBounds_toArray, List.set_cons_zero, List.set_cons_succ]
          refine rgE_take (v := ?_) 1 12 rfl (by kernel_rfl) (by kernel_rfl) (by kernel_rfl) (by kernel_rfl) (by kernel_rfl) (fun _ _ _ h => h) (by kernel_rfl) ?_ (by assumption) ?_
          rotate_left
          · (intro w' hSw; (try dsimp only at hSw); go_simp; first | done | with_reducible rfl)
          simp only [Act.put, List.setIfInBounds_toArray, List.set_cons_zero, List.set_cons_succ]
          refine rgE_take (v := ?_) 2 12 rfl (by kernel_rfl) (by kernel_rfl) (by kernel_rfl) (by kernel_rfl) (by kernel_rfl) (fun _ _ _ h => h) (by kernel_rfl) ?_ (by assumption) ?_
          rotate_left
          · (intro w' hSw; (try dsimp only at hSw); go_simp; first | done | with_reducible rfl)
          simp only [Act.put, List.setIfInBounds_toArray, List.set_cons_zero, List.set_cons_succ]
          refine rgE_take (v := ?_) 3 12 rfl (by kernel_rfl) (by kernel_rfl) (by kernel_rfl) (by kernel_rfl) (by kernel_rfl) (fun _ _ _ h => h) (by kernel_rfl) ?_ (by assumption) ?_
          rotate_left
          · (intro w' hSw; (try dsimp only at hSw); go_simp; first | done | with_reducible rfl)
          simp only [Act.put, List.setIfInBounds_toArray, List.set_cons_zero, List.set_cons_succ]
          refine rgE_take (v := ?_) 4 12 rfl (by kernel_rfl) (by kernel_rfl) (by kernel_rfl) (by kernel_rfl) (by kernel_rfl) (fun _ _ _ h => h) (by kernel_rfl) ?_ (by assumption) ?_
          rotate_left
          · (intro w' hSw; (try dsimp only at hSw); go_simp; first | done | with_reducible rfl)
          simp only [Act.put, List.setIfInBounds_toArray, List.set_cons_zero, List.set_cons_succ]
          refine rgE_take (v := ?_) 5 12 rfl (by kernel_rfl) (by kernel_rfl) (by kernel_rfl) (by kernel_rfl) (by kernel_rfl) (fun _ _ _ h => h) (by kernel_rfl) ?_ (by assumption) ?_
          rotate_left
          · (intro w' hSw; (try dsimp only at hSw); go_simp; first | done | with_reducible rfl)
          simp only [Act.put, List.setIfInBounds_toArray, List.set_cons_zero, List.set_cons_succ]
          refine rgE_take (v := ?_) 6 12 rfl (by kernel_rfl) (by kernel_rfl) (by kernel_rfl) (by kernel_rfl) (by kernel_rfl) (fun _ _ _ h => h) (by kernel_rfl) ?_ (by assumption) ?_
          rotate_left
          · (intro w' hSw; (try dsimp only at hSw); go_simp; first | done | with_reducible rfl)
          simp only [Act.put, List.setIfInBounds_toArray, List.set_cons_zero, List.set_cons_succ]
          refine rgE_take (v := ?_) 7 12 rfl (by kernel_rfl) (by kernel_rfl) (by kernel_rfl) (by kernel_rfl) (by kernel_rfl) (fun _ _ _ h => h) (by kernel_rfl) ?_ (by assumption) ?_
          rotate_left
          · (intro w' hSw; (try dsimp only at hSw); go_simp; first | done | with_reducible rfl)
          simp only [Act.put, List.setIfInBounds_toArray, List.set_cons_zero, List.set_cons_succ]
          refine rgE_take (v := ?_) 8 12 rfl (by kernel_rfl) (by kernel_rfl) (by kernel_rfl) (by kernel_rfl) (by kernel_rfl) (fun _ _ _ h => h) (by kernel_rfl) ?_ (by assumption) ?_
          rotate_left
          · (intro w' hSw; (try dsimp only at hSw); go_simp; first | done | with_reducible rfl)
          simp only [Act.put, List.setIfInBounds_toArray, List.set_cons_zero, List.set_cons_succ]
          refine rgE_take (v := ?_) 9 12 rfl (by kernel_rfl) (by kernel_rfl) (by kernel_rfl) (by kernel_rfl) (by kernel_rfl) (fun _ _ _ h => h) (by kernel_rfl) ?_ (by assumption) ?_
          rotate_left
          · (intro w' hSw; (try dsimp only at hSw); go_simp; first | done | with_reducible rfl)
          simp only [Act.put, List.setIfInBounds_toArray, List.set_cons_zero, List.set_cons_succ]
          refine rgE_take (v := ?_) 10 12 rfl (by kernel_rfl) (by kernel_rfl) (by kernel_rfl) (by kernel_rfl) (by kernel_rfl) (fun _ _ _ h => h) (by kernel_rfl) ?_ (by assumption) ?_
          rotate_left
          · (intro w' hSw; (try dsimp only at hSw); go_simp; first | done | with_reducible rfl)
          simp only [Act.put, List.setIfInBounds_toArray, List.set_cons_zero, List.set_cons_succ]
          refine rgE_run 11 rfl (by kernel_rfl) (by kernel_rfl) (by decide) (fun K hK => ?_)
          go_simp
          have HAL : Hid (Below w5.heap.size w5 (w5.alloc (Obj.cells #[.int .i64 a, .int .i64 b, .bool true] 90)).drew) := Lib.hid (Below.drew (below_alloc (Below.refl _ w5) (Obj.cells #[.int .i64 a, .int .i64 b, .bool true] 90)))
          replace b1 := cell_later HAL.out (by exact b1)
          replace m0 := cell_later HAL.out (by exact m0)
          replace m1 := cell_later HAL.out (by exact m1)
          clear hHeld
          refine hK.out _ _ (.inr ⟨b1, m0, m1⟩) (fun hHeld => ?_)
          clear hK K
          try simp only [Act.put, List.setIfInBounds_toArray, List.set_cons_zero, List.set_cons_succ]
          refine rgE_run 12 rfl (by kernel_rfl) (by kernel_rfl) (by decide) (fun K hK => ?_)
          refine wp_push_tst _ (.tmp 46) (.tmp 56) rfl w1.heap.size (.slice Ag k cg) k gs ⟨a, b, true⟩ w5.heap.size 1 rfl (own_below HO5.out HAL.out) rfl (by go_simp) (by go_simp) (by go_simp) (by omega) (Nat.le_trans HB5.out.size HAL.out.size) ?_
          intro v6 w6 hown hgrow
          simp only [Act.put, List.setIfInBounds_toArray, List.set_cons_zero, List.set_cons_succ]
          obtain ⟨A6, c6, rfl⟩ := own_shape hown
          have hro := own_below HO5.out HAL.out
          have hx6 : Box3 45 w6 w1.heap.size w1.heap.size (.string (bsT x)) (.slice Ag k cg) (.slice none 0 0) := own_aside (own_below HX5.out HAL.out) hro (by decide) hgrow
          have hl6 := own_aside (own_below HL5.out HAL.out) hro (by decide) hgrow
          have hn6 := own_aside (own_below HN5.out HAL.out) hro (by decide) hgrow
          have hb6 := below_of_grown (below_chain HB5.out HAL.out) hgrow (fun p hp => (HO5.out.lt p hp).1)
          obtain ⟨_, b1', _, _, f1', _, _, _⟩ := hx6.c
          clear b1 m0 m1 f1
          have b1 := b1'
          have m0 : w6.cell? ⟨g5, 0, none⟩ = some (.int .i64 a) := hn6.cellAt 0 (by decide)
          have m1 : w6.cell? ⟨g5, 1, none⟩ = some (.int .i64 b) := hn6.cellAt 1 (by decide)
          have HX6 := Lib.hid (hx6.set1 (.slice A6 (k + 1) c6))
          have HO6 := Lib.hid (own_aside hown hx6 (by decide) HX6.out.2)
          have HL6 := Lib.hid (own_aside hl6 hx6 (by decide) HX6.out.2)
          have HB6 := Lib.hid (below_set hb6 (p := ⟨w1.heap.size, 1, none⟩) (.slice A6 (k + 1) c6) (Nat.le_refl _))
          clear hown hgrow hro hx6 hl6 hn6 hb6 HX5 HO5 HL5 HN5 HB5 HAL
          clear hHeld
          refine hK.out _ _ (.inr ⟨b1, m0, m1⟩) (fun hHeld => ?_)
          clear hK K
          try simp only [Act.put, List.setIfInBounds_toArray, List.set_cons_zero, List.set_cons_succ]
          clear b1'
          refine rgE_take (v := ?_) 13 12 rfl (by kernel_rfl) (by kernel_rfl) (by kernel_rfl) (by kernel_rfl) (by kernel_rfl) (fun _ _ _ h => h) (by kernel_rfl) ?_ (by assumption) ?_
          rotate_left
          · (intro w' hSw; (try dsimp only at hSw); go_simp; first | done | with_reducible rfl)
          simp only [Act.put, List.setIfInBounds_toArray, List.set_cons_zero, List.set_cons_succ]
          refine rgE_last rfl (by kernel_rfl) (by kernel_rfl) (by kernel_rfl) (fun K hK => ?_)
          go_simp
          go_simp
          clear hHeld
          refine hK.out _ _ ?_
          clear hK K
          try simp only [Act.put, List.setIfInBounds_toArray, List.set_cons_zero, List.set_cons_succ]
          clear b1 m0 m1 f1'
          generalize w6.setCell ⟨w1.heap.size, 1, none⟩ (.slice A6 (k + 1) c6) = w7 at HX6 HO6 HL6 HB6 ⊢
          go_wp2_with (fail)
          go_roundw
          case rel => exact ⟨k + 1, A6, c6, gs ++ [⟨a, b, true⟩], by omega, by go_num, HT1, Lib.hid HX6.out.1, HO6, HL6, HB6⟩
          case measure => simp [intOf]; omega
      | false =>
        rw [hcon] at HCO
        have HTE := Lib.hid (testI_n (w := y') hcon)
        have HNA := Lib.hid (fun w' => c_numbersAround (bsT y') 33 w' (by rw [bsT_size]; omega))
        rw [bsT_list] at HNA
        clear hcon
        go_wp2_with (first
          | (go_at_call 71
             refine (HCO.out _).mono ?_
             rintro e wq ⟨rfl, rfl⟩)
          )
        refine (HNA.out _ HGK.out).mono ?_
        rintro e w5 ⟨A5, n5, c5, q, rfl, hq0, hq1, hb5⟩
        have HB5 := Lib.hid (below_chain hb.out hb5)
        have HX5 := Lib.hid (hx.out.below hb5)
        have HO5 := Lib.hid (own_below ho.out hb5)
        have HL5 := Lib.hid (own_below hls.out hb5)
        have HQ0 := Lib.hid hq0
        have HQ1 := Lib.hid hq1
        clear hq0 hq1 hb5 hb hx ho hls g0 HGK HNA HCO
        cases q
        · have HN : Hid (V = none) := Lib.hid (by
            rw [HVW.out, seqO_bad (f := testI) (List.mem_of_getElem? HXK.out) (by rw [HTE.out, HQ0.out rfl])])
          have HX2 := Lib.hid (HX1.out.below HB5.out)
          have HBW := Lib.hid (below_chain HB1.out HB5.out)
          have HF := Lib.hid (Box3.set3 HX2.out (.string ⟨#[]⟩) (.slice none 0 0) (.slice none 0 0))
          have HBF := Lib.hid (below_put HBW.out (.string ⟨#[]⟩) (.slice none 0 0) (.slice none 0 0) (Nat.le_refl _))
          obtain ⟨v0, v1, v2, f0, f1, f2, _, _⟩ := HX2.out.c
          clear HX5 HO5 HL5 HB5 HQ0 HQ1 HX1 HB1
          go_wp2_with (fail)
          change bodyPost _ _ _ _ _ (set3 w5 w.heap.size (.string ⟨#[]⟩) (.slice none 0 0) (.slice none 0 0))
          generalize set3 w5 w.heap.size (.string ⟨#[]⟩) (.slice none 0 0) (.slice none 0 0) = WF at HF HBF ⊢
          obtain ⟨r0, r1, r2, _⟩ := Box3.c HF.out.1
          clear f0 f1 f2 v0 v1 v2
          refine bodyPost_ret (v := .tuple #[.agg #[.string ⟨#[]⟩, .slice none 0 0, .slice none 0 0], .bool false]) (by simp [results, Tryz.results28, go_sem, r0, r1, r2]) rfl (retRulO_none HN.out HBF.out)
        · obtain ⟨a, b, hab, h2, hown⟩ := HQ1.out rfl
          have HTK : Hid (testI y' = some ⟨a, b, false⟩) := Lib.hid (by rw [HTE.out, hab])
          obtain ⟨g5, rfl, hg5, m0, m1⟩ := own2 hown h2
          have HN5 := Lib.hid hown
          have HT1 : Hid (seqO testI (ls.take (k + 1)) = some (gs ++ [⟨a, b, false⟩])) := Lib.hid (by
            rw [List.take_add_one, HXK.out]
            exact seqO_snoc hz.out HTK.out)
          subst h2
          obtain ⟨_, b1, _, _, f1, _, _, _⟩ := HX5.out.c
          clear hab hown HQ0 HQ1 hz HTK HTE
          go_wp2_with (fail)
          refine wp_region_heldE 14 (S := (fun w' => w'.cell? ⟨w1.heap.size, 1, none⟩ = some (.slice Ag k cg) ∧ w'.cell? ⟨g5, 0, none⟩ = some (.int .i64 a) ∧ w'.cell? ⟨g5, 1, none⟩ = some (.int .i64 b))) (by kernel_rfl) ?_ (fun hHeld => ?_)
          · exact ⟨b1, m0, m1⟩
          refine rgE_take (v := ?_) 0 12 rfl (by kernel_rfl) (by kernel_rfl) (by kernel_rfl) (by kernel_rfl) (by kernel_rfl) (fun _ _ _ h => h) (by kernel_rfl) ?_ (by assumption) ?_
          rotate_left
          · (intro w' hSw; (try dsimp only at hSw); go_simp; first | done | with_reducible rfl)
          simp only [Act.put, List.setIfInBounds_toArray, List.set_cons_zero, List.set_cons_succ]
          refine rgE_take (v := ?_) 1 12 rfl (by kernel_rfl) (by kernel_rfl) (by kernel_rfl) (by kernel_rfl) (by kernel_rfl) (fun _ _ _ h => h) (by kernel_rfl) ?_ (by assumption) ?_
          rotate_left
          · (intro w' hSw; (try dsimp only at hSw); go_simp; first | done | with_reducible rfl)
          simp only [Act.put, List.setIfInBounds_toArray, List.set_cons_zero, List.set_cons_succ]
          refine rgE_take (v := ?_) 2 12 rfl (by kernel_rfl) (by kernel_rfl) (by kernel_rfl) (by kernel_rfl) (by kernel_rfl) (fun _ _ _ h => h) (by kernel_rfl) ?_ (by assumption) ?_
          rotate_left
          · (intro w' hSw; (try dsimp only at hSw); go_simp; first | done | with_reducible rfl)
          simp only [Act.put, List.setIfInBounds_toArray, List.set_cons_zero, List.set_cons_succ]
          refine rgE_take (v := ?_) 3 12 rfl (by kernel_rfl) (by kernel_rfl) (by kernel_rfl) (by kernel_rfl) (by kernel_rfl) (fun _ _ _ h => h) (by kernel_rfl) ?_ (by assumption) ?_
          rotate_left
          · (intro w' hSw; (try dsimp only at hSw); go_simp; first | done | with_reducible rfl)
          simp only [Act.put, List.setIfInBounds_toArray, List.set_cons_zero, List.set_cons_succ]
          refine rgE_take (v := ?_) 4 12 rfl (by kernel_rfl) (by kernel_rfl) (by kernel_rfl) (by kernel_rfl) (by kernel_rfl) (fun _ _ _ h => h) (by kernel_rfl) ?_ (by assumption) ?_
          rotate_left
          · (intro w' hSw; (try dsimp only at hSw); go_simp; first | done | with_reducible rfl)
          simp only [Act.put, List.setIfInBounds_toArray, List.set_cons_zero, List.set_cons_succ]
          refine rgE_take (v := ?_) 5 12 rfl (by kernel_rfl) (by kernel_rfl) (by kernel_rfl) (by kernel_rfl) (by kernel_rfl) (fun _ _ _ h => h) (by kernel_rfl) ?_ (by assumption) ?_
          rotate_left
          · (intro w' hSw; (try dsimp only at hSw); go_simp; first | done | with_reducible rfl)
          simp only [Act.put, List.setIfInBounds_toArray, List.set_cons_zero, List.set_cons_succ]
          refine rgE_take (v := ?_) 6 12 rfl (by kernel_rfl) (by kernel_rfl) (by kernel_rfl) (by kernel_rfl) (by kernel_rfl) (fun _ _ _ h => h) (by kernel_rfl) ?_ (by assumption) ?_
          rotate_left
          · (intro w' hSw; (try dsimp only at hSw); go_simp; first | done | with_reducible rfl)
          simp only [Act.put, List.setIfInBounds_toArray, List.set_cons_zero, List.set_cons_succ]
          refine rgE_take (v := ?_) 7 12 rfl (by kernel_rfl) (by kernel_rfl) (by kernel_rfl) (by kernel_rfl) (by kernel_rfl) (fun _ _ _ h => h) (by kernel_rfl) ?_ (by assumption) ?_
          rotate_left
          · (intro w' hSw; (try dsimp only at hSw); go_simp; first | done | with_reducible rfl)
          simp only [Act.put, List.setIfInBounds_toArray, List.set_cons_zero, List.set_cons_succ]
          refine rgE_take (v := ?_) 8 12 rfl (by kernel_rfl) (by kernel_rfl) (by kernel_rfl) (by kernel_rfl) (by kernel_rfl) (fun _ _ _ h => h) (by kernel_rfl) ?_ (by assumption) ?_
          rotate_left
          · (intro w' hSw; (try dsimp only at hSw); go_simp; first | done | with_reducible rfl)
          simp only [Act.put, List.setIfInBounds_toArray, List.set_cons_zero, List.set_cons_succ]
          refine rgE_take (v := ?_) 9 12 rfl (by kernel_rfl) (by kernel_rfl) (by kernel_rfl) (by kernel_rfl) (by kernel_rfl) (fun _ _ _ h => h) (by kernel_rfl) ?_ (by assumption) ?_
          rotate_left
          · (intro w' hSw; (try dsimp only at hSw); go_simp; first | done | with_reducible rfl)
          simp only [Act.put, List.setIfInBounds_toArray, List.set_cons_zero, List.set_cons_succ]
          refine rgE_take (v := ?_) 10 12 rfl (by kernel_rfl) (by kernel_rfl) (by kernel_rfl) (by kernel_rfl) (by kernel_rfl) (fun _ _ _ h => h) (by kernel_rfl) ?_ (by assumption) ?_
          rotate_left
          · (intro w' hSw; (try dsimp only at hSw); go_simp; first | done | with_reducible rfl)
          simp only [Act.put, List.setIfInBounds_toArray, List.set_cons_zero, List.set_cons_succ]
          refine rgE_run 11 rfl (by kernel_rfl) (by kernel_rfl) (by decide) (fun K hK => ?_)
          go_simp
          have HAL : Hid (Below w5.heap.size w5 (w5.alloc (Obj.cells #[.int .i64 a, .int .i64 b, .bool false] 90)).drew) := Lib.hid (Below.drew (below_alloc (Below.refl _ w5) (Obj.cells #[.int .i64 a, .int .i64 b, .bool false] 90)))
          replace b1 := cell_later HAL.out (by exact b1)
          replace m0 := cell_later HAL.out (by exact m0)
          replace m1 := cell_later HAL.out (by exact m1)
          clear hHeld
          refine hK.out _ _ (.inr ⟨b1, m0, m1⟩) (fun hHeld => ?_)
          clear hK K
          try simp only [Act.put, List.setIfInBounds_toArray, List.set_cons_zero, List.set_cons_succ]
          refine rgE_run 12 rfl (by kernel_rfl) (by kernel_rfl) (by decide) (fun K hK => ?_)
          refine wp_push_tst _ (.tmp 46) (.tmp 56) rfl w1.heap.size (.slice Ag k cg) k gs ⟨a, b, false⟩ w5.heap.size 1 rfl (own_below HO5.out HAL.out) rfl (by go_simp) (by go_simp) (by go_simp) (by omega) (Nat.le_trans HB5.out.size HAL.out.size) ?_
          intro v6 w6 hown hgrow
          simp only [Act.put, List.setIfInBounds_toArray, List.set_cons_zero, List.set_cons_succ]
          obtain ⟨A6, c6, rfl⟩ := own_shape hown
          have hro := own_below HO5.out HAL.out
          have hx6 : Box3 45 w6 w1.heap.size w1.heap.size (.string (bsT x)) (.slice Ag k cg) (.slice none 0 0) := own_aside (own_below HX5.out HAL.out) hro (by decide) hgrow
          have hl6 := own_aside (own_below HL5.out HAL.out) hro (by decide) hgrow
          have hn6 := own_aside (own_below HN5.out HAL.out) hro (by decide) hgrow
          have hb6 := below_of_grown (below_chain HB5.out HAL.out) hgrow (fun p hp => (HO5.out.lt p hp).1)
          obtain ⟨_, b1', _, _, f1', _, _, _⟩ := hx6.c
          clear b1 m0 m1 f1
          have b1 := b1'
          have m0 : w6.cell? ⟨g5, 0, none⟩ = some (.int .i64 a) := hn6.cellAt 0 (by decide)
          have m1 : w6.cell? ⟨g5, 1, none⟩ = some (.int .i64 b) := hn6.cellAt 1 (by decide)
          have HX6 := Lib.hid (hx6.set1 (.slice A6 (k + 1) c6))
          have HO6 := Lib.hid (own_aside hown hx6 (by decide) HX6.out.2)
          have HL6 := Lib.hid (own_aside hl6 hx6 (by decide) HX6.out.2)
          have HB6 := Lib.hid (below_set hb6 (p := ⟨w1.heap.size, 1, none⟩) (.slice A6 (k + 1) c6) (Nat.le_refl _))
          clear hown hgrow hro hx6 hl6 hn6 hb6 HX5 HO5 HL5 HN5 HB5 HAL
          clear hHeld
          refine hK.out _ _ (.inr ⟨b1, m0, m1⟩) (fun hHeld => ?_)
          clear hK K
          try simp only [Act.put, List.setIfInBounds_toArray, List.set_cons_zero, List.set_cons_succ]
          clear b1'
          refine rgE_take (v := ?_) 13 12 rfl (by kernel_rfl) (by kernel_rfl) (by kernel_rfl) (by kernel_rfl) (by kernel_rfl) (fun _ _ _ h => h) (by kernel_rfl) ?_ (by assumption) ?_
          rotate_left
          · (intro w' hSw; (try dsimp only at hSw); go_simp; first | done | with_reducible rfl)
          simp only [Act.put, List.setIfInBounds_toArray, List.set_cons_zero, List.set_cons_succ]
          refine rgE_last rfl (by kernel_rfl) (by kernel_rfl) (by kernel_rfl) (fun K hK => ?_)
          go_simp
          go_simp
          clear hHeld
          refine hK.out _ _ ?_
          clear hK K
          try simp only [Act.put, List.setIfInBounds_toArray, List.set_cons_zero, List.set_cons_succ]
          clear b1 m0 m1 f1'
          generalize w6.setCell ⟨w1.heap.size, 1, none⟩ (.slice A6 (k + 1) c6) = w7 at HX6 HO6 HL6 HB6 ⊢
          go_wp2_with (fail)
          go_roundw
          case rel => exact ⟨k + 1, A6, c6, gs ++ [⟨a, b, false⟩], by omega, by go_num, HT1, Lib.hid HX6.out.1, HO6, HL6, HB6⟩
          case measure => simp [intOf]; omega
    · obtain rfl : k = ln := by omega
      have HGS : Hid (seqO testI ls = some gs) := Lib.hid (by rw [← hz.out, List.take_of_length_le (by have := HLN.out; omega)])
      have HKL : Hid (k = gs.length) := Lib.hid (by rw [seqO_length HGS.out]; exact HLN.out)
      have HVZ : Hid (V = match seqO asgI lz with
        | none => none
        | some es => some ⟨⟨x.toArray⟩, gs, es⟩) := Lib.hid (by rw [HVW.out, HGS.out])
      have y2 := cell_later hb.out HY2.out
      have HG8 := Lib.hid (HG1.out.below hb.out)
      clear hz hls HVW HLN HGS hlt HYN HY2 hk hlnb
      obtain ⟨w7, rfl⟩ : ∃ w7, w7 = wr := ⟨_, rfl⟩
      go_wp2_with (fail)
      refine (HLZ.out _ HG8.out).mono ?_
      rintro e w8 ⟨Am, mn, cm, rfl, hmn, hlo, hb8⟩
      have HX8 := Lib.hid (hx.out.below hb8)
      have HO8 := Lib.hid (own_below ho.out hb8)
      have HB8 := Lib.hid (below_chain hb.out hb8)
      have HL8 := Lib.hid hlo
      have HMN := Lib.hid hmn
      have HOE : Hid (w8.ownsRow w1.heap.size 47 2 (.slice none 0 0) 0 (asgCells [])) := Lib.hid (World.ownsRow_nil _ _ _ _)
      have hmnb : mn ≤ 1048577 := by have := HZN.out.1; have := HMN.out; omega
      clear hb8 hlo hmn hx ho hb HG8 y2 HLZ
      go_wp2_with (fail)
      go_loopw [12, 13, 14, 65] (fun _ _ _ i wr => ∃ (m : Nat) (Ae : Option Addr) (ce : Nat) (es : List Asg), m ≤ mn ∧ i = .int .i64 m ∧ Hid (seqO asgI (lz.take m) = some es) ∧ Hid (Box3 45 wr w1.heap.size w1.heap.size (.string (bsT x)) (.slice Ag k cg) (.slice Ae m ce)) ∧ Hid (wr.ownsRow w1.heap.size 90 3 (.slice Ag k cg) k (tstCells gs)) ∧ Hid (wr.ownsRow w1.heap.size 47 2 (.slice Ae m ce) m (asgCells es)) ∧ Hid (wr.ownsRow w7.heap.size 9 1 (.slice Am mn cm) mn (strs lz)) ∧ Hid (Below w1.heap.size w1 wr)) (fun _ _ _ i _ => mn - (intOf i).toNat)
      case atStart => exact ⟨0, _, _, [], Nat.zero_le _, rfl, Lib.hid rfl, HX8, HO8, HOE, HL8, HB8⟩
      case round =>
        obtain ⟨m, Ae, ce, es, hk, rfl, hz, hx, ho, hoe, hls, hb⟩ := hrel
        clear HX8 HO8 HOE HL8 HB8
        by_cases hlt : m < mn
        · obtain ⟨y', hxk⟩ : ∃ z, lz[m]? = some z := ⟨_, List.getElem?_eq_getElem (by have := HMN.out; omega)⟩
          have hyl' : y'.length ≤ 1048576 := by have := HZN.out.2 y' (List.mem_of_getElem? hxk); omega
          obtain ⟨bl, ol, rfl, _, g0⟩ := (Rd.own hls.out).str hxk
          have HXK := Lib.hid hxk
          have HNA := Lib.hid (fun w' => c_numbersAround (bsT y') 58 w' (by rw [bsT_size]; omega))
          rw [bsT_list] at HNA
          have HGK := Lib.hid (HG1.out.below hb.out)
          have hk0 : (0 : Int) ≤ (m : Int) := by omega
          have hk1 : (m : Int) < (mn : Int) := by omega
          have HTE : Hid (asgI y' = match aroundI 58 y' with | some (a, b) => some ⟨a, b⟩ | none => none) := Lib.hid rfl
          clear hxk
          go_wp2_with (fail)
          refine (HNA.out _ HGK.out).mono ?_
          rintro e w5 ⟨A5, n5, c5, q, rfl, hq0, hq1, hb5⟩
          have HB5 := Lib.hid (below_chain hb.out hb5)
          have HX5 := Lib.hid (hx.out.below hb5)
          have HO5 := Lib.hid (own_below ho.out hb5)
          have HE5 := Lib.hid (own_below hoe.out hb5)
          have HL5 := Lib.hid (own_below hls.out hb5)
          have HQ0 := Lib.hid hq0
          have HQ1 := Lib.hid hq1
          clear hq0 hq1 hb5 hb hx ho hoe hls g0 HGK HNA
          cases q
          · have HN : Hid (V = none) := Lib.hid (by
              rw [HVZ.out, seqO_bad (f := asgI) (List.mem_of_getElem? HXK.out) (by rw [HTE.out, HQ0.out rfl])])
            have HX2 := Lib.hid (HX1.out.below HB5.out)
            have HBW := Lib.hid (below_chain HB1.out HB5.out)
            have HF := Lib.hid (Box3.set3 HX2.out (.string ⟨#[]⟩) (.slice none 0 0) (.slice none 0 0))
            have HBF := Lib.hid (below_put HBW.out (.string ⟨#[]⟩) (.slice none 0 0) (.slice none 0 0) (Nat.le_refl _))
            obtain ⟨v0, v1, v2, f0, f1, f2, _, _⟩ := HX2.out.c
            clear HX5 HO5 HE5 HL5 HB5 HQ0 HQ1 HX1 HB1
            go_wp2_with (fail)
            change bodyPost _ _ _ _ _ (set3 w5 w.heap.size (.string ⟨#[]⟩) (.slice none 0 0) (.slice none 0 0))
            generalize set3 w5 w.heap.size (.string ⟨#[]⟩) (.slice none 0 0) (.slice none 0 0) = WF at HF HBF ⊢
            obtain ⟨r0, r1, r2, _⟩ := Box3.c HF.out.1
            clear f0 f1 f2 v0 v1 v2
            refine bodyPost_ret (v := .tuple #[.agg #[.string ⟨#[]⟩, .slice none 0 0, .slice none 0 0], .bool false]) (by simp [results, Tryz.results28, go_sem, r0, r1, r2]) rfl (retRulO_none HN.out HBF.out)
          · obtain ⟨a, b, hab, h2, hown⟩ := HQ1.out rfl
            have HTK : Hid (asgI y' = some ⟨a, b⟩) := Lib.hid (by rw [HTE.out, hab])
            obtain ⟨g5, rfl, hg5, m0, m1⟩ := own2 hown h2
            have HN5 := Lib.hid hown
            have HT1 : Hid (seqO asgI (lz.take (m + 1)) = some (es ++ [⟨a, b⟩])) := Lib.hid (by
              rw [List.take_add_one, HXK.out]
              exact seqO_snoc hz.out HTK.out)
            subst h2
            obtain ⟨_, _, b2, _, _, f2, _, _⟩ := HX5.out.c
            clear hab hown HQ0 HQ1 hz HTK HTE
            go_wp2_with (fail)
            refine wp_region_heldE 12 (S := (fun w' => w'.cell? ⟨w1.heap.size, 2, none⟩ = some (.slice Ae m ce) ∧ w'.cell? ⟨g5, 0, none⟩ = some (.int .i64 a) ∧ w'.cell? ⟨g5, 1, none⟩ = some (.int .i64 b))) (by kernel_rfl) ?_ (fun hHeld => ?_)
            · exact ⟨b2, m0, m1⟩
            refine rgE_take (v := ?_) 0 12 rfl (by kernel_rfl) (by kernel_rfl) (by kernel_rfl) (by kernel_rfl) (by kernel_rfl) (fun _ _ _ h => h) (by kernel_rfl) ?_ (by assumption) ?_
            rotate_left
            · (intro w' hSw; (try dsimp only at hSw); go_simp; first | done | with_reducible rfl)
            simp only [Act.put, List.setIfInBounds_toArray, List.set_cons_zero, List.set_cons_succ]
            refine rgE_take (v := ?_) 1 12 rfl (by kernel_rfl) (by kernel_rfl) (by kernel_rfl) (by kernel_rfl) (by kernel_rfl) (fun _ _ _ h => h) (by kernel_rfl) ?_ (by assumption) ?_
            rotate_left
            · (intro w' hSw; (try dsimp only at hSw); go_simp; first | done | with_reducible rfl)
            simp only [Act.put, List.setIfInBounds_toArray, List.set_cons_zero, List.set_cons_succ]
            refine rgE_take (v := ?_) 2 12 rfl (by kernel_rfl) (by kernel_rfl) (by kernel_rfl) (by kernel_rfl) (by kernel_rfl) (fun _ _ _ h => h) (by kernel_rfl) ?_ (by assumption) ?_
            rotate_left
            · (intro w' hSw; (try dsimp only at hSw); go_simp; first | done | with_reducible rfl)
            simp only [Act.put, List.setIfInBounds_toArray, List.set_cons_zero, List.set_cons_succ]
            refine rgE_take (v := ?_) 3 12 rfl (by kernel_rfl) (by kernel_rfl) (by kernel_rfl) (by kernel_rfl) (by kernel_rfl) (fun _ _ _ h => h) (by kernel_rfl) ?_ (by assumption) ?_
            rotate_left
            · (intro w' hSw; (try dsimp only at hSw); go_simp; first | done | with_reducible rfl)
            simp only [Act.put, List.setIfInBounds_toArray, List.set_cons_zero, List.set_cons_succ]
            refine rgE_take (v := ?_) 4 12 rfl (by kernel_rfl) (by kernel_rfl) (by kernel_rfl) (by kernel_rfl) (by kernel_rfl) (fun _ _ _ h => h) (by kernel_rfl) ?_ (by assumption) ?_
            rotate_left
            · (intro w' hSw; (try dsimp only at hSw); go_simp; first | done | with_reducible rfl)
            simp only [Act.put, List.setIfInBounds_toArray, List.set_cons_zero, List.set_cons_succ]
            refine rgE_take (v := ?_) 5 12 rfl (by kernel_rfl) (by kernel_rfl) (by kernel_rfl) (by kernel_rfl) (by kernel_rfl) (fun _ _ _ h => h) (by kernel_rfl) ?_ (by assumption) ?_
            rotate_left
            · (intro w' hSw; (try dsimp only at hSw); go_simp; first | done | with_reducible rfl)
            simp only [Act.put, List.setIfInBounds_toArray, List.set_cons_zero, List.set_cons_succ]
            refine rgE_take (v := ?_) 6 12 rfl (by kernel_rfl) (by kernel_rfl) (by kernel_rfl) (by kernel_rfl) (by kernel_rfl) (fun _ _ _ h => h) (by kernel_rfl) ?_ (by assumption) ?_
            rotate_left
            · (intro w' hSw; (try dsimp only at hSw); go_simp; first | done | with_reducible rfl)
            simp only [Act.put, List.setIfInBounds_toArray, List.set_cons_zero, List.set_cons_succ]
            refine rgE_take (v := ?_) 7 12 rfl (by kernel_rfl) (by kernel_rfl) (by kernel_rfl) (by kernel_rfl) (by kernel_rfl) (fun _ _ _ h => h) (by kernel_rfl) ?_ (by assumption) ?_
            rotate_left
            · (intro w' hSw; (try dsimp only at hSw); go_simp; first | done | with_reducible rfl)
            simp only [Act.put, List.setIfInBounds_toArray, List.set_cons_zero, List.set_cons_succ]
            refine rgE_take (v := ?_) 8 12 rfl (by kernel_rfl) (by kernel_rfl) (by kernel_rfl) (by kernel_rfl) (by kernel_rfl) (fun _ _ _ h => h) (by kernel_rfl) ?_ (by assumption) ?_
            rotate_left
            · (intro w' hSw; (try dsimp only at hSw); go_simp; first | done | with_reducible rfl)
            simp only [Act.put, List.setIfInBounds_toArray, List.set_cons_zero, List.set_cons_succ]
            refine rgE_run 9 rfl (by kernel_rfl) (by kernel_rfl) (by decide) (fun K hK => ?_)
            go_simp
            have HAL : Hid (Below w5.heap.size w5 (w5.alloc (Obj.cells #[.int .i64 a, .int .i64 b] 47)).drew) := Lib.hid (Below.drew (below_alloc (Below.refl _ w5) (Obj.cells #[.int .i64 a, .int .i64 b] 47)))
            replace b2 := cell_later HAL.out (by exact b2)
            replace m0 := cell_later HAL.out (by exact m0)
            replace m1 := cell_later HAL.out (by exact m1)
            clear hHeld
            refine hK.out _ _ (.inr ⟨b2, m0, m1⟩) (fun hHeld => ?_)
            clear hK K
            try simp only [Act.put, List.setIfInBounds_toArray, List.set_cons_zero, List.set_cons_succ]
            refine rgE_run 10 rfl (by kernel_rfl) (by kernel_rfl) (by decide) (fun K hK => ?_)
            refine wp_push_asg _ (.tmp 78) (.tmp 86) rfl w1.heap.size (.slice Ae m ce) m es ⟨a, b⟩ w5.heap.size 1 rfl (own_below HE5.out HAL.out) rfl (by go_simp) (by go_simp) (by omega) (Nat.le_trans HB5.out.size HAL.out.size) ?_
            intro v6 w6 hown hgrow
            simp only [Act.put, List.setIfInBounds_toArray, List.set_cons_zero, List.set_cons_succ]
            obtain ⟨A6, c6, rfl⟩ := own_shape hown
            have hro := own_below HE5.out HAL.out
            have hx6 : Box3 45 w6 w1.heap.size w1.heap.size (.string (bsT x)) (.slice Ag k cg) (.slice Ae m ce) := own_aside (own_below HX5.out HAL.out) hro (by decide) hgrow
            have hl6 := own_aside (own_below HL5.out HAL.out) hro (by decide) hgrow
            have hn6 := own_aside (own_below HN5.out HAL.out) hro (by decide) hgrow
            have ho6 := own_aside (own_below HO5.out HAL.out) hro (by decide) hgrow
            have hb6 := below_of_grown (below_chain HB5.out HAL.out) hgrow (fun p hp => (HE5.out.lt p hp).1)
            obtain ⟨_, _, b2', _, _, f2', _, _⟩ := hx6.c
            clear b2 m0 m1 f2
            have b2 := b2'
            have m0 : w6.cell? ⟨g5, 0, none⟩ = some (.int .i64 a) := hn6.cellAt 0 (by decide)
            have m1 : w6.cell? ⟨g5, 1, none⟩ = some (.int .i64 b) := hn6.cellAt 1 (by decide)
            have HX6 := Lib.hid (hx6.set2 (.slice A6 (m + 1) c6))
            have HE6 := Lib.hid (own_aside hown hx6 (by decide) HX6.out.2)
            have HL6 := Lib.hid (own_aside hl6 hx6 (by decide) HX6.out.2)
            have HO6 := Lib.hid (own_aside ho6 hx6 (by decide) HX6.out.2)
            have HB6 := Lib.hid (below_set hb6 (p := ⟨w1.heap.size, 2, none⟩) (.slice A6 (m + 1) c6) (Nat.le_refl _))
            clear hown hgrow hro hx6 hl6 hn6 ho6 hb6 HX5 HO5 HE5 HL5 HN5 HB5 HAL
            clear hHeld
            refine hK.out _ _ (.inr ⟨b2, m0, m1⟩) (fun hHeld => ?_)
            clear hK K
            try simp only [Act.put, List.setIfInBounds_toArray, List.set_cons_zero, List.set_cons_succ]
            clear b2'
            refine rgE_take (v := ?_) 11 12 rfl (by kernel_rfl) (by kernel_rfl) (by kernel_rfl) (by kernel_rfl) (by kernel_rfl) (fun _ _ _ h => h) (by kernel_rfl) ?_ (by assumption) ?_
            rotate_left
            · (intro w' hSw; (try dsimp only at hSw); go_simp; first | done | with_reducible rfl)
            simp only [Act.put, List.setIfInBounds_toArray, List.set_cons_zero, List.set_cons_succ]
            refine rgE_last rfl (by kernel_rfl) (by kernel_rfl) (by kernel_rfl) (fun K hK => ?_)
            go_simp
            go_simp
            clear hHeld
            refine hK.out _ _ ?_
            clear hK K
            try simp only [Act.put, List.setIfInBounds_toArray, List.set_cons_zero, List.set_cons_succ]
            clear b2 m0 m1 f2'
            generalize w6.setCell ⟨w1.heap.size, 2, none⟩ (.slice A6 (m + 1) c6) = w9 at HX6 HO6 HE6 HL6 HB6 ⊢
            go_wp2_with (fail)
            go_roundw
            case rel => exact ⟨m + 1, A6, c6, es ++ [⟨a, b⟩], by omega, by go_num, HT1, Lib.hid HX6.out.1, HO6, HE6, HL6, HB6⟩
            case measure => simp [intOf]; omega
        · obtain rfl : m = mn := by omega
          have HES : Hid (seqO asgI lz = some es) := Lib.hid (by rw [← hz.out, List.take_of_length_le (by have := HMN.out; omega)])
          have HML : Hid (m = es.length) := Lib.hid (by rw [seqO_length HES.out]; exact HMN.out)
          have HVS : Hid (V = some ⟨⟨x.toArray⟩, gs, es⟩) := Lib.hid (by rw [HVZ.out, HES.out])
          have HX9 := Lib.hid (HX1.out.below hb.out)
          have HB9 := Lib.hid (below_chain HB1.out hb.out)
          have HF := Lib.hid (Box3.set3 HX9.out (.string (bsT x)) (.slice Ag k cg) (.slice Ae m ce))
          have HBF := Lib.hid (below_put HB9.out (.string (bsT x)) (.slice Ag k cg) (.slice Ae m ce) (Nat.le_refl _))
          have HTF := Lib.hid (own_mono (own_aside ho.out HX9.out (by decide) HF.out.2) HB1.out.size)
          have HAF := Lib.hid (own_mono (own_aside hoe.out HX9.out (by decide) HF.out.2) HB1.out.size)
          obtain ⟨q0, q1, q2, _, _, _, _, _⟩ := hx.out.c
          obtain ⟨v0, v1, v2, f0, f1, f2, _, _⟩ := HX9.out.c
          clear ho hoe hx hb hls HX9 HB9 HB1 HX1
          go_wp2_with (fail)
          change bodyPost _ _ _ _ _ (set3 wr w.heap.size (.string (bsT x)) (.slice Ag k cg) (.slice Ae m ce))
          generalize set3 wr w.heap.size (.string (bsT x)) (.slice Ag k cg) (.slice Ae m ce) = WF at HF HBF HTF HAF ⊢
          obtain ⟨r0, r1, r2, _⟩ := Box3.c HF.out.1
          clear f0 f1 f2 v0 v1 v2 q0 q1 q2
          refine bodyPost_ret (v := .tuple #[.agg #[.string (bsT x), .slice Ag k cg, .slice Ae m ce], .bool true]) (by simp [results, Tryz.results28, go_sem, r0, r1, r2]) rfl (retRulO_some HVS.out rfl HKL.out HML.out HTF.out HAF.out HBF.out)
end Go.Proofs.YtgpmglfcdbpgkaaGreatDoor

/- Bounds of what the program reads from a text: plain facts. No condition. -/
namespace Go.Proofs.YtgpmglfcdbpgkaaGreatDoor
open Go.RowKit

theorem cut_len (l sep : List UInt8) : (Lib.cut l sep).1.length ≤ l.length ∧ (Lib.cut l sep).2.1.length ≤ l.length := by
  unfold Lib.cut
  split
  · exact ⟨by rw [List.length_take]; omega, by rw [List.length_drop]; omega⟩
  · exact ⟨Nat.le_refl _, Nat.zero_le _⟩
theorem trim_len (l sep : List UInt8) : (Lib.trimSuffix l sep).length ≤ l.length := by
  unfold Lib.trimSuffix
  split
  · rw [List.length_take]; omega
  · exact Nat.le_refl _
theorem spl_full (c : UInt8) : ∀ (L : List UInt8), ((∀ x ∈ (spl c L).tail, x ≠ []) → 2 * (spl c L).length ≤ L.length + 2) ∧ ((∀ x ∈ spl c L, x ≠ []) → 2 * (spl c L).length ≤ L.length + 1)
  | [] => ⟨fun _ => by simp [spl], fun h => absurd rfl (h [] (by simp [spl]))⟩
  | b :: l => by
    obtain ⟨p, q⟩ := spl_full c l
    unfold spl
    by_cases hb : b = c
    · rw [if_pos hb]
      refine ⟨fun h => ?_, fun h => absurd rfl (h [] (List.mem_cons_self ..))⟩
      have := q (by simpa using h)
      simp; omega
    · rw [if_neg hb]
      cases hs : spl c l with
      | nil => exact absurd hs (spl_ne c l)
      | cons y t =>
        rw [hs] at p q
        refine ⟨fun h => ?_, fun h => ?_⟩
        · have := p (by simpa using h)
          simp at this ⊢; omega
        · have := p (fun x hx => h x (List.mem_cons_of_mem _ (by simpa using hx)))
          simp at this ⊢; omega
theorem rdI_ne {x : List UInt8} {v : Int} (h : rdI x = some v) : x ≠ [] := by
  rintro rfl
  cases h
theorem seqO_each {α β : Type} {f : α → Option β} : ∀ {l : List α} {t : List β}, seqO f l = some t → ∀ a ∈ l, ∃ b, f a = some b
  | x :: l, t, h, a, ha => by
    rw [seqO] at h
    cases hx : f x with
    | none => rw [hx] at h; cases h
    | some y =>
      cases hs : seqO f l with
      | none => rw [hx, hs] at h; cases h
      | some u =>
        rcases List.mem_cons.1 ha with rfl | ha
        · exact ⟨y, hx⟩
        · exact seqO_each hs a ha
theorem nums_bd {x : List UInt8} {a : List Int} (h : seqO rdI (spl 44 x) = some a) (hx : x.length ≤ 1048576) : a.length ≤ 1048576 := by
  rw [seqO_length h]
  have := (spl_full 44 x).2 (fun y hy => by
    obtain ⟨b, hb⟩ := seqO_each h y hy
    exact rdI_ne hb)
  omega
theorem ruleI_bd {line : List UInt8} {r : Rul} (h : ruleI line = some r) (hl : line.length ≤ 1048576) : r.gs.length ≤ 1048576 ∧ r.es.length ≤ 1048576 ∧ r.nm.size ≤ 1048576 := by
  by_cases h3 : (spl 32 line).length = 3
  · have hm := fun x (hx : x ∈ spl 32 line) => spl_mem_sum hx
    obtain ⟨x, y, z, e⟩ : ∃ x y z, spl 32 line = [x, y, z] := by
      match spl 32 line, h3 with
      | [x, y, z], _ => exact ⟨x, y, z, rfl⟩
    rw [ruleI_three e] at h
    rw [h3, e] at hm
    have m0 := hm x (by simp)
    have m1 := hm y (by simp)
    have m2 := hm z (by simp)
    cases hy : seqO testI (listI y) with
    | none => rw [hy] at h; cases h
    | some g =>
      cases hz : seqO asgI (listI z) with
      | none => rw [hy, hz] at h; cases h
      | some e =>
        rw [hy, hz] at h
        simp only [Option.some.injEq] at h
        subst h
        have k1 := seqO_length hy
        have k2 := seqO_length hz
        have l1 := (listI_len (w := y)).1
        have l2 := (listI_len (w := z)).1
        refine ⟨by show g.length ≤ _; omega, by show e.length ≤ _; omega, ?_⟩
        show (⟨x.toArray⟩ : ByteArray).size ≤ _
        have : (⟨x.toArray⟩ : ByteArray).size = x.length := by simp [ByteArray.size]
        omega
  · rw [ruleI_not h3] at h; cases h
theorem modelI_eq (s : List UInt8) : modelI s = match seqO rdI (spl 44 (Lib.cut ((linesI s).headD []) [32]).1) with
    | none => none
    | some a => match seqO rdI (spl 44 (Lib.cut ((linesI s).headD []) [32]).2.1) with
      | none => none
      | some b => match seqO ruleI (linesI s).tail with
        | none => none
        | some rs => some ⟨a, b, rs⟩ := by
  unfold modelI
  cases seqO rdI (spl 44 (Lib.cut ((linesI s).headD []) [32]).1) with
  | none => rfl
  | some a =>
    cases seqO rdI (spl 44 (Lib.cut ((linesI s).headD []) [32]).2.1) with
    | none => rfl
    | some b =>
      cases seqO ruleI (linesI s).tail with
      | none => rfl
      | some rs => rfl
theorem readI_ok {s : List UInt8} {ls : List (List UInt8)} {x y : List UInt8} {a b : List Int} {rs : List Rul} (hs : s.length ≤ 1048576) (hls : ls = linesI s) (hx : x.length ≤ 1048576) (hy : y.length ≤ 1048576) (ha : seqO rdI (spl 44 x) = some a) (hb : seqO rdI (spl 44 y) = some b) (hr : seqO ruleI ls.tail = some rs) : MOk ⟨a, b, rs⟩ := by
  have kr := seqO_length hr
  have c3 := spl_count 10 (Lib.trimSuffix s [10])
  have ht := trim_len s [10]
  have hll : ls.length ≤ 1048577 := by rw [hls]; unfold linesI; omega
  rw [List.length_tail] at kr
  have hall : ∀ r ∈ rs, r.gs.length ≤ 1048576 ∧ r.es.length ≤ 1048576 ∧ r.nm.size ≤ 1048576 := by
    intro r hr'
    obtain ⟨l, hl, e⟩ := seqO_all hr r hr'
    have hl2 : l ∈ spl 10 (Lib.trimSuffix s [10]) := by
      have := List.mem_of_mem_tail hl
      rw [hls] at this
      exact this
    exact ruleI_bd e (Nat.le_trans (spl_len l hl2) (by omega))
  exact ⟨⟨nums_bd ha hx, nums_bd hb hy, by show rs.length ≤ _; omega, fun r hr' => ⟨(hall r hr').1, (hall r hr').2.1⟩⟩, fun r hr' => Nat.le_trans (hall r hr').2.2 (by omega)⟩
theorem readM_none2 {s : List UInt8} (h : modelI s = none) : readM s = none := by unfold readM; rw [h]
theorem readM_some2 {s : List UInt8} {m : Mdl} (h : modelI s = some m) : readM s = if mdB m = true ∧ txModel m = s then some m else none := by unfold readM; rw [h]
/-- The rows behind the rules lie apart. -/
def SepD (ds : List RuD) : Prop := ds.Pairwise fun d d' => (∀ q, d.vg.ownBlock = some q → d'.vg.ownBlock ≠ some q) ∧ (∀ q, d.ve.ownBlock = some q → d'.ve.ownBlock ≠ some q)
theorem sepD_snoc {w w' : World} {base : Nat} {ds : List RuD} {d : RuD} (h : SepD ds) (hN : ∀ d ∈ ds, Nest w base d) (hd : Nest w' w.heap.size d) : SepD (ds ++ [d]) := by
  unfold SepD
  rw [List.pairwise_append]
  refine ⟨h, List.pairwise_singleton _ _, fun a ha b hb => ?_⟩
  rw [List.mem_singleton] at hb
  subst hb
  refine ⟨fun q h1 h2 => ?_, fun q h1 h2 => ?_⟩
  · have k1 := ((hN a ha).1.lt q h1).2
    have k2 := (hd.1.lt q h2).1
    omega
  · have k1 := ((hN a ha).2.lt q h1).2
    have k2 := (hd.2.lt q h2).1
    omega
/-- What the program's reading hands back: rows that lie apart. -/
def RetMS (o : Option Mdl) (w : World) (e : Ending) (w' : World) : Prop := match o with
  | some m => ∃ az ax ar cz cs cr ds, e = .returned (.tuple #[mv m az ax ar cz cs cr, .bool true]) ∧ MOwn w' w.heap.size az ax ar cz cs cr m ds ∧ SepD ds ∧ (∀ q, (Value.slice az m.sz.length cz).ownBlock = some q → (Value.slice ax m.st.length cs).ownBlock ≠ some q) ∧ Below w.heap.size w w'
  | none => e = .returned (.tuple #[.agg #[.slice none 0 0, .slice none 0 0, .slice none 0 0], .bool false]) ∧ Below w.heap.size w w'
theorem retMS_none {o : Option Mdl} {w w' : World} (h : o = none) (hb : Below w.heap.size w w') : RetMS o w (.returned (.tuple #[.agg #[.slice none 0 0, .slice none 0 0, .slice none 0 0], .bool false])) w' := by subst h; exact ⟨rfl, hb⟩
theorem retMS_some {o : Option Mdl} {m : Mdl} {az ax ar : Option Addr} {cz cs cr : Nat} {ds : List RuD} {w w' : World} (h : o = some m) (h1 : MOwn w' w.heap.size az ax ar cz cs cr m ds) (h2 : SepD ds) (h3 : ∀ q, (Value.slice az m.sz.length cz).ownBlock = some q → (Value.slice ax m.st.length cs).ownBlock ≠ some q) (hb : Below w.heap.size w w') : RetMS o w (.returned (.tuple #[mv m az ax ar cz cs cr, .bool true])) w' := by subst h; exact ⟨_, _, _, _, _, _, ds, rfl, h1, h2, h3, hb⟩
end Go.Proofs.YtgpmglfcdbpgkaaGreatDoor
