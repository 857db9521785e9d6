/- Maps from strings to numbers, entry by entry: look-ups, stores (new keys too), range with a round that stores. No condition but the keys' sizes. -/
import Derived.Test.YtackekfjalaacaaDoorFrQ
import Derived.Maps.Range
namespace Go.Proofs.YtackekfjalaacaaDoor
open Go.RowKit Go.Maps
open Go.ChangeMaps (setBlock)
open Go.WideMaps

/-- An entry: key, number, stamp. -/
structure En where
  s : ByteArray
  v : Int
  b : Nat
def En.e (x : En) : MapEntry := { key := .string x.s, val := .int .i64 x.v, born := x.b }
def ents (l : List En) : Array MapEntry := (l.map En.e).toArray
structure MOk (l : List En) (c : Nat) : Prop where
  key : l.Pairwise fun x y => x.s ≠ y.s
  brn : l.Pairwise fun x y => x.b ≠ y.b
  old : ∀ x ∈ l, x.b < c
  len : ∀ x ∈ l, x.s.size ≤ maxLen
def getE : List En → ByteArray → Option Int
  | [], _ => none
  | x :: l, s => if x.s = s then some x.v else getE l s
def setE : List En → ByteArray → Int → List En
  | [], _, _ => []
  | x :: l, s, v => if x.s = s then { x with v := v } :: l else x :: setE l s v
def putE (l : List En) (c : Nat) (s : ByteArray) (v : Int) : List En := if (getE l s).isSome then setE l s v else l ++ [⟨s, v, c⟩]
def putC (l : List En) (c : Nat) (s : ByteArray) : Nat := if (getE l s).isSome then c else c + 1
def delE (l : List En) (s : ByteArray) : List En := l.filter fun x => !decide (x.s = s)
theorem getE_no {s : ByteArray} : ∀ {l : List En}, (∀ x ∈ l, x.s ≠ s) → getE l s = none
  | [], _ => rfl
  | x :: l, h => by
    unfold getE
    rw [if_neg (h x List.mem_cons_self), getE_no (fun y hy => h y (List.mem_cons_of_mem _ hy))]
theorem getE_mem {s : ByteArray} {v : Int} : ∀ {l : List En}, getE l s = some v → ∃ x ∈ l, x.s = s ∧ x.v = v
  | [], h => by cases h
  | x :: l, h => by
    unfold getE at h
    split at h
    · rename_i e
      simp only [Option.some.injEq] at h
      exact ⟨x, List.mem_cons_self, e, h⟩
    · obtain ⟨y, hy, h2⟩ := getE_mem h
      exact ⟨y, List.mem_cons_of_mem _ hy, h2⟩
theorem getE_at : ∀ {l : List En} {x : En}, l.Pairwise (fun x y => x.s ≠ y.s) → x ∈ l → getE l x.s = some x.v
  | y :: l, x, hp, hx => by
    obtain ⟨h1, h2⟩ := List.pairwise_cons.1 hp
    unfold getE
    rcases List.mem_cons.1 hx with rfl | hx
    · rw [if_pos rfl]
    · rw [if_neg (h1 x hx), getE_at h2 hx]
theorem setE_at {s : ByteArray} {v : Int} : ∀ {l : List En} {j : Nat} {x : En}, l.Pairwise (fun x y => x.s ≠ y.s) → l[j]? = some x → x.s = s → setE l s v = l.set j { x with v := v }
  | y :: l, 0, x, hp, hj, hs => by
    simp only [List.getElem?_cons_zero, Option.some.injEq] at hj
    subst hj
    unfold setE
    rw [if_pos hs]
    rfl
  | y :: l, j + 1, x, hp, hj, hs => by
    obtain ⟨h1, h2⟩ := List.pairwise_cons.1 hp
    simp only [List.getElem?_cons_succ] at hj
    unfold setE
    rw [if_neg (fun e => h1 x (List.mem_of_getElem? hj) (e.trans hs.symm)), setE_at h2 hj hs]
    rfl
theorem setE_keys (s : ByteArray) (v : Int) : ∀ l : List En, (setE l s v).map En.s = l.map En.s
  | [] => rfl
  | x :: l => by
    unfold setE
    split
    · rfl
    · rw [List.map_cons, setE_keys s v l, List.map_cons]
theorem setE_born (s : ByteArray) (v : Int) : ∀ l : List En, (setE l s v).map En.b = l.map En.b
  | [] => rfl
  | x :: l => by
    unfold setE
    split
    · rfl
    · rw [List.map_cons, setE_born s v l, List.map_cons]
theorem getE_set (s t : ByteArray) (v : Int) : ∀ l : List En, getE (setE l s v) t = if t = s ∧ (getE l s).isSome then some v else getE l t
  | [] => by unfold setE getE; simp
  | x :: l => by
    have ih := getE_set s t v l
    by_cases h : x.s = s
    · have e1 : setE (x :: l) s v = { x with v := v } :: l := by unfold setE; rw [if_pos h]
      have e2 : getE (x :: l) s = some x.v := by unfold getE; rw [if_pos h]
      rw [e1, e2]
      by_cases h2 : t = s
      · subst h2
        rw [if_pos ⟨rfl, rfl⟩]
        unfold getE
        rw [if_pos h]
      · rw [if_neg (fun e => h2 e.1)]
        unfold getE
        rw [if_neg (fun e => h2 (e.symm.trans h)), if_neg (fun e => h2 (e.symm.trans h))]
    · have e1 : setE (x :: l) s v = x :: setE l s v := if_neg h
      have e2 : getE (x :: l) s = getE l s := if_neg h
      rw [e1, e2]
      by_cases h2 : x.s = t
      · have e3 : getE (x :: setE l s v) t = some x.v := by unfold getE; rw [if_pos h2]
        have e4 : getE (x :: l) t = some x.v := by unfold getE; rw [if_pos h2]
        rw [e3, e4, if_neg (fun e => h (h2.trans e.1))]
      · have e3 : getE (x :: setE l s v) t = getE (setE l s v) t := if_neg h2
        have e4 : getE (x :: l) t = getE l t := if_neg h2
        rw [e3, e4, ih]
theorem getE_app (x : En) (t : ByteArray) : ∀ l : List En, getE (l ++ [x]) t = if (getE l t).isSome then getE l t else if x.s = t then some x.v else none
  | [] => rfl
  | y :: l => by
    have ih := getE_app x t l
    rw [List.cons_append]
    by_cases h : y.s = t
    · have e1 : getE (y :: (l ++ [x])) t = some y.v := by unfold getE; rw [if_pos h]
      have e2 : getE (y :: l) t = some y.v := by unfold getE; rw [if_pos h]
      rw [e1, e2]
      rfl
    · have e1 : getE (y :: (l ++ [x])) t = getE (l ++ [x]) t := if_neg h
      have e2 : getE (y :: l) t = getE l t := if_neg h
      rw [e1, e2, ih]
/-- What a store does to what is held. -/
theorem getE_put (l : List En) (c : Nat) (s t : ByteArray) (v : Int) : getE (putE l c s v) t = if t = s then some v else getE l t := by
  unfold putE
  cases h : (getE l s).isSome with
  | true =>
    rw [if_pos rfl, getE_set, h]
    by_cases h2 : t = s
    · rw [if_pos ⟨h2, rfl⟩, if_pos h2]
    · rw [if_neg (fun e => h2 e.1), if_neg h2]
  | false =>
    rw [if_neg (by decide), getE_app]
    by_cases h2 : t = s
    · subst h2
      rw [h, if_neg (by decide), if_pos rfl, if_pos rfl]
    · rw [if_neg h2]
      cases h3 : getE l t with
      | none => rw [if_neg (by decide), if_neg (fun e => h2 e.symm)]
      | some z => rfl
theorem getE_del (s t : ByteArray) : ∀ l : List En, getE (delE l s) t = if t = s then none else getE l t
  | [] => by unfold delE getE; simp
  | x :: l => by
    have ih := getE_del s t l
    unfold delE at ih ⊢
    rw [List.filter_cons]
    by_cases h : x.s = s
    · rw [if_neg (by simp [h]), ih]
      by_cases h2 : t = s
      · rw [if_pos h2, if_pos h2]
      · rw [if_neg h2, if_neg h2]
        exact (show getE (x :: l) t = getE l t from if_neg (fun e => h2 (e.symm.trans h))).symm
    · rw [if_pos (by simp [h])]
      by_cases h2 : x.s = t
      · have e3 : ∀ r, getE (x :: r) t = some x.v := fun r => by unfold getE; rw [if_pos h2]
        rw [e3, e3, if_neg (fun e => h (h2.trans e))]
      · have e3 : ∀ r, getE (x :: r) t = getE r t := fun r => if_neg h2
        rw [e3, e3, ih]
theorem pw_map {α β : Type} {R : β → β → Prop} {f : α → β} : ∀ {l l' : List α}, l'.map f = l.map f → l.Pairwise (fun x y => R (f x) (f y)) → l'.Pairwise (fun x y => R (f x) (f y)) := by
  intro l l' h hp
  rw [← List.pairwise_map] at hp ⊢
  rwa [h]
theorem MOk.put {l : List En} {c : Nat} (h : MOk l c) {s : ByteArray} (v : Int) (hs : s.size ≤ maxLen) : MOk (putE l c s v) (putC l c s) := by
  unfold putE putC
  cases hb : (getE l s).isSome with
  | true =>
    rw [if_pos rfl, if_pos rfl]
    have hk := setE_keys s v l
    have hbn := setE_born s v l
    refine ⟨pw_map (R := fun a b => a ≠ b) hk h.key, pw_map (R := fun a b => a ≠ b) hbn h.brn, fun x hx => ?_, fun x hx => ?_⟩
    · have : x.b ∈ (setE l s v).map En.b := List.mem_map.2 ⟨x, hx, rfl⟩
      rw [hbn] at this
      obtain ⟨y, hy, e⟩ := List.mem_map.1 this
      rw [← e]; exact h.old y hy
    · have : x.s ∈ (setE l s v).map En.s := List.mem_map.2 ⟨x, hx, rfl⟩
      rw [hk] at this
      obtain ⟨y, hy, e⟩ := List.mem_map.1 this
      rw [← e]; exact h.len y hy
  | false =>
    rw [if_neg (by decide), if_neg (by decide)]
    have hno : ∀ x ∈ l, x.s ≠ s := fun x hx e => by
      have := getE_at h.key hx
      rw [e] at this
      rw [this] at hb
      cases hb
    refine ⟨List.pairwise_append.2 ⟨h.key, by simp, fun x hx y hy => ?_⟩, List.pairwise_append.2 ⟨h.brn, by simp, fun x hx y hy => ?_⟩, fun x hx => ?_, fun x hx => ?_⟩
    · rw [List.mem_singleton] at hy; subst hy; exact hno x hx
    · rw [List.mem_singleton] at hy; subst hy; have := h.old x hx; dsimp only; omega
    · rcases List.mem_append.1 hx with hx | hx
      · have := h.old x hx; omega
      · rw [List.mem_singleton] at hx; subst hx; dsimp only; omega
    · rcases List.mem_append.1 hx with hx | hx
      · exact h.len x hx
      · rw [List.mem_singleton] at hx; subst hx; exact hs
theorem MOk.del {l : List En} {c : Nat} (h : MOk l c) (s : ByteArray) : MOk (delE l s) c :=
  ⟨h.key.filter _, h.brn.filter _, fun x hx => h.old x (List.mem_filter.1 hx).1, fun x hx => h.len x (List.mem_filter.1 hx).1⟩
section
variable {P : Program} {T K E : TypeId} {w : World} {bm : Nat} {l : List En} {c : Nat}
theorem ents_list (l : List En) : (ents l).toList = l.map En.e := by simp [ents]
/-- The search for a key. -/
theorem find_en (hk : P.underlying K = some .string) (h : MOk l c) {s : ByteArray} (hs : s.size ≤ maxLen) :
    (getE l s = none ∧ (Instr.findKey K (.string s) (ents l).toList).run P w = .ok none w ∧ ∀ x ∈ l, x.s ≠ s) ∨
    ∃ (j : Nat) (x : En), l[j]? = some x ∧ x.s = s ∧ getE l s = some x.v ∧ (Instr.findKey K (.string s) (ents l).toList).run P w = .ok (some (j, .int .i64 x.v)) w := by
  have KY := string_keyed hk
  have hkey := keyOf_string_mk hk hs
  rcases KY.find w hkey (ents l).toList (fun e he => by
    rw [ents_list] at he
    obtain ⟨x, hx, rfl⟩ := List.mem_map.1 he
    exact ⟨_, keyOf_string_mk hk (h.len x hx)⟩) with ⟨h1, h2⟩ | ⟨j, e, h1, h2, h3⟩
  · left
    have hno : ∀ x ∈ l, x.s ≠ s := fun x hx e => h2 x.e (by rw [ents_list]; exact List.mem_map.2 ⟨x, hx, rfl⟩) (by rw [← e]; rfl)
    exact ⟨getE_no hno, h1, hno⟩
  · right
    rw [ents_list, List.getElem?_map, Option.map_eq_some_iff] at h2
    obtain ⟨x, hx, rfl⟩ := h2
    have hxs : x.s = s := by
      have : Value.string x.s = Value.string s := h3
      simpa using this
    exact ⟨j, x, hx, hxs, by rw [← hxs]; exact getE_at h.key (List.mem_of_getElem? hx), h1⟩
theorem run_lookE (b : Bool) (hk : P.underlying K = some .string) (ht : P.underlying T = some (.map K E)) (hz : (zeroValue E).run P w = .ok (.int .i64 0) w) (hb : w.heap[bm]? = some (.map (ents l) c)) (h : MOk l c) {s : ByteArray} (hs : s.size ≤ maxLen) :
    (Instr.lookup T (.map (some bm)) (.string s) b).run P w = .ok (if b then .tuple #[.int .i64 ((getE l s).getD 0), .bool (getE l s).isSome] else .int .i64 ((getE l s).getD 0)) w := by
  have KY := string_keyed hk
  have hkey := keyOf_string_mk hk hs
  rcases find_en (w := w) hk h hs with ⟨h1, h2, _⟩ | ⟨j, x, _, _, h1, h2⟩
  · rw [h1]
    simp [Instr.lookup, run_underlying ht, MapKept.run_getObj_map hb, KY.check w _ hkey, h2, hz, Result.andThen]
  · rw [h1]
    simp [Instr.lookup, run_underlying ht, MapKept.run_getObj_map hb, KY.check w _ hkey, h2, Result.andThen]
theorem ents_app (l : List En) (x : En) : (ents l).push x.e = ents (l ++ [x]) := by simp [ents]
theorem ents_mod {j : Nat} {x : En} (h : l[j]? = some x) (v : Int) : (ents l).modify j (fun e => { e with key := .string x.s, val := .int .i64 v }) = ents (l.set j { x with v := v }) := by
  apply Array.ext'
  rw [Array.toList_modify, ents_list, ents_list, ChangeMaps.modify_eq_set _ _ j x.e (by rw [List.getElem?_map, h]; rfl), List.map_set]
  rfl
theorem run_putE (hk : P.underlying K = some .string) (ht : P.underlying T = some (.map K E)) (hb : w.heap[bm]? = some (.map (ents l) c)) (h : MOk l c) {s : ByteArray} (hs : s.size ≤ maxLen) (v : Int) :
    (Instr.mapUpdate T (.map (some bm)) (.string s) (.int .i64 v)).run P w = .ok () (setBlock w bm (.map (ents (putE l c s v)) (putC l c s))) := by
  have KY := string_keyed hk
  have hkey := keyOf_string_mk hk hs
  rcases find_en (w := w) hk h hs with ⟨h1, h2, _⟩ | ⟨j, x, hj, hxs, h1, h2⟩
  · have e1 : putE l c s v = l ++ [⟨s, v, c⟩] := by unfold putE; rw [h1]; rfl
    have e2 : putC l c s = c + 1 := by unfold putC; rw [h1]; rfl
    rw [e1, e2, ← ents_app]
    simp [Instr.mapUpdate, run_underlying ht, MapKept.run_getObj_map hb, KY.check w false hkey, h2, MapKept.run_setObj_map _ hb, Result.andThen, setBlock, En.e]
  · have e1 : putE l c s v = l.set j { x with v := v } := by unfold putE; rw [h1]; exact setE_at h.key hj hxs
    have e2 : putC l c s = c := by unfold putC; rw [h1]; rfl
    have hj2 : (ents l)[j]? = some x.e := by simp [ents, hj]
    rw [e1, e2, ← ents_mod hj v, hxs]
    have hkk : x.e.key = .string s := by rw [← hxs]; rfl
    simp [Instr.mapUpdate, run_underlying ht, MapKept.run_getObj_map hb, KY.check w false hkey, h2, hj2, hkk, KY.stays w hkey, MapKept.run_setObj_map _ hb, Result.andThen, setBlock]
theorem run_delE (hk : P.underlying K = some .string) (ht : P.underlying T = some (.map K E)) (hb : w.heap[bm]? = some (.map (ents l) c)) (h : MOk l c) {s : ByteArray} (hs : s.size ≤ maxLen) (ty : TypeId) :
    (Builtin.delete_ #[T, K] ty #[.map (some bm), .string s]).run P w = .ok (.tuple #[]) (setBlock w bm (.map (ents (delE l s)) c)) := by
  have KY := string_keyed hk
  have hkey := keyOf_string_mk hk hs
  rcases find_en (w := w) hk h hs with ⟨h1, h2, hno⟩ | ⟨j, x, hj, hxs, h1, h2⟩
  · have e1 : delE l s = l := by
      unfold delE
      rw [List.filter_eq_self]
      intro y hy
      simp [hno y hy]
    rw [e1]
    simp [Builtin.delete_, run_underlying ht, MapKept.run_getObj_map hb, KY.check w _ hkey, h2, MapKept.run_setObj_map _ hb, Result.andThen, setBlock]
  · have hjl : j < (ents l).size := by simp [ents]; exact (List.getElem?_eq_some_iff.1 hj).1
    have e1 : (ents l).eraseIdxIfInBounds j = ents (delE l s) := by
      unfold Array.eraseIdxIfInBounds
      rw [dif_pos hjl]
      apply Array.ext'
      rw [ents_list]
      simp only [Array.toList_eraseIdx]
      rw [ents_list, ← ChangeMaps.map_eraseIdx]
      congr 1
      symm
      unfold delE
      refine ChangeMaps.filter_eq_eraseIdx _ _ j x hj ?_ ?_
      · simp [hxs]
      · refine h.key.imp fun {a b} hne => ?_
        simp only [decide_eq_true_eq]
        exact fun e => hne (e.1.trans e.2.symm)
    simp [Builtin.delete_, run_underlying ht, MapKept.run_getObj_map hb, KY.check w _ hkey, h2, MapKept.run_setObj_map _ hb, Result.andThen, setBlock, e1]
end
end Go.Proofs.YtackekfjalaacaaDoor
