/- Ranging over a map whose round stores into it (new keys too): run-level and walk-level laws. No condition but the keys' sizes. -/
import Derived.Test.YtackekfjalaacaaDoorMpE
import Derived.Maps.RangeWalk
namespace Go.Proofs.YtackekfjalaacaaDoor
open Go.RowKit Go.Maps
open Go.ChangeMaps (setBlock)

/-- The map in its block. -/
def MpA (w : World) (bm : Nat) (l : List En) (c : Nat) : Prop := w.heap[bm]? = some (.map (ents l) c) ∧ MOk l c
/-- The range under way: an iterator in block r, what it has seen. -/
structure Itr (w : World) (bm r : Nat) (l : List En) (since : Nat) (seen : List Nat) : Prop where
  it : ∃ c0, w.heap[r]? = some (.mapIter (some bm) since seen.toArray c0) ∧ (seen = [] ∨ ∃ x ∈ l, x.b < c0)
  nd : seen.Nodup
  sub : ∀ b ∈ seen, ∃ x ∈ l, x.b = b
/-- How many entries have come. -/
def World.itrSeen (w : World) (r : Nat) : Nat := match w.heap[r]? with | some (.mapIter _ _ seen _) => seen.size | _ => 0
section
variable {w : World} {bm r : Nat} {l : List En} {c since : Nat} {seen : List Nat}
theorem Itr.count (h : Itr w bm r l since seen) : World.itrSeen w r = seen.length := by
  obtain ⟨c0, hr, _⟩ := h.it
  unfold World.itrSeen
  rw [hr]
  simp
theorem Itr.ne (h : Itr w bm r l since seen) (hm : MpA w bm l c) : r ≠ bm := by
  obtain ⟨c0, hr, _⟩ := h.it
  intro e
  rw [e, hm.1] at hr
  cases hr
theorem Itr.lt (h : Itr w bm r l since seen) : r < w.heap.size := by
  obtain ⟨c0, hr, _⟩ := h.it
  exact heap_at hr
theorem MpA.lt (h : MpA w bm l c) : bm < w.heap.size := heap_at h.1
theorem MpA.kept {w' : World} {row : Option Nat} (h : MpA w bm l c) (hg : w.grownBy w' row) (hne : some bm ≠ row) : MpA w' bm l c := ⟨(hg.block bm h.lt hne).trans h.1, h.2⟩
theorem MpA.below {w' : World} (h : MpA w bm l c) (hb : Below w.heap.size w w') : MpA w' bm l c := ⟨(hb.block bm h.lt).trans h.1, h.2⟩
theorem Itr.kept {w' : World} {row : Option Nat} (h : Itr w bm r l since seen) (hg : w.grownBy w' row) (hne : some r ≠ row) : Itr w' bm r l since seen := by
  have hlt := h.lt
  obtain ⟨⟨c0, hr, h2⟩, h3, h4⟩ := h
  exact ⟨⟨c0, (hg.block r hlt hne).trans hr, h2⟩, h3, h4⟩
theorem Itr.below {w' : World} (h : Itr w bm r l since seen) (hb : Below w.heap.size w w') : Itr w' bm r l since seen := by
  have hlt := h.lt
  obtain ⟨⟨c0, hr, h2⟩, h3, h4⟩ := h
  exact ⟨⟨c0, (hb.block r hlt).trans hr, h2⟩, h3, h4⟩
theorem nodup_leN : ∀ {l1 l2 : List Nat}, l1.Nodup → (∀ x ∈ l1, x ∈ l2) → l1.length ≤ l2.length
  | [], l2, _, _ => by simp
  | a :: t, l2, hn, hs => by
    rw [List.nodup_cons] at hn
    obtain ⟨s, r, e⟩ := List.append_of_mem (hs a (List.mem_cons_self ..))
    have ih := nodup_leN (l2 := s ++ r) hn.2 (fun x hx => by
      have h1 := hs x (List.mem_cons_of_mem _ hx)
      rw [e] at h1
      rcases List.mem_append.1 h1 with h | h
      · exact List.mem_append_left _ h
      · rcases List.mem_cons.1 h with h | h
        · subst h; exact absurd hx hn.1
        · exact List.mem_append_right _ h)
    rw [e]
    simp only [List.length_append, List.length_cons] at ih ⊢
    omega
theorem Itr.seen_le (h : Itr w bm r l since seen) : seen.length ≤ l.length := by
  have := nodup_leN (l2 := l.map En.b) h.nd (fun b hb => by
    obtain ⟨x, hx, e⟩ := h.sub b hb
    exact List.mem_map.2 ⟨x, hx, e⟩)
  simpa using this
theorem put_born (l : List En) (c : Nat) (s : ByteArray) (v : Int) {x : En} (hx : x ∈ l) : ∃ y ∈ putE l c s v, y.b = x.b := by
  unfold putE
  split
  · have : x.b ∈ (setE l s v).map En.b := by rw [setE_born]; exact List.mem_map.2 ⟨x, hx, rfl⟩
    obtain ⟨y, hy, e⟩ := List.mem_map.1 this
    exact ⟨y, hy, e⟩
  · exact ⟨x, List.mem_append_left _ hx, rfl⟩
/-- A store in the round. -/
theorem Itr.put {w' : World} (h : Itr w bm r l since seen) (s : ByteArray) (v : Int) (hr : w'.heap[r]? = w.heap[r]?) : Itr w' bm r (putE l c s v) since seen := by
  obtain ⟨⟨c0, h1, h2⟩, h3, h4⟩ := h
  refine ⟨⟨c0, hr.trans h1, h2.imp id ?_⟩, h3, fun b hb => ?_⟩
  · rintro ⟨x, hx, hlt⟩
    obtain ⟨y, hy, e⟩ := put_born l c s v hx
    exact ⟨y, hy, by omega⟩
  · obtain ⟨x, hx, e⟩ := h4 b hb
    obtain ⟨y, hy, e2⟩ := put_born l c s v hx
    exact ⟨y, hy, e2.trans e⟩
theorem run_chooseN {P : Program} (n : Nat) (hn : 0 < n) (w : World) : ∃ (j : Nat) (w1 : World), j < n ∧ (w1 = w ∨ w1 = w.drew) ∧ (choose (Question.mapNext n)).run P w = .ok j w1 := by
  by_cases hf : n ≤ 1
  · exact ⟨0, w, by omega, Or.inl rfl, by simp [choose, Sem.run, Question.forced, hf]⟩
  · exact ⟨_, w.drew, Nat.mod_lt _ (by omega), Or.inr rfl, by
      simp only [choose, Sem.run, Question.forced, decide_eq_true_eq, hf, if_false, Question.cut]
      rfl⟩
/-- The step. -/
theorem run_nextE {P : Program} (hm : MpA w bm l c) (hi : Itr w bm r l since seen) (ty : TypeId) :
    (∃ w1, (w1 = w ∨ w1 = w.drew) ∧ (Instr.next (.pointer (some ⟨r, 0, none⟩)) false ty).run P w = .ok (.tuple #[.bool false]) w1 ∧ ∀ x ∈ l, x.b < since → x.b ∈ seen) ∨
    ∃ x ∈ l, ¬ x.b ∈ seen ∧ ∃ w1, (w1 = w ∨ w1 = w.drew) ∧ (Instr.next (.pointer (some ⟨r, 0, none⟩)) false ty).run P w = .ok (.tuple #[.bool true, .string x.s, .int .i64 x.v]) (setBlock w1 r (.mapIter (some bm) since (seen ++ [x.b]).toArray c)) := by
  obtain ⟨⟨c0, hr, hlast⟩, _, _⟩ := hi
  have hb := hm.1
  have hguard : (!seen.toArray.isEmpty && !(ents l).isEmpty && (ents l).all (fun x => decide (x.born ≥ c0))) = false := by
    rcases hlast with h | ⟨x, hx, hlt⟩
    · subst h; rfl
    · have : (ents l).all (fun x => decide (x.born ≥ c0)) = false := by
        rw [Array.all_eq_false]
        obtain ⟨j, hj, e⟩ := List.getElem_of_mem hx
        refine ⟨j, by simpa [ents] using hj, ?_⟩
        simp only [ents, List.getElem_toArray, List.getElem_map]
        rw [e]
        simp only [En.e, ge_iff_le, decide_eq_true_eq]
        omega
      rw [this, Bool.and_false]
  simp only [Instr.next, getObj, Sem.run_bind, Sem.run, hr, hb, Result.andThen, hguard, Bool.false_eq_true, if_false]
  generalize hL : (ents l).filter (fun e => !seen.toArray.contains e.born) = L
  have hmemL : ∀ e, e ∈ L.toList ↔ ∃ x ∈ l, x.e = e ∧ ¬ x.b ∈ seen := by
    intro e
    rw [← hL]
    simp only [Array.toList_filter, List.mem_filter, ents_list, List.mem_map, Bool.not_eq_true', List.contains_toArray]
    constructor
    · rintro ⟨⟨x, hx, rfl⟩, h2⟩
      exact ⟨x, hx, rfl, by simpa [En.e] using h2⟩
    · rintro ⟨x, hx, rfl, h2⟩
      exact ⟨⟨x, hx, rfl⟩, by simpa [En.e] using h2⟩
  generalize hO : L.filter (fun x => decide (x.born < since)) = O
  generalize hN : L.filter (fun x => decide (x.born ≥ since)) = N
  have hmemC : ∀ e, e ∈ (O ++ N).toList → e ∈ L.toList := by
    intro e he
    rw [← hO, ← hN] at he
    simp only [Array.toList_append, Array.toList_filter, List.mem_append, List.mem_filter] at he
    rcases he with h | h <;> exact h.1
  generalize hC : ((if O.isEmpty = true then #[none] else #[]) ++ (O ++ N).map some : Array (Option MapEntry)) = C
  have hCs : 0 < C.size := by
    rw [← hC]
    by_cases hE : O.isEmpty = true
    · rw [if_pos hE]; simp; omega
    · rw [if_neg hE]
      have : O.size ≠ 0 := fun e => hE (by simp [Array.isEmpty, e])
      simp
      omega
  obtain ⟨j, w1, hj, hal, hrun⟩ := run_chooseN (P := P) C.size hCs w
  have hcj : C[j]? = some C[j] := Array.getElem?_eq_getElem hj
  have hmem : C[j] ∈ C.toList := by simp
  generalize C[j] = cd at hcj hmem
  have hr1 : w1.heap[r]? = some (.mapIter (some bm) since seen.toArray c0) := by rcases hal with rfl | rfl <;> exact hr
  cases cd with
  | none =>
    left
    refine ⟨w1, hal, by simp only [hrun, hcj]; rfl, fun x hx hlt => ?_⟩
    have hE : O.isEmpty = true := by
      rw [← hC] at hmem
      by_cases hE : O.isEmpty = true
      · exact hE
      · rw [if_neg hE] at hmem
        simp at hmem
    by_cases hs : x.b ∈ seen
    · exact hs
    · exfalso
      have h1 : x.e ∈ L.toList := (hmemL _).2 ⟨x, hx, rfl, hs⟩
      have h2 : x.e ∈ O.toList := by
        rw [← hO]
        simp only [Array.toList_filter, List.mem_filter, decide_eq_true_eq]
        exact ⟨h1, hlt⟩
      have h3 : O = #[] := by simpa using hE
      rw [h3] at h2
      cases h2
  | some e =>
    right
    have he : e ∈ (O ++ N).toList := by
      rw [← hC] at hmem
      simp only [Array.toList_append, List.mem_append, Array.toList_map, List.mem_map] at hmem
      rcases hmem with h | ⟨y, hy, e1⟩
      · split at h <;> simp at h
      · simp only [Option.some.injEq] at e1
        subst e1
        simp only [Array.toList_append, List.mem_append]
        exact hy
    obtain ⟨x, hx, rfl, hns⟩ := (hmemL e).1 (hmemC e he)
    refine ⟨x, hx, hns, w1, hal, ?_⟩
    simp only [hrun, hcj, Sem.run_bind, Result.andThen, run_setObj_at hr1]
    have : seen.toArray.push x.b = (seen ++ [x.b]).toArray := by simp
    show Result.ok _ (setBlock w1 r (.mapIter (some bm) since (seen.toArray.push x.b) c)) = _
    rw [this]
    rfl
theorem run_entryE {P : Program} (hm : MpA w bm l c) {x : En} (hx : x ∈ l) (hr : w.heap[r]? = some (.mapIter (some bm) since (seen ++ [x.b]).toArray c)) :
    (Instr.entry (.pointer (some ⟨r, 0, none⟩))).run P w = .ok (.tuple #[.string x.s, .int .i64 x.v]) w := by
  have e : (seen ++ [x.b]).toArray = seen.toArray.push x.e.born := by simp [En.e]
  rw [e] at hr
  have hn : ((ents l).toList.map (·.born)).Nodup := by
    rw [ents_list, List.map_map, List.nodup_iff_pairwise_ne, List.pairwise_map]
    exact hm.2.brn
  have := run_entry_at (P := P) w r bm since seen.toArray (ents l) c x.e hr hm.1 (by rw [ents_list]; exact List.mem_map.2 ⟨x, hx, rfl⟩) hn
  exact this
end
end Go.Proofs.YtackekfjalaacaaDoor
