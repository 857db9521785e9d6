/- The plain law of FnCounterexamples: a first counterexample is one, its states before the last are not bad, and no shorter trace leads to a bad state. No program in sight. -/
import Derived.Test.YtaloheljfefdeaaHPlBfs
namespace Go.Proofs.Ytaloheljfefdeaa
open Go.RowKit

theorem xp_bf {m : Mdl} (h : xpO m = true) : Bf (nxL m) m.st (xpL m) := by
  unfold xpL
  rw [h, if_pos rfl]
  exact bf_fin
theorem xp_fin {m : Mdl} (h : xpO m = true) : xpL m = fin (nxL m) m.st ∧ (fin (nxL m) m.st).length ≤ 4000 := by
  unfold xpL
  rw [h, if_pos rfl]
  exact ⟨rfl, of_decide_eq_true h⟩
theorem xp_next {m : Mdl} (h : xpO m = true) {x : Rc} {p : Int × List Int} (hx : x ∈ xpL m) (hp : p ∈ nxL m x.v) : ∃ y ∈ xpL m, y.v = p.2 ∧ y.d ≤ x.d + 1 := by
  obtain ⟨e, hl⟩ := xp_fin h
  rw [e] at hx ⊢
  obtain ⟨k, hk, e2⟩ := List.getElem_of_mem hx
  exact fin_next hl (by rw [List.getElem?_eq_getElem hk, e2]) hp
theorem xp_start {m : Mdl} (h : xpO m = true) : ∃ y ∈ xpL m, y.v = m.st ∧ y.d = 0 := by
  rw [(xp_fin h).1]
  exact fin_start
theorem ft_parts {m : Mdl} {tr : List Int} (h : ftC m tr = 0) : mdB m = true ∧ tr.length ≤ 4000 ∧ trBad m tr = false ∧ trOK m tr tr.length = true := by
  unfold ftC at h
  split at h
  · rename_i h1
    split at h
    · omega
    · rename_i h2
      split at h
      · omega
      · rename_i h3
        split at h
        · rename_i h4
          exact ⟨h1, by omega, by simpa using h3, h4⟩
        · omega
  · omega
theorem ft_make {m : Mdl} {tr : List Int} (h1 : mdB m = true) (h2 : tr.length ≤ 4000) (h3 : trBad m tr = false) (h4 : trOK m tr tr.length = true) : ftC m tr = 0 := by
  unfold ftC
  rw [h1, h3, h4, if_pos rfl, if_neg (by omega)]
  rfl
theorem en_of {m : Mdl} {vs : List Int} {y : Int} (h1 : inB y 0 (m.rs.length - 1) = true) (h2 : hlB vs (arR m y).gs = true) : (y, apL vs (arR m y).es) ∈ nxL m vs := by
  have hb : 0 ≤ y ∧ y ≤ (m.rs.length : Int) - 1 := by simpa [inB] using h1
  unfold nxL
  refine List.mem_map.2 ⟨y, ?_, rfl⟩
  unfold enL enK
  refine List.mem_map.2 ⟨y.toNat, ?_, by omega⟩
  rw [List.mem_filter, List.mem_range]
  exact ⟨by omega, h2⟩
/-- After k steps of a trace: a state that the search has found, at a depth of at most k. -/
theorem tr_found {m : Mdl} {tr : List Int} (hx : xpO m = true) (hb : trBad m tr = false) (ho : trOK m tr tr.length = true) : ∀ k : Nat, k ≤ tr.length → ∃ y ∈ xpL m, y.v = trS m tr k ∧ y.d ≤ k
  | 0, _ => by
    obtain ⟨y, hy, e, hd⟩ := xp_start hx
    exact ⟨y, hy, e, by omega⟩
  | k + 1, hk => by
    obtain ⟨y, hy, e, hd⟩ := tr_found hx hb ho k (by omega)
    have hz : tr[k]? = some (tr.getD k 0) := by
      rw [List.getD_eq_getElem?_getD, List.getElem?_eq_getElem (by omega)]
      rfl
    have h1 : inB (tr.getD k 0) 0 (m.rs.length - 1) = true := by
      unfold trBad at hb
      rw [List.any_eq_false] at hb
      have := hb _ (List.mem_of_getElem? hz)
      simpa using this
    have h2 : hlB (trS m tr k) (arR m (tr.getD k 0)).gs = true := by
      unfold trOK at ho
      rw [List.all_eq_true] at ho
      exact ho k (List.mem_range.2 (by omega))
    have h3 := en_of h1 h2
    rw [← e] at h3
    obtain ⟨z, hz, e2, hd2⟩ := xp_next hx hy h3
    refine ⟨z, hz, ?_, by omega⟩
    rw [e2, e]
    rfl
theorem trS_app (m : Mdl) (t u : List Int) : ∀ j : Nat, j ≤ t.length → trS m (t ++ u) j = trS m t j
  | 0, _ => rfl
  | j + 1, h => by
    have e : (t ++ u).getD j 0 = t.getD j 0 := by
      rw [List.getD_eq_getElem?_getD, List.getD_eq_getElem?_getD, List.getElem?_append_left (by omega)]
    unfold trS
    rw [trS_app m t u j (by omega), e]
/-- What is kept with a state that was found: a trace that leads to it, through states that were found before. -/
structure Way (m : Mdl) (acc : List Rc) (i : Nat) (x : Rc) : Prop where
  bad : trBad m x.t = false
  ok : trOK m x.t x.t.length = true
  fin : trS m x.t x.t.length = x.v
  mid : ∀ j : Nat, j < x.t.length → ∃ (i' : Nat) (y : Rc), i' < i ∧ acc[i']? = some y ∧ trS m x.t j = y.v
theorem way_of {m : Mdl} {acc : List Rc} (h : Bf (nxL m) m.st acc) : ∀ (n i : Nat) (x : Rc), i ≤ n → acc[i]? = some x → Way m acc i x := by
  intro n
  induction n with
  | zero =>
    intro i x hi hx
    obtain rfl : i = 0 := by omega
    rcases h.par 0 x hx with ⟨hv, ht⟩ | ⟨j, y, hj, _⟩
    · exact ⟨by rw [ht]; rfl, by rw [ht]; rfl, by rw [ht, hv]; rfl, by rw [ht]; simp⟩
    · omega
  | succ n ih =>
    intro i x hi hx
    rcases h.par i x hx with ⟨hv, ht⟩ | ⟨j, y, hj, hy, ht, hp⟩
    · exact ⟨by rw [ht]; rfl, by rw [ht]; rfl, by rw [ht, hv]; rfl, by rw [ht]; simp⟩
    · have hw := ih j y (by omega) hy
      unfold nxL at hp
      obtain ⟨r, hr, e⟩ := List.mem_map.1 hp
      have e1 : r = x.r := congrArg Prod.fst e
      have e2 : apL y.v (arR m r).es = x.v := congrArg Prod.snd e
      subst e1
      obtain ⟨g0, g1, _, _, g4⟩ := en_rul hr
      have hlen : x.t.length = y.t.length + 1 := by rw [ht, List.length_append]; rfl
      have hget : x.t.getD y.t.length 0 = x.r := by
        rw [ht, List.getD_eq_getElem?_getD, List.getElem?_append_right (Nat.le_refl _)]
        simp
      have hS : ∀ k, k ≤ y.t.length → trS m x.t k = trS m y.t k := fun k hk => by rw [ht]; exact trS_app m y.t [x.r] k hk
      refine ⟨?_, ?_, ?_, ?_⟩
      · have hb := hw.bad
        unfold trBad at hb ⊢
        rw [ht, List.any_append, hb]
        have : inB x.r 0 (m.rs.length - 1) = true := by simp [inB]; omega
        simp [this]
      · rw [hlen, trOK_succ, hS _ (Nat.le_refl _), hw.fin, hget, g4, Bool.and_true]
        have ho := hw.ok
        unfold trOK at ho ⊢
        rw [List.all_eq_true] at ho ⊢
        intro k hk
        have hk2 := List.mem_range.1 hk
        have e3 : x.t.getD k 0 = y.t.getD k 0 := by
          rw [ht, List.getD_eq_getElem?_getD, List.getD_eq_getElem?_getD, List.getElem?_append_left hk2]
        rw [hS k (by omega), e3]
        exact ho k hk
      · rw [hlen]
        unfold trS
        rw [hS _ (Nat.le_refl _), hw.fin, hget]
        exact e2
      · intro k hk
        rcases Nat.lt_or_ge k y.t.length with h1 | h1
        · obtain ⟨i', z, hi', hz, e4⟩ := hw.mid k h1
          exact ⟨i', z, by omega, hz, by rw [hS k (by omega)]; exact e4⟩
        · obtain rfl : k = y.t.length := by omega
          exact ⟨j, y, hj, hy, by rw [hS _ (Nat.le_refl _)]; exact hw.fin⟩
theorem idx_first {α : Type} {pr : α → Bool} {l : List α} {k : Nat} (h : idxI pr l = k) : ∃ x, l[k]? = some x ∧ pr x = true ∧ ∀ (j : Nat) (y : α), j < k → l[j]? = some y → pr y = false := by
  unfold idxI at h
  split at h
  · rename_i j hj
    obtain rfl : j = k := by omega
    rw [List.findIdx?_eq_some_iff_getElem] at hj
    obtain ⟨h1, h2, h3⟩ := hj
    refine ⟨_, List.getElem?_eq_getElem h1, h2, fun i y hi hy => ?_⟩
    have := h3 i hi
    obtain ⟨h4, e⟩ := List.getElem?_eq_some_iff.1 hy
    rw [e] at this
    simpa using this
  · omega
theorem idx_none {α : Type} {pr : α → Bool} {l : List α} (h : idxI pr l < 0) : ∀ y ∈ l, pr y = false := by
  unfold idxI at h
  split at h
  · omega
  · rename_i hn
    rw [List.findIdx?_eq_none_iff] at hn
    intro y hy
    simpa using hn y hy
theorem xmC_cases (m : Mdl) (ts : List Tst) : xmC m ts = 0 ∨ xmC m ts = 1 ∨ xmC m ts = 2 ∨ xmC m ts = 3 := by
  unfold xmC
  split
  · split
    · split
      · exact .inl rfl
      · exact .inr (.inr (.inr rfl))
    · exact .inr (.inr (.inl rfl))
  · exact .inr (.inl rfl)
theorem fb_not {m : Mdl} {ts : List Tst} (h : fbC m ts = 4) : smB m ts = true := by
  unfold fbC at h
  split at h
  · rename_i h1
    split at h
    · rename_i h2
      unfold smB
      rw [Bool.and_eq_true]
      exact ⟨decide_eq_true h1, decide_eq_true h2⟩
    · omega
  · have := xmC_cases m ts
    omega
/-- What a first counterexample is. -/
theorem fb_yes {m : Mdl} {ts : List Tst} (h : fbC m ts = 0) : smB m ts = false ∧ ftC m (fbL m ts) = 0 ∧ icB m ts (fbL m ts) = true ∧ (ftL m (fbL m ts)).length = (fbL m ts).length + 1 ∧ (fbL m ts).length ≤ 4000 ∧
    ∀ i : Nat, i < (fbL m ts).length → ∃ l, (ftL m (fbL m ts))[i]? = some l ∧ hiC m l ts = 0 ∧ hiB m l ts = false := by
  have hx : xmC m ts = 0 ∧ ¬ badI ts (xmL m ts) < 0 := by
    unfold fbC at h
    split at h
    · rename_i h1
      split at h
      · omega
      · rename_i h2
        exact ⟨h1, h2⟩
    · omega
  obtain ⟨h1, h2⟩ := hx
  obtain ⟨hmd, hts, hxo, hxl⟩ := xm_good h1
  obtain ⟨k, _, hk, _⟩ := idxI_lt h2
  change badI ts (xmL m ts) = k at hk
  obtain ⟨x, hx, hbad, hfirst⟩ := idx_first hk
  have e : fbL m ts = x.t := by
    unfold fbL
    rw [if_pos h1, if_neg h2, hk, Int.toNat_natCast, hx]
  rw [hxl] at hx hfirst
  have hw := way_of (xp_bf hxo) k k x (Nat.le_refl _) hx
  have hlen : x.t.length ≤ 4000 := by
    have a := (xp_inv m).dt x (List.mem_of_getElem? hx)
    have b := (xp_inv m).di k x hx
    have c := (List.getElem?_eq_some_iff.1 hx).1
    have d := xp_len m
    omega
  have hft := ft_make hmd hlen hw.bad hw.ok
  have hfl := (ft_zero hft).2
  rw [e]
  refine ⟨?_, hft, ?_, by rw [hfl, trL_len], hlen, ?_⟩
  · unfold smB
    rw [Bool.and_eq_false_iff]
    exact .inr (decide_eq_false h2)
  · unfold icB
    rw [hft, hts, hw.fin, hbad]
    rfl
  · intro i hi
    obtain ⟨i', y, hi', hy, e4⟩ := hw.mid i hi
    refine ⟨trS m x.t i, by rw [hfl]; exact trL_at m x.t _ i (by omega), ?_⟩
    rw [e4]
    have hst := xp_st hmd y (List.mem_of_getElem? hy)
    have hnb := hfirst i' y hi' hy
    unfold hiC hiB
    rw [hmd, hst, hts, hnb]
    exact ⟨rfl, rfl⟩
/-- No shorter trace leads to a bad state. -/
theorem fb_min {m : Mdl} {ts : List Tst} {tr : List Int} (h : icB m ts tr = true) : fbC m ts = 3 ∨ (fbC m ts = 0 ∧ (fbL m ts).length ≤ tr.length) := by
  unfold icB at h
  simp only [Bool.and_eq_true, decide_eq_true_eq] at h
  obtain ⟨h0, hts, hb⟩ := h
  obtain ⟨hmd, _, hbd, hok⟩ := ft_parts h0
  rcases hxo : xpO m with _ | _
  · left
    have e : xmC m ts = 3 := by unfold xmC; rw [hmd, hts, hxo]; rfl
    unfold fbC
    rw [e]
    rfl
  · right
    have e : xmC m ts = 0 := by unfold xmC; rw [hmd, hts, hxo]; rfl
    have hxl := (xm_good e).2.2.2
    obtain ⟨y, hy, ev, hd⟩ := tr_found hxo hbd hok tr.length (Nat.le_refl _)
    rw [← ev] at hb
    have hn : ¬ badI ts (xmL m ts) < 0 := by
      intro hlt
      have := idx_none hlt y (by rw [hxl]; exact hy)
      rw [hb] at this
      cases this
    obtain ⟨k, _, hk, _⟩ := idxI_lt hn
    change badI ts (xmL m ts) = k at hk
    obtain ⟨x, hx, _, hfirst⟩ := idx_first hk
    have e2 : fbL m ts = x.t := by
      unfold fbL
      rw [if_pos e, if_neg hn, hk, Int.toNat_natCast, hx]
    refine ⟨by unfold fbC; rw [if_pos e, if_neg hn], ?_⟩
    rw [e2]
    rw [hxl] at hx hfirst
    obtain ⟨q, hq, e3⟩ := List.getElem_of_mem hy
    have hyq : (xpL m)[q]? = some y := by rw [List.getElem?_eq_getElem hq, e3]
    have hkq : k ≤ q := by
      rcases Nat.lt_or_ge q k with h5 | h5
      · have := hfirst q y h5 hyq
        rw [hb] at this
        cases this
      · exact h5
    have h6 := (xp_bf hxo).srt k q x y hkq hx hyq
    have h7 := (xp_inv m).dt x (List.mem_of_getElem? hx)
    omega
end Go.Proofs.Ytaloheljfefdeaa
