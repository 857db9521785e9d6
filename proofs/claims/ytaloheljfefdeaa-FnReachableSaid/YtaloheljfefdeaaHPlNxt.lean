/- The plain law of FnNext: enabled rules, and the states to which they lead. No program in sight. -/
import Derived.Test.YtaloheljfefdeaaH10
import Derived.Test.YtaloheljfefdeaaH11
namespace Go.Proofs.Ytaloheljfefdeaa
open Go.RowKit

theorem stC_zero {m : Mdl} {vs : List Int} (h : stC m vs = 0) : mdB m = true ∧ stB m.sz vs = true := by
  unfold stC at h
  rcases h1 : mdB m with _ | _
  · rw [h1] at h; simp at h
  · rw [h1] at h
    rcases h2 : stB m.sz vs with _ | _
    · rw [h2] at h; simp at h
    · exact ⟨rfl, rfl⟩
theorem hi_rule {m : Mdl} {vs : List Int} {r : Rul} (h1 : mdB m = true) (h2 : stB m.sz vs = true) (hr : r ∈ m.rs) : hiC m vs r.gs = 0 ∧ hiB m vs r.gs = hlB vs r.gs := by
  have h := rl_of h1 hr
  unfold rlB at h
  simp only [Bool.and_eq_true] at h
  unfold hiC hiB
  rw [h1, h2, h.2.2.1]
  exact ⟨rfl, rfl⟩
theorem mem_er {m : Mdl} {vs : List Int} {k : Nat} {r : Rul} (h1 : mdB m = true) (h2 : stB m.sz vs = true) (hk : m.rs[k]? = some r) : memB (erL m vs) (k : Int) = hlB vs r.gs := by
  have hlt := (List.getElem?_eq_some_iff.1 hk).1
  have e : ((k : Int) ∈ erL m vs) ↔ hlB vs r.gs = true := by
    unfold erL
    rw [h1, h2]
    simp only [Bool.and_self, if_true]
    unfold enL enK
    simp only [List.mem_map, List.mem_filter, List.mem_range]
    constructor
    · rintro ⟨j, ⟨_, h⟩, hj⟩
      have hj' : j = k := by omega
      subst hj'
      rwa [getDR hk] at h
    · intro h
      exact ⟨k, ⟨hlt, by rw [getDR hk]; exact h⟩, rfl⟩
  unfold memB
  rcases hh : hlB vs r.gs with _ | _
  · rw [hh] at e
    exact decide_eq_false (fun h => by have := e.1 h; cases this)
  · exact decide_eq_true (e.2 hh)
theorem ar_rule {m : Mdl} {vs : List Int} {k : Nat} {r : Rul} (h1 : mdB m = true) (h2 : stB m.sz vs = true) (hk : m.rs[k]? = some r) : arC m vs k = (if hlB vs r.gs then 0 else 5) ∧ arL m vs k = (if hlB vs r.gs then apL vs r.es else []) := by
  have hlt := (List.getElem?_eq_some_iff.1 hk).1
  have e : arR m k = r := by unfold arR; rw [Int.toNat_natCast]; exact getDR hk
  have hin : inB (k : Int) 0 (m.rs.length - 1) = true := by simp [inB]; omega
  unfold arC arL
  rw [h1, h2, hin, e]
  simp
theorem nw_has {m : Mdl} {vs : List Int} {k : Nat} {r : Rul} (h1 : mdB m = true) (h2 : stB m.sz vs = true) (hk : m.rs[k]? = some r) (hh : hlB vs r.gs = true) : ∃ j : Nat, (nwL m vs)[j]? = some (apL vs r.es) := by
  have hm := mem_er h1 h2 hk
  rw [hh] at hm
  have hm2 : (k : Int) ∈ erL m vs := of_decide_eq_true hm
  have e : arR m k = r := by unfold arR; rw [Int.toNat_natCast]; exact getDR hk
  have h3 : apL vs r.es ∈ nwL m vs := by
    unfold nwL
    unfold erL at hm2
    rw [h1, h2] at hm2 ⊢
    simp only [Bool.and_self, if_true] at hm2 ⊢
    rw [mem_ascL]
    unfold nsL
    exact List.mem_map.2 ⟨_, hm2, by rw [e]⟩
  obtain ⟨j, hj, e2⟩ := List.getElem_of_mem h3
  exact ⟨j, by rw [List.getElem?_eq_getElem hj, e2]⟩
theorem ascL_le2 : ∀ (L : List (List Int)) (M : List (List Int)), (L.foldl insQ M).length ≤ M.length + L.length := fold_len
theorem nw_le (m : Mdl) (vs : List Int) : (nwL m vs).length ≤ (erL m vs).length := by
  unfold nwL erL
  split
  · have := fold_len (nsL m vs) []
    rw [nsL_len] at this
    unfold ascL
    simpa using this
  · simp
def fnd (fb : Bool) (L : List (List Int)) (x : List Int) (q : Nat) : Bool := fb || (L.take q).any fun l => likB l x
theorem fnd_zero (fb : Bool) (L : List (List Int)) (x : List Int) : fnd fb L x 0 = fb := by simp [fnd]
theorem fnd_succ {fb : Bool} {L : List (List Int)} {x l : List Int} {q : Nat} (h : L[q]? = some l) : fnd fb L x (q + 1) = (fnd fb L x q || likB l x) := by
  unfold fnd
  rw [List.take_add_one, h, List.any_append, Bool.or_assoc]
  simp
theorem fnd_all {fb : Bool} {L : List (List Int)} {x : List Int} {j n : Nat} (h : L[j]? = some x) (hj : j < n) : fnd fb L x n = true := by
  unfold fnd
  rw [Bool.or_eq_true]
  right
  rw [List.any_eq_true]
  refine ⟨x, ?_, by unfold likB; simp⟩
  have : (L.take n)[j]? = some x := by rw [List.getElem?_take, if_pos hj]; exact h
  exact List.mem_of_getElem? this
theorem fnd_true (L : List (List Int)) (x : List Int) (q : Nat) : fnd true L x q = true := by simp [fnd]
theorem er_len (m : Mdl) (vs : List Int) : (erL m vs).length ≤ 1048576 := by
  unfold erL
  split
  · rename_i h
    rw [Bool.and_eq_true] at h
    have h2 := h.1
    unfold mdB at h2
    simp only [Bool.and_eq_true, decide_eq_true_eq] at h2
    have h5 := enK_len vs m.rs m.rs.length
    unfold enL
    omega
  · simp
theorem nw_len2 (m : Mdl) (vs : List Int) : (nwL m vs).length ≤ 1048576 := Nat.le_trans (nw_le m vs) (er_len m vs)
theorem nw_each {m : Mdl} {vs : List Int} : ∀ l ∈ nwL m vs, l.length ≤ 1048576 := by
  intro l hl
  unfold nwL at hl
  split at hl
  · rename_i h
    rw [Bool.and_eq_true] at h
    rw [mem_ascL] at hl
    have h1 := nsL_all l hl
    have h2 := vs_pos h.1 h.2
    omega
  · simp at hl
end Go.Proofs.Ytaloheljfefdeaa
