/- The plain law of FnReachable: the start and every next state of a reachable state are reachable. No program in sight. -/
import Derived.Test.YtaloheljfefdeaaHPlCex
namespace Go.Proofs.Ytaloheljfefdeaa
open Go.RowKit

theorem rs_mem {m : Mdl} (h : xmC m [] = 0) {l : List Int} : l ∈ rsL m ↔ ∃ x ∈ xpL m, x.v = l := by
  unfold rsL
  rw [mem_ascL, (xm0 h).2.2]
  exact List.mem_map
theorem rs_len {m : Mdl} (h : xmC m [] = 0) : crN m = ((rsL m).length : Int) ∧ 1 ≤ (rsL m).length ∧ (rsL m).length ≤ 4000 := by
  have e : (rsL m).length = (xpL m).length := by
    unfold rsL
    rw [(xm0 h).2.2, ascL_len (xp_inv m).nd, List.length_map]
  have h1 := xp_pos (xm0 h).2.1
  have h2 := xp_len m
  unfold crN
  rw [(xm0 h).2.2, e]
  exact ⟨rfl, by omega, h2⟩
theorem rs_start {m : Mdl} (h : xmC m [] = 0) : ∃ j : Nat, (rsL m)[j]? = some m.st := by
  obtain ⟨y, hy, e, _⟩ := xp_start (xm0 h).2.1
  have : m.st ∈ rsL m := (rs_mem h).2 ⟨y, hy, e⟩
  obtain ⟨j, hj, e2⟩ := List.getElem_of_mem this
  exact ⟨j, by rw [List.getElem?_eq_getElem hj, e2]⟩
theorem rs_state {m : Mdl} (h : xmC m [] = 0) {l : List Int} (hl : l ∈ rsL m) : stC m l = 0 ∧ ∀ l' ∈ nwL m l, ∃ j : Nat, (rsL m)[j]? = some l' := by
  obtain ⟨x, hx, rfl⟩ := (rs_mem h).1 hl
  have hmd := (xm0 h).1
  have hst := xp_st hmd x hx
  refine ⟨by unfold stC; rw [hmd, hst]; rfl, fun l' hl' => ?_⟩
  unfold nwL at hl'
  rw [hmd, hst] at hl'
  simp only [Bool.and_self, if_true] at hl'
  rw [mem_ascL] at hl'
  unfold nsL at hl'
  obtain ⟨y, hy, rfl⟩ := List.mem_map.1 hl'
  have hp : (y, apL x.v (arR m y).es) ∈ nxL m x.v := by
    unfold nxL
    exact List.mem_map.2 ⟨y, hy, rfl⟩
  obtain ⟨z, hz, e, _⟩ := xp_next (xm0 h).2.1 hx hp
  have : apL x.v (arR m y).es ∈ rsL m := (rs_mem h).2 ⟨z, hz, e⟩
  obtain ⟨j, hj, e2⟩ := List.getElem_of_mem this
  exact ⟨j, by rw [List.getElem?_eq_getElem hj, e2]⟩
theorem rs_each {m : Mdl} (hok : MOk m) : ∀ l ∈ rsL m, l.length ≤ 1048576 := by
  intro l hl
  unfold rsL at hl
  rw [mem_ascL] at hl
  obtain ⟨x, hx, rfl⟩ := List.mem_map.1 hl
  unfold xmL at hx
  split at hx
  · rename_i h
    rw [Bool.and_eq_true] at h
    have := st_len (xp_st h.1 x hx)
    have := hok.1.1
    omega
  · simp at hx
theorem rs_le (m : Mdl) : (rsL m).length ≤ 1048576 := by
  unfold rsL
  have h1 := ascL_le ((xmL m []).map Rc.v)
  rw [List.length_map] at h1
  have h2 := xm_le m []
  omega
end Go.Proofs.Ytaloheljfefdeaa
