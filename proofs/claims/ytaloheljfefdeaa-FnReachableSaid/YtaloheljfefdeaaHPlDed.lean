/- The plain law of FnDead: dead states are reachable, without an enabled rule; the depth. No program in sight. -/
import Derived.Test.YtaloheljfefdeaaHPlNxt
namespace Go.Proofs.Ytaloheljfefdeaa
open Go.RowKit

theorem xm0 {m : Mdl} (h : xmC m [] = 0) : mdB m = true ∧ xpO m = true ∧ xmL m [] = xpL m := ⟨(xm_good h).1, (xm_good h).2.2.1, (xm_good h).2.2.2⟩
theorem dp_lt {m : Mdl} (h : xmC m [] = 0) : dpN m < crN m := by
  obtain ⟨h1, h2, h3⟩ := xm0 h
  have hp := xp_pos h2
  unfold dpN crN
  rw [h3]
  obtain ⟨x, hx⟩ : ∃ x, (xpL m)[(xpL m).length - 1]? = some x := ⟨_, List.getElem?_eq_getElem (by omega)⟩
  rw [hx]
  have := (xp_inv m).di _ x hx
  show x.d < _
  omega
theorem rd_mem {m : Mdl} (h : xmC m [] = 0) {l : List Int} (hl : l ∈ rdL m) : stB m.sz l = true ∧ (erL m l).length = 0 := by
  obtain ⟨h1, h2, h3⟩ := xm0 h
  unfold rdL at hl
  rw [mem_ascL, h3] at hl
  unfold selL at hl
  obtain ⟨x, hx, rfl⟩ := List.mem_map.1 hl
  rw [List.mem_filter] at hx
  have hst := xp_st h1 x hx.1
  refine ⟨hst, ?_⟩
  unfold erL
  rw [h1, hst]
  simp only [Bool.and_self, if_true]
  have := hx.2
  unfold deadB at this
  exact of_decide_eq_true this
theorem rd_le (m : Mdl) : ((rdL m).length : Int) ≤ crN m := by
  unfold rdL crN
  have h1 := fold_len (selL (deadB m) (xmL m [])) []
  have h2 : (selL (deadB m) (xmL m [])).length ≤ (xmL m []).length := by
    unfold selL
    rw [List.length_map]
    exact List.length_filter_le _ _
  unfold ascL
  simp only [List.length_nil] at h1
  omega
theorem xm_le (m : Mdl) (ts : List Tst) : (xmL m ts).length ≤ 4000 := by
  unfold xmL
  split
  · exact xp_len m
  · simp
theorem rd_len (m : Mdl) : (rdL m).length ≤ 1048576 := by
  have h1 := rd_le m
  have h2 := xm_le m []
  unfold crN at h1
  omega
theorem rd_each {m : Mdl} (hok : MOk m) : ∀ l ∈ rdL m, l.length ≤ 1048576 := by
  intro l hl
  unfold rdL at hl
  rw [mem_ascL] at hl
  unfold selL at hl
  obtain ⟨x, hx, rfl⟩ := List.mem_map.1 hl
  rw [List.mem_filter] at hx
  have hx1 := hx.1
  unfold xmL at hx1
  split at hx1
  · rename_i h
    rw [Bool.and_eq_true] at h
    have := st_len (xp_st h.1 x hx1)
    have := hok.1.1
    omega
  · simp at hx1
theorem ft_len2 (m : Mdl) (tr : List Int) (h : tr.length ≤ 1048575) : (ftL m tr).length ≤ 1048576 := by
  unfold ftL
  split
  · split
    · simp
    · split
      · simp
      · split
        · rw [trL_len]; omega
        · simp
  · simp
theorem ft_len3 (m : Mdl) (tr : List Int) : (ftL m tr).length ≤ 1048576 := by
  rcases Nat.lt_or_ge 4000 tr.length with h | h
  · unfold ftL
    split
    · first | (rw [if_pos h]; simp) | simp
    · simp
  · exact ft_len2 m tr (by omega)
theorem ft_each2 {m : Mdl} {tr : List Int} (hok : MOk m) : ∀ l ∈ ftL m tr, l.length ≤ 1048576 := by
  intro l hl
  unfold ftL at hl
  split at hl
  · split at hl
    · simp at hl
    · split at hl
      · simp at hl
      · split at hl
        · unfold trL at hl
          obtain ⟨k, _, rfl⟩ := List.mem_map.1 hl
          rw [trS_len]
          exact hok.1.2.1
        · simp at hl
  · simp at hl
end Go.Proofs.Ytaloheljfefdeaa
