/- The walk of the law FnExactFollowTrace. No condition but the lengths. -/
import Derived.Test.YtdjehopcpjkgjaaGreatH10
import Derived.Test.YtdjehopcpjkgjaaGreatH5
import Derived.Test.YtdjehopcpjkgjaaGreatH4
namespace Go.Proofs.YtdjehopcpjkgjaaGreat
open Go.RowKit

theorem OwnS.mkHi {lo hi' : Nat} {w w' : World} {base hi : Nat} {v : Value} {L : List (List Int)} (h : OwnS w base hi v L) (hm : Mk lo hi' w w') (hb : hi' ≤ base) : OwnS w' base hi v L := by
  obtain ⟨ds, e, h1, h2, h3⟩ := h
  exact ⟨ds, e, hm.ownHi h1 hb, fun d hd => ⟨hm.ownHi (h2 d hd).1 hb, (h2 d hd).2⟩, h3⟩
theorem ftL_len (m : Mdl) (tr : List Int) : (ftL m tr).length ≤ 4001 := by
  unfold ftL
  split
  · split
    · simp
    · split
      · simp
      · split
        · rw [trL_len]; omega
        · simp
  · simp
theorem ftL_each (m : Mdl) (tr : List Int) : ∀ l ∈ ftL m tr, l.length = m.st.length := by
  intro l hl
  unfold ftL at hl
  split at hl
  · split at hl
    · simp at hl
    · split at hl
      · simp at hl
      · split at hl
        · unfold trL at hl
          obtain ⟨k, _, rfl⟩ := List.mem_map.1 hl
          exact trS_len m tr k
        · simp at hl
  · simp at hl
theorem ft_big {m : Mdl} {tr : List Int} {l : List Int} (h : l ∈ ftL m tr) : l.length ≤ 16 := by
  have h1 := ftL_each m tr l h
  unfold ftL at h
  split at h
  · rename_i hmd
    have := vs_pos hmd (st_of hmd)
    omega
  · simp at h
theorem mkN_bd : ∀ (L : List (List Int)), (∀ l ∈ L, l.length ≤ 16) → mkN L ≤ L.length * 16
  | [], _ => by simp [mkN]
  | a :: L, h => by
    have h1 := h a (List.mem_cons_self ..)
    have h2 := mkN_bd L fun l hl => h l (List.mem_cons_of_mem _ hl)
    simp only [mkN, List.length_cons]
    omega
end Go.Proofs.YtdjehopcpjkgjaaGreat
