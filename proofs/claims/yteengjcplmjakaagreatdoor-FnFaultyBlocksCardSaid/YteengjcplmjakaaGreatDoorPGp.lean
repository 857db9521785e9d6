/- The rules that a sound program keeps, as the program counts them: plain facts. No condition. -/
import Derived.Test.YteengjcplmjakaaGreatDoorPGa
namespace Go.Proofs.YteengjcplmjakaaGreatDoor
open Go.RowKit

theorem memS_app (a b : List ByteArray) (s : ByteArray) : memS (a ++ b) s = (memS a s || memS b s) := by unfold memS; rw [List.any_append]
theorem tw_nodup {l : List ByteArray} (h : twB l = false) : l.Nodup := by
  rw [List.nodup_iff_pairwise_ne, List.pairwise_iff_getElem]
  intro i j hi hj hij e
  unfold twB twK at h
  rw [List.any_eq_false] at h
  have h1 := h j (List.mem_range.2 hj)
  have hz : l[j]? = some l[j] := List.getElem?_eq_getElem hj
  rw [List.getD_eq_getElem?_getD, hz] at h1
  apply h1
  show memS (l.take j) l[j] = true
  rw [memS_iff, ← e]
  exact List.mem_of_getElem? (show (l.take j)[i]? = some l[i] by rw [List.getElem?_take, if_pos hij]; exact List.getElem?_eq_getElem hi)
theorem nodup_le : ∀ {l1 l2 : List ByteArray}, l1.Nodup → (∀ x ∈ l1, x ∈ l2) → l1.length ≤ l2.length
  | [], l2, _, _ => by simp
  | a :: t, l2, hn, hs => by
    rw [List.nodup_cons] at hn
    obtain ⟨s, r, e⟩ := List.append_of_mem (hs a (List.mem_cons_self ..))
    have ih := nodup_le (l2 := s ++ r) hn.2 (fun x hx => by
      have h1 := hs x (List.mem_cons_of_mem _ hx)
      rw [e] at h1
      rcases List.mem_append.1 h1 with h | h
      · exact List.mem_append_left _ h
      · rcases List.mem_cons.1 h with h | h
        · subst h; exact absurd hx hn.1
        · exact List.mem_append_right _ h)
    rw [e]
    simp only [List.length_append, List.length_cons] at ih ⊢
    omega
theorem five {made tg : List ByteArray} (h1 : made.Nodup) (h2 : tg.Nodup) (h3 : ∀ x ∈ tg, x ∈ made) : decide (tg.length < made.length) = made.any fun s => !memS tg s := by
  cases h : made.any fun s => !memS tg s with
  | false =>
    rw [List.any_eq_false] at h
    have := nodup_le h1 (fun x hx => by
      have h4 := h x hx
      cases h5 : memS tg x with
      | true => exact memS_iff.1 h5
      | false => rw [h5] at h4; exact absurd rfl h4)
    exact decide_eq_false (by omega)
  | true =>
    rw [List.any_eq_true] at h
    obtain ⟨x, hx, h4⟩ := h
    have hno : ¬ x ∈ tg := fun hm => by rw [memS_iff.2 hm] at h4; cases h4
    have := nodup_le (l1 := x :: tg) (l2 := made) (List.nodup_cons.2 ⟨hno, h2⟩) (fun y hy => by
      rcases List.mem_cons.1 hy with rfl | hy
      · exact hx
      · exact h3 y hy)
    rw [List.length_cons] at this
    exact decide_eq_true (by omega)
theorem flt_impl (p : Prg) : fltB p = (!twB (p.ins ++ (p.vs ++ p.os)) && ((p.gd.toList.isEmpty || (memS p.ins p.gd || memS p.vs p.gd)) && ((!(tgs p).any fun s => !memS (p.vs ++ p.os) s) && (!twB (tgs p) && ((!(p.vs ++ p.os).any fun s => !memS (tgs p) s) && !p.ls.any (unL p.ins p.vs)))))) := by
  unfold fltB
  rw [List.append_assoc]
  have e3 : p.ls.all (tgB p.vs p.os) = (!(tgs p).any fun s => !memS (p.vs ++ p.os) s) := by
    rw [any_not]
    unfold tgs
    rw [List.all_map]
    congr 1
    funext l
    show tgB p.vs p.os l = memS (p.vs ++ p.os) l.tg
    rw [memS_app]
    rfl
  rw [e3]
  have hl : (tgs p).length = p.ls.length := by unfold tgs; rw [List.length_map]
  have hm : (p.vs ++ p.os).length = p.vs.length + p.os.length := List.length_append
  cases h1 : twB (p.ins ++ (p.vs ++ p.os)) with
  | true => rfl
  | false =>
    cases h3 : (tgs p).any fun s => !memS (p.vs ++ p.os) s with
    | true => simp
    | false =>
      cases h4 : twB (tgs p) with
      | true => simp
      | false =>
        have h5 := five (made := p.vs ++ p.os) (tg := tgs p) ((List.nodup_append.1 (tw_nodup h1)).2.1) (tw_nodup h4) (fun x hx => by
          rw [List.any_eq_false] at h3
          have h6 := h3 x hx
          cases h7 : memS (p.vs ++ p.os) x with
          | true => exact memS_iff.1 h7
          | false => rw [h7] at h6; exact absurd rfl h6)
        rw [hl, hm] at h5
        rw [← h5]
end Go.Proofs.YteengjcplmjakaaGreatDoor
