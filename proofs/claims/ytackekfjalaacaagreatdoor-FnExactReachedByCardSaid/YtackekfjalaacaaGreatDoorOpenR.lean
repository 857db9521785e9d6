/- How rows of structs read as arguments of the laws. No condition. -/
import Derived.Test.YtackekfjalaacaaGreatDoorOpenD
namespace Go.Proofs.YtackekfjalaacaaGreatDoor
open Go.ChangeShapes Go.WideShapes Go.ChangeAt Go.RowKit Go.Deep

theorem flat_get {α : Type} {cells : α → List Value} {C : Nat} (hlen : ∀ s, (cells s).length = C) {s : α} {i : Nat} (hi : i < C) : ∀ {l : List α} {k : Nat}, l[k]? = some s → (l.flatMap cells)[k * C + i]? = (cells s)[i]?
  | [], k, h => by simp at h
  | t :: l, 0, h => by
    simp only [List.getElem?_cons_zero, Option.some.injEq] at h
    subst h
    rw [List.flatMap_cons, Nat.zero_mul, Nat.zero_add, List.getElem?_append_left (by rw [hlen]; exact hi)]
  | t :: l, k + 1, h => by
    simp only [List.getElem?_cons_succ] at h
    rw [List.flatMap_cons, List.getElem?_append_right (by rw [hlen, Nat.succ_mul]; omega), ← flat_get hlen hi h]
    congr 1
    rw [hlen, Nat.succ_mul]; omega
theorem flat_length {α : Type} {cells : α → List Value} {C : Nat} (hlen : ∀ s, (cells s).length = C) (l : List α) : (l.flatMap cells).length = l.length * C := by
  induction l with
  | nil => simp
  | cons s t ih => rw [List.flatMap_cons, List.length_append, ih, hlen, List.length_cons, Nat.succ_mul]; omega
section
variable {H : Type} {enc : TypeId × Value → H} {W : World}
theorem open_rows {α : Type} {t e : TypeId} {C fuel : Nat} {c0 : Value} {x : DataW H × List MemPlace} (cells : α → List Value) (Q : α → Prop) (ht : Tryz.prog.underlying t = some (.slice e)) (hC : Tryz.prog.cellsOf e = C) (h0 : 0 < C) (hlen : ∀ s, (cells s).length = C)
    (hel : ∀ n cs y, DataW.trod enc Tryz.prog W 0 (fun _ => true) true n e cs = some y → ∃ s, cs = cells s ∧ Q s)
    (h : DataW.trod enc Tryz.prog W 0 (fun _ => true) true fuel t [c0] = some x) :
    ∃ (A : Option Addr) (n c : Nat) (l : List α), c0 = .slice A n c ∧ n = l.length ∧ n ≤ 9223372036854775807 ∧ Rd W A (l.flatMap cells) ∧ ∀ s ∈ l, Q s := by
  rcases open_slice ht h with ⟨hcs, _⟩ | ⟨a, n, c, mm, k, D, Pl, hcs, _, hlc, hm, hmm, _, hi⟩
  · simp at hcs
    subst hcs
    exact ⟨none, 0, 0, [], rfl, rfl, by omega, .inl rfl, by simp⟩
  · simp at hcs
    subst hcs
    simp only [if_true] at hmm
    unfold maxLen at hm
    obtain ⟨l, hll, hP⟩ := choose_list (P := fun i (s : α) => Q s ∧ ∀ j u, (cells s)[j]? = some u → W.cell? ((a.add (i * C)).add j) = some u) n fun i hin => by
      obtain ⟨cs', hc1, ht⟩ := hi i (by omega)
      obtain ⟨s, rfl, hw⟩ := hel _ _ _ ht
      obtain ⟨_, hlc', hat⟩ := World.cells?_some hc1
      rw [hC] at hlc' hat
      exact ⟨s, hw, fun j u hu => by
        rw [hat j (by have := (List.getElem?_eq_some_iff.1 hu).1; omega)]
        exact hu⟩
    refine ⟨_, n, _, l, rfl, hll.symm, by omega, rd_of fun j u hu => ?_, fun s hs => ?_⟩
    · have hj : j < l.length * C := by
        have := (List.getElem?_eq_some_iff.1 hu).1
        rwa [flat_length hlen] at this
      have hd : j / C < l.length := (Nat.div_lt_iff_lt_mul h0).2 hj
      obtain ⟨s, hs⟩ : ∃ s, l[j / C]? = some s := ⟨_, List.getElem?_eq_getElem hd⟩
      have e := flat_get (cells := cells) hlen (i := j % C) (Nat.mod_lt _ h0) hs
      have hjj : j / C * C + j % C = j := by rw [Nat.mul_comm]; exact Nat.div_add_mod j C
      rw [hjj, hu] at e
      have := (hP _ _ hs).2 (j % C) u e.symm
      rw [← this]
      rw [Go.Deep.add_add, hjj]
    · obtain ⟨i, hi', rfl⟩ := List.getElem_of_mem hs
      exact (hP i _ (List.getElem?_eq_getElem hi')).1
end
end Go.Proofs.YtackekfjalaacaaGreatDoor
