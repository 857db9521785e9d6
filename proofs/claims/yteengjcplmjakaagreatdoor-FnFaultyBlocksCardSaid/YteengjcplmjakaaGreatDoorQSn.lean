/- A sound program's parts. No condition. -/
import Derived.Test.YteengjcplmjakaaGreatDoorPGb
namespace Go.Proofs.YteengjcplmjakaaGreatDoor
open Go.RowKit

/-- A program in its box. -/
def PB (w : World) (b : Nat) (p : Prg) (a1 a2 a3 a4 : Option Addr) (c1 c2 c3 c4 : Nat) : Prop := w.cell? ⟨b, 0, none⟩ = some (.string p.nm) ∧ w.cell? ⟨b, 1, none⟩ = some (.slice a1 p.ins.length c1) ∧ w.cell? ⟨b, 2, none⟩ = some (.slice a2 p.vs.length c2) ∧ w.cell? ⟨b, 3, none⟩ = some (.slice a3 p.os.length c3) ∧ w.cell? ⟨b, 4, none⟩ = some (.string p.gd) ∧ w.cell? ⟨b, 5, none⟩ = some (.slice a4 p.ls.length c4)
theorem PB.below {w w' : World} {b : Nat} {p : Prg} {a1 a2 a3 a4 : Option Addr} {c1 c2 c3 c4 : Nat} (h : PB w b p a1 a2 a3 a4 c1 c2 c3 c4) (hb : Below w.heap.size w w') : PB w' b p a1 a2 a3 a4 c1 c2 c3 c4 :=
  ⟨cell_later hb h.1, cell_later hb h.2.1, cell_later hb h.2.2.1, cell_later hb h.2.2.2.1, cell_later hb h.2.2.2.2.1, cell_later hb h.2.2.2.2.2⟩
/-- A sound program's parts. -/
structure Snd (p : Prg) : Prop where
  b : PgB p
  k : ∀ l ∈ p.ls, ∀ t ∈ l.ts, trmT t.k t.nm t.n = true
  r : ∀ l ∈ p.ls, ∀ t ∈ l.ts, t.k = 1 → t.nm ∈ p.ins ∨ t.nm ∈ p.vs
  g : p.gd.toList.isEmpty = true ∨ p.gd ∈ p.ins ∨ p.gd ∈ p.vs
  t : ∀ l ∈ p.ls, l.tg ∈ p.vs ∨ l.tg ∈ p.os
theorem run_trm' : ∀ {l : List Tm} {n : Int}, runH l n ≠ none → ∀ t ∈ l, trmT t.k t.nm t.n = true
  | [], _, _, t, ht => absurd ht (by simp)
  | x :: l, n, h, t, ht => by
    have e : runH (x :: l) n = if trmT x.k x.nm x.n = true ∧ argI x.k ≤ n then runH l (n - argI x.k + 1) else none := rfl
    rw [e] at h
    split at h
    · rename_i hx
      rcases List.mem_cons.1 ht with rfl | ht
      · exact hx.1
      · exact run_trm' h t ht
    · exact absurd rfl h
theorem snd_of {p : Prg} (h : (wrB p && fltB p) = true) : Snd p := by
  rw [Bool.and_eq_true] at h
  obtain ⟨hw, hf⟩ := h
  refine ⟨wr_bd hw, ?_, ?_, ?_, ?_⟩
  · intro l hl t ht
    unfold wrB at hw
    simp only [Bool.and_eq_true] at hw
    have h1 := List.all_eq_true.1 hw.2.2.2.2.2.1 l hl
    unfold linB exB at h1
    simp only [Bool.and_eq_true] at h1
    have h0 := h1.2.1
    unfold exF at h0
    refine run_trm' (n := 0) ?_ t ht
    intro e
    rw [e] at h0
    cases h0
  · intro l hl t ht hk
    unfold fltB at hf
    simp only [Bool.and_eq_true, Bool.not_eq_true', List.any_eq_false] at hf
    have h1 := hf.2.2.2.2.2 l hl
    unfold unL at h1
    rw [List.any_eq_true] at h1
    have h2 : ¬ unT p.ins p.vs t = true := fun e => h1 ⟨t, ht, e⟩
    unfold unT at h2
    rw [hk] at h2
    simp only [beq_self_eq_true, Bool.true_and, Bool.not_eq_true', Bool.not_eq_false, Bool.or_eq_true] at h2
    exact h2.imp memS_iff.1 memS_iff.1
  · unfold fltB at hf
    simp only [Bool.and_eq_true, Bool.or_eq_true] at hf
    exact hf.2.1.imp id (fun h => h.imp memS_iff.1 memS_iff.1)
  · intro l hl
    unfold fltB at hf
    simp only [Bool.and_eq_true] at hf
    have h1 := List.all_eq_true.1 hf.2.2.1 l hl
    unfold tgB at h1
    rw [Bool.or_eq_true] at h1
    exact h1.imp memS_iff.1 memS_iff.1
theorem ix_mem {l : List ByteArray} {s : ByteArray} (h : s ∈ l) : 0 ≤ ixS l s := by
  have := ixS_nn s l
  rw [memS_iff.2 h] at this
  exact of_decide_eq_true this
theorem trm_k {k n : Int} {nm : ByteArray} (h : trmT k nm n = true) : 1 ≤ k ∧ k ≤ 12 := by
  unfold trmT inB at h
  rw [Bool.and_eq_true] at h
  exact of_decide_eq_true h.1
end Go.Proofs.YteengjcplmjakaaGreatDoor
