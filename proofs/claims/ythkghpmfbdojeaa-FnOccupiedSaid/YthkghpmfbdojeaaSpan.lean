/- Contracts of blockSpan, BlockStart, BlockLength (program and reference). -/
import Derived.Test.YthkghpmfbdojeaaPosW
namespace Go.Proofs.Ythkghpmfbdojeaa
open Go.RowKit

theorem LB.drew {w : World} {A : Option Addr} {n : Nat} {l : List Seg} {A' : Option Addr} {c' n' : Nat} {fs : List Int} (h : LB w A n l A' c' n' fs) : LB w.drew A n l A' c' n' fs :=
  ⟨h.hn, h.hs, h.hr, h.hn', h.hs', h.hc', h.hm', h.hr'⟩
section
variable {A : Option Addr} {c n : Nat} {l : List Seg} {A' : Option Addr} {c' n' : Nat} {fs : List Int} {w : World}
def fstN (fs : List Int) (q : Nat) : Nat := (fs.getD q 0).toNat
def endN (l : List Seg) (fs : List Int) (q : Nat) : Nat := (endB l fs q).toNat
theorem fst_at {l : List Seg} {fs : List Int} (h : okB l fs = true) {q : Nat} (hq : q < fs.length) : fs[q]? = some (fstN fs q : Int) ∧ fstN fs q < l.length := by
  have hz : fs[q]? = some fs[q] := List.getElem?_eq_getElem hq
  have hr := blkB_ris h
  have h1 := hr.lo _ _ hz
  have h2 := hr.hi _ _ hz
  have e : fs.getD q 0 = fs[q] := by simp [hz]
  unfold fstN
  rw [e]
  exact ⟨by rw [hz]; congr 1; omega, by omega⟩
theorem end_at {l : List Seg} {fs : List Int} (h : okB l fs = true) (q : Nat) : endB l fs q = (endN l fs q : Int) ∧ 1 ≤ endN l fs q ∧ endN l fs q ≤ l.length := by
  have := endB_bd h q
  unfold endN
  omega
theorem fst_end {l : List Seg} {fs : List Int} (h : okB l fs = true) {q : Nat} (hq : q < fs.length) : fstN fs q < endN l fs q := by
  have h1 := fst_at h hq
  have h2 := end_at h q
  rcases Nat.lt_or_ge (q + 1) fs.length with h3 | h3
  · have h4 := fst_at h h3
    have := (blkB_ris h).up q _ _ h1.1 h4.1
    have e : endB l fs q = (fstN fs (q + 1) : Int) := by
      unfold endB
      rw [if_pos h3]
      simp [h4.1]
    omega
  · have e : endB l fs q = l.length := by
      unfold endB
      rw [if_neg (by omega)]
    omega
set_option maxRecDepth 100000 in
theorem c_blockSpan (c q : Nat) (hok : okB l fs = true) (hq : q < n') (h : LB w A n l A' c' n' fs) :
    Calls Try.prog 50 #[.agg #[.slice A n c], .slice A' n' c', .int .i64 q] w fun e w' => e = .returned (.tuple #[.int .i64 (pos l (fstN fs q)), .int .i64 (pos l (endN l fs q) - pos l (fstN fs q))]) ∧ Below w.heap.size w w' := by
  have HN := Lib.hid h.hn
  have hs' := h.hs'
  have hl := okB_lay hok
  have hf := fst_at hok (q := q) (by have := h.hn'; omega)
  have he := end_at hok q
  have hp0 := pos_small hl (k := fstN fs q) (by omega)
  have hp1 := pos_small hl (k := endN l fs q) (by omega)
  have hn24 := hl.hi
  obtain ⟨b, off, rfl, hbl, g0⟩ := h.hr'.int hf.1
  have HE := Lib.hid he.1
  have hfl : fstN fs q < n + 1 := by have := h.hn; omega
  have hel : endN l fs q < n + 1 := by have := h.hn; omega
  generalize fstN fs q = f at *
  generalize endN l fs q = e at *
  have hn30 : n ≤ 24 := by have := h.hn; omega
  clear hf he hn24
  go_enter Try.func50, Try.ntmps50
  go_wp2_with (fail)
  refine (c_starts _ _ _ l _ HN.out h.hs (h.hr.alloc _) hl).mono ?_
  rintro e1 w1 ⟨A1, c1, rfl, ho, hb⟩
  rw [stL_length] at ho ⊢
  have k0 : w1.cell? ⟨w.heap.size, 0, none⟩ = some (.slice A n c) := cell_later hb (by go_simp)
  have g1 : w1.cell? ⟨b, off + q, none⟩ = some (.int .i64 f) := cell_later hb (by go_simp)
  have B : Below w.heap.size w w1 := below_chain (by (repeat (first | exact Below.refl _ _ | assumption | refine below_alloc ?_ _ | refine below_drewN ?_ _ | refine below_set ?_ _ (by simp; try omega) | refine Below.drew ?_))) hb
  obtain ⟨gs, cap, hv⟩ := own_form ho
  simp only [Value.slice.injEq, true_and] at hv
  obtain ⟨rfl, rfl⟩ := hv
  have gf : w1.cell? ⟨gs, f, none⟩ = some (.int .i64 (pos l f)) := by
    rw [ho.cellAt f (by omega)]
    simp [ints, stL_get hfl]
  have ge : w1.cell? ⟨gs, e, none⟩ = some (.int .i64 (pos l e)) := by
    rw [ho.cellAt e (by omega)]
    simp [ints, stL_get hel]
  have h1 := Lib.hid (h.below B)
  have HB := Lib.hid B
  clear ho hb B hl h
  go_wp2_with (fail)
  have hi0 : (0 : Int) ≤ (e : Int) := by omega
  have hi1 : (e : Int) < (n : Int) + 1 := by omega
  have hw : IntKind.i64.wrap (pos l e - pos l f) = pos l e - pos l f := IntWalk.i64_in _ (by omega)
  go_region_held3 (fun w' => w'.cell? ⟨w.heap.size, 0, none⟩ = some (.slice A n c) ∧ w'.cell? ⟨gs, e, none⟩ = some (.int .i64 (pos l e))) (first | exact ⟨k0, ge⟩ | exact ⟨k2, ge2⟩)
    (first
      | (go_at_call 70
         refine (c_blockEnd c q hq (by exact h1.out.drew)).mono ?_
         rintro e2 w2 ⟨rfl, hb2⟩
         rw [HE.out]
         have k2 : w2.cell? ⟨w.heap.size, 0, none⟩ = some (.slice A n c) := cell_later hb2 (by exact k0)
         have ge2 : w2.cell? ⟨gs, e, none⟩ = some (.int .i64 (pos l e)) := cell_later hb2 (by exact ge)
         have HB2 := Lib.hid (below_chain (by exact HB.out.drew) hb2)
         clear hb2))
  go_wp2_with (fail)
  go_ret2
  exact ⟨rfl, HB2.out⟩
/-- What BlockStart and BlockLength return. -/
def startR (l : List Seg) (fs : List Int) (b : Int) : Int := if codeB l fs b = 0 then pos l (fstN fs b.toNat) else 0
def lengthR (l : List Seg) (fs : List Int) (b : Int) : Int := if codeB l fs b = 0 then pos l (endN l fs b.toNat) - pos l (fstN fs b.toNat) else 0
end
end Go.Proofs.Ythkghpmfbdojeaa
