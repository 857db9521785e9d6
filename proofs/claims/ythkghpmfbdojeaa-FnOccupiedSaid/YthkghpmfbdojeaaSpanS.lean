/- Contracts of the reference's starts, lengths, BlockStart, BlockLength. -/
import Derived.Test.YthkghpmfbdojeaaSpan
namespace Go.Proofs.Ythkghpmfbdojeaa
open Go.RowKit

set_option maxRecDepth 100000 in
theorem c_l03Starts (A : Option Addr) (c n : Nat) (l : List Seg) (w : World) (hn : n = l.length) (hs : n ≤ 1048576) (hr : Rd w A (segCells l)) (hl : Lay l) :
    Calls Try.prog 44 #[.agg #[.slice A n c]] w (RetInts (stL l n) w) := by
  have HN := Lib.hid hn
  have hn24 : n ≤ 24 := by have := hl.hi; omega
  clear hn
  go_enter Try.func44, Try.ntmps44
  go_wp2
  have hown : ((w.alloc (.cells #[.slice A n c] 26)).alloc (.cells #[] 2)).ownsRow (w.heap.size + 1) 2 1 (.slice (some ⟨w.heap.size + 1, 0, none⟩) 0 0) 0 (ints (stL l 0)) := by
    have h := World.ownsRow_lit (e := 2) (size := 1) (base := w.heap.size + 1) (w.alloc (.cells #[.slice A n c] 26)) #[] 0 (by simp) (by decide) (by simp)
    have e : ints (stL l 0) = [] := by simp [stL, ints]
    rw [e]
    simpa using h
  go_loopw [3, 4, 5] (fun v t i wr => ∃ k : Nat, k ≤ n ∧ i = .int .i64 k ∧ t = .int .i64 (pos l k) ∧ wr.ownsRow (w.heap.size + 1) 2 1 v k (ints (stL l k)) ∧ wr.cell? ⟨w.heap.size, 0, none⟩ = some (.slice A n c) ∧ Below (w.heap.size + 1) (w.alloc (.cells #[.slice A n c] 26)) wr) (fun _ _ i _ => n - (intOf i).toNat)
  case atStart => exact ⟨0, Nat.zero_le _, rfl, by rw [pos_zero], hown, by go_simp, (Below.refl _ _).alloc (by simp) _⟩
  case round =>
    obtain ⟨k, hk, rfl, rfl, ho, hbox, hb⟩ := hrel
    clear hown
    by_cases hlt : k < n
    · obtain ⟨s, hz⟩ : ∃ z, l[k]? = some z := ⟨_, List.getElem?_eq_getElem (by have := HN.out; omega)⟩
      have hsl := segOk_l (hl.ok _ (List.mem_of_getElem? hz))
      have hpk := pos_small hl (k := k) (by have := HN.out; omega)
      have HPS := Lib.hid (pos_succ hz)
      have hb0 : Below w.heap.size w wr := ((Below.refl _ _).alloc (Nat.le_refl _) _).trans (hb.mono (by omega))
      obtain ⟨b, off, rfl, hbl, g0, g1, g2, g3, g4, g5, g6⟩ := (hr.below hb0).seg hz
      have HO := Lib.hid ho
      have HB := Lib.hid hb
      have hsz := hb.size
      simp at hsz
      have hsz2 : w.heap.size < wr.heap.size := by omega
      have hge : ∀ q, u3.ownBlock = some q → w.heap.size + 1 ≤ q := fun q hq => (ho.lt q hq).1
      have hbb : b < w.heap.size := by
        rcases hr with h | ⟨b', o', e', hlt', _⟩
        · have := segCells_at hz
          rw [h] at this
          simp at this
        · simp only [Option.some.injEq, Addr.mk.injEq, and_true] at e'
          omega
      have HGE := Lib.hid hge
      clear hz ho hb hb0 hr hl hge
      go_wp2_with (first
        | (at_builtin
           refine wpList_push_int _ rfl (.tmp 14) (.tmp 16) rfl (w.heap.size + 1) _ k (stL l k) (pos l k) wr.heap.size 1 rfl (HO.out.alloc _) rfl (by go_simp) (by omega) (by simp; omega) ?_
           intro v1 w1 hown1 hgrow hold hat
           have HO1 := Lib.hid hown1
           have e1 : w1.cell? ⟨b, off + k * 7 + 1, none⟩ = some (.int .i64 s.l) := (hgrow.cell_far ⟨b, off + k * 7 + 1, none⟩ (by simp; omega) (by intro h; have := HGE.out b h.symm; omega)).trans (by go_simp)
           have e2 : w1.cell? ⟨w.heap.size, 0, none⟩ = some (.slice (some ⟨b, off, none⟩) n c) := (hgrow.cell_far ⟨w.heap.size, 0, none⟩ (by simp; omega) (by intro h; have := HGE.out w.heap.size h.symm; omega)).trans (by go_simp)
           have HB1 := Lib.hid ((HB.out.alloc (by omega) _).grown hgrow (by simp; omega) HGE.out)
           clear hown1 hgrow hold hat)
        )
      go_roundw
      case rel => exact ⟨k + 1, by omega, by go_num, by rw [HPS.out], by rw [stL_snoc]; exact HO1.out, e2, HB1.out⟩
      case measure => simp [intOf]; omega
    · have : k = n := by omega
      subst this
      have HO := Lib.hid ho
      have HB := Lib.hid hb
      obtain ⟨A1, c1, rfl⟩ : ∃ A1 c1, u3 = .slice A1 k c1 := by
        rcases ho.2 with ⟨h1, h2⟩ | ⟨g, cap, cur, h1, _⟩
        · exact ⟨none, 0, by rw [h1, h2]⟩
        · exact ⟨_, _, h1⟩
      clear ho hb
      go_wp2
      go_ret
      refine ⟨A1, c1, ?_, ?_, ((Below.refl _ _).alloc (Nat.le_refl _) _).trans (HB.out.mono (by omega))⟩
      · rw [stL_length]; rfl
      · rw [stL_length]; exact own_mono HO.out (by omega)

section
variable {A : Option Addr} {c n : Nat} {l : List Seg} {A' : Option Addr} {c' n' : Nat} {fs : List Int} {w : World}
end
end Go.Proofs.Ythkghpmfbdojeaa
