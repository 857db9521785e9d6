/- Contracts of the reference's starts, lengths, BlockStart, BlockLength. -/
import Derived.Test.YthhedpdldjmfpaaSpan
namespace Go.Proofs.Ythhedpdldjmfpaa
open Go.RowKit

set_option maxRecDepth 100000 in
theorem c_l03Starts (A : Option Addr) (c n : Nat) (l : List Seg) (w : World) (hn : n = l.length) (hs : n ≤ 1048576) (hr : Rd w A (segCells l)) (hl : Lay l) :
    Calls Try.prog 96 #[.agg #[.slice A n c]] w (RetInts (stL l n) w) := by
  have HN := Lib.hid hn
  have hn24 : n ≤ 24 := by have := hl.hi; omega
  clear hn
  go_enter Try.func96, Try.ntmps96
  go_wp2
  have hown : ((w.alloc (.cells #[.slice A n c] 40)).alloc (.cells #[] 2)).ownsRow (w.heap.size + 1) 2 1 (.slice (some ⟨w.heap.size + 1, 0, none⟩) 0 0) 0 (ints (stL l 0)) := by
    have h := World.ownsRow_lit (e := 2) (size := 1) (base := w.heap.size + 1) (w.alloc (.cells #[.slice A n c] 40)) #[] 0 (by simp) (by decide) (by simp)
    have e : ints (stL l 0) = [] := by simp [stL, ints]
    rw [e]
    simpa using h
  go_loopw [3, 4, 5] (fun v t i wr => ∃ k : Nat, k ≤ n ∧ i = .int .i64 k ∧ t = .int .i64 (pos l k) ∧ wr.ownsRow (w.heap.size + 1) 2 1 v k (ints (stL l k)) ∧ wr.cell? ⟨w.heap.size, 0, none⟩ = some (.slice A n c) ∧ Below (w.heap.size + 1) (w.alloc (.cells #[.slice A n c] 40)) wr) (fun _ _ i _ => n - (intOf i).toNat)
  case atStart => exact ⟨0, Nat.zero_le _, rfl, by rw [pos_zero], hown, by go_simp, (Below.refl _ _).alloc (by simp) _⟩
  case round =>
    obtain ⟨k, hk, rfl, rfl, ho, hbox, hb⟩ := hrel
    clear hown
    by_cases hlt : k < n
    · obtain ⟨s, hz⟩ : ∃ z, l[k]? = some z := ⟨_, List.getElem?_eq_getElem (by have := HN.out; omega)⟩
      have hsl := segOk_l (hl.ok _ (List.mem_of_getElem? hz))
      have hpk := pos_small hl (k := k) (by have := HN.out; omega)
      have HPS := Lib.hid (pos_succ hz)
      have hb0 : Below w.heap.size w wr := ((Below.refl _ _).alloc (Nat.le_refl _) _).trans (hb.mono (by omega))
      obtain ⟨b, off, rfl, hbl, g0, g1, g2, g3, g4, g5, g6⟩ := (hr.below hb0).seg hz
      have HO := Lib.hid ho
      have HB := Lib.hid hb
      have hsz := hb.size
      simp at hsz
      have hsz2 : w.heap.size < wr.heap.size := by omega
      have hge : ∀ q, u3.ownBlock = some q → w.heap.size + 1 ≤ q := fun q hq => (ho.lt q hq).1
      have hbb : b < w.heap.size := by
        rcases hr with h | ⟨b', o', e', hlt', _⟩
        · have := segCells_at hz
          rw [h] at this
          simp at this
        · simp only [Option.some.injEq, Addr.mk.injEq, and_true] at e'
          omega
      have HGE := Lib.hid hge
      clear hz ho hb hb0 hr hl hge
      go_wp2_with (first
        | (at_builtin
           refine wpList_push_int _ rfl (.tmp 14) (.tmp 16) rfl (w.heap.size + 1) _ k (stL l k) (pos l k) wr.heap.size 1 rfl (HO.out.alloc _) rfl (by go_simp) (by omega) (by simp; omega) ?_
           intro v1 w1 hown1 hgrow hold hat
           have HO1 := Lib.hid hown1
           have e1 : w1.cell? ⟨b, off + k * 7 + 1, none⟩ = some (.int .i64 s.l) := (hgrow.cell_far ⟨b, off + k * 7 + 1, none⟩ (by simp; omega) (by intro h; have := HGE.out b h.symm; omega)).trans (by go_simp)
           have e2 : w1.cell? ⟨w.heap.size, 0, none⟩ = some (.slice (some ⟨b, off, none⟩) n c) := (hgrow.cell_far ⟨w.heap.size, 0, none⟩ (by simp; omega) (by intro h; have := HGE.out w.heap.size h.symm; omega)).trans (by go_simp)
           have HB1 := Lib.hid ((HB.out.alloc (by omega) _).grown hgrow (by simp; omega) HGE.out)
           clear hown1 hgrow hold hat)
        )
      go_roundw
      case rel => exact ⟨k + 1, by omega, by go_num, by rw [HPS.out], by rw [stL_snoc]; exact HO1.out, e2, HB1.out⟩
      case measure => simp [intOf]; omega
    · have : k = n := by omega
      subst this
      have HO := Lib.hid ho
      have HB := Lib.hid hb
      obtain ⟨A1, c1, rfl⟩ : ∃ A1 c1, u3 = .slice A1 k c1 := by
        rcases ho.2 with ⟨h1, h2⟩ | ⟨g, cap, cur, h1, _⟩
        · exact ⟨none, 0, by rw [h1, h2]⟩
        · exact ⟨_, _, h1⟩
      clear ho hb
      go_wp2
      go_ret
      refine ⟨A1, c1, ?_, ?_, ((Below.refl _ _).alloc (Nat.le_refl _) _).trans (HB.out.mono (by omega))⟩
      · rw [stL_length]; rfl
      · rw [stL_length]; exact own_mono HO.out (by omega)

section
variable {A : Option Addr} {c n : Nat} {l : List Seg} {A' : Option Addr} {c' n' : Nat} {fs : List Int} {w : World}
set_option maxRecDepth 100000 in
theorem c_l04Length (c q : Nat) (hok : okB l fs = true) (hq : q < n') (h : LB w A n l A' c' n' fs) :
    Calls Try.prog 97 #[.agg #[.slice A n c], .slice A' n' c', .int .i64 q] w fun e w' => e = .returned (.int .i64 (pos l (endN l fs q) - pos l (fstN fs q))) ∧ Below w.heap.size w w' := by
  have HN := Lib.hid h.hn
  have hl := okB_lay hok
  have hf := fst_at hok (q := q) (by have := h.hn'; omega)
  have he := end_at hok q
  have hfe := fst_end hok (q := q) (by have := h.hn'; omega)
  obtain ⟨b, off, rfl, hbl, g0⟩ := h.hr'.int hf.1
  have HE := Lib.hid he.1
  have hel : endN l fs q ≤ n := by have := h.hn; omega
  generalize fstN fs q = f at *
  generalize endN l fs q = e at *
  have hn30 : n ≤ 24 := by have := h.hn; have := hl.hi; omega
  have hpf := pos_small hl (k := f) (by omega)
  clear hf he
  go_enter Try.func97, Try.ntmps97
  go_wp2
  go_loopw [7, 8] (fun t i wr => ∃ k : Nat, f ≤ k ∧ k ≤ e ∧ i = .int .i64 k ∧ t = .int .i64 (pos l k - pos l f) ∧ wr.cell? ⟨w.heap.size, 0, none⟩ = some (.slice A n c) ∧ Below w.heap.size w wr) (fun _ i _ => e - (intOf i).toNat)
  case atStart => exact ⟨f, Nat.le_refl _, by omega, rfl, by simp, by go_simp, by (repeat (first | exact Below.refl _ _ | assumption | refine below_alloc ?_ _ | refine below_drewN ?_ _ | refine below_set ?_ _ (by simp; try omega) | refine Below.drew ?_))⟩
  case round =>
    obtain ⟨k, hk0, hk, rfl, rfl, hbox, hb⟩ := hrel
    have h1 := Lib.hid (h.below hb)
    have hpk := pos_small hl (k := k) (by have := HN.out; omega)
    have hmo := pos_le hl hk0 (by have := HN.out; omega)
    by_cases hlt : k < e
    · obtain ⟨s, hz⟩ : ∃ z, l[k]? = some z := ⟨_, List.getElem?_eq_getElem (by have := HN.out; omega)⟩
      have hsl := segOk_l (hl.ok _ (List.mem_of_getElem? hz))
      have HPS := Lib.hid (pos_succ hz)
      obtain ⟨b1, off1, rfl, _, g0', g1, g2, g3, g4, g5, g6⟩ := (h1.out.hr).seg hz
      have HB := Lib.hid hb
      have HL := Lib.hid hl
      have hkn : k < n := by omega
      clear hz hb hl h g0
      go_wp2_with (first
        | (go_at_call 84
           refine (c_l04End c q hq h1.out).mono ?_
           rintro e2 w2 ⟨rfl, hb2⟩
           rw [HE.out]
           have e1 : w2.cell? ⟨b1, off1 + k * 7 + 1, none⟩ = some (.int .i64 s.l) := cell_later hb2 g1
           have e3 : w2.cell? ⟨w.heap.size, 0, none⟩ = some (.slice (some ⟨b1, off1, none⟩) n c) := cell_later hb2 hbox
           have HB2 := Lib.hid (below_chain HB.out hb2)
           clear hb2)
        )
      go_roundw
      case rel => exact ⟨k + 1, by omega, by omega, by go_num, by rw [HPS.out]; congr 1; omega, e3, HB2.out⟩
      case measure => simp [intOf]; omega
    · have : k = e := by omega
      subst this
      have HB := Lib.hid hb
      clear hb
      go_wp2_with (first
        | (go_at_call 84
           refine (c_l04End c q hq h1.out).mono ?_
           rintro e2 w2 ⟨rfl, hb2⟩
           rw [HE.out]
           have HB2 := Lib.hid (below_chain HB.out hb2)
           clear hb2)
        )
      go_ret
      exact ⟨rfl, HB2.out⟩
theorem c_sBlockLength (c : Nat) (b : Int) (h : LB w A n l A' c' n' fs) :
    Calls Try.prog 48 #[.agg #[.slice A n c], .slice A' n' c', .int .i64 b] w fun e w' => e = .returned (.tuple #[.int .i64 (lengthR l fs b), .int .i64 (codeB l fs b)]) ∧ Below w.heap.size w w' := by
  rcases codeB_cases l fs b with ⟨hc, hok, h0, h1⟩ | ⟨hc, _⟩
  · obtain ⟨q, rfl⟩ : ∃ q : Nat, b = q := ⟨b.toNat, by omega⟩
    have hq : q < n' := by have := h.hn'; omega
    have HR := Lib.hid (show lengthR l fs (q : Int) = pos l (endN l fs q) - pos l (fstN fs q) by unfold lengthR; rw [if_pos hc, Int.toNat_natCast])
    go_enter Try.func48, Try.ntmps48
    go_wp2_with (first
      | (go_at_call 83
         refine (c_l04Block _ _ (h.alloc _)).mono ?_
         rintro e w1 ⟨rfl, hb⟩
         first | replace k0 := cell_later hb k0 | (have k0 : w1.cell? ⟨w.heap.size, 0, none⟩ = some (.slice A n c) := cell_later hb (by go_simp))
         first | replace B := below_chain B hb | (have B : Below w.heap.size w w1 := below_chain (by (repeat (first | exact Below.refl _ _ | assumption | refine below_alloc ?_ _ | refine below_drewN ?_ _ | refine below_set ?_ _ (by simp; try omega) | refine Below.drew ?_))) hb)
         have h' := Lib.hid ((h.alloc _).below hb)
         clear hb)
      | (go_at_call 97
         refine (c_l04Length _ _ hok hq h'.out).mono ?_
         rintro e w1 ⟨rfl, hb⟩
         first | replace k0 := cell_later hb k0 | (have k0 : w1.cell? ⟨w.heap.size, 0, none⟩ = some (.slice A n c) := cell_later hb (by go_simp))
         first | replace B := below_chain B hb | (have B : Below w.heap.size w w1 := below_chain (by (repeat (first | exact Below.refl _ _ | assumption | refine below_alloc ?_ _ | refine below_drewN ?_ _ | refine below_set ?_ _ (by simp; try omega) | refine Below.drew ?_))) hb)
         clear hb)
      )
    go_ret2
    refine ⟨?_, by (repeat (first | exact Below.refl _ _ | assumption | refine below_alloc ?_ _ | refine below_drewN ?_ _ | refine below_set ?_ _ (by simp; try omega) | refine Below.drew ?_))⟩
    rw [HR.out]
    simp [hc]
  · have hc' : (codeB l fs b == 0) = false := by simp [hc]
    have HR := Lib.hid (show lengthR l fs b = 0 by unfold lengthR; rw [if_neg hc])
    clear hc
    go_enter Try.func48, Try.ntmps48
    go_wp2_with (first
      | (go_at_call 83
         refine (c_l04Block _ _ (h.alloc _)).mono ?_
         rintro e w1 ⟨rfl, hb⟩
         first | replace k0 := cell_later hb k0 | (have k0 : w1.cell? ⟨w.heap.size, 0, none⟩ = some (.slice A n c) := cell_later hb (by go_simp))
         first | replace B := below_chain B hb | (have B : Below w.heap.size w w1 := below_chain (by (repeat (first | exact Below.refl _ _ | assumption | refine below_alloc ?_ _ | refine below_drewN ?_ _ | refine below_set ?_ _ (by simp; try omega) | refine Below.drew ?_))) hb)
         clear hb)
      )
    go_ret2
    refine ⟨?_, by (repeat (first | exact Below.refl _ _ | assumption | refine below_alloc ?_ _ | refine below_drewN ?_ _ | refine below_set ?_ _ (by simp; try omega) | refine Below.drew ?_))⟩
    rw [HR.out]
    rfl
set_option maxRecDepth 100000 in
theorem c_sBlockStart (c : Nat) (b : Int) (h : LB w A n l A' c' n' fs) :
    Calls Try.prog 46 #[.agg #[.slice A n c], .slice A' n' c', .int .i64 b] w fun e w' => e = .returned (.tuple #[.int .i64 (startR l fs b), .int .i64 (codeB l fs b)]) ∧ Below w.heap.size w w' := by
  rcases codeB_cases l fs b with ⟨hc, hok, h0, h1⟩ | ⟨hc, _⟩
  · obtain ⟨q, rfl⟩ : ∃ q : Nat, b = q := ⟨b.toNat, by omega⟩
    have hq : q < n' := by have := h.hn'; omega
    have hs' := h.hs'
    have hl := okB_lay hok
    have hf := fst_at hok (q := q) (by have := h.hn'; omega)
    have HR := Lib.hid (show startR l fs (q : Int) = pos l (fstN fs q) by unfold startR; rw [if_pos hc, Int.toNat_natCast])
    have hfl : fstN fs q < n := by have := h.hn; omega
    obtain ⟨bo, off, rfl, _, g0⟩ := h.hr'.int hf.1
    generalize fstN fs q = f at *
    have HN := Lib.hid h.hn
    clear hf
    go_enter Try.func46, Try.ntmps46
    go_wp2_with (fail)
    refine (c_l04Block _ _ (h.alloc _)).mono ?_
    rintro e1 w1 ⟨rfl, hb⟩
    have k0 : w1.cell? ⟨w.heap.size, 0, none⟩ = some (.slice A n c) := cell_later hb (by go_simp)
    have B : Below w.heap.size w w1 := below_chain (by (repeat (first | exact Below.refl _ _ | assumption | refine below_alloc ?_ _ | refine below_drewN ?_ _ | refine below_set ?_ _ (by simp; try omega) | refine Below.drew ?_))) hb
    have g1 : w1.cell? ⟨bo, off + q, none⟩ = some (.int .i64 f) := cell_later B g0
    have hr := Lib.hid (h.hr.below B)
    have HS := Lib.hid h.hs
    have HB := Lib.hid B
    rw [hc]
    clear B hb h g0 hok
    go_wp2_with (fail)
    have hi0 : (0 : Int) ≤ (f : Int) := by omega
    have hi1 : (f : Int) < (n : Int) := by omega
    have hq0 : (0 : Int) ≤ (q : Int) := by omega
    have hq1 : (q : Int) < (n' : Int) := by omega
    go_region_with (first
        | (go_at_call 96
           refine (c_l03Starts _ _ _ l _ HN.out HS.out (by exact hr.out) hl).mono ?_
           rintro e2 w2 ⟨A1, c1, rfl, ho, hb2⟩
           rw [stL_length] at ho ⊢
           have k2 : w2.cell? ⟨w.heap.size, 0, none⟩ = some (.slice A n c) := cell_later hb2 (by exact k0)
           have g2 : w2.cell? ⟨bo, off + q, none⟩ = some (.int .i64 f) := cell_later hb2 (by exact g1)
           have HB2 := Lib.hid (below_chain (by exact HB.out.drew) hb2)
           obtain ⟨gs, rfl, gf⟩ : ∃ gs, A1 = some ⟨gs, 0, none⟩ ∧ w2.cell? ⟨gs, f, none⟩ = some (.int .i64 (pos l f)) := by
             rcases ho.2 with ⟨_, h2⟩ | ⟨g, cap, cur, h1, _⟩
             · omega
             · simp only [Value.slice.injEq] at h1
               obtain ⟨rfl, _, rfl⟩ := h1
               refine ⟨g, rfl, ?_⟩
               rw [ho.cellAt f (by omega)]
               simp [ints, stL_get hfl]
           clear hb2 ho))
    all_goals go_wp2_with (fail)
    all_goals go_ret2
    all_goals (refine ⟨?_, HB2.out⟩; rw [HR.out]; simp [Act.put, hc])
  · have hc' : (codeB l fs b == 0) = false := by simp [hc]
    have HR := Lib.hid (show startR l fs b = 0 by unfold startR; rw [if_neg hc])
    clear hc
    go_enter Try.func46, Try.ntmps46
    go_wp2_with (first
      | (go_at_call 83
         refine (c_l04Block _ _ (h.alloc _)).mono ?_
         rintro e w1 ⟨rfl, hb⟩
         first | replace B := below_chain B hb | (have B : Below w.heap.size w w1 := below_chain (by (repeat (first | exact Below.refl _ _ | assumption | refine below_alloc ?_ _ | refine below_drewN ?_ _ | refine below_set ?_ _ (by simp; try omega) | refine Below.drew ?_))) hb)
         clear hb)
      )
    go_ret2
    refine ⟨?_, by (repeat (first | exact Below.refl _ _ | assumption | refine below_alloc ?_ _ | refine below_drewN ?_ _ | refine below_set ?_ _ (by simp; try omega) | refine Below.drew ?_))⟩
    rw [HR.out]
    rfl
end
end Go.Proofs.Ythhedpdldjmfpaa
