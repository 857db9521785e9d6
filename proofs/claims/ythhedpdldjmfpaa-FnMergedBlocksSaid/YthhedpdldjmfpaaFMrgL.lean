/- The walk of the law FnMergedBlocks. -/
import Derived.Test.YthhedpdldjmfpaaFMrgP
import Derived.Test.YthhedpdldjmfpaaMergeL
import Derived.Test.YthhedpdldjmfpaaDrawT
namespace Go.Proofs.Ythhedpdldjmfpaa
open Go.RowKit

theorem LB_of {w : World} {base base2 : Nat} {A : Option Addr} {c : Nat} {l : List Seg} {A' : Option Addr} {c' : Nat} {fs : List Int} (ho : w.ownsRow base 29 7 (.slice A l.length c) l.length (segCells l)) (hof : w.ownsRow base2 2 1 (.slice A' fs.length c') fs.length (ints fs)) (hl : l.length ≤ 1000) (hf : fs.length ≤ 1000) : LB w A l.length l A' c' fs.length fs := by
  have h1 := own_cap hof
  unfold maxLen at h1
  exact ⟨rfl, by omega, Rd.own ho, rfl, by omega, h1.1, by omega, Rd.own hof⟩
set_option maxHeartbeats 1000000 in
set_option maxRecDepth 100000 in
theorem law_FnMergedBlocks (A : Option Addr) (c n : Nat) (w : World) (hb : Bytes w w.heap.size A n) :
    Calls Try.prog 13 #[.slice A n c] w fun e w' => e = .returned (.bool true) ∧ Below w.heap.size w w' := by
  rcases Nat.lt_or_ge 4096 n with hbig | hbig
  · have hd : decide (4096 < n) = true := by simp; omega
    go_enter Try.func13, Try.ntmps13
    go_wp2_with (first
      | (go_at_call 39
         refine (c_big _ _ _ _).mono ?_
         rintro e w' ⟨rfl, rfl⟩)
      )
    go_ret
    exact ⟨rfl, by (repeat (first | exact Below.refl _ _ | assumption | refine below_alloc ?_ _ | refine below_drewN ?_ _ | refine below_set ?_ _ (by simp; try omega) | refine Below.drew ?_))⟩
  have hd : decide (4096 < n) = false := by simp; omega
  go_enter Try.func13, Try.ntmps13
  go_wp2_with (first
    | (go_at_call 39
       refine (c_big _ _ _ _).mono ?_
       rintro e w' ⟨rfl, rfl⟩)
    )
  refine (c_DrawMergeBlocks A c n w hbig hb).mono ?_
  rintro e w1 ⟨A1, c1, l, A2, c2, fs, b, rfl, hl100, hf20, ho, hof, B⟩
  have lb := LB_of ho hof (by omega) (by omega)
  clear ho hof hb
  go_wp2_with (fail)
  have k0 : (w1.alloc (.cells #[.slice A1 l.length c1] 40)).cell? ⟨w1.heap.size, 0, none⟩ = some (.slice A1 l.length c1) := by go_simp
  replace lb := lb.alloc (.cells #[.slice A1 l.length c1] 40)
  replace B := below_alloc B (.cells #[.slice A1 l.length c1] 40)
  generalize w1.alloc (.cells #[.slice A1 l.length c1] 40) = W at k0 lb B ⊢
  generalize hn1 : l.length = n1 at *
  have HN1 := Lib.hid hn1.symm
  clear hn1
  generalize hn2 : fs.length = n2 at *
  have HN2 := Lib.hid hn2.symm
  clear hn2
  generalize w1.heap.size = b0 at *
  go_wp2_with (fail)
  refine (c_MergeBlocks c1 b lb).mono ?_
  rintro e w2 ⟨A3, c3, rfl, ho3, hb⟩
  have hstep : Below W.heap.size W w2 := below_chain (by (repeat (first | exact Below.refl _ _ | assumption | refine below_alloc ?_ _ | refine below_drewN ?_ _ | refine below_set ?_ _ (by simp; try omega) | refine Below.drew ?_))) hb
  replace lb := lb.below hstep
  replace k0 := cell_later hstep k0
  replace B := below_chain B hstep
  have r3 := Rd.own ho3
  clear hb hstep
  go_wp2_with (fail)
  refine (c_sMergeBlocks c1 b lb).mono ?_
  rintro e w3 ⟨A4, c4, rfl, ho4, hb⟩
  have hstep : Below w2.heap.size w2 w3 := below_chain (by (repeat (first | exact Below.refl _ _ | assumption | refine below_alloc ?_ _ | refine below_drewN ?_ _ | refine below_set ?_ _ (by simp; try omega) | refine Below.drew ?_))) hb
  replace lb := lb.below hstep
  replace r3 := r3.below hstep
  replace k0 := cell_later hstep k0
  replace B := below_chain B hstep
  have r4 := Rd.own ho4
  clear hb hstep
  have hcap3 := own_cap ho3
  unfold maxLen at hcap3
  have hml := mrgR_len l fs b
  clear ho3 ho4
  have HLK := Lib.hid (fun (w : World) (h2 : Rd w A3 (ints (mrgR l fs b))) (h3 : Rd w A4 (ints (mrgR l fs b))) => c_likeInts A3 A4 c3 c4 (mrgR l fs b).length (mrgR l fs b).length (mrgR l fs b) w rfl rfl (by have := HN2.out; omega) h2 h3)
  rcases Decidable.em (mrgC l fs b = 0) with hc | hc
  · obtain ⟨hok, q, rfl, hq1, hq2, hR⟩ := mrgC_zero hc
    have hok3 := mrg_ok hok hq1 hq2
    have hlen3 := mrg_len hq1
    have e1 := length_at hok (q := q) (by omega)
    have e2 := length_at hok hq1
    have e3 := length_at hok3 (q := q) (by omega)
    have e4 := start_at hok (q := q) (by omega)
    have e5 := start_at hok3 (q := q) (by omega)
    have f1 := code_at hok (q := q) (by omega)
    have f2 := code_at hok hq1
    have f3 := code_at hok3 (q := q) (by omega)
    have hnx := fst_next hok (q := q) (by omega)
    rw [if_pos hq1] at hnx
    rw [mrg_fst hq1, mrg_end hq1] at e3
    rw [mrg_fst hq1] at e5
    rw [← hR] at hok3 hlen3 e3 e5 f3
    have hlay := okB_lay hok
    have p1 := pos_small hlay (k := fstN fs q) (by have := (fst_at hok (q := q) (by omega)).2; omega)
    have p2 := pos_small hlay (k := fstN fs (q + 1)) (by have := (fst_at hok hq1).2; omega)
    have p3 := pos_small hlay (k := endN l fs (q + 1)) (by have := (end_at hok (q + 1)).2.2; omega)
    rw [hnx] at e1
    have hq21 : q + 1 < n2 := by have := HN2.out; omega
    have hn220 : n2 ≤ 20 := hf20
    generalize pos l (fstN fs q) = P1 at *
    generalize pos l (fstN fs (q + 1)) = P2 at *
    generalize pos l (endN l fs (q + 1)) = P3 at *
    have B1 := fun w h => c_BlockLength (w := w) (A := A1) (n := n1) (l := l) (A' := A2) (c' := c2) (n' := n2) (fs := fs) c1 q h
    have B2 := fun w h => c_BlockLength (w := w) (A := A1) (n := n1) (l := l) (A' := A2) (c' := c2) (n' := n2) (fs := fs) c1 ((q + 1 : Nat) : Int) h
    have B4 := fun w h => c_BlockStart (w := w) (A := A1) (n := n1) (l := l) (A' := A2) (c' := c2) (n' := n2) (fs := fs) c1 q h
    have B3 := fun w h => c_BlockLength (w := w) (A := A1) (n := n1) (l := l) (A' := A3) (c' := c3) (n' := (mrgR l fs q).length) (fs := mrgR l fs q) c1 q h
    have B5 := fun w h => c_BlockStart (w := w) (A := A1) (n := n1) (l := l) (A' := A3) (c' := c3) (n' := (mrgR l fs q).length) (fs := mrgR l fs q) c1 q h
    have B6 := fun w h => k_AreBlocks (w := w) (A := A1) (n := n1) (l := l) (A' := A3) (c' := c3) (n' := (mrgR l fs q).length) (fs := mrgR l fs q) c1 h
    rw [e1, f1] at B1
    rw [e2, f2] at B2
    rw [e4, f1] at B4
    rw [e3, f3] at B3
    rw [e5, f3] at B5
    rw [show (layB l && blkB l (mrgR l fs q)) = true from hok3] at B6
    rw [show ((q + 1 : Nat) : Int) = (q : Int) + 1 by omega] at B2
    have lb3 : LB w3 A1 n1 l A3 c3 (mrgR l fs q).length (mrgR l fs q) := ⟨HN1.out, by omega, lb.hr, rfl, by have := HN2.out; omega, hcap3.1, by omega, r3⟩
    generalize hM : mrgR l fs q = gs at *
    generalize hM2 : gs.length = n3 at *
    rw [hc]
    clear e1 e2 e3 e4 e5 f1 f2 f3 hok hok3 hlen3 hnx hR hM hM2 hc hlay hml
    have hsum : (P3 - P1 == P2 - P1 + (P3 - P2)) = true := by simp; omega
    have hsum2 : P3 - P1 = P2 - P1 + (P3 - P2) := by omega
    have C1 := Lib.hid B1
    have C2 := Lib.hid B2
    have C3 := Lib.hid B3
    have C4 := Lib.hid B4
    have C5 := Lib.hid B5
    have C6 := Lib.hid B6
    clear B1 B2 B3 B4 B5 B6
    go_wp2_with (fail)
    refine (HLK.out _ r3 r4).mono ?_
    rintro e w4 ⟨rfl, hb⟩
    have hstep : Below w3.heap.size w3 w4 := below_chain (by (repeat (first | exact Below.refl _ _ | assumption | refine below_alloc ?_ _ | refine below_drewN ?_ _ | refine below_set ?_ _ (by simp; try omega) | refine Below.drew ?_))) hb
    replace lb := lb.below hstep
    replace r3 := r3.below hstep
    replace r4 := r4.below hstep
    replace k0 := cell_later hstep k0
    replace B := below_chain B hstep
    clear hb hstep
    replace lb3 := lb3
    have hx : LB w4 A1 n1 l A3 c3 n3 gs := ⟨lb3.hn, lb3.hs, lb.hr, lb3.hn', lb3.hs', lb3.hc', lb3.hm', r3⟩
    clear lb3
    go_wp2_with (fail)
    refine (C3.out _ hx).mono ?_
    rintro e w5 ⟨rfl, hb⟩
    have hstep : Below w4.heap.size w4 w5 := below_chain (by (repeat (first | exact Below.refl _ _ | assumption | refine below_alloc ?_ _ | refine below_drewN ?_ _ | refine below_set ?_ _ (by simp; try omega) | refine Below.drew ?_))) hb
    replace lb := lb.below hstep
    replace r3 := r3.below hstep
    replace hx := hx.below hstep
    replace k0 := cell_later hstep k0
    replace B := below_chain B hstep
    clear hb hstep
    go_wp2_with (fail)
    refine (C1.out _ lb).mono ?_
    rintro e w6 ⟨rfl, hb⟩
    have hstep : Below w5.heap.size w5 w6 := below_chain (by (repeat (first | exact Below.refl _ _ | assumption | refine below_alloc ?_ _ | refine below_drewN ?_ _ | refine below_set ?_ _ (by simp; try omega) | refine Below.drew ?_))) hb
    replace lb := lb.below hstep
    replace r3 := r3.below hstep
    replace hx := hx.below hstep
    replace k0 := cell_later hstep k0
    replace B := below_chain B hstep
    clear hb hstep
    go_wp2_with (fail)
    refine (C2.out _ lb).mono ?_
    rintro e w7 ⟨rfl, hb⟩
    have hstep : Below w6.heap.size w6 w7 := below_chain (by (repeat (first | exact Below.refl _ _ | assumption | refine below_alloc ?_ _ | refine below_drewN ?_ _ | refine below_set ?_ _ (by simp; try omega) | refine Below.drew ?_))) hb
    replace lb := lb.below hstep
    replace r3 := r3.below hstep
    replace hx := hx.below hstep
    replace k0 := cell_later hstep k0
    replace B := below_chain B hstep
    clear hb hstep
    go_wp2_with (fail)
    refine (C5.out _ hx).mono ?_
    rintro e w8 ⟨rfl, hb⟩
    have hstep : Below w7.heap.size w7 w8 := below_chain (by (repeat (first | exact Below.refl _ _ | assumption | refine below_alloc ?_ _ | refine below_drewN ?_ _ | refine below_set ?_ _ (by simp; try omega) | refine Below.drew ?_))) hb
    replace lb := lb.below hstep
    replace r3 := r3.below hstep
    replace hx := hx.below hstep
    replace k0 := cell_later hstep k0
    replace B := below_chain B hstep
    clear hb hstep
    go_wp2_with (fail)
    refine (C4.out _ lb).mono ?_
    rintro e w9 ⟨rfl, hb⟩
    have hstep : Below w8.heap.size w8 w9 := below_chain (by (repeat (first | exact Below.refl _ _ | assumption | refine below_alloc ?_ _ | refine below_drewN ?_ _ | refine below_set ?_ _ (by simp; try omega) | refine Below.drew ?_))) hb
    replace lb := lb.below hstep
    replace r3 := r3.below hstep
    replace hx := hx.below hstep
    replace k0 := cell_later hstep k0
    replace B := below_chain B hstep
    clear hb hstep
    go_wp2_with (fail)
    refine (C6.out _ hx).mono ?_
    rintro e w10 ⟨rfl, hb⟩
    have hstep : Below w9.heap.size w9 w10 := below_chain (by (repeat (first | exact Below.refl _ _ | assumption | refine below_alloc ?_ _ | refine below_drewN ?_ _ | refine below_set ?_ _ (by simp; try omega) | refine Below.drew ?_))) hb
    replace lb := lb.below hstep
    replace r3 := r3.below hstep
    replace hx := hx.below hstep
    replace k0 := cell_later hstep k0
    replace B := below_chain B hstep
    clear hb hstep
    go_wp2_with (fail)
    go_ret
    exact ⟨rfl, B⟩
  · have hc' : (mrgC l fs b == 0) = false := by simp [hc]
    have hc2 : (mrgC l fs b != 0) = true := by simp [hc]
    clear hc
    go_wp2_with (fail)
    refine (HLK.out _ r3 r4).mono ?_
    rintro e w4 ⟨rfl, hb⟩
    have hstep : Below w3.heap.size w3 w4 := below_chain (by (repeat (first | exact Below.refl _ _ | assumption | refine below_alloc ?_ _ | refine below_drewN ?_ _ | refine below_set ?_ _ (by simp; try omega) | refine Below.drew ?_))) hb
    replace lb := lb.below hstep
    replace r3 := r3.below hstep
    replace k0 := cell_later hstep k0
    replace B := below_chain B hstep
    clear hb hstep
    go_wp2_with (fail)
    go_ret
    exact ⟨rfl, B⟩
end Go.Proofs.Ythhedpdldjmfpaa
