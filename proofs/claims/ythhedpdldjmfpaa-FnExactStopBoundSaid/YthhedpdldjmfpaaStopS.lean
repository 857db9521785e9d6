/- Contract of the reference's StopBound. No condition but the sizes. -/
import Derived.Test.YthhedpdldjmfpaaStopB
import Derived.Test.YthhedpdldjmfpaaMayS
namespace Go.Proofs.Ythhedpdldjmfpaa
open Go.RowKit

section
variable {A : Option Addr} {c n : Nat} {l : List Seg} {A' : Option Addr} {c' n' : Nat} {fs : List Int} {w : World}
set_option maxHeartbeats 4000000 in
set_option maxRecDepth 100000 in
theorem c_sStopBound_yes (c q f e : Nat) (x y : Int) (hec : ecC l fs q x y = 0) (hok : okB l fs = true) (hen : enB x y = true) (hme : meB l fs q x y = true) (hq : q < n') (h : LB w A n l A' c' n' fs) (hfe : f = fstN fs q) (hee : e = endN l fs q) :
    Calls Try.prog 63 #[.agg #[.slice A n c], .slice A' n' c', .int .i64 q, .agg #[.int .i64 x, .int .i64 y]] w fun e' w' => e' = .returned (.tuple #[.int .i64 (stpV (l.drop f) (e - 1 - f) (segN l (e - 1)) y), .int .i64 0]) ∧ Below w.heap.size w w' := by
  have HN := Lib.hid h.hn
  have hl := okB_lay hok
  have hf := fst_at hok (q := q) (by have := h.hn'; omega)
  have he := end_at hok q
  have hlt := fst_end hok (q := q) (by have := h.hn'; omega)
  have hmay := mayE_of (l := l) (fs := fs) (q := q) (lay_all hl) (by have := he.2.2; simp; omega) (enB_bd hen).2.1 hme
  have hxy := enB_bd hen
  rw [← hfe, ← hee] at hmay
  rw [← hfe] at hf hlt
  rw [← hee] at he hlt
  have hn24 : n ≤ 24 := by have := hl.hi; have := h.hn; omega
  have hen' : e ≤ n := by have := h.hn; omega
  obtain ⟨b, off, rfl, hbl, g0⟩ := h.hr'.int hf.1
  have HE := Lib.hid he.1
  have HOK := Lib.hid (lay_all hl)
  obtain ⟨s, hz⟩ : ∃ z, l[e - 1]? = some z := ⟨_, List.getElem?_eq_getElem (by have := h.hn; omega)⟩
  have HS : Hid (segN l (e - 1) = s) := Lib.hid (by simp [segN, hz])
  have HZ := Lib.hid hz
  have HSG := Lib.hid (ok_at HOK.out hz)
  obtain ⟨m, hm⟩ : ∃ m, m = e - 1 - f := ⟨_, rfl⟩
  have hfm : f + m + 1 = e := by omega
  rw [HS.out, ← hm] at hmay ⊢
  have HM := Lib.hid hmay
  have HR1 := Lib.hid h.hr
  have hor : ((w.alloc (.cells #[.slice A n c] 40)).alloc (.cells #[.int .i64 x, .int .i64 y] 27)).ownsRow (w.heap.size + 1) 27 1 (.slice (some ⟨w.heap.size + 1, 0, none⟩) 2 2) 2 [.int .i64 x, .int .i64 y] := by
    have := own_two (w := w.alloc (.cells #[.slice A n c] 40)) x y
    simpa using this
  have HMB : Hid (mbB l fs q x y = true) := Lib.hid (by unfold mbB; rw [if_pos hec, Int.toNat_natCast, hme])
  have HEC := Lib.hid hec
  have hw1 : IntKind.i64.wrap ((e : Int) - 1) = (e : Int) - 1 := IntWalk.i64_in _ (by omega)
  clear hf he hz hl hm hfe hee hmay hec hme hen
  go_enter Try.func63, Try.ntmps63
  go_wp2_with (fail)
  refine (c_sMayEnter _ _ _ _ (by exact (h.alloc _).alloc _)).mono ?_
  rintro e1 w1 ⟨rfl, hb⟩
  rw [HEC.out, HMB.out]
  have k0 : w1.cell? ⟨w.heap.size, 0, none⟩ = some (.slice A n c) := cell_later hb (by go_simp)
  have ho := own_below hor hb
  have B : Below w.heap.size w w1 := below_chain (by (repeat (first | exact Below.refl _ _ | assumption | refine below_alloc ?_ _ | refine below_drewN ?_ _ | refine below_set ?_ _ (by simp; try omega) | refine Below.drew ?_))) hb
  have hL := h.below B
  clear hb hor h
  go_wp2_with (fail)
  refine (c_l04End _ q hq hL).mono ?_
  rintro e1 w3 ⟨rfl, hb⟩
  rw [HE.out]
  replace k0 := cell_later hb k0
  replace ho := own_below ho hb
  replace B := below_chain B hb
  clear hb hL
  have g1 : w3.cell? ⟨b, off + q, none⟩ = some (.int .i64 f) := cell_later B (by go_simp)
  have HO := Lib.hid ho
  have HB := Lib.hid B
  have hm24 : m ≤ 24 := by omega
  have hok := HOK.out
  have HD : Hid ((l.drop f).all segOk = true) := Lib.hid (drop_ok hok f)
  have HLD : Hid (m ≤ (l.drop f).length) := Lib.hid (by have := HN.out; simp; omega)
  clear ho B hok
  go_wp2_with (fail)
  clear g1
  go_loopw [12, 14] (fun p i wr => ∃ j : Nat, j ≤ m ∧ i = .int .i64 ((f : Int) + j) ∧ p = .int .i64 (sC Seg.l (l.drop f) j) ∧ wr.ownsRow (w.heap.size + 1) 27 1 (.slice (some ⟨w.heap.size + 1, 0, none⟩) 2 2) 2 [.int .i64 (x + sC cLo (l.drop f) j), .int .i64 (y + sC cHi (l.drop f) j)] ∧ wr.cell? ⟨w.heap.size, 0, none⟩ = some (.slice A n c) ∧ Below w.heap.size w wr) (fun _ i _ => (f + m) - (intOf i).toNat)
  case atStart => exact ⟨0, Nat.zero_le _, by simp, rfl, by simpa [sC] using HO.out, k0, HB.out⟩
  case round =>
    obtain ⟨j, hj, rfl, rfl, ho, k0, hb⟩ := hrel
    have hbl := sC_bd HD.out (fun s => cLo_bd) (j := j) (by have := HLD.out; omega)
    have hbh := sC_bd HD.out (fun s => cHi_bd) (j := j) (by have := HLD.out; omega)
    have hbw := sCl_bd HD.out (j := j) (by have := HLD.out; omega)
    obtain ⟨v0, v1, v2, v3, v4, v5⟩ := two_cells ho
    by_cases hlt : j < m
    · obtain ⟨t, hz⟩ : ∃ z, (l.drop f)[j]? = some z := ⟨_, List.getElem?_eq_getElem (by have := HLD.out; omega)⟩
      have HZT := Lib.hid (show l[f + j]? = some t by rw [← hz, List.getElem?_drop])
      have HST := Lib.hid (ok_at HD.out hz)
      have hcl := cLo_bd (segBd HST.out)
      have hch := cHi_bd (segBd HST.out)
      have htl := segOk_l HST.out
      have HL := Lib.hid (sC_succ (g := cLo) hz)
      have HH := Lib.hid (sC_succ (g := cHi) hz)
      have HT := Lib.hid (sC_succ (g := Seg.l) hz)
      obtain ⟨b1, o1, rfl, hbb, g0, g1, g2, g3, g4, g5, g6⟩ := (HR1.out.below hb).seg HZT.out
      have HI1 := Lib.hid (show IvB (x + sC cLo (l.drop f) j) (y + sC cHi (l.drop f) j) from ⟨by omega, by omega, by omega, by omega⟩)
      have HI2 := Lib.hid (show IvB (cLo t) (cHi t) from ⟨by omega, by omega, by omega, by omega⟩)
      have HC := c_l06Change t
      unfold Seg.val at HC
      have HO1 := Lib.hid ho
      have HB1 := Lib.hid hb
      have hi0 : (0 : Int) ≤ (f : Int) + j := by omega
      have hi1 : (f : Int) + j < n := by omega
      have hi2 : (f : Int) + j < (e : Int) - 1 := by omega
      have ht : ((f : Int) + j).toNat = f + j := by omega
      clear hz ho hb HO HB
      go_wp2
      go_region_with (first
        | (go_at_call 115
           refine (HC _ HST.out).mono ?_
           rintro e w2 ⟨rfl, hb2⟩
           have HB2 := Lib.hid (below_chain (by exact HB1.out.drew) hb2)
           have HO2 := Lib.hid (own_below (by exact HO1.out) hb2)
           have y0 : w2.cell? ⟨w.heap.size + 1, 0, none⟩ = _ := cell_later hb2 (by exact v0)
           have y1 : w2.cell? ⟨w.heap.size + 1, 1, none⟩ = _ := cell_later hb2 (by exact v1)
           have k2 := cell_later hb2 (by exact k0)
           clear hb2)
        | (go_at_call 114
           refine (c_l06Sum _ _ _ _ _ HI1.out HI2.out).mono ?_
           rintro e w4 ⟨rfl, hb3⟩
           have HB3 := Lib.hid (below_chain HB2.out hb3)
           have ho3 := own_below HO2.out hb3
           have HST3 := Lib.hid ((ho3.stored 0 (.int .i64 (x + sC cLo (l.drop f) j + cLo t))).1.stored 1 (.int .i64 (y + sC cHi (l.drop f) j + cHi t))).1
           have k3 := cell_later hb3 k2
           obtain ⟨z0, z1, z2, z3, z4, z5⟩ := two_cells ho3
           clear hb3 ho3))
      all_goals
        have ho4 := HST3.out
        have HB4 := Lib.hid (below_set (below_set HB3.out (p := ⟨w.heap.size + 1, 0, none⟩) (.int .i64 (x + sC cLo (l.drop f) j + cLo t)) (by show w.heap.size ≤ w.heap.size + 1; omega)) (p := ⟨w.heap.size + 1, 1, none⟩) (.int .i64 (y + sC cHi (l.drop f) j + cHi t)) (by show w.heap.size ≤ w.heap.size + 1; omega))
        have k4 : ((w4.setCell ⟨w.heap.size + 1, 0, none⟩ (.int .i64 (x + sC cLo (l.drop f) j + cLo t))).setCell ⟨w.heap.size + 1, 1, none⟩ (.int .i64 (y + sC cHi (l.drop f) j + cHi t))).cell? ⟨w.heap.size, 0, none⟩ = some (.slice (some ⟨b1, o1, none⟩) n c) := by go_simp
        generalize (w4.setCell ⟨w.heap.size + 1, 0, none⟩ (.int .i64 (x + sC cLo (l.drop f) j + cLo t))).setCell ⟨w.heap.size + 1, 1, none⟩ (.int .i64 (y + sC cHi (l.drop f) j + cHi t)) = W4 at ho4 HB4 HST3 k4 ⊢
        simp only [List.set_cons_zero, List.set_cons_succ] at ho4
        have HO4 := Lib.hid ho4
        clear HST3 ho4 v0 v1 v2 v3 y0 y1 z0 z1 z2 z3 HC k0 k2 k3 g0 g1 g2 g3 g4 g5 g6
        obtain ⟨b2, o2, eb2, hbb2, g0, g1, g2, g3, g4, g5, g6⟩ := (HR1.out.below HB4.out).seg HZT.out
        simp only [Option.some.injEq, Addr.mk.injEq, and_true] at eb2
        obtain ⟨rfl, rfl⟩ := eb2
        go_wp2
        go_roundw
        case rel =>
          refine ⟨j + 1, by omega, by congr 1 <;> omega, by rw [HT.out], ?_, k4, HB4.out⟩
          rw [HL.out, HH.out, ← Int.add_assoc, ← Int.add_assoc]; exact HO4.out
        case measure => simp [intOf]; omega
    · obtain rfl : j = m := by omega
      have HO9 := Lib.hid ho
      have HB9 := Lib.hid hb
      have hz9 := World.block_lt_of_cell? _ _ k0
      obtain ⟨b1, o1, rfl, hbb, z0, z1, z2, z3, z4, z5, z6⟩ := (HR1.out.below hb).seg HZ.out
      have htl := segOk_l HSG.out
      have hi0 : (0 : Int) ≤ (e : Int) - 1 := by omega
      have hi1 : (e : Int) - 1 < n := by omega
      have hj2 : ¬ ((f : Int) + j < (e : Int) - 1) := by omega
      have ht : ((e : Int) - 1).toNat = e - 1 := by omega
      have HIB := c_l07Brake s
      have HK := c_l07Work s
      unfold Seg.val at HIB HK
      have hf0 := fld0
      clear hb ho HO HB
      have hVV : Hid (∀ b : Bool, brkB s.k = b → stpV (l.drop f) j s y = if b then sC Seg.l (l.drop f) j + cdiv ((y + sC cHi (l.drop f) j) * s.l) (wLo s) else sC Seg.l (l.drop f) j + s.l) := Lib.hid fun b hb => by unfold stpV; rw [hb]
      go_wp2_with (fail)
      refine (HIB _).mono ?_
      rintro e5 w5 ⟨rfl, hb5⟩
      have hs5 : Below wr.heap.size wr w5 := below_chain (by (repeat (first | exact Below.refl _ _ | assumption | refine below_alloc ?_ _ | refine below_drewN ?_ _ | refine below_set ?_ _ (by simp; try omega) | refine Below.drew ?_))) hb5
      have HO5 := Lib.hid (own_below HO9.out hs5)
      have HB5 := Lib.hid (below_chain HB9.out hs5)
      have q0 : w5.cell? ⟨wr.heap.size, 0, none⟩ = some (.int .i64 s.k) := cell_later hb5 (by go_simp)
      have q1 : w5.cell? ⟨wr.heap.size, 1, none⟩ = some (.int .i64 s.l) := cell_later hb5 (by go_simp)
      have q2 : w5.cell? ⟨wr.heap.size, 2, none⟩ = some (.int .i64 s.r) := cell_later hb5 (by go_simp)
      have q3 : w5.cell? ⟨wr.heap.size, 3, none⟩ = some (.int .i64 s.a) := cell_later hb5 (by go_simp)
      have q4 : w5.cell? ⟨wr.heap.size, 4, none⟩ = some (.int .i64 s.b) := cell_later hb5 (by go_simp)
      have q5 : w5.cell? ⟨wr.heap.size, 5, none⟩ = some (.int .i64 s.c) := cell_later hb5 (by go_simp)
      have q6 : w5.cell? ⟨wr.heap.size, 6, none⟩ = some (.int .i64 s.d) := cell_later hb5 (by go_simp)
      obtain ⟨p0, p1, _, _, _, _⟩ := two_cells HO5.out
      clear hb5 hs5 v0 v1 v2 v3 z0 z1 z2 z3 z4 z5 z6 k0 HIB
      rcases hbr : brkB s.k with _ | _
      · have HV := Lib.hid (hVV.out _ hbr)
        clear HK hVV
        go_wp2_with (fail)
        go_ret2
        refine ⟨?_, HB5.out⟩
        rw [HV.out]; rfl
      · have HV := Lib.hid (hVV.out _ hbr)
        have hsl := HM.out.sl hbr
        have hy := HM.out.hi
        have hx0 := HM.out.lo
        have hxl := HM.out.le
        have hbw2 := wLo_bd (segBd HSG.out)
        have hbd := big_bd (x := y + sC cHi (l.drop f) j) (y := s.l) (by omega) (by omega) htl.1 htl.2
        have hcd := cdiv_bd (a := (y + sC cHi (l.drop f) j) * s.l) (b := wLo s) (by omega) hsl
        have hw3 : IntKind.i64.wrap ((y + sC cHi (l.drop f) j) * s.l) = (y + sC cHi (l.drop f) j) * s.l := IntWalk.i64_in _ (by omega)
        have hw4 : IntKind.i64.wrap (sC Seg.l (l.drop f) j + cdiv ((y + sC cHi (l.drop f) j) * s.l) (wLo s)) = sC Seg.l (l.drop f) j + cdiv ((y + sC cHi (l.drop f) j) * s.l) (wLo s) := IntWalk.i64_in _ (by omega)
        have HCD := Lib.hid (fun w => c_l01Ceil ((y + sC cHi (l.drop f) j) * s.l) (wLo s) w hsl (by omega) (by omega) (by omega))
        clear hVV
        go_wp2_with (fail)
        go_region_held3 (fun w' => w'.cell? ⟨wr.heap.size, 0, none⟩ = some (.int .i64 s.k) ∧ w'.cell? ⟨wr.heap.size, 1, none⟩ = some (.int .i64 s.l) ∧ w'.cell? ⟨wr.heap.size, 2, none⟩ = some (.int .i64 s.r) ∧ w'.cell? ⟨wr.heap.size, 3, none⟩ = some (.int .i64 s.a) ∧ w'.cell? ⟨wr.heap.size, 4, none⟩ = some (.int .i64 s.b) ∧ w'.cell? ⟨wr.heap.size, 5, none⟩ = some (.int .i64 s.c) ∧ w'.cell? ⟨wr.heap.size, 6, none⟩ = some (.int .i64 s.d) ∧ w'.cell? ⟨w.heap.size + 1, 1, none⟩ = some (.int .i64 (y + sC cHi (l.drop f) j))) (first | exact ⟨q0, q1, q2, q3, q4, q5, q6, p1⟩ | exact ⟨q02, q12, q22, q32, q42, q52, q62, p12⟩)
          (first
            | (go_at_call 118
               refine (HK _ HSG.out).mono ?_
               rintro e6 w6 ⟨rfl, hb6⟩
               have HB6 := Lib.hid (below_chain (by exact HB5.out.drew) hb6)
               have q02 := cell_later hb6 (by exact q0)
               have q12 := cell_later hb6 (by exact q1)
               have q22 := cell_later hb6 (by exact q2)
               have q32 := cell_later hb6 (by exact q3)
               have q42 := cell_later hb6 (by exact q4)
               have q52 := cell_later hb6 (by exact q5)
               have q62 := cell_later hb6 (by exact q6)
               have p12 := cell_later hb6 (by exact p1)
               clear hb6)
            | (go_at_call 117
               refine (HCD.out _).mono ?_
               rintro e7 w7 ⟨rfl, rfl⟩))
        go_wp2_with (fail)
        go_ret2
        refine ⟨?_, HB6.out⟩
        rw [HV.out]; rfl
theorem c_sStopBound (c : Nat) (b x y : Int) (h : LB w A n l A' c' n' fs) :
    Calls Try.prog 63 #[.agg #[.slice A n c], .slice A' n' c', .int .i64 b, .agg #[.int .i64 x, .int .i64 y]] w fun e w' => e = .returned (.tuple #[.int .i64 (sbV l fs b x y), .int .i64 (sbC l fs b x y)]) ∧ Below w.heap.size w w' := by
  rcases ecC_cases l fs b x y with ⟨hc, hok, hen, hcb, h0, h1⟩ | hc
  · obtain ⟨q, rfl⟩ : ∃ q : Nat, b = q := ⟨b.toNat, by omega⟩
    have hq : q < n' := by have := h.hn'; omega
    rcases hme : meB l fs q x y with _ | _
    · have HC := Lib.hid (show sbC l fs q x y = 5 by unfold sbC; rw [if_pos hc, Int.toNat_natCast, hme]; rfl)
      have HV := Lib.hid (show sbV l fs q x y = 0 by unfold sbV; rw [HC.out]; rfl)
      have HMB : Hid (mbB l fs q x y = false) := Lib.hid (by unfold mbB; rw [if_pos hc, Int.toNat_natCast, hme])
      have HX := fun w h => c_sMayEnter (w := w) (A := A) (n := n) (l := l) (A' := A') (c' := c') (n' := n') (fs := fs) c q x y h
      rw [HMB.out, hc] at HX
      go_enter Try.func63, Try.ntmps63
      go_wp2_with (first
        | (go_at_call 59
           refine (HX _ ((h.alloc _).alloc _)).mono ?_
           rintro e w1 ⟨rfl, hb⟩
           first | replace B := below_chain B hb | (have B : Below w.heap.size w w1 := below_chain (by (repeat (first | exact Below.refl _ _ | assumption | refine below_alloc ?_ _ | refine below_drewN ?_ _ | refine below_set ?_ _ (by simp; try omega) | refine Below.drew ?_))) hb)
           clear hb)
        )
      go_ret2
      refine ⟨?_, by (repeat (first | exact Below.refl _ _ | assumption | refine below_alloc ?_ _ | refine below_drewN ?_ _ | refine below_set ?_ _ (by simp; try omega) | refine Below.drew ?_))⟩
      rw [HV.out, HC.out]
      rfl
    · have HC := Lib.hid (show sbC l fs q x y = 0 by unfold sbC; rw [if_pos hc, Int.toNat_natCast, hme]; rfl)
      have HV := Lib.hid (show sbV l fs q x y = stpV (l.drop (fstN fs q)) (endN l fs q - 1 - fstN fs q) (segN l (endN l fs q - 1)) y by unfold sbV; rw [HC.out, Int.toNat_natCast, if_pos rfl])
      rw [HV.out, HC.out]
      exact c_sStopBound_yes c q _ _ x y hc hok hen hme hq h rfl rfl
  · have hc' : (ecC l fs b x y == 0) = false := by simp [hc]
    have HC := Lib.hid (show sbC l fs b x y = ecC l fs b x y by unfold sbC; rw [if_neg hc])
    have HV := Lib.hid (show sbV l fs b x y = 0 by unfold sbV; rw [HC.out, if_neg hc])
    clear hc
    go_enter Try.func63, Try.ntmps63
    go_wp2_with (first
      | (go_at_call 59
         refine (c_sMayEnter _ _ _ _ ((h.alloc _).alloc _)).mono ?_
         rintro e w1 ⟨rfl, hb⟩
         first | replace B := below_chain B hb | (have B : Below w.heap.size w w1 := below_chain (by (repeat (first | exact Below.refl _ _ | assumption | refine below_alloc ?_ _ | refine below_drewN ?_ _ | refine below_set ?_ _ (by simp; try omega) | refine Below.drew ?_))) hb)
         clear hb)
      )
    go_ret2
    refine ⟨?_, by (repeat (first | exact Below.refl _ _ | assumption | refine below_alloc ?_ _ | refine below_drewN ?_ _ | refine below_set ?_ _ (by simp; try omega) | refine Below.drew ?_))⟩
    rw [HV.out, HC.out]
    rfl
end
end Go.Proofs.Ythhedpdldjmfpaa
