/- Contract of the reference's JoinDiagrams. Condition: the sizes. -/
import Derived.Test.YtndihacmlkgkbaaDgJw
import Derived.Test.YtndihacmlkgkbaaDgSm
namespace Go.Proofs.Ytndihacmlkgkbaa
open Go.RowKit

theorem join_bad {j X ra Y rb : Int} {la lb : List Nd} {c : Int} (h : joinC j X la ra Y lb rb = c) (hc : c ≠ 0) : joinX j X la ra Y lb rb = 0 ∧ joinL j X la ra Y lb rb = [] ∧ joinR j X la ra Y lb rb = 0 := by
  unfold joinX joinL joinR resX resL resR
  rw [h, if_neg hc, if_neg hc, if_neg hc]
  exact ⟨rfl, rfl, rfl⟩
theorem join_ok {j X ra Y rb : Int} {la lb : List Nd} (h : joinC j X la ra Y lb rb = 0) : joinX j X la ra Y lb rb = X ∧ joinL j X la ra Y lb rb = (joinD j X la lb ra.toNat rb.toNat).1 ∧ joinR j X la ra Y lb rb = (joinD j X la lb ra.toNat rb.toNat).2 := by
  unfold joinX joinL joinR resX resL resR
  rw [h, if_pos rfl, if_pos rfl, if_pos rfl]
  exact ⟨rfl, rfl, rfl⟩
set_option maxHeartbeats 2000000 in
set_option maxRecDepth 100000 in
theorem c_sJoinDiagrams (j X RA : Int) (A : Option Addr) (c n : Nat) (la : List Nd) (Y RB : Int) (A' : Option Addr) (c' n' : Nat) (lb : List Nd) (w : World) (hn : n = la.length) (hs : n ≤ 1099511627000) (hr : Rd w A (ndCells la)) (hn' : n' = lb.length) (hs' : n' ≤ 1099511627000) (hr' : Rd w A' (ndCells lb)) :
    Calls Try.prog 32 #[.int .i64 j, .agg #[.int .i64 X, .slice A n c, .int .i64 RA], .agg #[.int .i64 Y, .slice A' n' c', .int .i64 RB]] w (RetDC (joinX j X la RA Y lb RB) (joinL j X la RA Y lb RB) (joinR j X la RA Y lb RB) (joinC j X la RA Y lb RB) w) := by
  have a0 : (((w.alloc (.cells #[.int .i64 X, .slice A n c, .int .i64 RA] 29)).alloc (.cells #[.int .i64 Y, .slice A' n' c', .int .i64 RB] 29)).alloc (.cells #[.int .i64 0, .slice none 0 0, .int .i64 0] 29)).cell? ⟨w.heap.size, 0, none⟩ = some (.int .i64 X) := by go_simp
  have a1 : (((w.alloc (.cells #[.int .i64 X, .slice A n c, .int .i64 RA] 29)).alloc (.cells #[.int .i64 Y, .slice A' n' c', .int .i64 RB] 29)).alloc (.cells #[.int .i64 0, .slice none 0 0, .int .i64 0] 29)).cell? ⟨w.heap.size, 1, none⟩ = some (.slice A n c) := by go_simp
  have a2 : (((w.alloc (.cells #[.int .i64 X, .slice A n c, .int .i64 RA] 29)).alloc (.cells #[.int .i64 Y, .slice A' n' c', .int .i64 RB] 29)).alloc (.cells #[.int .i64 0, .slice none 0 0, .int .i64 0] 29)).cell? ⟨w.heap.size, 2, none⟩ = some (.int .i64 RA) := by go_simp
  have b0 : (((w.alloc (.cells #[.int .i64 X, .slice A n c, .int .i64 RA] 29)).alloc (.cells #[.int .i64 Y, .slice A' n' c', .int .i64 RB] 29)).alloc (.cells #[.int .i64 0, .slice none 0 0, .int .i64 0] 29)).cell? ⟨w.heap.size + 1, 0, none⟩ = some (.int .i64 Y) := by go_simp
  have b1 : (((w.alloc (.cells #[.int .i64 X, .slice A n c, .int .i64 RA] 29)).alloc (.cells #[.int .i64 Y, .slice A' n' c', .int .i64 RB] 29)).alloc (.cells #[.int .i64 0, .slice none 0 0, .int .i64 0] 29)).cell? ⟨w.heap.size + 1, 1, none⟩ = some (.slice A' n' c') := by go_simp
  have b2 : (((w.alloc (.cells #[.int .i64 X, .slice A n c, .int .i64 RA] 29)).alloc (.cells #[.int .i64 Y, .slice A' n' c', .int .i64 RB] 29)).alloc (.cells #[.int .i64 0, .slice none 0 0, .int .i64 0] 29)).cell? ⟨w.heap.size + 1, 2, none⟩ = some (.int .i64 RB) := by go_simp
  have HX : Hid ((((w.alloc (.cells #[.int .i64 X, .slice A n c, .int .i64 RA] 29)).alloc (.cells #[.int .i64 Y, .slice A' n' c', .int .i64 RB] 29)).alloc (.cells #[.int .i64 0, .slice none 0 0, .int .i64 0] 29)).ownsRow w.heap.size 29 3 (.slice (some ⟨w.heap.size + 1 + 1, 0, none⟩) 1 1) 1 [.int .i64 0, .slice none 0 0, .int .i64 0]) := Lib.hid (by
    have h := own_box ((w.alloc (.cells #[.int .i64 X, .slice A n c, .int .i64 RA] 29)).alloc (.cells #[.int .i64 Y, .slice A' n' c', .int .i64 RB] 29)) w.heap.size 29 [.int .i64 0, .slice none 0 0, .int .i64 0] 3 rfl (by simp; omega)
    simpa using h)
  have HB := Lib.hid (below_alloc (below_alloc (below_alloc (Below.refl w.heap.size w) (.cells #[.int .i64 X, .slice A n c, .int .i64 RA] 29)) (.cells #[.int .i64 Y, .slice A' n' c', .int .i64 RB] 29)) (.cells #[.int .i64 0, .slice none 0 0, .int .i64 0] 29))
  have HIA := Lib.hid (fun w1 h => c_sIsDiagram X RA A c n la w1 hn hs h)
  have HIB := Lib.hid (fun w1 h => c_sIsDiagram Y RB A' c' n' lb w1 hn' hs' h)
  have H := Lib.hid hr
  have H' := Lib.hid hr'
  have HN := Lib.hid hn
  have HN' := Lib.hid hn'
  clear hn hr hn' hr'
  go_enter Try.func32, Try.ntmps32
  go_wp2_with (fail)
  refine (HIA.out _ (H.out.below HB.out)).mono ?_
  rintro e w1 ⟨rfl, hb⟩
  replace a0 := cell_later hb a0
  replace a1 := cell_later hb a1
  replace a2 := cell_later hb a2
  replace b0 := cell_later hb b0
  replace b1 := cell_later hb b1
  replace b2 := cell_later hb b2
  have HB1 := Lib.hid (below_chain HB.out hb)
  have HX1 := Lib.hid (own_below HX.out hb)
  clear hb HIA HB HX
  rcases hd : isD X la RA with _ | _
  · have HV : Hid (joinC j X la RA Y lb RB = 1) := Lib.hid (by unfold joinC; rw [hd]; exact if_neg (by simp))
    clear hd
    have p0 := HX1.out.cellAt 0 (by decide)
    have p1 := HX1.out.cellAt 1 (by decide)
    have p2 := HX1.out.cellAt 2 (by decide)
    simp only [List.getElem?_cons_zero, List.getElem?_cons_succ] at p0 p1 p2
    have f0 := HX1.out.frozenAt 0
    have f1 := HX1.out.frozenAt 1
    have f2 := HX1.out.frozenAt 2
    obtain ⟨WF, hWF, r0, r1, r2, r3⟩ := set3_ret HX1.out HB1.out (l := []) (own_nil _ _ _ _) 0 0
    have HF := Lib.hid (show (((_ : World).setCell ⟨w.heap.size + 1 + 1, 0, none⟩ (.int .i64 0)).setCell ⟨w.heap.size + 1 + 1, 1, none⟩ (.slice none 0 0)).setCell ⟨w.heap.size + 1 + 1, 2, none⟩ (.int .i64 0) = WF from hWF.symm)
    have R3 := Lib.hid r3
    have R012 := Lib.hid (And.intro r0 (And.intro r1 r2))
    clear hWF r3 r0 r1 r2
    go_wp2_with (fail)
    clear p0 p1 p2 f0 f1 f2
    rw [HF.out]
    obtain ⟨r0, r1, r2⟩ := R012.out
    refine bodyPost_ret (v := .tuple #[.agg #[.int .i64 0, .slice none 0 0, .int .i64 0], .int .i64 1]) (by simp [results, Try.results32, go_sem, r0, r1, r2]) rfl (by obtain ⟨v1, v2, v3⟩ := join_bad HV.out (by decide); rw [v1, v2, v3, HV.out]; exact R3.out 1)
  have HDA := Lib.hid hd
  clear hd
  go_wp2_with (fail)
  refine (HIB.out _ (H'.out.below HB1.out)).mono ?_
  rintro e w2 ⟨rfl, hb⟩
  replace a0 := cell_later hb a0
  replace a1 := cell_later hb a1
  replace a2 := cell_later hb a2
  replace b0 := cell_later hb b0
  replace b1 := cell_later hb b1
  replace b2 := cell_later hb b2
  have HB2 := Lib.hid (below_chain HB1.out hb)
  have HX2 := Lib.hid (own_below HX1.out hb)
  clear hb HIB HB1 HX1
  rcases hd : isD Y lb RB with _ | _
  · have HV : Hid (joinC j X la RA Y lb RB = 1) := Lib.hid (by unfold joinC; rw [hd]; exact if_neg (by simp))
    clear hd
    have p0 := HX2.out.cellAt 0 (by decide)
    have p1 := HX2.out.cellAt 1 (by decide)
    have p2 := HX2.out.cellAt 2 (by decide)
    simp only [List.getElem?_cons_zero, List.getElem?_cons_succ] at p0 p1 p2
    have f0 := HX2.out.frozenAt 0
    have f1 := HX2.out.frozenAt 1
    have f2 := HX2.out.frozenAt 2
    obtain ⟨WF, hWF, r0, r1, r2, r3⟩ := set3_ret HX2.out HB2.out (l := []) (own_nil _ _ _ _) 0 0
    have HF := Lib.hid (show (((_ : World).setCell ⟨w.heap.size + 1 + 1, 0, none⟩ (.int .i64 0)).setCell ⟨w.heap.size + 1 + 1, 1, none⟩ (.slice none 0 0)).setCell ⟨w.heap.size + 1 + 1, 2, none⟩ (.int .i64 0) = WF from hWF.symm)
    have R3 := Lib.hid r3
    have R012 := Lib.hid (And.intro r0 (And.intro r1 r2))
    clear hWF r3 r0 r1 r2
    go_wp2_with (fail)
    clear p0 p1 p2 f0 f1 f2
    rw [HF.out]
    obtain ⟨r0, r1, r2⟩ := R012.out
    refine bodyPost_ret (v := .tuple #[.agg #[.int .i64 0, .slice none 0 0, .int .i64 0], .int .i64 1]) (by simp [results, Try.results32, go_sem, r0, r1, r2]) rfl (by obtain ⟨v1, v2, v3⟩ := join_bad HV.out (by decide); rw [v1, v2, v3, HV.out]; exact R3.out 1)
  have HDB := Lib.hid hd
  have HC : Hid (joinC j X la RA Y lb RB = if inB j 0 2 then (if X = Y then limC (joinD j X la lb RA.toNat RB.toNat) else 5) else 2) := Lib.hid (by unfold joinC; rw [HDA.out, hd]; exact if_pos ⟨rfl, rfl⟩)
  clear hd
  rcases h1 : inB j 0 2 with _ | _
  · have HV : Hid (joinC j X la RA Y lb RB = 2) := Lib.hid (by rw [HC.out, h1]; rfl)
    have p0 := HX2.out.cellAt 0 (by decide)
    have p1 := HX2.out.cellAt 1 (by decide)
    have p2 := HX2.out.cellAt 2 (by decide)
    simp only [List.getElem?_cons_zero, List.getElem?_cons_succ] at p0 p1 p2
    have f0 := HX2.out.frozenAt 0
    have f1 := HX2.out.frozenAt 1
    have f2 := HX2.out.frozenAt 2
    obtain ⟨WF, hWF, r0, r1, r2, r3⟩ := set3_ret HX2.out HB2.out (l := []) (own_nil _ _ _ _) 0 0
    have HF := Lib.hid (show (((_ : World).setCell ⟨w.heap.size + 1 + 1, 0, none⟩ (.int .i64 0)).setCell ⟨w.heap.size + 1 + 1, 1, none⟩ (.slice none 0 0)).setCell ⟨w.heap.size + 1 + 1, 2, none⟩ (.int .i64 0) = WF from hWF.symm)
    have R3 := Lib.hid r3
    have R012 := Lib.hid (And.intro r0 (And.intro r1 r2))
    clear hWF r3 r0 r1 r2
    go_wp2_with (first
      | (go_at_call 38
         refine (c_l01In _ _ _ _).mono ?_
         rintro e w' ⟨rfl, rfl⟩)
      )
    clear p0 p1 p2 f0 f1 f2
    rw [HF.out]
    obtain ⟨r0, r1, r2⟩ := R012.out
    refine bodyPost_ret (v := .tuple #[.agg #[.int .i64 0, .slice none 0 0, .int .i64 0], .int .i64 2]) (by simp [results, Try.results32, go_sem, r0, r1, r2]) rfl (by obtain ⟨v1, v2, v3⟩ := join_bad HV.out (by decide); rw [v1, v2, v3, HV.out]; exact R3.out 2)
  rcases Decidable.em (X = Y) with h3 | h3
  rotate_left
  · have HV : Hid (joinC j X la RA Y lb RB = 5) := Lib.hid (by rw [HC.out, h1]; exact if_neg h3)
    have h3b : (X != Y) = true := by simpa using h3
    clear h3
    have p0 := HX2.out.cellAt 0 (by decide)
    have p1 := HX2.out.cellAt 1 (by decide)
    have p2 := HX2.out.cellAt 2 (by decide)
    simp only [List.getElem?_cons_zero, List.getElem?_cons_succ] at p0 p1 p2
    have f0 := HX2.out.frozenAt 0
    have f1 := HX2.out.frozenAt 1
    have f2 := HX2.out.frozenAt 2
    obtain ⟨WF, hWF, r0, r1, r2, r3⟩ := set3_ret HX2.out HB2.out (l := []) (own_nil _ _ _ _) 0 0
    have HF := Lib.hid (show (((_ : World).setCell ⟨w.heap.size + 1 + 1, 0, none⟩ (.int .i64 0)).setCell ⟨w.heap.size + 1 + 1, 1, none⟩ (.slice none 0 0)).setCell ⟨w.heap.size + 1 + 1, 2, none⟩ (.int .i64 0) = WF from hWF.symm)
    have R3 := Lib.hid r3
    have R012 := Lib.hid (And.intro r0 (And.intro r1 r2))
    clear hWF r3 r0 r1 r2
    go_wp2_with (first
      | (go_at_call 38
         refine (c_l01In _ _ _ _).mono ?_
         rintro e w' ⟨rfl, rfl⟩)
      )
    clear p0 p1 p2 f0 f1 f2
    rw [HF.out]
    obtain ⟨r0, r1, r2⟩ := R012.out
    refine bodyPost_ret (v := .tuple #[.agg #[.int .i64 0, .slice none 0 0, .int .i64 0], .int .i64 5]) (by simp [results, Try.results32, go_sem, r0, r1, r2]) rfl (by obtain ⟨v1, v2, v3⟩ := join_bad HV.out (by decide); rw [v1, v2, v3, HV.out]; exact R3.out 5)
  subst h3
  have HC2 : Hid (joinC j X la RA X lb RB = limC (joinD j X la lb RA.toNat RB.toNat)) := Lib.hid (by rw [HC.out, h1, if_pos rfl, if_pos rfl])
  obtain ⟨hva, hRA0, hRA1, _, _⟩ := isD_VN HDA.out
  obtain ⟨hvb, hRB0, hRB1, _, _⟩ := isD_VN HDB.out
  obtain ⟨ra, rfl⟩ : ∃ r : Nat, RA = r := ⟨RA.toNat, by omega⟩
  obtain ⟨rb, rfl⟩ : ∃ r : Nat, RB = r := ⟨RB.toNat, by omega⟩
  rw [Int.toNat_natCast, Int.toNat_natCast] at HC2
  have HVA := Lib.hid hva
  have HVB := Lib.hid hvb
  rw [← HN.out] at hRA1
  rw [← HN'.out] at hRB1
  have hln := hva.n
  have hln' := hvb.n
  rw [← HN.out] at hln
  rw [← HN'.out] at hln'
  have hra : ra < n + 2 := by omega
  have hrb : rb < n' + 2 := by omega
  have hbl2 : w.heap.size + 1 + 1 < w2.heap.size := (HX2.out.lt _ rfl).2
  have hbl1 : w.heap.size + 1 < w2.heap.size := by omega
  have hbl0 : w.heap.size < w2.heap.size := by omega
  clear HC hva hvb
  have HSB : Hid (SB w2.heap.size (((w2.alloc (.cells #[.slice none 0 0] 77)).alloc (.cells #[] 103)).alloc (.cells #[.slice (some ⟨w2.heap.size + 1, 0, none⟩) 0 0] 80)) w2.heap.size []) := Lib.hid (by
    refine SB.below (SB.below ?_ (below_alloc (Below.refl _ _) _)) (below_alloc (Below.refl _ _) _)
    exact ⟨.slice none 0 0, own_box w2 w2.heap.size 77 [.slice none 0 0] 1 rfl (Nat.le_refl _), own_nil _ _ _ _⟩)
  have HPB : Hid (PB w2.heap.size (((w2.alloc (.cells #[.slice none 0 0] 77)).alloc (.cells #[] 103)).alloc (.cells #[.slice (some ⟨w2.heap.size + 1, 0, none⟩) 0 0] 80)) (w2.heap.size + 1 + 1) []) := Lib.hid (by
    have h1 := own_box ((w2.alloc (.cells #[.slice none 0 0] 77)).alloc (.cells #[] 103)) w2.heap.size 80 [.slice (some ⟨w2.heap.size + 1, 0, none⟩) 0 0] 1 rfl (by simp; omega)
    have h2 := World.ownsRow_made (e := 103) (size := 3) (base := w2.heap.size) (w2.alloc (.cells #[.slice none 0 0] 77)) #[] 0 (by simp) (Nat.zero_le _) rfl
    have e1 : ((w2.alloc (.cells #[.slice none 0 0] 77)).alloc (.cells #[] 103)).heap.size = w2.heap.size + 1 + 1 := by simp
    have e2 : (w2.alloc (.cells #[.slice none 0 0] 77)).heap.size = w2.heap.size + 1 := by simp
    rw [e1] at h1
    rw [e2] at h2
    exact ⟨_, h1, by have h3 := own_below h2 (below_alloc (Below.refl _ _) (.cells #[.slice (some ⟨w2.heap.size + 1, 0, none⟩) 0 0] 80)); simpa [ndCells] using h3⟩)
  have HBW := Lib.hid (below_alloc (below_alloc (below_alloc (Below.refl w2.heap.size w2) (.cells #[.slice none 0 0] 77)) (.cells #[] 103)) (.cells #[.slice (some ⟨w2.heap.size + 1, 0, none⟩) 0 0] 80))
  have HJ := Lib.hid (c_l22Join w2.heap.size w2.heap.size (w2.heap.size + 1 + 1) j X ra rb A c n la A' c' n' lb w2 HN.out HN'.out HVA.out HVB.out (H.out.below HB2.out) (H'.out.below HB2.out) (Nat.le_refl _) (ra + rb + 1) ([], []) ra rb (((w2.alloc (.cells #[.slice none 0 0] 77)).alloc (.cells #[] 103)).alloc (.cells #[.slice (some ⟨w2.heap.size + 1, 0, none⟩) 0 0] 80)) (by omega) hra hrb (jinv0 _ _) HBW.out HBW.out.size HSB.out HPB.out)
  have HJO := Lib.hid (jwk_out (j := j) HVA.out HVB.out (ra + rb + 1) ([], []) ra rb (by omega) (by have := HN.out; omega) (by have := HN'.out; omega) (jinv0 _ _))
  have HJD : Hid (joinD j X la lb ra rb = canS (jwk j X la lb (ra + rb + 1) ([], []) ra rb).1.2 (jwk j X la lb (ra + rb + 1) ([], []) ra rb).2.toNat) := Lib.hid rfl
  generalize jwk j X la lb (ra + rb + 1) ([], []) ra rb = JS at *
  have A0 := Lib.hid a0
  have ga0 := cell_later HBW.out a0
  have ga1 := cell_later HBW.out a1
  have ga2 := cell_later HBW.out a2
  have gb0 := cell_later HBW.out b0
  have gb1 := cell_later HBW.out b1
  have gb2 := cell_later HBW.out b2
  go_wp2_with (first
    | (go_at_call 38
       refine (c_l01In _ _ _ _).mono ?_
       rintro e w' ⟨rfl, rfl⟩)
    )
  refine HJ.out.mono ?_
  clear ga0 ga1 ga2 gb0 gb1 gb2
  rintro e w5 ⟨rfl, hS5, _, hF5⟩
  have HB5a := Lib.hid (HBW.out.trans (PJ.below hF5 HBW.out.size))
  have HB5 := Lib.hid (below_chain HB2.out HB5a.out)
  have HX5 := Lib.hid (own_below HX2.out HB5a.out)
  replace a0 := cell_later HB5a.out A0.out
  obtain ⟨vo, hbx, hro⟩ := hS5
  obtain ⟨Av, cv, rfl⟩ := own_shape hro
  have k0 := hbx.cellAt 0 (by decide)
  simp only [List.getElem?_cons_zero] at k0
  have HRV := Lib.hid (Rd.own hro)
  have hbm : (lb.length + 2) * (la.length + 2) ≤ 4008004 := by
    have h4 := Nat.mul_le_mul (show lb.length + 2 ≤ 2002 by have := HN'.out; omega) (show la.length + 2 ≤ 2002 by have := HN.out; omega)
    omega
  have hjl := HJO.out.inv.lt.1
  have hj0 := HJO.out.v0
  have hj1 := HJO.out.v1
  obtain ⟨z, hz⟩ : ∃ z : Nat, JS.2 = z := ⟨JS.2.toNat, by omega⟩
  rw [hz, Int.toNat_natCast] at HJD
  rw [hz] at hj0 hj1
  have hcl := canS_len HJO.out.inv.good (r := z) (by omega)
  have HCA := Lib.hid (fun w1 h => c_l22Canonical X Av cv JS.1.2.length JS.1.2 z w1 rfl (by omega) HJO.out.inv.good (by omega) h)
  generalize canS JS.1.2 z = C at *
  generalize JS.1.2.length = nv at *
  rw [hz]
  have hbz := World.block_lt_of_cell? _ _ a0
  dsimp only at hbz
  have hbz2 := World.block_lt_of_cell? _ _ k0
  dsimp only at hbz2
  clear HJ HJO hbx hro hF5 HBW HSB HPB hjl hj0 hj1 a1 a2 b0 b1 b2 hbm hz
  by_cases hlen : 2000 < C.1.length
  · have HV : Hid (joinC j X la ra X lb rb = 3) := Lib.hid (by rw [HC2.out, HJD.out]; unfold limC; exact if_pos hlen)
    go_wp2_with (fail)
    refine wp_region_held_drew (S := (fun w' => w'.cell? ⟨w.heap.size, 0, none⟩ = some (.int .i64 X) ∧ w'.cell? ⟨w2.heap.size, 0, none⟩ = some (.slice Av nv cv))) (by kernel_rfl) ?_ (fun hHeld => ?_)
    · exact ⟨a0, k0⟩
    refine rg_take (v := ?_) 0 rfl (by kernel_rfl) (by kernel_rfl) (by kernel_rfl) (fun _ _ _ h => h) (by kernel_rfl) ?_ (by assumption) ?_
    rotate_left
    · (intro w' hSw; (try dsimp only at hSw); go_simp; first | done | with_reducible rfl)
    simp only [Act.put, List.setIfInBounds_toArray, List.set_cons_zero, List.set_cons_succ]
    refine rg_take (v := ?_) 1 rfl (by kernel_rfl) (by kernel_rfl) (by kernel_rfl) (fun _ _ _ h => h) (by kernel_rfl) ?_ (by assumption) ?_
    rotate_left
    · (intro w' hSw; (try dsimp only at hSw); go_simp; first | done | with_reducible rfl)
    simp only [Act.put, List.setIfInBounds_toArray, List.set_cons_zero, List.set_cons_succ]
    refine rg_take (v := ?_) 2 rfl (by kernel_rfl) (by kernel_rfl) (by kernel_rfl) (fun _ _ _ h => h) (by kernel_rfl) ?_ (by assumption) ?_
    rotate_left
    · (intro w' hSw; (try dsimp only at hSw); go_simp; first | done | with_reducible rfl)
    simp only [Act.put, List.setIfInBounds_toArray, List.set_cons_zero, List.set_cons_succ]
    refine rg_take (v := ?_) 3 rfl (by kernel_rfl) (by kernel_rfl) (by kernel_rfl) (fun _ _ _ h => h) (by kernel_rfl) ?_ (by assumption) ?_
    rotate_left
    · (intro w' hSw; (try dsimp only at hSw); go_simp; first | done | with_reducible rfl)
    simp only [Act.put, List.setIfInBounds_toArray, List.set_cons_zero, List.set_cons_succ]
    refine rg_take (v := ?_) 4 rfl (by kernel_rfl) (by kernel_rfl) (by kernel_rfl) (fun _ _ _ h => h) (by kernel_rfl) ?_ (by assumption) ?_
    rotate_left
    · (intro w' hSw; (try dsimp only at hSw); go_simp; first | done | with_reducible rfl)
    simp only [Act.put, List.setIfInBounds_toArray, List.set_cons_zero, List.set_cons_succ]
    refine rg_take (v := ?_) 5 rfl (by kernel_rfl) (by kernel_rfl) (by kernel_rfl) (fun _ _ _ h => h) (by kernel_rfl) ?_ (by assumption) ?_
    rotate_left
    · (intro w' hSw; (try dsimp only at hSw); go_simp; first | done | with_reducible rfl)
    simp only [Act.put, List.setIfInBounds_toArray, List.set_cons_zero, List.set_cons_succ]
    refine rg_take (v := ?_) 6 rfl (by kernel_rfl) (by kernel_rfl) (by kernel_rfl) (fun _ _ _ h => h) (by kernel_rfl) ?_ (by assumption) ?_
    rotate_left
    · (intro w' hSw; (try dsimp only at hSw); go_simp; first | done | with_reducible rfl)
    simp only [Act.put, List.setIfInBounds_toArray, List.set_cons_zero, List.set_cons_succ]
    refine rg_run 7 rfl (by kernel_rfl) (by kernel_rfl) (fun K hK => ?_)
    go_simp
    refine (HCA.out _ (by exact HRV.out.drew)).mono ?_
    rintro e w6 ⟨A6, c6, rfl, ho6, hb6⟩
    replace a0 := cell_later hb6 (by exact a0)
    replace k0 := cell_later hb6 (by exact k0)
    have HX6 := Lib.hid (own_below (by exact HX5.out) hb6)
    have HB6 := Lib.hid (below_chain (by first | exact HB5.out.drew | exact HB5.out) hb6)
    have HO6 := Lib.hid (own_mono ho6 (base' := w.heap.size) (by exact Nat.le_of_lt hbz))
    clear ho6 hb6 HX5 HRV
    go_wp2
    clear hHeld
    refine hK.out _ _ (by exact ⟨a0, k0⟩) (fun hHeld => ?_)
    clear hK K
    try simp only [Act.put, List.setIfInBounds_toArray, List.set_cons_zero, List.set_cons_succ]
    refine rg_run 8 rfl (by kernel_rfl) (by kernel_rfl) (fun K hK => ?_)
    go_simp
    refine (c_l22Big X C.2 A6 c6 C.1.length _ (by omega)).mono ?_
    rintro e w7 ⟨rfl, hb7⟩
    replace a0 := cell_later hb7 (by exact a0)
    replace k0 := cell_later hb7 (by exact k0)
    have HX7 := Lib.hid (own_below (by exact HX6.out) hb7)
    have HB7 := Lib.hid (below_chain (by exact HB6.out) hb7)
    have hso7 := own_below HO6.out hb7
    obtain ⟨WF, hWF, r0, r1, r2, r3⟩ := set3_ret HX7.out HB7.out (l := []) (own_nil _ _ _ _) 0 0
    have HF := Lib.hid hWF
    have R3 := Lib.hid r3
    have p0 := HX7.out.cellAt 0 (by decide)
    have p1 := HX7.out.cellAt 1 (by decide)
    have p2 := HX7.out.cellAt 2 (by decide)
    simp only [List.getElem?_cons_zero, List.getElem?_cons_succ] at p0 p1 p2
    have f0 := HX7.out.frozenAt 0
    have f1 := HX7.out.frozenAt 1
    have f2 := HX7.out.frozenAt 2
    clear hso7 r3 hb7 HX6 HO6
    go_wp2
    clear hHeld
    refine hK.out _ _ (by exact ⟨a0, k0⟩) (fun hHeld => ?_)
    clear hK K
    try simp only [Act.put, List.setIfInBounds_toArray, List.set_cons_zero, List.set_cons_succ]
    refine rg_take (v := ?_) 9 rfl (by kernel_rfl) (by kernel_rfl) (by kernel_rfl) (fun _ _ _ h => h) (by kernel_rfl) ?_ (by assumption) ?_
    rotate_left
    · (intro w' hSw; (try dsimp only at hSw); go_simp; first | done | with_reducible rfl)
    simp only [Act.put, List.setIfInBounds_toArray, List.set_cons_zero, List.set_cons_succ]
    refine rg_take (v := ?_) 10 rfl (by kernel_rfl) (by kernel_rfl) (by kernel_rfl) (fun _ _ _ h => h) (by kernel_rfl) ?_ (by assumption) ?_
    rotate_left
    · (intro w' hSw; (try dsimp only at hSw); go_simp; first | done | with_reducible rfl)
    simp only [Act.put, List.setIfInBounds_toArray, List.set_cons_zero, List.set_cons_succ]
    have s0' : WF.cell? ⟨w.heap.size, 0, none⟩ = some (.int .i64 X) := by rw [hWF]; go_simp
    have s2' : WF.cell? ⟨w2.heap.size, 0, none⟩ = some (.slice Av nv cv) := by rw [hWF]; go_simp
    clear hWF
    refine rg_run 11 rfl (by kernel_rfl) (by kernel_rfl) (fun K hK => ?_)
    go_simp
    have e := HF.out
    try simp only [List.length_nil] at e
    rw [← e]
    clear e
    clear hHeld
    refine hK.out _ _ (by exact ⟨s0', s2'⟩) (fun hHeld => ?_)
    clear hK K
    try simp only [Act.put, List.setIfInBounds_toArray, List.set_cons_zero, List.set_cons_succ]
    refine rg_take (v := ?_) 12 rfl (by kernel_rfl) (by kernel_rfl) (by kernel_rfl) (fun _ _ _ h => h) (by kernel_rfl) ?_ (by assumption) ?_
    rotate_left
    · (intro w' hSw; (try dsimp only at hSw); go_simp; first | done | with_reducible rfl)
    simp only [Act.put, List.setIfInBounds_toArray, List.set_cons_zero, List.set_cons_succ]
    refine wpAnyH_done (by kernel_rfl) ?_ _
    clear hHeld
    clear a0 k0 p0 p1 p2 f0 f1 f2 s0' s2'
    go_wp2_with (fail)
    refine bodyPost_ret (v := .tuple #[.agg #[.int .i64 0, .slice none 0 0, .int .i64 0], .int .i64 3]) (by simp [results, Try.results32, go_sem, r0, r1, r2]) rfl (by obtain ⟨v1, v2, v3⟩ := join_bad HV.out (by decide); rw [v1, v2, v3, HV.out]; exact R3.out 3)
  · have HV : Hid (joinC j X la ra X lb rb = 0) := Lib.hid (by rw [HC2.out, HJD.out]; unfold limC; exact if_neg hlen)
    go_wp2_with (fail)
    refine wp_region_held_drew (S := (fun w' => w'.cell? ⟨w.heap.size, 0, none⟩ = some (.int .i64 X) ∧ w'.cell? ⟨w2.heap.size, 0, none⟩ = some (.slice Av nv cv))) (by kernel_rfl) ?_ (fun hHeld => ?_)
    · exact ⟨a0, k0⟩
    refine rg_take (v := ?_) 0 rfl (by kernel_rfl) (by kernel_rfl) (by kernel_rfl) (fun _ _ _ h => h) (by kernel_rfl) ?_ (by assumption) ?_
    rotate_left
    · (intro w' hSw; (try dsimp only at hSw); go_simp; first | done | with_reducible rfl)
    simp only [Act.put, List.setIfInBounds_toArray, List.set_cons_zero, List.set_cons_succ]
    refine rg_take (v := ?_) 1 rfl (by kernel_rfl) (by kernel_rfl) (by kernel_rfl) (fun _ _ _ h => h) (by kernel_rfl) ?_ (by assumption) ?_
    rotate_left
    · (intro w' hSw; (try dsimp only at hSw); go_simp; first | done | with_reducible rfl)
    simp only [Act.put, List.setIfInBounds_toArray, List.set_cons_zero, List.set_cons_succ]
    refine rg_take (v := ?_) 2 rfl (by kernel_rfl) (by kernel_rfl) (by kernel_rfl) (fun _ _ _ h => h) (by kernel_rfl) ?_ (by assumption) ?_
    rotate_left
    · (intro w' hSw; (try dsimp only at hSw); go_simp; first | done | with_reducible rfl)
    simp only [Act.put, List.setIfInBounds_toArray, List.set_cons_zero, List.set_cons_succ]
    refine rg_take (v := ?_) 3 rfl (by kernel_rfl) (by kernel_rfl) (by kernel_rfl) (fun _ _ _ h => h) (by kernel_rfl) ?_ (by assumption) ?_
    rotate_left
    · (intro w' hSw; (try dsimp only at hSw); go_simp; first | done | with_reducible rfl)
    simp only [Act.put, List.setIfInBounds_toArray, List.set_cons_zero, List.set_cons_succ]
    refine rg_take (v := ?_) 4 rfl (by kernel_rfl) (by kernel_rfl) (by kernel_rfl) (fun _ _ _ h => h) (by kernel_rfl) ?_ (by assumption) ?_
    rotate_left
    · (intro w' hSw; (try dsimp only at hSw); go_simp; first | done | with_reducible rfl)
    simp only [Act.put, List.setIfInBounds_toArray, List.set_cons_zero, List.set_cons_succ]
    refine rg_take (v := ?_) 5 rfl (by kernel_rfl) (by kernel_rfl) (by kernel_rfl) (fun _ _ _ h => h) (by kernel_rfl) ?_ (by assumption) ?_
    rotate_left
    · (intro w' hSw; (try dsimp only at hSw); go_simp; first | done | with_reducible rfl)
    simp only [Act.put, List.setIfInBounds_toArray, List.set_cons_zero, List.set_cons_succ]
    refine rg_take (v := ?_) 6 rfl (by kernel_rfl) (by kernel_rfl) (by kernel_rfl) (fun _ _ _ h => h) (by kernel_rfl) ?_ (by assumption) ?_
    rotate_left
    · (intro w' hSw; (try dsimp only at hSw); go_simp; first | done | with_reducible rfl)
    simp only [Act.put, List.setIfInBounds_toArray, List.set_cons_zero, List.set_cons_succ]
    refine rg_run 7 rfl (by kernel_rfl) (by kernel_rfl) (fun K hK => ?_)
    go_simp
    refine (HCA.out _ (by exact HRV.out.drew)).mono ?_
    rintro e w6 ⟨A6, c6, rfl, ho6, hb6⟩
    replace a0 := cell_later hb6 (by exact a0)
    replace k0 := cell_later hb6 (by exact k0)
    have HX6 := Lib.hid (own_below (by exact HX5.out) hb6)
    have HB6 := Lib.hid (below_chain (by first | exact HB5.out.drew | exact HB5.out) hb6)
    have HO6 := Lib.hid (own_mono ho6 (base' := w.heap.size) (by exact Nat.le_of_lt hbz))
    clear ho6 hb6 HX5 HRV
    go_wp2
    clear hHeld
    refine hK.out _ _ (by exact ⟨a0, k0⟩) (fun hHeld => ?_)
    clear hK K
    try simp only [Act.put, List.setIfInBounds_toArray, List.set_cons_zero, List.set_cons_succ]
    refine rg_run 8 rfl (by kernel_rfl) (by kernel_rfl) (fun K hK => ?_)
    go_simp
    refine (c_l22Small X C.2 A6 c6 C.1.length _ (by omega)).mono ?_
    rintro e w7 ⟨rfl, hb7⟩
    replace a0 := cell_later hb7 (by exact a0)
    replace k0 := cell_later hb7 (by exact k0)
    have HX7 := Lib.hid (own_below (by exact HX6.out) hb7)
    have HB7 := Lib.hid (below_chain (by exact HB6.out) hb7)
    have hso7 := own_below HO6.out hb7
    obtain ⟨WF, hWF, r0, r1, r2, r3⟩ := set3_ret HX7.out HB7.out hso7 X C.2
    have HF := Lib.hid hWF
    have R3 := Lib.hid r3
    have p0 := HX7.out.cellAt 0 (by decide)
    have p1 := HX7.out.cellAt 1 (by decide)
    have p2 := HX7.out.cellAt 2 (by decide)
    simp only [List.getElem?_cons_zero, List.getElem?_cons_succ] at p0 p1 p2
    have f0 := HX7.out.frozenAt 0
    have f1 := HX7.out.frozenAt 1
    have f2 := HX7.out.frozenAt 2
    clear hso7 r3 hb7 HX6 HO6
    go_wp2
    clear hHeld
    refine hK.out _ _ (by exact ⟨a0, k0⟩) (fun hHeld => ?_)
    clear hK K
    try simp only [Act.put, List.setIfInBounds_toArray, List.set_cons_zero, List.set_cons_succ]
    refine rg_take (v := ?_) 9 rfl (by kernel_rfl) (by kernel_rfl) (by kernel_rfl) (fun _ _ _ h => h) (by kernel_rfl) ?_ (by assumption) ?_
    rotate_left
    · (intro w' hSw; (try dsimp only at hSw); go_simp; first | done | with_reducible rfl)
    simp only [Act.put, List.setIfInBounds_toArray, List.set_cons_zero, List.set_cons_succ]
    refine rg_take (v := ?_) 10 rfl (by kernel_rfl) (by kernel_rfl) (by kernel_rfl) (fun _ _ _ h => h) (by kernel_rfl) ?_ (by assumption) ?_
    rotate_left
    · (intro w' hSw; (try dsimp only at hSw); go_simp; first | done | with_reducible rfl)
    simp only [Act.put, List.setIfInBounds_toArray, List.set_cons_zero, List.set_cons_succ]
    have s0' : WF.cell? ⟨w.heap.size, 0, none⟩ = some (.int .i64 X) := by rw [hWF]; go_simp
    have s2' : WF.cell? ⟨w2.heap.size, 0, none⟩ = some (.slice Av nv cv) := by rw [hWF]; go_simp
    clear hWF
    refine rg_run 11 rfl (by kernel_rfl) (by kernel_rfl) (fun K hK => ?_)
    go_simp
    have e := HF.out
    try simp only [List.length_nil] at e
    rw [← e]
    clear e
    clear hHeld
    refine hK.out _ _ (by exact ⟨s0', s2'⟩) (fun hHeld => ?_)
    clear hK K
    try simp only [Act.put, List.setIfInBounds_toArray, List.set_cons_zero, List.set_cons_succ]
    refine rg_take (v := ?_) 12 rfl (by kernel_rfl) (by kernel_rfl) (by kernel_rfl) (fun _ _ _ h => h) (by kernel_rfl) ?_ (by assumption) ?_
    rotate_left
    · (intro w' hSw; (try dsimp only at hSw); go_simp; first | done | with_reducible rfl)
    simp only [Act.put, List.setIfInBounds_toArray, List.set_cons_zero, List.set_cons_succ]
    refine wpAnyH_done (by kernel_rfl) ?_ _
    clear hHeld
    clear a0 k0 p0 p1 p2 f0 f1 f2 s0' s2'
    go_wp2_with (fail)
    refine bodyPost_ret (v := .tuple #[.agg #[.int .i64 X, .slice A6 C.1.length c6, .int .i64 C.2], .int .i64 0]) (by simp [results, Try.results32, go_sem, r0, r1, r2]) rfl (by obtain ⟨v1, v2, v3⟩ := join_ok HV.out; rw [v1, v2, v3, HV.out]; simp only [Int.toNat_natCast]; rw [HJD.out]; exact R3.out 0)
end Go.Proofs.Ytndihacmlkgkbaa
