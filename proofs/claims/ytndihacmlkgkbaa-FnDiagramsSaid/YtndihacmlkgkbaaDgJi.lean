/- Contract of the program's JoinDiagrams. Condition: the sizes. -/
import Derived.Test.YtndihacmlkgkbaaDgJa
namespace Go.Proofs.Ytndihacmlkgkbaa
open Go.RowKit Go.Maps Go.WideMaps

set_option maxHeartbeats 2000000 in
set_option maxRecDepth 100000 in
theorem c_JoinDiagrams (j X RA : Int) (A : Option Addr) (c n : Nat) (la : List Nd) (Y RB : Int) (A' : Option Addr) (c' n' : Nat) (lb : List Nd) (w : World) (hn : n = la.length) (hs : n ≤ 1099511627000) (hr : Rd w A (ndCells la)) (hn' : n' = lb.length) (hs' : n' ≤ 1099511627000) (hr' : Rd w A' (ndCells lb)) :
    Calls Try.prog 33 #[.int .i64 j, .agg #[.int .i64 X, .slice A n c, .int .i64 RA], .agg #[.int .i64 Y, .slice A' n' c', .int .i64 RB]] w (RetDC (joinX j X la RA Y lb RB) (joinL j X la RA Y lb RB) (joinR j X la RA Y lb RB) (joinC j X la RA Y lb RB) w) := by
  have a0 : (((w.alloc (.cells #[.int .i64 X, .slice A n c, .int .i64 RA] 29)).alloc (.cells #[.int .i64 Y, .slice A' n' c', .int .i64 RB] 29)).alloc (.cells #[.int .i64 0, .slice none 0 0, .int .i64 0] 29)).cell? ⟨w.heap.size, 0, none⟩ = some (.int .i64 X) := by go_simp
  have a1 : (((w.alloc (.cells #[.int .i64 X, .slice A n c, .int .i64 RA] 29)).alloc (.cells #[.int .i64 Y, .slice A' n' c', .int .i64 RB] 29)).alloc (.cells #[.int .i64 0, .slice none 0 0, .int .i64 0] 29)).cell? ⟨w.heap.size, 1, none⟩ = some (.slice A n c) := by go_simp
  have a2 : (((w.alloc (.cells #[.int .i64 X, .slice A n c, .int .i64 RA] 29)).alloc (.cells #[.int .i64 Y, .slice A' n' c', .int .i64 RB] 29)).alloc (.cells #[.int .i64 0, .slice none 0 0, .int .i64 0] 29)).cell? ⟨w.heap.size, 2, none⟩ = some (.int .i64 RA) := by go_simp
  have b0 : (((w.alloc (.cells #[.int .i64 X, .slice A n c, .int .i64 RA] 29)).alloc (.cells #[.int .i64 Y, .slice A' n' c', .int .i64 RB] 29)).alloc (.cells #[.int .i64 0, .slice none 0 0, .int .i64 0] 29)).cell? ⟨w.heap.size + 1, 0, none⟩ = some (.int .i64 Y) := by go_simp
  have b1 : (((w.alloc (.cells #[.int .i64 X, .slice A n c, .int .i64 RA] 29)).alloc (.cells #[.int .i64 Y, .slice A' n' c', .int .i64 RB] 29)).alloc (.cells #[.int .i64 0, .slice none 0 0, .int .i64 0] 29)).cell? ⟨w.heap.size + 1, 1, none⟩ = some (.slice A' n' c') := by go_simp
  have b2 : (((w.alloc (.cells #[.int .i64 X, .slice A n c, .int .i64 RA] 29)).alloc (.cells #[.int .i64 Y, .slice A' n' c', .int .i64 RB] 29)).alloc (.cells #[.int .i64 0, .slice none 0 0, .int .i64 0] 29)).cell? ⟨w.heap.size + 1, 2, none⟩ = some (.int .i64 RB) := by go_simp
  have HX : Hid ((((w.alloc (.cells #[.int .i64 X, .slice A n c, .int .i64 RA] 29)).alloc (.cells #[.int .i64 Y, .slice A' n' c', .int .i64 RB] 29)).alloc (.cells #[.int .i64 0, .slice none 0 0, .int .i64 0] 29)).ownsRow w.heap.size 29 3 (.slice (some ⟨w.heap.size + 1 + 1, 0, none⟩) 1 1) 1 [.int .i64 0, .slice none 0 0, .int .i64 0]) := Lib.hid (by
    have h := own_box ((w.alloc (.cells #[.int .i64 X, .slice A n c, .int .i64 RA] 29)).alloc (.cells #[.int .i64 Y, .slice A' n' c', .int .i64 RB] 29)) w.heap.size 29 [.int .i64 0, .slice none 0 0, .int .i64 0] 3 rfl (by simp; omega)
    simpa using h)
  have HB := Lib.hid (below_alloc (below_alloc (below_alloc (Below.refl w.heap.size w) (.cells #[.int .i64 X, .slice A n c, .int .i64 RA] 29)) (.cells #[.int .i64 Y, .slice A' n' c', .int .i64 RB] 29)) (.cells #[.int .i64 0, .slice none 0 0, .int .i64 0] 29))
  have HIA := Lib.hid (fun w1 h => c_IsDiagram X RA A c n la w1 hn hs h)
  have HIB := Lib.hid (fun w1 h => c_IsDiagram Y RB A' c' n' lb w1 hn' hs' h)
  have H := Lib.hid hr
  have H' := Lib.hid hr'
  have HN := Lib.hid hn
  have HN' := Lib.hid hn'
  clear hn hr hn' hr'
  go_enter Try.func33, Try.ntmps33
  go_wp2_with (fail)
  refine (HIA.out _ (H.out.below HB.out)).mono ?_
  rintro e w1 ⟨rfl, hb⟩
  replace a0 := cell_later hb a0
  replace a1 := cell_later hb a1
  replace a2 := cell_later hb a2
  replace b0 := cell_later hb b0
  replace b1 := cell_later hb b1
  replace b2 := cell_later hb b2
  have HB1 := Lib.hid (below_chain HB.out hb)
  have HX1 := Lib.hid (own_below HX.out hb)
  clear hb HIA HB HX
  rcases hd : isD X la RA with _ | _
  · have HV : Hid (joinC j X la RA Y lb RB = 1) := Lib.hid (by unfold joinC; rw [hd]; exact if_neg (by simp))
    clear hd
    have p0 := HX1.out.cellAt 0 (by decide)
    have p1 := HX1.out.cellAt 1 (by decide)
    have p2 := HX1.out.cellAt 2 (by decide)
    simp only [List.getElem?_cons_zero, List.getElem?_cons_succ] at p0 p1 p2
    have f0 := HX1.out.frozenAt 0
    have f1 := HX1.out.frozenAt 1
    have f2 := HX1.out.frozenAt 2
    obtain ⟨WF, hWF, r0, r1, r2, r3⟩ := set3_ret HX1.out HB1.out (l := []) (own_nil _ _ _ _) 0 0
    have HF := Lib.hid (show (((_ : World).setCell ⟨w.heap.size + 1 + 1, 0, none⟩ (.int .i64 0)).setCell ⟨w.heap.size + 1 + 1, 1, none⟩ (.slice none 0 0)).setCell ⟨w.heap.size + 1 + 1, 2, none⟩ (.int .i64 0) = WF from hWF.symm)
    have R3 := Lib.hid r3
    have R012 := Lib.hid (And.intro r0 (And.intro r1 r2))
    clear hWF r3 r0 r1 r2
    go_wp2_with (fail)
    clear p0 p1 p2 f0 f1 f2
    rw [HF.out]
    obtain ⟨r0, r1, r2⟩ := R012.out
    refine bodyPost_ret (v := .tuple #[.agg #[.int .i64 0, .slice none 0 0, .int .i64 0], .int .i64 1]) (by simp [results, Try.results33, go_sem, r0, r1, r2]) rfl (by obtain ⟨v1, v2, v3⟩ := join_bad HV.out (by decide); rw [v1, v2, v3, HV.out]; exact R3.out 1)
  have HDA := Lib.hid hd
  clear hd
  go_wp2_with (fail)
  refine (HIB.out _ (H'.out.below HB1.out)).mono ?_
  rintro e w2 ⟨rfl, hb⟩
  replace a0 := cell_later hb a0
  replace a1 := cell_later hb a1
  replace a2 := cell_later hb a2
  replace b0 := cell_later hb b0
  replace b1 := cell_later hb b1
  replace b2 := cell_later hb b2
  have HB2 := Lib.hid (below_chain HB1.out hb)
  have HX2 := Lib.hid (own_below HX1.out hb)
  clear hb HIB HB1 HX1
  rcases hd : isD Y lb RB with _ | _
  · have HV : Hid (joinC j X la RA Y lb RB = 1) := Lib.hid (by unfold joinC; rw [hd]; exact if_neg (by simp))
    clear hd
    have p0 := HX2.out.cellAt 0 (by decide)
    have p1 := HX2.out.cellAt 1 (by decide)
    have p2 := HX2.out.cellAt 2 (by decide)
    simp only [List.getElem?_cons_zero, List.getElem?_cons_succ] at p0 p1 p2
    have f0 := HX2.out.frozenAt 0
    have f1 := HX2.out.frozenAt 1
    have f2 := HX2.out.frozenAt 2
    obtain ⟨WF, hWF, r0, r1, r2, r3⟩ := set3_ret HX2.out HB2.out (l := []) (own_nil _ _ _ _) 0 0
    have HF := Lib.hid (show (((_ : World).setCell ⟨w.heap.size + 1 + 1, 0, none⟩ (.int .i64 0)).setCell ⟨w.heap.size + 1 + 1, 1, none⟩ (.slice none 0 0)).setCell ⟨w.heap.size + 1 + 1, 2, none⟩ (.int .i64 0) = WF from hWF.symm)
    have R3 := Lib.hid r3
    have R012 := Lib.hid (And.intro r0 (And.intro r1 r2))
    clear hWF r3 r0 r1 r2
    go_wp2_with (fail)
    clear p0 p1 p2 f0 f1 f2
    rw [HF.out]
    obtain ⟨r0, r1, r2⟩ := R012.out
    refine bodyPost_ret (v := .tuple #[.agg #[.int .i64 0, .slice none 0 0, .int .i64 0], .int .i64 1]) (by simp [results, Try.results33, go_sem, r0, r1, r2]) rfl (by obtain ⟨v1, v2, v3⟩ := join_bad HV.out (by decide); rw [v1, v2, v3, HV.out]; exact R3.out 1)
  have HDB := Lib.hid hd
  have HC : Hid (joinC j X la RA Y lb RB = if inB j 0 2 then (if X = Y then limC (joinD j X la lb RA.toNat RB.toNat) else 5) else 2) := Lib.hid (by unfold joinC; rw [HDA.out, hd]; exact if_pos ⟨rfl, rfl⟩)
  clear hd
  rcases h1 : inB j 0 2 with _ | _
  · have HV : Hid (joinC j X la RA Y lb RB = 2) := Lib.hid (by rw [HC.out, h1]; rfl)
    have p0 := HX2.out.cellAt 0 (by decide)
    have p1 := HX2.out.cellAt 1 (by decide)
    have p2 := HX2.out.cellAt 2 (by decide)
    simp only [List.getElem?_cons_zero, List.getElem?_cons_succ] at p0 p1 p2
    have f0 := HX2.out.frozenAt 0
    have f1 := HX2.out.frozenAt 1
    have f2 := HX2.out.frozenAt 2
    obtain ⟨WF, hWF, r0, r1, r2, r3⟩ := set3_ret HX2.out HB2.out (l := []) (own_nil _ _ _ _) 0 0
    have HF := Lib.hid (show (((_ : World).setCell ⟨w.heap.size + 1 + 1, 0, none⟩ (.int .i64 0)).setCell ⟨w.heap.size + 1 + 1, 1, none⟩ (.slice none 0 0)).setCell ⟨w.heap.size + 1 + 1, 2, none⟩ (.int .i64 0) = WF from hWF.symm)
    have R3 := Lib.hid r3
    have R012 := Lib.hid (And.intro r0 (And.intro r1 r2))
    clear hWF r3 r0 r1 r2
    go_wp2_with (first
      | (go_at_call 43
         refine (c_within _ _ _ _).mono ?_
         rintro e w' ⟨rfl, rfl⟩)
      )
    clear p0 p1 p2 f0 f1 f2
    rw [HF.out]
    obtain ⟨r0, r1, r2⟩ := R012.out
    refine bodyPost_ret (v := .tuple #[.agg #[.int .i64 0, .slice none 0 0, .int .i64 0], .int .i64 2]) (by simp [results, Try.results33, go_sem, r0, r1, r2]) rfl (by obtain ⟨v1, v2, v3⟩ := join_bad HV.out (by decide); rw [v1, v2, v3, HV.out]; exact R3.out 2)
  rcases Decidable.em (X = Y) with h3 | h3
  rotate_left
  · have HV : Hid (joinC j X la RA Y lb RB = 5) := Lib.hid (by rw [HC.out, h1]; exact if_neg h3)
    have h3b : (X != Y) = true := by simpa using h3
    clear h3
    have p0 := HX2.out.cellAt 0 (by decide)
    have p1 := HX2.out.cellAt 1 (by decide)
    have p2 := HX2.out.cellAt 2 (by decide)
    simp only [List.getElem?_cons_zero, List.getElem?_cons_succ] at p0 p1 p2
    have f0 := HX2.out.frozenAt 0
    have f1 := HX2.out.frozenAt 1
    have f2 := HX2.out.frozenAt 2
    obtain ⟨WF, hWF, r0, r1, r2, r3⟩ := set3_ret HX2.out HB2.out (l := []) (own_nil _ _ _ _) 0 0
    have HF := Lib.hid (show (((_ : World).setCell ⟨w.heap.size + 1 + 1, 0, none⟩ (.int .i64 0)).setCell ⟨w.heap.size + 1 + 1, 1, none⟩ (.slice none 0 0)).setCell ⟨w.heap.size + 1 + 1, 2, none⟩ (.int .i64 0) = WF from hWF.symm)
    have R3 := Lib.hid r3
    have R012 := Lib.hid (And.intro r0 (And.intro r1 r2))
    clear hWF r3 r0 r1 r2
    go_wp2_with (first
      | (go_at_call 43
         refine (c_within _ _ _ _).mono ?_
         rintro e w' ⟨rfl, rfl⟩)
      )
    clear p0 p1 p2 f0 f1 f2
    rw [HF.out]
    obtain ⟨r0, r1, r2⟩ := R012.out
    refine bodyPost_ret (v := .tuple #[.agg #[.int .i64 0, .slice none 0 0, .int .i64 0], .int .i64 5]) (by simp [results, Try.results33, go_sem, r0, r1, r2]) rfl (by obtain ⟨v1, v2, v3⟩ := join_bad HV.out (by decide); rw [v1, v2, v3, HV.out]; exact R3.out 5)
  subst h3
  have HC2 : Hid (joinC j X la RA X lb RB = limC (joinD j X la lb RA.toNat RB.toNat)) := Lib.hid (by rw [HC.out, h1, if_pos rfl, if_pos rfl])
  obtain ⟨hva, hRA0, hRA1, _, _⟩ := isD_VN HDA.out
  obtain ⟨hvb, hRB0, hRB1, _, _⟩ := isD_VN HDB.out
  obtain ⟨ra, rfl⟩ : ∃ r : Nat, RA = r := ⟨RA.toNat, by omega⟩
  obtain ⟨rb, rfl⟩ : ∃ r : Nat, RB = r := ⟨RB.toNat, by omega⟩
  rw [Int.toNat_natCast, Int.toNat_natCast] at HC2
  have HVA := Lib.hid hva
  have HVB := Lib.hid hvb
  rw [← HN.out] at hRA1
  rw [← HN'.out] at hRB1
  have hln := hva.n
  have hln' := hvb.n
  rw [← HN.out] at hln
  rw [← HN'.out] at hln'
  have hra : ra < n + 2 := by omega
  have hrb : rb < n' + 2 := by omega
  have hbl2 : w.heap.size + 1 + 1 < w2.heap.size := (HX2.out.lt _ rfl).2
  clear HC hva hvb
  have HBJ := Lib.hid (below_chain HB2.out (Below.refl w2.heap.size w2))
  have HJ := Lib.hid (c_joinAll j X ra rb A c n la A' c' n' lb w2 HN.out HN'.out HVA.out HVB.out (H.out.below HB2.out) (H'.out.below HB2.out) hra hrb)
  have HJO : Hid (JOut la.length lb.length ([], []) (ra + rb) (joinS j X la lb ra rb)) := Lib.hid (jwk_out (j := j) HVA.out HVB.out (ra + rb + 1) ([], []) ra rb (by omega) (by have := HN.out; omega) (by have := HN'.out; omega) (jinv0 _ _))
  have HJD : Hid (joinD j X la lb ra rb = canS (joinS j X la lb ra rb).1.2 (joinS j X la lb ra rb).2.toNat) := Lib.hid rfl
  generalize joinS j X la lb ra rb = JS at *
  have hbm : (lb.length + 2) * (la.length + 2) ≤ 4008004 := by
    have h4 := Nat.mul_le_mul (show lb.length + 2 ≤ 2002 by have := HN'.out; omega) (show la.length + 2 ≤ 2002 by have := HN.out; omega)
    omega
  have hjl := HJO.out.inv.lt.1
  have hj0 := HJO.out.v0
  have hj1 := HJO.out.v1
  obtain ⟨z, hz⟩ : ∃ z : Nat, JS.2 = z := ⟨JS.2.toNat, by omega⟩
  rw [hz, Int.toNat_natCast] at HJD
  rw [hz] at hj0 hj1 HJ
  have A0 := Lib.hid a0
  go_wp2_with (first
    | (go_at_call 43
       refine (c_within _ _ _ _).mono ?_
       rintro e w' ⟨rfl, rfl⟩)
    )
  refine HJ.out.mono ?_
  rintro e w3 ⟨bf, bmf, v, rfl, hfo, hb3⟩
  have HB3 := Lib.hid (below_chain HB2.out hb3)
  have HX3 := Lib.hid (own_below HX2.out hb3)
  have hbl3 : w.heap.size + 1 + 1 < w3.heap.size := (HX3.out.lt _ rfl).2
  obtain ⟨Av, cv, rfl⟩ := own_shape hfo.2.1
  have k0 := hfo.1.cellAt 0 (by decide)
  have k1 := hfo.1.cellAt 1 (by decide)
  simp only [List.getElem?_cons_zero, List.getElem?_cons_succ] at k0 k1
  have HLM := Lib.hid (c_limited bf X Av cv JS.1.2.length JS.1.2 z w3 rfl (by omega) HJO.out.inv.good HJO.out.inv.nodup (by omega) k0 k1 (Rd.own hfo.2.1))
  have HVX : Hid (joinX j X la ra X lb rb = resX (limC (canS JS.1.2 z)) X ∧ joinL j X la ra X lb rb = resL (limC (canS JS.1.2 z)) (canS JS.1.2 z) ∧ joinR j X la ra X lb rb = resR (limC (canS JS.1.2 z)) (canS JS.1.2 z) ∧ joinC j X la ra X lb rb = limC (canS JS.1.2 z)) := Lib.hid (by
    have e := HC2.out
    have e2 := HJD.out
    unfold joinX joinL joinR
    rw [e, Int.toNat_natCast, Int.toNat_natCast, e2]
    exact ⟨rfl, rfl, rfl, rfl⟩)
  generalize resX (limC (canS JS.1.2 z)) X = VX at *
  generalize resL (limC (canS JS.1.2 z)) (canS JS.1.2 z) = VL at *
  generalize resR (limC (canS JS.1.2 z)) (canS JS.1.2 z) = VR at *
  generalize limC (canS JS.1.2 z) = VC at *
  clear HJ HJO HJD HC2 hfo hb3 hjl hj0 hj1 hbm hz k0 k1 a0 a1 a2 b0 b1 b2 HBJ
  go_wp2_with (fail)
  refine HLM.out.mono ?_
  rintro e w9 ⟨A9, c9, rfl, ho9, hb9⟩
  have HX9 := Lib.hid (own_below HX3.out hb9)
  have HB9 := Lib.hid (below_chain HB3.out hb9)
  have hso2 := own_mono ho9 (base' := w.heap.size) (by omega)
  obtain ⟨WF, hWF, r0, r1, r2, r3⟩ := set3_ret HX9.out HB9.out hso2 VX VR
  have HF := Lib.hid hWF
  have R3 := Lib.hid r3
  have p0 := HX9.out.cellAt 0 (by decide)
  have p1 := HX9.out.cellAt 1 (by decide)
  have p2 := HX9.out.cellAt 2 (by decide)
  simp only [List.getElem?_cons_zero, List.getElem?_cons_succ] at p0 p1 p2
  have f0 := HX9.out.frozenAt 0
  have f1 := HX9.out.frozenAt 1
  have f2 := HX9.out.frozenAt 2
  clear hso2 r3 ho9 hb9 hWF
  go_wp2_with (fail)
  clear p0 p1 p2 f0 f1 f2
  rw [← HF.out]
  refine bodyPost_ret (v := .tuple #[.agg #[.int .i64 VX, .slice A9 VL.length c9, .int .i64 VR], .int .i64 VC]) (by simp [results, Try.results33, go_sem, r0, r1, r2]) rfl (by obtain ⟨v1, v2, v3, v4⟩ := HVX.out; rw [v1, v2, v3, v4]; exact R3.out VC)
theorem joinL_len (j X ra Y rb : Int) (la lb : List Nd) : (joinL j X la ra Y lb rb).length ≤ 1048576 := by
  unfold joinL resL
  split
  · rename_i h
    unfold joinC at h
    split at h
    · split at h
      · split at h
        · unfold limC at h
          split at h
          · simp at h
          · omega
        · simp at h
      · simp at h
    · simp at h
  · simp
end Go.Proofs.Ytndihacmlkgkbaa
