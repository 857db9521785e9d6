/- The walk of the law FnExactJoinDiagrams (printed by lawjoin.py). No condition but the lengths. -/
import Derived.Test.YtndihacmlkgkbaaDgJi
import Derived.Deep.Cut
import Derived.Deep.CutRange
import Derived.Deep.CutBlock
namespace Go.Proofs.Ytndihacmlkgkbaa
open Go.RowKit

theorem sz_big {n : Nat} (h : 1048576 < n) : szI 1048576 n = -1 := by unfold szI; rw [if_pos (by omega)]
theorem sz_ok {n : Nat} (h : n ≤ 1048576) : szI 1048576 n = 1048576 - n := by unfold szI; rw [if_neg (by omega)]
section
variable {P : Program} {l : List Oper} {Q : Exit → Act → World → Prop} {md : Region.Mode} {S : World → Prop} {fuel : Nat} {listed : Array Bool} {a : Act} {w : World}
theorem rg_two {oi oj : Oper} (i j : Nat) (hi : nthO l i = some oi) (hj : nthO l j = some oj) (hr : Region.ready md l.toArray listed = [i, j]) (hwi : Region.wanted oi (yielded l.toArray a.tmps) = true) (hwj : Region.wanted oj (yielded l.toArray a.tmps) = true)
    (h : ∀ K' : Act → World → Prop, Shut (∀ a w, S w → (S w → wpAnyH P md l.toArray Q S fuel (listed.setIfInBounds i true) a w) → K' a w) → Oper.wp P oi a w K' Q)
    (h' : ∀ K' : Act → World → Prop, Shut (∀ a w, S w → (S w → wpAnyH P md l.toArray Q S fuel (listed.setIfInBounds j true) a w) → K' a w) → Oper.wp P oj a w K' Q) : wpAnyH P md l.toArray Q S (fuel + 1) listed a w :=
  wpAnyH_ready hr (by simp) (AllReadyH.cons (nthO_get hi) (fun K hK => by rw [if_pos hwi]; exact h K hK) (AllReadyH.cons (nthO_get hj) (fun K hK => by rw [if_pos hwj]; exact h' K hK) AllReadyH.nil))
end
/-- A diagram is stored in its box. -/
theorem box_set {w0 W : World} {lo bd n : Nat} {xs : List Value} {ys : List Value} {v : Value} (hD : W.ownsRow lo 29 3 (.slice (some ⟨bd, 0, none⟩) 1 1) 1 xs) (hR : W.ownsRow lo 57 3 v n ys) (hB : Below w0.heap.size w0 W) (hl : w0.heap.size ≤ lo) (v0 v1 v2 : Value) :
    ∃ WF, WF = (((W.setCell ⟨bd, 0, none⟩ v0).setCell ⟨bd, 1, none⟩ v1).setCell ⟨bd, 2, none⟩ v2) ∧ WF.ownsRow lo 29 3 (.slice (some ⟨bd, 0, none⟩) 1 1) 1 [v0, v1, v2] ∧ WF.ownsRow lo 57 3 v n ys ∧ Below w0.heap.size w0 WF ∧ ∀ (a : Addr) (u : Value), W.cell? a = some u → a.block < lo → WF.cell? a = some u := by
  have h0 := hD.stored 0 v0
  have h1 := h0.1.stored 1 v1
  have h2 := h1.1.stored 2 v2
  have hbd := (own_ge hD).1
  have r0 := hR.kept h0.2 (.inr (fun e => own_ne hD hR (by decide) bd rfl e))
  have r1 := r0.kept h1.2 (.inr (fun e => own_ne h0.1 r0 (by decide) bd rfl e))
  have r2 := r1.kept h2.2 (.inr (fun e => own_ne h1.1 r1 (by decide) bd rfl e))
  have hx : ∃ a b c, xs = [a, b, c] := by
    have := hD.1
    match xs, this with
    | [a, b, c], _ => exact ⟨a, b, c, rfl⟩
  obtain ⟨_, _, _, rfl⟩ := hx
  refine ⟨_, rfl, h2.1, r2, below_set (below_set (below_set hB _ (by dsimp only; omega)) _ (by dsimp only; omega)) _ (by dsimp only; omega), fun a u hc hlt => ?_⟩
  have q : ∀ q', some bd = some q' → q' ≠ a.block := fun q' e => by simp only [Option.some.injEq] at e; omega
  exact cell_mark (cell_mark (cell_mark hc h0.2 q) h1.2 q) h2.2 q
set_option maxHeartbeats 4000000 in
set_option maxRecDepth 100000 in
theorem law_JoinDiagrams (j x r : Int) (A : Option Addr) (c n : Nat) (l : List Nd) (y s : Int) (A' : Option Addr) (c' n' : Nat) (l' : List Nd) (w : World) (hn : n = l.length) (hm : n ≤ 9223372036854775807) (hr : Rd w A (ndCells l)) (hn' : n' = l'.length) (hm' : n' ≤ 9223372036854775807) (hr' : Rd w A' (ndCells l')) :
    Calls Try.prog 9 #[.int .i64 j, .agg #[.int .i64 x, .slice A n c, .int .i64 r], .agg #[.int .i64 y, .slice A' n' c', .int .i64 s]] w fun e w' => e = .returned (.bool true) ∧ Below w.heap.size w w' := by
  have HN := Lib.hid hn
  have HN' := Lib.hid hn'
  have H := Lib.hid hr
  have H' := Lib.hid hr'
  clear hn hr hn' hr'
  have HZ := Lib.hid (fun w => c_szDiagram x r A c n 1048576 w hm (by omega) (by omega))
  rcases Nat.lt_or_ge 1048576 n with hs | hs
  · rw [sz_big hs] at HZ
    go_enter Try.func9, Try.ntmps9
    go_wp2_with (fail)
    refine (HZ.out _).mono ?_
    rintro e w1 ⟨rfl, hb⟩
    have B : Below w.heap.size w w1 := below_chain (by (repeat (first | exact Below.refl _ _ | assumption | refine below_alloc ?_ _ | refine below_drewN ?_ _ | refine below_set ?_ _ (by simp; try omega) | refine Below.drew ?_))) hb
    clear hb
    go_wp2_with (fail)
    go_ret
    exact ⟨rfl, B⟩
  rw [sz_ok hs] at HZ
  have HZ2 := Lib.hid (fun w => c_szDiagram y s A' c' n' (1048576 - n) w hm' (by omega) (by omega))
  obtain ⟨u, hu⟩ : ∃ u, szI (1048576 - n) n' = u := ⟨_, rfl⟩
  rw [hu] at HZ2
  have huc : (u = -1) ∨ (0 ≤ u ∧ n' ≤ 1048576) := by
    rw [← hu]
    unfold szI
    split
    · exact .inl rfl
    · exact .inr ⟨by omega, by omega⟩
  clear hu
  have a0 : ((w.alloc (.cells #[.int .i64 x, .slice A n c, .int .i64 r] 24)).alloc (.cells #[.int .i64 y, .slice A' n' c', .int .i64 s] 24)).cell? ⟨w.heap.size, 0, none⟩ = some (.int .i64 x) := by go_simp
  have a1 : ((w.alloc (.cells #[.int .i64 x, .slice A n c, .int .i64 r] 24)).alloc (.cells #[.int .i64 y, .slice A' n' c', .int .i64 s] 24)).cell? ⟨w.heap.size, 1, none⟩ = some (.slice A n c) := by go_simp
  have a2 : ((w.alloc (.cells #[.int .i64 x, .slice A n c, .int .i64 r] 24)).alloc (.cells #[.int .i64 y, .slice A' n' c', .int .i64 s] 24)).cell? ⟨w.heap.size, 2, none⟩ = some (.int .i64 r) := by go_simp
  have b0 : ((w.alloc (.cells #[.int .i64 x, .slice A n c, .int .i64 r] 24)).alloc (.cells #[.int .i64 y, .slice A' n' c', .int .i64 s] 24)).cell? ⟨w.heap.size + 1, 0, none⟩ = some (.int .i64 y) := by go_simp
  have b1 : ((w.alloc (.cells #[.int .i64 x, .slice A n c, .int .i64 r] 24)).alloc (.cells #[.int .i64 y, .slice A' n' c', .int .i64 s] 24)).cell? ⟨w.heap.size + 1, 1, none⟩ = some (.slice A' n' c') := by go_simp
  have b2 : ((w.alloc (.cells #[.int .i64 x, .slice A n c, .int .i64 r] 24)).alloc (.cells #[.int .i64 y, .slice A' n' c', .int .i64 s] 24)).cell? ⟨w.heap.size + 1, 2, none⟩ = some (.int .i64 s) := by go_simp
  have hBB := below_alloc (below_alloc (Below.refl w.heap.size w) (.cells #[.int .i64 x, .slice A n c, .int .i64 r] 24)) (.cells #[.int .i64 y, .slice A' n' c', .int .i64 s] 24)
  go_enter Try.func9, Try.ntmps9
  go_wp2_with (fail)
  refine (HZ.out _).mono ?_
  rintro e w1 ⟨rfl, hb⟩
  replace a0 := cell_later hb (by exact a0)
  replace a1 := cell_later hb (by exact a1)
  replace a2 := cell_later hb (by exact a2)
  replace b0 := cell_later hb (by exact b0)
  replace b1 := cell_later hb (by exact b1)
  replace b2 := cell_later hb (by exact b2)
  have B1 : Below w.heap.size w w1 := below_chain hBB hb
  clear hb hBB
  go_wp2_with (fail)
  refine (HZ2.out _).mono ?_
  rintro e w2 ⟨rfl, hb⟩
  replace a0 := cell_later hb (by exact a0)
  replace a1 := cell_later hb (by exact a1)
  replace a2 := cell_later hb (by exact a2)
  replace b0 := cell_later hb (by exact b0)
  replace b1 := cell_later hb (by exact b1)
  replace b2 := cell_later hb (by exact b2)
  have B : Below w.heap.size w w2 := below_chain B1 hb
  clear hb B1
  rcases huc with rfl | ⟨hu0, hs'⟩
  · go_wp2_with (fail)
    go_ret
    exact ⟨rfl, B⟩
  have HT := Lib.hid (fun w' h => c_toDiagram x r A c n l w' HN.out hs h)
  have HT' := Lib.hid (fun w' h => c_toDiagram y s A' c' n' l' w' HN'.out hs' h)
  have HSI := Lib.hid (fun a q a' q' w' h h' => c_sJoinDiagrams j x r a q l.length l y s a' q' l'.length l' w' rfl (by have := HN.out; omega) h rfl (by have := HN'.out; omega) h')
  have HI := Lib.hid (fun a q a' q' w' h h' => c_JoinDiagrams j x r a q l.length l y s a' q' l'.length l' w' rfl (by have := HN.out; omega) h rfl (by have := HN'.out; omega) h')
  have HE := Lib.hid (fun a q a' q' w' h h' => c_eqDiagram x r a a' q q' l.length l.length l w' rfl rfl (by have := HN.out; omega) h h')
  have HE' := Lib.hid (fun a q a' q' w' h h' => c_eqDiagram y s a a' q q' l'.length l'.length l' w' rfl rfl (by have := HN'.out; omega) h h')
  have HD : Hid ((joinL j x l r y l' s).length ≤ 1048576) := Lib.hid (joinL_len j x r y s l l')
  generalize joinX j x l r y l' s = X2 at HSI HI
  generalize joinR j x l r y l' s = R2 at HSI HI
  generalize joinL j x l r y l' s = L2 at HSI HI HD
  generalize joinC j x l r y l' s = E at HSI HI
  have HQ := Lib.hid (fun a q a' q' w' h h' => c_eqDiagram X2 R2 a a' q q' L2.length L2.length L2 w' rfl rfl (by have := HD.out; omega) h h')
  go_upto_region 8 with (fail)
  have HB0 := Lib.hid B
  have HBW := Lib.hid (Below.refl w2.heap.size w2)
  have HSZ := Lib.hid (Nat.le_refl w2.heap.size)
  have hlt0 := World.block_lt_of_cell? _ _ a0
  have hlt1 := World.block_lt_of_cell? _ _ b0
  have HLT0 := Lib.hid (show w.heap.size < w2.heap.size ∧ w.heap.size + 1 < w2.heap.size from ⟨hlt0, hlt1⟩)
  clear hlt0 hlt1
  have A0 := Lib.hid a0
  have A1 := Lib.hid a1
  have A2 := Lib.hid a2
  have B0 := Lib.hid b0
  have B1 := Lib.hid b1
  have B2 := Lib.hid b2
  go_cut [8, 9] from 29 to 37 (fun u8 u9 wx => ∃ bw Aw cw, u8 = .pointer (some ⟨bw, 0, none⟩) ∧ u9 = .int .i64 E ∧ Hid (wx.ownsRow w2.heap.size 29 3 (.slice (some ⟨bw, 0, none⟩) 1 1) 1 [.int .i64 X2, .slice Aw L2.length cw, .int .i64 R2] ∧ wx.ownsRow w2.heap.size 57 3 (.slice Aw L2.length cw) L2.length (ndCells L2) ∧ Below w2.heap.size w2 wx))
  case first =>
    clear HE HE' HI HQ B A0 A1 A2 B0 B1 B2
    refine wp_region_held_drew (S := (fun w' => (w'.cell? ⟨w.heap.size, 0, none⟩ = some (.int .i64 x) ∧ w'.cell? ⟨w.heap.size, 1, none⟩ = some (.slice A n c) ∧ w'.cell? ⟨w.heap.size, 2, none⟩ = some (.int .i64 r)) ∧ w'.cell? ⟨w.heap.size + 1, 0, none⟩ = some (.int .i64 y) ∧ w'.cell? ⟨w.heap.size + 1, 1, none⟩ = some (.slice A' n' c') ∧ w'.cell? ⟨w.heap.size + 1, 2, none⟩ = some (.int .i64 s))) (by kernel_rfl) ?_ (fun hHeld => ?_)
    · exact ⟨⟨a0, a1, a2⟩, b0, b1, b2⟩
    refine rg_take (v := ?_) 0 rfl (by kernel_rfl) (by kernel_rfl) (by kernel_rfl) (fun _ _ _ h => h) (by kernel_rfl) ?_ (by assumption) ?_
    rotate_left
    · (intro w' hSw; (try dsimp only at hSw); go_simp; first | done | with_reducible rfl)
    simp only [Act.put, List.setIfInBounds_toArray, List.set_cons_zero, List.set_cons_succ]
    refine rg_take (v := ?_) 1 rfl (by kernel_rfl) (by kernel_rfl) (by kernel_rfl) (fun _ _ _ h => h) (by kernel_rfl) ?_ (by assumption) ?_
    rotate_left
    · (intro w' hSw; (try dsimp only at hSw); go_simp; first | done | with_reducible rfl)
    simp only [Act.put, List.setIfInBounds_toArray, List.set_cons_zero, List.set_cons_succ]
    refine rg_take (v := ?_) 3 rfl (by kernel_rfl) (by kernel_rfl) (by kernel_rfl) (fun _ _ _ h => h) (by kernel_rfl) ?_ (by assumption) ?_
    rotate_left
    · (intro w' hSw; (try dsimp only at hSw); go_simp; first | done | with_reducible rfl)
    simp only [Act.put, List.setIfInBounds_toArray, List.set_cons_zero, List.set_cons_succ]
    refine rg_two 2 9 rfl rfl (by kernel_rfl) (by kernel_rfl) (by kernel_rfl) (fun K hK => ?_) (fun K hK => ?_)
    · go_simp
      refine (HT.out _ (H.out.below (by first | exact HB0.out | exact HB0.out.drew))).mono ?_
      rintro e v1 ⟨Ap, cp, rfl, ho, hb⟩
      have P1 := Lib.hid (Rd.own ho)
      replace a0 := cell_later hb (by exact a0)
      replace a1 := cell_later hb (by exact a1)
      replace a2 := cell_later hb (by exact a2)
      replace b0 := cell_later hb (by exact b0)
      replace b1 := cell_later hb (by exact b1)
      replace b2 := cell_later hb (by exact b2)
      have HB0 := Lib.hid (below_chain (by first | exact HB0.out | exact HB0.out.drew) hb)
      have HBW := Lib.hid (show Below w2.heap.size w2 v1 from below_chain (by first | exact HBW.out | exact HBW.out.drew) hb)
      have HSZ := Lib.hid (show w2.heap.size ≤ v1.heap.size from HBW.out.size)
      clear ho hb
      go_wp2
      clear hHeld
      refine hK.out _ _ (by exact ⟨⟨a0, a1, a2⟩, b0, b1, b2⟩) (fun hHeld => ?_)
      clear hK K
      try simp only [Act.put, List.setIfInBounds_toArray, List.set_cons_zero, List.set_cons_succ]
      refine rg_two 4 9 rfl rfl (by kernel_rfl) (by kernel_rfl) (by kernel_rfl) (fun K hK => ?_) (fun K hK => ?_)
      · go_simp
        refine (HT'.out _ (H'.out.below (by first | exact HB0.out | exact HB0.out.drew))).mono ?_
        rintro e v2 ⟨Aq, cq, rfl, ho, hb⟩
        have P2 := Lib.hid (Rd.own ho)
        have P1 := Lib.hid (Rd.below (by exact P1.out) hb)
        replace a0 := cell_later hb (by exact a0)
        replace a1 := cell_later hb (by exact a1)
        replace a2 := cell_later hb (by exact a2)
        replace b0 := cell_later hb (by exact b0)
        replace b1 := cell_later hb (by exact b1)
        replace b2 := cell_later hb (by exact b2)
        have HB0 := Lib.hid (below_chain (by first | exact HB0.out | exact HB0.out.drew) hb)
        have HBW := Lib.hid (show Below w2.heap.size w2 v2 from below_chain (by first | exact HBW.out | exact HBW.out.drew) hb)
        have HSZ := Lib.hid (show w2.heap.size ≤ v2.heap.size from HBW.out.size)
        clear ho hb
        go_wp2
        clear hHeld
        refine hK.out _ _ (by exact ⟨⟨a0, a1, a2⟩, b0, b1, b2⟩) (fun hHeld => ?_)
        clear hK K
        try simp only [Act.put, List.setIfInBounds_toArray, List.set_cons_zero, List.set_cons_succ]
        refine rg_two 5 9 rfl rfl (by kernel_rfl) (by kernel_rfl) (by kernel_rfl) (fun K hK => ?_) (fun K hK => ?_)
        · go_simp
          refine (HSI.out _ _ _ _ _ (by exact P1.out) (by exact P2.out)).mono ?_
          rintro e v3 ⟨Aw, cw, rfl, ho, hb⟩
          have HOW := Lib.hid (own_mono ho (base' := w2.heap.size) (by first | exact HSZ.out | exact Nat.le_of_lt HSZ.out))
          replace a0 := cell_later hb (by exact a0)
          replace a1 := cell_later hb (by exact a1)
          replace a2 := cell_later hb (by exact a2)
          replace b0 := cell_later hb (by exact b0)
          replace b1 := cell_later hb (by exact b1)
          replace b2 := cell_later hb (by exact b2)
          have HB0 := Lib.hid (below_chain (by first | exact HB0.out | exact HB0.out.drew) hb)
          have HBW := Lib.hid (show Below w2.heap.size w2 v3 from below_chain (by first | exact HBW.out | exact HBW.out.drew) hb)
          have HSZ := Lib.hid (show w2.heap.size ≤ v3.heap.size from HBW.out.size)
          clear ho hb
          go_wp2
          clear hHeld
          refine hK.out _ _ (by exact ⟨⟨a0, a1, a2⟩, b0, b1, b2⟩) (fun hHeld => ?_)
          clear hK K
          try simp only [Act.put, List.setIfInBounds_toArray, List.set_cons_zero, List.set_cons_succ]
          refine rg_take (v := ?_) 6 rfl (by kernel_rfl) (by kernel_rfl) (by kernel_rfl) (fun _ _ _ h => h) (by kernel_rfl) ?_ (by assumption) ?_
          rotate_left
          · (intro w' hSw; (try dsimp only at hSw); go_simp; first | done | with_reducible rfl)
          simp only [Act.put, List.setIfInBounds_toArray, List.set_cons_zero, List.set_cons_succ]
          refine rg_take (v := ?_) 7 rfl (by kernel_rfl) (by kernel_rfl) (by kernel_rfl) (fun _ _ _ h => h) (by kernel_rfl) ?_ (by assumption) ?_
          rotate_left
          · (intro w' hSw; (try dsimp only at hSw); go_simp; first | done | with_reducible rfl)
          simp only [Act.put, List.setIfInBounds_toArray, List.set_cons_zero, List.set_cons_succ]
          refine rg_take (v := ?_) 8 rfl (by kernel_rfl) (by kernel_rfl) (by kernel_rfl) (fun _ _ _ h => h) (by kernel_rfl) ?_ (by assumption) ?_
          rotate_left
          · (intro w' hSw; (try dsimp only at hSw); go_simp; first | done | with_reducible rfl)
          simp only [Act.put, List.setIfInBounds_toArray, List.set_cons_zero, List.set_cons_succ]
          refine rg_run 9 rfl (by kernel_rfl) (by kernel_rfl) (fun K hK => ?_)
          go_simp
          have hal := below_alloc (Below.refl v3.heap.size v3) (.cells #[.int .i64 0, .slice none 0 0, .int .i64 0] 29)
          replace a0 := cell_later hal (by exact a0)
          replace a1 := cell_later hal (by exact a1)
          replace a2 := cell_later hal (by exact a2)
          replace b0 := cell_later hal (by exact b0)
          replace b1 := cell_later hal (by exact b1)
          replace b2 := cell_later hal (by exact b2)
          have HXW := Lib.hid (own_box v3 w2.heap.size 29 [.int .i64 0, .slice none 0 0, .int .i64 0] 3 rfl (by exact HSZ.out))
          dsimp only [List.toArray] at HXW
          have HB0 := Lib.hid (below_chain (by exact HB0.out) hal)
          have HBW := Lib.hid (below_chain (by exact HBW.out) hal)
          have HOW := Lib.hid (own_below (by exact HOW.out) hal)
          have HSZn := Lib.hid (show w2.heap.size ≤ (v3.alloc (.cells #[.int .i64 0, .slice none 0 0, .int .i64 0] 29)).heap.size from HBW.out.size)
          clear hal HSZ
          have HSZ := HSZn
          clear HSZn
          generalize v3.alloc (.cells #[.int .i64 0, .slice none 0 0, .int .i64 0] 29) = Gv3 at *
          generalize v3.heap.size = gv3 at *
          clear hHeld
          refine hK.out _ _ (by exact ⟨⟨a0, a1, a2⟩, b0, b1, b2⟩) (fun hHeld => ?_)
          clear hK K
          try simp only [Act.put, List.setIfInBounds_toArray, List.set_cons_zero, List.set_cons_succ]
          have p0 := HXW.out.cellAt 0 (by decide)
          have p1 := HXW.out.cellAt 1 (by decide)
          have p2 := HXW.out.cellAt 2 (by decide)
          simp only [List.getElem?_cons_zero, List.getElem?_cons_succ] at p0 p1 p2
          have f0 := HXW.out.frozenAt 0
          have f1 := HXW.out.frozenAt 1
          have f2 := HXW.out.frozenAt 2
          obtain ⟨WF, hWF, hw1, hw2, hw3, hw4⟩ := box_set HXW.out HOW.out HBW.out (Nat.le_refl _) (.int .i64 X2) (.slice Aw L2.length cw) (.int .i64 R2)
          have HF := Lib.hid hWF
          replace a0 := hw4 _ _ (by exact a0) (by dsimp only; have := HLT0.out; omega)
          replace a1 := hw4 _ _ (by exact a1) (by dsimp only; have := HLT0.out; omega)
          replace a2 := hw4 _ _ (by exact a2) (by dsimp only; have := HLT0.out; omega)
          replace b0 := hw4 _ _ (by exact b0) (by dsimp only; have := HLT0.out; omega)
          replace b1 := hw4 _ _ (by exact b1) (by dsimp only; have := HLT0.out; omega)
          replace b2 := hw4 _ _ (by exact b2) (by dsimp only; have := HLT0.out; omega)
          have H1 := Lib.hid hw1
          have H2 := Lib.hid hw2
          have H3 := Lib.hid hw3
          clear hWF hw1 hw2 hw3 hw4
          refine rg_run 10 rfl (by kernel_rfl) (by kernel_rfl) (fun K hK => ?_)
          go_simp
          rw [← HF.out]
          clear hHeld
          refine hK.out _ _ (by exact ⟨⟨a0, a1, a2⟩, b0, b1, b2⟩) (fun hHeld => ?_)
          clear hK K
          try simp only [Act.put, List.setIfInBounds_toArray, List.set_cons_zero, List.set_cons_succ]
          refine rg_take (v := ?_) 11 rfl (by kernel_rfl) (by kernel_rfl) (by kernel_rfl) (fun _ _ _ h => h) (by kernel_rfl) ?_ (by assumption) ?_
          rotate_left
          · (intro w' hSw; (try dsimp only at hSw); go_simp; first | done | with_reducible rfl)
          simp only [Act.put, List.setIfInBounds_toArray, List.set_cons_zero, List.set_cons_succ]
          refine wpAnyH_done (by kernel_rfl) ?_ _
          clear hHeld
          clear p0 p1 p2 f0 f1 f2 a0 a1 a2 b0 b1 b2
          go_wp2
          go_meet
          case rel => exact ⟨_, Aw, cw, rfl, rfl, Lib.hid ⟨by first | exact H1.out | exact own_drew H1.out, by first | exact H2.out | exact own_drew H2.out, by first | exact H3.out | exact H3.out.drew⟩⟩
        · go_simp
          have hal := below_alloc (Below.refl v2.heap.size v2) (.cells #[.int .i64 0, .slice none 0 0, .int .i64 0] 29)
          replace a0 := cell_later hal (by exact a0)
          replace a1 := cell_later hal (by exact a1)
          replace a2 := cell_later hal (by exact a2)
          replace b0 := cell_later hal (by exact b0)
          replace b1 := cell_later hal (by exact b1)
          replace b2 := cell_later hal (by exact b2)
          have HXW := Lib.hid (own_box v2 w2.heap.size 29 [.int .i64 0, .slice none 0 0, .int .i64 0] 3 rfl (by exact HSZ.out))
          dsimp only [List.toArray] at HXW
          have HB0 := Lib.hid (below_chain (by exact HB0.out) hal)
          have HBW := Lib.hid (below_chain (by exact HBW.out) hal)
          have P1 := Lib.hid (Rd.below (by exact P1.out) hal)
          have P2 := Lib.hid (Rd.below (by exact P2.out) hal)
          have HSZn := Lib.hid (show w2.heap.size ≤ (v2.alloc (.cells #[.int .i64 0, .slice none 0 0, .int .i64 0] 29)).heap.size from HBW.out.size)
          clear hal HSZ
          have HSZ := HSZn
          clear HSZn
          generalize v2.alloc (.cells #[.int .i64 0, .slice none 0 0, .int .i64 0] 29) = Gv2 at *
          generalize v2.heap.size = gv2 at *
          clear hHeld
          refine hK.out _ _ (by exact ⟨⟨a0, a1, a2⟩, b0, b1, b2⟩) (fun hHeld => ?_)
          clear hK K
          try simp only [Act.put, List.setIfInBounds_toArray, List.set_cons_zero, List.set_cons_succ]
          refine rg_run 5 rfl (by kernel_rfl) (by kernel_rfl) (fun K hK => ?_)
          go_simp
          refine (HSI.out _ _ _ _ _ (by exact P1.out) (by exact P2.out)).mono ?_
          rintro e v4 ⟨Aw, cw, rfl, ho, hb⟩
          have HOW := Lib.hid (own_mono ho (base' := w2.heap.size) (by first | exact HSZ.out | exact Nat.le_of_lt HSZ.out))
          replace a0 := cell_later hb (by exact a0)
          replace a1 := cell_later hb (by exact a1)
          replace a2 := cell_later hb (by exact a2)
          replace b0 := cell_later hb (by exact b0)
          replace b1 := cell_later hb (by exact b1)
          replace b2 := cell_later hb (by exact b2)
          have HXW := Lib.hid (own_below (by first | exact HXW.out | exact own_drew HXW.out) hb)
          have HB0 := Lib.hid (below_chain (by first | exact HB0.out | exact HB0.out.drew) hb)
          have HBW := Lib.hid (show Below w2.heap.size w2 v4 from below_chain (by first | exact HBW.out | exact HBW.out.drew) hb)
          have HSZ := Lib.hid (show w2.heap.size ≤ v4.heap.size from HBW.out.size)
          clear ho hb
          go_wp2
          clear hHeld
          refine hK.out _ _ (by exact ⟨⟨a0, a1, a2⟩, b0, b1, b2⟩) (fun hHeld => ?_)
          clear hK K
          try simp only [Act.put, List.setIfInBounds_toArray, List.set_cons_zero, List.set_cons_succ]
          refine rg_take (v := ?_) 6 rfl (by kernel_rfl) (by kernel_rfl) (by kernel_rfl) (fun _ _ _ h => h) (by kernel_rfl) ?_ (by assumption) ?_
          rotate_left
          · (intro w' hSw; (try dsimp only at hSw); go_simp; first | done | with_reducible rfl)
          simp only [Act.put, List.setIfInBounds_toArray, List.set_cons_zero, List.set_cons_succ]
          refine rg_take (v := ?_) 7 rfl (by kernel_rfl) (by kernel_rfl) (by kernel_rfl) (fun _ _ _ h => h) (by kernel_rfl) ?_ (by assumption) ?_
          rotate_left
          · (intro w' hSw; (try dsimp only at hSw); go_simp; first | done | with_reducible rfl)
          simp only [Act.put, List.setIfInBounds_toArray, List.set_cons_zero, List.set_cons_succ]
          refine rg_take (v := ?_) 8 rfl (by kernel_rfl) (by kernel_rfl) (by kernel_rfl) (fun _ _ _ h => h) (by kernel_rfl) ?_ (by assumption) ?_
          rotate_left
          · (intro w' hSw; (try dsimp only at hSw); go_simp; first | done | with_reducible rfl)
          simp only [Act.put, List.setIfInBounds_toArray, List.set_cons_zero, List.set_cons_succ]
          have p0 := HXW.out.cellAt 0 (by decide)
          have p1 := HXW.out.cellAt 1 (by decide)
          have p2 := HXW.out.cellAt 2 (by decide)
          simp only [List.getElem?_cons_zero, List.getElem?_cons_succ] at p0 p1 p2
          have f0 := HXW.out.frozenAt 0
          have f1 := HXW.out.frozenAt 1
          have f2 := HXW.out.frozenAt 2
          obtain ⟨WF, hWF, hw1, hw2, hw3, hw4⟩ := box_set HXW.out HOW.out HBW.out (Nat.le_refl _) (.int .i64 X2) (.slice Aw L2.length cw) (.int .i64 R2)
          have HF := Lib.hid hWF
          replace a0 := hw4 _ _ (by exact a0) (by dsimp only; have := HLT0.out; omega)
          replace a1 := hw4 _ _ (by exact a1) (by dsimp only; have := HLT0.out; omega)
          replace a2 := hw4 _ _ (by exact a2) (by dsimp only; have := HLT0.out; omega)
          replace b0 := hw4 _ _ (by exact b0) (by dsimp only; have := HLT0.out; omega)
          replace b1 := hw4 _ _ (by exact b1) (by dsimp only; have := HLT0.out; omega)
          replace b2 := hw4 _ _ (by exact b2) (by dsimp only; have := HLT0.out; omega)
          have H1 := Lib.hid hw1
          have H2 := Lib.hid hw2
          have H3 := Lib.hid hw3
          clear hWF hw1 hw2 hw3 hw4
          refine rg_run 10 rfl (by kernel_rfl) (by kernel_rfl) (fun K hK => ?_)
          go_simp
          rw [← HF.out]
          clear hHeld
          refine hK.out _ _ (by exact ⟨⟨a0, a1, a2⟩, b0, b1, b2⟩) (fun hHeld => ?_)
          clear hK K
          try simp only [Act.put, List.setIfInBounds_toArray, List.set_cons_zero, List.set_cons_succ]
          refine rg_take (v := ?_) 11 rfl (by kernel_rfl) (by kernel_rfl) (by kernel_rfl) (fun _ _ _ h => h) (by kernel_rfl) ?_ (by assumption) ?_
          rotate_left
          · (intro w' hSw; (try dsimp only at hSw); go_simp; first | done | with_reducible rfl)
          simp only [Act.put, List.setIfInBounds_toArray, List.set_cons_zero, List.set_cons_succ]
          refine wpAnyH_done (by kernel_rfl) ?_ _
          clear hHeld
          clear p0 p1 p2 f0 f1 f2 a0 a1 a2 b0 b1 b2
          go_wp2
          go_meet
          case rel => exact ⟨_, Aw, cw, rfl, rfl, Lib.hid ⟨by first | exact H1.out | exact own_drew H1.out, by first | exact H2.out | exact own_drew H2.out, by first | exact H3.out | exact H3.out.drew⟩⟩
      · go_simp
        have hal := below_alloc (Below.refl v1.heap.size v1) (.cells #[.int .i64 0, .slice none 0 0, .int .i64 0] 29)
        replace a0 := cell_later hal (by exact a0)
        replace a1 := cell_later hal (by exact a1)
        replace a2 := cell_later hal (by exact a2)
        replace b0 := cell_later hal (by exact b0)
        replace b1 := cell_later hal (by exact b1)
        replace b2 := cell_later hal (by exact b2)
        have HXW := Lib.hid (own_box v1 w2.heap.size 29 [.int .i64 0, .slice none 0 0, .int .i64 0] 3 rfl (by exact HSZ.out))
        dsimp only [List.toArray] at HXW
        have HB0 := Lib.hid (below_chain (by exact HB0.out) hal)
        have HBW := Lib.hid (below_chain (by exact HBW.out) hal)
        have P1 := Lib.hid (Rd.below (by exact P1.out) hal)
        have HSZn := Lib.hid (show w2.heap.size ≤ (v1.alloc (.cells #[.int .i64 0, .slice none 0 0, .int .i64 0] 29)).heap.size from HBW.out.size)
        clear hal HSZ
        have HSZ := HSZn
        clear HSZn
        generalize v1.alloc (.cells #[.int .i64 0, .slice none 0 0, .int .i64 0] 29) = Gv1 at *
        generalize v1.heap.size = gv1 at *
        clear hHeld
        refine hK.out _ _ (by exact ⟨⟨a0, a1, a2⟩, b0, b1, b2⟩) (fun hHeld => ?_)
        clear hK K
        try simp only [Act.put, List.setIfInBounds_toArray, List.set_cons_zero, List.set_cons_succ]
        refine rg_run 4 rfl (by kernel_rfl) (by kernel_rfl) (fun K hK => ?_)
        go_simp
        refine (HT'.out _ (H'.out.below (by first | exact HB0.out | exact HB0.out.drew))).mono ?_
        rintro e v5 ⟨Aq, cq, rfl, ho, hb⟩
        have P2 := Lib.hid (Rd.own ho)
        have P1 := Lib.hid (Rd.below (by exact P1.out) hb)
        replace a0 := cell_later hb (by exact a0)
        replace a1 := cell_later hb (by exact a1)
        replace a2 := cell_later hb (by exact a2)
        replace b0 := cell_later hb (by exact b0)
        replace b1 := cell_later hb (by exact b1)
        replace b2 := cell_later hb (by exact b2)
        have HXW := Lib.hid (own_below (by first | exact HXW.out | exact own_drew HXW.out) hb)
        have HB0 := Lib.hid (below_chain (by first | exact HB0.out | exact HB0.out.drew) hb)
        have HBW := Lib.hid (show Below w2.heap.size w2 v5 from below_chain (by first | exact HBW.out | exact HBW.out.drew) hb)
        have HSZ := Lib.hid (show w2.heap.size ≤ v5.heap.size from HBW.out.size)
        clear ho hb
        go_wp2
        clear hHeld
        refine hK.out _ _ (by exact ⟨⟨a0, a1, a2⟩, b0, b1, b2⟩) (fun hHeld => ?_)
        clear hK K
        try simp only [Act.put, List.setIfInBounds_toArray, List.set_cons_zero, List.set_cons_succ]
        refine rg_run 5 rfl (by kernel_rfl) (by kernel_rfl) (fun K hK => ?_)
        go_simp
        refine (HSI.out _ _ _ _ _ (by exact P1.out) (by exact P2.out)).mono ?_
        rintro e v6 ⟨Aw, cw, rfl, ho, hb⟩
        have HOW := Lib.hid (own_mono ho (base' := w2.heap.size) (by first | exact HSZ.out | exact Nat.le_of_lt HSZ.out))
        replace a0 := cell_later hb (by exact a0)
        replace a1 := cell_later hb (by exact a1)
        replace a2 := cell_later hb (by exact a2)
        replace b0 := cell_later hb (by exact b0)
        replace b1 := cell_later hb (by exact b1)
        replace b2 := cell_later hb (by exact b2)
        have HXW := Lib.hid (own_below (by first | exact HXW.out | exact own_drew HXW.out) hb)
        have HB0 := Lib.hid (below_chain (by first | exact HB0.out | exact HB0.out.drew) hb)
        have HBW := Lib.hid (show Below w2.heap.size w2 v6 from below_chain (by first | exact HBW.out | exact HBW.out.drew) hb)
        have HSZ := Lib.hid (show w2.heap.size ≤ v6.heap.size from HBW.out.size)
        clear ho hb
        go_wp2
        clear hHeld
        refine hK.out _ _ (by exact ⟨⟨a0, a1, a2⟩, b0, b1, b2⟩) (fun hHeld => ?_)
        clear hK K
        try simp only [Act.put, List.setIfInBounds_toArray, List.set_cons_zero, List.set_cons_succ]
        refine rg_take (v := ?_) 6 rfl (by kernel_rfl) (by kernel_rfl) (by kernel_rfl) (fun _ _ _ h => h) (by kernel_rfl) ?_ (by assumption) ?_
        rotate_left
        · (intro w' hSw; (try dsimp only at hSw); go_simp; first | done | with_reducible rfl)
        simp only [Act.put, List.setIfInBounds_toArray, List.set_cons_zero, List.set_cons_succ]
        refine rg_take (v := ?_) 7 rfl (by kernel_rfl) (by kernel_rfl) (by kernel_rfl) (fun _ _ _ h => h) (by kernel_rfl) ?_ (by assumption) ?_
        rotate_left
        · (intro w' hSw; (try dsimp only at hSw); go_simp; first | done | with_reducible rfl)
        simp only [Act.put, List.setIfInBounds_toArray, List.set_cons_zero, List.set_cons_succ]
        refine rg_take (v := ?_) 8 rfl (by kernel_rfl) (by kernel_rfl) (by kernel_rfl) (fun _ _ _ h => h) (by kernel_rfl) ?_ (by assumption) ?_
        rotate_left
        · (intro w' hSw; (try dsimp only at hSw); go_simp; first | done | with_reducible rfl)
        simp only [Act.put, List.setIfInBounds_toArray, List.set_cons_zero, List.set_cons_succ]
        have p0 := HXW.out.cellAt 0 (by decide)
        have p1 := HXW.out.cellAt 1 (by decide)
        have p2 := HXW.out.cellAt 2 (by decide)
        simp only [List.getElem?_cons_zero, List.getElem?_cons_succ] at p0 p1 p2
        have f0 := HXW.out.frozenAt 0
        have f1 := HXW.out.frozenAt 1
        have f2 := HXW.out.frozenAt 2
        obtain ⟨WF, hWF, hw1, hw2, hw3, hw4⟩ := box_set HXW.out HOW.out HBW.out (Nat.le_refl _) (.int .i64 X2) (.slice Aw L2.length cw) (.int .i64 R2)
        have HF := Lib.hid hWF
        replace a0 := hw4 _ _ (by exact a0) (by dsimp only; have := HLT0.out; omega)
        replace a1 := hw4 _ _ (by exact a1) (by dsimp only; have := HLT0.out; omega)
        replace a2 := hw4 _ _ (by exact a2) (by dsimp only; have := HLT0.out; omega)
        replace b0 := hw4 _ _ (by exact b0) (by dsimp only; have := HLT0.out; omega)
        replace b1 := hw4 _ _ (by exact b1) (by dsimp only; have := HLT0.out; omega)
        replace b2 := hw4 _ _ (by exact b2) (by dsimp only; have := HLT0.out; omega)
        have H1 := Lib.hid hw1
        have H2 := Lib.hid hw2
        have H3 := Lib.hid hw3
        clear hWF hw1 hw2 hw3 hw4
        refine rg_run 10 rfl (by kernel_rfl) (by kernel_rfl) (fun K hK => ?_)
        go_simp
        rw [← HF.out]
        clear hHeld
        refine hK.out _ _ (by exact ⟨⟨a0, a1, a2⟩, b0, b1, b2⟩) (fun hHeld => ?_)
        clear hK K
        try simp only [Act.put, List.setIfInBounds_toArray, List.set_cons_zero, List.set_cons_succ]
        refine rg_take (v := ?_) 11 rfl (by kernel_rfl) (by kernel_rfl) (by kernel_rfl) (fun _ _ _ h => h) (by kernel_rfl) ?_ (by assumption) ?_
        rotate_left
        · (intro w' hSw; (try dsimp only at hSw); go_simp; first | done | with_reducible rfl)
        simp only [Act.put, List.setIfInBounds_toArray, List.set_cons_zero, List.set_cons_succ]
        refine wpAnyH_done (by kernel_rfl) ?_ _
        clear hHeld
        clear p0 p1 p2 f0 f1 f2 a0 a1 a2 b0 b1 b2
        go_wp2
        go_meet
        case rel => exact ⟨_, Aw, cw, rfl, rfl, Lib.hid ⟨by first | exact H1.out | exact own_drew H1.out, by first | exact H2.out | exact own_drew H2.out, by first | exact H3.out | exact H3.out.drew⟩⟩
    · go_simp
      have hal := below_alloc (Below.refl w2.heap.size w2) (.cells #[.int .i64 0, .slice none 0 0, .int .i64 0] 29)
      replace a0 := cell_later hal (by exact a0)
      replace a1 := cell_later hal (by exact a1)
      replace a2 := cell_later hal (by exact a2)
      replace b0 := cell_later hal (by exact b0)
      replace b1 := cell_later hal (by exact b1)
      replace b2 := cell_later hal (by exact b2)
      have HXW := Lib.hid (own_box w2 w2.heap.size 29 [.int .i64 0, .slice none 0 0, .int .i64 0] 3 rfl (by exact HSZ.out))
      dsimp only [List.toArray] at HXW
      have HB0 := Lib.hid (below_chain (by exact HB0.out) hal)
      have HBW := Lib.hid (below_chain (by exact HBW.out) hal)
      have HSZn := Lib.hid (show w2.heap.size ≤ (w2.alloc (.cells #[.int .i64 0, .slice none 0 0, .int .i64 0] 29)).heap.size from HBW.out.size)
      clear hal HSZ
      have HSZ := HSZn
      clear HSZn
      generalize w2.alloc (.cells #[.int .i64 0, .slice none 0 0, .int .i64 0] 29) = Gw2 at *
      clear hHeld
      refine hK.out _ _ (by exact ⟨⟨a0, a1, a2⟩, b0, b1, b2⟩) (fun hHeld => ?_)
      clear hK K
      try simp only [Act.put, List.setIfInBounds_toArray, List.set_cons_zero, List.set_cons_succ]
      refine rg_run 2 rfl (by kernel_rfl) (by kernel_rfl) (fun K hK => ?_)
      go_simp
      refine (HT.out _ (H.out.below (by first | exact HB0.out | exact HB0.out.drew))).mono ?_
      rintro e v7 ⟨Ap, cp, rfl, ho, hb⟩
      have P1 := Lib.hid (Rd.own ho)
      replace a0 := cell_later hb (by exact a0)
      replace a1 := cell_later hb (by exact a1)
      replace a2 := cell_later hb (by exact a2)
      replace b0 := cell_later hb (by exact b0)
      replace b1 := cell_later hb (by exact b1)
      replace b2 := cell_later hb (by exact b2)
      have HXW := Lib.hid (own_below (by first | exact HXW.out | exact own_drew HXW.out) hb)
      have HB0 := Lib.hid (below_chain (by first | exact HB0.out | exact HB0.out.drew) hb)
      have HBW := Lib.hid (show Below w2.heap.size w2 v7 from below_chain (by first | exact HBW.out | exact HBW.out.drew) hb)
      have HSZ := Lib.hid (show w2.heap.size ≤ v7.heap.size from HBW.out.size)
      clear ho hb
      go_wp2
      clear hHeld
      refine hK.out _ _ (by exact ⟨⟨a0, a1, a2⟩, b0, b1, b2⟩) (fun hHeld => ?_)
      clear hK K
      try simp only [Act.put, List.setIfInBounds_toArray, List.set_cons_zero, List.set_cons_succ]
      refine rg_run 4 rfl (by kernel_rfl) (by kernel_rfl) (fun K hK => ?_)
      go_simp
      refine (HT'.out _ (H'.out.below (by first | exact HB0.out | exact HB0.out.drew))).mono ?_
      rintro e v8 ⟨Aq, cq, rfl, ho, hb⟩
      have P2 := Lib.hid (Rd.own ho)
      have P1 := Lib.hid (Rd.below (by exact P1.out) hb)
      replace a0 := cell_later hb (by exact a0)
      replace a1 := cell_later hb (by exact a1)
      replace a2 := cell_later hb (by exact a2)
      replace b0 := cell_later hb (by exact b0)
      replace b1 := cell_later hb (by exact b1)
      replace b2 := cell_later hb (by exact b2)
      have HXW := Lib.hid (own_below (by first | exact HXW.out | exact own_drew HXW.out) hb)
      have HB0 := Lib.hid (below_chain (by first | exact HB0.out | exact HB0.out.drew) hb)
      have HBW := Lib.hid (show Below w2.heap.size w2 v8 from below_chain (by first | exact HBW.out | exact HBW.out.drew) hb)
      have HSZ := Lib.hid (show w2.heap.size ≤ v8.heap.size from HBW.out.size)
      clear ho hb
      go_wp2
      clear hHeld
      refine hK.out _ _ (by exact ⟨⟨a0, a1, a2⟩, b0, b1, b2⟩) (fun hHeld => ?_)
      clear hK K
      try simp only [Act.put, List.setIfInBounds_toArray, List.set_cons_zero, List.set_cons_succ]
      refine rg_run 5 rfl (by kernel_rfl) (by kernel_rfl) (fun K hK => ?_)
      go_simp
      refine (HSI.out _ _ _ _ _ (by exact P1.out) (by exact P2.out)).mono ?_
      rintro e v9 ⟨Aw, cw, rfl, ho, hb⟩
      have HOW := Lib.hid (own_mono ho (base' := w2.heap.size) (by first | exact HSZ.out | exact Nat.le_of_lt HSZ.out))
      replace a0 := cell_later hb (by exact a0)
      replace a1 := cell_later hb (by exact a1)
      replace a2 := cell_later hb (by exact a2)
      replace b0 := cell_later hb (by exact b0)
      replace b1 := cell_later hb (by exact b1)
      replace b2 := cell_later hb (by exact b2)
      have HXW := Lib.hid (own_below (by first | exact HXW.out | exact own_drew HXW.out) hb)
      have HB0 := Lib.hid (below_chain (by first | exact HB0.out | exact HB0.out.drew) hb)
      have HBW := Lib.hid (show Below w2.heap.size w2 v9 from below_chain (by first | exact HBW.out | exact HBW.out.drew) hb)
      have HSZ := Lib.hid (show w2.heap.size ≤ v9.heap.size from HBW.out.size)
      clear ho hb
      go_wp2
      clear hHeld
      refine hK.out _ _ (by exact ⟨⟨a0, a1, a2⟩, b0, b1, b2⟩) (fun hHeld => ?_)
      clear hK K
      try simp only [Act.put, List.setIfInBounds_toArray, List.set_cons_zero, List.set_cons_succ]
      refine rg_take (v := ?_) 6 rfl (by kernel_rfl) (by kernel_rfl) (by kernel_rfl) (fun _ _ _ h => h) (by kernel_rfl) ?_ (by assumption) ?_
      rotate_left
      · (intro w' hSw; (try dsimp only at hSw); go_simp; first | done | with_reducible rfl)
      simp only [Act.put, List.setIfInBounds_toArray, List.set_cons_zero, List.set_cons_succ]
      refine rg_take (v := ?_) 7 rfl (by kernel_rfl) (by kernel_rfl) (by kernel_rfl) (fun _ _ _ h => h) (by kernel_rfl) ?_ (by assumption) ?_
      rotate_left
      · (intro w' hSw; (try dsimp only at hSw); go_simp; first | done | with_reducible rfl)
      simp only [Act.put, List.setIfInBounds_toArray, List.set_cons_zero, List.set_cons_succ]
      refine rg_take (v := ?_) 8 rfl (by kernel_rfl) (by kernel_rfl) (by kernel_rfl) (fun _ _ _ h => h) (by kernel_rfl) ?_ (by assumption) ?_
      rotate_left
      · (intro w' hSw; (try dsimp only at hSw); go_simp; first | done | with_reducible rfl)
      simp only [Act.put, List.setIfInBounds_toArray, List.set_cons_zero, List.set_cons_succ]
      have p0 := HXW.out.cellAt 0 (by decide)
      have p1 := HXW.out.cellAt 1 (by decide)
      have p2 := HXW.out.cellAt 2 (by decide)
      simp only [List.getElem?_cons_zero, List.getElem?_cons_succ] at p0 p1 p2
      have f0 := HXW.out.frozenAt 0
      have f1 := HXW.out.frozenAt 1
      have f2 := HXW.out.frozenAt 2
      obtain ⟨WF, hWF, hw1, hw2, hw3, hw4⟩ := box_set HXW.out HOW.out HBW.out (Nat.le_refl _) (.int .i64 X2) (.slice Aw L2.length cw) (.int .i64 R2)
      have HF := Lib.hid hWF
      replace a0 := hw4 _ _ (by exact a0) (by dsimp only; have := HLT0.out; omega)
      replace a1 := hw4 _ _ (by exact a1) (by dsimp only; have := HLT0.out; omega)
      replace a2 := hw4 _ _ (by exact a2) (by dsimp only; have := HLT0.out; omega)
      replace b0 := hw4 _ _ (by exact b0) (by dsimp only; have := HLT0.out; omega)
      replace b1 := hw4 _ _ (by exact b1) (by dsimp only; have := HLT0.out; omega)
      replace b2 := hw4 _ _ (by exact b2) (by dsimp only; have := HLT0.out; omega)
      have H1 := Lib.hid hw1
      have H2 := Lib.hid hw2
      have H3 := Lib.hid hw3
      clear hWF hw1 hw2 hw3 hw4
      refine rg_run 10 rfl (by kernel_rfl) (by kernel_rfl) (fun K hK => ?_)
      go_simp
      rw [← HF.out]
      clear hHeld
      refine hK.out _ _ (by exact ⟨⟨a0, a1, a2⟩, b0, b1, b2⟩) (fun hHeld => ?_)
      clear hK K
      try simp only [Act.put, List.setIfInBounds_toArray, List.set_cons_zero, List.set_cons_succ]
      refine rg_take (v := ?_) 11 rfl (by kernel_rfl) (by kernel_rfl) (by kernel_rfl) (fun _ _ _ h => h) (by kernel_rfl) ?_ (by assumption) ?_
      rotate_left
      · (intro w' hSw; (try dsimp only at hSw); go_simp; first | done | with_reducible rfl)
      simp only [Act.put, List.setIfInBounds_toArray, List.set_cons_zero, List.set_cons_succ]
      refine wpAnyH_done (by kernel_rfl) ?_ _
      clear hHeld
      clear p0 p1 p2 f0 f1 f2 a0 a1 a2 b0 b1 b2
      go_wp2
      go_meet
      case rel => exact ⟨_, Aw, cw, rfl, rfl, Lib.hid ⟨by first | exact H1.out | exact own_drew H1.out, by first | exact H2.out | exact own_drew H2.out, by first | exact H3.out | exact H3.out.drew⟩⟩
  case rest =>
    obtain ⟨bw, Aw, cw, rfl, rfl, hq⟩ := hcut
    obtain ⟨w3, rfl⟩ : ∃ w3, w3 = wc := ⟨_, rfl⟩
    obtain ⟨hqb, hqr, hb3⟩ := hq.out
    have B3 := below_chain B hb3
    clear B a0 a1 a2 b0 b1 b2
    have B : Below w.heap.size w w3 := B3
    have a0 := cell_later hb3 A0.out
    have a1 := cell_later hb3 A1.out
    have a2 := cell_later hb3 A2.out
    have b0 := cell_later hb3 B0.out
    have b1 := cell_later hb3 B1.out
    have b2 := cell_later hb3 B2.out
    have rw3 := Rd.own hqr
    have j0 := hqb.cellAt 0 (by decide)
    have j1 := hqb.cellAt 1 (by decide)
    have j2 := hqb.cellAt 2 (by decide)
    simp only [List.getElem?_cons_zero, List.getElem?_cons_succ] at j0 j1 j2
    clear A0 A1 A2 B0 B1 B2 B3 HB0 HBW HSZ HLT0 hq hqb hqr hb3
    have F_w3 : Below w3.heap.size w3 w3 := Below.refl _ _
    have S_w_w3 : w.heap.size ≤ w3.heap.size := B.size
    have hza3 := World.block_lt_of_cell? _ _ a0
    have hzb3 := World.block_lt_of_cell? _ _ b0
    have hzj3 := World.block_lt_of_cell? _ _ j0
    dsimp only at hza3 hzb3 hzj3
    go_wp2_with (fail)
    refine (HT.out _ (by exact H.out.below B)).mono ?_
    rintro e w4 ⟨Ax, cx, rfl, hox, hb⟩
    have hstep : Below w3.heap.size w3 w4 := below_chain (by (repeat (first | exact Below.refl _ _ | assumption | refine below_alloc ?_ _ | refine below_drewN ?_ _ | refine below_set ?_ _ (by simp; try omega) | refine Below.drew ?_))) hb
    replace a0 := cell_later hstep a0
    replace a1 := cell_later hstep a1
    replace a2 := cell_later hstep a2
    replace b0 := cell_later hstep b0
    replace b1 := cell_later hstep b1
    replace b2 := cell_later hstep b2
    replace j0 := cell_later hstep j0
    replace j1 := cell_later hstep j1
    replace j2 := cell_later hstep j2
    replace B := below_chain B hstep
    replace F_w3 := below_chain F_w3 hstep
    have rx := Rd.own hox
    clear hb hstep
    have hx : Hid (∀ q, (Value.slice Ax l.length cx).ownBlock = some q → w3.heap.size ≤ q ∧ q < w4.heap.size) := Lib.hid hox.lt
    have F_w4 : Below w4.heap.size w4 w4 := Below.refl _ _
    have S_w3_w4 : w3.heap.size ≤ w4.heap.size := F_w3.size
    have S_w_w4 : w.heap.size ≤ w4.heap.size := B.size
    have hza4 := World.block_lt_of_cell? _ _ a0
    have hzb4 := World.block_lt_of_cell? _ _ b0
    have hzj4 := World.block_lt_of_cell? _ _ j0
    dsimp only at hza4 hzb4 hzj4
    go_wp2_with (fail)
    refine (HT'.out _ (by exact (H'.out.below B).alloc _)).mono ?_
    rintro e w5 ⟨Ay, cy, rfl, hoy, hb⟩
    have hstep : Below w4.heap.size w4 w5 := below_chain (by (repeat (first | exact Below.refl _ _ | assumption | refine below_alloc ?_ _ | refine below_drewN ?_ _ | refine below_set ?_ _ (by simp; try omega) | refine Below.drew ?_))) hb
    replace a0 := cell_later hstep a0
    replace a1 := cell_later hstep a1
    replace a2 := cell_later hstep a2
    replace b0 := cell_later hstep b0
    replace b1 := cell_later hstep b1
    replace b2 := cell_later hstep b2
    replace j0 := cell_later hstep j0
    replace j1 := cell_later hstep j1
    replace j2 := cell_later hstep j2
    replace B := below_chain B hstep
    replace F_w3 := below_chain F_w3 hstep
    replace F_w4 := below_chain F_w4 hstep
    have ry := Rd.own hoy
    have x0 : w5.cell? ⟨w4.heap.size, 0, none⟩ = some (.int .i64 x) := cell_later hb (by go_simp)
    have x1 : w5.cell? ⟨w4.heap.size, 1, none⟩ = some (.slice Ax l.length cx) := cell_later hb (by go_simp)
    have x2 : w5.cell? ⟨w4.heap.size, 2, none⟩ = some (.int .i64 r) := cell_later hb (by go_simp)
    clear hb hstep
    have hy : Hid (∀ q, (Value.slice Ay l'.length cy).ownBlock = some q → w4.heap.size < q ∧ q < w5.heap.size) := Lib.hid (fun q hq => by have := hoy.lt q hq; simp at this; omega)
    have F_w5 : Below w5.heap.size w5 w5 := Below.refl _ _
    have S_w3_w5 : w3.heap.size ≤ w5.heap.size := F_w3.size
    have S_w4_w5 : w4.heap.size ≤ w5.heap.size := F_w4.size
    have S_w_w5 : w.heap.size ≤ w5.heap.size := B.size
    have hza5 := World.block_lt_of_cell? _ _ a0
    have hzb5 := World.block_lt_of_cell? _ _ b0
    have hzj5 := World.block_lt_of_cell? _ _ j0
    have hzx5 := World.block_lt_of_cell? _ _ x0
    dsimp only at hza5 hzb5 hzj5 hzx5
    go_wp2_with (fail)
    refine (HI.out _ _ _ _ _ (by exact (rx.below F_w4).alloc _) (by exact ry.alloc _)).mono ?_
    rintro e w6 ⟨Ag, cg, rfl, hog, hb⟩
    have hstep : Below w5.heap.size w5 w6 := below_chain (by (repeat (first | exact Below.refl _ _ | assumption | refine below_alloc ?_ _ | refine below_drewN ?_ _ | refine below_set ?_ _ (by simp; try omega) | refine Below.drew ?_))) hb
    replace a0 := cell_later hstep a0
    replace a1 := cell_later hstep a1
    replace a2 := cell_later hstep a2
    replace b0 := cell_later hstep b0
    replace b1 := cell_later hstep b1
    replace b2 := cell_later hstep b2
    replace j0 := cell_later hstep j0
    replace j1 := cell_later hstep j1
    replace j2 := cell_later hstep j2
    replace x0 := cell_later hstep x0
    replace x1 := cell_later hstep x1
    replace x2 := cell_later hstep x2
    replace B := below_chain B hstep
    replace F_w3 := below_chain F_w3 hstep
    replace F_w4 := below_chain F_w4 hstep
    replace F_w5 := below_chain F_w5 hstep
    have y0 : w6.cell? ⟨w5.heap.size, 0, none⟩ = some (.int .i64 y) := cell_later hb (by go_simp)
    have y1 : w6.cell? ⟨w5.heap.size, 1, none⟩ = some (.slice Ay l'.length cy) := cell_later hb (by go_simp)
    have y2 : w6.cell? ⟨w5.heap.size, 2, none⟩ = some (.int .i64 s) := cell_later hb (by go_simp)
    clear hb hstep
    have hgl := Lib.hid (fun q (hq : (Value.slice Ag L2.length cg).ownBlock = some q) => show w5.heap.size < q ∧ q < w6.heap.size by have := hog.lt q hq; simp at this; omega)
    have F_w6 : Below w6.heap.size w6 w6 := Below.refl _ _
    have S_w3_w6 : w3.heap.size ≤ w6.heap.size := F_w3.size
    have S_w4_w6 : w4.heap.size ≤ w6.heap.size := F_w4.size
    have S_w5_w6 : w5.heap.size ≤ w6.heap.size := F_w5.size
    have S_w_w6 : w.heap.size ≤ w6.heap.size := B.size
    have hza6 := World.block_lt_of_cell? _ _ a0
    have hzb6 := World.block_lt_of_cell? _ _ b0
    have hzj6 := World.block_lt_of_cell? _ _ j0
    have hzx6 := World.block_lt_of_cell? _ _ x0
    have hzy6 := World.block_lt_of_cell? _ _ y0
    dsimp only at hza6 hzb6 hzj6 hzx6 hzy6
    go_wp2_with (fail)
    refine (HQ.out _ _ _ _ _ (by exact ((Rd.own hog).below F_w6).alloc _) (by exact (rw3.below F_w3).alloc _)).mono ?_
    rintro e w7 ⟨rfl, hb⟩
    have hstep : Below w6.heap.size w6 w7 := below_chain (by (repeat (first | exact Below.refl _ _ | assumption | refine below_alloc ?_ _ | refine below_drewN ?_ _ | refine below_set ?_ _ (by simp; try omega) | refine Below.drew ?_))) hb
    replace a0 := cell_later hstep a0
    replace a1 := cell_later hstep a1
    replace a2 := cell_later hstep a2
    replace b0 := cell_later hstep b0
    replace b1 := cell_later hstep b1
    replace b2 := cell_later hstep b2
    replace j0 := cell_later hstep j0
    replace j1 := cell_later hstep j1
    replace j2 := cell_later hstep j2
    replace x0 := cell_later hstep x0
    replace x1 := cell_later hstep x1
    replace x2 := cell_later hstep x2
    replace y0 := cell_later hstep y0
    replace y1 := cell_later hstep y1
    replace y2 := cell_later hstep y2
    replace B := below_chain B hstep
    replace F_w3 := below_chain F_w3 hstep
    replace F_w4 := below_chain F_w4 hstep
    replace F_w5 := below_chain F_w5 hstep
    replace F_w6 := below_chain F_w6 hstep
    have g0 : w7.cell? ⟨w6.heap.size, 0, none⟩ = some (.int .i64 X2) := cell_later hb (by go_simp)
    have g1 : w7.cell? ⟨w6.heap.size, 1, none⟩ = some (.slice Ag L2.length cg) := cell_later hb (by go_simp)
    have g2 : w7.cell? ⟨w6.heap.size, 2, none⟩ = some (.int .i64 R2) := cell_later hb (by go_simp)
    clear hb hstep
    go_wp2_with (fail)
    have HB := Lib.hid B
    have RX := Lib.hid (rx.below F_w4)
    clear B
    refine wp_region_held_drew (S := (fun w' => w'.cell? ⟨w.heap.size, 0, none⟩ = some (.int .i64 x) ∧ w'.cell? ⟨w.heap.size, 1, none⟩ = some (.slice A n c) ∧ w'.cell? ⟨w.heap.size, 2, none⟩ = some (.int .i64 r) ∧ w'.cell? ⟨w.heap.size + 1, 0, none⟩ = some (.int .i64 y) ∧ w'.cell? ⟨w.heap.size + 1, 1, none⟩ = some (.slice A' n' c') ∧ w'.cell? ⟨w.heap.size + 1, 2, none⟩ = some (.int .i64 s) ∧ w'.cell? ⟨bw, 0, none⟩ = some (.int .i64 X2) ∧ w'.cell? ⟨bw, 1, none⟩ = some (.slice Aw L2.length cw) ∧ w'.cell? ⟨bw, 2, none⟩ = some (.int .i64 R2) ∧ w'.cell? ⟨w4.heap.size, 0, none⟩ = some (.int .i64 x) ∧ w'.cell? ⟨w4.heap.size, 1, none⟩ = some (.slice Ax l.length cx) ∧ w'.cell? ⟨w4.heap.size, 2, none⟩ = some (.int .i64 r) ∧ w'.cell? ⟨w5.heap.size, 0, none⟩ = some (.int .i64 y) ∧ w'.cell? ⟨w5.heap.size, 1, none⟩ = some (.slice Ay l'.length cy) ∧ w'.cell? ⟨w5.heap.size, 2, none⟩ = some (.int .i64 s) ∧ w'.cell? ⟨w6.heap.size, 0, none⟩ = some (.int .i64 X2) ∧ w'.cell? ⟨w6.heap.size, 1, none⟩ = some (.slice Ag L2.length cg) ∧ w'.cell? ⟨w6.heap.size, 2, none⟩ = some (.int .i64 R2))) (by kernel_rfl) ?_ (fun hHeld => ?_)
    · exact (by exact ⟨a0, a1, a2, b0, b1, b2, j0, j1, j2, x0, x1, x2, y0, y1, y2, g0, g1, g2⟩)
    refine rg_take (v := ?_) 0 rfl (by kernel_rfl) (by kernel_rfl) (by kernel_rfl) (fun _ _ _ h => h) (by kernel_rfl) ?_ (by assumption) ?_
    rotate_left
    · (intro w' hSw; (try dsimp only at hSw); go_simp; first | done | with_reducible rfl)
    simp only [Act.put, List.setIfInBounds_toArray, List.set_cons_zero, List.set_cons_succ]
    refine rg_take (v := ?_) 1 rfl (by kernel_rfl) (by kernel_rfl) (by kernel_rfl) (fun _ _ _ h => h) (by kernel_rfl) ?_ (by assumption) ?_
    rotate_left
    · (intro w' hSw; (try dsimp only at hSw); go_simp; first | done | with_reducible rfl)
    simp only [Act.put, List.setIfInBounds_toArray, List.set_cons_zero, List.set_cons_succ]
    refine rg_run 2 rfl (by kernel_rfl) (by kernel_rfl) (fun K hK => ?_)
    go_simp
    refine (HT.out _ (H.out.below (by first | exact HB.out.drew | exact HB.out))).mono ?_
    rintro e w8 ⟨A7, c7, rfl, ho, hb⟩
    replace a0 := cell_later hb (by exact a0)
    replace a1 := cell_later hb (by exact a1)
    replace a2 := cell_later hb (by exact a2)
    replace b0 := cell_later hb (by exact b0)
    replace b1 := cell_later hb (by exact b1)
    replace b2 := cell_later hb (by exact b2)
    replace j0 := cell_later hb (by exact j0)
    replace j1 := cell_later hb (by exact j1)
    replace j2 := cell_later hb (by exact j2)
    replace x0 := cell_later hb (by exact x0)
    replace x1 := cell_later hb (by exact x1)
    replace x2 := cell_later hb (by exact x2)
    replace y0 := cell_later hb (by exact y0)
    replace y1 := cell_later hb (by exact y1)
    replace y2 := cell_later hb (by exact y2)
    replace g0 := cell_later hb (by exact g0)
    replace g1 := cell_later hb (by exact g1)
    replace g2 := cell_later hb (by exact g2)
    have HB7 := Lib.hid (show Below w7.heap.size w7 w8 from below_chain (by exact (Below.refl _ _).drew) hb)
    have m7 := Lib.hid (Rd.own ho)
    clear hb ho
    go_wp2
    clear hHeld
    refine hK.out _ _ (by exact ⟨a0, a1, a2, b0, b1, b2, j0, j1, j2, x0, x1, x2, y0, y1, y2, g0, g1, g2⟩) (fun hHeld => ?_)
    clear hK K
    try simp only [Act.put, List.setIfInBounds_toArray, List.set_cons_zero, List.set_cons_succ]
    refine rg_run 3 rfl (by kernel_rfl) (by kernel_rfl) (fun K hK => ?_)
    go_simp
    refine (HE.out _ _ _ _ _ (RX.out.below HB7.out) m7.out).mono ?_
    rintro e w9 ⟨rfl, hb⟩
    replace a0 := cell_later hb (by exact a0)
    replace a1 := cell_later hb (by exact a1)
    replace a2 := cell_later hb (by exact a2)
    replace b0 := cell_later hb (by exact b0)
    replace b1 := cell_later hb (by exact b1)
    replace b2 := cell_later hb (by exact b2)
    replace j0 := cell_later hb (by exact j0)
    replace j1 := cell_later hb (by exact j1)
    replace j2 := cell_later hb (by exact j2)
    replace x0 := cell_later hb (by exact x0)
    replace x1 := cell_later hb (by exact x1)
    replace x2 := cell_later hb (by exact x2)
    replace y0 := cell_later hb (by exact y0)
    replace y1 := cell_later hb (by exact y1)
    replace y2 := cell_later hb (by exact y2)
    replace g0 := cell_later hb (by exact g0)
    replace g1 := cell_later hb (by exact g1)
    replace g2 := cell_later hb (by exact g2)
    have HB8 := Lib.hid (below_chain HB7.out hb)
    clear hb
    go_wp2
    clear hHeld
    refine hK.out _ _ (by exact ⟨a0, a1, a2, b0, b1, b2, j0, j1, j2, x0, x1, x2, y0, y1, y2, g0, g1, g2⟩) (fun hHeld => ?_)
    clear hK K
    try simp only [Act.put, List.setIfInBounds_toArray, List.set_cons_zero, List.set_cons_succ]
    refine rg_take (v := ?_) 4 rfl (by kernel_rfl) (by kernel_rfl) (by kernel_rfl) (fun _ _ _ h => h) (by kernel_rfl) ?_ (by assumption) ?_
    rotate_left
    · (intro w' hSw; (try dsimp only at hSw); go_simp; first | done | with_reducible rfl)
    simp only [Act.put, List.setIfInBounds_toArray, List.set_cons_zero, List.set_cons_succ]
    refine wpAnyH_done (by kernel_rfl) ?_ _
    clear hHeld
    have hstep := HB8.out
    have B := below_chain HB.out hstep
    replace F_w3 := below_chain F_w3 hstep
    replace F_w4 := below_chain F_w4 hstep
    replace F_w5 := below_chain F_w5 hstep
    replace F_w6 := below_chain F_w6 hstep
    clear HB HB7 HB8 RX m7 hstep
    go_wp2_with (fail)
    have HB := Lib.hid B
    have RX := Lib.hid (ry.below F_w5)
    clear B
    refine wp_region_held_drew (S := (fun w' => w'.cell? ⟨w.heap.size, 0, none⟩ = some (.int .i64 x) ∧ w'.cell? ⟨w.heap.size, 1, none⟩ = some (.slice A n c) ∧ w'.cell? ⟨w.heap.size, 2, none⟩ = some (.int .i64 r) ∧ w'.cell? ⟨w.heap.size + 1, 0, none⟩ = some (.int .i64 y) ∧ w'.cell? ⟨w.heap.size + 1, 1, none⟩ = some (.slice A' n' c') ∧ w'.cell? ⟨w.heap.size + 1, 2, none⟩ = some (.int .i64 s) ∧ w'.cell? ⟨bw, 0, none⟩ = some (.int .i64 X2) ∧ w'.cell? ⟨bw, 1, none⟩ = some (.slice Aw L2.length cw) ∧ w'.cell? ⟨bw, 2, none⟩ = some (.int .i64 R2) ∧ w'.cell? ⟨w4.heap.size, 0, none⟩ = some (.int .i64 x) ∧ w'.cell? ⟨w4.heap.size, 1, none⟩ = some (.slice Ax l.length cx) ∧ w'.cell? ⟨w4.heap.size, 2, none⟩ = some (.int .i64 r) ∧ w'.cell? ⟨w5.heap.size, 0, none⟩ = some (.int .i64 y) ∧ w'.cell? ⟨w5.heap.size, 1, none⟩ = some (.slice Ay l'.length cy) ∧ w'.cell? ⟨w5.heap.size, 2, none⟩ = some (.int .i64 s) ∧ w'.cell? ⟨w6.heap.size, 0, none⟩ = some (.int .i64 X2) ∧ w'.cell? ⟨w6.heap.size, 1, none⟩ = some (.slice Ag L2.length cg) ∧ w'.cell? ⟨w6.heap.size, 2, none⟩ = some (.int .i64 R2))) (by kernel_rfl) ?_ (fun hHeld => ?_)
    · exact (by exact ⟨a0, a1, a2, b0, b1, b2, j0, j1, j2, x0, x1, x2, y0, y1, y2, g0, g1, g2⟩)
    refine rg_take (v := ?_) 0 rfl (by kernel_rfl) (by kernel_rfl) (by kernel_rfl) (fun _ _ _ h => h) (by kernel_rfl) ?_ (by assumption) ?_
    rotate_left
    · (intro w' hSw; (try dsimp only at hSw); go_simp; first | done | with_reducible rfl)
    simp only [Act.put, List.setIfInBounds_toArray, List.set_cons_zero, List.set_cons_succ]
    refine rg_take (v := ?_) 1 rfl (by kernel_rfl) (by kernel_rfl) (by kernel_rfl) (fun _ _ _ h => h) (by kernel_rfl) ?_ (by assumption) ?_
    rotate_left
    · (intro w' hSw; (try dsimp only at hSw); go_simp; first | done | with_reducible rfl)
    simp only [Act.put, List.setIfInBounds_toArray, List.set_cons_zero, List.set_cons_succ]
    refine rg_run 2 rfl (by kernel_rfl) (by kernel_rfl) (fun K hK => ?_)
    go_simp
    refine (HT'.out _ (H'.out.below (by first | exact HB.out.drew | exact HB.out))).mono ?_
    rintro e w10 ⟨A7, c7, rfl, ho, hb⟩
    replace a0 := cell_later hb (by exact a0)
    replace a1 := cell_later hb (by exact a1)
    replace a2 := cell_later hb (by exact a2)
    replace b0 := cell_later hb (by exact b0)
    replace b1 := cell_later hb (by exact b1)
    replace b2 := cell_later hb (by exact b2)
    replace j0 := cell_later hb (by exact j0)
    replace j1 := cell_later hb (by exact j1)
    replace j2 := cell_later hb (by exact j2)
    replace x0 := cell_later hb (by exact x0)
    replace x1 := cell_later hb (by exact x1)
    replace x2 := cell_later hb (by exact x2)
    replace y0 := cell_later hb (by exact y0)
    replace y1 := cell_later hb (by exact y1)
    replace y2 := cell_later hb (by exact y2)
    replace g0 := cell_later hb (by exact g0)
    replace g1 := cell_later hb (by exact g1)
    replace g2 := cell_later hb (by exact g2)
    have HB7 := Lib.hid (show Below w9.heap.size w9 w10 from below_chain (by exact (Below.refl _ _).drew) hb)
    have m7 := Lib.hid (Rd.own ho)
    clear hb ho
    go_wp2
    clear hHeld
    refine hK.out _ _ (by exact ⟨a0, a1, a2, b0, b1, b2, j0, j1, j2, x0, x1, x2, y0, y1, y2, g0, g1, g2⟩) (fun hHeld => ?_)
    clear hK K
    try simp only [Act.put, List.setIfInBounds_toArray, List.set_cons_zero, List.set_cons_succ]
    refine rg_run 3 rfl (by kernel_rfl) (by kernel_rfl) (fun K hK => ?_)
    go_simp
    refine (HE'.out _ _ _ _ _ (RX.out.below HB7.out) m7.out).mono ?_
    rintro e w11 ⟨rfl, hb⟩
    replace a0 := cell_later hb (by exact a0)
    replace a1 := cell_later hb (by exact a1)
    replace a2 := cell_later hb (by exact a2)
    replace b0 := cell_later hb (by exact b0)
    replace b1 := cell_later hb (by exact b1)
    replace b2 := cell_later hb (by exact b2)
    replace j0 := cell_later hb (by exact j0)
    replace j1 := cell_later hb (by exact j1)
    replace j2 := cell_later hb (by exact j2)
    replace x0 := cell_later hb (by exact x0)
    replace x1 := cell_later hb (by exact x1)
    replace x2 := cell_later hb (by exact x2)
    replace y0 := cell_later hb (by exact y0)
    replace y1 := cell_later hb (by exact y1)
    replace y2 := cell_later hb (by exact y2)
    replace g0 := cell_later hb (by exact g0)
    replace g1 := cell_later hb (by exact g1)
    replace g2 := cell_later hb (by exact g2)
    have HB8 := Lib.hid (below_chain HB7.out hb)
    clear hb
    go_wp2
    clear hHeld
    refine hK.out _ _ (by exact ⟨a0, a1, a2, b0, b1, b2, j0, j1, j2, x0, x1, x2, y0, y1, y2, g0, g1, g2⟩) (fun hHeld => ?_)
    clear hK K
    try simp only [Act.put, List.setIfInBounds_toArray, List.set_cons_zero, List.set_cons_succ]
    refine rg_take (v := ?_) 4 rfl (by kernel_rfl) (by kernel_rfl) (by kernel_rfl) (fun _ _ _ h => h) (by kernel_rfl) ?_ (by assumption) ?_
    rotate_left
    · (intro w' hSw; (try dsimp only at hSw); go_simp; first | done | with_reducible rfl)
    simp only [Act.put, List.setIfInBounds_toArray, List.set_cons_zero, List.set_cons_succ]
    refine wpAnyH_done (by kernel_rfl) ?_ _
    clear hHeld
    have hstep := HB8.out
    have B := below_chain HB.out hstep
    replace F_w3 := below_chain F_w3 hstep
    replace F_w4 := below_chain F_w4 hstep
    replace F_w5 := below_chain F_w5 hstep
    replace F_w6 := below_chain F_w6 hstep
    clear HB HB7 HB8 RX m7 hstep
    go_wp2_with (fail)
    have hrow : ∀ q, (Value.slice Ax l.length cx).ownBlock = some q → w3.heap.size ≤ q := fun q hq => (hx.out q hq).1
    have hrow2 := hx.out
    go_wp2_with (fail)
    refine (c_markDiagram x r _ _ _ _ _ 1 _ (by omega) (by have := HN.out; omega) (by exact own_below hox F_w4)).mono ?_
    rintro e w12 ⟨rfl, _, hg⟩
    replace hg := grown_trans (grown_of_below (show Below w11.heap.size w11 _ from (by (repeat (first | exact Below.refl _ _ | assumption | refine below_alloc ?_ _ | refine below_drewN ?_ _ | refine below_set ?_ _ (by simp; try omega) | refine Below.drew ?_)))) _) hg
    replace F_w3 := below_of_grown F_w3 hg hrow
    replace B := below_of_grown B hg (fun q hq => Nat.le_trans S_w_w3 (hrow q hq))
    replace a0 := cell_mark a0 hg (by intro q hq; have := hrow q hq; have := hrow2 q hq; (try simp); omega)
    replace a1 := cell_mark a1 hg (by intro q hq; have := hrow q hq; have := hrow2 q hq; (try simp); omega)
    replace a2 := cell_mark a2 hg (by intro q hq; have := hrow q hq; have := hrow2 q hq; (try simp); omega)
    replace b0 := cell_mark b0 hg (by intro q hq; have := hrow q hq; have := hrow2 q hq; (try simp); omega)
    replace b1 := cell_mark b1 hg (by intro q hq; have := hrow q hq; have := hrow2 q hq; (try simp); omega)
    replace b2 := cell_mark b2 hg (by intro q hq; have := hrow q hq; have := hrow2 q hq; (try simp); omega)
    replace j0 := cell_mark j0 hg (by intro q hq; have := hrow q hq; have := hrow2 q hq; (try simp); omega)
    replace j1 := cell_mark j1 hg (by intro q hq; have := hrow q hq; have := hrow2 q hq; (try simp); omega)
    replace j2 := cell_mark j2 hg (by intro q hq; have := hrow q hq; have := hrow2 q hq; (try simp); omega)
    replace x0 := cell_mark x0 hg (by intro q hq; have := hrow q hq; have := hrow2 q hq; (try simp); omega)
    replace x1 := cell_mark x1 hg (by intro q hq; have := hrow q hq; have := hrow2 q hq; (try simp); omega)
    replace x2 := cell_mark x2 hg (by intro q hq; have := hrow q hq; have := hrow2 q hq; (try simp); omega)
    replace y0 := cell_mark y0 hg (by intro q hq; have := hrow q hq; have := hrow2 q hq; (try simp); omega)
    replace y1 := cell_mark y1 hg (by intro q hq; have := hrow q hq; have := hrow2 q hq; (try simp); omega)
    replace y2 := cell_mark y2 hg (by intro q hq; have := hrow q hq; have := hrow2 q hq; (try simp); omega)
    replace g0 := cell_mark g0 hg (by intro q hq; have := hrow q hq; have := hrow2 q hq; (try simp); omega)
    replace g1 := cell_mark g1 hg (by intro q hq; have := hrow q hq; have := hrow2 q hq; (try simp); omega)
    replace g2 := cell_mark g2 hg (by intro q hq; have := hrow q hq; have := hrow2 q hq; (try simp); omega)
    have hoy12 := kept_far (own_below hoy F_w5) hg (fun q hq => by have := hrow2 q hq; simp; omega)
    have hog12 := kept_far (own_below hog F_w6) hg (fun q hq => by have := hrow2 q hq; simp; omega)
    clear hg hrow hrow2 F_w4 F_w5 F_w6
    clear hox hoy hog rx ry
    have F_w12 : Below w12.heap.size w12 w12 := Below.refl _ _
    have S_w3_w12 : w3.heap.size ≤ w12.heap.size := F_w3.size
    have S_w_w12 : w.heap.size ≤ w12.heap.size := B.size
    have hrow : ∀ q, (Value.slice Ay l'.length cy).ownBlock = some q → w3.heap.size ≤ q := fun q hq => by have := hy.out q hq; omega
    have hrow2 := hy.out
    go_wp2_with (fail)
    refine (c_markDiagram y s _ _ _ _ _ _ _ (by omega) (by have := HN.out; have := HN'.out; omega) (by exact own_below hoy12 F_w12)).mono ?_
    rintro e w13 ⟨rfl, _, hg⟩
    replace hg := grown_trans (grown_of_below (show Below w12.heap.size w12 _ from (by (repeat (first | exact Below.refl _ _ | assumption | refine below_alloc ?_ _ | refine below_drewN ?_ _ | refine below_set ?_ _ (by simp; try omega) | refine Below.drew ?_)))) _) hg
    replace F_w3 := below_of_grown F_w3 hg hrow
    replace B := below_of_grown B hg (fun q hq => Nat.le_trans S_w_w3 (hrow q hq))
    replace a0 := cell_mark a0 hg (by intro q hq; have := hrow q hq; have := hrow2 q hq; (try simp); omega)
    replace a1 := cell_mark a1 hg (by intro q hq; have := hrow q hq; have := hrow2 q hq; (try simp); omega)
    replace a2 := cell_mark a2 hg (by intro q hq; have := hrow q hq; have := hrow2 q hq; (try simp); omega)
    replace b0 := cell_mark b0 hg (by intro q hq; have := hrow q hq; have := hrow2 q hq; (try simp); omega)
    replace b1 := cell_mark b1 hg (by intro q hq; have := hrow q hq; have := hrow2 q hq; (try simp); omega)
    replace b2 := cell_mark b2 hg (by intro q hq; have := hrow q hq; have := hrow2 q hq; (try simp); omega)
    replace j0 := cell_mark j0 hg (by intro q hq; have := hrow q hq; have := hrow2 q hq; (try simp); omega)
    replace j1 := cell_mark j1 hg (by intro q hq; have := hrow q hq; have := hrow2 q hq; (try simp); omega)
    replace j2 := cell_mark j2 hg (by intro q hq; have := hrow q hq; have := hrow2 q hq; (try simp); omega)
    replace x0 := cell_mark x0 hg (by intro q hq; have := hrow q hq; have := hrow2 q hq; (try simp); omega)
    replace x1 := cell_mark x1 hg (by intro q hq; have := hrow q hq; have := hrow2 q hq; (try simp); omega)
    replace x2 := cell_mark x2 hg (by intro q hq; have := hrow q hq; have := hrow2 q hq; (try simp); omega)
    replace y0 := cell_mark y0 hg (by intro q hq; have := hrow q hq; have := hrow2 q hq; (try simp); omega)
    replace y1 := cell_mark y1 hg (by intro q hq; have := hrow q hq; have := hrow2 q hq; (try simp); omega)
    replace y2 := cell_mark y2 hg (by intro q hq; have := hrow q hq; have := hrow2 q hq; (try simp); omega)
    replace g0 := cell_mark g0 hg (by intro q hq; have := hrow q hq; have := hrow2 q hq; (try simp); omega)
    replace g1 := cell_mark g1 hg (by intro q hq; have := hrow q hq; have := hrow2 q hq; (try simp); omega)
    replace g2 := cell_mark g2 hg (by intro q hq; have := hrow q hq; have := hrow2 q hq; (try simp); omega)
    have hog13 := kept_far (own_below hog12 F_w12) hg (fun q hq => by have := hrow2 q hq; simp; omega)
    clear hg hrow hrow2 F_w12
    clear hoy12 hog12
    have F_w13 : Below w13.heap.size w13 w13 := Below.refl _ _
    have S_w3_w13 : w3.heap.size ≤ w13.heap.size := F_w3.size
    have S_w_w13 : w.heap.size ≤ w13.heap.size := B.size
    go_wp2_with (fail)
    refine (HQ.out _ _ _ _ _ (by exact (Rd.own hog13).below F_w13) (by exact rw3.below F_w3)).mono ?_
    rintro e w14 ⟨rfl, hb⟩
    have hstep : Below w13.heap.size w13 w14 := below_chain (by (repeat (first | exact Below.refl _ _ | assumption | refine below_alloc ?_ _ | refine below_drewN ?_ _ | refine below_set ?_ _ (by simp; try omega) | refine Below.drew ?_))) hb
    replace a0 := cell_later hstep a0
    replace a1 := cell_later hstep a1
    replace a2 := cell_later hstep a2
    replace b0 := cell_later hstep b0
    replace b1 := cell_later hstep b1
    replace b2 := cell_later hstep b2
    replace j0 := cell_later hstep j0
    replace j1 := cell_later hstep j1
    replace j2 := cell_later hstep j2
    replace x0 := cell_later hstep x0
    replace x1 := cell_later hstep x1
    replace x2 := cell_later hstep x2
    replace y0 := cell_later hstep y0
    replace y1 := cell_later hstep y1
    replace y2 := cell_later hstep y2
    replace g0 := cell_later hstep g0
    replace g1 := cell_later hstep g1
    replace g2 := cell_later hstep g2
    replace B := below_chain B hstep
    replace F_w3 := below_chain F_w3 hstep
    replace F_w13 := below_chain F_w13 hstep
    clear hb hstep
    have hrow : ∀ q, (Value.slice Ag L2.length cg).ownBlock = some q → w3.heap.size ≤ q := fun q hq => by have := hgl.out q hq; omega
    have hrow2 := hgl.out
    go_wp2_with (fail)
    refine (c_markDiagram X2 R2 _ _ _ _ _ 1 _ (by omega) (by have := HD.out; omega) (by exact own_below hog13 F_w13)).mono ?_
    rintro e w15 ⟨rfl, hmk, hg⟩
    replace hg := grown_trans (grown_of_below (show Below w14.heap.size w14 _ from (by (repeat (first | exact Below.refl _ _ | assumption | refine below_alloc ?_ _ | refine below_drewN ?_ _ | refine below_set ?_ _ (by simp; try omega) | refine Below.drew ?_)))) _) hg
    replace F_w3 := below_of_grown F_w3 hg hrow
    replace B := below_of_grown B hg (fun q hq => Nat.le_trans S_w_w3 (hrow q hq))
    replace a0 := cell_mark a0 hg (by intro q hq; have := hrow q hq; have := hrow2 q hq; (try simp); omega)
    replace a1 := cell_mark a1 hg (by intro q hq; have := hrow q hq; have := hrow2 q hq; (try simp); omega)
    replace a2 := cell_mark a2 hg (by intro q hq; have := hrow q hq; have := hrow2 q hq; (try simp); omega)
    replace b0 := cell_mark b0 hg (by intro q hq; have := hrow q hq; have := hrow2 q hq; (try simp); omega)
    replace b1 := cell_mark b1 hg (by intro q hq; have := hrow q hq; have := hrow2 q hq; (try simp); omega)
    replace b2 := cell_mark b2 hg (by intro q hq; have := hrow q hq; have := hrow2 q hq; (try simp); omega)
    replace j0 := cell_mark j0 hg (by intro q hq; have := hrow q hq; have := hrow2 q hq; (try simp); omega)
    replace j1 := cell_mark j1 hg (by intro q hq; have := hrow q hq; have := hrow2 q hq; (try simp); omega)
    replace j2 := cell_mark j2 hg (by intro q hq; have := hrow q hq; have := hrow2 q hq; (try simp); omega)
    replace x0 := cell_mark x0 hg (by intro q hq; have := hrow q hq; have := hrow2 q hq; (try simp); omega)
    replace x1 := cell_mark x1 hg (by intro q hq; have := hrow q hq; have := hrow2 q hq; (try simp); omega)
    replace x2 := cell_mark x2 hg (by intro q hq; have := hrow q hq; have := hrow2 q hq; (try simp); omega)
    replace y0 := cell_mark y0 hg (by intro q hq; have := hrow q hq; have := hrow2 q hq; (try simp); omega)
    replace y1 := cell_mark y1 hg (by intro q hq; have := hrow q hq; have := hrow2 q hq; (try simp); omega)
    replace y2 := cell_mark y2 hg (by intro q hq; have := hrow q hq; have := hrow2 q hq; (try simp); omega)
    replace g0 := cell_mark g0 hg (by intro q hq; have := hrow q hq; have := hrow2 q hq; (try simp); omega)
    replace g1 := cell_mark g1 hg (by intro q hq; have := hrow q hq; have := hrow2 q hq; (try simp); omega)
    replace g2 := cell_mark g2 hg (by intro q hq; have := hrow q hq; have := hrow2 q hq; (try simp); omega)
    clear hg hrow hrow2 F_w13
    clear hog13
    have F_w15 : Below w15.heap.size w15 w15 := Below.refl _ _
    have S_w3_w15 : w3.heap.size ≤ w15.heap.size := F_w3.size
    have S_w_w15 : w.heap.size ≤ w15.heap.size := B.size
    have rm := Rd.own hmk
    clear hmk
    go_wp2_with (fail)
    refine (c_heldDiagram X2 R2 _ _ _ 1 _ (by omega) (by have := HD.out; omega) (by exact rm.below F_w15)).mono ?_
    rintro e w16 ⟨rfl, hb⟩
    have hstep : Below w15.heap.size w15 w16 := below_chain (by (repeat (first | exact Below.refl _ _ | assumption | refine below_alloc ?_ _ | refine below_drewN ?_ _ | refine below_set ?_ _ (by simp; try omega) | refine Below.drew ?_))) hb
    replace a0 := cell_later hstep a0
    replace a1 := cell_later hstep a1
    replace a2 := cell_later hstep a2
    replace b0 := cell_later hstep b0
    replace b1 := cell_later hstep b1
    replace b2 := cell_later hstep b2
    replace j0 := cell_later hstep j0
    replace j1 := cell_later hstep j1
    replace j2 := cell_later hstep j2
    replace x0 := cell_later hstep x0
    replace x1 := cell_later hstep x1
    replace x2 := cell_later hstep x2
    replace y0 := cell_later hstep y0
    replace y1 := cell_later hstep y1
    replace y2 := cell_later hstep y2
    replace g0 := cell_later hstep g0
    replace g1 := cell_later hstep g1
    replace g2 := cell_later hstep g2
    replace B := below_chain B hstep
    replace F_w3 := below_chain F_w3 hstep
    replace F_w15 := below_chain F_w15 hstep
    clear hb hstep
    go_upto_region 31 with (fail)
    have HB0 := Lib.hid B
    have HBW := Lib.hid (Below.refl w16.heap.size w16)
    have HSZ := Lib.hid (Nat.le_refl w16.heap.size)
    have hlt0 := World.block_lt_of_cell? _ _ a0
    have hlt1 := World.block_lt_of_cell? _ _ b0
    have HLT0 := Lib.hid (show w.heap.size < w16.heap.size ∧ w.heap.size + 1 < w16.heap.size from ⟨hlt0, hlt1⟩)
    have J0 := Lib.hid j0
    have J1 := Lib.hid j1
    have J2 := Lib.hid j2
    have G0 := Lib.hid g0
    have G1 := Lib.hid g1
    have G2 := Lib.hid g2
    clear hlt0 hlt1 j0 j1 j2 g0 g1 g2 x0 x1 x2 y0 y1 y2
    go_cut [17, 18] from 98 to 106 (fun u8 u9 wx => ∃ bw Aw cw, u8 = .pointer (some ⟨bw, 0, none⟩) ∧ u9 = .int .i64 E ∧ Hid (wx.ownsRow w16.heap.size 29 3 (.slice (some ⟨bw, 0, none⟩) 1 1) 1 [.int .i64 X2, .slice Aw L2.length cw, .int .i64 R2] ∧ wx.ownsRow w16.heap.size 57 3 (.slice Aw L2.length cw) L2.length (ndCells L2) ∧ Below w16.heap.size w16 wx))
    case first =>
      clear HE HE' HSI HQ B J0 J1 J2 G0 G1 G2
      refine wp_region_held_drew (S := (fun w' => (w'.cell? ⟨w.heap.size, 0, none⟩ = some (.int .i64 x) ∧ w'.cell? ⟨w.heap.size, 1, none⟩ = some (.slice A n c) ∧ w'.cell? ⟨w.heap.size, 2, none⟩ = some (.int .i64 r)) ∧ w'.cell? ⟨w.heap.size + 1, 0, none⟩ = some (.int .i64 y) ∧ w'.cell? ⟨w.heap.size + 1, 1, none⟩ = some (.slice A' n' c') ∧ w'.cell? ⟨w.heap.size + 1, 2, none⟩ = some (.int .i64 s))) (by kernel_rfl) ?_ (fun hHeld => ?_)
      · exact ⟨⟨a0, a1, a2⟩, b0, b1, b2⟩
      refine rg_take (v := ?_) 0 rfl (by kernel_rfl) (by kernel_rfl) (by kernel_rfl) (fun _ _ _ h => h) (by kernel_rfl) ?_ (by assumption) ?_
      rotate_left
      · (intro w' hSw; (try dsimp only at hSw); go_simp; first | done | with_reducible rfl)
      simp only [Act.put, List.setIfInBounds_toArray, List.set_cons_zero, List.set_cons_succ]
      refine rg_take (v := ?_) 1 rfl (by kernel_rfl) (by kernel_rfl) (by kernel_rfl) (fun _ _ _ h => h) (by kernel_rfl) ?_ (by assumption) ?_
      rotate_left
      · (intro w' hSw; (try dsimp only at hSw); go_simp; first | done | with_reducible rfl)
      simp only [Act.put, List.setIfInBounds_toArray, List.set_cons_zero, List.set_cons_succ]
      refine rg_take (v := ?_) 3 rfl (by kernel_rfl) (by kernel_rfl) (by kernel_rfl) (fun _ _ _ h => h) (by kernel_rfl) ?_ (by assumption) ?_
      rotate_left
      · (intro w' hSw; (try dsimp only at hSw); go_simp; first | done | with_reducible rfl)
      simp only [Act.put, List.setIfInBounds_toArray, List.set_cons_zero, List.set_cons_succ]
      refine rg_two 2 9 rfl rfl (by kernel_rfl) (by kernel_rfl) (by kernel_rfl) (fun K hK => ?_) (fun K hK => ?_)
      · go_simp
        refine (HT.out _ (H.out.below (by first | exact HB0.out | exact HB0.out.drew))).mono ?_
        rintro e v10 ⟨Ap, cp, rfl, ho, hb⟩
        have P1 := Lib.hid (Rd.own ho)
        replace a0 := cell_later hb (by exact a0)
        replace a1 := cell_later hb (by exact a1)
        replace a2 := cell_later hb (by exact a2)
        replace b0 := cell_later hb (by exact b0)
        replace b1 := cell_later hb (by exact b1)
        replace b2 := cell_later hb (by exact b2)
        have HB0 := Lib.hid (below_chain (by first | exact HB0.out | exact HB0.out.drew) hb)
        have HBW := Lib.hid (show Below w16.heap.size w16 v10 from below_chain (by first | exact HBW.out | exact HBW.out.drew) hb)
        have HSZ := Lib.hid (show w16.heap.size ≤ v10.heap.size from HBW.out.size)
        clear ho hb
        go_wp2
        clear hHeld
        refine hK.out _ _ (by exact ⟨⟨a0, a1, a2⟩, b0, b1, b2⟩) (fun hHeld => ?_)
        clear hK K
        try simp only [Act.put, List.setIfInBounds_toArray, List.set_cons_zero, List.set_cons_succ]
        refine rg_two 4 9 rfl rfl (by kernel_rfl) (by kernel_rfl) (by kernel_rfl) (fun K hK => ?_) (fun K hK => ?_)
        · go_simp
          refine (HT'.out _ (H'.out.below (by first | exact HB0.out | exact HB0.out.drew))).mono ?_
          rintro e v11 ⟨Aq, cq, rfl, ho, hb⟩
          have P2 := Lib.hid (Rd.own ho)
          have P1 := Lib.hid (Rd.below (by exact P1.out) hb)
          replace a0 := cell_later hb (by exact a0)
          replace a1 := cell_later hb (by exact a1)
          replace a2 := cell_later hb (by exact a2)
          replace b0 := cell_later hb (by exact b0)
          replace b1 := cell_later hb (by exact b1)
          replace b2 := cell_later hb (by exact b2)
          have HB0 := Lib.hid (below_chain (by first | exact HB0.out | exact HB0.out.drew) hb)
          have HBW := Lib.hid (show Below w16.heap.size w16 v11 from below_chain (by first | exact HBW.out | exact HBW.out.drew) hb)
          have HSZ := Lib.hid (show w16.heap.size ≤ v11.heap.size from HBW.out.size)
          clear ho hb
          go_wp2
          clear hHeld
          refine hK.out _ _ (by exact ⟨⟨a0, a1, a2⟩, b0, b1, b2⟩) (fun hHeld => ?_)
          clear hK K
          try simp only [Act.put, List.setIfInBounds_toArray, List.set_cons_zero, List.set_cons_succ]
          refine rg_two 5 9 rfl rfl (by kernel_rfl) (by kernel_rfl) (by kernel_rfl) (fun K hK => ?_) (fun K hK => ?_)
          · go_simp
            refine (HI.out _ _ _ _ _ (by exact P1.out) (by exact P2.out)).mono ?_
            rintro e v12 ⟨Aw, cw, rfl, ho, hb⟩
            have HOW := Lib.hid (own_mono ho (base' := w16.heap.size) (by first | exact HSZ.out | exact Nat.le_of_lt HSZ.out))
            replace a0 := cell_later hb (by exact a0)
            replace a1 := cell_later hb (by exact a1)
            replace a2 := cell_later hb (by exact a2)
            replace b0 := cell_later hb (by exact b0)
            replace b1 := cell_later hb (by exact b1)
            replace b2 := cell_later hb (by exact b2)
            have HB0 := Lib.hid (below_chain (by first | exact HB0.out | exact HB0.out.drew) hb)
            have HBW := Lib.hid (show Below w16.heap.size w16 v12 from below_chain (by first | exact HBW.out | exact HBW.out.drew) hb)
            have HSZ := Lib.hid (show w16.heap.size ≤ v12.heap.size from HBW.out.size)
            clear ho hb
            go_wp2
            clear hHeld
            refine hK.out _ _ (by exact ⟨⟨a0, a1, a2⟩, b0, b1, b2⟩) (fun hHeld => ?_)
            clear hK K
            try simp only [Act.put, List.setIfInBounds_toArray, List.set_cons_zero, List.set_cons_succ]
            refine rg_take (v := ?_) 6 rfl (by kernel_rfl) (by kernel_rfl) (by kernel_rfl) (fun _ _ _ h => h) (by kernel_rfl) ?_ (by assumption) ?_
            rotate_left
            · (intro w' hSw; (try dsimp only at hSw); go_simp; first | done | with_reducible rfl)
            simp only [Act.put, List.setIfInBounds_toArray, List.set_cons_zero, List.set_cons_succ]
            refine rg_take (v := ?_) 7 rfl (by kernel_rfl) (by kernel_rfl) (by kernel_rfl) (fun _ _ _ h => h) (by kernel_rfl) ?_ (by assumption) ?_
            rotate_left
            · (intro w' hSw; (try dsimp only at hSw); go_simp; first | done | with_reducible rfl)
            simp only [Act.put, List.setIfInBounds_toArray, List.set_cons_zero, List.set_cons_succ]
            refine rg_take (v := ?_) 8 rfl (by kernel_rfl) (by kernel_rfl) (by kernel_rfl) (fun _ _ _ h => h) (by kernel_rfl) ?_ (by assumption) ?_
            rotate_left
            · (intro w' hSw; (try dsimp only at hSw); go_simp; first | done | with_reducible rfl)
            simp only [Act.put, List.setIfInBounds_toArray, List.set_cons_zero, List.set_cons_succ]
            refine rg_run 9 rfl (by kernel_rfl) (by kernel_rfl) (fun K hK => ?_)
            go_simp
            have hal := below_alloc (Below.refl v12.heap.size v12) (.cells #[.int .i64 0, .slice none 0 0, .int .i64 0] 29)
            replace a0 := cell_later hal (by exact a0)
            replace a1 := cell_later hal (by exact a1)
            replace a2 := cell_later hal (by exact a2)
            replace b0 := cell_later hal (by exact b0)
            replace b1 := cell_later hal (by exact b1)
            replace b2 := cell_later hal (by exact b2)
            have HXW := Lib.hid (own_box v12 w16.heap.size 29 [.int .i64 0, .slice none 0 0, .int .i64 0] 3 rfl (by exact HSZ.out))
            dsimp only [List.toArray] at HXW
            have HB0 := Lib.hid (below_chain (by exact HB0.out) hal)
            have HBW := Lib.hid (below_chain (by exact HBW.out) hal)
            have HOW := Lib.hid (own_below (by exact HOW.out) hal)
            have HSZn := Lib.hid (show w16.heap.size ≤ (v12.alloc (.cells #[.int .i64 0, .slice none 0 0, .int .i64 0] 29)).heap.size from HBW.out.size)
            clear hal HSZ
            have HSZ := HSZn
            clear HSZn
            generalize v12.alloc (.cells #[.int .i64 0, .slice none 0 0, .int .i64 0] 29) = Gv12 at *
            generalize v12.heap.size = gv12 at *
            clear hHeld
            refine hK.out _ _ (by exact ⟨⟨a0, a1, a2⟩, b0, b1, b2⟩) (fun hHeld => ?_)
            clear hK K
            try simp only [Act.put, List.setIfInBounds_toArray, List.set_cons_zero, List.set_cons_succ]
            have p0 := HXW.out.cellAt 0 (by decide)
            have p1 := HXW.out.cellAt 1 (by decide)
            have p2 := HXW.out.cellAt 2 (by decide)
            simp only [List.getElem?_cons_zero, List.getElem?_cons_succ] at p0 p1 p2
            have f0 := HXW.out.frozenAt 0
            have f1 := HXW.out.frozenAt 1
            have f2 := HXW.out.frozenAt 2
            obtain ⟨WF, hWF, hw1, hw2, hw3, hw4⟩ := box_set HXW.out HOW.out HBW.out (Nat.le_refl _) (.int .i64 X2) (.slice Aw L2.length cw) (.int .i64 R2)
            have HF := Lib.hid hWF
            replace a0 := hw4 _ _ (by exact a0) (by dsimp only; have := HLT0.out; omega)
            replace a1 := hw4 _ _ (by exact a1) (by dsimp only; have := HLT0.out; omega)
            replace a2 := hw4 _ _ (by exact a2) (by dsimp only; have := HLT0.out; omega)
            replace b0 := hw4 _ _ (by exact b0) (by dsimp only; have := HLT0.out; omega)
            replace b1 := hw4 _ _ (by exact b1) (by dsimp only; have := HLT0.out; omega)
            replace b2 := hw4 _ _ (by exact b2) (by dsimp only; have := HLT0.out; omega)
            have H1 := Lib.hid hw1
            have H2 := Lib.hid hw2
            have H3 := Lib.hid hw3
            clear hWF hw1 hw2 hw3 hw4
            refine rg_run 10 rfl (by kernel_rfl) (by kernel_rfl) (fun K hK => ?_)
            go_simp
            rw [← HF.out]
            clear hHeld
            refine hK.out _ _ (by exact ⟨⟨a0, a1, a2⟩, b0, b1, b2⟩) (fun hHeld => ?_)
            clear hK K
            try simp only [Act.put, List.setIfInBounds_toArray, List.set_cons_zero, List.set_cons_succ]
            refine rg_take (v := ?_) 11 rfl (by kernel_rfl) (by kernel_rfl) (by kernel_rfl) (fun _ _ _ h => h) (by kernel_rfl) ?_ (by assumption) ?_
            rotate_left
            · (intro w' hSw; (try dsimp only at hSw); go_simp; first | done | with_reducible rfl)
            simp only [Act.put, List.setIfInBounds_toArray, List.set_cons_zero, List.set_cons_succ]
            refine wpAnyH_done (by kernel_rfl) ?_ _
            clear hHeld
            clear p0 p1 p2 f0 f1 f2 a0 a1 a2 b0 b1 b2
            go_wp2
            go_meet
            case rel => exact ⟨_, Aw, cw, rfl, rfl, Lib.hid ⟨by first | exact H1.out | exact own_drew H1.out, by first | exact H2.out | exact own_drew H2.out, by first | exact H3.out | exact H3.out.drew⟩⟩
          · go_simp
            have hal := below_alloc (Below.refl v11.heap.size v11) (.cells #[.int .i64 0, .slice none 0 0, .int .i64 0] 29)
            replace a0 := cell_later hal (by exact a0)
            replace a1 := cell_later hal (by exact a1)
            replace a2 := cell_later hal (by exact a2)
            replace b0 := cell_later hal (by exact b0)
            replace b1 := cell_later hal (by exact b1)
            replace b2 := cell_later hal (by exact b2)
            have HXW := Lib.hid (own_box v11 w16.heap.size 29 [.int .i64 0, .slice none 0 0, .int .i64 0] 3 rfl (by exact HSZ.out))
            dsimp only [List.toArray] at HXW
            have HB0 := Lib.hid (below_chain (by exact HB0.out) hal)
            have HBW := Lib.hid (below_chain (by exact HBW.out) hal)
            have P1 := Lib.hid (Rd.below (by exact P1.out) hal)
            have P2 := Lib.hid (Rd.below (by exact P2.out) hal)
            have HSZn := Lib.hid (show w16.heap.size ≤ (v11.alloc (.cells #[.int .i64 0, .slice none 0 0, .int .i64 0] 29)).heap.size from HBW.out.size)
            clear hal HSZ
            have HSZ := HSZn
            clear HSZn
            generalize v11.alloc (.cells #[.int .i64 0, .slice none 0 0, .int .i64 0] 29) = Gv11 at *
            generalize v11.heap.size = gv11 at *
            clear hHeld
            refine hK.out _ _ (by exact ⟨⟨a0, a1, a2⟩, b0, b1, b2⟩) (fun hHeld => ?_)
            clear hK K
            try simp only [Act.put, List.setIfInBounds_toArray, List.set_cons_zero, List.set_cons_succ]
            refine rg_run 5 rfl (by kernel_rfl) (by kernel_rfl) (fun K hK => ?_)
            go_simp
            refine (HI.out _ _ _ _ _ (by exact P1.out) (by exact P2.out)).mono ?_
            rintro e v13 ⟨Aw, cw, rfl, ho, hb⟩
            have HOW := Lib.hid (own_mono ho (base' := w16.heap.size) (by first | exact HSZ.out | exact Nat.le_of_lt HSZ.out))
            replace a0 := cell_later hb (by exact a0)
            replace a1 := cell_later hb (by exact a1)
            replace a2 := cell_later hb (by exact a2)
            replace b0 := cell_later hb (by exact b0)
            replace b1 := cell_later hb (by exact b1)
            replace b2 := cell_later hb (by exact b2)
            have HXW := Lib.hid (own_below (by first | exact HXW.out | exact own_drew HXW.out) hb)
            have HB0 := Lib.hid (below_chain (by first | exact HB0.out | exact HB0.out.drew) hb)
            have HBW := Lib.hid (show Below w16.heap.size w16 v13 from below_chain (by first | exact HBW.out | exact HBW.out.drew) hb)
            have HSZ := Lib.hid (show w16.heap.size ≤ v13.heap.size from HBW.out.size)
            clear ho hb
            go_wp2
            clear hHeld
            refine hK.out _ _ (by exact ⟨⟨a0, a1, a2⟩, b0, b1, b2⟩) (fun hHeld => ?_)
            clear hK K
            try simp only [Act.put, List.setIfInBounds_toArray, List.set_cons_zero, List.set_cons_succ]
            refine rg_take (v := ?_) 6 rfl (by kernel_rfl) (by kernel_rfl) (by kernel_rfl) (fun _ _ _ h => h) (by kernel_rfl) ?_ (by assumption) ?_
            rotate_left
            · (intro w' hSw; (try dsimp only at hSw); go_simp; first | done | with_reducible rfl)
            simp only [Act.put, List.setIfInBounds_toArray, List.set_cons_zero, List.set_cons_succ]
            refine rg_take (v := ?_) 7 rfl (by kernel_rfl) (by kernel_rfl) (by kernel_rfl) (fun _ _ _ h => h) (by kernel_rfl) ?_ (by assumption) ?_
            rotate_left
            · (intro w' hSw; (try dsimp only at hSw); go_simp; first | done | with_reducible rfl)
            simp only [Act.put, List.setIfInBounds_toArray, List.set_cons_zero, List.set_cons_succ]
            refine rg_take (v := ?_) 8 rfl (by kernel_rfl) (by kernel_rfl) (by kernel_rfl) (fun _ _ _ h => h) (by kernel_rfl) ?_ (by assumption) ?_
            rotate_left
            · (intro w' hSw; (try dsimp only at hSw); go_simp; first | done | with_reducible rfl)
            simp only [Act.put, List.setIfInBounds_toArray, List.set_cons_zero, List.set_cons_succ]
            have p0 := HXW.out.cellAt 0 (by decide)
            have p1 := HXW.out.cellAt 1 (by decide)
            have p2 := HXW.out.cellAt 2 (by decide)
            simp only [List.getElem?_cons_zero, List.getElem?_cons_succ] at p0 p1 p2
            have f0 := HXW.out.frozenAt 0
            have f1 := HXW.out.frozenAt 1
            have f2 := HXW.out.frozenAt 2
            obtain ⟨WF, hWF, hw1, hw2, hw3, hw4⟩ := box_set HXW.out HOW.out HBW.out (Nat.le_refl _) (.int .i64 X2) (.slice Aw L2.length cw) (.int .i64 R2)
            have HF := Lib.hid hWF
            replace a0 := hw4 _ _ (by exact a0) (by dsimp only; have := HLT0.out; omega)
            replace a1 := hw4 _ _ (by exact a1) (by dsimp only; have := HLT0.out; omega)
            replace a2 := hw4 _ _ (by exact a2) (by dsimp only; have := HLT0.out; omega)
            replace b0 := hw4 _ _ (by exact b0) (by dsimp only; have := HLT0.out; omega)
            replace b1 := hw4 _ _ (by exact b1) (by dsimp only; have := HLT0.out; omega)
            replace b2 := hw4 _ _ (by exact b2) (by dsimp only; have := HLT0.out; omega)
            have H1 := Lib.hid hw1
            have H2 := Lib.hid hw2
            have H3 := Lib.hid hw3
            clear hWF hw1 hw2 hw3 hw4
            refine rg_run 10 rfl (by kernel_rfl) (by kernel_rfl) (fun K hK => ?_)
            go_simp
            rw [← HF.out]
            clear hHeld
            refine hK.out _ _ (by exact ⟨⟨a0, a1, a2⟩, b0, b1, b2⟩) (fun hHeld => ?_)
            clear hK K
            try simp only [Act.put, List.setIfInBounds_toArray, List.set_cons_zero, List.set_cons_succ]
            refine rg_take (v := ?_) 11 rfl (by kernel_rfl) (by kernel_rfl) (by kernel_rfl) (fun _ _ _ h => h) (by kernel_rfl) ?_ (by assumption) ?_
            rotate_left
            · (intro w' hSw; (try dsimp only at hSw); go_simp; first | done | with_reducible rfl)
            simp only [Act.put, List.setIfInBounds_toArray, List.set_cons_zero, List.set_cons_succ]
            refine wpAnyH_done (by kernel_rfl) ?_ _
            clear hHeld
            clear p0 p1 p2 f0 f1 f2 a0 a1 a2 b0 b1 b2
            go_wp2
            go_meet
            case rel => exact ⟨_, Aw, cw, rfl, rfl, Lib.hid ⟨by first | exact H1.out | exact own_drew H1.out, by first | exact H2.out | exact own_drew H2.out, by first | exact H3.out | exact H3.out.drew⟩⟩
        · go_simp
          have hal := below_alloc (Below.refl v10.heap.size v10) (.cells #[.int .i64 0, .slice none 0 0, .int .i64 0] 29)
          replace a0 := cell_later hal (by exact a0)
          replace a1 := cell_later hal (by exact a1)
          replace a2 := cell_later hal (by exact a2)
          replace b0 := cell_later hal (by exact b0)
          replace b1 := cell_later hal (by exact b1)
          replace b2 := cell_later hal (by exact b2)
          have HXW := Lib.hid (own_box v10 w16.heap.size 29 [.int .i64 0, .slice none 0 0, .int .i64 0] 3 rfl (by exact HSZ.out))
          dsimp only [List.toArray] at HXW
          have HB0 := Lib.hid (below_chain (by exact HB0.out) hal)
          have HBW := Lib.hid (below_chain (by exact HBW.out) hal)
          have P1 := Lib.hid (Rd.below (by exact P1.out) hal)
          have HSZn := Lib.hid (show w16.heap.size ≤ (v10.alloc (.cells #[.int .i64 0, .slice none 0 0, .int .i64 0] 29)).heap.size from HBW.out.size)
          clear hal HSZ
          have HSZ := HSZn
          clear HSZn
          generalize v10.alloc (.cells #[.int .i64 0, .slice none 0 0, .int .i64 0] 29) = Gv10 at *
          generalize v10.heap.size = gv10 at *
          clear hHeld
          refine hK.out _ _ (by exact ⟨⟨a0, a1, a2⟩, b0, b1, b2⟩) (fun hHeld => ?_)
          clear hK K
          try simp only [Act.put, List.setIfInBounds_toArray, List.set_cons_zero, List.set_cons_succ]
          refine rg_run 4 rfl (by kernel_rfl) (by kernel_rfl) (fun K hK => ?_)
          go_simp
          refine (HT'.out _ (H'.out.below (by first | exact HB0.out | exact HB0.out.drew))).mono ?_
          rintro e v14 ⟨Aq, cq, rfl, ho, hb⟩
          have P2 := Lib.hid (Rd.own ho)
          have P1 := Lib.hid (Rd.below (by exact P1.out) hb)
          replace a0 := cell_later hb (by exact a0)
          replace a1 := cell_later hb (by exact a1)
          replace a2 := cell_later hb (by exact a2)
          replace b0 := cell_later hb (by exact b0)
          replace b1 := cell_later hb (by exact b1)
          replace b2 := cell_later hb (by exact b2)
          have HXW := Lib.hid (own_below (by first | exact HXW.out | exact own_drew HXW.out) hb)
          have HB0 := Lib.hid (below_chain (by first | exact HB0.out | exact HB0.out.drew) hb)
          have HBW := Lib.hid (show Below w16.heap.size w16 v14 from below_chain (by first | exact HBW.out | exact HBW.out.drew) hb)
          have HSZ := Lib.hid (show w16.heap.size ≤ v14.heap.size from HBW.out.size)
          clear ho hb
          go_wp2
          clear hHeld
          refine hK.out _ _ (by exact ⟨⟨a0, a1, a2⟩, b0, b1, b2⟩) (fun hHeld => ?_)
          clear hK K
          try simp only [Act.put, List.setIfInBounds_toArray, List.set_cons_zero, List.set_cons_succ]
          refine rg_run 5 rfl (by kernel_rfl) (by kernel_rfl) (fun K hK => ?_)
          go_simp
          refine (HI.out _ _ _ _ _ (by exact P1.out) (by exact P2.out)).mono ?_
          rintro e v15 ⟨Aw, cw, rfl, ho, hb⟩
          have HOW := Lib.hid (own_mono ho (base' := w16.heap.size) (by first | exact HSZ.out | exact Nat.le_of_lt HSZ.out))
          replace a0 := cell_later hb (by exact a0)
          replace a1 := cell_later hb (by exact a1)
          replace a2 := cell_later hb (by exact a2)
          replace b0 := cell_later hb (by exact b0)
          replace b1 := cell_later hb (by exact b1)
          replace b2 := cell_later hb (by exact b2)
          have HXW := Lib.hid (own_below (by first | exact HXW.out | exact own_drew HXW.out) hb)
          have HB0 := Lib.hid (below_chain (by first | exact HB0.out | exact HB0.out.drew) hb)
          have HBW := Lib.hid (show Below w16.heap.size w16 v15 from below_chain (by first | exact HBW.out | exact HBW.out.drew) hb)
          have HSZ := Lib.hid (show w16.heap.size ≤ v15.heap.size from HBW.out.size)
          clear ho hb
          go_wp2
          clear hHeld
          refine hK.out _ _ (by exact ⟨⟨a0, a1, a2⟩, b0, b1, b2⟩) (fun hHeld => ?_)
          clear hK K
          try simp only [Act.put, List.setIfInBounds_toArray, List.set_cons_zero, List.set_cons_succ]
          refine rg_take (v := ?_) 6 rfl (by kernel_rfl) (by kernel_rfl) (by kernel_rfl) (fun _ _ _ h => h) (by kernel_rfl) ?_ (by assumption) ?_
          rotate_left
          · (intro w' hSw; (try dsimp only at hSw); go_simp; first | done | with_reducible rfl)
          simp only [Act.put, List.setIfInBounds_toArray, List.set_cons_zero, List.set_cons_succ]
          refine rg_take (v := ?_) 7 rfl (by kernel_rfl) (by kernel_rfl) (by kernel_rfl) (fun _ _ _ h => h) (by kernel_rfl) ?_ (by assumption) ?_
          rotate_left
          · (intro w' hSw; (try dsimp only at hSw); go_simp; first | done | with_reducible rfl)
          simp only [Act.put, List.setIfInBounds_toArray, List.set_cons_zero, List.set_cons_succ]
          refine rg_take (v := ?_) 8 rfl (by kernel_rfl) (by kernel_rfl) (by kernel_rfl) (fun _ _ _ h => h) (by kernel_rfl) ?_ (by assumption) ?_
          rotate_left
          · (intro w' hSw; (try dsimp only at hSw); go_simp; first | done | with_reducible rfl)
          simp only [Act.put, List.setIfInBounds_toArray, List.set_cons_zero, List.set_cons_succ]
          have p0 := HXW.out.cellAt 0 (by decide)
          have p1 := HXW.out.cellAt 1 (by decide)
          have p2 := HXW.out.cellAt 2 (by decide)
          simp only [List.getElem?_cons_zero, List.getElem?_cons_succ] at p0 p1 p2
          have f0 := HXW.out.frozenAt 0
          have f1 := HXW.out.frozenAt 1
          have f2 := HXW.out.frozenAt 2
          obtain ⟨WF, hWF, hw1, hw2, hw3, hw4⟩ := box_set HXW.out HOW.out HBW.out (Nat.le_refl _) (.int .i64 X2) (.slice Aw L2.length cw) (.int .i64 R2)
          have HF := Lib.hid hWF
          replace a0 := hw4 _ _ (by exact a0) (by dsimp only; have := HLT0.out; omega)
          replace a1 := hw4 _ _ (by exact a1) (by dsimp only; have := HLT0.out; omega)
          replace a2 := hw4 _ _ (by exact a2) (by dsimp only; have := HLT0.out; omega)
          replace b0 := hw4 _ _ (by exact b0) (by dsimp only; have := HLT0.out; omega)
          replace b1 := hw4 _ _ (by exact b1) (by dsimp only; have := HLT0.out; omega)
          replace b2 := hw4 _ _ (by exact b2) (by dsimp only; have := HLT0.out; omega)
          have H1 := Lib.hid hw1
          have H2 := Lib.hid hw2
          have H3 := Lib.hid hw3
          clear hWF hw1 hw2 hw3 hw4
          refine rg_run 10 rfl (by kernel_rfl) (by kernel_rfl) (fun K hK => ?_)
          go_simp
          rw [← HF.out]
          clear hHeld
          refine hK.out _ _ (by exact ⟨⟨a0, a1, a2⟩, b0, b1, b2⟩) (fun hHeld => ?_)
          clear hK K
          try simp only [Act.put, List.setIfInBounds_toArray, List.set_cons_zero, List.set_cons_succ]
          refine rg_take (v := ?_) 11 rfl (by kernel_rfl) (by kernel_rfl) (by kernel_rfl) (fun _ _ _ h => h) (by kernel_rfl) ?_ (by assumption) ?_
          rotate_left
          · (intro w' hSw; (try dsimp only at hSw); go_simp; first | done | with_reducible rfl)
          simp only [Act.put, List.setIfInBounds_toArray, List.set_cons_zero, List.set_cons_succ]
          refine wpAnyH_done (by kernel_rfl) ?_ _
          clear hHeld
          clear p0 p1 p2 f0 f1 f2 a0 a1 a2 b0 b1 b2
          go_wp2
          go_meet
          case rel => exact ⟨_, Aw, cw, rfl, rfl, Lib.hid ⟨by first | exact H1.out | exact own_drew H1.out, by first | exact H2.out | exact own_drew H2.out, by first | exact H3.out | exact H3.out.drew⟩⟩
      · go_simp
        have hal := below_alloc (Below.refl w16.heap.size w16) (.cells #[.int .i64 0, .slice none 0 0, .int .i64 0] 29)
        replace a0 := cell_later hal (by exact a0)
        replace a1 := cell_later hal (by exact a1)
        replace a2 := cell_later hal (by exact a2)
        replace b0 := cell_later hal (by exact b0)
        replace b1 := cell_later hal (by exact b1)
        replace b2 := cell_later hal (by exact b2)
        have HXW := Lib.hid (own_box w16 w16.heap.size 29 [.int .i64 0, .slice none 0 0, .int .i64 0] 3 rfl (by exact HSZ.out))
        dsimp only [List.toArray] at HXW
        have HB0 := Lib.hid (below_chain (by exact HB0.out) hal)
        have HBW := Lib.hid (below_chain (by exact HBW.out) hal)
        have HSZn := Lib.hid (show w16.heap.size ≤ (w16.alloc (.cells #[.int .i64 0, .slice none 0 0, .int .i64 0] 29)).heap.size from HBW.out.size)
        clear hal HSZ
        have HSZ := HSZn
        clear HSZn
        generalize w16.alloc (.cells #[.int .i64 0, .slice none 0 0, .int .i64 0] 29) = Gw16 at *
        clear hHeld
        refine hK.out _ _ (by exact ⟨⟨a0, a1, a2⟩, b0, b1, b2⟩) (fun hHeld => ?_)
        clear hK K
        try simp only [Act.put, List.setIfInBounds_toArray, List.set_cons_zero, List.set_cons_succ]
        refine rg_run 2 rfl (by kernel_rfl) (by kernel_rfl) (fun K hK => ?_)
        go_simp
        refine (HT.out _ (H.out.below (by first | exact HB0.out | exact HB0.out.drew))).mono ?_
        rintro e v16 ⟨Ap, cp, rfl, ho, hb⟩
        have P1 := Lib.hid (Rd.own ho)
        replace a0 := cell_later hb (by exact a0)
        replace a1 := cell_later hb (by exact a1)
        replace a2 := cell_later hb (by exact a2)
        replace b0 := cell_later hb (by exact b0)
        replace b1 := cell_later hb (by exact b1)
        replace b2 := cell_later hb (by exact b2)
        have HXW := Lib.hid (own_below (by first | exact HXW.out | exact own_drew HXW.out) hb)
        have HB0 := Lib.hid (below_chain (by first | exact HB0.out | exact HB0.out.drew) hb)
        have HBW := Lib.hid (show Below w16.heap.size w16 v16 from below_chain (by first | exact HBW.out | exact HBW.out.drew) hb)
        have HSZ := Lib.hid (show w16.heap.size ≤ v16.heap.size from HBW.out.size)
        clear ho hb
        go_wp2
        clear hHeld
        refine hK.out _ _ (by exact ⟨⟨a0, a1, a2⟩, b0, b1, b2⟩) (fun hHeld => ?_)
        clear hK K
        try simp only [Act.put, List.setIfInBounds_toArray, List.set_cons_zero, List.set_cons_succ]
        refine rg_run 4 rfl (by kernel_rfl) (by kernel_rfl) (fun K hK => ?_)
        go_simp
        refine (HT'.out _ (H'.out.below (by first | exact HB0.out | exact HB0.out.drew))).mono ?_
        rintro e v17 ⟨Aq, cq, rfl, ho, hb⟩
        have P2 := Lib.hid (Rd.own ho)
        have P1 := Lib.hid (Rd.below (by exact P1.out) hb)
        replace a0 := cell_later hb (by exact a0)
        replace a1 := cell_later hb (by exact a1)
        replace a2 := cell_later hb (by exact a2)
        replace b0 := cell_later hb (by exact b0)
        replace b1 := cell_later hb (by exact b1)
        replace b2 := cell_later hb (by exact b2)
        have HXW := Lib.hid (own_below (by first | exact HXW.out | exact own_drew HXW.out) hb)
        have HB0 := Lib.hid (below_chain (by first | exact HB0.out | exact HB0.out.drew) hb)
        have HBW := Lib.hid (show Below w16.heap.size w16 v17 from below_chain (by first | exact HBW.out | exact HBW.out.drew) hb)
        have HSZ := Lib.hid (show w16.heap.size ≤ v17.heap.size from HBW.out.size)
        clear ho hb
        go_wp2
        clear hHeld
        refine hK.out _ _ (by exact ⟨⟨a0, a1, a2⟩, b0, b1, b2⟩) (fun hHeld => ?_)
        clear hK K
        try simp only [Act.put, List.setIfInBounds_toArray, List.set_cons_zero, List.set_cons_succ]
        refine rg_run 5 rfl (by kernel_rfl) (by kernel_rfl) (fun K hK => ?_)
        go_simp
        refine (HI.out _ _ _ _ _ (by exact P1.out) (by exact P2.out)).mono ?_
        rintro e v18 ⟨Aw, cw, rfl, ho, hb⟩
        have HOW := Lib.hid (own_mono ho (base' := w16.heap.size) (by first | exact HSZ.out | exact Nat.le_of_lt HSZ.out))
        replace a0 := cell_later hb (by exact a0)
        replace a1 := cell_later hb (by exact a1)
        replace a2 := cell_later hb (by exact a2)
        replace b0 := cell_later hb (by exact b0)
        replace b1 := cell_later hb (by exact b1)
        replace b2 := cell_later hb (by exact b2)
        have HXW := Lib.hid (own_below (by first | exact HXW.out | exact own_drew HXW.out) hb)
        have HB0 := Lib.hid (below_chain (by first | exact HB0.out | exact HB0.out.drew) hb)
        have HBW := Lib.hid (show Below w16.heap.size w16 v18 from below_chain (by first | exact HBW.out | exact HBW.out.drew) hb)
        have HSZ := Lib.hid (show w16.heap.size ≤ v18.heap.size from HBW.out.size)
        clear ho hb
        go_wp2
        clear hHeld
        refine hK.out _ _ (by exact ⟨⟨a0, a1, a2⟩, b0, b1, b2⟩) (fun hHeld => ?_)
        clear hK K
        try simp only [Act.put, List.setIfInBounds_toArray, List.set_cons_zero, List.set_cons_succ]
        refine rg_take (v := ?_) 6 rfl (by kernel_rfl) (by kernel_rfl) (by kernel_rfl) (fun _ _ _ h => h) (by kernel_rfl) ?_ (by assumption) ?_
        rotate_left
        · (intro w' hSw; (try dsimp only at hSw); go_simp; first | done | with_reducible rfl)
        simp only [Act.put, List.setIfInBounds_toArray, List.set_cons_zero, List.set_cons_succ]
        refine rg_take (v := ?_) 7 rfl (by kernel_rfl) (by kernel_rfl) (by kernel_rfl) (fun _ _ _ h => h) (by kernel_rfl) ?_ (by assumption) ?_
        rotate_left
        · (intro w' hSw; (try dsimp only at hSw); go_simp; first | done | with_reducible rfl)
        simp only [Act.put, List.setIfInBounds_toArray, List.set_cons_zero, List.set_cons_succ]
        refine rg_take (v := ?_) 8 rfl (by kernel_rfl) (by kernel_rfl) (by kernel_rfl) (fun _ _ _ h => h) (by kernel_rfl) ?_ (by assumption) ?_
        rotate_left
        · (intro w' hSw; (try dsimp only at hSw); go_simp; first | done | with_reducible rfl)
        simp only [Act.put, List.setIfInBounds_toArray, List.set_cons_zero, List.set_cons_succ]
        have p0 := HXW.out.cellAt 0 (by decide)
        have p1 := HXW.out.cellAt 1 (by decide)
        have p2 := HXW.out.cellAt 2 (by decide)
        simp only [List.getElem?_cons_zero, List.getElem?_cons_succ] at p0 p1 p2
        have f0 := HXW.out.frozenAt 0
        have f1 := HXW.out.frozenAt 1
        have f2 := HXW.out.frozenAt 2
        obtain ⟨WF, hWF, hw1, hw2, hw3, hw4⟩ := box_set HXW.out HOW.out HBW.out (Nat.le_refl _) (.int .i64 X2) (.slice Aw L2.length cw) (.int .i64 R2)
        have HF := Lib.hid hWF
        replace a0 := hw4 _ _ (by exact a0) (by dsimp only; have := HLT0.out; omega)
        replace a1 := hw4 _ _ (by exact a1) (by dsimp only; have := HLT0.out; omega)
        replace a2 := hw4 _ _ (by exact a2) (by dsimp only; have := HLT0.out; omega)
        replace b0 := hw4 _ _ (by exact b0) (by dsimp only; have := HLT0.out; omega)
        replace b1 := hw4 _ _ (by exact b1) (by dsimp only; have := HLT0.out; omega)
        replace b2 := hw4 _ _ (by exact b2) (by dsimp only; have := HLT0.out; omega)
        have H1 := Lib.hid hw1
        have H2 := Lib.hid hw2
        have H3 := Lib.hid hw3
        clear hWF hw1 hw2 hw3 hw4
        refine rg_run 10 rfl (by kernel_rfl) (by kernel_rfl) (fun K hK => ?_)
        go_simp
        rw [← HF.out]
        clear hHeld
        refine hK.out _ _ (by exact ⟨⟨a0, a1, a2⟩, b0, b1, b2⟩) (fun hHeld => ?_)
        clear hK K
        try simp only [Act.put, List.setIfInBounds_toArray, List.set_cons_zero, List.set_cons_succ]
        refine rg_take (v := ?_) 11 rfl (by kernel_rfl) (by kernel_rfl) (by kernel_rfl) (fun _ _ _ h => h) (by kernel_rfl) ?_ (by assumption) ?_
        rotate_left
        · (intro w' hSw; (try dsimp only at hSw); go_simp; first | done | with_reducible rfl)
        simp only [Act.put, List.setIfInBounds_toArray, List.set_cons_zero, List.set_cons_succ]
        refine wpAnyH_done (by kernel_rfl) ?_ _
        clear hHeld
        clear p0 p1 p2 f0 f1 f2 a0 a1 a2 b0 b1 b2
        go_wp2
        go_meet
        case rel => exact ⟨_, Aw, cw, rfl, rfl, Lib.hid ⟨by first | exact H1.out | exact own_drew H1.out, by first | exact H2.out | exact own_drew H2.out, by first | exact H3.out | exact H3.out.drew⟩⟩
    case rest =>
      obtain ⟨bh, Ah, ch, rfl, rfl, hq⟩ := hcut
      obtain ⟨w17, rfl⟩ : ∃ w17, w17 = wc := ⟨_, rfl⟩
      obtain ⟨hqb, hqr, hstep⟩ := hq.out
      replace B := below_chain B hstep
      replace F_w3 := below_chain F_w3 hstep
      replace F_w15 := below_chain F_w15 hstep
      have j0 := cell_later hstep J0.out
      have j1 := cell_later hstep J1.out
      have j2 := cell_later hstep J2.out
      have g0 := cell_later hstep G0.out
      have g1 := cell_later hstep G1.out
      have g2 := cell_later hstep G2.out
      have rh := Rd.own hqr
      have k0 := hqb.cellAt 0 (by decide)
      have k1 := hqb.cellAt 1 (by decide)
      have k2 := hqb.cellAt 2 (by decide)
      simp only [List.getElem?_cons_zero, List.getElem?_cons_succ] at k0 k1 k2
      clear J0 J1 J2 G0 G1 G2 HB0 HBW HSZ HLT0 hq hqb hqr hstep a0 a1 a2 b0 b1 b2
      go_wp2_with (fail)
      refine (HQ.out _ _ _ _ _ (by exact rh) (by exact rw3.below F_w3)).mono ?_
      rintro e w18 ⟨rfl, hb⟩
      have hstep : Below w17.heap.size w17 w18 := below_chain (by (repeat (first | exact Below.refl _ _ | assumption | refine below_alloc ?_ _ | refine below_drewN ?_ _ | refine below_set ?_ _ (by simp; try omega) | refine Below.drew ?_))) hb
      replace j0 := cell_later hstep j0
      replace j1 := cell_later hstep j1
      replace j2 := cell_later hstep j2
      replace g0 := cell_later hstep g0
      replace g1 := cell_later hstep g1
      replace g2 := cell_later hstep g2
      replace B := below_chain B hstep
      replace F_w3 := below_chain F_w3 hstep
      replace F_w15 := below_chain F_w15 hstep
      clear hb hstep
      go_wp2_with (fail)
      refine (c_heldDiagram X2 R2 _ _ _ 1 _ (by omega) (by have := HD.out; omega) (by exact rm.below F_w15)).mono ?_
      rintro e w19 ⟨rfl, hb⟩
      have hstep : Below w18.heap.size w18 w19 := below_chain (by (repeat (first | exact Below.refl _ _ | assumption | refine below_alloc ?_ _ | refine below_drewN ?_ _ | refine below_set ?_ _ (by simp; try omega) | refine Below.drew ?_))) hb
      replace j0 := cell_later hstep j0
      replace j1 := cell_later hstep j1
      replace j2 := cell_later hstep j2
      replace g0 := cell_later hstep g0
      replace g1 := cell_later hstep g1
      replace g2 := cell_later hstep g2
      replace B := below_chain B hstep
      replace F_w3 := below_chain F_w3 hstep
      replace F_w15 := below_chain F_w15 hstep
      clear hb hstep
      go_wp2_with (fail)
      go_ret
      exact ⟨rfl, B⟩
end Go.Proofs.Ytndihacmlkgkbaa
