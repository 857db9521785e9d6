/- Contract of l04Draw. No condition. -/
import Derived.Test.YthkghpmfbdojeaaDrawK
namespace Go.Proofs.Ythkghpmfbdojeaa
open Go.RowKit

theorem half_facts (m c : Nat) (h : m ≤ 18) (hc : m ≤ c) : wrap64 ((m : Int) / 2) = (m : Int) / 2 ∧ (0 : Int) ≤ (m : Int) / 2 ∧ (m : Int) / 2 ≤ c ∧ ((m : Int) / 2).toNat = m / 2 :=
  ⟨IntWalk.wrap64_in _ (by omega), by omega, by omega, by omega⟩
set_option maxHeartbeats 4000000 in
set_option maxRecDepth 100000 in
theorem c_l04Draw (B : Nat) (w : World) (h : Src w B) :
    Calls Try.prog 14 #[.pointer (some ⟨B, 0, none⟩)] w (SomeLB B w) := by
  have hBl := h.lt
  have hor : (w.alloc (.cells #[.slice none 0 0] 26)).ownsRow w.heap.size 26 1 (.slice (some ⟨w.heap.size, 0, none⟩) 1 1) 1 [.slice none 0 0] := by
    have h := World.ownsRow_lit (e := 26) (size := 1) (base := w.heap.size) w #[.slice none 0 0] 1 (by simp) (by decide) (by simp)
    simpa using h
  go_enter Try.func14, Try.ntmps14
  go_wp2_with (fail)
  refine (c_l03Draw _ _ (h.alloc _)).mono ?_
  rintro e w1 ⟨A, c, L, rfl, hL, ho, hs, hg⟩
  have hor1 := own_at hor hg hBl
  have hG := grown_trans (grown_alloc (grown_refl w _) _) hg
  have hsz1 := (own_ge hor1).2
  have hlb : (w1.alloc (.cells #[.slice A L.length c] 26)).ownsRow w1.heap.size 26 1 (.slice (some ⟨w1.heap.size, 0, none⟩) 1 1) 1 [.slice A L.length c] := by
    have h := World.ownsRow_lit (e := 26) (size := 1) (base := w1.heap.size) w1 #[.slice A L.length c] 1 (by simp) (by decide) (by simp)
    simpa using h
  have HD := Lib.hid (show DQ B w.heap.size w1.heap.size w (w1.alloc (.cells #[.slice A L.length c] 26)) A c L (.slice none 0 0) [] from
    ⟨own_below (own_mono ho (by simp)) (below_alloc (Below.refl _ _) _), own_nil _ _ _ _, ⟨_, own_below hor1 (below_alloc (Below.refl _ _) _)⟩, own_mono hlb (by omega), hs.alloc _, grown_alloc hG _, hBl, Nat.le_refl _, hL, by simp⟩)
  clear hor ho hs hg hor1 hG hlb h
  go_wp2_with (fail)
  have hbl1 : w.heap.size < w1.heap.size := hsz1
  generalize w1.alloc (.cells #[.slice A L.length c] 26) = W at HD ⊢
  generalize w1.heap.size = bl at *
  have hcap := own_cap HD.out.row
  unfold maxLen at hcap
  refine (c_sDefaultBlocks A c L.length L _ rfl (by omega) hcap.1 (by omega) (Rd.own HD.out.row)).mono ?_
  rintro e w2 ⟨A2, c2, rfl, ho2, hb⟩
  have HD2 := Lib.hid (HD.out.newfr hb ho2 (by have := dflR_len L; omega))
  have hfs8 := dflR_len L
  generalize dflC L = bad at *
  generalize dflR L = fs at *
  clear ho2 hb HD
  go_upto_region 3 with (fail)
  go_cut [34] from 35 (fun x wx => ∃ b : Bool, x = .bool b ∧ (b = true → 2 < L.length) ∧ DQ B w.heap.size bl w wx A c L (.slice A2 fs.length c2) fs)
  case first =>
    rcases Decidable.em (bad = 0) with hbad | hbad
    · go_wp2_with (fail)
      go_meet
      case rel => exact ⟨false, rfl, by simp, HD2.out⟩
    · go_wp2_with (fail)
      refine (c_Next B 8 _ HD2.out.src (by omega)).mono ?_
      rintro e w3 ⟨r, rfl, hr0, hr1, hr2, hs, hg⟩
      have HD3 := Lib.hid (HD2.out.step hs hg)
      have hc0 := HD3.out.lb.cellAt 0 (by decide)
      simp only [List.getElem?_cons_zero] at hc0
      clear hs hg HD2 hr1 hr2
      go_wp2_with (fail)
      all_goals go_meet
      all_goals first
        | exact ⟨false, rfl, by simp, HD3.out⟩
        | exact ⟨_, rfl, fun _ => by omega, HD3.out⟩
  case rest =>
    obtain ⟨cond, rfl, hcond, hd⟩ := hcut
    have HC := Lib.hid hcond
    have HD3 := Lib.hid hd
    clear hd HD2 hcond
    go_upto_if 34 with (fail)
    go_cut [5] from 16 (fun v wx => ∃ (L' : List Seg) (fs' : List Int), L'.length = L.length ∧ fs'.length ≤ 8 ∧ DQ B w.heap.size bl w wx A c L' v fs')
    case first =>
      cases cond
      · go_wp2_with (fail)
        go_meet
        case rel => exact ⟨L, fs, rfl, hfs8, HD3.out⟩
      · have hL2 := HC.out rfl
        obtain ⟨gA, rfl⟩ : ∃ gA, A = some ⟨gA, 0, none⟩ := by
          obtain ⟨m, hm⟩ : ∃ m, L.length = m + 1 := ⟨L.length - 1, by omega⟩
          have hrow := HD3.out.row
          rw [hm] at hrow
          obtain ⟨g, cap, hv⟩ := own_form hrow
          simp only [Value.slice.injEq] at hv
          exact ⟨g, hv.1⟩
        go_wp2_with (fail)
        refine (c_DrawSegment B 3 _ HD3.out.src).mono ?_
        rintro e w4 ⟨s, rfl, hs, hg⟩
        have HD4 := Lib.hid (HD3.out.step hs hg)
        clear hs hg HD3 HC
        have hc0 := HD4.out.lb.cellAt 0 (by decide)
        simp only [List.getElem?_cons_zero] at hc0
        obtain ⟨t, hz⟩ : ∃ z, L[0]? = some z := ⟨_, List.getElem?_eq_getElem (by omega)⟩
        obtain ⟨b1, o1, eb, hbb, g0, g1, g2, g3, g4, g5, g6⟩ := (Rd.own HD4.out.row).seg hz
        simp only [Option.some.injEq, Addr.mk.injEq, and_true] at eb
        obtain ⟨rfl, rfl⟩ := eb
        simp only [Nat.zero_mul, Nat.zero_add] at g0 g1 g2 g3 g4 g5 g6
        have hzl := (own_ge HD4.out.lb).2
        have hLi : (0 : Int) < (L.length : Int) := by omega
        unfold Seg.val
        clear hz
        go_wp2_with (fail)
        have hx := own_seven (w := w4) { s with r := t.r }
        have hB5 := below_alloc (Below.refl w4.heap.size w4) (.cells #[.int .i64 s.k, .int .i64 s.l, .int .i64 t.r, .int .i64 s.a, .int .i64 s.b, .int .i64 s.c, .int .i64 s.d] 61)
        have HD5 := Lib.hid (HD4.out.below hB5)
        clear hc0 g0 g1 g2 g3 g4 g5 g6 HD4
        generalize w4.alloc (.cells #[.int .i64 s.k, .int .i64 s.l, .int .i64 t.r, .int .i64 s.a, .int .i64 s.b, .int .i64 s.c, .int .i64 s.d] 61) = W5 at hx hB5 HD5 ⊢
        obtain ⟨⟨v0, v1, v2, v3, v4, v5, v6⟩, ⟨f0, f1, f2, f3, f4, f5, f6⟩, _, hltx⟩ := seven_cells hx
        simp only at v0 v1 v2 v3 v4 v5 v6
        have HX := Lib.hid hx
        clear hx hB5
        rcases Int.lt_or_le s.l (absW t.r) with hmx | hmx
        · skip
          have HAB := Lib.hid (fun w => (c_l01Abs t.r w).mono (R' := fun e w' => e = .returned (.int .i64 (absW t.r)) ∧ w' = w) fun _ _ h => ⟨h.1, h.2.symm⟩)
          refine wp_still_drew 7 (by kernel_rfl) (by kernel_rfl) ?_
          simp only [List.take_succ_cons, List.take_zero, List.drop_succ_cons, List.drop_zero]
          repeat (first | still_step | still_call (HAB.out _))
          refine wpStill_nil ?_
          go_upto_region 7 with (fail)
          have hst := HX.out.stored 1 (.int .i64 (absW t.r))
          have hD6 : DQ B w.heap.size bl w (W5.setCell ⟨w4.heap.size, 1, none⟩ (.int .i64 (absW t.r))).drew (some ⟨gA, 0, none⟩) c L (.slice A2 fs.length c2) fs := by
            have hD := HD5.out
            have hbr := hD.h1
            have hwr := hD.h2
            obtain ⟨u, hr⟩ := hD.res
            have hs9 := hD.sz
            have hfr : ∀ q, (Value.slice A2 fs.length c2).ownBlock = some q → q ≠ w4.heap.size := fun q hq e => own_ne HX.out hD.fr (by decide) w4.heap.size rfl (by rw [hq, e])
            refine DQ.drew ⟨hD.row.kept hst.2 (.inr (by simp [Value.ownBlock]; omega)), hD.fr.kept hst.2 (.inr (fun e => hfr w4.heap.size e rfl)), ⟨u, hr.kept hst.2 (.inr (by simp [Value.ownBlock]; omega))⟩, hD.lb.kept hst.2 (.inr (by simp [Value.ownBlock]; omega)), hD.src.far hst.2 (by intro q hq; simp at hq; omega), grown_row hD.g hst.2 (by intro q hq; simp at hq; omega), hbr, hwr, hD.h3, hD.h4⟩
          have hx6 : (W5.setCell ⟨w4.heap.size, 1, none⟩ (.int .i64 (absW t.r))).drew.ownsRow w4.heap.size 61 1 (.slice (some ⟨w4.heap.size, 0, none⟩) 7 7) 7 (Seg.cells { s with l := (absW t.r), r := t.r }) := by
            have h1 := hst.1
            simpa [Seg.cells] using own_drew h1
          clear hst v0 v1 v2 v3 v4 v5 v6 f0 f1 f2 f3 f4 f5 f6 HX HD5 hltx
          generalize (W5.setCell ⟨w4.heap.size, 1, none⟩ (.int .i64 (absW t.r))).drew = W6 at hD6 hx6 ⊢
          obtain ⟨⟨v0, v1, v2, v3, v4, v5, v6⟩, _, _, hltx⟩ := seven_cells hx6
          simp only at v0 v1 v2 v3 v4 v5 v6
          have hc0 := hD6.lb.cellAt 0 (by decide)
          simp only [List.getElem?_cons_zero] at hc0
          have hrow := hD6.row
          obtain ⟨y0, z0⟩ := own_cell hrow (j := 0) (by omega)
          obtain ⟨y1, z1⟩ := own_cell hrow (j := 1) (by omega)
          obtain ⟨y2, z2⟩ := own_cell hrow (j := 2) (by omega)
          obtain ⟨y3, z3⟩ := own_cell hrow (j := 3) (by omega)
          obtain ⟨y4, z4⟩ := own_cell hrow (j := 4) (by omega)
          obtain ⟨y5, z5⟩ := own_cell hrow (j := 5) (by omega)
          obtain ⟨y6, z6⟩ := own_cell hrow (j := 6) (by omega)
          have f0 := hrow.frozenAt 0
          have f1 := hrow.frozenAt 1
          have f2 := hrow.frozenAt 2
          have f3 := hrow.frozenAt 3
          have f4 := hrow.frozenAt 4
          have f5 := hrow.frozenAt 5
          have f6 := hrow.frozenAt 6
          have hD7 := hD6.setRow (k := 0) (by omega) { s with l := (absW t.r), r := t.r }
          simp only [set7o, Nat.zero_mul, Nat.zero_add] at hD7
          have hneb : ¬ bl = gA := fun e => own_ne hD6.lb hrow (by decide) bl rfl (by rw [e]; rfl)
          have hneb2 : ¬ gA = bl := fun e => hneb e.symm
          have hl7 : (L.set 0 { s with l := (absW t.r), r := t.r }).length = L.length := by simp
          generalize L.set 0 { s with l := (absW t.r), r := t.r } = L7 at hD7 hl7
          have HD7 := Lib.hid hD7
          have hgAlt := (own_ge hrow).2
          clear hrow hD6 hx6 hD7
          have HL7 := Lib.hid hl7
          clear hl7
          go_wp2_with (fail)
          refine (c_sDefaultBlocks (some ⟨gA, 0, none⟩) c L.length L7 _ HL7.out.symm (by omega) hcap.1 (by omega) (by have := Rd.own HD7.out.row; exact this)).mono ?_
          rintro e w8 ⟨A8, c8, rfl, ho8, hb8⟩
          have HD8 := Lib.hid (HD7.out.newfr hb8 ho8 (by have := dflR_len L7; omega))
          clear ho8 hb8 HD7
          go_wp2_with (fail)
          go_meet
          case rel => exact ⟨L7, dflR L7, HL7.out, dflR_len L7, HD8.out⟩
        · skip
          have HAB := Lib.hid (fun w => (c_l01Abs t.r w).mono (R' := fun e w' => e = .returned (.int .i64 (absW t.r)) ∧ w' = w) fun _ _ h => ⟨h.1, h.2.symm⟩)
          refine wp_still_drew 7 (by kernel_rfl) (by kernel_rfl) ?_
          simp only [List.take_succ_cons, List.take_zero, List.drop_succ_cons, List.drop_zero]
          repeat (first | still_step | still_call (HAB.out _))
          refine wpStill_nil ?_
          go_upto_region 7 with (fail)
          have hst := HX.out.stored 1 (.int .i64 s.l)
          have hD6 : DQ B w.heap.size bl w (W5.setCell ⟨w4.heap.size, 1, none⟩ (.int .i64 s.l)).drew (some ⟨gA, 0, none⟩) c L (.slice A2 fs.length c2) fs := by
            have hD := HD5.out
            have hbr := hD.h1
            have hwr := hD.h2
            obtain ⟨u, hr⟩ := hD.res
            have hs9 := hD.sz
            have hfr : ∀ q, (Value.slice A2 fs.length c2).ownBlock = some q → q ≠ w4.heap.size := fun q hq e => own_ne HX.out hD.fr (by decide) w4.heap.size rfl (by rw [hq, e])
            refine DQ.drew ⟨hD.row.kept hst.2 (.inr (by simp [Value.ownBlock]; omega)), hD.fr.kept hst.2 (.inr (fun e => hfr w4.heap.size e rfl)), ⟨u, hr.kept hst.2 (.inr (by simp [Value.ownBlock]; omega))⟩, hD.lb.kept hst.2 (.inr (by simp [Value.ownBlock]; omega)), hD.src.far hst.2 (by intro q hq; simp at hq; omega), grown_row hD.g hst.2 (by intro q hq; simp at hq; omega), hbr, hwr, hD.h3, hD.h4⟩
          have hx6 : (W5.setCell ⟨w4.heap.size, 1, none⟩ (.int .i64 s.l)).drew.ownsRow w4.heap.size 61 1 (.slice (some ⟨w4.heap.size, 0, none⟩) 7 7) 7 (Seg.cells { s with l := s.l, r := t.r }) := by
            have h1 := hst.1
            simpa [Seg.cells] using own_drew h1
          clear hst v0 v1 v2 v3 v4 v5 v6 f0 f1 f2 f3 f4 f5 f6 HX HD5 hltx
          generalize (W5.setCell ⟨w4.heap.size, 1, none⟩ (.int .i64 s.l)).drew = W6 at hD6 hx6 ⊢
          obtain ⟨⟨v0, v1, v2, v3, v4, v5, v6⟩, _, _, hltx⟩ := seven_cells hx6
          simp only at v0 v1 v2 v3 v4 v5 v6
          have hc0 := hD6.lb.cellAt 0 (by decide)
          simp only [List.getElem?_cons_zero] at hc0
          have hrow := hD6.row
          obtain ⟨y0, z0⟩ := own_cell hrow (j := 0) (by omega)
          obtain ⟨y1, z1⟩ := own_cell hrow (j := 1) (by omega)
          obtain ⟨y2, z2⟩ := own_cell hrow (j := 2) (by omega)
          obtain ⟨y3, z3⟩ := own_cell hrow (j := 3) (by omega)
          obtain ⟨y4, z4⟩ := own_cell hrow (j := 4) (by omega)
          obtain ⟨y5, z5⟩ := own_cell hrow (j := 5) (by omega)
          obtain ⟨y6, z6⟩ := own_cell hrow (j := 6) (by omega)
          have f0 := hrow.frozenAt 0
          have f1 := hrow.frozenAt 1
          have f2 := hrow.frozenAt 2
          have f3 := hrow.frozenAt 3
          have f4 := hrow.frozenAt 4
          have f5 := hrow.frozenAt 5
          have f6 := hrow.frozenAt 6
          have hD7 := hD6.setRow (k := 0) (by omega) { s with l := s.l, r := t.r }
          simp only [set7o, Nat.zero_mul, Nat.zero_add] at hD7
          have hneb : ¬ bl = gA := fun e => own_ne hD6.lb hrow (by decide) bl rfl (by rw [e]; rfl)
          have hneb2 : ¬ gA = bl := fun e => hneb e.symm
          have hl7 : (L.set 0 { s with l := s.l, r := t.r }).length = L.length := by simp
          generalize L.set 0 { s with l := s.l, r := t.r } = L7 at hD7 hl7
          have HD7 := Lib.hid hD7
          have hgAlt := (own_ge hrow).2
          clear hrow hD6 hx6 hD7
          have HL7 := Lib.hid hl7
          clear hl7
          go_wp2_with (fail)
          refine (c_sDefaultBlocks (some ⟨gA, 0, none⟩) c L.length L7 _ HL7.out.symm (by omega) hcap.1 (by omega) (by have := Rd.own HD7.out.row; exact this)).mono ?_
          rintro e w8 ⟨A8, c8, rfl, ho8, hb8⟩
          have HD8 := Lib.hid (HD7.out.newfr hb8 ho8 (by have := dflR_len L7; omega))
          clear ho8 hb8 HD7
          go_wp2_with (fail)
          go_meet
          case rel => exact ⟨L7, dflR L7, HL7.out, dflR_len L7, HD8.out⟩
    case rest =>
      obtain ⟨L5, fs5, hl5, hfl5, hd⟩ := hcut
      obtain ⟨A5, c5, rfl, hc51, hc52⟩ := hd.form
      unfold maxLen at hc52
      have HD5 := Lib.hid hd
      have HL5 := Lib.hid hl5
      clear hd HD3 HC hl5
      go_upto_region 9 with (fail)
      go_cut [66] from 67 (fun x wx => ∃ b : Bool, x = .bool b ∧ (b = true → 2 < fs5.length) ∧ DQ B w.heap.size bl w wx A c L5 (.slice A5 fs5.length c5) fs5)
      case first =>
        rcases Nat.lt_or_ge 2 fs5.length with h2 | h2
        · go_wp2_with (fail)
          refine (c_Next B 3 _ HD5.out.src (by omega)).mono ?_
          rintro e w6 ⟨r, rfl, hr0, hr1, hr2, hs, hg⟩
          have HD6 := Lib.hid (HD5.out.step hs hg)
          clear hs hg HD5 hr1 hr2
          go_wp2_with (fail)
          all_goals go_meet
          all_goals exact ⟨_, rfl, fun _ => h2, HD6.out⟩
        · go_wp2_with (fail)
          go_meet
          case rel => exact ⟨false, rfl, by simp, HD5.out⟩
      case rest =>
        obtain ⟨cond2, rfl, hcond2, hd⟩ := hcut
        have HC2 := Lib.hid hcond2
        have HD6 := Lib.hid hd
        clear hd HD5 hcond2
        go_upto_if 66 with (fail)
        go_cut [5] from 67 (fun v wx => ∃ fs' : List Int, fs'.length ≤ 18 ∧ DQ B w.heap.size bl w wx A c L5 v fs')
        case first =>
          cases cond2
          · go_wp2_with (fail)
            go_meet
            case rel => exact ⟨fs5, by omega, HD6.out⟩
          · have h2 := HC2.out rfl
            go_wp2_with (fail)
            refine (c_Next B _ _ HD6.out.src (by omega)).mono ?_
            rintro e w7 ⟨r, rfl, hr0, hr1, hr2, hs, hg⟩
            replace hr1 := hr1 (by omega)
            obtain ⟨k, hk⟩ : ∃ k : Nat, 1 + r = k := ⟨(1 + r).toNat, by omega⟩
            have hk1 : 1 ≤ k := by omega
            have hk2 : k < fs5.length := by omega
            have HD7 := Lib.hid (HD6.out.step hs hg)
            have HK := Lib.hid hk
            clear hs hg HD6 hr2 hk
            go_wp2_with (fail)
            rw [HK.out]
            clear hr0 hr1
            obtain ⟨gf, rfl⟩ : ∃ gf, A5 = some ⟨gf, 0, none⟩ := by
              obtain ⟨m, hm⟩ : ∃ m, fs5.length = m + 1 := ⟨fs5.length - 1, by omega⟩
              have hrow := HD7.out.fr
              rw [hm] at hrow
              obtain ⟨g, cap, hv⟩ := own_form hrow
              simp only [Value.slice.injEq] at hv
              exact ⟨g, hv.1⟩
            have hrd := Rd.own HD7.out.fr
            obtain ⟨ad, had, HAD⟩ : ∃ ad : Addr, (if c5 = k + 1 then some (⟨gf, 0, none⟩ : Addr) else some ⟨gf, k + 1, none⟩) = some ad ∧ Hid (Rd w7 (some ad) (ints (fs5.drop (k + 1)))) := by
              by_cases h9 : c5 = k + 1
              · refine ⟨⟨gf, 0, none⟩, by simp [h9], Lib.hid (.inl ?_)⟩
                rw [show fs5.drop (k + 1) = [] from List.drop_eq_nil_of_le (by omega)]
                rfl
              · refine ⟨⟨gf, k + 1, none⟩, by simp [h9], Lib.hid ?_⟩
                have := hrd.cut (k + 1)
                rwa [ints_drop, Nat.zero_add] at this
            have HT : Hid (Rd w7 (some ⟨gf, 0, none⟩) (ints (fs5.take k))) := by
              rcases hrd with h9 | ⟨b1, o1, e1, hl1, hcl⟩
              · exact Lib.hid (.inl (by rw [show fs5 = [] by simpa [ints] using h9]; simp [ints]))
              · refine Lib.hid (.inr ⟨b1, o1, e1, hl1, fun j u hu => hcl j u ?_⟩)
                simp only [ints, List.getElem?_map, List.getElem?_take] at hu ⊢
                split at hu
                · exact hu
                · simp at hu
            obtain ⟨n5, hn5⟩ : ∃ n5, n5 = fs5.length := ⟨_, rfl⟩
            have HN5 := Lib.hid hn5
            rw [← hn5] at hk2 h2 hc51 hfl5 ⊢
            have hi1 : (0 : Int) ≤ (k : Int) := by omega
            have hi2 : (k : Int) ≤ c5 := by omega
            have hi3 : (0 : Int) ≤ (k : Int) + 1 := by omega
            have hi4 : (k : Int) + 1 ≤ n5 := by omega
            have ht2 : ((k : Int) + 1).toNat = k + 1 := by omega
            have hw1 : IntKind.i64.wrap ((k : Int) + 1) = (k : Int) + 1 := IntWalk.i64_in _ (by omega)
            clear hrd hn5
            go_region_held3 (fun _ => True) (first | exact trivial) (first
              | (refine step_append_ints _ (by rfl) (.tmp 76) (.tmp 80) (by rfl) w7.heap.size (.slice (some ⟨g, 0, none⟩) k cg) k (fs5.take k) (fs5.drop (k + 1)) ad (n5 - (k + 1)) (c5 - (k + 1)) (by rfl) (by exact HO.out) (by rfl) (by exact HA2.out) (by have := HN5.out; simp; omega) (by omega) (by have := HS.out; omega) ?_
                 intro v3 w9 ho hg hnil)
              | (go_at_call 33
                 refine (c_l01Own gf 0 c5 k (fs5.take k) _ (by have := HN5.out; simp; omega) (by omega) (by exact HT.out)).mono ?_
                 rintro e w8 ⟨g, cg, rfl, ho, hb⟩
                 have HO := Lib.hid ho
                 have hg : w7.heap.size ≤ g ∧ g < w8.heap.size := ho.lt g rfl
                 have HG := Lib.hid hg
                 have HB := Lib.hid (show Below w7.heap.size w7 w8 from below_chain (by exact (Below.refl _ _).drew) hb)
                 have HA2 := Lib.hid (Rd.below (by exact HAD.out) HB.out)
                 have HS := Lib.hid (show w7.heap.size ≤ w8.heap.size from hb.size)
                 clear ho hb hg))
            have hrow : ∀ q, (Value.slice (some ⟨g, 0, none⟩) k cg).ownBlock = some q → w7.heap.size ≤ q := by
              intro q hq
              have := HG.out
              simp [Value.ownBlock] at hq
              omega
            have HB3 := Lib.hid (below_of_grown HB.out hg hrow)
            have hlen9 : (fs5.take k ++ fs5.drop (k + 1)).length = k + (n5 - (k + 1)) := by have := HN5.out; simp; omega
            have HD9 := Lib.hid (HD7.out.newfr (v' := v3) (fs' := fs5.take k ++ fs5.drop (k + 1)) HB3.out (by rw [hlen9]; exact ho) (by omega))
            clear ho hg hnil hrow had
            go_wp2_with (fail)
            go_meet
            case rel => exact ⟨_, by omega, HD9.out⟩
        case rest =>
          obtain ⟨fs9, hfl9, hd⟩ := hcut
          have HL9 := HL5.out
          obtain ⟨n9, hn9⟩ : ∃ n9, n9 = L5.length := ⟨_, rfl⟩
          have HD9 := Lib.hid hd
          have hform := hd.form
          clear hd HD6 HC2
          obtain ⟨A9, c9, rfl, hc91, hc92⟩ := hform
          unfold maxLen at hc92
          go_wp2_with (fail)
          refine (c_Next B 40 _ HD9.out.src (by omega)).mono ?_
          rintro e w9 ⟨q, rfl, hq0, hq1, hq2, hs, hg⟩
          have HDa := Lib.hid (HD9.out.step hs hg)
          clear hs hg HD9 hq1 hq2 hn9
          rcases (show q = 0 ∨ q = 1 ∨ q = 2 ∨ 3 ≤ q by omega) with rfl | rfl | rfl | hq
          · go_wp2_with (fail)
            refine (c_Next B 4 _ HDa.out.src (by omega)).mono ?_
            rintro e wa ⟨r, rfl, hr0, hr1, hr2, hs, hg⟩
            have HDb := Lib.hid (HDa.out.step hs hg)
            have hszb := HDb.out.sz
            clear hs hg HDa hr1 hr2
            go_upto_region 19 with (first
              | (at_builtin
                 refine wpList_push_int _ rfl (.tmp 86) (.tmp 89) rfl (w.heap.size + 1) _ fs9.length fs9 r wa.heap.size 1 rfl (HDb.out.alloc _).fr rfl (by go_simp) (by omega) (by simp; omega) ?_
                 intro v1 wb hown1 hgrow hold hat
                 have HDc := Lib.hid ((HDb.out.alloc _).push (v' := v1) (fs' := fs9 ++ [r]) hgrow (by simpa using hown1) (by simp; omega))
                 clear hown1 hgrow hold hat)
              )
            generalize fs9 ++ [r] = fsn at HDc
            obtain ⟨An, cn, rfl, _, _⟩ := HDc.out.form
            obtain ⟨u, hres⟩ := HDc.out.res
            have hc0 := hres.cellAt 0 (by decide)
            have hf0 := hres.frozenAt 0
            have hl0 := HDc.out.lb.cellAt 0 (by decide)
            simp only [List.getElem?_cons_zero] at hc0 hl0
            have hfin := Lib.hid (HDc.out.fin)
            rw [HL9] at hl0 hfin
            clear hres HDc
            go_wp2_with (fail)
            obtain ⟨r0, r1⟩ := hfin.out
            clear hfin hc0 hf0 hl0
            generalize World.setCell _ ⟨w.heap.size, 0, none⟩ (.slice A L.length c) = WF at r0 r1 ⊢
            exact bodyPost_ret (v := .tuple #[.agg #[.slice A L.length c], .slice An fsn.length cn]) (by simp [results, Try.results14, go_sem, r0]) rfl r1
          · have hfr := HDa.out.fr
            have hm : fs9.length / 2 ≤ fs9.length := by omega
            obtain ⟨Am, hAm⟩ : ∃ Am, Hid (DQ B w.heap.size bl w w9 A c L5 (.slice Am (fs9.length / 2) c9) (fs9.take (fs9.length / 2))) ∧ A9 = Am := by
              rcases hfr.2 with ⟨h1, h2⟩ | ⟨g, cap, cur, h1, _⟩
              · simp only [Value.slice.injEq] at h1
                obtain ⟨rfl, _, rfl⟩ := h1
                have hnil : fs9 = [] := List.eq_nil_of_length_eq_zero (by simpa using h2)
                subst hnil
                exact ⟨none, Lib.hid (by simpa using HDa.out), rfl⟩
              · simp only [Value.slice.injEq, true_and] at h1
                obtain ⟨rfl, rfl⟩ := h1
                exact ⟨_, Lib.hid (HDa.out.cutfr hm), rfl⟩
            obtain ⟨HDc, rfl⟩ := hAm
            have hlm : (fs9.take (fs9.length / 2)).length = fs9.length / 2 := by simp; omega
            generalize fs9.take (fs9.length / 2) = fsn at HDc hlm
            have HLM := Lib.hid hlm
            clear hlm hfr HDa
            generalize fs9.length = m9 at *
            obtain ⟨hw9, hq0, hq1, ht9⟩ := half_facts m9 c9 hfl9 hc91
            have hHD := HDc.out
            rw [← HLM.out] at hHD
            have HDd := Lib.hid hHD
            clear hHD HDc
            obtain ⟨u, hres⟩ := HDd.out.res
            have hc0 := hres.cellAt 0 (by decide)
            have hf0 := hres.frozenAt 0
            have hl0 := HDd.out.lb.cellAt 0 (by decide)
            simp only [List.getElem?_cons_zero] at hc0 hl0
            have hfin := Lib.hid (HDd.out.fin)
            rw [HL9] at hl0 hfin
            rw [HLM.out] at hfin
            clear hres HDd
            go_wp2_with (fail)
            obtain ⟨r0, r1⟩ := hfin.out
            clear hfin hc0 hf0 hl0
            generalize World.setCell _ ⟨w.heap.size, 0, none⟩ (.slice A L.length c) = WF at r0 r1 ⊢
            exact bodyPost_ret (v := .tuple #[.agg #[.slice A L.length c], .slice A9 (m9 / 2) c9]) (by simp [results, Try.results14, go_sem, r0]) rfl r1
          · clear hc91 hc92
            go_wp2_with (fail)
            refine (c_Next B 4 _ HDa.out.src (by omega)).mono ?_
            rintro e wa ⟨r, rfl, hr0, hr1, hr2, hs, hg⟩
            replace hr1 := hr1 (by omega)
            have HDb := Lib.hid (HDa.out.step hs hg)
            clear hs hg HDa hr2
            have hnew : (wa.alloc (.cells #[.int .i64 0, .int .i64 (1 + r)] 2)).ownsRow wa.heap.size 2 1 (.slice (some ⟨wa.heap.size, 0, none⟩) 2 2) 2 (ints [0, 1 + r]) := by
              have h := World.ownsRow_lit (e := 2) (size := 1) (base := wa.heap.size) wa #[.int .i64 0, .int .i64 (1 + r)] 2 (by simp) (by decide) (by simp)
              simpa [ints] using h
            have HDc := Lib.hid (HDb.out.newfr (below_alloc (Below.refl _ _) _) (fs' := [0, 1 + r]) hnew (by simp))
            clear hnew HDb
            go_upto_region 19 with (fail)
            obtain ⟨u, hres⟩ := HDc.out.res
            have hc0 := hres.cellAt 0 (by decide)
            have hf0 := hres.frozenAt 0
            have hl0 := HDc.out.lb.cellAt 0 (by decide)
            simp only [List.getElem?_cons_zero] at hc0 hl0
            have hfin := Lib.hid (DQ.fin (fs := [0, 1 + r]) (A' := some ⟨wa.heap.size, 0, none⟩) (c' := 2) HDc.out)
            simp only [List.length_cons, List.length_nil, Nat.zero_add, Nat.reduceAdd] at hfin
            rw [HL9] at hl0 hfin
            clear hres HDc
            go_wp2_with (fail)
            obtain ⟨r0, r1⟩ := hfin.out
            clear hfin hc0 hf0 hl0
            generalize World.setCell _ ⟨w.heap.size, 0, none⟩ (.slice A L.length c) = WF at r0 r1 ⊢
            exact bodyPost_ret (v := .tuple #[.agg #[.slice A L.length c], .slice (some ⟨wa.heap.size, 0, none⟩) 2 2]) (by simp [results, Try.results14, go_sem, r0]) rfl r1
          · skip
            obtain ⟨u, hres⟩ := HDa.out.res
            have hc0 := hres.cellAt 0 (by decide)
            have hf0 := hres.frozenAt 0
            have hl0 := HDa.out.lb.cellAt 0 (by decide)
            simp only [List.getElem?_cons_zero] at hc0 hl0
            have hfin := Lib.hid (HDa.out.fin)
            rw [HL9] at hl0 hfin
            clear hres HDa
            go_wp2_with (fail)
            obtain ⟨r0, r1⟩ := hfin.out
            clear hfin hc0 hf0 hl0
            generalize World.setCell _ ⟨w.heap.size, 0, none⟩ (.slice A L.length c) = WF at r0 r1 ⊢
            exact bodyPost_ret (v := .tuple #[.agg #[.slice A L.length c], .slice A9 fs9.length c9]) (by simp [results, Try.results14, go_sem, r0]) rfl r1
end Go.Proofs.Ythkghpmfbdojeaa
