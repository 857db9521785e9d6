/- Contract of l03Draw. No condition. -/
import Derived.Test.YthkghpmfbdojeaaDrawP
namespace Go.Proofs.Ythkghpmfbdojeaa
open Go.RowKit

def SomeLay (B : Nat) (w : World) (e : Ending) (w' : World) : Prop := ∃ A c l, e = .returned (.agg #[.slice A l.length c]) ∧ l.length ≤ 100 ∧ w'.ownsRow w.heap.size 61 7 (.slice A l.length c) l.length (segCells l) ∧ Src w' B ∧ w.grownBy w' (some B)
theorem DS.fin {B br : Nat} {w W : World} {A : Option Addr} {c : Nat} {L : List Seg} (h : DS B br w W (.slice A L.length c) L) : (W.setCell ⟨br, 0, none⟩ (.slice A L.length c)).cell? ⟨br, 0, none⟩ = some (.slice A L.length c) ∧ (W.setCell ⟨br, 0, none⟩ (.slice A L.length c)).ownsRow (br + 1) 61 7 (.slice A L.length c) L.length (segCells L) ∧ Src (W.setCell ⟨br, 0, none⟩ (.slice A L.length c)) B ∧ w.grownBy (W.setCell ⟨br, 0, none⟩ (.slice A L.length c)) (some B) := by
  have h1 := h.h1
  have h2 := h.h2
  obtain ⟨u, hr⟩ := h.res
  have hst := hr.stored 0 (.slice A L.length c)
  have hc := hst.1.cellAt 0 (by decide)
  refine ⟨by simpa using hc, h.row.kept hst.2 ?_, h.src.far hst.2 (by intro q hq; simp at hq; omega), grown_set h.g _ h2⟩
  refine .inr (fun e => ?_)
  have := (h.row.lt br e).1
  omega
theorem segCells_take (l : List Seg) (m : Nat) : (segCells l).take (m * 7) = segCells (l.take m) := by
  induction m generalizing l with
  | zero => simp [segCells]
  | succ m ih =>
    cases l with
    | nil => simp [segCells]
    | cons t l =>
      have e : segCells (t :: l) = t.cells ++ segCells l := by simp [segCells]
      have e2 : segCells (List.take (m + 1) (t :: l)) = t.cells ++ segCells (l.take m) := by simp [segCells]
      rw [e, e2, ← ih, List.take_append, List.take_of_length_le (by simp [Seg.cells]; omega)]
      congr 2
      simp [Seg.cells]; omega
theorem segCells_rep : ∀ m : Nat, segCells (List.replicate m Seg.none) = List.replicate (m * 7) (.int .i64 0)
  | 0 => by simp [segCells]
  | m + 1 => by
    have e : segCells (Seg.none :: List.replicate m Seg.none) = List.replicate 7 (.int .i64 0) ++ segCells (List.replicate m Seg.none) := by simp [segCells, Seg.cells, Seg.none, List.replicate]
    rw [List.replicate_succ, e, segCells_rep m, List.replicate_append_replicate]
    congr 1; omega
theorem made_segs (m : Nat) : (madeCells (Value.agg #[.int .i64 0, .int .i64 0, .int .i64 0, .int .i64 0, .int .i64 0, .int .i64 0, .int .i64 0]).cells (m * 7)).toList = segCells (List.replicate m Seg.none) := by
  rw [segCells_rep]
  refine List.ext_getElem (by simp [size_madeCells]) fun j h1 h2 => ?_
  simp only [madeCells, Array.toList_map, List.getElem_map, List.getElem_replicate, Value.cells]
  have hj : j % 7 < 7 := Nat.mod_lt _ (by decide)
  simp only [Array.getElem_toList, Array.getElem_range]
  show (#[.int .i64 0, .int .i64 0, .int .i64 0, .int .i64 0, .int .i64 0, .int .i64 0, .int .i64 0] : Array Value)[j % 7]! = _
  generalize j % 7 = i at hj
  match i, hj with
  | 0, _ => rfl
  | 1, _ => rfl
  | 2, _ => rfl
  | 3, _ => rfl
  | 4, _ => rfl
  | 5, _ => rfl
  | 6, _ => rfl
set_option maxHeartbeats 4000000 in
set_option maxRecDepth 100000 in
theorem c_l03Draw (B : Nat) (w : World) (h : Src w B) :
    Calls Try.prog 28 #[.pointer (some ⟨B, 0, none⟩)] w (SomeLay B w) := by
  have hBl := h.lt
  have hor : (w.alloc (.cells #[.slice none 0 0] 26)).ownsRow w.heap.size 26 1 (.slice (some ⟨w.heap.size, 0, none⟩) 1 1) 1 [.slice none 0 0] := by
    have h := World.ownsRow_lit (e := 26) (size := 1) (base := w.heap.size) w #[.slice none 0 0] 1 (by simp) (by decide) (by simp)
    simpa using h
  have hrow : ((w.alloc (.cells #[.slice none 0 0] 26)).alloc (.cells #[] 61)).ownsRow (w.heap.size + 1) 61 7 (.slice (some ⟨w.heap.size + 1, 0, none⟩) 0 0) 0 (segCells []) := by
    have h := World.ownsRow_lit (e := 61) (size := 7) (base := w.heap.size + 1) (w.alloc (.cells #[.slice none 0 0] 26)) #[] 0 (by simp) (by decide) (by simp)
    simpa [segCells] using h
  have HD := Lib.hid (show DS B w.heap.size w ((w.alloc (.cells #[.slice none 0 0] 26)).alloc (.cells #[] 61)) (.slice (some ⟨w.heap.size + 1, 0, none⟩) 0 0) [] from
    ⟨hrow, ⟨_, own_below hor (below_alloc (Below.refl _ _) _)⟩, (h.alloc _).alloc _, grown_alloc (grown_alloc (grown_refl w _) _) _, hBl, Nat.le_refl _⟩)
  clear hor hrow h
  go_enter Try.func28, Try.ntmps28
  go_wp2_with (fail)
  generalize (w.alloc (.cells #[.slice none 0 0] 26)).alloc (.cells #[] 61) = W0 at HD ⊢
  refine (c_Next B 7 _ HD.out.src (by omega)).mono ?_
  rintro e w1 ⟨r, rfl, hr0, hr1, _, hs, hg⟩
  replace hr1 := hr1 (by omega)
  have HD1 := Lib.hid (HD.out.step hs hg)
  obtain ⟨r, rfl⟩ : ∃ k : Nat, r = k := ⟨r.toNat, by omega⟩
  clear hs hg HD
  go_wp2_with (fail)
  go_loopw [3, 4, 5] (fun v t i wr => ∃ (k : Nat) (z : Int) (l : List Seg), k ≤ 1 + r ∧ i = .int .i64 k ∧ t = .int .i64 z ∧ l.length + k ≤ 7 ∧ DS B w.heap.size w wr v l) (fun _ _ i _ => (intOf i).toNat)
  case atStart => exact ⟨1 + r, 0, [], by omega, by simp, rfl, by simp; omega, HD1.out⟩
  case round =>
    obtain ⟨k, z, l, hk, rfl, rfl, hl, hd⟩ := hrel
    have HD := Lib.hid hd
    have hlt0 := hd.src.lt
    clear HD1 hd
    by_cases hk0 : 0 < k
    · go_wp2_with (fail)
      refine (c_Pick B _ _ 7 [_, _, _, _, _, _, _] _ (HD.out.src.alloc _) (by omega) rfl (by decide) (by decide) (rd_lit7 _ _ _ _ _ _ _ _)).mono ?_
      rintro e w2 ⟨y, rfl, hs2, hg2⟩
      have HD2 := Lib.hid ((HD.out.alloc _).step hs2 hg2)
      clear hs2 hg2
      go_wp2_with (fail)
      refine (c_DrawSegment B y _ HD2.out.src).mono ?_
      rintro e w3 ⟨s, rfl, hs3, hg3⟩
      have HD3 := Lib.hid (HD2.out.step hs3 hg3)
      have hsz3 : w.heap.size + 1 ≤ w3.heap.size := by obtain ⟨u, hu⟩ := HD3.out.res; exact (own_ge hu).2
      unfold Seg.val
      clear hs3 hg3
      go_wp2_with (first
        | (at_builtin
           refine wpList_app_seg _ rfl (.tmp 27) (.tmp 29) rfl (w.heap.size + 1) _ l.length l [s] (w3.heap.size + 1) 1 1 rfl ((HD3.out.alloc _).alloc _).row rfl (by simpa using rd_seg1 (w3.alloc (.cells #[.int .i64 s.k, .int .i64 s.l, .int .i64 s.r, .int .i64 s.a, .int .i64 s.b, .int .i64 s.c, .int .i64 s.d] 61)) s) rfl (by omega) (by simp; omega) ?_
           intro v1 w4 hown1 hgrow
           have HD4 := Lib.hid (((HD3.out.alloc _).alloc _).own (l' := l ++ [s]) (by simpa using hown1) hgrow)
           clear hown1 hgrow)
        )
      go_roundw
      case rel => exact ⟨k - 1, _, l ++ [s], by omega, by congr 1; omega, rfl, by simp; omega, HD4.out⟩
      case measure => simp [intOf]; omega
    · obtain rfl : k = 0 := by omega
      go_upto_region 9 with (fail)
      go_cut [7] from 31 (fun p wx => ∃ (g : Nat) (s : Seg), p = .pointer (some ⟨g, 0, none⟩) ∧ wx.ownsRow g 61 1 (.slice (some ⟨g, 0, none⟩) 7 7) 7 s.cells ∧ DS B w.heap.size w wx u3 l ∧ wr.heap.size ≤ g)
      case first =>
        go_wp2_with (first
          | (go_at_call 32
             refine (c_l01Abs _ _).mono ?_
             rintro e w' ⟨rfl, rfl⟩)
          )
        all_goals go_meet
        all_goals exact ⟨_, ⟨_, _, _, _, _, _, _⟩, rfl, own_seven ⟨_, _, _, _, _, _, _⟩, HD.out.alloc _, Nat.le_refl _⟩
      case rest =>
        obtain ⟨g, s, rfl, hbk, hd, hgr⟩ := hcut
        have hBg : B < g := by omega
        have HD1 := Lib.hid hd
        clear hd HD
        go_wp2_with (fail)
        refine (c_DrawSegment B 4 _ HD1.out.src).mono ?_
        rintro e w3 ⟨t, rfl, hs3, hg3⟩
        have HD3 := Lib.hid (HD1.out.step hs3 hg3)
        have hb3 := own_at hbk hg3 hBg
        have hsz3 : w.heap.size + 1 ≤ w3.heap.size := by obtain ⟨u, hu⟩ := HD3.out.res; exact (own_ge hu).2
        obtain ⟨⟨g0, g1, g2, g3, g4, g5, g6⟩, _, _, hg3lt⟩ := seven_cells hb3
        unfold Seg.val
        clear hs3 hg3 hb3 hbk HD1
        go_wp2_with (first
          | (at_builtin
             refine wpList_app_seg _ rfl (.tmp 43) (.tmp 46) rfl (w.heap.size + 1) _ l.length l [s, { t with r := 0 }] (w3.heap.size + 1) 2 2 rfl ((HD3.out.alloc _).alloc _).row rfl (by simpa using rd_seg2 (w3.alloc (.cells #[.int .i64 t.k, .int .i64 t.l, .int .i64 0, .int .i64 t.a, .int .i64 t.b, .int .i64 t.c, .int .i64 t.d] 61)) s { t with r := 0 }) rfl (by omega) (by simp; omega) ?_
             intro v1 w4 hown1 hgrow
             have HD4 := Lib.hid (((HD3.out.alloc _).alloc _).own (l' := l ++ [s, { t with r := 0 }]) (by simpa using hown1) hgrow)
             clear hown1 hgrow)
          )
        generalize hL : l ++ [s, { t with r := 0 }] = L at HD4
        have hL2 : 2 ≤ L.length ∧ L.length ≤ 9 := by rw [← hL]; simp; omega
        clear hL g0 g1 g2 g3 g4 g5 g6 HD3
        refine (c_Next B 40 _ HD4.out.src (by omega)).mono ?_
        rintro e w5 ⟨q, rfl, hq0, _, _, hs5, hg5⟩
        have HD5 := Lib.hid (HD4.out.step hs5 hg5)
        obtain ⟨gv, cap, rfl⟩ : ∃ gv cap, v1 = .slice (some ⟨gv, 0, none⟩) L.length cap := by
          obtain ⟨m, hm⟩ : ∃ m, L.length = m + 1 := ⟨L.length - 1, by omega⟩
          have := HD5.out.row
          rw [hm] at this ⊢
          exact own_form this
        obtain ⟨u, hres⟩ := HD5.out.res
        have hc0 := hres.cellAt 0 (by decide)
        have hf0 := hres.frozenAt 0
        have hcap := own_cap HD5.out.row
        unfold maxLen at hcap
        simp only [List.getElem?_cons_zero] at hc0
        clear hs5 hg5 HD4
        rcases (show q = 0 ∨ q = 1 ∨ q = 2 ∨ q = 3 ∨ 4 ≤ q by omega) with rfl | rfl | rfl | rfl | hq
        · go_wp2_with (fail)
          refine (c_Next B _ _ HD5.out.src (by omega)).mono ?_
          rintro e w6 ⟨kk, rfl, hk0', hk1', _, hs6, hg6⟩
          replace hk1' := hk1' (by omega)
          obtain ⟨kk, rfl⟩ : ∃ k : Nat, kk = k := ⟨kk.toNat, by omega⟩
          have HD6 := Lib.hid (HD5.out.step hs6 hg6)
          clear hs6 hg6 hc0 hf0 hres HD5
          go_wp2_with (fail)
          refine (c_DrawAny B _ HD6.out.src).mono ?_
          rintro e w7 ⟨x, rfl, hs7, hg7⟩
          have HD7 := Lib.hid (HD6.out.step hs7 hg7)
          clear hs7 hg7 HD6
          have hkl : kk < L.length := by omega
          have hrow := HD7.out.row
          obtain ⟨y0, z0⟩ := own_cell hrow (j := kk * 7) (by omega)
          obtain ⟨y1, z1⟩ := own_cell hrow (j := kk * 7 + 1) (by omega)
          obtain ⟨y2, z2⟩ := own_cell hrow (j := kk * 7 + 2) (by omega)
          obtain ⟨y3, z3⟩ := own_cell hrow (j := kk * 7 + 3) (by omega)
          obtain ⟨y4, z4⟩ := own_cell hrow (j := kk * 7 + 4) (by omega)
          obtain ⟨y5, z5⟩ := own_cell hrow (j := kk * 7 + 5) (by omega)
          obtain ⟨y6, z6⟩ := own_cell hrow (j := kk * 7 + 6) (by omega)
          have f0 := hrow.frozenAt (kk * 7)
          have f1 := hrow.frozenAt (kk * 7 + 1)
          have f2 := hrow.frozenAt (kk * 7 + 2)
          have f3 := hrow.frozenAt (kk * 7 + 3)
          have f4 := hrow.frozenAt (kk * 7 + 4)
          have f5 := hrow.frozenAt (kk * 7 + 5)
          have f6 := hrow.frozenAt (kk * 7 + 6)
          have hst := own_setSeg x hkl hrow
          have HD8 := Lib.hid (HD7.out.own (l' := L.set kk x) (by simpa using hst.1) hst.2)
          have hgv := own_ge hrow
          obtain ⟨u2, hres2⟩ := HD7.out.res
          have hc0 := hres2.cellAt 0 (by decide)
          have hf0 := hres2.frozenAt 0
          simp only [List.getElem?_cons_zero] at hc0
          unfold Seg.val
          clear hrow hst hres2 HD7
          have hne : ¬ gv = w.heap.size := by omega
          have hne2 : ¬ w.heap.size = gv := by omega
          go_wp2_with (fail)
          have e : (L.set kk x).length = L.length := by simp
          change bodyPost _ _ _ _ _ ((set7o w7 gv (kk * 7) x).setCell ⟨w.heap.size, 0, none⟩ (.slice (some ⟨gv, 0, none⟩) L.length cap))
          generalize set7o w7 gv (kk * 7) x = W8 at HD8 ⊢
          clear z0 z1 z2 z3 z4 z5 z6 f0 f1 f2 f3 f4 f5 f6 hc0 hf0
          generalize L.set kk x = L1 at HD8 e
          have hd8 := HD8.out
          rw [← e] at hd8
          have hfin := hd8.fin
          rw [e] at hfin
          generalize W8.setCell ⟨w.heap.size, 0, none⟩ (.slice (some ⟨gv, 0, none⟩) L.length cap) = WF at hfin ⊢
          obtain ⟨r0, r1, r2, r3⟩ := hfin
          refine bodyPost_ret (v := .agg #[.slice (some ⟨gv, 0, none⟩) L.length cap]) (by simp [results, Try.results28, go_sem, r0]) rfl ⟨_, _, L1, by rw [e], by omega, by rw [e]; exact own_mono r1 (by omega), r2, r3⟩
        · have HD6 : Hid (DS B w.heap.size w w5 (.slice (some ⟨gv, 0, none⟩) (L.take (L.length - 1)).length cap) (L.take (L.length - 1))) := Lib.hid ⟨by
            have := own_prefix HD5.out.row (i := L.length - 1) (by omega)
            rw [segCells_take] at this
            rwa [show (L.take (L.length - 1)).length = L.length - 1 by simp], HD5.out.res, HD5.out.src, HD5.out.g, HD5.out.h1, HD5.out.h2⟩
          have hl1 : (L.take (L.length - 1)).length = L.length - 1 := by simp
          generalize L.take (L.length - 1) = L1 at HD6 hl1
          have hi0 : (0 : Int) ≤ (L.length : Int) - 1 := by omega
          have hi1 : (L.length : Int) - 1 ≤ cap := by omega
          have ht : ((L.length : Int) - 1).toNat = L1.length := by omega
          clear hres HD5
          go_wp2_with (fail)
          have hfin := HD6.out.fin
          clear ht
          rw [hl1] at hfin
          generalize w5.setCell ⟨w.heap.size, 0, none⟩ (.slice (some ⟨gv, 0, none⟩) (L.length - 1) cap) = WF at hfin ⊢
          obtain ⟨r0, r1, r2, r3⟩ := hfin
          refine bodyPost_ret (v := .agg #[.slice (some ⟨gv, 0, none⟩) (L.length - 1) cap]) (by simp [results, Try.results28, go_sem, r0]) rfl ⟨_, _, L1, by rw [hl1], by omega, by rw [hl1]; exact own_mono r1 (by omega), r2, r3⟩
        · clear hres hc0 hf0
          obtain ⟨i0, hi, hz0, hz1, hz2⟩ := info_parts info_iSegment
          go_wp2_with (fail)
          refine (c_Next B 2 _ HD5.out.src (by omega)).mono ?_
          rintro e w6 ⟨b2, rfl, hb0, hb1, _, hs6, hg6⟩
          replace hb1 := hb1 (by omega)
          have HD6 := Lib.hid (HD5.out.step hs6 hg6)
          obtain ⟨m, hm⟩ : ∃ m : Nat, (24 : Int) + b2 = m := ⟨(24 + b2).toNat, by omega⟩
          have hm25 : m ≤ 25 := by omega
          have hsz6 : w.heap.size + 1 ≤ w6.heap.size := by obtain ⟨u, hu⟩ := HD6.out.res; exact (own_ge hu).2
          have HM := Lib.hid hm
          clear hs6 hg6 HD5 hm
          go_wp2_with (first
            | (at_make
               rw [HM.out]
               refine wpList_make_full _ rfl (.tmp 71) (.tmp 71) _ rfl (w.heap.size + 1) 61 i0 _ 7 Try.underlying24 hi hz0 hz1 .i64 .i64 _ _ m rfl rfl rfl rfl (by rw [hz2]; omega) (by unfold maxLen; omega) (by omega) ?_
               intro w7 hown hgrow)
            )
          rw [made_segs] at hown
          have HD7 : Hid (∃ L : List Seg, L.length = m ∧ DS B w.heap.size w w7 (.slice (some ⟨w6.heap.size, 0, none⟩) m m) L) := Lib.hid ⟨List.replicate m Seg.none, by simp, by
            obtain ⟨u, hu⟩ := HD6.out.res
            exact ⟨by simpa using hown, ⟨u, hu.kept hgrow (.inr (by simp [Value.ownBlock]))⟩, HD6.out.src.far hgrow (by simp), grown_trans HD6.out.g (grown_below (grown_refl _ _) ⟨hgrow.os, hgrow.tape, hgrow.output, hgrow.size, fun k hk => hgrow.block k hk (by simp)⟩), HD6.out.h1, HD6.out.h2⟩⟩
          clear hown hgrow HD6
          go_loopw [9] (fun v wr => ∃ (k : Nat) (L : List Seg), k ≤ m ∧ v = .int .i64 k ∧ L.length = m ∧ DS B w.heap.size w wr (.slice (some ⟨w6.heap.size, 0, none⟩) m m) L) (fun v _ => m - (intOf v).toNat)
          case atStart => exact ⟨0, HD7.out.choose, Nat.zero_le _, rfl, HD7.out.choose_spec.1, HD7.out.choose_spec.2⟩
          case round =>
            obtain ⟨kk, L, hkk, rfl, hLm, hd⟩ := hrel
            clear HD7
            have HD8 := Lib.hid hd
            clear hd
            by_cases hlt : kk < m
            · have hrow := HD8.out.row
              rw [hLm] at hrow
              obtain ⟨y0, z0⟩ := own_cell hrow (j := kk * 7) (by omega)
              obtain ⟨y1, z1⟩ := own_cell hrow (j := kk * 7 + 1) (by omega)
              obtain ⟨y2, z2⟩ := own_cell hrow (j := kk * 7 + 2) (by omega)
              obtain ⟨y3, z3⟩ := own_cell hrow (j := kk * 7 + 3) (by omega)
              obtain ⟨y4, z4⟩ := own_cell hrow (j := kk * 7 + 4) (by omega)
              obtain ⟨y5, z5⟩ := own_cell hrow (j := kk * 7 + 5) (by omega)
              obtain ⟨y6, z6⟩ := own_cell hrow (j := kk * 7 + 6) (by omega)
              have f0 := hrow.frozenAt (kk * 7)
              have f1 := hrow.frozenAt (kk * 7 + 1)
              have f2 := hrow.frozenAt (kk * 7 + 2)
              have f3 := hrow.frozenAt (kk * 7 + 3)
              have f4 := hrow.frozenAt (kk * 7 + 4)
              have f5 := hrow.frozenAt (kk * 7 + 5)
              have f6 := hrow.frozenAt (kk * 7 + 6)
              have hst := own_setSeg ⟨4, 1, 0, 0, 0, 1, 1⟩ (show kk < L.length by omega) hrow
              have HD9 := Lib.hid (HD8.out.own (l' := L.set kk ⟨4, 1, 0, 0, 0, 1, 1⟩) (by simpa [hLm] using hst.1) hst.2)
              have hle : (L.set kk ⟨4, 1, 0, 0, 0, 1, 1⟩ : List Seg).length = m := by simp [hLm]
              unfold set7o at HD9
              simp only at HD9
              generalize (L.set kk ⟨4, 1, 0, 0, 0, 1, 1⟩ : List Seg) = L2 at HD9 hle
              clear hrow hst HD8
              go_wp2_with (fail)
              go_roundw
              case rel => exact ⟨kk + 1, L2, by omega, by go_num, hle, HD9.out⟩
              case measure => simp [intOf]; omega
            · obtain rfl : kk = m := by omega
              obtain ⟨u, hres⟩ := HD8.out.res
              have hc0 := hres.cellAt 0 (by decide)
              have hf0 := hres.frozenAt 0
              simp only [List.getElem?_cons_zero] at hc0
              have hd8 := HD8.out
              rw [← hLm] at hd8
              have hfin := hd8.fin
              rw [hLm] at hfin
              have HFIN := Lib.hid hfin
              clear hres hd8 hfin HD8
              go_wp2_with (fail)
              have hfin := HFIN.out
              clear HFIN
              generalize World.setCell _ ⟨w.heap.size, 0, none⟩ (.slice (some ⟨w6.heap.size, 0, none⟩) kk kk) = WF at hfin ⊢
              obtain ⟨r0, r1, r2, r3⟩ := hfin
              refine bodyPost_ret (v := .agg #[.slice (some ⟨w6.heap.size, 0, none⟩) kk kk]) (by simp [results, Try.results28, go_sem, r0]) rfl ⟨_, _, L, by rw [hLm], by omega, by rw [hLm]; exact own_mono r1 (by omega), r2, r3⟩
        · have HD6 : Hid (DS B w.heap.size w w5 (.slice none 0 0) []) := Lib.hid ⟨own_nil _ _ _ _, HD5.out.res, HD5.out.src, HD5.out.g, HD5.out.h1, HD5.out.h2⟩
          clear hres HD5
          go_wp2_with (fail)
          have hfin := DS.fin (L := []) HD6.out
          simp only [List.length_nil] at hfin
          generalize w5.setCell ⟨w.heap.size, 0, none⟩ (.slice none 0 0) = WF at hfin ⊢
          obtain ⟨r0, r1, r2, r3⟩ := hfin
          refine bodyPost_ret (v := .agg #[.slice none 0 0]) (by simp [results, Try.results28, go_sem, r0]) rfl ⟨_, _, [], rfl, by simp, own_mono r1 (by omega), r2, r3⟩
        · clear hres
          go_wp2_with (fail)
          have hfin := HD5.out.fin
          generalize w5.setCell ⟨w.heap.size, 0, none⟩ (.slice (some ⟨gv, 0, none⟩) L.length cap) = WF at hfin ⊢
          obtain ⟨r0, r1, r2, r3⟩ := hfin
          refine bodyPost_ret (v := .agg #[.slice (some ⟨gv, 0, none⟩) L.length cap]) (by simp [results, Try.results28, go_sem, r0]) rfl ⟨_, _, L, rfl, by omega, own_mono r1 (by omega), r2, r3⟩
end Go.Proofs.Ythkghpmfbdojeaa
