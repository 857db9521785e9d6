/- Contracts of l05Fronts, BlockLoads (reference). Condition: the sizes. -/
import Derived.Test.YthkghpmfbdojeaaLoadW
namespace Go.Proofs.Ythkghpmfbdojeaa
open Go.RowKit

theorem all_bad {ps : List Int} {q : Int → Bool} {k : Nat} {p : Int} (h : ps[k]? = some p) (hq : q p = false) : ps.all q = false := by
  rw [← Bool.not_eq_true, List.all_eq_true]
  intro ha
  rw [ha p (List.mem_of_getElem? h)] at hq
  cases hq
theorem all_upto {ps : List Int} {q : Int → Bool} (h : ∀ j p, j < ps.length → ps[j]? = some p → q p = true) : ps.all q = true := by
  rw [List.all_eq_true]
  intro p hp
  obtain ⟨j, hj, rfl⟩ := List.getElem_of_mem hp
  exact h j _ hj (List.getElem?_eq_getElem hj)
set_option maxRecDepth 100000 in
theorem c_l05Fronts (A : Option Addr) (c n : Nat) (l : List Seg) (x : Int) (A' : Option Addr) (c' n' : Nat) (ps : List Int) (w : World) (hn : n = l.length) (hr : Rd w A (segCells l)) (hl : Lay l) (hn' : n' = ps.length) (hs' : n' ≤ 1048576) (hr' : Rd w A' (ints ps)) :
    Calls Try.prog 21 #[.agg #[.slice A n c], .slice A' n' c', .int .i64 x] w fun e w' => e = .returned (.bool (ps.all (fun p => inB p 0 (pos l l.length - 1)) && inB x 1 (min 40000 (pos l l.length)))) ∧ Below w.heap.size w w' := by
  have HN := Lib.hid hn
  have HN' := Lib.hid hn'
  have hp := pos_small hl (k := l.length) (Nat.le_refl _)
  have HTO := Lib.hid (fun (w : World) (hr : Rd w A (segCells l)) => c_l03Total A c n l w HN.out hr hl)
  generalize hP : pos l l.length = T at *
  clear hn hn' hP
  go_enter Try.func21, Try.ntmps21
  go_wp2_with (fail)
  refine (HTO.out _ (hr.alloc _)).mono ?_
  rintro e w1 ⟨rfl, hb⟩
  have HB := Lib.hid (show Below w.heap.size w w1 from below_chain (by (repeat (first | exact Below.refl _ _ | assumption | refine below_alloc ?_ _ | refine below_drewN ?_ _ | refine below_set ?_ _ (by simp; try omega) | refine Below.drew ?_))) hb)
  have HR' := Lib.hid (hr'.below HB.out)
  clear hb hr hr'
  go_wp2_with (fail)
  go_loop [8] (fun v => ∃ k : Nat, k ≤ n' ∧ v = .int .i64 k ∧ ∀ j p, j < k → ps[j]? = some p → inB p 0 (T - 1) = true) (fun v => n' - (intOf v).toNat)
  case atStart => exact ⟨0, Nat.zero_le _, rfl, fun j p hj => absurd hj (by omega)⟩
  case round =>
    obtain ⟨k, hk, rfl, hall⟩ := hrel
    have HALL := Lib.hid hall
    clear hall
    by_cases hlt : k < n'
    · obtain ⟨p, hp'⟩ : ∃ p, ps[k]? = some p := ⟨_, List.getElem?_eq_getElem (by have := HN'.out; omega)⟩
      have HP := Lib.hid hp'
      obtain ⟨b, off, rfl, _, g0⟩ := HR'.out.int hp'
      clear hp'
      rcases hin : inB p 0 (T - 1) with _ | _
      · have HA := Lib.hid (all_bad (q := fun p => inB p 0 (T - 1)) HP.out hin)
        go_wp2_with (first
          | (go_at_call 43
             refine (c_l01In _ _ _ _).mono ?_
             rintro e w' ⟨rfl, rfl⟩)
          )
        go_ret
        exact ⟨ret_bool (by rw [HA.out]; rfl), HB.out⟩
      · have HI := Lib.hid hin
        go_wp2_with (first
          | (go_at_call 43
             refine (c_l01In _ _ _ _).mono ?_
             rintro e w' ⟨rfl, rfl⟩)
          )
        go_round
        case rel =>
          refine ⟨k + 1, by omega, by go_num, fun j p hj hz => ?_⟩
          rcases Nat.lt_or_ge j k with h | h
          · exact HALL.out j p h hz
          · obtain rfl : j = k := by omega
            rw [HP.out] at hz
            simp only [Option.some.injEq] at hz
            rw [← hz]; exact HI.out
        case measure => simp [intOf]; omega
    · obtain rfl : k = n' := by omega
      have HA := Lib.hid (all_upto (ps := ps) (q := fun p => inB p 0 (T - 1)) (fun j p hj hz => HALL.out j p (by have := HN'.out; omega) hz))
      go_wp2_with (first
        | (go_at_call 43
           refine (c_l01In _ _ _ _).mono ?_
           rintro e w' ⟨rfl, rfl⟩)
        )
      all_goals go_ret
      all_goals (refine ⟨ret_bool ?_, HB.out⟩; rw [HA.out, Bool.true_and]; congr 1; omega)
section
variable {A : Option Addr} {c n : Nat} {l : List Seg} {A' : Option Addr} {c' n' : Nat} {fs : List Int} {w : World}
set_option maxHeartbeats 2000000 in
set_option maxRecDepth 100000 in
theorem c_sBlockLoads (c : Nat) (x : Int) (A2 : Option Addr) (c2 n2 : Nat) (ps : List Int) (hn2 : n2 = ps.length) (hs2 : n2 ≤ 1048576) (hr2 : Rd w A2 (ints ps)) (h : LB w A n l A' c' n' fs) :
    Calls Try.prog 7 #[.agg #[.slice A n c], .slice A' n' c', .slice A2 n2 c2, .int .i64 x] w (RetIC (bldR l fs ps x) (bldC l fs ps x) w) := by
  have HN2 := Lib.hid hn2
  have HR2 := Lib.hid hr2
  clear hn2 hr2
  rcases hok : okB l fs with _ | _
  · have hok' : (layB l && blkB l fs) = false := hok
    have HC : Hid (bldC l fs ps x = 1) := Lib.hid (by unfold bldC; rw [hok]; rfl)
    have HR : Hid (bldR l fs ps x = []) := Lib.hid (by unfold bldR; rw [HC.out]; rfl)
    go_enter Try.func7, Try.ntmps7
    go_wp2_with (first
      | (go_at_call 20
         refine (k_sAreBlocks _ (h.alloc _)).mono ?_
         rintro e w1 ⟨rfl, hb⟩
         first | replace B := below_chain B hb | (have B : Below w.heap.size w w1 := below_chain (by (repeat (first | exact Below.refl _ _ | assumption | refine below_alloc ?_ _ | refine below_drewN ?_ _ | refine below_set ?_ _ (by simp; try omega) | refine Below.drew ?_))) hb)
         clear hb)
      )
    go_ret2
    rw [HC.out]
    exact retIC_nil HR.out B
  have hok' : (layB l && blkB l fs) = true := hok
  rcases Nat.lt_or_ge 4 n2 with h4 | h4
  · have HC : Hid (bldC l fs ps x = 3) := Lib.hid (by unfold bldC; rw [hok, if_pos rfl, if_pos (by have := HN2.out; omega)])
    have HR : Hid (bldR l fs ps x = []) := Lib.hid (by unfold bldR; rw [HC.out]; rfl)
    go_enter Try.func7, Try.ntmps7
    go_wp2_with (first
      | (go_at_call 20
         refine (k_sAreBlocks _ (h.alloc _)).mono ?_
         rintro e w1 ⟨rfl, hb⟩
         first | replace B := below_chain B hb | (have B : Below w.heap.size w w1 := below_chain (by (repeat (first | exact Below.refl _ _ | assumption | refine below_alloc ?_ _ | refine below_drewN ?_ _ | refine below_set ?_ _ (by simp; try omega) | refine Below.drew ?_))) hb)
         clear hb)
      )
    go_ret2
    rw [HC.out]
    exact retIC_nil HR.out B
  have HE : Hid (bldC l fs ps x = trnC l x ps) := Lib.hid (by unfold bldC; rw [hok, if_pos rfl, if_neg (by have := HN2.out; omega)])
  have HFR := Lib.hid (fun (w : World) (h : LB w A n l A' c' n' fs) (hr2 : Rd w A2 (ints ps)) => c_l05Fronts A c n l x A2 c2 n2 ps w h.hn h.hr (okB_lay hok) HN2.out (by omega) hr2)
  have htr : trnC l x ps = if ps.all (fun p => inB p 0 (pos l l.length - 1)) && inB x 1 (min 40000 (pos l l.length)) then 0 else 2 := by unfold trnC; rw [layB_iff.2 (okB_lay hok), if_pos rfl]
  generalize hfr : (ps.all (fun p => inB p 0 (pos l l.length - 1)) && inB x 1 (min 40000 (pos l l.length))) = F at htr HFR
  rcases trnC_cases l x ps (okB_lay hok) with ⟨hc, hx0, hx1, hxT, hps⟩ | hc
  · have HC : Hid (bldC l fs ps x = 0) := Lib.hid (HE.out.trans hc)
    have HR : Hid (bldR l fs ps x = loadN l fs ps x n2) := Lib.hid (by unfold bldR; rw [if_pos HC.out, HN2.out])
    have HPS := Lib.hid hps
    have hF : F = true := by
      rw [hc] at htr
      cases F
      · simp at htr
      · rfl
    subst hF
    have HF := HFR.out
    have HT := Lib.hid HF
    obtain ⟨i0, hi, hz0, hz1, hz2⟩ := info_parts info_int64
    have hlen := blkB_len hok
    have HN' := Lib.hid h.hn'
    have hn8 : n' ≤ 8 := by have := h.hn'; omega
    have HL0 := Lib.hid h
    clear hc hps HF HFR hfr
    go_enter Try.func7, Try.ntmps7
    go_wp2_with (fail)
    refine (k_sAreBlocks _ (by exact h.alloc _)).mono ?_
    rintro e w4 ⟨rfl, hb⟩
    have k0 : w4.cell? ⟨w.heap.size, 0, none⟩ = some (.slice A n c) := cell_later hb (by go_simp)
    have B : Below w.heap.size w w4 := below_chain (by (repeat (first | exact Below.refl _ _ | assumption | refine below_alloc ?_ _ | refine below_drewN ?_ _ | refine below_set ?_ _ (by simp; try omega) | refine Below.drew ?_))) hb
    clear hb
    go_wp2_with (fail)
    refine (HT.out _ (HL0.out.below B) (HR2.out.below B)).mono ?_
    rintro e w5 ⟨rfl, hb⟩
    replace k0 := cell_later hb k0
    replace B := below_chain B hb
    have hz5 := World.block_lt_of_cell? _ _ k0
    clear hb h
    go_wp2_with (first
      | (at_make
         refine wpList_make_full _ rfl (.tmp 30) (.tmp 30) _ rfl w5.heap.size 2 i0 _ 1 Try.underlying27 hi hz0 hz1 .i64 .i64 _ _ n' rfl rfl rfl rfl (by rw [hz2]; omega) (by unfold maxLen; omega) (Nat.le_refl _) ?_
         intro w1 hown hgrow)
      )
    have hb1 : Below w.heap.size w w1 := below_of_grown B hgrow (by simp)
    replace k0 : w1.cell? ⟨w.heap.size, 0, none⟩ = some (.slice A n c) := cell_mark k0 hgrow (by simp)
    clear B
    have hz0 := World.block_lt_of_cell? _ _ k0
    have hrow : w1.ownsRow w5.heap.size 2 1 (.slice (some ⟨w5.heap.size, 0, none⟩) n' n') n' (ints (loadN l fs ps x 0)) := by
      have e : (madeCells (Value.int .i64 0).cells (n' * 1)).toList = ints (loadN l fs ps x 0) := by
        rw [show (Value.int .i64 0).cells = #[.int .i64 0] from rfl, toList_madeCells_one, Nat.mul_one]
        simp [loadN, ints, HN'.out]
      rwa [e] at hown
    clear hown hgrow
    go_loopw [11] (fun v wr => ∃ i : Nat, i ≤ n2 ∧ v = .int .i64 i ∧ wr.ownsRow w5.heap.size 2 1 (.slice (some ⟨w5.heap.size, 0, none⟩) n' n') n' (ints (loadN l fs ps x i)) ∧ wr.cell? ⟨w.heap.size, 0, none⟩ = some (.slice A n c) ∧ Below w.heap.size w wr) (fun v _ => n2 - (intOf v).toNat)
    case atStart => exact ⟨0, Nat.zero_le _, rfl, hrow, k0, hb1⟩
    case round =>
      obtain ⟨i, hi, rfl, ho, hbox, hb⟩ := hrel
      obtain ⟨w2, rfl⟩ : ∃ w2, w2 = wr := ⟨_, rfl⟩
      clear hrow k0 hb1 hz0
      have hz := World.block_lt_of_cell? _ _ hbox
      by_cases hlt : i < n2
      · obtain ⟨p, hp⟩ : ∃ p, ps[i]? = some p := ⟨_, List.getElem?_eq_getElem (by have := HN2.out; omega)⟩
        have hpb := HPS.out p (List.mem_of_getElem? hp)
        obtain ⟨b2, off2, rfl, _, g2⟩ := (HR2.out.below hb).int hp
        have HSU := Lib.hid (loadN_succ (l := l) (fs := fs) (x := x) hp)
        have HO := Lib.hid ho
        have HB := Lib.hid hb
        have HOC := Lib.hid (fun (w : World) (h : LB w A n l A' c' n' fs) => c_l05Blocks (w := w) c p x hok hx0 hx1 hxT hpb.1 hpb.2 h)
        have HL2 := Lib.hid (HL0.out.below hb)
        have hBlt := (own_ge ho).2
        have HOL := Lib.hid (occL_len l fs p x fs.length)
        have HOM := Lib.hid (fun z (hz : z ∈ occL l fs p x fs.length) => occL_mem hz)
        generalize hO : occL l fs p x fs.length = O at HSU HOC HOL HOM
        clear ho hb hp hO
        have hi24 : (i : Int) < n2 := by omega
        go_wp2_with (fail)
        go_region_held3 (fun w' => w'.cell? ⟨w.heap.size, 0, none⟩ = some (.slice A n c) ∧ w'.cell? ⟨b2, off2 + i, none⟩ = some (.int .i64 p)) (first | exact ⟨hbox, g2⟩ | exact ⟨hbox3, g32⟩)
          (first
            | (go_at_call 22
               refine (HOC.out _ (by exact HL2.out.drew)).mono ?_
               rintro e w3 ⟨A3, c3, rfl, ho3, hb3⟩
               have HO3 := Lib.hid (own_below (by exact HO.out) hb3)
               have HC3 : Hid (w3.ownsRow w2.heap.size 2 1 (.slice A3 O.length c3) O.length (ints O)) := Lib.hid ho3
               have HB3 := Lib.hid (below_chain (by exact HB.out.drew) hb3)
               have hbox3 : w3.cell? ⟨w.heap.size, 0, none⟩ = some (.slice A n c) := cell_later hb3 (by exact hbox)
               have g32 := cell_later hb3 (by exact g2)
               clear hb3 ho3))
        have hm8 : O.length ≤ 8 := by have := HOL.out; have := HN'.out; omega
        clear HO HB hbox hz g2 g32
        go_wp2_with (fail)
        go_loopw [13] (fun v wr => ∃ j : Nat, j ≤ O.length ∧ v = .int .i64 j ∧ wr.ownsRow w5.heap.size 2 1 (.slice (some ⟨w5.heap.size, 0, none⟩) n' n') n' (ints ((O.take j).foldl bump (loadN l fs ps x i))) ∧ wr.ownsRow w2.heap.size 2 1 (.slice A3 O.length c3) O.length (ints O) ∧ wr.cell? ⟨w.heap.size, 0, none⟩ = some (.slice A n c) ∧ Below w.heap.size w wr) (fun v _ => O.length - (intOf v).toNat)
        case atStart => exact ⟨0, Nat.zero_le _, rfl, HO3.out, HC3.out, hbox3, HB3.out⟩
        case round =>
          obtain ⟨j, hj, rfl, ho, ho3, hbox, hb⟩ := hrel
          clear hbox3 HO3 HB3 HC3
          by_cases hlj : j < O.length
          · obtain ⟨z, hz⟩ : ∃ z, O[j]? = some z := ⟨_, List.getElem?_eq_getElem hlj⟩
            obtain ⟨q, rfl, hq, _⟩ := HOM.out z (List.mem_of_getElem? hz)
            have hbn := bumps_bnd (O.take j) (loadN_bnd l fs ps x i)
            have hbl := bumps_length (O.take j) (loadN l fs ps x i)
            rw [loadN_length] at hbl
            have HSN := Lib.hid (bumps_snoc hz (loadN l fs ps x i))
            obtain ⟨b3, off3, rfl, _, g3⟩ := (Rd.own ho3).int hz
            generalize (O.take j).foldl bump (loadN l fs ps x i) = L at ho hbn hbl HSN
            have hqn : q < n' := by have := HN'.out; omega
            have hv := hbn q
            have hbd : i * fs.length + (O.take j).length ≤ 100 := by
              have h1 : i * fs.length ≤ 4 * 8 := Nat.mul_le_mul (by omega) (by omega)
              have h2 : (O.take j).length ≤ j := List.length_take_le _ _
              omega
            have hg : (ints L)[q]? = some (.int .i64 (L.getD q 0)) := ints_get (by omega)
            have g4 : wr.cell? ⟨w5.heap.size, q, none⟩ = some (.int .i64 (L.getD q 0)) := by rw [ho.cellAt q (by omega)]; exact hg
            have f4 := ho.frozenAt q
            have hst := ho.stored q (.int .i64 (L.getD q 0 + 1))
            rw [ints_bump] at hst
            have HST := Lib.hid hst.1
            have HC4 := Lib.hid (kept_far ho3 hst.2 (fun k hk => by simp at hk; omega))
            have HX4 : Hid ((wr.setCell ⟨w5.heap.size, q, none⟩ (.int .i64 (L.getD q 0 + 1))).cell? ⟨w.heap.size, 0, none⟩ = some (.slice A n c)) := Lib.hid (cell_mark hbox hst.2 (fun k hk => by simp at hk; simp; omega))
            have HB4 := Lib.hid (below_set hb (p := ⟨w5.heap.size, q, none⟩) (.int .i64 (L.getD q 0 + 1)) (by show w.heap.size ≤ w5.heap.size; omega))
            generalize hV : L.getD q 0 = V at *
            clear hz hbn hbl hst hg ho ho3 hbox hb hV
            go_wp2
            go_roundw
            case rel => exact ⟨j + 1, by omega, by go_num, by rw [HSN.out]; exact HST.out, HC4.out, HX4.out, HB4.out⟩
            case measure => simp [intOf]; omega
          · obtain rfl : j = O.length := by omega
            rw [List.take_length] at ho
            have HO := Lib.hid ho
            have HB := Lib.hid hb
            clear ho hb ho3
            go_wp2
            go_roundw
            case rel => exact ⟨i + 1, by omega, by go_num, by rw [HSU.out]; exact HO.out, hbox, HB.out⟩
            case measure => simp [intOf]; omega
      · obtain rfl : i = n2 := by omega
        have HO := Lib.hid ho
        have HB := Lib.hid hb
        clear ho hb
        go_wp2
        go_ret2
        have e := loadN_length l fs ps x i
        have e2 : bldR l fs ps x = loadN l fs ps x i := HR.out
        refine ⟨some ⟨w5.heap.size, 0, none⟩, n', ?_, ?_, HB.out⟩
        · rw [HC.out, e2, e, ← HN'.out]; rfl
        · rw [e2, e, ← HN'.out]; exact own_mono HO.out (by omega)
  · have HC : Hid (bldC l fs ps x = 2) := Lib.hid (HE.out.trans hc)
    have HR : Hid (bldR l fs ps x = []) := Lib.hid (by unfold bldR; rw [HC.out]; rfl)
    have hF : F = false := by
      rw [hc] at htr
      cases F
      · rfl
      · simp at htr
    subst hF
    have HF := HFR.out
    have HT := Lib.hid HF
    clear hc HF HFR hfr
    go_enter Try.func7, Try.ntmps7
    go_wp2_with (first
      | (go_at_call 20
         refine (k_sAreBlocks _ (h.alloc _)).mono ?_
         rintro e w1 ⟨rfl, hb⟩
         first | replace k0 := cell_later hb k0 | (have k0 : w1.cell? ⟨w.heap.size, 0, none⟩ = some (.slice A n c) := cell_later hb (by go_simp))
         first | replace B := below_chain B hb | (have B : Below w.heap.size w w1 := below_chain (by (repeat (first | exact Below.refl _ _ | assumption | refine below_alloc ?_ _ | refine below_drewN ?_ _ | refine below_set ?_ _ (by simp; try omega) | refine Below.drew ?_))) hb)
         have h1 := Lib.hid ((h.alloc _).below hb)
         clear hb)
      | (go_at_call 21
         refine (HT.out _ h1.out (HR2.out.below B)).mono ?_
         rintro e w1 ⟨rfl, hb⟩
         first | replace k0 := cell_later hb k0 | (have k0 : w1.cell? ⟨w.heap.size, 0, none⟩ = some (.slice A n c) := cell_later hb (by go_simp))
         first | replace B := below_chain B hb | (have B : Below w.heap.size w w1 := below_chain (by (repeat (first | exact Below.refl _ _ | assumption | refine below_alloc ?_ _ | refine below_drewN ?_ _ | refine below_set ?_ _ (by simp; try omega) | refine Below.drew ?_))) hb)
         clear hb)
      )
    go_ret2
    rw [HC.out]
    exact retIC_nil HR.out B
end
end Go.Proofs.Ythkghpmfbdojeaa
