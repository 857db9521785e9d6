/- Contracts of loads, BlockLoads (program). Condition: the sizes. -/
import Derived.Test.YthkghpmfbdojeaaLoadP
namespace Go.Proofs.Ythkghpmfbdojeaa
open Go.RowKit

section
variable {A : Option Addr} {c n : Nat} {l : List Seg} {A' : Option Addr} {c' n' : Nat} {fs : List Int} {w : World}
set_option maxHeartbeats 2000000 in
set_option maxRecDepth 100000 in
theorem c_loads (c : Nat) (x : Int) (A2 : Option Addr) (c2 n2 : Nat) (ps : List Int) (hok : okB l fs = true) (hx0 : 1 ≤ x) (hx1 : x ≤ 40000) (hxT : x ≤ pos l l.length) (hps : ∀ p ∈ ps, 0 ≤ p ∧ p < pos l l.length) (hn2 : n2 = ps.length) (hs2 : n2 ≤ 4) (hr2 : Rd w A2 (ints ps)) (h : LB w A n l A' c' n' fs) :
    Calls Try.prog 19 #[.agg #[.slice A n c], .slice A' n' c', .slice A2 n2 c2, .int .i64 x] w (RetInts (loadN l fs ps x n2) w) := by
  obtain ⟨i0, hi, hz0, hz1, hz2⟩ := info_parts info_int64
  have hlen := blkB_len hok
  have HN' := Lib.hid h.hn'
  have HN2 := Lib.hid hn2
  have hn8 : n' ≤ 8 := by have := h.hn'; omega
  have HR2 := Lib.hid hr2
  have HL0 := Lib.hid h
  have HPS := Lib.hid hps
  clear hn2 hr2 h hps
  go_enter Try.func19, Try.ntmps19
  go_wp2_with (first
    | (at_make
       refine wpList_make_full _ rfl (.tmp 15) (.tmp 15) _ rfl (w.heap.size + 1) 2 i0 _ 1 Try.underlying27 hi hz0 hz1 .i64 .i64 _ _ n' rfl rfl rfl rfl (by rw [hz2]; omega) (by unfold maxLen; omega) (by simp) ?_
       intro w1 hown hgrow)
    )
  have hb1 : Below w.heap.size w w1 := below_of_grown (by (repeat (first | exact Below.refl _ _ | assumption | refine below_alloc ?_ _ | refine below_drewN ?_ _ | refine below_set ?_ _ (by simp; try omega) | refine Below.drew ?_))) hgrow (by simp)
  have k0 : w1.cell? ⟨w.heap.size, 0, none⟩ = some (.slice A n c) := cell_mark (by go_simp) hgrow (by simp)
  have hz0 := World.block_lt_of_cell? _ _ k0
  have hrow : w1.ownsRow (w.heap.size + 1) 2 1 (.slice (some ⟨(w.alloc (.cells #[.slice A n c] 26)).heap.size, 0, none⟩) n' n') n' (ints (loadN l fs ps x 0)) := by
    have e : (madeCells (Value.int .i64 0).cells (n' * 1)).toList = ints (loadN l fs ps x 0) := by
      rw [show (Value.int .i64 0).cells = #[.int .i64 0] from rfl, toList_madeCells_one, Nat.mul_one]
      simp [loadN, ints, HN'.out]
    rwa [e] at hown
  rw [show (w.alloc (.cells #[.slice A n c] 26)).heap.size = w.heap.size + 1 by simp] at hrow
  clear hown hgrow
  go_loopw [19] (fun v wr => ∃ i : Nat, i ≤ n2 ∧ v = .int .i64 i ∧ wr.ownsRow (w.heap.size + 1) 2 1 (.slice (some ⟨w.heap.size + 1, 0, none⟩) n' n') n' (ints (loadN l fs ps x i)) ∧ wr.cell? ⟨w.heap.size, 0, none⟩ = some (.slice A n c) ∧ Below w.heap.size w wr) (fun v _ => n2 - (intOf v).toNat)
  case atStart => exact ⟨0, Nat.zero_le _, rfl, hrow, k0, hb1⟩
  case round =>
    obtain ⟨i, hi, rfl, ho, hbox, hb⟩ := hrel
    obtain ⟨w2, rfl⟩ : ∃ w2, w2 = wr := ⟨_, rfl⟩
    clear hrow k0 hb1 hz0
    have hz := World.block_lt_of_cell? _ _ hbox
    by_cases hlt : i < n2
    · obtain ⟨p, hp⟩ : ∃ p, ps[i]? = some p := ⟨_, List.getElem?_eq_getElem (by have := HN2.out; omega)⟩
      have hpb := HPS.out p (List.mem_of_getElem? hp)
      obtain ⟨b2, off2, rfl, _, g2⟩ := (HR2.out.below hb).int hp
      have HSU := Lib.hid (loadN_succ (l := l) (fs := fs) (x := x) hp)
      have HO := Lib.hid ho
      have HB := Lib.hid hb
      have HOC := Lib.hid (c_occupied (w := w2) c p x hok hx0 hx1 hxT hpb.1 hpb.2 (HL0.out.below hb))
      have hBlt := (own_ge ho).2
      have HOL := Lib.hid (occL_len l fs p x fs.length)
      have HOM := Lib.hid (fun z (hz : z ∈ occL l fs p x fs.length) => occL_mem hz)
      generalize hO : occL l fs p x fs.length = O at HSU HOC HOL HOM
      clear ho hb hp hO
      go_wp2_with (fail)
      refine HOC.out.mono ?_
      rintro e w3 ⟨A3, c3, rfl, ho3, hb3⟩
      have HO3 := Lib.hid (own_below HO.out hb3)
      have HC3 := Lib.hid ho3
      have HB3 := Lib.hid (below_chain HB.out hb3)
      have hbox3 := cell_later hb3 hbox
      have hm8 : O.length ≤ 8 := by have := HOL.out; have := HN'.out; omega
      clear hb3 ho3 HO HB hbox hz g2
      go_wp2_with (fail)
      go_loopw [29] (fun v wr => ∃ j : Nat, j ≤ O.length ∧ v = .int .i64 j ∧ wr.ownsRow (w.heap.size + 1) 2 1 (.slice (some ⟨w.heap.size + 1, 0, none⟩) n' n') n' (ints ((O.take j).foldl bump (loadN l fs ps x i))) ∧ wr.ownsRow w2.heap.size 2 1 (.slice A3 O.length c3) O.length (ints O) ∧ wr.cell? ⟨w.heap.size, 0, none⟩ = some (.slice A n c) ∧ Below w.heap.size w wr) (fun v _ => O.length - (intOf v).toNat)
      case atStart => exact ⟨0, Nat.zero_le _, rfl, HO3.out, HC3.out, hbox3, HB3.out⟩
      case round =>
        obtain ⟨j, hj, rfl, ho, ho3, hbox, hb⟩ := hrel
        clear hbox3 HO3 HB3 HC3
        by_cases hlj : j < O.length
        · obtain ⟨z, hz⟩ : ∃ z, O[j]? = some z := ⟨_, List.getElem?_eq_getElem hlj⟩
          obtain ⟨q, rfl, hq, _⟩ := HOM.out z (List.mem_of_getElem? hz)
          have hbn := bumps_bnd (O.take j) (loadN_bnd l fs ps x i)
          have hbl := bumps_length (O.take j) (loadN l fs ps x i)
          rw [loadN_length] at hbl
          have HSN := Lib.hid (bumps_snoc hz (loadN l fs ps x i))
          obtain ⟨b3, off3, rfl, _, g3⟩ := (Rd.own ho3).int hz
          generalize (O.take j).foldl bump (loadN l fs ps x i) = L at ho hbn hbl HSN
          have hqn : q < n' := by have := HN'.out; omega
          have hv := hbn q
          have hbd : i * fs.length + (O.take j).length ≤ 100 := by
            have h1 : i * fs.length ≤ 4 * 8 := Nat.mul_le_mul (by omega) (by omega)
            have h2 : (O.take j).length ≤ j := List.length_take_le _ _
            omega
          have hg : (ints L)[q]? = some (.int .i64 (L.getD q 0)) := ints_get (by omega)
          have g4 : wr.cell? ⟨w.heap.size + 1, q, none⟩ = some (.int .i64 (L.getD q 0)) := by rw [ho.cellAt q (by omega)]; exact hg
          have f4 := ho.frozenAt q
          have hst := ho.stored q (.int .i64 (L.getD q 0 + 1))
          rw [ints_bump] at hst
          have HST := Lib.hid hst.1
          have HC4 := Lib.hid (kept_far ho3 hst.2 (fun k hk => by simp at hk; omega))
          have HX4 : Hid ((wr.setCell ⟨w.heap.size + 1, q, none⟩ (.int .i64 (L.getD q 0 + 1))).cell? ⟨w.heap.size, 0, none⟩ = some (.slice A n c)) := Lib.hid (cell_mark hbox hst.2 (fun k hk => by simp at hk; simp; omega))
          have HB4 := Lib.hid (below_set hb (p := ⟨w.heap.size + 1, q, none⟩) (.int .i64 (L.getD q 0 + 1)) (by show w.heap.size ≤ w.heap.size + 1; omega))
          generalize hV : L.getD q 0 = V at *
          clear hz hbn hbl hst hg ho ho3 hbox hb hV
          go_wp2
          go_roundw
          case rel => exact ⟨j + 1, by omega, by go_num, by rw [HSN.out]; exact HST.out, HC4.out, HX4.out, HB4.out⟩
          case measure => simp [intOf]; omega
        · obtain rfl : j = O.length := by omega
          rw [List.take_length] at ho
          have HO := Lib.hid ho
          have HB := Lib.hid hb
          clear ho hb ho3
          go_wp2
          go_roundw
          case rel => exact ⟨i + 1, by omega, by go_num, by rw [HSU.out]; exact HO.out, hbox, HB.out⟩
          case measure => simp [intOf]; omega
    · obtain rfl : i = n2 := by omega
      have HO := Lib.hid ho
      have HB := Lib.hid hb
      clear ho hb
      go_wp2
      go_ret
      have e := loadN_length l fs ps x i
      exact ⟨some ⟨w.heap.size + 1, 0, none⟩, n', by rw [e, ← HN'.out]; rfl, by rw [e, ← HN'.out]; exact own_mono HO.out (by omega), HB.out⟩
set_option maxRecDepth 100000 in
theorem c_BlockLoads (c : Nat) (x : Int) (A2 : Option Addr) (c2 n2 : Nat) (ps : List Int) (hn2 : n2 = ps.length) (hs2 : n2 ≤ 1048576) (hr2 : Rd w A2 (ints ps)) (h : LB w A n l A' c' n' fs) :
    Calls Try.prog 6 #[.agg #[.slice A n c], .slice A' n' c', .slice A2 n2 c2, .int .i64 x] w (RetIC (bldR l fs ps x) (bldC l fs ps x) w) := by
  have HN2 := Lib.hid hn2
  have HR2 := Lib.hid hr2
  clear hn2 hr2
  rcases hok : okB l fs with _ | _
  · have hok' : (layB l && blkB l fs) = false := hok
    have HC : Hid (bldC l fs ps x = 1) := Lib.hid (by unfold bldC; rw [hok]; rfl)
    have HR : Hid (bldR l fs ps x = []) := Lib.hid (by unfold bldR; rw [HC.out]; rfl)
    go_enter Try.func6, Try.ntmps6
    go_wp2_with (first
      | (go_at_call 17
         refine (k_AreBlocks _ (h.alloc _)).mono ?_
         rintro e w1 ⟨rfl, hb⟩
         first | replace B := below_chain B hb | (have B : Below w.heap.size w w1 := below_chain (by (repeat (first | exact Below.refl _ _ | assumption | refine below_alloc ?_ _ | refine below_drewN ?_ _ | refine below_set ?_ _ (by simp; try omega) | refine Below.drew ?_))) hb)
         clear hb)
      )
    go_ret2
    rw [HC.out]
    exact retIC_nil HR.out B
  have hok' : (layB l && blkB l fs) = true := hok
  rcases Nat.lt_or_ge 4 n2 with h4 | h4
  · have HC : Hid (bldC l fs ps x = 3) := Lib.hid (by unfold bldC; rw [hok, if_pos rfl, if_pos (by have := HN2.out; omega)])
    have HR : Hid (bldR l fs ps x = []) := Lib.hid (by unfold bldR; rw [HC.out]; rfl)
    go_enter Try.func6, Try.ntmps6
    go_wp2_with (first
      | (go_at_call 17
         refine (k_AreBlocks _ (h.alloc _)).mono ?_
         rintro e w1 ⟨rfl, hb⟩
         first | replace B := below_chain B hb | (have B : Below w.heap.size w w1 := below_chain (by (repeat (first | exact Below.refl _ _ | assumption | refine below_alloc ?_ _ | refine below_drewN ?_ _ | refine below_set ?_ _ (by simp; try omega) | refine Below.drew ?_))) hb)
         clear hb)
      )
    go_ret2
    rw [HC.out]
    exact retIC_nil HR.out B
  have HE : Hid (bldC l fs ps x = trnC l x ps) := Lib.hid (by unfold bldC; rw [hok, if_pos rfl, if_neg (by have := HN2.out; omega)])
  rcases trnC_cases l x ps (okB_lay hok) with ⟨hc, hx0, hx1, hxT, hps⟩ | hc
  · have HC : Hid (bldC l fs ps x = 0) := Lib.hid (HE.out.trans hc)
    have HR : Hid (bldR l fs ps x = loadN l fs ps x n2) := Lib.hid (by unfold bldR; rw [if_pos HC.out, HN2.out])
    have HPS := Lib.hid hps
    have HT : Hid (∀ w, LB w A n l A' c' n' fs → Rd w A2 (ints ps) → Calls Try.prog 18 #[.agg #[.slice A n c], .int .i64 x, .slice A2 n2 c2] w fun e w' => e = .returned (.int .i64 0) ∧ Below w.heap.size w w') := Lib.hid fun w h hr2 => by
      have := c_trainCode A c n l x A2 c2 n2 ps w h.hn h.hs h.hr HN2.out (by omega) hr2
      rwa [hc] at this
    clear hc hps
    go_enter Try.func6, Try.ntmps6
    go_wp2_with (first
      | (go_at_call 17
         refine (k_AreBlocks _ (h.alloc _)).mono ?_
         rintro e w1 ⟨rfl, hb⟩
         first | replace k0 := cell_later hb k0 | (have k0 : w1.cell? ⟨w.heap.size, 0, none⟩ = some (.slice A n c) := cell_later hb (by go_simp))
         first | replace B := below_chain B hb | (have B : Below w.heap.size w w1 := below_chain (by (repeat (first | exact Below.refl _ _ | assumption | refine below_alloc ?_ _ | refine below_drewN ?_ _ | refine below_set ?_ _ (by simp; try omega) | refine Below.drew ?_))) hb)
         have h1 := Lib.hid ((h.alloc _).below hb)
         clear hb)
      | (go_at_call 18
         refine (HT.out _ h1.out (HR2.out.below B)).mono ?_
         rintro e w1 ⟨rfl, hb⟩
         first | replace k0 := cell_later hb k0 | (have k0 : w1.cell? ⟨w.heap.size, 0, none⟩ = some (.slice A n c) := cell_later hb (by go_simp))
         first | replace B := below_chain B hb | (have B : Below w.heap.size w w1 := below_chain (by (repeat (first | exact Below.refl _ _ | assumption | refine below_alloc ?_ _ | refine below_drewN ?_ _ | refine below_set ?_ _ (by simp; try omega) | refine Below.drew ?_))) hb)
         have h2 := Lib.hid (h1.out.below hb)
         clear hb)
      | (go_at_call 19
         refine (c_loads _ _ _ _ _ ps hok hx0 hx1 hxT HPS.out HN2.out h4 (HR2.out.below B) h2.out).mono ?_
         rintro e w1 ⟨A1, c1, rfl, ho, hb⟩
         have HO := Lib.hid ho
         have HB := Lib.hid (below_chain B hb)
         have hsz := B.size
         clear hb ho)
      )
    go_ret2
    refine ⟨A1, c1, ?_, ?_, HB.out⟩
    · rw [HC.out, HR.out]; rfl
    · rw [HR.out]; exact own_mono HO.out hsz
  · have HC : Hid (bldC l fs ps x = 2) := Lib.hid (HE.out.trans hc)
    have HR : Hid (bldR l fs ps x = []) := Lib.hid (by unfold bldR; rw [HC.out]; rfl)
    have HT : Hid (∀ w, LB w A n l A' c' n' fs → Rd w A2 (ints ps) → Calls Try.prog 18 #[.agg #[.slice A n c], .int .i64 x, .slice A2 n2 c2] w fun e w' => e = .returned (.int .i64 2) ∧ Below w.heap.size w w') := Lib.hid fun w h hr2 => by
      have := c_trainCode A c n l x A2 c2 n2 ps w h.hn h.hs h.hr HN2.out (by omega) hr2
      rwa [hc] at this
    clear hc
    go_enter Try.func6, Try.ntmps6
    go_wp2_with (first
      | (go_at_call 17
         refine (k_AreBlocks _ (h.alloc _)).mono ?_
         rintro e w1 ⟨rfl, hb⟩
         first | replace k0 := cell_later hb k0 | (have k0 : w1.cell? ⟨w.heap.size, 0, none⟩ = some (.slice A n c) := cell_later hb (by go_simp))
         first | replace B := below_chain B hb | (have B : Below w.heap.size w w1 := below_chain (by (repeat (first | exact Below.refl _ _ | assumption | refine below_alloc ?_ _ | refine below_drewN ?_ _ | refine below_set ?_ _ (by simp; try omega) | refine Below.drew ?_))) hb)
         have h1 := Lib.hid ((h.alloc _).below hb)
         clear hb)
      | (go_at_call 18
         refine (HT.out _ h1.out (HR2.out.below B)).mono ?_
         rintro e w1 ⟨rfl, hb⟩
         first | replace k0 := cell_later hb k0 | (have k0 : w1.cell? ⟨w.heap.size, 0, none⟩ = some (.slice A n c) := cell_later hb (by go_simp))
         first | replace B := below_chain B hb | (have B : Below w.heap.size w w1 := below_chain (by (repeat (first | exact Below.refl _ _ | assumption | refine below_alloc ?_ _ | refine below_drewN ?_ _ | refine below_set ?_ _ (by simp; try omega) | refine Below.drew ?_))) hb)
         clear hb)
      )
    go_ret2
    rw [HC.out]
    exact retIC_nil HR.out B
end
end Go.Proofs.Ythkghpmfbdojeaa
