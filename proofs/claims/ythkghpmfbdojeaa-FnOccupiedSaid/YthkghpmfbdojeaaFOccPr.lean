/- The walk of the law FnOccupied, and the proof: for every code the law returns true, and nothing that was in memory before the call is changed. No condition. -/
import Derived.Test.YthkghpmfbdojeaaDrN
import Derived.Test.YthkghpmfbdojeaaFOccP
namespace Go.Proofs.Ythkghpmfbdojeaa
open Go.RowKit

def memB (zs : List Int) (x : Int) : Bool := decide (x ∈ zs)
theorem memB_yes {zs : List Int} {k : Nat} {z : Int} (hz : zs[k]? = some z) : memB zs z = true := by
  unfold memB
  exact decide_eq_true (List.mem_of_getElem? hz)
theorem memB_no {zs : List Int} {x : Int} {n : Nat} (h : ¬ x ∈ zs.take n) (hn : zs.length ≤ n) : memB zs x = false := by
  unfold memB
  rw [List.take_of_length_le hn] at h
  exact decide_eq_false h
theorem not_take {zs : List Int} {k : Nat} {x z : Int} (h : ¬ x ∈ zs.take k) (hz : zs[k]? = some z) (e : ¬ z = x) : ¬ x ∈ zs.take (k + 1) := by
  rw [List.take_add_one, hz]
  intro hm
  rcases List.mem_append.1 hm with hm | hm
  · exact h hm
  · simp at hm
    exact e hm.symm
set_option maxRecDepth 100000 in
theorem c_hasInt (A : Option Addr) (c n : Nat) (zs : List Int) (x : Int) (w : World) (hn : n = zs.length) (hs : n ≤ 1048576) (hr : Rd w A (ints zs)) :
    Calls Try.prog 12 #[.slice A n c, .int .i64 x] w fun e w' => e = .returned (.bool (memB zs x)) ∧ w = w' := by
  have HN := Lib.hid hn
  clear hn
  go_enter Try.func12, Try.ntmps12
  go_wp2
  go_loop [5] (fun v => ∃ k : Nat, k ≤ n ∧ v = .int .i64 k ∧ Hid (¬ x ∈ zs.take k)) (fun v => n - (intOf v).toNat)
  case atStart => exact ⟨0, Nat.zero_le _, rfl, Lib.hid (by simp)⟩
  case round =>
    obtain ⟨k, hk, rfl, ht⟩ := hrel
    by_cases hlt : k < n
    · obtain ⟨z, hz⟩ : ∃ z, zs[k]? = some z := ⟨_, List.getElem?_eq_getElem (by have := HN.out; omega)⟩
      obtain ⟨b1, o1, rfl, _, g1⟩ := hr.int hz
      have HZ := Lib.hid hz
      have hk0 : (0 : Int) ≤ (k : Int) := by omega
      have hk1 : (k : Int) < n := by omega
      clear hz hr
      by_cases hzy : z = x
      · subst hzy
        have HL := Lib.hid (memB_yes HZ.out)
        go_wp2
        go_ret
        exact ⟨by rw [HL.out]; rfl, rfl⟩
      · have hne : (z == x) = false := by simpa using hzy
        go_wp2
        go_round
        case rel => exact ⟨k + 1, by omega, by go_num, Lib.hid (not_take ht.out HZ.out hzy)⟩
        case measure => simp [intOf]; omega
    · obtain rfl : k = n := by omega
      have HL := Lib.hid (memB_no ht.out (by have := HN.out; omega))
      go_wp2
      go_ret
      exact ⟨by rw [HL.out]; rfl, rfl⟩
theorem bld_facts {l : List Seg} {fs ps : List Int} {x : Int} (h : bldC l fs ps x = 0) : bldR l fs ps x = loadN l fs ps x ps.length ∧ fs.length ≤ 8 ∧ ps.length ≤ 4 :=
  ⟨by unfold bldR; rw [if_pos h], (blkB_len (bld_parts h).1).2, (bld_parts h).2.1⟩
set_option maxHeartbeats 2000000 in
set_option maxRecDepth 100000 in
theorem law_FnOccupied (A : Option Addr) (c n : Nat) (w : World) (hb : Bytes w w.heap.size A n) :
    Calls Try.prog 3 #[.slice A n c] w fun e w' => e = .returned (.bool true) ∧ Below w.heap.size w w' := by
  rcases Nat.lt_or_ge 4096 n with hbig | hbig
  · have hd : decide (4096 < n) = true := by simp; omega
    go_enter Try.func3, Try.ntmps3
    go_wp2_with (first
      | (go_at_call 4
         refine (c_big _ _ _ _).mono ?_
         rintro e w' ⟨rfl, rfl⟩)
      )
    go_ret
    exact ⟨rfl, by (repeat (first | exact Below.refl _ _ | assumption | refine below_alloc ?_ _ | refine below_drewN ?_ _ | refine below_set ?_ _ (by simp; try omega) | refine Below.drew ?_))⟩
  have hd : decide (4096 < n) = false := by simp; omega
  go_enter Try.func3, Try.ntmps3
  go_wp2_with (first
    | (go_at_call 4
       refine (c_big _ _ _ _).mono ?_
       rintro e w' ⟨rfl, rfl⟩)
    )
  refine (c_DrawBlockLoads A c n w hbig hb).mono ?_
  rintro e w1 ⟨A1, c1, l, A2, c2, fs, A3, c3, ps, x, rfl, hl100, hf20, hp6, ho, ho2, ho3, B⟩
  have hcap := own_cap ho
  have hcap2 := own_cap ho2
  unfold maxLen at hcap hcap2
  have r1 := Rd.own ho
  have r2 := Rd.own ho2
  have r3 := Rd.own ho3
  clear ho ho2 ho3 hb
  go_wp2_with (fail)
  have k0 : (w1.alloc (.cells #[.slice A1 l.length c1] 26)).cell? ⟨w1.heap.size, 0, none⟩ = some (.slice A1 l.length c1) := by go_simp
  replace r1 := r1.alloc (.cells #[.slice A1 l.length c1] 26)
  replace r2 := r2.alloc (.cells #[.slice A1 l.length c1] 26)
  replace r3 := r3.alloc (.cells #[.slice A1 l.length c1] 26)
  replace B := below_alloc B (.cells #[.slice A1 l.length c1] 26)
  generalize w1.alloc (.cells #[.slice A1 l.length c1] 26) = W at k0 r1 r2 r3 B ⊢
  generalize hn1 : l.length = n1 at *
  generalize hn2 : fs.length = n2 at *
  generalize hn3 : ps.length = n3 at *
  have HN1 := Lib.hid hn1.symm
  have HN2 := Lib.hid hn2.symm
  have HN3 := Lib.hid hn3.symm
  clear hn1 hn2 hn3
  generalize w1.heap.size = b0 at *
  have HL : Hid (LB W A1 n1 l A2 c2 n2 fs) := Lib.hid ⟨HN1.out, by omega, r1, HN2.out, by omega, hcap2.1, by omega, r2⟩
  have HP := Lib.hid r3
  have HB := Lib.hid B
  clear r1 r2 r3 B
  refine (c_BlockLoads c1 x A3 c3 n3 ps HN3.out (by omega) HP.out HL.out).mono ?_
  rintro e w2 ⟨A4, c4, rfl, ho4, hb⟩
  have R4 := Lib.hid (Rd.own ho4)
  have HL2 := Lib.hid (HL.out.below hb)
  have HP2 := Lib.hid (HP.out.below hb)
  have HB2 := Lib.hid (below_chain HB.out hb)
  replace k0 := cell_later hb k0
  clear hb ho4 HL HP HB
  go_wp2_with (fail)
  refine (c_sBlockLoads c1 x A3 c3 n3 ps HN3.out (by omega) HP2.out HL2.out).mono ?_
  rintro e w3 ⟨A5, c5, rfl, ho5, hb⟩
  have R5 := Lib.hid (Rd.own ho5)
  have R43 := Lib.hid (R4.out.below hb)
  have HL3 := Lib.hid (HL2.out.below hb)
  have HP3 := Lib.hid (HP2.out.below hb)
  have HB3 := Lib.hid (below_chain HB2.out hb)
  replace k0 := cell_later hb k0
  clear hb ho5 HL2 HP2 HB2 R4
  have hbl : (bldR l fs ps x).length ≤ 1048576 := by
    unfold bldR
    split
    · rw [loadN_length]; have := HN2.out; omega
    · simp
  have HLK := Lib.hid (fun (w : World) (h2 : Rd w A4 (ints (bldR l fs ps x))) (h3 : Rd w A5 (ints (bldR l fs ps x))) => c_likeInts A4 A5 c4 c5 _ _ (bldR l fs ps x) w rfl rfl hbl h2 h3)
  rcases Decidable.em (bldC l fs ps x = 0) with hc | hc
  · have HC := Lib.hid hc
    obtain ⟨hbr, hf8, hp4⟩ := bld_facts hc
    have HBR := Lib.hid hbr
    have hbn : (bldR l fs ps x).length = n2 := by rw [hbr, loadN_length]; exact HN2.out.symm
    have hn2 : n2 ≤ 8 := by have := HN2.out; omega
    have hn3 : n3 ≤ 4 := by have := HN3.out; omega
    rw [hbn] at HLK ⊢
    rw [HC.out]
    clear hc hbr hf8 hp4
    go_wp2_with (fail)
    refine (HLK.out _ R43.out R5.out).mono ?_
    rintro e w4 ⟨rfl, hb⟩
    have HL4 := Lib.hid (HL3.out.below hb)
    have HP4 := Lib.hid (HP3.out.below hb)
    have R44 := Lib.hid (R43.out.below hb)
    have HB4 := Lib.hid (below_chain HB3.out hb)
    replace k0 := cell_later hb k0
    clear hb HL3 HP3 HB3 R43 R5
    have hz4 := World.block_lt_of_cell? _ _ k0
    dsimp only at hz4
    obtain ⟨i0, hi, hz0, hz1, hz2⟩ := info_parts info_int64
    go_wp2_with (first
      | (at_make
         refine wpList_make_full _ rfl (.tmp 57) (.tmp 57) _ rfl w4.heap.size 2 i0 _ 1 Try.underlying27 hi hz0 hz1 .i64 .i64 _ _ n2 rfl rfl rfl rfl (by rw [hz2]; omega) (by unfold maxLen; omega) (Nat.le_refl _) ?_
         intro w5 hown hgrow)
      )
    have HB5 : Hid (Below w4.heap.size w4 w5) := Lib.hid (below_of_grown (Below.refl _ _) hgrow (by simp))
    replace k0 := cell_later HB5.out k0
    have HO5 : Hid (w5.ownsRow w4.heap.size 2 1 (.slice (some ⟨w4.heap.size, 0, none⟩) n2 n2) n2 (ints (loadN l fs ps x 0))) := Lib.hid (by
      rw [made_int] at hown
      rw [HN2.out] at hown ⊢
      exact hown)
    clear hown hgrow
    go_loopw [12] (fun v wr => ∃ i : Nat, i ≤ n3 ∧ v = .int .i64 i ∧ wr.ownsRow w4.heap.size 2 1 (.slice (some ⟨w4.heap.size, 0, none⟩) n2 n2) n2 (ints (loadN l fs ps x i)) ∧ wr.cell? ⟨b0, 0, none⟩ = some (.slice A1 n1 c1) ∧ Below w4.heap.size w4 wr) (fun v _ => n3 - (intOf v).toNat)
    case atStart => exact ⟨0, Nat.zero_le _, rfl, HO5.out, k0, HB5.out⟩
    case round =>
      obtain ⟨i, hi, rfl, ho, hbox, hb⟩ := hrel
      clear k0 HO5 HB5
      by_cases hlt : i < n3
      · obtain ⟨p, hp⟩ : ∃ p, ps[i]? = some p := ⟨_, List.getElem?_eq_getElem (by have := HN3.out; omega)⟩
        obtain ⟨f1, f2, f3, f4⟩ := front_facts HC.out (List.mem_of_getElem? hp)
        have HLr := Lib.hid (HL4.out.below hb)
        obtain ⟨b2, off2, rfl, _, g2⟩ := (HP4.out.below hb).int hp
        have HSU := Lib.hid (loadN_succ (l := l) (fs := fs) (x := x) hp)
        have HO := Lib.hid ho
        have HB := Lib.hid hb
        have hOC := fun (w : World) (h : LB w A1 n1 l A2 c2 n2 fs) => c_OccupiedBlocks (w := w) c1 p x h
        have hOS := fun (w : World) (h : LB w A1 n1 l A2 c2 n2 fs) => c_sOccupiedBlocks (w := w) c1 p x h
        have hBA := fun (w : World) (h : LB w A1 n1 l A2 c2 n2 fs) => c_BlockAt (w := w) c1 p h
        rw [f1, f2] at hOC hOS
        rw [f3] at hBA
        have hBlt := hb.size
        have HOL := Lib.hid (occL_len l fs p x fs.length)
        have HOM := Lib.hid (fun z (hz : z ∈ occL l fs p x fs.length) => occL_mem hz)
        have HME : Hid (memB (occL l fs p x fs.length) (posBlk l fs p) = true) := Lib.hid (by unfold memB; exact decide_eq_true f4)
        generalize hO : occL l fs p x fs.length = O at HSU hOC hOS HOL HOM HME
        generalize hPB : posBlk l fs p = pb at hBA HME
        have HOC := Lib.hid hOC
        have HOS := Lib.hid hOS
        have HBA := Lib.hid hBA
        clear ho hb hp hO f1 f2 f3 f4 hOC hOS hBA hPB HP4
        have hi24 : (i : Int) < n3 := by omega
        have hm8 : O.length ≤ 8 := by have := HOL.out; have := HN2.out; omega
        go_wp2_with (fail)
        go_region_held3 (fun w' => w'.cell? ⟨b0, 0, none⟩ = some (.slice A1 n1 c1) ∧ w'.cell? ⟨b2, off2 + i, none⟩ = some (.int .i64 p)) (first | exact ⟨hbox, g2⟩ | exact ⟨hbox6, g26⟩)
          (first
            | (go_at_call 9
               go_loud (refine (HOC.out _ (by exact HLr.out.drew)).mono ?_)
               rintro e w6 ⟨A6, c6, rfl, ho6, hb6⟩
               have HO6 := Lib.hid (own_below (by exact HO.out) hb6)
               have HC6 := Lib.hid (Rd.own ho6)
               have HL6 := Lib.hid (LB.below (by exact HLr.out.drew) hb6)
               have HB6 := Lib.hid (below_chain (by exact HB.out.drew) hb6)
               have hbox6 : w6.cell? ⟨b0, 0, none⟩ = some (.slice A1 n1 c1) := cell_later hb6 (by exact hbox)
               have g26 := cell_later hb6 (by exact g2)
               clear hb6 ho6))
        clear HO HLr HB hbox g2 HOC
        go_wp2_with (fail)
        go_region_held3 (fun w' => w'.cell? ⟨b0, 0, none⟩ = some (.slice A1 n1 c1) ∧ w'.cell? ⟨b2, off2 + i, none⟩ = some (.int .i64 p)) (first | exact ⟨hbox6, g26⟩ | exact ⟨hbox7, g27⟩)
          (first
            | (go_at_call 10
               refine (HOS.out _ (by exact HL6.out.drew)).mono ?_
               rintro e w7 ⟨A7, c7, rfl, ho7, hb7⟩
               have HO7 := Lib.hid (own_below (by exact HO6.out) hb7)
               have HC7 := Lib.hid (Rd.below (by exact HC6.out) hb7)
               have HS7 : Hid (w7.ownsRow w6.heap.size 2 1 (.slice A7 O.length c7) O.length (ints O)) := Lib.hid ho7
               have HL7 := Lib.hid (LB.below (by exact HL6.out.drew) hb7)
               have HB7 := Lib.hid (below_chain (by exact HB6.out.drew) hb7)
               have hbox7 : w7.cell? ⟨b0, 0, none⟩ = some (.slice A1 n1 c1) := cell_later hb7 (by exact hbox6)
               have g27 := cell_later hb7 (by exact g26)
               clear hb7 ho7))
        have hBlt7 := (own_ge HO6.out).2
        clear HO6 HL6 HB6 hbox6 g26 HOS HC6
        go_wp2_with (fail)
        go_region_held3 (fun w' => w'.cell? ⟨b0, 0, none⟩ = some (.slice A1 n1 c1) ∧ w'.cell? ⟨b2, off2 + i, none⟩ = some (.int .i64 p)) (first | exact ⟨hbox7, g27⟩ | exact ⟨hbox8, g28⟩)
          (first
            | (go_at_call 11
               refine (HBA.out _ (by exact HL7.out.drew)).mono ?_
               rintro e w8 ⟨rfl, hb8⟩
               have HO8 := Lib.hid (own_below (by exact HO7.out) hb8)
               have HC8 := Lib.hid (Rd.below (by exact HC7.out) hb8)
               have HS8 := Lib.hid (own_below (by exact HS7.out) hb8)
               have HB8 := Lib.hid (below_chain (by exact HB7.out.drew) hb8)
               have hbox8 : w8.cell? ⟨b0, 0, none⟩ = some (.slice A1 n1 c1) := cell_later hb8 (by exact hbox7)
               have g28 := cell_later hb8 (by exact g27)
               clear hb8))
        clear HO7 HC7 HS7 HL7 HB7 hbox7 g27 HBA
        go_wp2_with (fail)
        refine (c_likeInts A6 A7 c6 c7 O.length O.length O w8 rfl rfl (by omega) HC8.out (Rd.own HS8.out)).mono ?_
        rintro e w9 ⟨rfl, hb9⟩
        have HO9 := Lib.hid (own_below HO8.out hb9)
        have HS9 := Lib.hid (own_below HS8.out hb9)
        have HB9 := Lib.hid (below_chain HB8.out hb9)
        have hbox9 := cell_later hb9 hbox8
        clear hb9 HO8 HS8 HB8 HC8 hbox8 g28
        go_wp2_with (fail)
        refine (c_hasInt A7 c7 O.length O pb w9 rfl (by omega) (Rd.own HS9.out)).mono ?_
        rintro e w10 ⟨rfl, rfl⟩
        rw [HME.out]
        go_wp2_with (fail)
        go_loopw [19] (fun v wr => ∃ j : Nat, j ≤ O.length ∧ v = .int .i64 j ∧ wr.ownsRow w4.heap.size 2 1 (.slice (some ⟨w4.heap.size, 0, none⟩) n2 n2) n2 (ints ((O.take j).foldl bump (loadN l fs ps x i))) ∧ wr.ownsRow w6.heap.size 2 1 (.slice A7 O.length c7) O.length (ints O) ∧ wr.cell? ⟨b0, 0, none⟩ = some (.slice A1 n1 c1) ∧ Below w4.heap.size w4 wr) (fun v _ => O.length - (intOf v).toNat)
        case atStart => exact ⟨0, Nat.zero_le _, rfl, HO9.out, HS9.out, hbox9, HB9.out⟩
        case round =>
          obtain ⟨j, hj, rfl, ho, ho3, hbox, hb⟩ := hrel
          clear hbox9 HO9 HB9 HS9
          by_cases hlj : j < O.length
          · obtain ⟨z, hz⟩ : ∃ z, O[j]? = some z := ⟨_, List.getElem?_eq_getElem hlj⟩
            obtain ⟨q, rfl, hq, _⟩ := HOM.out z (List.mem_of_getElem? hz)
            have hbn := bumps_bnd (O.take j) (loadN_bnd l fs ps x i)
            have hbl := bumps_length (O.take j) (loadN l fs ps x i)
            rw [loadN_length] at hbl
            have HSN := Lib.hid (bumps_snoc hz (loadN l fs ps x i))
            obtain ⟨b3, off3, rfl, _, g3⟩ := (Rd.own ho3).int hz
            generalize (O.take j).foldl bump (loadN l fs ps x i) = L at ho hbn hbl HSN
            have hqn : q < n2 := by have := HN2.out; omega
            have hv := hbn q
            have hbd : i * fs.length + (O.take j).length ≤ 100 := by
              have h1 : i * fs.length ≤ 4 * 8 := Nat.mul_le_mul (by omega) (by have := HN2.out; omega)
              have h2 : (O.take j).length ≤ j := List.length_take_le _ _
              omega
            have hg : (ints L)[q]? = some (.int .i64 (L.getD q 0)) := ints_get (by omega)
            have g4 : wr.cell? ⟨w4.heap.size, q, none⟩ = some (.int .i64 (L.getD q 0)) := by rw [ho.cellAt q (by omega)]; exact hg
            have f4 := ho.frozenAt q
            have hst := ho.stored q (.int .i64 (L.getD q 0 + 1))
            rw [ints_bump] at hst
            have HST := Lib.hid hst.1
            have HC4 := Lib.hid (kept_far ho3 hst.2 (fun k hk => by simp at hk; omega))
            have HX4 : Hid ((wr.setCell ⟨w4.heap.size, q, none⟩ (.int .i64 (L.getD q 0 + 1))).cell? ⟨b0, 0, none⟩ = some (.slice A1 n1 c1)) := Lib.hid (cell_mark hbox hst.2 (fun k hk => by simp at hk; simp; omega))
            have HB4' := Lib.hid (below_set hb (p := ⟨w4.heap.size, q, none⟩) (.int .i64 (L.getD q 0 + 1)) (Nat.le_refl _))
            generalize hV : L.getD q 0 = V at *
            clear hz hbn hbl hst hg ho ho3 hbox hb hV
            go_wp2
            go_roundw
            case rel => exact ⟨j + 1, by omega, by go_num, by rw [HSN.out]; exact HST.out, HC4.out, HX4.out, HB4'.out⟩
            case measure => simp [intOf]; omega
          · obtain rfl : j = O.length := by omega
            rw [List.take_length] at ho
            have HO := Lib.hid ho
            have HB := Lib.hid hb
            clear ho hb ho3
            go_wp2
            go_roundw
            case rel => exact ⟨i + 1, by omega, by go_num, by rw [HSU.out]; exact HO.out, hbox, HB.out⟩
            case measure => simp [intOf]; omega
      · obtain rfl : i = n3 := by omega
        have HO := Lib.hid (Rd.own ho)
        have HB := Lib.hid (below_chain HB4.out hb)
        have R4w := Lib.hid (R44.out.below hb)
        have hbr := HBR.out
        rw [← HN3.out] at hbr
        rw [hbr] at R4w
        have hll : (loadN l fs ps x i).length = n2 := by rw [loadN_length]; exact HN2.out.symm
        clear ho hb R44 hbr
        go_wp2_with (fail)
        refine (c_likeInts _ A4 n2 c4 n2 n2 (loadN l fs ps x i) wr hll.symm hll.symm (by omega) HO.out R4w.out).mono ?_
        rintro e w9 ⟨rfl, hb9⟩
        have HB9 := Lib.hid (below_chain HB.out hb9)
        clear hb9 HO HB R4w
        go_wp2_with (fail)
        go_ret
        exact ⟨rfl, HB9.out⟩
  · have hc' : (bldC l fs ps x == 0) = false := by simp [hc]
    have hc2 : (bldC l fs ps x != 0) = true := by simp [hc]
    clear hc
    go_wp2_with (fail)
    refine (HLK.out _ R43.out R5.out).mono ?_
    rintro e w4 ⟨rfl, hb⟩
    have HB4 := Lib.hid (below_chain HB3.out hb)
    clear hb HB3
    go_wp2_with (fail)
    go_ret
    exact ⟨rfl, HB4.out⟩
end Go.Proofs.Ythkghpmfbdojeaa
namespace Go.Proofs.Ythkghpmfbdojeaa
open Go.ChangeShapes Go.WideShapes Go.ChangeAt Go.RowKit

set_option maxRecDepth 100000 in
theorem FnOccupied_lifted (os : Os) (started : os.Started) (H : Type) (enc : TypeId × Value → H) :
    ReturnsInHanded {} Try.checked os 3 .any (Rows.fnOccupiedSpec.pre6 enc Try.prog Try.f3 Rows.fnOccupiedRow.domain false) (Rows.fnOccupiedSpec.post enc Try.prog Try.f3 false true false false) := by
  refine returnsInHanded_of_change (C := Try.checked) own started (by kernel_rfl) Try.func3
    (ChangeSpec.witness6 (enc := enc) (C := Try.checked) false ⟨#[], #[.slice none 0 0], []⟩ 8 (by kernel_rfl) (by kernel_rfl) (by kernel_rfl) (by kernel_rfl)) ?_
  intro W base args ds gs before hval0 hW hcnd _
  have hval : ∀ (j : Nat) t v, Try.f3.params[j]? = some t → args[j]? = some v → Value.okWide Try.prog W .any base t v := hval0
  have hW' := hW
  obtain ⟨p, q, hA0, hV, rfl, hfz, hnd⟩ := hW
  have hA : DataW.TrodAll enc Try.prog W 0 (fun _ => true) true Try.f3.params.toList args.toList ds p := hA0
  rw [Try.params3] at hA hval
  obtain ⟨v0, vs0, d0, ds0, p0, q0, hargs, rfl, rfl, h0, r0⟩ := trodAll_cons hA
  obtain ⟨rfl, rfl, rfl⟩ := trodAll_nil r0
  obtain rfl : args = #[v0] := by cases args; simp_all
  obtain ⟨rfl, rfl⟩ := trodVars_none hV
  have kk0 := h0
  have lt0 : ∀ x ∈ p0, x.block < W.heap.size := by obtain ⟨m, hm⟩ := kk0; exact DataW.trod_lt m _ _ _ hm
  obtain ⟨A, n, c, rfl, _, hb⟩ := open_byteS (hval 0 22 v0 rfl rfl) h0
  clear hA0 hval0
  refine (law_FnOccupied A c n W hb).mono fun e W' ⟨he, bel⟩ => ?_
  subst he
  exact ⟨_, rfl, _, _, _, [], _, [], hW', trodAll_mk1 (shut_bool Try.underlying4 _), (trodAll_cons_mk (Below.trod laidOut (by kernel_rfl) (of_decide_eq_true (by kernel_rfl)) kk0 bel lt0) trodAll_mk0), rfl, bel.frame _, fun h => by cases h⟩
theorem FnOccupied_facts : joinedFacts Try.pinned.checked.prog 3 Try.f3 Rows.fnOccupiedSpec Rows.fnOccupiedRow = true := by
  show joinedFacts Try.prog 3 Try.f3 Rows.fnOccupiedSpec Rows.fnOccupiedRow = true
  unfold joinedFacts
  rw [may_enter, lifts_final, make_cut]
  kernel_rfl
theorem FnOccupied_proved : Rows.FnOccupiedSaid :=
  OpenClaim.holds_of_wide 3 Try.f3 rfl rfl rfl rfl rfl rfl rfl ⟨rfl, rfl, rfl, rfl, rfl⟩ rfl rfl rfl rfl rfl (by kernel_rfl) Try.func3 FnOccupied_facts
    (of_decide_eq_true (by kernel_rfl)) (by unfold Func.isWrapper; first | (rw [if_pos (by decide +kernel)]; kernel_rfl) | (rw [if_neg (by decide +kernel)]; exact ⟨rfl, rfl⟩))
    (fun os started H enc _ => FnOccupied_lifted os started H enc)
end Go.Proofs.Ythkghpmfbdojeaa
