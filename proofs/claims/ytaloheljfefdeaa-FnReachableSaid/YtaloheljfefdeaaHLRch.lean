/- The walk of the law FnReachable. No condition but the bytes. -/
import Derived.Test.YtaloheljfefdeaaHPlRch
import Derived.Test.YtaloheljfefdeaaH16
import Derived.Test.YtaloheljfefdeaaHDice
namespace Go.Proofs.Ytaloheljfefdeaa
open Go.RowKit

set_option maxHeartbeats 4000000 in
set_option maxRecDepth 100000 in
theorem law_FnReachable (A : Option Addr) (c n : Nat) (w : World) (hb : Bytes w w.heap.size A n) :
    Calls Try.prog 5 #[.slice A n c] w fun e w' => e = .returned (.bool true) ∧ Below w.heap.size w w' := by
  rcases Nat.lt_or_ge 4096 n with hbig | hbig
  · have hd : decide (4096 < n) = true := by simp; omega
    go_enter Try.func5, Try.ntmps5
    go_wp2_with (first
      | (go_at_call 7
         refine (c_big _ _ _ _).mono ?_
         rintro e w' ⟨rfl, rfl⟩)
      )
    go_ret
    exact ⟨rfl, by (repeat (first | exact Below.refl _ _ | assumption | refine below_alloc ?_ _ | refine below_drewN ?_ _ | refine below_set ?_ _ (by simp; try omega) | refine Below.drew ?_))⟩
  have hd : decide (4096 < n) = false := by simp; omega
  have HBY := Lib.hid hb
  go_enter Try.func5, Try.ntmps5
  go_wp2_with (first
    | (go_at_call 7
       refine (c_big _ _ _ _).mono ?_
       rintro e w' ⟨rfl, rfl⟩)
    )
  refine (c_DrawReachableStates A c n w hbig hb).mono ?_
  rintro e w1 ⟨az, ax, ar, cz, cs, cr, m, ds, rfl, hok, hmo, B⟩
  have HOK := Lib.hid hok
  have hm1 := hmo.md
  clear hmo hb hok
  dsimp only [mv]
  go_upto_region 4 with (fail)
  have k0 : (w1.alloc (.cells #[.slice az m.sz.length cz, .slice ax m.st.length cs, .slice ar m.rs.length cr] 27)).cell? ⟨w1.heap.size, 0, none⟩ = some (.slice az m.sz.length cz) := by go_simp
  have k1 : (w1.alloc (.cells #[.slice az m.sz.length cz, .slice ax m.st.length cs, .slice ar m.rs.length cr] 27)).cell? ⟨w1.heap.size, 1, none⟩ = some (.slice ax m.st.length cs) := by go_simp
  have k2 : (w1.alloc (.cells #[.slice az m.sz.length cz, .slice ax m.st.length cs, .slice ar m.rs.length cr] 27)).cell? ⟨w1.heap.size, 2, none⟩ = some (.slice ar m.rs.length cr) := by go_simp
  replace hm1 := hm1.below (below_alloc (Below.refl _ _) (.cells #[.slice az m.sz.length cz, .slice ax m.st.length cs, .slice ar m.rs.length cr] 27))
  replace B := below_alloc B (.cells #[.slice az m.sz.length cz, .slice ax m.st.length cs, .slice ar m.rs.length cr] 27)
  generalize w1.alloc (.cells #[.slice az m.sz.length cz, .slice ax m.st.length cs, .slice ar m.rs.length cr] 27) = Ww1 at k0 k1 k2 hm1 B ⊢
  generalize w1.heap.size = b0 at *
  go_wp2_with (fail)
  refine (c_ReachableStates m az ax ar cz cs cr _ HOK.out hm1).mono ?_
  rintro e w2 ⟨A4, c4, rfl, hos, hb⟩
  have hstep : Below Ww1.heap.size Ww1 w2 := below_chain (by (repeat (first | exact Below.refl _ _ | assumption | refine below_alloc ?_ _ | refine below_drewN ?_ _ | refine below_set ?_ _ (by simp; try omega) | refine Below.drew ?_))) hb
  replace hm1 := hm1.below hstep
  replace k0 := cell_later hstep k0
  replace k1 := cell_later hstep k1
  replace k2 := cell_later hstep k2
  replace B := below_chain B hstep
  have l4 := hos.rd rfl
  clear hos
  clear hb hstep
  go_wp2_with (fail)
  refine (c_sReachableStates m az ax ar cz cs cr _ HOK.out hm1).mono ?_
  rintro e w3 ⟨A6, c6, rfl, l6, hb⟩
  have hstep : Below w2.heap.size w2 w3 := below_chain (by (repeat (first | exact Below.refl _ _ | assumption | refine below_alloc ?_ _ | refine below_drewN ?_ _ | refine below_set ?_ _ (by simp; try omega) | refine Below.drew ?_))) hb
  replace hm1 := hm1.below hstep
  replace l4 := l4.below hstep
  replace k0 := cell_later hstep k0
  replace k1 := cell_later hstep k1
  replace k2 := cell_later hstep k2
  replace B := below_chain B hstep
  clear hb hstep
  go_wp2_with (fail)
  refine (c_CountReachable m az ax ar cz cs cr _ HOK.out hm1).mono ?_
  rintro e w4 ⟨rfl, hb⟩
  have hstep : Below w3.heap.size w3 w4 := below_chain (by (repeat (first | exact Below.refl _ _ | assumption | refine below_alloc ?_ _ | refine below_drewN ?_ _ | refine below_set ?_ _ (by simp; try omega) | refine Below.drew ?_))) hb
  replace hm1 := hm1.below hstep
  replace l4 := l4.below hstep
  replace l6 := l6.below hstep
  replace k0 := cell_later hstep k0
  replace k1 := cell_later hstep k1
  replace k2 := cell_later hstep k2
  replace B := below_chain B hstep
  clear hb hstep
  go_wp2_with (fail)
  refine (c_sCountReachable m az ax ar cz cs cr _ HOK.out hm1).mono ?_
  rintro e w5 ⟨rfl, hb⟩
  have hstep : Below w4.heap.size w4 w5 := below_chain (by (repeat (first | exact Below.refl _ _ | assumption | refine below_alloc ?_ _ | refine below_drewN ?_ _ | refine below_set ?_ _ (by simp; try omega) | refine Below.drew ?_))) hb
  replace hm1 := hm1.below hstep
  replace l4 := l4.below hstep
  replace l6 := l6.below hstep
  replace k0 := cell_later hstep k0
  replace k1 := cell_later hstep k1
  replace k2 := cell_later hstep k2
  replace B := below_chain B hstep
  clear hb hstep
  have hrl := rs_le m
  have hsl := HOK.out.1.2.1
  have HL1 := Lib.hid (fun w' h h' => c_likeLists A4 A6 c4 c6 _ _ (rsL m) w' rfl rfl (rs_le m) (rs_each HOK.out) h h')
  have HRE := Lib.hid (rs_each HOK.out)
  have HNE := Lib.hid (fun l => nw_each (m := m) (vs := l))
  have HNL := Lib.hid (fun l => nw_len2 m l)
  have HRS := Lib.hid (fun h : xmC m [] = 0 => And.intro (rs_len h) (And.intro (rs_start h) (fun (l : List Int) (hl : l ∈ rsL m) => rs_state h hl)))
  have HLS := Lib.hid (fun (l : List Int) (hl : l.length ≤ 1048576) a5 c5 w' h h' => c_likeB a5 ax c5 cs l.length m.st.length l m.st w' rfl rfl hl hsl h h')
  have HLX := Lib.hid (fun (l x : List Int) (hl : l.length ≤ 1048576) (hx : x.length ≤ 1048576) a5 c5 a6 c6 w' h h' => c_likeB a5 a6 c5 c6 l.length x.length l x w' rfl rfl hl hx h h')
  have HNS := Lib.hid (fun (l : List Int) (hl : l.length ≤ 1048576) A c w' h hv => c_NextStates m az ax ar cz cs cr A c l w' HOK.out hl h hv)
  dsimp only [mv] at HNS
  go_wp2_with (fail)
  refine (HL1.out _ l4 l6).mono ?_
  rintro e w6 ⟨rfl, hb⟩
  have hstep : Below w5.heap.size w5 w6 := below_chain (by (repeat (first | exact Below.refl _ _ | assumption | refine below_alloc ?_ _ | refine below_drewN ?_ _ | refine below_set ?_ _ (by simp; try omega) | refine Below.drew ?_))) hb
  replace hm1 := hm1.below hstep
  replace l4 := l4.below hstep
  replace l6 := l6.below hstep
  replace k0 := cell_later hstep k0
  replace k1 := cell_later hstep k1
  replace k2 := cell_later hstep k2
  replace B := below_chain B hstep
  clear hb hstep
  clear HL1 l4
  rcases Decidable.em (xmC m [] = 0) with hc | hc
  · obtain ⟨⟨y1, y2, y3⟩, y4, y5⟩ := HRS.out hc
    rw [hc, y1]
    have HY4 := Lib.hid y4
    have HY5 := Lib.hid y5
    clear hc y1 y4 y5 HRS
    generalize rsL m = L at *
    go_wp2_with (fail)
    have HM := Lib.hid hm1
    have HL := Lib.hid l6
    have HK := Lib.hid (And.intro k0 (And.intro k1 k2))
    have HB := Lib.hid B
    refine (c_roll A c n 2101 w6 hbig (by omega) (by omega) (bytes_later HBY.out B)).mono ?_
    rintro e w7 ⟨h, rfl, hdi, hb⟩
    have HBP : Hid (∀ w', Below w6.heap.size w6 w' → Bytes w' w6.heap.size A n) := Lib.hid (fun w' hb' j hj => by
      obtain ⟨b, off, u, e, hb1, hu, hc⟩ := bytes_later HBY.out HB.out j hj
      exact ⟨b, off, u, e, hb1, hu, cell_later hb' hc⟩)
    have HDI := Lib.hid hdi
    have HB7 := Lib.hid hb
    clear hm1 l6 k0 k1 k2 B hb hdi
    generalize hp : w6.heap.size = p at *
    have HP := Lib.hid hp
    clear hp
    go_wp2_with (fail)
    go_loopw [13, 14] (fun v u wr => ∃ (i : Nat) (f : Bool), i ≤ L.length ∧ u = .int .i64 i ∧ v = .bool f ∧ Hid (f = fnd false L m.st i) ∧ Hid (Below p w6 wr) ∧ Hid (Dice wr p A n c 0 h)) (fun _ u _ => L.length - (intOf u).toNat)
    case atStart => exact ⟨0, false, Nat.zero_le _, rfl, rfl, Lib.hid (fnd_zero _ _ _).symm, HB7, HDI⟩
    case round =>
      obtain ⟨i, f, hi, rfl, rfl, hf, hb, hdi⟩ := hrel
      have hb6 : Below w6.heap.size w6 wr := by rw [HP.out]; exact hb.out
      have k0 := cell_later hb6 HK.out.1
      have k1 := cell_later hb6 HK.out.2.1
      have k2 := cell_later hb6 HK.out.2.2
      by_cases hlt : i < L.length
      · obtain ⟨l, hl⟩ : ∃ r, L[i]? = some r := ⟨_, List.getElem?_eq_getElem hlt⟩
        have HFQ := Lib.hid (fnd_succ (fb := false) (x := m.st) hl)
        obtain ⟨lb, lo, la, lc, rfl, _, l0, hl5⟩ := (HL.out.below hb6).at hl
        have hll := HRE.out l (List.mem_of_getElem? hl)
        have hi0 : (0 : Int) ≤ (i : Int) := by omega
        have hi1 : (i : Int) < (L.length : Int) := by omega
        have HL5 := Lib.hid hl5
        have HST := Lib.hid (HM.out.s.below hb6)
        have HLS1 := Lib.hid (HLS.out l hll la lc)
        clear hl hl5 hb6
        rcases f with _ | _
        · go_wp2_with (fail)
          refine wp_region_held_drew (S := (fun w' => w'.cell? ⟨b0, 1, none⟩ = some (.slice ax m.st.length cs) ∧ w'.cell? ⟨lb, lo + i, none⟩ = some (.slice la l.length lc))) (by kernel_rfl) ?_ (fun hHeld => ?_)
          · exact ⟨k1, l0⟩
          refine rg_take (v := ?_) 0 rfl (by kernel_rfl) (by kernel_rfl) (by kernel_rfl) (fun _ _ _ h => h) (by kernel_rfl) ?_ (by assumption) ?_
          rotate_left
          · (intro w' hSw; (try dsimp only at hSw); go_simp; first | done | with_reducible rfl)
          simp only [Act.put, List.setIfInBounds_toArray, List.set_cons_zero, List.set_cons_succ]
          refine rg_take (v := ?_) 1 rfl (by kernel_rfl) (by kernel_rfl) (by kernel_rfl) (fun _ _ _ h => h) (by kernel_rfl) ?_ (by assumption) ?_
          rotate_left
          · (intro w' hSw; (try dsimp only at hSw); go_simp; first | done | with_reducible rfl)
          simp only [Act.put, List.setIfInBounds_toArray, List.set_cons_zero, List.set_cons_succ]
          refine rg_take (v := ?_) 2 rfl (by kernel_rfl) (by kernel_rfl) (by kernel_rfl) (fun _ _ _ h => h) (by kernel_rfl) ?_ (by assumption) ?_
          rotate_left
          · (intro w' hSw; (try dsimp only at hSw); go_simp; first | done | with_reducible rfl)
          simp only [Act.put, List.setIfInBounds_toArray, List.set_cons_zero, List.set_cons_succ]
          refine rg_take (v := ?_) 3 rfl (by kernel_rfl) (by kernel_rfl) (by kernel_rfl) (fun _ _ _ h => h) (by kernel_rfl) ?_ (by assumption) ?_
          rotate_left
          · (intro w' hSw; (try dsimp only at hSw); go_simp; first | done | with_reducible rfl)
          simp only [Act.put, List.setIfInBounds_toArray, List.set_cons_zero, List.set_cons_succ]
          refine rg_take (v := ?_) 4 rfl (by kernel_rfl) (by kernel_rfl) (by kernel_rfl) (fun _ _ _ h => h) (by kernel_rfl) ?_ (by assumption) ?_
          rotate_left
          · (intro w' hSw; (try dsimp only at hSw); go_simp; first | done | with_reducible rfl)
          simp only [Act.put, List.setIfInBounds_toArray, List.set_cons_zero, List.set_cons_succ]
          refine rg_take (v := ?_) 5 rfl (by kernel_rfl) (by kernel_rfl) (by kernel_rfl) (fun _ _ _ h => h) (by kernel_rfl) ?_ (by assumption) ?_
          rotate_left
          · (intro w' hSw; (try dsimp only at hSw); go_simp; first | done | with_reducible rfl)
          simp only [Act.put, List.setIfInBounds_toArray, List.set_cons_zero, List.set_cons_succ]
          refine rg_take (v := ?_) 6 rfl (by kernel_rfl) (by kernel_rfl) (by kernel_rfl) (fun _ _ _ h => h) (by kernel_rfl) ?_ (by assumption) ?_
          rotate_left
          · (intro w' hSw; (try dsimp only at hSw); go_simp; first | done | with_reducible rfl)
          simp only [Act.put, List.setIfInBounds_toArray, List.set_cons_zero, List.set_cons_succ]
          refine rg_take (v := ?_) 7 rfl (by kernel_rfl) (by kernel_rfl) (by kernel_rfl) (fun _ _ _ h => h) (by kernel_rfl) ?_ (by assumption) ?_
          rotate_left
          · (intro w' hSw; (try dsimp only at hSw); go_simp; first | done | with_reducible rfl)
          simp only [Act.put, List.setIfInBounds_toArray, List.set_cons_zero, List.set_cons_succ]
          refine rg_run 8 rfl (by kernel_rfl) (by kernel_rfl) (fun K hK => ?_)
          go_simp
          refine (HLS1.out _ (by exact HL5.out.drew) (by exact HST.out.drew)).mono ?_
          rintro e w8 ⟨rfl, hb2⟩
          have hbs : Below wr.heap.size wr w8 := below_chain (by exact (Below.refl _ _).drew) hb2
          replace k1 := cell_later hbs k1
          replace l0 := cell_later hbs l0
          have HB8 : Hid (Below p w6 w8) := Lib.hid (hb.out.trans (hbs.mono (by have := hb.out.size; rw [HP.out] at this; exact this)))
          have HD8 : Hid (Dice w8 p A n c 0 h) := Lib.hid (hdi.out.below hbs)
          have HFF : Hid (likB l m.st = fnd false L m.st (i + 1)) := Lib.hid (by rw [HFQ.out, ← hf.out]; rfl)
          clear hb2 hbs HLS1 HL5 HST
          generalize likB l m.st = f2 at *
          go_wp2
          clear hHeld
          refine hK.out _ _ ⟨k1, l0⟩ (fun hHeld => ?_)
          clear hK K
          try simp only [Act.put, List.setIfInBounds_toArray, List.set_cons_zero, List.set_cons_succ]
          refine rg_take (v := ?_) 9 rfl (by kernel_rfl) (by kernel_rfl) (by kernel_rfl) (fun _ _ _ h => h) (by kernel_rfl) ?_ (by assumption) ?_
          rotate_left
          · (intro w' hSw; (try dsimp only at hSw); go_simp; first | done | with_reducible rfl)
          simp only [Act.put, List.setIfInBounds_toArray, List.set_cons_zero, List.set_cons_succ]
          refine rg_take (v := ?_) 10 rfl (by kernel_rfl) (by kernel_rfl) (by kernel_rfl) (fun _ _ _ h => h) (by kernel_rfl) ?_ (by assumption) ?_
          rotate_left
          · (intro w' hSw; (try dsimp only at hSw); go_simp; first | done | with_reducible rfl)
          simp only [Act.put, List.setIfInBounds_toArray, List.set_cons_zero, List.set_cons_succ]
          refine wpAnyH_done (by kernel_rfl) ?_ _
          clear hHeld
          go_wp2_with (fail)
          go_roundw
          case rel => exact ⟨i + 1, f2, by omega, by go_num, rfl, HFF, HB8, HD8⟩
          case measure => simp [intOf]; omega
        · go_wp2_with (fail)
          refine wp_region_held_drew (S := (fun w' => w'.cell? ⟨b0, 1, none⟩ = some (.slice ax m.st.length cs) ∧ w'.cell? ⟨lb, lo + i, none⟩ = some (.slice la l.length lc))) (by kernel_rfl) ?_ (fun hHeld => ?_)
          · exact ⟨k1, l0⟩
          refine rg_take (v := ?_) 0 rfl (by kernel_rfl) (by kernel_rfl) (by kernel_rfl) (fun _ _ _ h => h) (by kernel_rfl) ?_ (by assumption) ?_
          rotate_left
          · (intro w' hSw; (try dsimp only at hSw); go_simp; first | done | with_reducible rfl)
          simp only [Act.put, List.setIfInBounds_toArray, List.set_cons_zero, List.set_cons_succ]
          refine rg_take (v := ?_) 1 rfl (by kernel_rfl) (by kernel_rfl) (by kernel_rfl) (fun _ _ _ h => h) (by kernel_rfl) ?_ (by assumption) ?_
          rotate_left
          · (intro w' hSw; (try dsimp only at hSw); go_simp; first | done | with_reducible rfl)
          simp only [Act.put, List.setIfInBounds_toArray, List.set_cons_zero, List.set_cons_succ]
          refine rg_skip 2 rfl (by kernel_rfl) (by kernel_rfl) (by kernel_rfl) (fun _ _ _ h => h) (by kernel_rfl) (by assumption) ?_
          simp only [Act.put, List.setIfInBounds_toArray, List.set_cons_zero, List.set_cons_succ]
          refine rg_skip 3 rfl (by kernel_rfl) (by kernel_rfl) (by kernel_rfl) (fun _ _ _ h => h) (by kernel_rfl) (by assumption) ?_
          simp only [Act.put, List.setIfInBounds_toArray, List.set_cons_zero, List.set_cons_succ]
          refine rg_skip 4 rfl (by kernel_rfl) (by kernel_rfl) (by kernel_rfl) (fun _ _ _ h => h) (by kernel_rfl) (by assumption) ?_
          simp only [Act.put, List.setIfInBounds_toArray, List.set_cons_zero, List.set_cons_succ]
          refine rg_skip 5 rfl (by kernel_rfl) (by kernel_rfl) (by kernel_rfl) (fun _ _ _ h => h) (by kernel_rfl) (by assumption) ?_
          simp only [Act.put, List.setIfInBounds_toArray, List.set_cons_zero, List.set_cons_succ]
          refine rg_skip 6 rfl (by kernel_rfl) (by kernel_rfl) (by kernel_rfl) (fun _ _ _ h => h) (by kernel_rfl) (by assumption) ?_
          simp only [Act.put, List.setIfInBounds_toArray, List.set_cons_zero, List.set_cons_succ]
          refine rg_skip 7 rfl (by kernel_rfl) (by kernel_rfl) (by kernel_rfl) (fun _ _ _ h => h) (by kernel_rfl) (by assumption) ?_
          simp only [Act.put, List.setIfInBounds_toArray, List.set_cons_zero, List.set_cons_succ]
          refine rg_skip 8 rfl (by kernel_rfl) (by kernel_rfl) (by kernel_rfl) (fun _ _ _ h => h) (by kernel_rfl) (by assumption) ?_
          simp only [Act.put, List.setIfInBounds_toArray, List.set_cons_zero, List.set_cons_succ]
          refine rg_take (v := ?_) 9 rfl (by kernel_rfl) (by kernel_rfl) (by kernel_rfl) (fun _ _ _ h => h) (by kernel_rfl) ?_ (by assumption) ?_
          rotate_left
          · (intro w' hSw; (try dsimp only at hSw); go_simp; first | done | with_reducible rfl)
          simp only [Act.put, List.setIfInBounds_toArray, List.set_cons_zero, List.set_cons_succ]
          refine rg_take (v := ?_) 10 rfl (by kernel_rfl) (by kernel_rfl) (by kernel_rfl) (fun _ _ _ h => h) (by kernel_rfl) ?_ (by assumption) ?_
          rotate_left
          · (intro w' hSw; (try dsimp only at hSw); go_simp; first | done | with_reducible rfl)
          simp only [Act.put, List.setIfInBounds_toArray, List.set_cons_zero, List.set_cons_succ]
          refine wpAnyH_done (by kernel_rfl) ?_ _
          clear hHeld
          have HB8 : Hid (Below p w6 wr.drew) := Lib.hid hb.out.drew
          have HD8 : Hid (Dice wr.drew p A n c 0 h) := Lib.hid hdi.out.drew
          have HFF : Hid (true = fnd false L m.st (i + 1)) := Lib.hid (by rw [HFQ.out, ← hf.out]; rfl)
          go_wp2_with (fail)
          go_roundw
          case rel => exact ⟨i + 1, true, by omega, by go_num, rfl, HFF, HB8, HD8⟩
          case measure => simp [intOf]; omega
      · obtain rfl : i = L.length := by omega
        have hft : f = true := hf.out.trans (by obtain ⟨j, hj⟩ := HY4.out; exact fnd_all hj (List.getElem?_eq_some_iff.1 hj).1)
        subst hft
        clear k0 k1 k2 hb6
        go_wp2_with (fail)
        refine (c_below p A n c 0 h (L.length : Int) wr hdi.out hbig (by omega) (by omega) (HBP.out wr hb.out)).mono ?_
        rintro e w8 ⟨r, rfl, hr0, hr1, hg⟩
        obtain ⟨k, rfl⟩ : ∃ k' : Nat, r = k' := ⟨r.toNat, by omega⟩
        have HB8 : Hid (Below p w6 w8) := Lib.hid (hb.out.grown hg (by have := hb.out.size; rw [HP.out] at this; exact this) (by intro q hq; simp at hq; omega))
        have hb6 : Below w6.heap.size w6 w8 := by rw [HP.out]; exact HB8.out
        have k0 := cell_later hb6 HK.out.1
        have k1 := cell_later hb6 HK.out.2.1
        have k2 := cell_later hb6 HK.out.2.2
        obtain ⟨l, hl⟩ : ∃ r, L[k]? = some r := ⟨_, List.getElem?_eq_getElem (by omega)⟩
        have hmem := List.mem_of_getElem? hl
        have HM8 := Lib.hid (HM.out.below hb6)
        have HL8 := Lib.hid (HL.out.below hb6)
        have HBw8 := Lib.hid (below_chain HB.out hb6)
        obtain ⟨lb, lo, la, lc, rfl, _, l0, hl5⟩ := HL8.out.at hl
        have hll := HRE.out l hmem
        have hns := HNS.out l hll la lc
        rw [(HY5.out l hmem).1] at hns
        have HNS1 := Lib.hid hns
        have HIN := Lib.hid (HY5.out l hmem).2
        have HNE1 := Lib.hid (HNE.out l)
        have hnl := HNL.out l
        have HL5 := Lib.hid hl5
        have hi0 : (0 : Int) ≤ (k : Int) := by omega
        clear hl hl5 hb6 hg hb hdi hf HBP HDI HB7 hns hmem HNS HNL HNE HB8
        go_wp2_with (fail)
        refine wp_region_held_drew (S := (fun w' => w'.cell? ⟨b0, 0, none⟩ = some (.slice az m.sz.length cz) ∧ w'.cell? ⟨b0, 1, none⟩ = some (.slice ax m.st.length cs) ∧ w'.cell? ⟨b0, 2, none⟩ = some (.slice ar m.rs.length cr) ∧ w'.cell? ⟨lb, lo + k, none⟩ = some (.slice la l.length lc))) (by kernel_rfl) ?_ (fun hHeld => ?_)
        · exact ⟨k0, k1, k2, l0⟩
        refine rg_take (v := ?_) 0 rfl (by kernel_rfl) (by kernel_rfl) (by kernel_rfl) (fun _ _ _ h => h) (by kernel_rfl) ?_ (by assumption) ?_
        rotate_left
        · (intro w' hSw; (try dsimp only at hSw); go_simp; first | done | with_reducible rfl)
        simp only [Act.put, List.setIfInBounds_toArray, List.set_cons_zero, List.set_cons_succ]
        refine rg_take (v := ?_) 1 rfl (by kernel_rfl) (by kernel_rfl) (by kernel_rfl) (fun _ _ _ h => h) (by kernel_rfl) ?_ (by assumption) ?_
        rotate_left
        · (intro w' hSw; (try dsimp only at hSw); go_simp; first | done | with_reducible rfl)
        simp only [Act.put, List.setIfInBounds_toArray, List.set_cons_zero, List.set_cons_succ]
        refine rg_take (v := ?_) 2 rfl (by kernel_rfl) (by kernel_rfl) (by kernel_rfl) (fun _ _ _ h => h) (by kernel_rfl) ?_ (by assumption) ?_
        rotate_left
        · (intro w' hSw; (try dsimp only at hSw); go_simp; first | done | with_reducible rfl)
        simp only [Act.put, List.setIfInBounds_toArray, List.set_cons_zero, List.set_cons_succ]
        refine rg_take (v := ?_) 3 rfl (by kernel_rfl) (by kernel_rfl) (by kernel_rfl) (fun _ _ _ h => h) (by kernel_rfl) ?_ (by assumption) ?_
        rotate_left
        · (intro w' hSw; (try dsimp only at hSw); go_simp; first | done | with_reducible rfl)
        simp only [Act.put, List.setIfInBounds_toArray, List.set_cons_zero, List.set_cons_succ]
        refine rg_take (v := ?_) 4 rfl (by kernel_rfl) (by kernel_rfl) (by kernel_rfl) (fun _ _ _ h => h) (by kernel_rfl) ?_ (by assumption) ?_
        rotate_left
        · (intro w' hSw; (try dsimp only at hSw); go_simp; first | done | with_reducible rfl)
        simp only [Act.put, List.setIfInBounds_toArray, List.set_cons_zero, List.set_cons_succ]
        refine rg_run 5 rfl (by kernel_rfl) (by kernel_rfl) (fun K hK => ?_)
        go_simp
        refine (HNS1.out _ (by exact HM8.out.below ((Below.refl _ _).drew)) (by exact HL5.out.drew)).mono ?_
        rintro e w9 ⟨A16, c16, rfl, hos, hb2⟩
        have hbs : Below w8.heap.size w8 w9 := below_chain (by exact (Below.refl _ _).drew) hb2
        replace k0 := cell_later hbs k0
        replace k1 := cell_later hbs k1
        replace k2 := cell_later hbs k2
        replace l0 := cell_later hbs l0
        have HN9 := Lib.hid (hos.rd rfl)
        have HL9 := Lib.hid (HL8.out.below hbs)
        have HB9 := Lib.hid (below_chain HBw8.out hbs)
        clear hb2 hbs hos HNS1 HL5 HM8 HL8 HBw8
        generalize nwL m l = N at *
        go_wp2
        clear hHeld
        refine hK.out _ _ ⟨k0, k1, k2, l0⟩ (fun hHeld => ?_)
        clear hK K
        try simp only [Act.put, List.setIfInBounds_toArray, List.set_cons_zero, List.set_cons_succ]
        refine rg_take (v := ?_) 6 rfl (by kernel_rfl) (by kernel_rfl) (by kernel_rfl) (fun _ _ _ h => h) (by kernel_rfl) ?_ (by assumption) ?_
        rotate_left
        · (intro w' hSw; (try dsimp only at hSw); go_simp; first | done | with_reducible rfl)
        simp only [Act.put, List.setIfInBounds_toArray, List.set_cons_zero, List.set_cons_succ]
        refine rg_take (v := ?_) 7 rfl (by kernel_rfl) (by kernel_rfl) (by kernel_rfl) (fun _ _ _ h => h) (by kernel_rfl) ?_ (by assumption) ?_
        rotate_left
        · (intro w' hSw; (try dsimp only at hSw); go_simp; first | done | with_reducible rfl)
        simp only [Act.put, List.setIfInBounds_toArray, List.set_cons_zero, List.set_cons_succ]
        refine rg_take (v := ?_) 8 rfl (by kernel_rfl) (by kernel_rfl) (by kernel_rfl) (fun _ _ _ h => h) (by kernel_rfl) ?_ (by assumption) ?_
        rotate_left
        · (intro w' hSw; (try dsimp only at hSw); go_simp; first | done | with_reducible rfl)
        simp only [Act.put, List.setIfInBounds_toArray, List.set_cons_zero, List.set_cons_succ]
        refine rg_take (v := ?_) 9 rfl (by kernel_rfl) (by kernel_rfl) (by kernel_rfl) (fun _ _ _ h => h) (by kernel_rfl) ?_ (by assumption) ?_
        rotate_left
        · (intro w' hSw; (try dsimp only at hSw); go_simp; first | done | with_reducible rfl)
        simp only [Act.put, List.setIfInBounds_toArray, List.set_cons_zero, List.set_cons_succ]
        refine rg_take (v := ?_) 10 rfl (by kernel_rfl) (by kernel_rfl) (by kernel_rfl) (fun _ _ _ h => h) (by kernel_rfl) ?_ (by assumption) ?_
        rotate_left
        · (intro w' hSw; (try dsimp only at hSw); go_simp; first | done | with_reducible rfl)
        simp only [Act.put, List.setIfInBounds_toArray, List.set_cons_zero, List.set_cons_succ]
        refine wpAnyH_done (by kernel_rfl) ?_ _
        clear hHeld
        clear k0 k1 k2 l0
        go_wp2_with (fail)
        go_loopw [18] (fun u wr2 => ∃ q : Nat, q ≤ N.length ∧ u = .int .i64 q ∧ Hid (Below w9.heap.size w9 wr2)) (fun u _ => N.length - (intOf u).toNat)
        case atStart => exact ⟨0, Nat.zero_le _, rfl, Lib.hid (Below.refl _ _)⟩
        case round =>
          obtain ⟨q, hq, rfl, hb4⟩ := hrel
          by_cases hq2 : q < N.length
          · obtain ⟨wk, rfl⟩ : ∃ wk, wk = wr := ⟨_, rfl⟩
            obtain ⟨x, hx⟩ : ∃ r, N[q]? = some r := ⟨_, List.getElem?_eq_getElem hq2⟩
            have hxm := List.mem_of_getElem? hx
            have hxl := HNE1.out x hxm
            obtain ⟨j, hj⟩ := HIN.out x hxm
            have HX := Lib.hid hx
            have HFA := Lib.hid (fnd_all (fb := false) hj (List.getElem?_eq_some_iff.1 hj).1)
            have hq0 : (0 : Int) ≤ (q : Int) := by omega
            have hq1 : (q : Int) < (N.length : Int) := by omega
            clear hx hxm hj
            go_wp2_with (fail)
            go_loopw [19, 20] (fun v u wr3 => ∃ (i : Nat) (f : Bool), i ≤ L.length ∧ u = .int .i64 i ∧ v = .bool f ∧ Hid (f = fnd false L x i) ∧ Hid (Below w9.heap.size w9 wr3)) (fun _ u _ => L.length - (intOf u).toNat)
            case atStart => exact ⟨0, false, Nat.zero_le _, rfl, rfl, Lib.hid (fnd_zero _ _ _).symm, hb4⟩
            case round =>
              obtain ⟨i, f, hi, rfl, rfl, hf, hb5⟩ := hrel
              by_cases hlt2 : i < L.length
              · obtain ⟨l2, hl⟩ : ∃ r, L[i]? = some r := ⟨_, List.getElem?_eq_getElem hlt2⟩
                have HFQ := Lib.hid (fnd_succ (fb := false) (x := x) hl)
                obtain ⟨lb2, lo2, la2, lc2, hae, _, l0, hl5⟩ := (HL9.out.below hb5.out).at hl
                simp only [Option.some.injEq, Addr.mk.injEq, and_true] at hae
                obtain ⟨rfl, rfl⟩ := hae
                obtain ⟨xb, xo, xa, xc, rfl, _, x0, hx5⟩ := (HN9.out.below hb5.out).at HX.out
                have hll2 := HRE.out l2 (List.mem_of_getElem? hl)
                have hi2 : (0 : Int) ≤ (i : Int) := by omega
                have hi3 : (i : Int) < (L.length : Int) := by omega
                have HL5 := Lib.hid hl5
                have HX5 := Lib.hid hx5
                have HLX1 := Lib.hid (HLX.out l2 x hll2 hxl la2 lc2 xa xc)
                clear hl hl5 hx5
                rcases f with _ | _
                · go_wp2_with (fail)
                  refine wp_region_held_drew (S := (fun w' => w'.cell? ⟨lb, lo + i, none⟩ = some (.slice la2 l2.length lc2) ∧ w'.cell? ⟨xb, xo + q, none⟩ = some (.slice xa x.length xc))) (by kernel_rfl) ?_ (fun hHeld => ?_)
                  · exact ⟨l0, x0⟩
                  refine rg_take (v := ?_) 0 rfl (by kernel_rfl) (by kernel_rfl) (by kernel_rfl) (fun _ _ _ h => h) (by kernel_rfl) ?_ (by assumption) ?_
                  rotate_left
                  · (intro w' hSw; (try dsimp only at hSw); go_simp; first | done | with_reducible rfl)
                  simp only [Act.put, List.setIfInBounds_toArray, List.set_cons_zero, List.set_cons_succ]
                  refine rg_take (v := ?_) 1 rfl (by kernel_rfl) (by kernel_rfl) (by kernel_rfl) (fun _ _ _ h => h) (by kernel_rfl) ?_ (by assumption) ?_
                  rotate_left
                  · (intro w' hSw; (try dsimp only at hSw); go_simp; first | done | with_reducible rfl)
                  simp only [Act.put, List.setIfInBounds_toArray, List.set_cons_zero, List.set_cons_succ]
                  refine rg_take (v := ?_) 2 rfl (by kernel_rfl) (by kernel_rfl) (by kernel_rfl) (fun _ _ _ h => h) (by kernel_rfl) ?_ (by assumption) ?_
                  rotate_left
                  · (intro w' hSw; (try dsimp only at hSw); go_simp; first | done | with_reducible rfl)
                  simp only [Act.put, List.setIfInBounds_toArray, List.set_cons_zero, List.set_cons_succ]
                  refine rg_take (v := ?_) 3 rfl (by kernel_rfl) (by kernel_rfl) (by kernel_rfl) (fun _ _ _ h => h) (by kernel_rfl) ?_ (by assumption) ?_
                  rotate_left
                  · (intro w' hSw; (try dsimp only at hSw); go_simp; first | done | with_reducible rfl)
                  simp only [Act.put, List.setIfInBounds_toArray, List.set_cons_zero, List.set_cons_succ]
                  refine rg_take (v := ?_) 4 rfl (by kernel_rfl) (by kernel_rfl) (by kernel_rfl) (fun _ _ _ h => h) (by kernel_rfl) ?_ (by assumption) ?_
                  rotate_left
                  · (intro w' hSw; (try dsimp only at hSw); go_simp; first | done | with_reducible rfl)
                  simp only [Act.put, List.setIfInBounds_toArray, List.set_cons_zero, List.set_cons_succ]
                  refine rg_take (v := ?_) 5 rfl (by kernel_rfl) (by kernel_rfl) (by kernel_rfl) (fun _ _ _ h => h) (by kernel_rfl) ?_ (by assumption) ?_
                  rotate_left
                  · (intro w' hSw; (try dsimp only at hSw); go_simp; first | done | with_reducible rfl)
                  simp only [Act.put, List.setIfInBounds_toArray, List.set_cons_zero, List.set_cons_succ]
                  refine rg_take (v := ?_) 6 rfl (by kernel_rfl) (by kernel_rfl) (by kernel_rfl) (fun _ _ _ h => h) (by kernel_rfl) ?_ (by assumption) ?_
                  rotate_left
                  · (intro w' hSw; (try dsimp only at hSw); go_simp; first | done | with_reducible rfl)
                  simp only [Act.put, List.setIfInBounds_toArray, List.set_cons_zero, List.set_cons_succ]
                  refine rg_take (v := ?_) 7 rfl (by kernel_rfl) (by kernel_rfl) (by kernel_rfl) (fun _ _ _ h => h) (by kernel_rfl) ?_ (by assumption) ?_
                  rotate_left
                  · (intro w' hSw; (try dsimp only at hSw); go_simp; first | done | with_reducible rfl)
                  simp only [Act.put, List.setIfInBounds_toArray, List.set_cons_zero, List.set_cons_succ]
                  refine rg_take (v := ?_) 8 rfl (by kernel_rfl) (by kernel_rfl) (by kernel_rfl) (fun _ _ _ h => h) (by kernel_rfl) ?_ (by assumption) ?_
                  rotate_left
                  · (intro w' hSw; (try dsimp only at hSw); go_simp; first | done | with_reducible rfl)
                  simp only [Act.put, List.setIfInBounds_toArray, List.set_cons_zero, List.set_cons_succ]
                  refine rg_take (v := ?_) 9 rfl (by kernel_rfl) (by kernel_rfl) (by kernel_rfl) (fun _ _ _ h => h) (by kernel_rfl) ?_ (by assumption) ?_
                  rotate_left
                  · (intro w' hSw; (try dsimp only at hSw); go_simp; first | done | with_reducible rfl)
                  simp only [Act.put, List.setIfInBounds_toArray, List.set_cons_zero, List.set_cons_succ]
                  refine rg_run 10 rfl (by kernel_rfl) (by kernel_rfl) (fun K hK => ?_)
                  go_simp
                  refine (HLX1.out _ (by exact HL5.out.drew) (by exact HX5.out.drew)).mono ?_
                  rintro e w10 ⟨rfl, hb6⟩
                  have hbs : Below wr.heap.size wr w10 := below_chain (by exact (Below.refl _ _).drew) hb6
                  replace l0 := cell_later hbs l0
                  replace x0 := cell_later hbs x0
                  have HB10 := Lib.hid (below_chain hb5.out hbs)
                  have HFF : Hid (likB l2 x = fnd false L x (i + 1)) := Lib.hid (by rw [HFQ.out, ← hf.out]; rfl)
                  clear hb6 hbs HLX1 HL5 HX5
                  generalize likB l2 x = f2 at *
                  go_wp2
                  clear hHeld
                  refine hK.out _ _ ⟨l0, x0⟩ (fun hHeld => ?_)
                  clear hK K
                  try simp only [Act.put, List.setIfInBounds_toArray, List.set_cons_zero, List.set_cons_succ]
                  refine rg_take (v := ?_) 11 rfl (by kernel_rfl) (by kernel_rfl) (by kernel_rfl) (fun _ _ _ h => h) (by kernel_rfl) ?_ (by assumption) ?_
                  rotate_left
                  · (intro w' hSw; (try dsimp only at hSw); go_simp; first | done | with_reducible rfl)
                  simp only [Act.put, List.setIfInBounds_toArray, List.set_cons_zero, List.set_cons_succ]
                  refine rg_take (v := ?_) 12 rfl (by kernel_rfl) (by kernel_rfl) (by kernel_rfl) (fun _ _ _ h => h) (by kernel_rfl) ?_ (by assumption) ?_
                  rotate_left
                  · (intro w' hSw; (try dsimp only at hSw); go_simp; first | done | with_reducible rfl)
                  simp only [Act.put, List.setIfInBounds_toArray, List.set_cons_zero, List.set_cons_succ]
                  refine wpAnyH_done (by kernel_rfl) ?_ _
                  clear hHeld
                  go_wp2_with (fail)
                  go_roundw
                  case rel => exact ⟨i + 1, f2, by omega, by go_num, rfl, HFF, HB10⟩
                  case measure => simp [intOf]; omega
                · go_wp2_with (fail)
                  refine wp_region_held_drew (S := (fun w' => w'.cell? ⟨lb, lo + i, none⟩ = some (.slice la2 l2.length lc2) ∧ w'.cell? ⟨xb, xo + q, none⟩ = some (.slice xa x.length xc))) (by kernel_rfl) ?_ (fun hHeld => ?_)
                  · exact ⟨l0, x0⟩
                  refine rg_take (v := ?_) 0 rfl (by kernel_rfl) (by kernel_rfl) (by kernel_rfl) (fun _ _ _ h => h) (by kernel_rfl) ?_ (by assumption) ?_
                  rotate_left
                  · (intro w' hSw; (try dsimp only at hSw); go_simp; first | done | with_reducible rfl)
                  simp only [Act.put, List.setIfInBounds_toArray, List.set_cons_zero, List.set_cons_succ]
                  refine rg_take (v := ?_) 1 rfl (by kernel_rfl) (by kernel_rfl) (by kernel_rfl) (fun _ _ _ h => h) (by kernel_rfl) ?_ (by assumption) ?_
                  rotate_left
                  · (intro w' hSw; (try dsimp only at hSw); go_simp; first | done | with_reducible rfl)
                  simp only [Act.put, List.setIfInBounds_toArray, List.set_cons_zero, List.set_cons_succ]
                  refine rg_skip 2 rfl (by kernel_rfl) (by kernel_rfl) (by kernel_rfl) (fun _ _ _ h => h) (by kernel_rfl) (by assumption) ?_
                  simp only [Act.put, List.setIfInBounds_toArray, List.set_cons_zero, List.set_cons_succ]
                  refine rg_skip 3 rfl (by kernel_rfl) (by kernel_rfl) (by kernel_rfl) (fun _ _ _ h => h) (by kernel_rfl) (by assumption) ?_
                  simp only [Act.put, List.setIfInBounds_toArray, List.set_cons_zero, List.set_cons_succ]
                  refine rg_skip 4 rfl (by kernel_rfl) (by kernel_rfl) (by kernel_rfl) (fun _ _ _ h => h) (by kernel_rfl) (by assumption) ?_
                  simp only [Act.put, List.setIfInBounds_toArray, List.set_cons_zero, List.set_cons_succ]
                  refine rg_skip 5 rfl (by kernel_rfl) (by kernel_rfl) (by kernel_rfl) (fun _ _ _ h => h) (by kernel_rfl) (by assumption) ?_
                  simp only [Act.put, List.setIfInBounds_toArray, List.set_cons_zero, List.set_cons_succ]
                  refine rg_skip 6 rfl (by kernel_rfl) (by kernel_rfl) (by kernel_rfl) (fun _ _ _ h => h) (by kernel_rfl) (by assumption) ?_
                  simp only [Act.put, List.setIfInBounds_toArray, List.set_cons_zero, List.set_cons_succ]
                  refine rg_skip 7 rfl (by kernel_rfl) (by kernel_rfl) (by kernel_rfl) (fun _ _ _ h => h) (by kernel_rfl) (by assumption) ?_
                  simp only [Act.put, List.setIfInBounds_toArray, List.set_cons_zero, List.set_cons_succ]
                  refine rg_skip 8 rfl (by kernel_rfl) (by kernel_rfl) (by kernel_rfl) (fun _ _ _ h => h) (by kernel_rfl) (by assumption) ?_
                  simp only [Act.put, List.setIfInBounds_toArray, List.set_cons_zero, List.set_cons_succ]
                  refine rg_skip 9 rfl (by kernel_rfl) (by kernel_rfl) (by kernel_rfl) (fun _ _ _ h => h) (by kernel_rfl) (by assumption) ?_
                  simp only [Act.put, List.setIfInBounds_toArray, List.set_cons_zero, List.set_cons_succ]
                  refine rg_skip 10 rfl (by kernel_rfl) (by kernel_rfl) (by kernel_rfl) (fun _ _ _ h => h) (by kernel_rfl) (by assumption) ?_
                  simp only [Act.put, List.setIfInBounds_toArray, List.set_cons_zero, List.set_cons_succ]
                  refine rg_take (v := ?_) 11 rfl (by kernel_rfl) (by kernel_rfl) (by kernel_rfl) (fun _ _ _ h => h) (by kernel_rfl) ?_ (by assumption) ?_
                  rotate_left
                  · (intro w' hSw; (try dsimp only at hSw); go_simp; first | done | with_reducible rfl)
                  simp only [Act.put, List.setIfInBounds_toArray, List.set_cons_zero, List.set_cons_succ]
                  refine rg_take (v := ?_) 12 rfl (by kernel_rfl) (by kernel_rfl) (by kernel_rfl) (fun _ _ _ h => h) (by kernel_rfl) ?_ (by assumption) ?_
                  rotate_left
                  · (intro w' hSw; (try dsimp only at hSw); go_simp; first | done | with_reducible rfl)
                  simp only [Act.put, List.setIfInBounds_toArray, List.set_cons_zero, List.set_cons_succ]
                  refine wpAnyH_done (by kernel_rfl) ?_ _
                  clear hHeld
                  have HB10 : Hid (Below w9.heap.size w9 wr.drew) := Lib.hid hb5.out.drew
                  have HFF : Hid (true = fnd false L x (i + 1)) := Lib.hid (by rw [HFQ.out, ← hf.out]; rfl)
                  go_wp2_with (fail)
                  go_roundw
                  case rel => exact ⟨i + 1, true, by omega, by go_num, rfl, HFF, HB10⟩
                  case measure => simp [intOf]; omega
              · obtain rfl : i = L.length := by omega
                have hft : f = true := hf.out.trans HFA.out
                subst hft
                go_wp2_with (fail)
                go_roundw
                case rel => exact ⟨q + 1, by omega, by go_num, hb5⟩
                case measure => simp [intOf]; omega
          · go_wp2_with (fail)
            go_ret
            exact ⟨rfl, below_chain HB9.out hb4.out⟩
  · have hc1 : (xmC m [] != 0) = true := by simpa using hc
    clear hc
    generalize xmC m [] = C at *
    go_wp2_with (fail)
    go_ret
    exact ⟨rfl, B⟩
end Go.Proofs.Ytaloheljfefdeaa
