/- Contracts and helpers (joined texts, part 10). The conditions stand at each theorem. -/
import Derived.Test.YtdjehopcpjkgjaaGreatH9
import Derived.Test.YtdjehopcpjkgjaaGreatH5
import Derived.Test.YtdjehopcpjkgjaaGreatH1
/- DeadStates (reference). Condition: the lengths are those that the laws let by. -/
namespace Go.Proofs.YtdjehopcpjkgjaaGreat
open Go.RowKit

theorem filt_yes {α : Type} {p : α → Bool} {L : List α} {k : Nat} {y : α} (h : L[k]? = some y) (hp : p y = true) : (L.take (k + 1)).filter p = (L.take k).filter p ++ [y] := by
  rw [take_at h, List.filter_append]; simp [hp]
theorem filt_no {α : Type} {p : α → Bool} {L : List α} {k : Nat} {y : α} (h : L[k]? = some y) (hp : p y = false) : (L.take (k + 1)).filter p = (L.take k).filter p := by
  rw [take_at h, List.filter_append]; simp [hp]
set_option maxHeartbeats 2000000 in
set_option maxRecDepth 100000 in
theorem c_sDeadStates (m : Mdl) (az ax ar : Option Addr) (cz cs cr : Nat) (w : World) (hok : MOk m) (h : Md w az ax ar m) :
    Calls Tryz.prog 18 #[mv m az ax ar cz cs cr] w (RetSQ (rdL m).length (rdL m) (xmC m []) w) := by
  have HX := Lib.hid (fun w' h => c_l21All m az ax ar cz cs cr none 0 [] w' hok (by simp) h (rd_none w'))
  have HM := Lib.hid h
  have HN := Lib.hid (show rsL m = ascL ((xmL m []).map Rc.v) from rfl)
  have HF := Lib.hid (rdL_filter m)
  have hle := rsL_len m
  have HKL := Lib.hid (fun (l : List Int) (hl : l ∈ rsL m) => (rsL_mem hl).2.2)
  have HBAD := Lib.hid (fun h => xm_bad (m := m) (ts := []) h)
  have HDD := Lib.hid (fun vs => show deadB m vs = decide ((enL vs m.rs).length = 0) from rfl)
  have HEN := Lib.hid (fun (l : List Int) (hl : l ∈ rsL m) A c w' h hv => c_l20Enabled m az ax ar cz cs cr A c l w' hok.1.2.2.1 (by have := (rsL_mem hl).2.2.2; omega) (gs_of (rsL_mem hl).1 (rsL_mem hl).2.1 hok) h hv)
  generalize hR : rsL m = K at *
  generalize hR2 : rdL m = R at *
  generalize xmL m [] = L at *
  generalize hC : xmC m [] = C at *
  generalize deadB m = dd at *
  generalize m.rs = rs at HDD HEN
  clear h hok hC hR hR2
  dsimp only [mv] at *
  generalize m.sz.length = sn at *
  generalize m.st.length = tn at *
  generalize m.rs.length = rn at *
  by_cases hc : C = 0
  · subst hc
    generalize hrr : K.length = Kn at *
    have HKN := Lib.hid hrr
    clear HBAD hrr
    go_enter Tryz.func18, Tryz.ntmps18
    go_wp2_with (fail)
    refine (HX.out _ (HM.out.alloc _)).mono ?_
    rintro e w1 ⟨p, rfl, hb, hgood, _⟩
    have k0 : w1.cell? ⟨w.heap.size, 0, none⟩ = some (.slice az sn cz) := cell_later hb (by go_simp)
    have k1 : w1.cell? ⟨w.heap.size, 1, none⟩ = some (.slice ax tn cs) := cell_later hb (by go_simp)
    have k2 : w1.cell? ⟨w.heap.size, 2, none⟩ = some (.slice ar rn cr) := cell_later hb (by go_simp)
    obtain ⟨S, rfl, hst, hS⟩ := hgood rfl
    have HB := Lib.hid (below_chain (by (repeat (first | exact Below.refl _ _ | assumption | refine below_alloc ?_ _ | refine below_drewN ?_ _ | refine below_set ?_ _ (by simp; try omega) | refine Below.drew ?_)) : Below w.heap.size w _) hb)
    obtain ⟨Ao, co, At, ct, Ak, ck, hSB⟩ := hst.forms
    have HKR := Lib.hid (hSB.k.rd rfl)
    obtain ⟨c0, c1, c2, c3⟩ := hSB.c
    rw [← HN.out] at HKR c2
    rw [HKN.out] at c2
    have hs1 := HB.out.size
    have hsS := World.block_lt_of_cell? _ _ c2
    have hsw := World.block_lt_of_cell? _ _ k2
    dsimp only at hsS hsw
    have hneS : S ≠ w1.heap.size := by omega
    have hnew : w.heap.size ≠ w1.heap.size := by omega
    clear hb hst hSB hgood hS c0 c1 c3
    go_wp2
    go_loopw [6, 7] (fun v i wr => ∃ k : Nat, k ≤ Kn ∧ i = .int .i64 k ∧ Hid (OwnS wr w1.heap.size wr.heap.size v ((K.take k).filter dd)) ∧ wr.cell? ⟨w.heap.size, 0, none⟩ = some (.slice az sn cz) ∧ wr.cell? ⟨w.heap.size, 1, none⟩ = some (.slice ax tn cs) ∧ wr.cell? ⟨w.heap.size, 2, none⟩ = some (.slice ar rn cr) ∧ wr.cell? ⟨S, 2, none⟩ = some (.slice Ak Kn ck) ∧ Hid (Below w1.heap.size w1 wr)) (fun _ i _ => Kn - (intOf i).toNat)
    case atStart => exact ⟨0, Nat.zero_le _, rfl, Lib.hid (ownS_made w1 (Nat.le_refl _)), by go_simp, by go_simp, by go_simp, by go_simp, Lib.hid (below_alloc (Below.refl _ _) _)⟩
    case round =>
      clear k0 k1 k2 c2
      obtain ⟨k, hk, rfl, ho, k0, k1, k2, c2, hb⟩ := hrel
      have HBE := Lib.hid hb.out
      clear hb
      by_cases hlt : k < Kn
      · obtain ⟨y, hz⟩ : ∃ z, K[k]? = some z := ⟨_, List.getElem?_eq_getElem (by have := HKN.out; omega)⟩
        have hmem := List.mem_of_getElem? hz
        obtain ⟨lb, lo, sa, sc, rfl, _, s0, hsv⟩ := (HKR.out.below HBE.out).at hz
        obtain ⟨hy1, hy2⟩ := HKL.out y hmem
        obtain ⟨sb, so, rfl, _, _⟩ := hsv.some_ (by intro e; have h5 := ints_length y; rw [e] at h5; simp at h5; omega)
        have HYES := Lib.hid (fun h => filt_yes (p := dd) hz h)
        have HNO := Lib.hid (fun h => filt_no (p := dd) hz h)
        have HDY := Lib.hid (HDD.out y)
        have HENy := Lib.hid (fun A c w' h hv => HEN.out y hmem A c w' h hv)
        have HCO := Lib.hid (fun w' hv => c_l01Own sb so sc y.length y w' rfl (by omega) hv)
        have HSV := Lib.hid hsv
        have HTL : Hid (((K.take k).filter dd).length ≤ 1048576) := Lib.hid (by
          have h1 := List.length_filter_le dd (K.take k)
          rw [List.length_take] at h1
          omega)
        have HOW := Lib.hid ho.out
        have HMW := Lib.hid ((HM.out.below HB.out).below HBE.out)
        generalize enL y rs = E at *
        generalize hyl : y.length = yn at *
        have HYL := Lib.hid hyl
        have hsb := HBE.out.size
        clear hz hsv ho hyl hmem HKL HKR HDD HEN HX
        have hk0 : (0 : Int) ≤ (k : Int) := by omega
        have hk2 : (k : Int) < (Kn : Int) := by omega
        by_cases he : E.length = 0
        · have hdd : dd y = true := by rw [HDY.out]; exact decide_eq_true he
          have HN2 := Lib.hid (HYES.out hdd)
          have HENz : Hid (∀ A c w' (h : Md w' az ax ar m) (hv : Rd w' A (ints y)), Calls Tryz.prog 25 #[.agg #[.slice az sn cz, .slice ax tn cs, .slice ar rn cr], .slice A yn c] w' fun e w2 => ∃ A1 c1, e = .returned (.slice A1 0 c1) ∧ Below w'.heap.size w' w2) := Lib.hid (fun A c w' h hv => (HENy.out A c w' h hv).mono (by
            rintro e w2 ⟨A1, c1, rfl, _, hb⟩
            exact ⟨A1, c1, by rw [he], hb⟩))
          clear HYES HNO HDY HENy hdd he
          go_wp2
          refine wp_region_held_drew (S := (fun w' => w'.cell? ⟨w.heap.size, 0, none⟩ = some (.slice az sn cz) ∧ w'.cell? ⟨w.heap.size, 1, none⟩ = some (.slice ax tn cs) ∧ w'.cell? ⟨w.heap.size, 2, none⟩ = some (.slice ar rn cr) ∧ w'.cell? ⟨S, 2, none⟩ = some (.slice (some ⟨lb, lo, none⟩) Kn ck) ∧ w'.cell? ⟨lb, lo + k, none⟩ = some (.slice (some ⟨sb, so, none⟩) yn sc))) (by kernel_rfl) ?_ (fun hHeld => ?_)
          · exact ⟨k0, k1, k2, c2, s0⟩
          refine rg_take (v := ?_) 0 rfl (by kernel_rfl) (by kernel_rfl) (by kernel_rfl) (fun _ _ _ h => h) (by kernel_rfl) ?_ (by assumption) ?_
          rotate_left
          · (intro w' hSw; (try dsimp only at hSw); go_simp; first | done | with_reducible rfl)
          simp only [Act.put, List.setIfInBounds_toArray, List.set_cons_zero, List.set_cons_succ]
          refine rg_take (v := ?_) 1 rfl (by kernel_rfl) (by kernel_rfl) (by kernel_rfl) (fun _ _ _ h => h) (by kernel_rfl) ?_ (by assumption) ?_
          rotate_left
          · (intro w' hSw; (try dsimp only at hSw); go_simp; first | done | with_reducible rfl)
          simp only [Act.put, List.setIfInBounds_toArray, List.set_cons_zero, List.set_cons_succ]
          refine rg_take (v := ?_) 2 rfl (by kernel_rfl) (by kernel_rfl) (by kernel_rfl) (fun _ _ _ h => h) (by kernel_rfl) ?_ (by assumption) ?_
          rotate_left
          · (intro w' hSw; (try dsimp only at hSw); go_simp; first | done | with_reducible rfl)
          simp only [Act.put, List.setIfInBounds_toArray, List.set_cons_zero, List.set_cons_succ]
          refine rg_take (v := ?_) 3 rfl (by kernel_rfl) (by kernel_rfl) (by kernel_rfl) (fun _ _ _ h => h) (by kernel_rfl) ?_ (by assumption) ?_
          rotate_left
          · (intro w' hSw; (try dsimp only at hSw); go_simp; first | done | with_reducible rfl)
          simp only [Act.put, List.setIfInBounds_toArray, List.set_cons_zero, List.set_cons_succ]
          refine rg_take (v := ?_) 4 rfl (by kernel_rfl) (by kernel_rfl) (by kernel_rfl) (fun _ _ _ h => h) (by kernel_rfl) ?_ (by assumption) ?_
          rotate_left
          · (intro w' hSw; (try dsimp only at hSw); go_simp; first | done | with_reducible rfl)
          simp only [Act.put, List.setIfInBounds_toArray, List.set_cons_zero, List.set_cons_succ]
          refine rg_take (v := ?_) 5 rfl (by kernel_rfl) (by kernel_rfl) (by kernel_rfl) (fun _ _ _ h => h) (by kernel_rfl) ?_ (by assumption) ?_
          rotate_left
          · (intro w' hSw; (try dsimp only at hSw); go_simp; first | done | with_reducible rfl)
          simp only [Act.put, List.setIfInBounds_toArray, List.set_cons_zero, List.set_cons_succ]
          refine rg_take (v := ?_) 6 rfl (by kernel_rfl) (by kernel_rfl) (by kernel_rfl) (fun _ _ _ h => h) (by kernel_rfl) ?_ (by assumption) ?_
          rotate_left
          · (intro w' hSw; (try dsimp only at hSw); go_simp; first | done | with_reducible rfl)
          simp only [Act.put, List.setIfInBounds_toArray, List.set_cons_zero, List.set_cons_succ]
          refine rg_take (v := ?_) 7 rfl (by kernel_rfl) (by kernel_rfl) (by kernel_rfl) (fun _ _ _ h => h) (by kernel_rfl) ?_ (by assumption) ?_
          rotate_left
          · (intro w' hSw; (try dsimp only at hSw); go_simp; first | done | with_reducible rfl)
          simp only [Act.put, List.setIfInBounds_toArray, List.set_cons_zero, List.set_cons_succ]
          refine rg_run 8 rfl (by kernel_rfl) (by kernel_rfl) (fun K hK => ?_)
          go_simp
          refine (HENz.out _ _ _ (HMW.out.below ((Below.refl _ _).drew)) (HSV.out.drew)).mono ?_
          rintro e w4 ⟨A1, c1, rfl, hb⟩
          have HST4 := Lib.hid (show Below wr.heap.size wr w4 from below_chain ((Below.refl _ _).drew) hb)
          replace k0 := cell_later hb (by exact k0)
          replace k1 := cell_later hb (by exact k1)
          replace k2 := cell_later hb (by exact k2)
          replace c2 := cell_later hb (by exact c2)
          replace s0 := cell_later hb (by exact s0)
          clear hb
          go_wp2
          clear hHeld
          refine hK.out _ _ ⟨k0, k1, k2, c2, s0⟩ (fun hHeld => ?_)
          clear hK K
          try simp only [Act.put, List.setIfInBounds_toArray, List.set_cons_zero, List.set_cons_succ]
          refine rg_take (v := ?_) 9 rfl (by kernel_rfl) (by kernel_rfl) (by kernel_rfl) (fun _ _ _ h => h) (by kernel_rfl) ?_ (by assumption) ?_
          rotate_left
          · (intro w' hSw; (try dsimp only at hSw); go_simp; first | done | with_reducible rfl)
          simp only [Act.put, List.setIfInBounds_toArray, List.set_cons_zero, List.set_cons_succ]
          refine rg_take (v := ?_) 10 rfl (by kernel_rfl) (by kernel_rfl) (by kernel_rfl) (fun _ _ _ h => h) (by kernel_rfl) ?_ (by assumption) ?_
          rotate_left
          · (intro w' hSw; (try dsimp only at hSw); go_simp; first | done | with_reducible rfl)
          simp only [Act.put, List.setIfInBounds_toArray, List.set_cons_zero, List.set_cons_succ]
          refine wpAnyH_done (by kernel_rfl) ?_ _
          clear hHeld
          have HSV4 := Lib.hid (HSV.out.below HST4.out)
          have hs4 := HST4.out.size
          go_wp2_with (fail)
          refine (HCO.out _ HSV4.out).mono ?_
          rintro e w5 ⟨g3, c3, rfl, hog, hb⟩
          have HST := Lib.hid (below_chain HST4.out hb)
          have HB5 := Lib.hid (below_chain HBE.out HST.out)
          have hs6 := hb.size
          have hg3 := hog.lt g3 rfl
          have HOG := Lib.hid hog
          replace k0 := cell_later hb (by exact k0)
          replace k1 := cell_later hb (by exact k1)
          replace k2 := cell_later hb (by exact k2)
          replace c2 := cell_later hb (by exact c2)
          clear hb hog
          go_wp2_with (first
            | (at_builtin
               refine wpList_push_row _ (by rfl) (.tmp 37) (.tmp 46) (by rfl) w1.heap.size wr.heap.size w5.heap.size _ ((K.take k).filter dd) ⟨y, some ⟨g3, 0, none⟩, c3⟩ w5.heap.size 1 (by rfl) ((HOW.out.below HST.out).below (below_alloc (Below.refl _ _) _)) (by rfl) (by dsimp only [IvD.v]; rw [HYL.out]; go_simp) (by dsimp only [IvD.v]; rw [HYL.out]; exact own_mono (own_below HOG.out (below_alloc (Below.refl _ _) _)) (by omega)) (fun q hq => by simp [IvD.v, Value.ownBlock] at hq; omega) (by omega) (by have := HTL.out; omega) (by simp; omega) ?_
               intro v1 w7 hown1 hgrow
               have HW1 := Lib.hid hown1
               have HG7 := Lib.hid hgrow
               have hs7 : w5.heap.size ≤ w7.heap.size := Nat.le_trans (by simp) hgrow.size
               clear hown1 hgrow)
            )
          go_roundw
          case rel =>
            have hge := fun q hq => (HOW.out.ge q hq).1
            have hal := below_alloc (Below.refl w5.heap.size w5) (Obj.cells #[Value.slice (some ⟨g3, 0, none⟩) yn c3] 22)
            have key : ∀ {b j : Nat} {u : Value}, b < w1.heap.size → w5.cell? ⟨b, j, none⟩ = some u → w7.cell? ⟨b, j, none⟩ = some u := fun {b j u} hb h => HG7.out.cell (cell_later hal h) (fun e => by have := hge _ e.symm; dsimp only at this; omega)
            exact ⟨k + 1, by omega, by go_num, Lib.hid (by rw [HN2.out]; exact HW1.out.mono (Nat.le_refl _) hs7), key hsw k0, key hsw k1, key hsw k2, key hsS c2, Lib.hid (below_of_grown (below_alloc HB5.out _) HG7.out hge)⟩
          case measure => simp [intOf]; omega
        · have hdd : dd y = false := by rw [HDY.out]; exact decide_eq_false he
          have HN2 := Lib.hid (HNO.out hdd)
          have HENz : Hid (∀ A c w' (h : Md w' az ax ar m) (hv : Rd w' A (ints y)), Calls Tryz.prog 25 #[.agg #[.slice az sn cz, .slice ax tn cs, .slice ar rn cr], .slice A yn c] w' fun e w2 => ∃ A1 c1, e = .returned (.slice A1 E.length c1) ∧ Below w'.heap.size w' w2) := Lib.hid (fun A c w' h hv => (HENy.out A c w' h hv).mono (by
            rintro e w2 ⟨A1, c1, rfl, _, hb⟩
            exact ⟨A1, c1, rfl, hb⟩))
          clear HYES HNO HDY HENy hdd
          generalize E.length = en at *
          have hz2 : ((en : Int) == 0) = false := by simpa using he
          go_wp2
          refine wp_region_held_drew (S := (fun w' => w'.cell? ⟨w.heap.size, 0, none⟩ = some (.slice az sn cz) ∧ w'.cell? ⟨w.heap.size, 1, none⟩ = some (.slice ax tn cs) ∧ w'.cell? ⟨w.heap.size, 2, none⟩ = some (.slice ar rn cr) ∧ w'.cell? ⟨S, 2, none⟩ = some (.slice (some ⟨lb, lo, none⟩) Kn ck) ∧ w'.cell? ⟨lb, lo + k, none⟩ = some (.slice (some ⟨sb, so, none⟩) yn sc))) (by kernel_rfl) ?_ (fun hHeld => ?_)
          · exact ⟨k0, k1, k2, c2, s0⟩
          refine rg_take (v := ?_) 0 rfl (by kernel_rfl) (by kernel_rfl) (by kernel_rfl) (fun _ _ _ h => h) (by kernel_rfl) ?_ (by assumption) ?_
          rotate_left
          · (intro w' hSw; (try dsimp only at hSw); go_simp; first | done | with_reducible rfl)
          simp only [Act.put, List.setIfInBounds_toArray, List.set_cons_zero, List.set_cons_succ]
          refine rg_take (v := ?_) 1 rfl (by kernel_rfl) (by kernel_rfl) (by kernel_rfl) (fun _ _ _ h => h) (by kernel_rfl) ?_ (by assumption) ?_
          rotate_left
          · (intro w' hSw; (try dsimp only at hSw); go_simp; first | done | with_reducible rfl)
          simp only [Act.put, List.setIfInBounds_toArray, List.set_cons_zero, List.set_cons_succ]
          refine rg_take (v := ?_) 2 rfl (by kernel_rfl) (by kernel_rfl) (by kernel_rfl) (fun _ _ _ h => h) (by kernel_rfl) ?_ (by assumption) ?_
          rotate_left
          · (intro w' hSw; (try dsimp only at hSw); go_simp; first | done | with_reducible rfl)
          simp only [Act.put, List.setIfInBounds_toArray, List.set_cons_zero, List.set_cons_succ]
          refine rg_take (v := ?_) 3 rfl (by kernel_rfl) (by kernel_rfl) (by kernel_rfl) (fun _ _ _ h => h) (by kernel_rfl) ?_ (by assumption) ?_
          rotate_left
          · (intro w' hSw; (try dsimp only at hSw); go_simp; first | done | with_reducible rfl)
          simp only [Act.put, List.setIfInBounds_toArray, List.set_cons_zero, List.set_cons_succ]
          refine rg_take (v := ?_) 4 rfl (by kernel_rfl) (by kernel_rfl) (by kernel_rfl) (fun _ _ _ h => h) (by kernel_rfl) ?_ (by assumption) ?_
          rotate_left
          · (intro w' hSw; (try dsimp only at hSw); go_simp; first | done | with_reducible rfl)
          simp only [Act.put, List.setIfInBounds_toArray, List.set_cons_zero, List.set_cons_succ]
          refine rg_take (v := ?_) 5 rfl (by kernel_rfl) (by kernel_rfl) (by kernel_rfl) (fun _ _ _ h => h) (by kernel_rfl) ?_ (by assumption) ?_
          rotate_left
          · (intro w' hSw; (try dsimp only at hSw); go_simp; first | done | with_reducible rfl)
          simp only [Act.put, List.setIfInBounds_toArray, List.set_cons_zero, List.set_cons_succ]
          refine rg_take (v := ?_) 6 rfl (by kernel_rfl) (by kernel_rfl) (by kernel_rfl) (fun _ _ _ h => h) (by kernel_rfl) ?_ (by assumption) ?_
          rotate_left
          · (intro w' hSw; (try dsimp only at hSw); go_simp; first | done | with_reducible rfl)
          simp only [Act.put, List.setIfInBounds_toArray, List.set_cons_zero, List.set_cons_succ]
          refine rg_take (v := ?_) 7 rfl (by kernel_rfl) (by kernel_rfl) (by kernel_rfl) (fun _ _ _ h => h) (by kernel_rfl) ?_ (by assumption) ?_
          rotate_left
          · (intro w' hSw; (try dsimp only at hSw); go_simp; first | done | with_reducible rfl)
          simp only [Act.put, List.setIfInBounds_toArray, List.set_cons_zero, List.set_cons_succ]
          refine rg_run 8 rfl (by kernel_rfl) (by kernel_rfl) (fun K hK => ?_)
          go_simp
          refine (HENz.out _ _ _ (HMW.out.below ((Below.refl _ _).drew)) (HSV.out.drew)).mono ?_
          rintro e w4 ⟨A1, c1, rfl, hb⟩
          have HST4 := Lib.hid (show Below wr.heap.size wr w4 from below_chain ((Below.refl _ _).drew) hb)
          replace k0 := cell_later hb (by exact k0)
          replace k1 := cell_later hb (by exact k1)
          replace k2 := cell_later hb (by exact k2)
          replace c2 := cell_later hb (by exact c2)
          replace s0 := cell_later hb (by exact s0)
          clear hb
          go_wp2
          clear hHeld
          refine hK.out _ _ ⟨k0, k1, k2, c2, s0⟩ (fun hHeld => ?_)
          clear hK K
          try simp only [Act.put, List.setIfInBounds_toArray, List.set_cons_zero, List.set_cons_succ]
          refine rg_take (v := ?_) 9 rfl (by kernel_rfl) (by kernel_rfl) (by kernel_rfl) (fun _ _ _ h => h) (by kernel_rfl) ?_ (by assumption) ?_
          rotate_left
          · (intro w' hSw; (try dsimp only at hSw); go_simp; first | done | with_reducible rfl)
          simp only [Act.put, List.setIfInBounds_toArray, List.set_cons_zero, List.set_cons_succ]
          refine rg_take (v := ?_) 10 rfl (by kernel_rfl) (by kernel_rfl) (by kernel_rfl) (fun _ _ _ h => h) (by kernel_rfl) ?_ (by assumption) ?_
          rotate_left
          · (intro w' hSw; (try dsimp only at hSw); go_simp; first | done | with_reducible rfl)
          simp only [Act.put, List.setIfInBounds_toArray, List.set_cons_zero, List.set_cons_succ]
          refine wpAnyH_done (by kernel_rfl) ?_ _
          clear hHeld
          have hs4 := HST4.out.size
          go_wp2
          go_roundw
          case rel => exact ⟨k + 1, by omega, by go_num, Lib.hid (by rw [HN2.out]; exact (HOW.out.below HST4.out).mono (Nat.le_refl _) hs4), k0, k1, k2, c2, Lib.hid (below_chain HBE.out HST4.out)⟩
          case measure => simp [intOf]; omega
      · have hkn : k = Kn := by omega
        subst hkn
        obtain ⟨A2, c2', hv2⟩ := ho.out.form
        have HO2 := ho
        rw [List.take_of_length_le (by rw [HKN.out]; exact Nat.le_refl _), ← HF.out] at HO2 hv2
        subst hv2
        have HB2 := Lib.hid (below_chain HB.out HBE.out)
        clear ho HF HN HKN HKL HEN HDD HKR
        generalize hrl : R.length = Rl at *
        have HRL := Lib.hid hrl
        clear hrl
        go_wp2
        go_ret2
        exact ⟨A2, c2', rfl, HO2.out.rd HRL.out.symm, HB2.out⟩
  · have e := HBAD.out hc
    subst e
    have e := HN.out
    rw [show ascL (([] : List Rc).map Rc.v) = [] from rfl] at e
    subst e
    have e := HF.out
    rw [List.filter_nil] at e
    subst e
    have hci : (C == 0) = false := by simpa using hc
    clear HBAD HN HF HDD HEN HKL
    have HC := Lib.hid hc
    go_enter Tryz.func18, Tryz.ntmps18
    go_wp2_with (fail)
    refine (HX.out _ (HM.out.alloc _)).mono ?_
    rintro e w1 ⟨p, rfl, hb, _, _⟩
    have HB := Lib.hid (below_chain (by (repeat (first | exact Below.refl _ _ | assumption | refine below_alloc ?_ _ | refine below_drewN ?_ _ | refine below_set ?_ _ (by simp; try omega) | refine Below.drew ?_)) : Below w.heap.size w _) hb)
    clear hb
    go_wp2
    go_ret2
    exact retSQ_nil rfl rfl HB.out
end Go.Proofs.YtdjehopcpjkgjaaGreat

/- Lists of lists of numbers: the laws' comparison, marks and look at marks. No condition but the sizes. -/
namespace Go.Proofs.YtdjehopcpjkgjaaGreat
open Go.RowKit

set_option maxRecDepth 100000 in
theorem c_eqInt64SS (A A' : Option Addr) (c c' n : Nat) (L : List (List Int)) (w : World) (hn : n = L.length) (hs : n ≤ 1048577) (hl : ∀ l ∈ L, l.length ≤ 1048576) (hr : RdS w A L) (hr' : RdS w A' L) :
    Calls Tryz.prog 11 #[.slice A n c, .slice A' n c'] w fun e w' => e = .returned (.bool true) ∧ Below w.heap.size w w' := by
  have HN := Lib.hid hn
  have HL := Lib.hid hl
  clear hn hl
  go_enter Tryz.func11, Tryz.ntmps11
  go_wp2
  go_loopw [5] (fun i wr => ∃ k : Nat, k ≤ n ∧ i = .int .i64 k ∧ Below w.heap.size w wr) (fun i _ => n - (intOf i).toNat)
  case atStart => exact ⟨0, Nat.zero_le _, rfl, Below.refl _ _⟩
  case round =>
    obtain ⟨k, hk, rfl, hb⟩ := hrel
    by_cases hlt : k < n
    · obtain ⟨l, hz⟩ : ∃ z, L[k]? = some z := ⟨_, List.getElem?_eq_getElem (by have := HN.out; omega)⟩
      have hll := HL.out l (List.mem_of_getElem? hz)
      obtain ⟨b, off, a, d, rfl, _, g0, hv⟩ := (hr.below hb).at hz
      obtain ⟨b', off', a', d', rfl, _, e0, hv'⟩ := (hr'.below hb).at hz
      have HB := Lib.hid hb
      have HC := Lib.hid (fun w' h h' => c_eqInt64S a a' d d' l.length l.length l w' rfl rfl (by omega) h h')
      have H1 := Lib.hid hv
      have H2 := Lib.hid hv'
      have hk0 : (0 : Int) ≤ (k : Int) := by omega
      have hk1 : (k : Int) < (n : Int) := by omega
      clear hz hb hr hr' hv hv'
      generalize l.length = ln at *
      go_wp2
      refine wp_region_held_drew (S := (fun w' => w'.cell? ⟨b, off + k, none⟩ = some (.slice a ln d) ∧ w'.cell? ⟨b', off' + k, none⟩ = some (.slice a' ln d'))) (by kernel_rfl) ?_ (fun hHeld => ?_)
      · exact ⟨g0, e0⟩
      refine rg_take (v := ?_) 0 rfl (by kernel_rfl) (by kernel_rfl) (by kernel_rfl) (fun _ _ _ h => h) (by kernel_rfl) ?_ (by assumption) ?_
      rotate_left
      · (intro w' hSw; (try dsimp only at hSw); go_simp; first | done | with_reducible rfl)
      simp only [Act.put, List.setIfInBounds_toArray, List.set_cons_zero, List.set_cons_succ]
      refine rg_take (v := ?_) 1 rfl (by kernel_rfl) (by kernel_rfl) (by kernel_rfl) (fun _ _ _ h => h) (by kernel_rfl) ?_ (by assumption) ?_
      rotate_left
      · (intro w' hSw; (try dsimp only at hSw); go_simp; first | done | with_reducible rfl)
      simp only [Act.put, List.setIfInBounds_toArray, List.set_cons_zero, List.set_cons_succ]
      refine rg_take (v := ?_) 2 rfl (by kernel_rfl) (by kernel_rfl) (by kernel_rfl) (fun _ _ _ h => h) (by kernel_rfl) ?_ (by assumption) ?_
      rotate_left
      · (intro w' hSw; (try dsimp only at hSw); go_simp; first | done | with_reducible rfl)
      simp only [Act.put, List.setIfInBounds_toArray, List.set_cons_zero, List.set_cons_succ]
      refine rg_take (v := ?_) 3 rfl (by kernel_rfl) (by kernel_rfl) (by kernel_rfl) (fun _ _ _ h => h) (by kernel_rfl) ?_ (by assumption) ?_
      rotate_left
      · (intro w' hSw; (try dsimp only at hSw); go_simp; first | done | with_reducible rfl)
      simp only [Act.put, List.setIfInBounds_toArray, List.set_cons_zero, List.set_cons_succ]
      refine rg_take (v := ?_) 4 rfl (by kernel_rfl) (by kernel_rfl) (by kernel_rfl) (fun _ _ _ h => h) (by kernel_rfl) ?_ (by assumption) ?_
      rotate_left
      · (intro w' hSw; (try dsimp only at hSw); go_simp; first | done | with_reducible rfl)
      simp only [Act.put, List.setIfInBounds_toArray, List.set_cons_zero, List.set_cons_succ]
      refine rg_take (v := ?_) 5 rfl (by kernel_rfl) (by kernel_rfl) (by kernel_rfl) (fun _ _ _ h => h) (by kernel_rfl) ?_ (by assumption) ?_
      rotate_left
      · (intro w' hSw; (try dsimp only at hSw); go_simp; first | done | with_reducible rfl)
      simp only [Act.put, List.setIfInBounds_toArray, List.set_cons_zero, List.set_cons_succ]
      refine rg_take (v := ?_) 6 rfl (by kernel_rfl) (by kernel_rfl) (by kernel_rfl) (fun _ _ _ h => h) (by kernel_rfl) ?_ (by assumption) ?_
      rotate_left
      · (intro w' hSw; (try dsimp only at hSw); go_simp; first | done | with_reducible rfl)
      simp only [Act.put, List.setIfInBounds_toArray, List.set_cons_zero, List.set_cons_succ]
      refine rg_take (v := ?_) 7 rfl (by kernel_rfl) (by kernel_rfl) (by kernel_rfl) (fun _ _ _ h => h) (by kernel_rfl) ?_ (by assumption) ?_
      rotate_left
      · (intro w' hSw; (try dsimp only at hSw); go_simp; first | done | with_reducible rfl)
      simp only [Act.put, List.setIfInBounds_toArray, List.set_cons_zero, List.set_cons_succ]
      refine rg_run 8 rfl (by kernel_rfl) (by kernel_rfl) (fun K hK => ?_)
      go_simp
      refine (HC.out _ H1.out.drew H2.out.drew).mono ?_
      rintro e w2 ⟨rfl, hb⟩
      have HB2 := Lib.hid (below_chain (by exact HB.out.drew) hb)
      replace g0 := cell_later hb (by exact g0)
      replace e0 := cell_later hb (by exact e0)
      clear hb
      go_wp2
      clear hHeld
      refine hK.out _ _ ⟨g0, e0⟩ (fun hHeld => ?_)
      clear hK K
      try simp only [Act.put, List.setIfInBounds_toArray, List.set_cons_zero, List.set_cons_succ]
      refine rg_take (v := ?_) 9 rfl (by kernel_rfl) (by kernel_rfl) (by kernel_rfl) (fun _ _ _ h => h) (by kernel_rfl) ?_ (by assumption) ?_
      rotate_left
      · (intro w' hSw; (try dsimp only at hSw); go_simp; first | done | with_reducible rfl)
      simp only [Act.put, List.setIfInBounds_toArray, List.set_cons_zero, List.set_cons_succ]
      refine wpAnyH_done (by kernel_rfl) ?_ _
      clear hHeld
      go_wp2
      go_roundw
      case rel => exact ⟨k + 1, by omega, by go_num, HB2.out⟩
      case measure => simp [intOf]; omega
    · obtain rfl : k = n := by omega
      go_wp2
      go_ret
      exact ⟨rfl, hb⟩
/-- The marks of lists, the first of them k. -/
def mkS : Int → List (List Int) → List (List Int)
  | _, [] => []
  | k, l :: L => markL k l.length :: mkS (k + l.length) L
def mkN : List (List Int) → Nat
  | [] => 0
  | l :: L => l.length + mkN L
theorem mkN_snoc : ∀ (L : List (List Int)) (l : List Int), mkN (L ++ [l]) = mkN L + l.length
  | [], l => by simp [mkN]
  | a :: L, l => by simp only [List.cons_append, mkN, mkN_snoc L l]; omega
theorem mkS_snoc : ∀ (k : Int) (L : List (List Int)) (l : List Int), mkS k (L ++ [l]) = mkS k L ++ [markL (k + mkN L) l.length]
  | k, [], l => by simp [mkS, mkN]
  | k, a :: L, l => by
    simp only [List.cons_append, mkS, mkN, mkS_snoc (k + a.length) L l]
    rw [show k + (a.length : Int) + (mkN L : Int) = k + ((a.length + mkN L : Nat) : Int) by omega]
theorem mkS_len : ∀ (k : Int) (L : List (List Int)), (mkS k L).length = L.length
  | _, [] => rfl
  | k, a :: L => by simp [mkS, mkS_len (k + a.length) L]
theorem mkS_at : ∀ (k : Int) (L : List (List Int)) (j : Nat) (l : List Int), L[j]? = some l → (mkS k L)[j]? = some (markL (k + mkN (L.take j)) l.length)
  | _, [], _, _, h => by simp at h
  | k, a :: L, 0, l, h => by
    simp only [List.getElem?_cons_zero, Option.some.injEq] at h
    subst h
    simp [mkS, mkN]
  | k, a :: L, j + 1, l, h => by
    simp only [List.getElem?_cons_succ] at h
    have := mkS_at (k + a.length) L j l h
    simp only [mkS, List.getElem?_cons_succ, List.take_succ_cons, mkN, this]
    rw [show k + (a.length : Int) + (mkN (L.take j) : Int) = k + ((a.length + mkN (L.take j) : Nat) : Int) by omega]
/-- One of the lists is written anew. -/
theorem OwnS.turn {w : World} {base hi j : Nat} {A : Option Addr} {n c : Nat} {L : List (List Int)} {l : List Int} (h : OwnS w base hi (.slice A n c) L) (hj : L[j]? = some l) :
    ∃ a d, (∀ g, A = some ⟨g, 0, none⟩ → w.cell? ⟨g, j, none⟩ = some (.slice a l.length d)) ∧ w.ownsRow base 2 1 (.slice a l.length d) l.length (ints l) ∧ (∀ q, (Value.slice a l.length d).ownBlock = some q → q < hi) ∧
      ∀ (w' : World) (l' : List Int), l'.length = l.length → w'.ownsRow base 2 1 (.slice a l.length d) l.length (ints l') → w.grownBy w' (Value.slice a l.length d).ownBlock → OwnS w' base hi (.slice A n c) (L.set j l') := by
  obtain ⟨ds, rfl, h1, h2, h3⟩ := h
  rw [List.getElem?_map, Option.map_eq_some_iff] at hj
  obtain ⟨x, hx, rfl⟩ := hj
  obtain ⟨hjl, hxe⟩ := List.getElem?_eq_some_iff.1 hx
  refine ⟨x.a, x.c, fun g hg => ?_, (h2 x (List.mem_of_getElem? hx)).1, (h2 x (List.mem_of_getElem? hx)).2, fun w' l' hl' ho hg => ?_⟩
  · subst hg
    have u : (rowsC ds)[j]? = some x.v := by simp [rowsC, hx]
    have hc := h1.cells (g := g) rfl _ _ u
    have hadd : (⟨g, 0, none⟩ : Addr).add j = ⟨g, 0 + j, none⟩ := by unfold Addr.add; split <;> simp_all
    rw [hadd, Nat.zero_add] at hc
    exact hc
  · have hv : (⟨l', x.a, x.c⟩ : IvD).v = x.v := by simp [IvD.v, hl']
    have hrows : rowsC (ds.set j ⟨l', x.a, x.c⟩) = rowsC ds := by
      unfold rowsC
      rw [List.map_set, hv]
      apply List.ext_getElem?
      intro i
      rw [List.getElem?_set]
      split
      · rename_i e
        subst e
        simp [hjl, hxe]
      · rfl
    refine ⟨ds.set j ⟨l', x.a, x.c⟩, by rw [List.map_set], ?_, fun d hd => ?_, ?_⟩
    · rw [hrows]
      simp only [List.length_set]
      exact own_keep h1 (h2 x (List.mem_of_getElem? hx)).1 (by decide) hg
    · obtain ⟨i, hi⟩ := List.mem_iff_getElem?.1 hd
      rw [List.getElem?_set] at hi
      split at hi
      · rename_i e
        simp only [Option.some.injEq] at hi
        subst hi
        rw [hv]
        refine ⟨?_, (h2 x (List.mem_of_getElem? hx)).2⟩
        dsimp only
        rw [hl']
        exact ho
      · rename_i hne
        have hm := List.mem_of_getElem? hi
        refine ⟨(h2 d hm).1.kept hg ?_, (h2 d hm).2⟩
        rcases hb : d.v.ownBlock with _ | q
        · exact .inl rfl
        · refine .inr fun h' => ?_
          obtain ⟨hil, hie⟩ := List.getElem?_eq_some_iff.1 hi
          rw [List.pairwise_iff_getElem] at h3
          have hxb : x.v.ownBlock = some q := h'.symm
          rcases Nat.lt_or_gt_of_ne hne with hlt | hlt
          · have := h3 j i hjl hil hlt q (by rw [hxe]; exact hxb)
            rw [hie] at this
            exact this hb
          · have := h3 i j hil hjl hlt q (by rw [hie]; exact hb)
            rw [hxe] at this
            exact this hxb
    · rw [List.pairwise_iff_getElem] at h3 ⊢
      have hvi : ∀ i (hi : i < (ds.set j ⟨l', x.a, x.c⟩).length), (ds.set j ⟨l', x.a, x.c⟩)[i].v = (ds[i]'(by simpa using hi)).v := by
        intro i hi
        rw [List.getElem_set]
        split
        · rename_i e
          subst e
          rw [hv, hxe]
        · rfl
      intro i k hi hk hlt q hq
      rw [hvi] at hq ⊢
      exact h3 i k (by simpa using hi) (by simpa using hk) hlt q hq
theorem Mk.narrow {lo hi hi2 : Nat} {w w' : World} {A : Option Addr} {n c : Nat} (h : Mk lo hi2 w w') (hg : w.grownBy w' (Value.slice A n c).ownBlock) (hq : ∀ q, (Value.slice A n c).ownBlock = some q → q < hi) : Mk lo hi w w' := by
  refine ⟨h.os, h.tape, h.output, h.size, fun k hk ho => ?_, h.shape⟩
  by_cases e : (Value.slice A n c).ownBlock = some k
  · have := hq k e
    exact h.block k hk (.inl (by omega))
  · exact hg.block k hk fun h' => e h'.symm
theorem mix_mark {k : Int} {L : List (List Int)} {j : Nat} {l : List Int} (h : L[j]? = some l) : (mkS k (L.take j) ++ L.drop j).set j (markL (k + mkN (L.take j)) l.length) = mkS k (L.take (j + 1)) ++ L.drop (j + 1) := by
  obtain ⟨hj, e⟩ := List.getElem?_eq_some_iff.1 h
  have hd : L.drop j = l :: L.drop (j + 1) := by rw [List.drop_eq_getElem_cons hj, e]
  have ht : L.take (j + 1) = L.take j ++ [l] := by rw [List.take_add_one, h]; rfl
  have hl : (mkS k (L.take j)).length = j := by rw [mkS_len, List.length_take]; omega
  rw [hd, ht, mkS_snoc, List.set_append_right _ _ (by omega), hl, Nat.sub_self, List.set_cons_zero, List.append_assoc]
  rfl
theorem mix_at {k : Int} {L : List (List Int)} {j : Nat} {l : List Int} (h : L[j]? = some l) : (mkS k (L.take j) ++ L.drop j)[j]? = some l := by
  obtain ⟨hj, e⟩ := List.getElem?_eq_some_iff.1 h
  have hl : (mkS k (L.take j)).length = j := by rw [mkS_len, List.length_take]; omega
  rw [List.getElem?_append_right (by omega), hl, Nat.sub_self, List.getElem?_drop, Nat.add_zero, h]
theorem mkN_take {L : List (List Int)} {j : Nat} {l : List Int} (h : L[j]? = some l) : mkN (L.take (j + 1)) = mkN (L.take j) + l.length := by
  have ht : L.take (j + 1) = L.take j ++ [l] := by rw [List.take_add_one, h]; rfl
  rw [ht, mkN_snoc]
theorem mkN_le : ∀ (L : List (List Int)) (j : Nat), mkN (L.take j) ≤ mkN L
  | [], j => by simp
  | a :: L, 0 => by simp [mkN]
  | a :: L, j + 1 => by
    have := mkN_le L j
    simp only [List.take_succ_cons, mkN]
    omega
set_option maxHeartbeats 1000000 in
set_option maxRecDepth 100000 in
theorem c_markInt64SS (A : Option Addr) (c n base hi : Nat) (k : Nat) (L : List (List Int)) (w : World) (hn : n = L.length) (hs : n ≤ 1048577) (hk : k + mkN L ≤ 100000000) (ho : OwnS w base hi (.slice A n c) L) :
    Calls Tryz.prog 16 #[.slice A n c, .int .i64 k] w fun e w' => e = .returned (.int .i64 ((k + mkN L : Nat) : Int)) ∧ OwnS w' base hi (.slice A n c) (mkS k L) ∧ Mk base hi w w' := by
  have HN := Lib.hid hn
  have HO := Lib.hid ho
  clear hn ho
  go_enter Tryz.func16, Tryz.ntmps16
  go_wp2
  go_loopw [1, 5] (fun t i wr => ∃ j kk : Nat, j ≤ n ∧ i = .int .i64 j ∧ t = .int .i64 kk ∧ Hid (kk = k + mkN (L.take j)) ∧ Hid (OwnS wr base hi (.slice A n c) (mkS k (L.take j) ++ L.drop j)) ∧ Mk base hi w wr) (fun _ i _ => n - (intOf i).toNat)
  case atStart => exact ⟨0, k, Nat.zero_le _, rfl, rfl, Lib.hid (by simp [mkN]), Lib.hid (by simpa [mkS] using HO.out), Mk.refl _ _ _⟩
  case round =>
    obtain ⟨j, kk, hj, rfl, rfl, hkk, ho, hm⟩ := hrel
    by_cases hlt : j < n
    · obtain ⟨l, hz⟩ : ∃ z, L[j]? = some z := ⟨_, List.getElem?_eq_getElem (by have := HN.out; omega)⟩
      have hle := mkN_le L (j + 1)
      rw [mkN_take hz] at hle
      have hb1 : kk + l.length ≤ 100000000 := by have := hkk.out; omega
      have HKN := Lib.hid (show kk + l.length = k + mkN (L.take (j + 1)) by rw [mkN_take hz, hkk.out]; omega)
      have hform := ho.out.form1 (by rw [List.length_append, mkS_len, List.length_take, List.length_drop]; have := HN.out; omega)
      obtain ⟨g, c2, hv⟩ := hform
      simp only [Value.slice.injEq] at hv
      obtain ⟨rfl, hx1, hx2⟩ := hv
      clear hx1 hx2
      obtain ⟨a, d, hc, hrow, hq, hup⟩ := ho.out.turn (mix_at (k := (k : Int)) hz)
      have g0 := hc g rfl
      have HRW := Lib.hid hrow
      have HQ := Lib.hid hq
      have HUP := Lib.hid hup
      have HM := Lib.hid hm
      have HZ := Lib.hid hz
      clear hc hrow hq hup hz hm hle
      generalize hll : l.length = ll at *
      have HLL := Lib.hid hll
      clear hll
      go_wp2_with (fail)
      refine (c_markInt64S _ _ _ _ _ kk _ (by omega) (by omega) HRW.out).mono ?_
      rintro e w2 ⟨rfl, hmk, hg⟩
      have HM2 := Lib.hid (HM.out.trans ((Mk.of_grown hg HRW.out ⟨_, hmk⟩).narrow hg HQ.out))
      have HO2 := Lib.hid (show OwnS w2 base hi (.slice (some ⟨g, 0, none⟩) n c) (mkS k (L.take (j + 1)) ++ L.drop (j + 1)) by
        have h5 := HUP.out w2 (markL (kk : Int) ll) (markL_length _ _) hmk hg
        have e := mix_mark (k := (k : Int)) HZ.out
        rw [HLL.out, show (k : Int) + (mkN (L.take j) : Int) = (kk : Int) by have := hkk.out; omega] at e
        rw [e] at h5
        exact h5)
      clear hmk hg
      go_wp2
      go_roundw
      case rel => exact ⟨j + 1, kk + ll, by omega, by go_num, by go_num, HKN, HO2, HM2.out⟩
      case measure => simp [intOf]; omega
    · obtain rfl : j = n := by omega
      have hA := ho.out
      have hK := hkk.out
      rw [List.take_of_length_le (by have := HN.out; omega)] at hA hK
      rw [List.drop_eq_nil_of_le (by have := HN.out; omega), List.append_nil] at hA
      have HA := Lib.hid hA
      have HK := Lib.hid hK
      have HM := Lib.hid hm
      clear hA hK ho hkk hm
      go_wp2
      go_ret
      exact ⟨ret_int (by rw [HK.out]), HA.out, HM.out⟩
set_option maxHeartbeats 1000000 in
set_option maxRecDepth 100000 in
theorem c_heldInt64SS (A : Option Addr) (c n : Nat) (k : Nat) (L : List (List Int)) (w : World) (hn : n = L.length) (hs : n ≤ 1048577) (hk : k + mkN L ≤ 100000000) (hr : RdS w A (mkS k L)) :
    Calls Tryz.prog 17 #[.slice A n c, .int .i64 k] w fun e w' => e = .returned (.int .i64 ((k + mkN L : Nat) : Int)) ∧ Below w.heap.size w w' := by
  have HN := Lib.hid hn
  clear hn
  go_enter Tryz.func17, Tryz.ntmps17
  go_wp2
  go_loopw [1, 5] (fun t i wr => ∃ j kk : Nat, j ≤ n ∧ i = .int .i64 j ∧ t = .int .i64 kk ∧ Hid (kk = k + mkN (L.take j)) ∧ Below w.heap.size w wr) (fun _ i _ => n - (intOf i).toNat)
  case atStart => exact ⟨0, k, Nat.zero_le _, rfl, rfl, Lib.hid (by simp [mkN]), Below.refl _ _⟩
  case round =>
    obtain ⟨j, kk, hj, rfl, rfl, hkk, hb⟩ := hrel
    by_cases hlt : j < n
    · obtain ⟨l, hz⟩ : ∃ z, L[j]? = some z := ⟨_, List.getElem?_eq_getElem (by have := HN.out; omega)⟩
      have hle := mkN_le L (j + 1)
      rw [mkN_take hz] at hle
      have hb1 : kk + l.length ≤ 100000000 := by have := hkk.out; omega
      have HKN := Lib.hid (show kk + l.length = k + mkN (L.take (j + 1)) by rw [mkN_take hz, hkk.out]; omega)
      have hat := mkS_at (k : Int) L j l hz
      rw [show (k : Int) + (mkN (L.take j) : Int) = (kk : Int) by have := hkk.out; omega] at hat
      obtain ⟨b, off, a, d, rfl, _, g0, hv⟩ := (hr.below hb).at hat
      rw [markL_length] at g0
      have HVV := Lib.hid hv
      have HBE := Lib.hid hb
      clear hz hle hat hv hb hr
      generalize l.length = ll at *
      go_wp2_with (fail)
      refine (c_heldInt64S _ _ _ kk _ (by omega) (by omega) HVV.out).mono ?_
      rintro e w2 ⟨rfl, hb⟩
      have HB2 := Lib.hid (below_chain HBE.out hb)
      have hp : (0 : Int) ≤ (kk : Int) + (ll : Int) := by omega
      clear hb
      go_wp2
      go_roundw
      case rel => exact ⟨j + 1, kk + ll, by omega, by go_num, by go_num, HKN, HB2.out⟩
      case measure => simp [intOf]; omega
    · obtain rfl : j = n := by omega
      have hK := hkk.out
      rw [List.take_of_length_le (by have := HN.out; omega)] at hK
      have HK := Lib.hid hK
      have HB := Lib.hid hb
      clear hK hkk hb
      go_wp2
      go_ret
      exact ⟨ret_int (by rw [HK.out]), HB.out⟩
end Go.Proofs.YtdjehopcpjkgjaaGreat
