/- Tests as texts, on the reference's side. Condition: the numbers are those of a valid model. -/
import Derived.Test.YtgpmglfcdbpgkaaGreatDoorTxS
import Derived.Deep.CutRange
namespace Go.Proofs.YtgpmglfcdbpgkaaGreatDoor
open Go.RowKit

theorem joinm_step {α : Type} (f : α → List UInt8) (sep : List UInt8) {l : List α} {k : Nat} {z : α} (hz : l[k]? = some z) : Lib.join ((l.take (k + 1)).map f) sep = if k = 0 then f z else Lib.join ((l.take k).map f) sep ++ sep ++ f z := by
  have hk := (List.getElem?_eq_some_iff.1 hz).1
  rw [List.take_add_one, hz]
  simp only [Option.toList_some, List.map_append, List.map_cons, List.map_nil]
  by_cases h0 : k = 0
  · subst h0
    rw [if_pos rfl]
    simp [Lib.join_one]
  · rw [if_neg h0, join_snoc]
    intro e
    have : (List.map f (l.take k)).length = 0 := by rw [e]; rfl
    rw [List.length_map, List.length_take] at this
    omega
theorem test_len {t : Tst} (h : TstS t) : (txTest t).length ≤ 5 := by
  have h1 := itoa_len h.1
  have h2 := itoa_len h.2
  unfold txTest
  simp
  omega
theorem asg_len {t : Asg} (h : AsgS t) : (txAsg t).length ≤ 5 := by
  have h1 := itoa_len h.1
  have h2 := itoa_len h.2
  unfold txAsg
  simp
  omega
theorem nil_list {s : ByteArray} (h : s.data.toList = []) : s = ⟨#[]⟩ := by
  apply ByteArray.ext
  apply Array.ext'
  rw [h]
theorem isE {s : ByteArray} {c : UInt8} {t : List UInt8} (h : s.data.toList = c :: t) : s.toList.isEmpty = false := by
  rw [Lib.toList_data, h]
  rfl
theorem join_head {ws : List (List UInt8)} (hne : ws ≠ []) (h : ∀ w ∈ ws, WordL w) (sep : List UInt8) : ∃ c t, Lib.join ws sep = c :: t := by
  match ws, hne with
  | x :: r, _ =>
    obtain ⟨⟨c, t, rfl, _⟩, _⟩ := h x (List.mem_cons_self ..)
    rw [Lib.join_cons, List.cons_append]
    exact ⟨_, _, rfl⟩
def sgB (q : Bool) : ByteArray := if q then ⟨#[61]⟩ else ⟨#[33]⟩
theorem sgB_size (q : Bool) : (sgB q).size = 1 := by cases q <;> rfl
theorem sgB_list (q : Bool) : (sgB q).data.toList = [if q then 61 else 33] := by cases q <;> rfl
set_option maxHeartbeats 2000000 in
set_option maxRecDepth 100000 in
theorem c_l20TestsText (A : Option Addr) (c n : Nat) (l : List Tst) (w : World) (hn : n = l.length) (hs : n ≤ 1048576) (hl : ∀ t ∈ l, TstS t) (hr : Rd w A (tstCells l)) :
    Calls Tryz.prog 55 #[.slice A n c] w (RetStr (txList (l.map txTest)) w) := by
  have HN := Lib.hid hn
  have HL := Lib.hid hl
  have HR := Lib.hid hr
  clear hn hl hr
  go_enter Tryz.func55, Tryz.ntmps55
  go_wp2_with (fail)
  go_loopw [3, 4, 5] (fun o i _ wr => ∃ (k : Nat) (s : ByteArray), k ≤ n ∧ i = .int .i64 k ∧ o = .string s ∧ Hid (s.data.toList = Lib.join ((l.take k).map txTest) [38]) ∧ s.size ≤ 6 * k ∧ Hid (Below w.heap.size w wr)) (fun _ i _ _ => n - (intOf i).toNat)
  case atStart => exact ⟨0, ⟨#[]⟩, Nat.zero_le _, rfl, rfl, Lib.hid rfl, Nat.le_refl _, Lib.hid (Below.refl _ _)⟩
  case round =>
    obtain ⟨k, s, hk, rfl, rfl, hS, hsz, HB⟩ := hrel
    by_cases hlt : k < n
    · obtain ⟨z, hz⟩ : ∃ z, l[k]? = some z := ⟨_, List.getElem?_eq_getElem (by have := HN.out; omega)⟩
      have HSM := Lib.hid (HL.out z (List.mem_of_getElem? hz))
      have HST := Lib.hid (joinm_step txTest [38] hz)
      obtain ⟨b, off, rfl, _, g0, g1, g2⟩ := (HR.out.below HB.out).tst hz
      have hl1 := itoa_len HSM.out.1
      have hl2 := itoa_len HSM.out.2
      have hk0 : (0 : Int) ≤ (k : Int) := by omega
      have hk1 : (k : Int) < (n : Int) := by omega
      clear hz
      obtain ⟨v, x, q⟩ := z
      dsimp only at g0 g1 g2 hl1 hl2
      have hq1 := sgB_size q
      -- what is there behind the sign between words
      obtain ⟨s0, hs0, hs0z, hs0l⟩ : ∃ s0 : ByteArray, s0 = (if k = 0 then s else s ++ ⟨#[38]⟩) ∧ s0.size ≤ 6 * k + 1 ∧ s0.data.toList ++ txTest ⟨v, x, q⟩ = Lib.join ((l.take (k + 1)).map txTest) [38] := by
        refine ⟨_, rfl, ?_, ?_⟩
        · split
          · omega
          · rw [ByteArray.size_append']
            have : (⟨#[38]⟩ : ByteArray).size = 1 := rfl
            omega
        · rw [HST.out]
          split
          · next h0 =>
            subst h0
            rw [hS.out]
            rfl
          · rw [app_list, hS.out]
      have HS0 := Lib.hid hs0l
      have had0 := add_str s ⟨#[38]⟩ (by have : (⟨#[38]⟩ : ByteArray).size = 1 := rfl; omega)
      clear hs0l HST
      go_upto_if 13 with (fail)
      go_cut [3] from 13 to 15 (fun v wx => v = .string s0 ∧ wx = wr)
      case first =>
        by_cases h0 : k = 0
        · subst h0
          rw [if_pos rfl] at hs0
          subst hs0
          go_wp2_with (fail)
          go_meet
          case rel => exact ⟨rfl, rfl⟩
        · have hkp : (0 : Int) < (k : Int) := by omega
          rw [if_neg h0] at hs0
          subst hs0
          go_wp2_with (fail)
          go_meet
          case rel => exact ⟨rfl, rfl⟩
      case rest =>
        obtain ⟨rfl, hwc⟩ := hcut
        obtain rfl : wr = wc := hwc.symm
        clear had0 hs0 hS hsz
        go_upto_if 20 with (fail)
        go_cut [5] from 20 to 20 (fun v wx => v = .string (sgB q) ∧ wx = wr)
        case first =>
          cases q
          · go_wp2_with (fail)
            go_meet
            case rel => exact ⟨rfl, rfl⟩
          · go_wp2_with (fail)
            go_meet
            case rel => exact ⟨rfl, rfl⟩
        case rest =>
          obtain ⟨rfl, hwc⟩ := hcut
          obtain rfl : wr = wc := hwc.symm
          have HSG := Lib.hid (sgB_list q)
          generalize sgB q = sg at *
          go_wp2_with (fail)
          refine wp_region_held_drew (S := (fun w' => w'.cell? ⟨b, off + k * 3, none⟩ = some (.int .i64 v) ∧ w'.cell? ⟨b, off + k * 3 + 1, none⟩ = some (.int .i64 x))) (by kernel_rfl) ?_ (fun hHeld => ?_)
          · exact ⟨g0, g1⟩
          refine rg_take (v := ?_) 0 rfl (by kernel_rfl) (by kernel_rfl) (by kernel_rfl) (fun _ _ _ h => h) (by kernel_rfl) ?_ (by assumption) ?_
          rotate_left
          · (intro w' hSw; (try dsimp only at hSw); go_simp; first | done | with_reducible rfl)
          simp only [Act.put, List.setIfInBounds_toArray, List.set_cons_zero, List.set_cons_succ]
          refine rg_take (v := ?_) 1 rfl (by kernel_rfl) (by kernel_rfl) (by kernel_rfl) (fun _ _ _ h => h) (by kernel_rfl) ?_ (by assumption) ?_
          rotate_left
          · (intro w' hSw; (try dsimp only at hSw); go_simp; first | done | with_reducible rfl)
          simp only [Act.put, List.setIfInBounds_toArray, List.set_cons_zero, List.set_cons_succ]
          refine rg_take (v := ?_) 2 rfl (by kernel_rfl) (by kernel_rfl) (by kernel_rfl) (fun _ _ _ h => h) (by kernel_rfl) ?_ (by assumption) ?_
          rotate_left
          · (intro w' hSw; (try dsimp only at hSw); go_simp; first | done | with_reducible rfl)
          simp only [Act.put, List.setIfInBounds_toArray, List.set_cons_zero, List.set_cons_succ]
          refine rg_take (v := ?_) 3 rfl (by kernel_rfl) (by kernel_rfl) (by kernel_rfl) (fun _ _ _ h => h) (by kernel_rfl) ?_ (by assumption) ?_
          rotate_left
          · (intro w' hSw; (try dsimp only at hSw); go_simp; first | done | with_reducible rfl)
          simp only [Act.put, List.setIfInBounds_toArray, List.set_cons_zero, List.set_cons_succ]
          refine rg_take (v := ?_) 4 rfl (by kernel_rfl) (by kernel_rfl) (by kernel_rfl) (fun _ _ _ h => h) (by kernel_rfl) ?_ (by assumption) ?_
          rotate_left
          · (intro w' hSw; (try dsimp only at hSw); go_simp; first | done | with_reducible rfl)
          simp only [Act.put, List.setIfInBounds_toArray, List.set_cons_zero, List.set_cons_succ]
          refine rg_take (v := ?_) 5 rfl (by kernel_rfl) (by kernel_rfl) (by kernel_rfl) (fun _ _ _ h => h) (by kernel_rfl) ?_ (by assumption) ?_
          rotate_left
          · (intro w' hSw; (try dsimp only at hSw); go_simp; first | done | with_reducible rfl)
          simp only [Act.put, List.setIfInBounds_toArray, List.set_cons_zero, List.set_cons_succ]
          refine rg_take (v := ?_) 8 rfl (by kernel_rfl) (by kernel_rfl) (by kernel_rfl) (fun _ _ _ h => h) (by kernel_rfl) ?_ (by assumption) ?_
          rotate_left
          · (intro w' hSw; (try dsimp only at hSw); go_simp; first | done | with_reducible rfl)
          simp only [Act.put, List.setIfInBounds_toArray, List.set_cons_zero, List.set_cons_succ]
          refine rg_take (v := ?_) 10 rfl (by kernel_rfl) (by kernel_rfl) (by kernel_rfl) (fun _ _ _ h => h) (by kernel_rfl) ?_ (by assumption) ?_
          rotate_left
          · (intro w' hSw; (try dsimp only at hSw); go_simp; first | done | with_reducible rfl)
          simp only [Act.put, List.setIfInBounds_toArray, List.set_cons_zero, List.set_cons_succ]
          refine rg_take (v := ?_) 11 rfl (by kernel_rfl) (by kernel_rfl) (by kernel_rfl) (fun _ _ _ h => h) (by kernel_rfl) ?_ (by assumption) ?_
          rotate_left
          · (intro w' hSw; (try dsimp only at hSw); go_simp; first | done | with_reducible rfl)
          simp only [Act.put, List.setIfInBounds_toArray, List.set_cons_zero, List.set_cons_succ]
          refine rg_take (v := ?_) 12 rfl (by kernel_rfl) (by kernel_rfl) (by kernel_rfl) (fun _ _ _ h => h) (by kernel_rfl) ?_ (by assumption) ?_
          rotate_left
          · (intro w' hSw; (try dsimp only at hSw); go_simp; first | done | with_reducible rfl)
          simp only [Act.put, List.setIfInBounds_toArray, List.set_cons_zero, List.set_cons_succ]
          refine rg_take (v := ?_) 13 rfl (by kernel_rfl) (by kernel_rfl) (by kernel_rfl) (fun _ _ _ h => h) (by kernel_rfl) ?_ (by assumption) ?_
          rotate_left
          · (intro w' hSw; (try dsimp only at hSw); go_simp; first | done | with_reducible rfl)
          simp only [Act.put, List.setIfInBounds_toArray, List.set_cons_zero, List.set_cons_succ]
          refine rg_take (v := ?_) 14 rfl (by kernel_rfl) (by kernel_rfl) (by kernel_rfl) (fun _ _ _ h => h) (by kernel_rfl) ?_ (by assumption) ?_
          rotate_left
          · (intro w' hSw; (try dsimp only at hSw); go_simp; first | done | with_reducible rfl)
          simp only [Act.put, List.setIfInBounds_toArray, List.set_cons_zero, List.set_cons_succ]
          refine rg_run 6 rfl (by kernel_rfl) (by kernel_rfl) (fun K hK => ?_)
          go_simp
          refine (c_l01DecS v HSM.out.1 _).mono ?_
          rintro e wA ⟨sI, rfl, hsI, hb⟩
          replace g0 := cell_later hb (by exact g0)
          replace g1 := cell_later hb (by exact g1)
          have HB1 := Lib.hid (below_chain (by exact HB.out.drew) hb)
          have hzI := size_list hsI
          have HSI := Lib.hid hsI
          clear hb hsI
          have had1 := add_str s0 sI (by rw [hzI]; omega)
          have hz1 : (s0 ++ sI).size ≤ 6 * k + 3 := by rw [ByteArray.size_append', hzI]; omega
          have had2 := add_str (s0 ++ sI) sg (by omega)
          have hz2 : (s0 ++ sI ++ sg).size ≤ 6 * k + 4 := by rw [ByteArray.size_append']; omega
          go_wp2
          clear hHeld
          refine hK.out _ _ (by exact ⟨g0, g1⟩) (fun hHeld => ?_)
          clear hK K
          try simp only [Act.put, List.setIfInBounds_toArray, List.set_cons_zero, List.set_cons_succ]
          refine rg_take (v := ?_) 7 rfl (by kernel_rfl) (by kernel_rfl) (by kernel_rfl) (fun _ _ _ h => h) (by kernel_rfl) ?_ (by assumption) ?_
          rotate_left
          · (intro w' hSw; (try dsimp only at hSw); go_simp; first | done | with_reducible rfl)
          simp only [Act.put, List.setIfInBounds_toArray, List.set_cons_zero, List.set_cons_succ]
          refine rg_take (v := ?_) 9 rfl (by kernel_rfl) (by kernel_rfl) (by kernel_rfl) (fun _ _ _ h => h) (by kernel_rfl) ?_ (by assumption) ?_
          rotate_left
          · (intro w' hSw; (try dsimp only at hSw); go_simp; first | done | with_reducible rfl)
          simp only [Act.put, List.setIfInBounds_toArray, List.set_cons_zero, List.set_cons_succ]
          refine rg_run 15 rfl (by kernel_rfl) (by kernel_rfl) (fun K hK => ?_)
          go_simp
          refine (c_l01DecS x HSM.out.2 _).mono ?_
          rintro e wB ⟨sJ, rfl, hsJ, hb⟩
          replace g0 := cell_later hb (by exact g0)
          replace g1 := cell_later hb (by exact g1)
          have HB2 := Lib.hid (below_chain HB1.out hb)
          have hzJ := size_list hsJ
          have HSJ := Lib.hid hsJ
          clear hb hsJ
          have had3 := add_str (s0 ++ sI ++ sg) sJ (by rw [hzJ]; omega)
          have HZ3 : Hid ((s0 ++ sI ++ sg ++ sJ).size ≤ 6 * (k + 1)) := Lib.hid (by rw [ByteArray.size_append', hzJ]; omega)
          have HL3 : Hid ((s0 ++ sI ++ sg ++ sJ).data.toList = Lib.join ((l.take (k + 1)).map txTest) [38]) := Lib.hid (by rw [app_list, app_list, app_list, HSI.out, HSG.out, HSJ.out, ← HS0.out]; unfold txTest; simp)
          go_wp2
          clear hHeld
          refine hK.out _ _ (by exact ⟨g0, g1⟩) (fun hHeld => ?_)
          clear hK K
          try simp only [Act.put, List.setIfInBounds_toArray, List.set_cons_zero, List.set_cons_succ]
          refine rg_take (v := ?_) 16 rfl (by kernel_rfl) (by kernel_rfl) (by kernel_rfl) (fun _ _ _ h => h) (by kernel_rfl) ?_ (by assumption) ?_
          rotate_left
          · (intro w' hSw; (try dsimp only at hSw); go_simp; first | done | with_reducible rfl)
          simp only [Act.put, List.setIfInBounds_toArray, List.set_cons_zero, List.set_cons_succ]
          refine rg_take (v := ?_) 17 rfl (by kernel_rfl) (by kernel_rfl) (by kernel_rfl) (fun _ _ _ h => h) (by kernel_rfl) ?_ (by assumption) ?_
          rotate_left
          · (intro w' hSw; (try dsimp only at hSw); go_simp; first | done | with_reducible rfl)
          simp only [Act.put, List.setIfInBounds_toArray, List.set_cons_zero, List.set_cons_succ]
          refine wpAnyH_done (by kernel_rfl) ?_ _
          clear hHeld
          clear had1 had2 had3 hz1 hz2
          go_wp2_with (fail)
          go_roundw
          case rel => exact ⟨k + 1, _, by omega, by go_num, rfl, HL3, HZ3.out, HB2⟩
          case measure => simp [intOf]; omega
    · obtain rfl : k = n := by omega
      have hE : l.take k = l := List.take_of_length_le (by have := HN.out; omega)
      rw [hE] at hS
      by_cases h0 : k = 0
      · have hl0 : l = [] := List.eq_nil_of_length_eq_zero (by have := HN.out; omega)
        have hs0 : s = ⟨#[]⟩ := nil_list (by rw [hS.out, hl0]; rfl)
        subst hs0
        have HV : Hid (txList (l.map txTest) = [45]) := Lib.hid (by rw [hl0]; rfl)
        clear hE hl0
        go_wp2_with (fail)
        go_ret
        exact ⟨_, rfl, by rw [HV.out], HB.out⟩
      · have hl0 : l.map txTest ≠ [] := by
          intro e
          have : (l.map txTest).length = 0 := by rw [e]; rfl
          rw [List.length_map, ← HN.out] at this
          exact h0 this
        obtain ⟨c0, t0, hj⟩ := join_head hl0 (fun w hw => by obtain ⟨t, ht, rfl⟩ := List.mem_map.1 hw; exact word_tst (HL.out t ht)) [38]
        have hem := isE (hS.out.trans hj)
        have HV : Hid (txList (l.map txTest) = Lib.join (l.map txTest) [38]) := Lib.hid (by unfold txList; rw [if_neg hl0])
        clear hE hj hl0
        go_wp2_with (fail)
        go_ret
        exact ⟨_, rfl, by rw [HV.out, hS.out], HB.out⟩
end Go.Proofs.YtgpmglfcdbpgkaaGreatDoor
