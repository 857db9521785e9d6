/- The text of a model, on the program's side. Condition: the lists' sizes; the table of powers of ten lies there. -/
import Derived.Test.YtgpmglfcdbpgkaaGreatDoorTxJ
namespace Go.Proofs.YtgpmglfcdbpgkaaGreatDoor
open Go.RowKit

set_option maxHeartbeats 4000000 in
set_option maxRecDepth 100000 in
theorem c_modelText (m : Mdl) (az ax ar : Option Addr) (cz cs cr : Nat) (w : World) (hN : MdlN m) (h : Md w az ax ar m) (hP : Pw w) :
    Calls Tryz.prog 29 #[mv m az ax ar cz cs cr] w (RetStr (txModel m) w) := by
  have HN := Lib.hid hN
  have H := Lib.hid h
  have HP := Lib.hid hP
  have hzl := hN.z
  have htl := hN.t
  have hrl := hN.r
  have hzz := nums_len hN.s.sz m.sz.length
  have htt := nums_len hN.s.st m.st.length
  rw [List.take_length] at hzz htt
  have HAB : Hid (Below w.heap.size w (w.alloc (.cells #[.slice az m.sz.length cz, .slice ax m.st.length cs, .slice ar m.rs.length cr] 25))) := Lib.hid (below_alloc (Below.refl _ _) _)
  have HA : Hid (MB (w.alloc (.cells #[.slice az m.sz.length cz, .slice ax m.st.length cs, .slice ar m.rs.length cr] 25)) w.heap.size az ax ar m.sz.length m.st.length m.rs.length cz cs cr) := Lib.hid ⟨by go_simp, by go_simp, by go_simp⟩
  clear hN h hP
  go_enter Tryz.func29, Tryz.ntmps29
  dsimp only [mv]
  go_upto_region 1 with (fail)
  generalize w.alloc (.cells #[.slice az m.sz.length cz, .slice ax m.st.length cs, .slice ar m.rs.length cr] 25) = W at *
  obtain ⟨a0, a1, a2⟩ := HA.out
  have HB := Lib.hid HAB.out
  clear HAB HA
  go_wp2_with (fail)
  refine wp_region_held_drew (S := (fun w' => w'.cell? ⟨w.heap.size, 0, none⟩ = some (.slice az m.sz.length cz) ∧ w'.cell? ⟨w.heap.size, 1, none⟩ = some (.slice ax m.st.length cs) ∧ w'.cell? ⟨w.heap.size, 2, none⟩ = some (.slice ar m.rs.length cr))) (by kernel_rfl) ?_ (fun hHeld => ?_)
  · exact ⟨a0, a1, a2⟩
  refine rg_take (v := ?_) 0 rfl (by kernel_rfl) (by kernel_rfl) (by kernel_rfl) (fun _ _ _ h => h) (by kernel_rfl) ?_ (by assumption) ?_
  rotate_left
  · (intro w' hSw; (try dsimp only at hSw); go_simp; first | done | with_reducible rfl)
  simp only [Act.put, List.setIfInBounds_toArray, List.set_cons_zero, List.set_cons_succ]
  refine rg_take (v := ?_) 1 rfl (by kernel_rfl) (by kernel_rfl) (by kernel_rfl) (fun _ _ _ h => h) (by kernel_rfl) ?_ (by assumption) ?_
  rotate_left
  · (intro w' hSw; (try dsimp only at hSw); go_simp; first | done | with_reducible rfl)
  simp only [Act.put, List.setIfInBounds_toArray, List.set_cons_zero, List.set_cons_succ]
  refine rg_take (v := ?_) 4 rfl (by kernel_rfl) (by kernel_rfl) (by kernel_rfl) (fun _ _ _ h => h) (by kernel_rfl) ?_ (by assumption) ?_
  rotate_left
  · (intro w' hSw; (try dsimp only at hSw); go_simp; first | done | with_reducible rfl)
  simp only [Act.put, List.setIfInBounds_toArray, List.set_cons_zero, List.set_cons_succ]
  refine rg_take (v := ?_) 5 rfl (by kernel_rfl) (by kernel_rfl) (by kernel_rfl) (fun _ _ _ h => h) (by kernel_rfl) ?_ (by assumption) ?_
  rotate_left
  · (intro w' hSw; (try dsimp only at hSw); go_simp; first | done | with_reducible rfl)
  simp only [Act.put, List.setIfInBounds_toArray, List.set_cons_zero, List.set_cons_succ]
  refine rg_run 2 rfl (by kernel_rfl) (by kernel_rfl) (fun K hK => ?_)
  go_simp
  refine (c_joinN az cz _ m.sz _ rfl (by omega) HN.out.s.sz (H.out.z.below HB.out).drew (HP.out.below HB.out.drew)).mono ?_
  rintro e wA ⟨sI, rfl, hsI, hb⟩
  replace a0 := cell_later hb (by exact a0)
  replace a1 := cell_later hb (by exact a1)
  replace a2 := cell_later hb (by exact a2)
  have HB1 := Lib.hid (below_chain (by exact HB.out.drew) hb)
  have hzI := size_list hsI
  have HSI := Lib.hid hsI
  clear hb hsI
  have had1 := add_str sI ⟨#[32]⟩ (by rw [hzI, sz1]; omega)
  go_wp2
  clear hHeld
  refine hK.out _ _ (by exact ⟨a0, a1, a2⟩) (fun hHeld => ?_)
  clear hK K
  try simp only [Act.put, List.setIfInBounds_toArray, List.set_cons_zero, List.set_cons_succ]
  refine rg_take (v := ?_) 3 rfl (by kernel_rfl) (by kernel_rfl) (by kernel_rfl) (fun _ _ _ h => h) (by kernel_rfl) ?_ (by assumption) ?_
  rotate_left
  · (intro w' hSw; (try dsimp only at hSw); go_simp; first | done | with_reducible rfl)
  simp only [Act.put, List.setIfInBounds_toArray, List.set_cons_zero, List.set_cons_succ]
  refine rg_run 6 rfl (by kernel_rfl) (by kernel_rfl) (fun K hK => ?_)
  go_simp
  refine (c_joinN ax cs _ m.st _ rfl (by omega) HN.out.s.st (H.out.s.below HB1.out) (HP.out.below HB1.out)).mono ?_
  rintro e wB ⟨sJ, rfl, hsJ, hb⟩
  replace a0 := cell_later hb (by exact a0)
  replace a1 := cell_later hb (by exact a1)
  replace a2 := cell_later hb (by exact a2)
  have HB2 := Lib.hid (below_chain HB1.out hb)
  have hzJ := size_list hsJ
  have HSJ := Lib.hid hsJ
  clear hb hsJ
  have had2 := add_str (sI ++ ⟨#[32]⟩) sJ (by rw [ByteArray.size_append', hzI, hzJ, sz1]; omega)
  have had3 := add_str (sI ++ ⟨#[32]⟩ ++ sJ) ⟨#[10]⟩ (by rw [ByteArray.size_append', ByteArray.size_append', hzI, hzJ, sz1, sz1]; omega)
  have HS0 : Hid ((sI ++ ⟨#[32]⟩ ++ sJ ++ ⟨#[10]⟩).data.toList = txUpto m 0) := Lib.hid (by rw [app_list, app_list, app_list, HSI.out, HSJ.out, ls1, ls1, upto_zero]; unfold txHead; simp)
  have HZ0 : Hid ((sI ++ ⟨#[32]⟩ ++ sJ ++ ⟨#[10]⟩).size ≤ 100) := Lib.hid (by rw [ByteArray.size_append', ByteArray.size_append', ByteArray.size_append', hzI, hzJ, sz1, sz1]; omega)
  go_wp2
  clear hHeld
  refine hK.out _ _ (by exact ⟨a0, a1, a2⟩) (fun hHeld => ?_)
  clear hK K
  try simp only [Act.put, List.setIfInBounds_toArray, List.set_cons_zero, List.set_cons_succ]
  refine rg_take (v := ?_) 7 rfl (by kernel_rfl) (by kernel_rfl) (by kernel_rfl) (fun _ _ _ h => h) (by kernel_rfl) ?_ (by assumption) ?_
  rotate_left
  · (intro w' hSw; (try dsimp only at hSw); go_simp; first | done | with_reducible rfl)
  simp only [Act.put, List.setIfInBounds_toArray, List.set_cons_zero, List.set_cons_succ]
  refine rg_take (v := ?_) 8 rfl (by kernel_rfl) (by kernel_rfl) (by kernel_rfl) (fun _ _ _ h => h) (by kernel_rfl) ?_ (by assumption) ?_
  rotate_left
  · (intro w' hSw; (try dsimp only at hSw); go_simp; first | done | with_reducible rfl)
  simp only [Act.put, List.setIfInBounds_toArray, List.set_cons_zero, List.set_cons_succ]
  refine rg_take (v := ?_) 9 rfl (by kernel_rfl) (by kernel_rfl) (by kernel_rfl) (fun _ _ _ h => h) (by kernel_rfl) ?_ (by assumption) ?_
  rotate_left
  · (intro w' hSw; (try dsimp only at hSw); go_simp; first | done | with_reducible rfl)
  simp only [Act.put, List.setIfInBounds_toArray, List.set_cons_zero, List.set_cons_succ]
  refine wpAnyH_done (by kernel_rfl) ?_ _
  clear hHeld
  clear had1 had2 had3 hzI hzJ HSI HSJ
  generalize sI ++ ⟨#[32]⟩ ++ sJ ++ ⟨#[10]⟩ = s0 at *
  have HMB : Hid (MB wB w.heap.size az ax ar m.sz.length m.st.length m.rs.length cz cs cr) := Lib.hid ⟨a0, a1, a2⟩
  clear HB1 HB hzz htt
  go_wp2_with (fail)
  clear a0 a1 a2
  go_loopw [3, 5, 18] (fun o _ i wr => ∃ (k : Nat) (s : ByteArray), k ≤ m.rs.length ∧ i = .int .i64 k ∧ o = .string s ∧ Hid (s.data.toList = txUpto m k) ∧ s.size ≤ 100 + 300 * k ∧ Hid (MB wr w.heap.size az ax ar m.sz.length m.st.length m.rs.length cz cs cr) ∧ Hid (Below w.heap.size w wr)) (fun _ _ i _ => m.rs.length - (intOf i).toNat)
  case atStart => exact ⟨0, s0, Nat.zero_le _, rfl, rfl, HS0, HZ0.out, HMB, HB2⟩
  case round =>
    obtain ⟨k, s, hk, rfl, rfl, hS, hsz, HM, HBr⟩ := hrel
    clear HB2 HMB HS0 HZ0
    by_cases hlt : k < m.rs.length
    · obtain ⟨r, hz⟩ : ∃ z, m.rs[k]? = some z := ⟨_, List.getElem?_eq_getElem hlt⟩
      have HR := Lib.hid (HN.out.s.rs r (List.mem_of_getElem? hz))
      have HG := Lib.hid (HN.out.g r (List.mem_of_getElem? hz))
      have HST := Lib.hid (upto_step hz)
      obtain ⟨b, off, ag, cg, ae, ce, rfl, _, g0, g1, g2, hg, he⟩ := (H.out.r.below HBr.out).at hz
      have HGS := Lib.hid hg
      have HES := Lib.hid he
      have hk0 : (0 : Int) ≤ (k : Int) := by omega
      have hk1 : (k : Int) < (m.rs.length : Int) := by omega
      clear hz hg he
      have HXa : Hid (RB (wr.alloc (.cells #[.string r.nm, .slice ag r.gs.length cg, .slice ae r.es.length ce] 45)) wr.heap.size r.nm ag ae r.gs.length r.es.length cg ce) := Lib.hid ⟨by go_simp, by go_simp, by go_simp⟩
      have HBa := Lib.hid (below_alloc (Below.refl wr.heap.size wr) (.cells #[.string r.nm, .slice ag r.gs.length cg, .slice ae r.es.length ce] 45))
      go_upto_region 5 with (fail)
      generalize wr.alloc (.cells #[.string r.nm, .slice ag r.gs.length cg, .slice ae r.es.length ce] 45) = W1 at *
      obtain ⟨x0, x1, x2⟩ := HXa.out
      have HB1 := Lib.hid (below_chain HBr.out HBa.out)
      have HM1 := Lib.hid (HM.out.below HBa.out)
      have HG1 := Lib.hid (HGS.out.below HBa.out)
      have HE1 := Lib.hid (HES.out.below HBa.out)
      clear HXa HBa HBr HM HGS HES g0 g1 g2
      have hrt : (txRule r).length ≤ 200 := by
        have h1 := tests_len HR.out
        have h2 := asgs_len HR.out
        have h3 := HG.out
        have h4 : r.nm.data.toList.length = r.nm.size := (size_list rfl).symm
        unfold txRule
        simp only [List.length_append, List.length_cons]
        omega
      go_wp2_with (fail)
      refine (c_ruleText r ag ae cg ce _ HR.out HG.out.1 HG.out.2.1 HG.out.2.2 HG1.out HE1.out (HP.out.below HB1.out)).mono ?_
      rintro e w2 ⟨rfl, hb⟩
      have HB2 := Lib.hid (below_chain HB1.out hb)
      have HM2 := Lib.hid (HM1.out.below hb)
      have had1 : ∀ w, (Op.stringOp .add (bsT (txRule r)) ⟨#[10]⟩).run Tryz.prog w = .ok (.string (bsT (txRule r ++ [10]))) w := add_bsT (txRule r) [10] (by simp; omega)
      have had2 := add_str s (bsT (txRule r ++ [10])) (by rw [bsT_size]; simp; omega)
      have HL : Hid ((s ++ bsT (txRule r ++ [10])).data.toList = txUpto m (k + 1)) := Lib.hid (by rw [app_list, bsT_list, HST.out, hS.out]; simp)
      have HZ : Hid ((s ++ bsT (txRule r ++ [10])).size ≤ 100 + 300 * (k + 1)) := Lib.hid (by rw [ByteArray.size_append', bsT_size]; simp; omega)
      generalize txRule r ++ [10] = tl at *
      clear hb HB1 HM1 HG1 HE1 x0 x1 x2 hrt
      go_wp2_with (fail)
      go_roundw
      case rel => exact ⟨k + 1, _, by omega, by go_num, rfl, HL, HZ.out, HM2, HB2⟩
      case measure => simp [intOf]; omega
    · obtain rfl : k = m.rs.length := by omega
      go_wp2_with (fail)
      go_ret
      exact ⟨_, rfl, by rw [hS.out, upto_all], HBr.out⟩
set_option maxHeartbeats 1000000 in
set_option maxRecDepth 100000 in
theorem c_ModelText (m : Mdl) (az ax ar : Option Addr) (cz cs cr : Nat) (w : World) (hok : MOk m) (h : Md w az ax ar m) (hP : Pw w) :
    Calls Tryz.prog 12 #[mv m az ax ar cz cs cr] w (RetStr (outT m) w) := by
  have HIS := Lib.hid (fun w' h => c_IsModel m az ax ar cz cs cr w' hok h)
  have HMT := Lib.hid (fun hN w' h hP => c_modelText m az ax ar cz cs cr w' hN h hP)
  have H := Lib.hid h
  have HP := Lib.hid hP
  have HAB : Hid (Below w.heap.size w (w.alloc (.cells #[.slice az m.sz.length cz, .slice ax m.st.length cs, .slice ar m.rs.length cr] 25))) := Lib.hid (below_alloc (Below.refl _ _) _)
  have HA : Hid (MB (w.alloc (.cells #[.slice az m.sz.length cz, .slice ax m.st.length cs, .slice ar m.rs.length cr] 25)) w.heap.size az ax ar m.sz.length m.st.length m.rs.length cz cs cr) := Lib.hid ⟨by go_simp, by go_simp, by go_simp⟩
  clear hok h hP
  dsimp only [mv] at *
  go_enter Tryz.func12, Tryz.ntmps12
  go_upto_region 1 with (fail)
  generalize w.alloc (.cells #[.slice az m.sz.length cz, .slice ax m.st.length cs, .slice ar m.rs.length cr] 25) = W at *
  obtain ⟨a0, a1, a2⟩ := HA.out
  go_wp2_with (fail)
  refine (HIS.out _ (H.out.below HAB.out)).mono ?_
  rintro e w1 ⟨rfl, hb⟩
  have HB := Lib.hid (below_chain HAB.out hb)
  obtain ⟨a0, a1, a2⟩ := HA.out.below hb
  clear hb HA HAB HIS
  rcases hv : mdB m with _ | _
  · have HV : Hid (outT m = []) := Lib.hid (by unfold outT; rw [hv]; rfl)
    go_wp2_with (fail)
    go_ret
    exact ⟨_, rfl, by rw [HV.out], HB.out⟩
  · have HV : Hid (txModel m = outT m) := Lib.hid (by unfold outT; rw [hv]; rfl)
    have HN := Lib.hid (valid_N hv)
    clear hv
    go_wp2_with (fail)
    refine (HMT.out HN.out _ (H.out.below HB.out) (HP.out.below HB.out)).mono ?_
    rintro e w2 ⟨s, rfl, hs, hb⟩
    have HB2 := Lib.hid (below_chain HB.out hb)
    have HS := Lib.hid hs
    clear hb hs
    go_wp2_with (fail)
    go_ret
    exact ⟨s, rfl, by rw [HS.out, HV.out], HB2.out⟩
end Go.Proofs.YtgpmglfcdbpgkaaGreatDoor
