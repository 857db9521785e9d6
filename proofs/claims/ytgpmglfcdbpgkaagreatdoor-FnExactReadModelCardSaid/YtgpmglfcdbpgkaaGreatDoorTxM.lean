/- The text of a model, on the reference's side. Condition: the lists' sizes. -/
import Derived.Test.YtgpmglfcdbpgkaaGreatDoorTxQ
import Derived.Test.YtgpmglfcdbpgkaaGreatDoorMIsS
namespace Go.Proofs.YtgpmglfcdbpgkaaGreatDoor
open Go.RowKit

def outT (m : Mdl) : List UInt8 := if mdB m then txModel m else []
/-- The model in its box. -/
def MB (w : World) (b : Nat) (az ax ar : Option Addr) (zn xn rn cz cs cr : Nat) : Prop := w.cell? ⟨b, 0, none⟩ = some (.slice az zn cz) ∧ w.cell? ⟨b, 1, none⟩ = some (.slice ax xn cs) ∧ w.cell? ⟨b, 2, none⟩ = some (.slice ar rn cr)
theorem MB.below {w w' : World} {b : Nat} {az ax ar : Option Addr} {zn xn rn cz cs cr : Nat} (h : MB w b az ax ar zn xn rn cz cs cr) (hb : Below w.heap.size w w') : MB w' b az ax ar zn xn rn cz cs cr := ⟨cell_later hb h.1, cell_later hb h.2.1, cell_later hb h.2.2⟩
/-- What a valid model is bounded by. -/
structure MdlN (m : Mdl) : Prop where
  s : MdlS m
  z : m.sz.length ≤ 16
  t : m.st.length ≤ 16
  r : m.rs.length ≤ 200
  g : ∀ r ∈ m.rs, r.nm.size ≤ 16 ∧ r.gs.length ≤ 24 ∧ r.es.length ≤ 4
theorem valid_N {m : Mdl} (h : mdB m = true) : MdlN m := by
  have hS := valid_S h
  unfold mdB at h
  simp only [Bool.and_eq_true, decide_eq_true_eq] at h
  obtain ⟨h1, h2, h3, h4, h5⟩ := h
  have hl := of_decide_eq_true h2
  have hs : m.st.length = m.sz.length := by
    unfold stB at h3
    simp only [Bool.and_eq_true, decide_eq_true_eq] at h3
    exact h3.1
  refine ⟨hS, by omega, by omega, h4, fun r hr => ?_⟩
  have hr1 : rlB m.sz r = true := by
    unfold rsB at h5
    rw [Bool.not_eq_true', List.any_eq_false] at h5
    have := h5 r hr
    simpa using this
  unfold rlB at hr1
  simp only [Bool.and_eq_true, decide_eq_true_eq] at hr1
  obtain ⟨k1, k2, k3, k4⟩ := hr1
  refine ⟨?_, ?_, k4⟩
  · unfold nmB inB at k2
    simp only [Bool.and_eq_true, decide_eq_true_eq] at k2
    omega
  · unfold tsB at k3
    simp only [Bool.and_eq_true, decide_eq_true_eq] at k3
    exact k3.2
theorem head_len {m : Mdl} (h : MdlN m) : (txHead m).length ≤ 97 := by
  have h1 := nums_len h.s.sz m.sz.length
  have h2 := nums_len h.s.st m.st.length
  rw [List.take_length] at h1 h2
  have := h.z
  have := h.t
  unfold txHead
  simp
  omega
theorem list_len {ws : List (List UInt8)} (h : ∀ w ∈ ws, w.length ≤ 5) : (txList ws).length ≤ 6 * ws.length + 1 := by
  unfold txList
  split
  · simp
  · have := join_len (sep := [38]) h
    simp at this
    omega
theorem tests_len {r : Rul} (h : RulS r) : (txList (r.gs.map txTest)).length ≤ 6 * r.gs.length + 1 := by
  have := list_len (ws := r.gs.map txTest) (fun w hw => by obtain ⟨t, ht, rfl⟩ := List.mem_map.1 hw; exact test_len (h.gs t ht))
  simpa using this
theorem asgs_len {r : Rul} (h : RulS r) : (txList (r.es.map txAsg)).length ≤ 6 * r.es.length + 1 := by
  have := list_len (ws := r.es.map txAsg) (fun w hw => by obtain ⟨t, ht, rfl⟩ := List.mem_map.1 hw; exact asg_len (h.es t ht))
  simpa using this
def txUpto (m : Mdl) (k : Nat) : List UInt8 := (txHead m :: (m.rs.take k).map txRule).flatMap (· ++ [10])
theorem upto_zero (m : Mdl) : txUpto m 0 = txHead m ++ [10] := by simp [txUpto]
theorem upto_step {m : Mdl} {k : Nat} {r : Rul} (h : m.rs[k]? = some r) : txUpto m (k + 1) = txUpto m k ++ txRule r ++ [10] := by
  unfold txUpto
  rw [List.take_add_one, h]
  simp
theorem upto_all (m : Mdl) : txUpto m m.rs.length = txModel m := by unfold txUpto txModel; rw [List.take_length]
theorem sz1 (c : UInt8) : (⟨#[c]⟩ : ByteArray).size = 1 := rfl
theorem ls1 (c : UInt8) : (⟨#[c]⟩ : ByteArray).data.toList = [c] := rfl
set_option maxHeartbeats 4000000 in
set_option maxRecDepth 100000 in
theorem c_sModelText (m : Mdl) (az ax ar : Option Addr) (cz cs cr : Nat) (w : World) (hok : MOk m) (h : Md w az ax ar m) :
    Calls Tryz.prog 17 #[mv m az ax ar cz cs cr] w (RetStr (outT m) w) := by
  have HIS := Lib.hid (fun w' h => c_sIsModel m az ax ar cz cs cr w' hok h)
  have HOK := Lib.hid hok
  have H := Lib.hid h
  have HAB : Hid (Below w.heap.size w (w.alloc (.cells #[.slice az m.sz.length cz, .slice ax m.st.length cs, .slice ar m.rs.length cr] 25))) := Lib.hid (below_alloc (Below.refl _ _) _)
  have HA : Hid (MB (w.alloc (.cells #[.slice az m.sz.length cz, .slice ax m.st.length cs, .slice ar m.rs.length cr] 25)) w.heap.size az ax ar m.sz.length m.st.length m.rs.length cz cs cr) := Lib.hid ⟨by go_simp, by go_simp, by go_simp⟩
  clear hok h
  go_enter Tryz.func17, Tryz.ntmps17
  dsimp only [mv]
  go_upto_region 1 with (fail)
  generalize w.alloc (.cells #[.slice az m.sz.length cz, .slice ax m.st.length cs, .slice ar m.rs.length cr] 25) = W at *
  obtain ⟨a0, a1, a2⟩ := HA.out
  go_wp2_with (fail)
  refine (HIS.out _ (H.out.below HAB.out)).mono ?_
  rintro e w1 ⟨rfl, hb⟩
  have HB := Lib.hid (below_chain HAB.out hb)
  have HA1 := Lib.hid (HA.out.below hb)
  clear hb HA HAB a0 a1 a2 HIS
  rcases hv : mdB m with _ | _
  · have HV : Hid (outT m = []) := Lib.hid (by unfold outT; rw [hv]; rfl)
    go_wp2_with (fail)
    go_ret
    exact ⟨_, rfl, by rw [HV.out], HB.out⟩
  have HV : Hid (txModel m = outT m) := Lib.hid (by unfold outT; rw [hv]; rfl)
  have HN := Lib.hid (valid_N hv)
  clear hv
  obtain ⟨a0, a1, a2⟩ := HA1.out
  have hzl := HN.out.z
  have htl := HN.out.t
  have hrl := HN.out.r
  have hzz := nums_len HN.out.s.sz m.sz.length
  have htt := nums_len HN.out.s.st m.st.length
  rw [List.take_length] at hzz htt
  go_wp2_with (fail)
  refine wp_region_held_drew (S := (fun w' => w'.cell? ⟨w.heap.size, 0, none⟩ = some (.slice az m.sz.length cz) ∧ w'.cell? ⟨w.heap.size, 1, none⟩ = some (.slice ax m.st.length cs) ∧ w'.cell? ⟨w.heap.size, 2, none⟩ = some (.slice ar m.rs.length cr))) (by kernel_rfl) ?_ (fun hHeld => ?_)
  · exact ⟨a0, a1, a2⟩
  refine rg_take (v := ?_) 0 rfl (by kernel_rfl) (by kernel_rfl) (by kernel_rfl) (fun _ _ _ h => h) (by kernel_rfl) ?_ (by assumption) ?_
  rotate_left
  · (intro w' hSw; (try dsimp only at hSw); go_simp; first | done | with_reducible rfl)
  simp only [Act.put, List.setIfInBounds_toArray, List.set_cons_zero, List.set_cons_succ]
  refine rg_take (v := ?_) 1 rfl (by kernel_rfl) (by kernel_rfl) (by kernel_rfl) (fun _ _ _ h => h) (by kernel_rfl) ?_ (by assumption) ?_
  rotate_left
  · (intro w' hSw; (try dsimp only at hSw); go_simp; first | done | with_reducible rfl)
  simp only [Act.put, List.setIfInBounds_toArray, List.set_cons_zero, List.set_cons_succ]
  refine rg_take (v := ?_) 4 rfl (by kernel_rfl) (by kernel_rfl) (by kernel_rfl) (fun _ _ _ h => h) (by kernel_rfl) ?_ (by assumption) ?_
  rotate_left
  · (intro w' hSw; (try dsimp only at hSw); go_simp; first | done | with_reducible rfl)
  simp only [Act.put, List.setIfInBounds_toArray, List.set_cons_zero, List.set_cons_succ]
  refine rg_take (v := ?_) 5 rfl (by kernel_rfl) (by kernel_rfl) (by kernel_rfl) (fun _ _ _ h => h) (by kernel_rfl) ?_ (by assumption) ?_
  rotate_left
  · (intro w' hSw; (try dsimp only at hSw); go_simp; first | done | with_reducible rfl)
  simp only [Act.put, List.setIfInBounds_toArray, List.set_cons_zero, List.set_cons_succ]
  refine rg_run 2 rfl (by kernel_rfl) (by kernel_rfl) (fun K hK => ?_)
  go_simp
  refine (c_l20List az cz _ m.sz _ rfl (by omega) HN.out.s.sz (H.out.z.below HB.out).drew).mono ?_
  rintro e wA ⟨sI, rfl, hsI, hb⟩
  replace a0 := cell_later hb (by exact a0)
  replace a1 := cell_later hb (by exact a1)
  replace a2 := cell_later hb (by exact a2)
  have HB1 := Lib.hid (below_chain (by exact HB.out.drew) hb)
  have hzI := size_list hsI
  have HSI := Lib.hid hsI
  clear hb hsI
  have had1 := add_str sI ⟨#[32]⟩ (by rw [hzI, sz1]; omega)
  go_wp2
  clear hHeld
  refine hK.out _ _ (by exact ⟨a0, a1, a2⟩) (fun hHeld => ?_)
  clear hK K
  try simp only [Act.put, List.setIfInBounds_toArray, List.set_cons_zero, List.set_cons_succ]
  refine rg_take (v := ?_) 3 rfl (by kernel_rfl) (by kernel_rfl) (by kernel_rfl) (fun _ _ _ h => h) (by kernel_rfl) ?_ (by assumption) ?_
  rotate_left
  · (intro w' hSw; (try dsimp only at hSw); go_simp; first | done | with_reducible rfl)
  simp only [Act.put, List.setIfInBounds_toArray, List.set_cons_zero, List.set_cons_succ]
  refine rg_run 6 rfl (by kernel_rfl) (by kernel_rfl) (fun K hK => ?_)
  go_simp
  refine (c_l20List ax cs _ m.st _ rfl (by omega) HN.out.s.st (H.out.s.below HB1.out)).mono ?_
  rintro e wB ⟨sJ, rfl, hsJ, hb⟩
  replace a0 := cell_later hb (by exact a0)
  replace a1 := cell_later hb (by exact a1)
  replace a2 := cell_later hb (by exact a2)
  have HB2 := Lib.hid (below_chain HB1.out hb)
  have hzJ := size_list hsJ
  have HSJ := Lib.hid hsJ
  clear hb hsJ
  have had2 := add_str (sI ++ ⟨#[32]⟩) sJ (by rw [ByteArray.size_append', hzI, hzJ, sz1]; omega)
  have had3 := add_str (sI ++ ⟨#[32]⟩ ++ sJ) ⟨#[10]⟩ (by rw [ByteArray.size_append', ByteArray.size_append', hzI, hzJ, sz1, sz1]; omega)
  have HS0 : Hid ((sI ++ ⟨#[32]⟩ ++ sJ ++ ⟨#[10]⟩).data.toList = txUpto m 0) := Lib.hid (by rw [app_list, app_list, app_list, HSI.out, HSJ.out, ls1, ls1, upto_zero]; unfold txHead; simp)
  have HZ0 : Hid ((sI ++ ⟨#[32]⟩ ++ sJ ++ ⟨#[10]⟩).size ≤ 100) := Lib.hid (by rw [ByteArray.size_append', ByteArray.size_append', ByteArray.size_append', hzI, hzJ, sz1, sz1]; omega)
  go_wp2
  clear hHeld
  refine hK.out _ _ (by exact ⟨a0, a1, a2⟩) (fun hHeld => ?_)
  clear hK K
  try simp only [Act.put, List.setIfInBounds_toArray, List.set_cons_zero, List.set_cons_succ]
  refine rg_take (v := ?_) 7 rfl (by kernel_rfl) (by kernel_rfl) (by kernel_rfl) (fun _ _ _ h => h) (by kernel_rfl) ?_ (by assumption) ?_
  rotate_left
  · (intro w' hSw; (try dsimp only at hSw); go_simp; first | done | with_reducible rfl)
  simp only [Act.put, List.setIfInBounds_toArray, List.set_cons_zero, List.set_cons_succ]
  refine rg_take (v := ?_) 8 rfl (by kernel_rfl) (by kernel_rfl) (by kernel_rfl) (fun _ _ _ h => h) (by kernel_rfl) ?_ (by assumption) ?_
  rotate_left
  · (intro w' hSw; (try dsimp only at hSw); go_simp; first | done | with_reducible rfl)
  simp only [Act.put, List.setIfInBounds_toArray, List.set_cons_zero, List.set_cons_succ]
  refine rg_take (v := ?_) 9 rfl (by kernel_rfl) (by kernel_rfl) (by kernel_rfl) (fun _ _ _ h => h) (by kernel_rfl) ?_ (by assumption) ?_
  rotate_left
  · (intro w' hSw; (try dsimp only at hSw); go_simp; first | done | with_reducible rfl)
  simp only [Act.put, List.setIfInBounds_toArray, List.set_cons_zero, List.set_cons_succ]
  refine wpAnyH_done (by kernel_rfl) ?_ _
  clear hHeld
  clear had1 had2 had3 hzI hzJ HSI HSJ
  generalize sI ++ ⟨#[32]⟩ ++ sJ ++ ⟨#[10]⟩ = s0 at *
  have HMB : Hid (MB wB w.heap.size az ax ar m.sz.length m.st.length m.rs.length cz cs cr) := Lib.hid ⟨a0, a1, a2⟩
  clear a0 a1 a2 HA1 HB1 HB hzz htt
  go_wp2_with (fail)
  go_loopw [3, 4, 5, 6] (fun o i _ _ wr => ∃ (k : Nat) (s : ByteArray), k ≤ m.rs.length ∧ i = .int .i64 k ∧ o = .string s ∧ Hid (s.data.toList = txUpto m k) ∧ s.size ≤ 100 + 300 * k ∧ Hid (MB wr w.heap.size az ax ar m.sz.length m.st.length m.rs.length cz cs cr) ∧ Hid (Below w.heap.size w wr)) (fun _ i _ _ _ => m.rs.length - (intOf i).toNat)
  case atStart => exact ⟨0, s0, Nat.zero_le _, rfl, rfl, HS0, HZ0.out, HMB, HB2⟩
  case round =>
    obtain ⟨k, s, hk, rfl, rfl, hS, hsz, HM, HBr⟩ := hrel
    clear HB2 HMB HS0 HZ0
    obtain ⟨a0, a1, a2⟩ := HM.out
    by_cases hlt : k < m.rs.length
    · obtain ⟨r, hz⟩ : ∃ z, m.rs[k]? = some z := ⟨_, List.getElem?_eq_getElem hlt⟩
      have HR := Lib.hid (HN.out.s.rs r (List.mem_of_getElem? hz))
      have HG := Lib.hid (HN.out.g r (List.mem_of_getElem? hz))
      have HST := Lib.hid (upto_step hz)
      obtain ⟨b, off, ag, cg, ae, ce, rfl, _, g0, g1, g2, hg, he⟩ := (H.out.r.below HBr.out).at hz
      have HGS := Lib.hid hg
      have HES := Lib.hid he
      have hk0 : (0 : Int) ≤ (k : Int) := by omega
      have hk1 : (k : Int) < (m.rs.length : Int) := by omega
      clear hz hg he
      have hel := HG.out.2.2
      have HR0 : Hid (wr.cell? ⟨b, off + k * 3, none⟩ = some (.string r.nm) ∧ wr.cell? ⟨b, off + k * 3 + 1, none⟩ = some (.slice ag r.gs.length cg) ∧ wr.cell? ⟨b, off + k * 3 + 2, none⟩ = some (.slice ae r.es.length ce)) := Lib.hid ⟨g0, g1, g2⟩
      go_wp2_with (fail)
      clear a0 a1 a2 g0 g1 g2
      obtain ⟨wo, rfl⟩ : ∃ wo, wo = wr := ⟨_, rfl⟩
      go_loopw [5, 6] (fun e i wr => ∃ (q : Nat) (u : ByteArray), q ≤ r.es.length ∧ i = .int .i64 q ∧ e = .string u ∧ Hid (u.data.toList = Lib.join ((r.es.take q).map txAsg) [38]) ∧ u.size ≤ 6 * q ∧ Hid (Below wo.heap.size wo wr)) (fun _ i _ => r.es.length - (intOf i).toNat)
      case atStart => exact ⟨0, ⟨#[]⟩, Nat.zero_le _, rfl, rfl, Lib.hid rfl, Nat.le_refl _, Lib.hid (Below.refl _ _)⟩
      case round =>
        obtain ⟨q, u, hq, rfl, rfl, hU, huz, HB⟩ := hrel
        obtain ⟨a0, a1, a2⟩ := (HM.out.below HB.out)
        have g0 := cell_later HB.out HR0.out.1
        have g1 := cell_later HB.out HR0.out.2.1
        have g2 := cell_later HB.out HR0.out.2.2
        by_cases hql : q < r.es.length
        · obtain ⟨z, hz⟩ : ∃ z, r.es[q]? = some z := ⟨_, List.getElem?_eq_getElem hql⟩
          have HSM := Lib.hid (HR.out.es z (List.mem_of_getElem? hz))
          have HUT := Lib.hid (joinm_step txAsg [38] hz)
          obtain ⟨b2, o2, rfl, _, e0, e1⟩ := (HES.out.below HB.out).asg hz
          have hl1 := itoa_len HSM.out.1
          have hl2 := itoa_len HSM.out.2
          have hq0 : (0 : Int) ≤ (q : Int) := by omega
          have hq1 : (q : Int) < (r.es.length : Int) := by omega
          clear hz
          obtain ⟨v, x⟩ := z
          dsimp only at e0 e1 hl1 hl2
          obtain ⟨u0, hu0, hu0z, hu0l⟩ : ∃ u0 : ByteArray, u0 = (if q = 0 then u else u ++ ⟨#[38]⟩) ∧ u0.size ≤ 6 * q + 1 ∧ u0.data.toList ++ txAsg ⟨v, x⟩ = Lib.join ((r.es.take (q + 1)).map txAsg) [38] := by
            refine ⟨_, rfl, ?_, ?_⟩
            · split
              · omega
              · rw [ByteArray.size_append', sz1]
                omega
            · rw [HUT.out]
              split
              · next h0 =>
                subst h0
                rw [hU.out]
                rfl
              · rw [app_list, hU.out]
          have HU0 := Lib.hid hu0l
          have had0 := add_str u ⟨#[38]⟩ (by rw [sz1]; omega)
          clear hu0l HUT
          go_upto_if 38 with (fail)
          go_cut [5] from 38 to 40 (fun v wx => v = .string u0 ∧ wx = wr)
          case first =>
            by_cases h0 : q = 0
            · subst h0
              rw [if_pos rfl] at hu0
              subst hu0
              go_wp2_with (fail)
              go_meet
              case rel => exact ⟨rfl, rfl⟩
            · have hkp : (0 : Int) < (q : Int) := by omega
              rw [if_neg h0] at hu0
              subst hu0
              go_wp2_with (fail)
              go_meet
              case rel => exact ⟨rfl, rfl⟩
          case rest =>
            obtain ⟨rfl, hwc⟩ := hcut
            obtain rfl : wr = wc := hwc.symm
            clear had0 hu0 hU huz hwc
            go_wp2_with (fail)
            refine wp_region_held_drew (S := (fun w' => w'.cell? ⟨w.heap.size, 2, none⟩ = some (.slice (some ⟨b, off, none⟩) m.rs.length cr) ∧ w'.cell? ⟨b, off + k * 3 + 2, none⟩ = some (.slice (some ⟨b2, o2, none⟩) r.es.length ce) ∧ w'.cell? ⟨b2, o2 + q * 2, none⟩ = some (.int .i64 v) ∧ w'.cell? ⟨b2, o2 + q * 2 + 1, none⟩ = some (.int .i64 x))) (by kernel_rfl) ?_ (fun hHeld => ?_)
            · exact ⟨a2, g2, e0, e1⟩
            refine rg_take (v := ?_) 0 rfl (by kernel_rfl) (by kernel_rfl) (by kernel_rfl) (fun _ _ _ h => h) (by kernel_rfl) ?_ (by assumption) ?_
            rotate_left
            · (intro w' hSw; (try dsimp only at hSw); go_simp; first | done | with_reducible rfl)
            simp only [Act.put, List.setIfInBounds_toArray, List.set_cons_zero, List.set_cons_succ]
            refine rg_take (v := ?_) 1 rfl (by kernel_rfl) (by kernel_rfl) (by kernel_rfl) (fun _ _ _ h => h) (by kernel_rfl) ?_ (by assumption) ?_
            rotate_left
            · (intro w' hSw; (try dsimp only at hSw); go_simp; first | done | with_reducible rfl)
            simp only [Act.put, List.setIfInBounds_toArray, List.set_cons_zero, List.set_cons_succ]
            refine rg_take (v := ?_) 2 rfl (by kernel_rfl) (by kernel_rfl) (by kernel_rfl) (fun _ _ _ h => h) (by kernel_rfl) ?_ (by assumption) ?_
            rotate_left
            · (intro w' hSw; (try dsimp only at hSw); go_simp; first | done | with_reducible rfl)
            simp only [Act.put, List.setIfInBounds_toArray, List.set_cons_zero, List.set_cons_succ]
            refine rg_take (v := ?_) 3 rfl (by kernel_rfl) (by kernel_rfl) (by kernel_rfl) (fun _ _ _ h => h) (by kernel_rfl) ?_ (by assumption) ?_
            rotate_left
            · (intro w' hSw; (try dsimp only at hSw); go_simp; first | done | with_reducible rfl)
            simp only [Act.put, List.setIfInBounds_toArray, List.set_cons_zero, List.set_cons_succ]
            refine rg_take (v := ?_) 4 rfl (by kernel_rfl) (by kernel_rfl) (by kernel_rfl) (fun _ _ _ h => h) (by kernel_rfl) ?_ (by assumption) ?_
            rotate_left
            · (intro w' hSw; (try dsimp only at hSw); go_simp; first | done | with_reducible rfl)
            simp only [Act.put, List.setIfInBounds_toArray, List.set_cons_zero, List.set_cons_succ]
            refine rg_take (v := ?_) 5 rfl (by kernel_rfl) (by kernel_rfl) (by kernel_rfl) (fun _ _ _ h => h) (by kernel_rfl) ?_ (by assumption) ?_
            rotate_left
            · (intro w' hSw; (try dsimp only at hSw); go_simp; first | done | with_reducible rfl)
            simp only [Act.put, List.setIfInBounds_toArray, List.set_cons_zero, List.set_cons_succ]
            refine rg_take (v := ?_) 6 rfl (by kernel_rfl) (by kernel_rfl) (by kernel_rfl) (fun _ _ _ h => h) (by kernel_rfl) ?_ (by assumption) ?_
            rotate_left
            · (intro w' hSw; (try dsimp only at hSw); go_simp; first | done | with_reducible rfl)
            simp only [Act.put, List.setIfInBounds_toArray, List.set_cons_zero, List.set_cons_succ]
            refine rg_take (v := ?_) 7 rfl (by kernel_rfl) (by kernel_rfl) (by kernel_rfl) (fun _ _ _ h => h) (by kernel_rfl) ?_ (by assumption) ?_
            rotate_left
            · (intro w' hSw; (try dsimp only at hSw); go_simp; first | done | with_reducible rfl)
            simp only [Act.put, List.setIfInBounds_toArray, List.set_cons_zero, List.set_cons_succ]
            refine rg_take (v := ?_) 8 rfl (by kernel_rfl) (by kernel_rfl) (by kernel_rfl) (fun _ _ _ h => h) (by kernel_rfl) ?_ (by assumption) ?_
            rotate_left
            · (intro w' hSw; (try dsimp only at hSw); go_simp; first | done | with_reducible rfl)
            simp only [Act.put, List.setIfInBounds_toArray, List.set_cons_zero, List.set_cons_succ]
            refine rg_take (v := ?_) 9 rfl (by kernel_rfl) (by kernel_rfl) (by kernel_rfl) (fun _ _ _ h => h) (by kernel_rfl) ?_ (by assumption) ?_
            rotate_left
            · (intro w' hSw; (try dsimp only at hSw); go_simp; first | done | with_reducible rfl)
            simp only [Act.put, List.setIfInBounds_toArray, List.set_cons_zero, List.set_cons_succ]
            refine rg_take (v := ?_) 10 rfl (by kernel_rfl) (by kernel_rfl) (by kernel_rfl) (fun _ _ _ h => h) (by kernel_rfl) ?_ (by assumption) ?_
            rotate_left
            · (intro w' hSw; (try dsimp only at hSw); go_simp; first | done | with_reducible rfl)
            simp only [Act.put, List.setIfInBounds_toArray, List.set_cons_zero, List.set_cons_succ]
            refine rg_take (v := ?_) 14 rfl (by kernel_rfl) (by kernel_rfl) (by kernel_rfl) (fun _ _ _ h => h) (by kernel_rfl) ?_ (by assumption) ?_
            rotate_left
            · (intro w' hSw; (try dsimp only at hSw); go_simp; first | done | with_reducible rfl)
            simp only [Act.put, List.setIfInBounds_toArray, List.set_cons_zero, List.set_cons_succ]
            refine rg_take (v := ?_) 15 rfl (by kernel_rfl) (by kernel_rfl) (by kernel_rfl) (fun _ _ _ h => h) (by kernel_rfl) ?_ (by assumption) ?_
            rotate_left
            · (intro w' hSw; (try dsimp only at hSw); go_simp; first | done | with_reducible rfl)
            simp only [Act.put, List.setIfInBounds_toArray, List.set_cons_zero, List.set_cons_succ]
            refine rg_take (v := ?_) 16 rfl (by kernel_rfl) (by kernel_rfl) (by kernel_rfl) (fun _ _ _ h => h) (by kernel_rfl) ?_ (by assumption) ?_
            rotate_left
            · (intro w' hSw; (try dsimp only at hSw); go_simp; first | done | with_reducible rfl)
            simp only [Act.put, List.setIfInBounds_toArray, List.set_cons_zero, List.set_cons_succ]
            refine rg_take (v := ?_) 17 rfl (by kernel_rfl) (by kernel_rfl) (by kernel_rfl) (fun _ _ _ h => h) (by kernel_rfl) ?_ (by assumption) ?_
            rotate_left
            · (intro w' hSw; (try dsimp only at hSw); go_simp; first | done | with_reducible rfl)
            simp only [Act.put, List.setIfInBounds_toArray, List.set_cons_zero, List.set_cons_succ]
            refine rg_take (v := ?_) 18 rfl (by kernel_rfl) (by kernel_rfl) (by kernel_rfl) (fun _ _ _ h => h) (by kernel_rfl) ?_ (by assumption) ?_
            rotate_left
            · (intro w' hSw; (try dsimp only at hSw); go_simp; first | done | with_reducible rfl)
            simp only [Act.put, List.setIfInBounds_toArray, List.set_cons_zero, List.set_cons_succ]
            refine rg_take (v := ?_) 19 rfl (by kernel_rfl) (by kernel_rfl) (by kernel_rfl) (fun _ _ _ h => h) (by kernel_rfl) ?_ (by assumption) ?_
            rotate_left
            · (intro w' hSw; (try dsimp only at hSw); go_simp; first | done | with_reducible rfl)
            simp only [Act.put, List.setIfInBounds_toArray, List.set_cons_zero, List.set_cons_succ]
            refine rg_take (v := ?_) 20 rfl (by kernel_rfl) (by kernel_rfl) (by kernel_rfl) (fun _ _ _ h => h) (by kernel_rfl) ?_ (by assumption) ?_
            rotate_left
            · (intro w' hSw; (try dsimp only at hSw); go_simp; first | done | with_reducible rfl)
            simp only [Act.put, List.setIfInBounds_toArray, List.set_cons_zero, List.set_cons_succ]
            refine rg_take (v := ?_) 21 rfl (by kernel_rfl) (by kernel_rfl) (by kernel_rfl) (fun _ _ _ h => h) (by kernel_rfl) ?_ (by assumption) ?_
            rotate_left
            · (intro w' hSw; (try dsimp only at hSw); go_simp; first | done | with_reducible rfl)
            simp only [Act.put, List.setIfInBounds_toArray, List.set_cons_zero, List.set_cons_succ]
            refine rg_take (v := ?_) 22 rfl (by kernel_rfl) (by kernel_rfl) (by kernel_rfl) (fun _ _ _ h => h) (by kernel_rfl) ?_ (by assumption) ?_
            rotate_left
            · (intro w' hSw; (try dsimp only at hSw); go_simp; first | done | with_reducible rfl)
            simp only [Act.put, List.setIfInBounds_toArray, List.set_cons_zero, List.set_cons_succ]
            refine rg_take (v := ?_) 23 rfl (by kernel_rfl) (by kernel_rfl) (by kernel_rfl) (fun _ _ _ h => h) (by kernel_rfl) ?_ (by assumption) ?_
            rotate_left
            · (intro w' hSw; (try dsimp only at hSw); go_simp; first | done | with_reducible rfl)
            simp only [Act.put, List.setIfInBounds_toArray, List.set_cons_zero, List.set_cons_succ]
            refine rg_run 11 rfl (by kernel_rfl) (by kernel_rfl) (fun K hK => ?_)
            go_simp
            refine (c_l01DecS v HSM.out.1 _).mono ?_
            rintro e wA ⟨sI, rfl, hsI, hb⟩
            replace a2 := cell_later hb (by exact a2)
            replace g2 := cell_later hb (by exact g2)
            replace e0 := cell_later hb (by exact e0)
            replace e1 := cell_later hb (by exact e1)
            have HB1 := Lib.hid (below_chain (by exact HB.out.drew) hb)
            have hzI := size_list hsI
            have HSI := Lib.hid hsI
            clear hb hsI
            have had1 := add_str u0 sI (by rw [hzI]; omega)
            have hz1 : (u0 ++ sI).size ≤ 6 * q + 3 := by rw [ByteArray.size_append', hzI]; omega
            have had2 := add_str (u0 ++ sI) ⟨#[58]⟩ (by rw [sz1]; omega)
            have hz2 : (u0 ++ sI ++ ⟨#[58]⟩).size ≤ 6 * q + 4 := by rw [ByteArray.size_append', sz1]; omega
            go_wp2
            clear hHeld
            refine hK.out _ _ (by exact ⟨a2, g2, e0, e1⟩) (fun hHeld => ?_)
            clear hK K
            try simp only [Act.put, List.setIfInBounds_toArray, List.set_cons_zero, List.set_cons_succ]
            refine rg_take (v := ?_) 12 rfl (by kernel_rfl) (by kernel_rfl) (by kernel_rfl) (fun _ _ _ h => h) (by kernel_rfl) ?_ (by assumption) ?_
            rotate_left
            · (intro w' hSw; (try dsimp only at hSw); go_simp; first | done | with_reducible rfl)
            simp only [Act.put, List.setIfInBounds_toArray, List.set_cons_zero, List.set_cons_succ]
            refine rg_take (v := ?_) 13 rfl (by kernel_rfl) (by kernel_rfl) (by kernel_rfl) (fun _ _ _ h => h) (by kernel_rfl) ?_ (by assumption) ?_
            rotate_left
            · (intro w' hSw; (try dsimp only at hSw); go_simp; first | done | with_reducible rfl)
            simp only [Act.put, List.setIfInBounds_toArray, List.set_cons_zero, List.set_cons_succ]
            refine rg_run 24 rfl (by kernel_rfl) (by kernel_rfl) (fun K hK => ?_)
            go_simp
            refine (c_l01DecS x HSM.out.2 _).mono ?_
            rintro e wB ⟨sJ, rfl, hsJ, hb⟩
            replace a2 := cell_later hb (by exact a2)
            replace g2 := cell_later hb (by exact g2)
            replace e0 := cell_later hb (by exact e0)
            replace e1 := cell_later hb (by exact e1)
            have HB2 := Lib.hid (below_chain HB1.out hb)
            have hzJ := size_list hsJ
            have HSJ := Lib.hid hsJ
            clear hb hsJ
            have had3 := add_str (u0 ++ sI ++ ⟨#[58]⟩) sJ (by rw [hzJ]; omega)
            have HZ3 : Hid ((u0 ++ sI ++ ⟨#[58]⟩ ++ sJ).size ≤ 6 * (q + 1)) := Lib.hid (by rw [ByteArray.size_append', hzJ]; omega)
            have HL3 : Hid ((u0 ++ sI ++ ⟨#[58]⟩ ++ sJ).data.toList = Lib.join ((r.es.take (q + 1)).map txAsg) [38]) := Lib.hid (by rw [app_list, app_list, app_list, HSI.out, ls1, HSJ.out, ← HU0.out]; unfold txAsg; simp)
            go_wp2
            clear hHeld
            refine hK.out _ _ (by exact ⟨a2, g2, e0, e1⟩) (fun hHeld => ?_)
            clear hK K
            try simp only [Act.put, List.setIfInBounds_toArray, List.set_cons_zero, List.set_cons_succ]
            refine rg_take (v := ?_) 25 rfl (by kernel_rfl) (by kernel_rfl) (by kernel_rfl) (fun _ _ _ h => h) (by kernel_rfl) ?_ (by assumption) ?_
            rotate_left
            · (intro w' hSw; (try dsimp only at hSw); go_simp; first | done | with_reducible rfl)
            simp only [Act.put, List.setIfInBounds_toArray, List.set_cons_zero, List.set_cons_succ]
            refine rg_take (v := ?_) 26 rfl (by kernel_rfl) (by kernel_rfl) (by kernel_rfl) (fun _ _ _ h => h) (by kernel_rfl) ?_ (by assumption) ?_
            rotate_left
            · (intro w' hSw; (try dsimp only at hSw); go_simp; first | done | with_reducible rfl)
            simp only [Act.put, List.setIfInBounds_toArray, List.set_cons_zero, List.set_cons_succ]
            refine wpAnyH_done (by kernel_rfl) ?_ _
            clear hHeld
            clear had1 had2 had3 hz1 hz2 a2 g2 e0 e1 a0 a1 g0 g1
            go_wp2_with (fail)
            go_roundw
            case rel => exact ⟨q + 1, _, by omega, by go_num, rfl, HL3, HZ3.out, HB2⟩
            case measure => simp [intOf]; omega
        · obtain rfl : q = r.es.length := by omega
          rw [List.take_length] at hU
          obtain ⟨u1, hu1⟩ : ∃ u1 : ByteArray, u1 = (if r.es.length = 0 then ⟨#[45]⟩ else u) := ⟨_, rfl⟩
          have HU1 : Hid (u1.data.toList = txList (r.es.map txAsg)) := Lib.hid (by
            subst hu1
            unfold txList
            by_cases h0 : r.es.length = 0
            · have : r.es = [] := List.eq_nil_of_length_eq_zero h0
              rw [if_pos h0, if_pos (by rw [this]; rfl)]
            · rw [if_neg h0, if_neg (by intro e; have : (r.es.map txAsg).length = 0 := by rw [e]; rfl
                                        rw [List.length_map] at this; exact h0 this), hU.out])
          have hzu := size_list HU1.out
          have hul := asgs_len HR.out
          have htl2 := tests_len HR.out
          have hgl := HG.out.2.1
          have hnl := HG.out.1
          go_upto_if 68 with (fail)
          go_cut [5] from 68 to 68 (fun v wx => v = .string u1 ∧ wx = wr)
          case first =>
            by_cases h0 : r.es.length = 0
            · rw [if_pos h0] at hu1
              subst hu1
              have hu0 : u = ⟨#[]⟩ := nil_list (by rw [hU.out, List.eq_nil_of_length_eq_zero h0]; rfl)
              subst hu0
              clear h0
              have hem : (⟨#[]⟩ : ByteArray).toList.isEmpty = true := by rw [Lib.toList_data]; rfl
              simp only [hem]
              go_wp2_with (fail)
              go_meet
              case rel => exact ⟨rfl, rfl⟩
            · rw [if_neg h0] at hu1
              subst hu1
              have hl0 : r.es.map txAsg ≠ [] := by
                intro e
                have : (r.es.map txAsg).length = 0 := by rw [e]; rfl
                rw [List.length_map] at this
                exact h0 this
              obtain ⟨c0, t0, hj⟩ := join_head hl0 (fun w hw => by obtain ⟨t, ht, rfl⟩ := List.mem_map.1 hw; exact word_asg (HR.out.es t ht)) [38]
              have hem := isE (hU.out.trans hj)
              clear hj
              simp only [hem]
              go_wp2_with (fail)
              go_meet
              case rel => exact ⟨rfl, rfl⟩
          case rest =>
            obtain ⟨rfl, hwc⟩ := hcut
            obtain rfl : wr = wc := hwc.symm
            clear hu1 hU huz hwc
            have had1 := add_str s r.nm (by omega)
            have hz1 : (s ++ r.nm).size ≤ 116 + 300 * k := by rw [ByteArray.size_append']; omega
            have had2 := add_str (s ++ r.nm) ⟨#[32]⟩ (by rw [sz1]; omega)
            have hz2 : (s ++ r.nm ++ ⟨#[32]⟩).size ≤ 117 + 300 * k := by rw [ByteArray.size_append', sz1]; omega
            go_wp2_with (fail)
            refine wp_region_held_drew (S := (fun w' => w'.cell? ⟨w.heap.size, 2, none⟩ = some (.slice (some ⟨b, off, none⟩) m.rs.length cr) ∧ w'.cell? ⟨b, off + k * 3, none⟩ = some (.string r.nm) ∧ w'.cell? ⟨b, off + k * 3 + 1, none⟩ = some (.slice ag r.gs.length cg))) (by kernel_rfl) ?_ (fun hHeld => ?_)
            · exact ⟨a2, g0, g1⟩
            refine rg_take (v := ?_) 0 rfl (by kernel_rfl) (by kernel_rfl) (by kernel_rfl) (fun _ _ _ h => h) (by kernel_rfl) ?_ (by assumption) ?_
            rotate_left
            · (intro w' hSw; (try dsimp only at hSw); go_simp; first | done | with_reducible rfl)
            simp only [Act.put, List.setIfInBounds_toArray, List.set_cons_zero, List.set_cons_succ]
            refine rg_take (v := ?_) 1 rfl (by kernel_rfl) (by kernel_rfl) (by kernel_rfl) (fun _ _ _ h => h) (by kernel_rfl) ?_ (by assumption) ?_
            rotate_left
            · (intro w' hSw; (try dsimp only at hSw); go_simp; first | done | with_reducible rfl)
            simp only [Act.put, List.setIfInBounds_toArray, List.set_cons_zero, List.set_cons_succ]
            refine rg_take (v := ?_) 2 rfl (by kernel_rfl) (by kernel_rfl) (by kernel_rfl) (fun _ _ _ h => h) (by kernel_rfl) ?_ (by assumption) ?_
            rotate_left
            · (intro w' hSw; (try dsimp only at hSw); go_simp; first | done | with_reducible rfl)
            simp only [Act.put, List.setIfInBounds_toArray, List.set_cons_zero, List.set_cons_succ]
            refine rg_take (v := ?_) 3 rfl (by kernel_rfl) (by kernel_rfl) (by kernel_rfl) (fun _ _ _ h => h) (by kernel_rfl) ?_ (by assumption) ?_
            rotate_left
            · (intro w' hSw; (try dsimp only at hSw); go_simp; first | done | with_reducible rfl)
            simp only [Act.put, List.setIfInBounds_toArray, List.set_cons_zero, List.set_cons_succ]
            refine rg_take (v := ?_) 4 rfl (by kernel_rfl) (by kernel_rfl) (by kernel_rfl) (fun _ _ _ h => h) (by kernel_rfl) ?_ (by assumption) ?_
            rotate_left
            · (intro w' hSw; (try dsimp only at hSw); go_simp; first | done | with_reducible rfl)
            simp only [Act.put, List.setIfInBounds_toArray, List.set_cons_zero, List.set_cons_succ]
            refine rg_take (v := ?_) 5 rfl (by kernel_rfl) (by kernel_rfl) (by kernel_rfl) (fun _ _ _ h => h) (by kernel_rfl) ?_ (by assumption) ?_
            rotate_left
            · (intro w' hSw; (try dsimp only at hSw); go_simp; first | done | with_reducible rfl)
            simp only [Act.put, List.setIfInBounds_toArray, List.set_cons_zero, List.set_cons_succ]
            refine rg_take (v := ?_) 6 rfl (by kernel_rfl) (by kernel_rfl) (by kernel_rfl) (fun _ _ _ h => h) (by kernel_rfl) ?_ (by assumption) ?_
            rotate_left
            · (intro w' hSw; (try dsimp only at hSw); go_simp; first | done | with_reducible rfl)
            simp only [Act.put, List.setIfInBounds_toArray, List.set_cons_zero, List.set_cons_succ]
            refine rg_take (v := ?_) 7 rfl (by kernel_rfl) (by kernel_rfl) (by kernel_rfl) (fun _ _ _ h => h) (by kernel_rfl) ?_ (by assumption) ?_
            rotate_left
            · (intro w' hSw; (try dsimp only at hSw); go_simp; first | done | with_reducible rfl)
            simp only [Act.put, List.setIfInBounds_toArray, List.set_cons_zero, List.set_cons_succ]
            refine rg_take (v := ?_) 8 rfl (by kernel_rfl) (by kernel_rfl) (by kernel_rfl) (fun _ _ _ h => h) (by kernel_rfl) ?_ (by assumption) ?_
            rotate_left
            · (intro w' hSw; (try dsimp only at hSw); go_simp; first | done | with_reducible rfl)
            simp only [Act.put, List.setIfInBounds_toArray, List.set_cons_zero, List.set_cons_succ]
            refine rg_take (v := ?_) 9 rfl (by kernel_rfl) (by kernel_rfl) (by kernel_rfl) (fun _ _ _ h => h) (by kernel_rfl) ?_ (by assumption) ?_
            rotate_left
            · (intro w' hSw; (try dsimp only at hSw); go_simp; first | done | with_reducible rfl)
            simp only [Act.put, List.setIfInBounds_toArray, List.set_cons_zero, List.set_cons_succ]
            refine rg_take (v := ?_) 10 rfl (by kernel_rfl) (by kernel_rfl) (by kernel_rfl) (fun _ _ _ h => h) (by kernel_rfl) ?_ (by assumption) ?_
            rotate_left
            · (intro w' hSw; (try dsimp only at hSw); go_simp; first | done | with_reducible rfl)
            simp only [Act.put, List.setIfInBounds_toArray, List.set_cons_zero, List.set_cons_succ]
            refine rg_take (v := ?_) 11 rfl (by kernel_rfl) (by kernel_rfl) (by kernel_rfl) (fun _ _ _ h => h) (by kernel_rfl) ?_ (by assumption) ?_
            rotate_left
            · (intro w' hSw; (try dsimp only at hSw); go_simp; first | done | with_reducible rfl)
            simp only [Act.put, List.setIfInBounds_toArray, List.set_cons_zero, List.set_cons_succ]
            refine rg_take (v := ?_) 12 rfl (by kernel_rfl) (by kernel_rfl) (by kernel_rfl) (fun _ _ _ h => h) (by kernel_rfl) ?_ (by assumption) ?_
            rotate_left
            · (intro w' hSw; (try dsimp only at hSw); go_simp; first | done | with_reducible rfl)
            simp only [Act.put, List.setIfInBounds_toArray, List.set_cons_zero, List.set_cons_succ]
            refine rg_take (v := ?_) 13 rfl (by kernel_rfl) (by kernel_rfl) (by kernel_rfl) (fun _ _ _ h => h) (by kernel_rfl) ?_ (by assumption) ?_
            rotate_left
            · (intro w' hSw; (try dsimp only at hSw); go_simp; first | done | with_reducible rfl)
            simp only [Act.put, List.setIfInBounds_toArray, List.set_cons_zero, List.set_cons_succ]
            refine rg_take (v := ?_) 14 rfl (by kernel_rfl) (by kernel_rfl) (by kernel_rfl) (fun _ _ _ h => h) (by kernel_rfl) ?_ (by assumption) ?_
            rotate_left
            · (intro w' hSw; (try dsimp only at hSw); go_simp; first | done | with_reducible rfl)
            simp only [Act.put, List.setIfInBounds_toArray, List.set_cons_zero, List.set_cons_succ]
            refine rg_take (v := ?_) 18 rfl (by kernel_rfl) (by kernel_rfl) (by kernel_rfl) (fun _ _ _ h => h) (by kernel_rfl) ?_ (by assumption) ?_
            rotate_left
            · (intro w' hSw; (try dsimp only at hSw); go_simp; first | done | with_reducible rfl)
            simp only [Act.put, List.setIfInBounds_toArray, List.set_cons_zero, List.set_cons_succ]
            refine rg_run 15 rfl (by kernel_rfl) (by kernel_rfl) (fun K hK => ?_)
            go_simp
            refine (c_l20TestsText ag cg _ r.gs _ rfl (by omega) HR.out.gs (HGS.out.below HB.out).drew).mono ?_
            rintro e w4 ⟨s4, rfl, hs4, hb⟩
            have HBw := Lib.hid (below_chain HBr.out (below_chain HB.out (below_chain (Below.refl _ _).drew hb)))
            have HM4 := Lib.hid (HM.out.below (below_chain HB.out (below_chain (Below.refl _ _).drew hb)))
            replace a2 := cell_later hb (by exact a2)
            replace g0 := cell_later hb (by exact g0)
            replace g1 := cell_later hb (by exact g1)
            have hz4 := size_list hs4
            have HS4 := Lib.hid hs4
            clear hb hs4
            have had3 := add_str (s ++ r.nm ++ ⟨#[32]⟩) s4 (by rw [hz4]; omega)
            have hz5 : (s ++ r.nm ++ ⟨#[32]⟩ ++ s4).size ≤ 262 + 300 * k := by rw [ByteArray.size_append', hz4]; omega
            have had4 := add_str (s ++ r.nm ++ ⟨#[32]⟩ ++ s4) ⟨#[32]⟩ (by rw [sz1]; omega)
            have hz6 : (s ++ r.nm ++ ⟨#[32]⟩ ++ s4 ++ ⟨#[32]⟩).size ≤ 263 + 300 * k := by rw [ByteArray.size_append', sz1]; omega
            have had5 := add_str (s ++ r.nm ++ ⟨#[32]⟩ ++ s4 ++ ⟨#[32]⟩) u1 (by rw [hzu]; omega)
            have hz7 : (s ++ r.nm ++ ⟨#[32]⟩ ++ s4 ++ ⟨#[32]⟩ ++ u1).size ≤ 290 + 300 * k := by rw [ByteArray.size_append', hzu]; omega
            have had6 := add_str (s ++ r.nm ++ ⟨#[32]⟩ ++ s4 ++ ⟨#[32]⟩ ++ u1) ⟨#[10]⟩ (by rw [sz1]; omega)
            have HZ8 : Hid ((s ++ r.nm ++ ⟨#[32]⟩ ++ s4 ++ ⟨#[32]⟩ ++ u1 ++ ⟨#[10]⟩).size ≤ 100 + 300 * (k + 1)) := Lib.hid (by rw [ByteArray.size_append', sz1]; omega)
            have HL8 : Hid ((s ++ r.nm ++ ⟨#[32]⟩ ++ s4 ++ ⟨#[32]⟩ ++ u1 ++ ⟨#[10]⟩).data.toList = txUpto m (k + 1)) := Lib.hid (by rw [HST.out, ← hS.out, app_list, app_list, app_list, app_list, app_list, app_list, ls1, ls1, HS4.out, HU1.out]; unfold txRule; simp)
            go_wp2
            clear hHeld
            refine hK.out _ _ (by exact ⟨a2, g0, g1⟩) (fun hHeld => ?_)
            clear hK K
            try simp only [Act.put, List.setIfInBounds_toArray, List.set_cons_zero, List.set_cons_succ]
            refine rg_take (v := ?_) 16 rfl (by kernel_rfl) (by kernel_rfl) (by kernel_rfl) (fun _ _ _ h => h) (by kernel_rfl) ?_ (by assumption) ?_
            rotate_left
            · (intro w' hSw; (try dsimp only at hSw); go_simp; first | done | with_reducible rfl)
            simp only [Act.put, List.setIfInBounds_toArray, List.set_cons_zero, List.set_cons_succ]
            refine rg_take (v := ?_) 17 rfl (by kernel_rfl) (by kernel_rfl) (by kernel_rfl) (fun _ _ _ h => h) (by kernel_rfl) ?_ (by assumption) ?_
            rotate_left
            · (intro w' hSw; (try dsimp only at hSw); go_simp; first | done | with_reducible rfl)
            simp only [Act.put, List.setIfInBounds_toArray, List.set_cons_zero, List.set_cons_succ]
            refine rg_take (v := ?_) 19 rfl (by kernel_rfl) (by kernel_rfl) (by kernel_rfl) (fun _ _ _ h => h) (by kernel_rfl) ?_ (by assumption) ?_
            rotate_left
            · (intro w' hSw; (try dsimp only at hSw); go_simp; first | done | with_reducible rfl)
            simp only [Act.put, List.setIfInBounds_toArray, List.set_cons_zero, List.set_cons_succ]
            refine rg_take (v := ?_) 20 rfl (by kernel_rfl) (by kernel_rfl) (by kernel_rfl) (fun _ _ _ h => h) (by kernel_rfl) ?_ (by assumption) ?_
            rotate_left
            · (intro w' hSw; (try dsimp only at hSw); go_simp; first | done | with_reducible rfl)
            simp only [Act.put, List.setIfInBounds_toArray, List.set_cons_zero, List.set_cons_succ]
            refine rg_take (v := ?_) 21 rfl (by kernel_rfl) (by kernel_rfl) (by kernel_rfl) (fun _ _ _ h => h) (by kernel_rfl) ?_ (by assumption) ?_
            rotate_left
            · (intro w' hSw; (try dsimp only at hSw); go_simp; first | done | with_reducible rfl)
            simp only [Act.put, List.setIfInBounds_toArray, List.set_cons_zero, List.set_cons_succ]
            refine wpAnyH_done (by kernel_rfl) ?_ _
            clear hHeld
            clear had1 had2 had3 had4 had5 had6 hz1 hz2 hz4 hz5 hz6 hz7 a0 a1 a2 g0 g1 g2 hzu hul htl2
            go_wp2_with (fail)
            go_roundw
            case rel => exact ⟨k + 1, _, by omega, by go_num, rfl, HL8, HZ8.out, HM4, HBw⟩
            case measure => simp [intOf]; omega
    · obtain rfl : k = m.rs.length := by omega
      go_wp2_with (fail)
      go_ret
      exact ⟨_, rfl, by rw [hS.out, upto_all, HV.out], HBr.out⟩
end Go.Proofs.YtgpmglfcdbpgkaaGreatDoor
