/- Contracts and helpers (joined texts, part 1). The conditions stand at each theorem. -/
import Derived.Test.YtgpmglfcdbpgkaaGreatDoorH0
import Derived.Test.YtgpmglfcdbpgkaaGreatDoorMIsS
import Derived.Test.YtgpmglfcdbpgkaaGreatDoorShf
import Derived.Lib.AppendIntMem
import Derived.Test.YtgpmglfcdbpgkaaGreatDoorPshM
/- The text of a model, on the reference's side. Condition: the lists' sizes. -/
namespace Go.Proofs.YtgpmglfcdbpgkaaGreatDoor
open Go.RowKit

def outT (m : Mdl) : List UInt8 := if mdB m then txModel m else []
/-- The model in its box. -/
def MB (w : World) (b : Nat) (az ax ar : Option Addr) (zn xn rn cz cs cr : Nat) : Prop := w.cell? ⟨b, 0, none⟩ = some (.slice az zn cz) ∧ w.cell? ⟨b, 1, none⟩ = some (.slice ax xn cs) ∧ w.cell? ⟨b, 2, none⟩ = some (.slice ar rn cr)
theorem MB.below {w w' : World} {b : Nat} {az ax ar : Option Addr} {zn xn rn cz cs cr : Nat} (h : MB w b az ax ar zn xn rn cz cs cr) (hb : Below w.heap.size w w') : MB w' b az ax ar zn xn rn cz cs cr := ⟨cell_later hb h.1, cell_later hb h.2.1, cell_later hb h.2.2⟩
/-- What a valid model is bounded by. -/
structure MdlN (m : Mdl) : Prop where
  s : MdlS m
  z : m.sz.length ≤ 16
  t : m.st.length ≤ 16
  r : m.rs.length ≤ 200
  g : ∀ r ∈ m.rs, r.nm.size ≤ 16 ∧ r.gs.length ≤ 24 ∧ r.es.length ≤ 4
theorem valid_N {m : Mdl} (h : mdB m = true) : MdlN m := by
  have hS := valid_S h
  unfold mdB at h
  simp only [Bool.and_eq_true, decide_eq_true_eq] at h
  obtain ⟨h1, h2, h3, h4, h5⟩ := h
  have hl := of_decide_eq_true h2
  have hs : m.st.length = m.sz.length := by
    unfold stB at h3
    simp only [Bool.and_eq_true, decide_eq_true_eq] at h3
    exact h3.1
  refine ⟨hS, by omega, by omega, h4, fun r hr => ?_⟩
  have hr1 : rlB m.sz r = true := by
    unfold rsB at h5
    rw [Bool.not_eq_true', List.any_eq_false] at h5
    have := h5 r hr
    simpa using this
  unfold rlB at hr1
  simp only [Bool.and_eq_true, decide_eq_true_eq] at hr1
  obtain ⟨k1, k2, k3, k4⟩ := hr1
  refine ⟨?_, ?_, k4⟩
  · unfold nmB inB at k2
    simp only [Bool.and_eq_true, decide_eq_true_eq] at k2
    omega
  · unfold tsB at k3
    simp only [Bool.and_eq_true, decide_eq_true_eq] at k3
    exact k3.2
theorem head_len {m : Mdl} (h : MdlN m) : (txHead m).length ≤ 97 := by
  have h1 := nums_len h.s.sz m.sz.length
  have h2 := nums_len h.s.st m.st.length
  rw [List.take_length] at h1 h2
  have := h.z
  have := h.t
  unfold txHead
  simp
  omega
theorem list_len {ws : List (List UInt8)} (h : ∀ w ∈ ws, w.length ≤ 5) : (txList ws).length ≤ 6 * ws.length + 1 := by
  unfold txList
  split
  · simp
  · have := join_len (sep := [38]) h
    simp at this
    omega
theorem tests_len {r : Rul} (h : RulS r) : (txList (r.gs.map txTest)).length ≤ 6 * r.gs.length + 1 := by
  have := list_len (ws := r.gs.map txTest) (fun w hw => by obtain ⟨t, ht, rfl⟩ := List.mem_map.1 hw; exact test_len (h.gs t ht))
  simpa using this
theorem asgs_len {r : Rul} (h : RulS r) : (txList (r.es.map txAsg)).length ≤ 6 * r.es.length + 1 := by
  have := list_len (ws := r.es.map txAsg) (fun w hw => by obtain ⟨t, ht, rfl⟩ := List.mem_map.1 hw; exact asg_len (h.es t ht))
  simpa using this
def txUpto (m : Mdl) (k : Nat) : List UInt8 := (txHead m :: (m.rs.take k).map txRule).flatMap (· ++ [10])
theorem upto_zero (m : Mdl) : txUpto m 0 = txHead m ++ [10] := by simp [txUpto]
theorem upto_step {m : Mdl} {k : Nat} {r : Rul} (h : m.rs[k]? = some r) : txUpto m (k + 1) = txUpto m k ++ txRule r ++ [10] := by
  unfold txUpto
  rw [List.take_add_one, h]
  simp
theorem upto_all (m : Mdl) : txUpto m m.rs.length = txModel m := by unfold txUpto txModel; rw [List.take_length]
theorem sz1 (c : UInt8) : (⟨#[c]⟩ : ByteArray).size = 1 := rfl
theorem ls1 (c : UInt8) : (⟨#[c]⟩ : ByteArray).data.toList = [c] := rfl
set_option maxHeartbeats 4000000 in
set_option maxRecDepth 100000 in
theorem c_sModelText (m : Mdl) (az ax ar : Option Addr) (cz cs cr : Nat) (w : World) (hok : MOk m) (h : Md w az ax ar m) :
    Calls Tryz.prog 17 #[mv m az ax ar cz cs cr] w (RetStr (outT m) w) := by
  have HIS := Lib.hid (fun w' h => c_sIsModel m az ax ar cz cs cr w' hok h)
  have HOK := Lib.hid hok
  have H := Lib.hid h
  have HAB : Hid (Below w.heap.size w (w.alloc (.cells #[.slice az m.sz.length cz, .slice ax m.st.length cs, .slice ar m.rs.length cr] 25))) := Lib.hid (below_alloc (Below.refl _ _) _)
  have HA : Hid (MB (w.alloc (.cells #[.slice az m.sz.length cz, .slice ax m.st.length cs, .slice ar m.rs.length cr] 25)) w.heap.size az ax ar m.sz.length m.st.length m.rs.length cz cs cr) := Lib.hid ⟨by go_simp, by go_simp, by go_simp⟩
  clear hok h
  go_enter Tryz.func17, Tryz.ntmps17
  dsimp only [mv]
  go_upto_region 1 with (fail)
  generalize w.alloc (.cells #[.slice az m.sz.length cz, .slice ax m.st.length cs, .slice ar m.rs.length cr] 25) = W at *
  obtain ⟨a0, a1, a2⟩ := HA.out
  go_wp2_with (fail)
  refine (HIS.out _ (H.out.below HAB.out)).mono ?_
  rintro e w1 ⟨rfl, hb⟩
  have HB := Lib.hid (below_chain HAB.out hb)
  have HA1 := Lib.hid (HA.out.below hb)
  clear hb HA HAB a0 a1 a2 HIS
  rcases hv : mdB m with _ | _
  · have HV : Hid (outT m = []) := Lib.hid (by unfold outT; rw [hv]; rfl)
    go_wp2_with (fail)
    go_ret
    exact ⟨_, rfl, by rw [HV.out], HB.out⟩
  have HV : Hid (txModel m = outT m) := Lib.hid (by unfold outT; rw [hv]; rfl)
  have HN := Lib.hid (valid_N hv)
  clear hv
  obtain ⟨a0, a1, a2⟩ := HA1.out
  have hzl := HN.out.z
  have htl := HN.out.t
  have hrl := HN.out.r
  have hzz := nums_len HN.out.s.sz m.sz.length
  have htt := nums_len HN.out.s.st m.st.length
  rw [List.take_length] at hzz htt
  go_wp2_with (fail)
  refine wp_region_held_drew (S := (fun w' => w'.cell? ⟨w.heap.size, 0, none⟩ = some (.slice az m.sz.length cz) ∧ w'.cell? ⟨w.heap.size, 1, none⟩ = some (.slice ax m.st.length cs) ∧ w'.cell? ⟨w.heap.size, 2, none⟩ = some (.slice ar m.rs.length cr))) (by kernel_rfl) ?_ (fun hHeld => ?_)
  · exact ⟨a0, a1, a2⟩
  refine rg_take (v := ?_) 0 rfl (by kernel_rfl) (by kernel_rfl) (by kernel_rfl) (fun _ _ _ h => h) (by kernel_rfl) ?_ (by assumption) ?_
  rotate_left
  · (intro w' hSw; (try dsimp only at hSw); go_simp; first | done | with_reducible rfl)
  simp only [Act.put, List.setIfInBounds_toArray, List.set_cons_zero, List.set_cons_succ]
  refine rg_take (v := ?_) 1 rfl (by kernel_rfl) (by kernel_rfl) (by kernel_rfl) (fun _ _ _ h => h) (by kernel_rfl) ?_ (by assumption) ?_
  rotate_left
  · (intro w' hSw; (try dsimp only at hSw); go_simp; first | done | with_reducible rfl)
  simp only [Act.put, List.setIfInBounds_toArray, List.set_cons_zero, List.set_cons_succ]
  refine rg_take (v := ?_) 4 rfl (by kernel_rfl) (by kernel_rfl) (by kernel_rfl) (fun _ _ _ h => h) (by kernel_rfl) ?_ (by assumption) ?_
  rotate_left
  · (intro w' hSw; (try dsimp only at hSw); go_simp; first | done | with_reducible rfl)
  simp only [Act.put, List.setIfInBounds_toArray, List.set_cons_zero, List.set_cons_succ]
  refine rg_take (v := ?_) 5 rfl (by kernel_rfl) (by kernel_rfl) (by kernel_rfl) (fun _ _ _ h => h) (by kernel_rfl) ?_ (by assumption) ?_
  rotate_left
  · (intro w' hSw; (try dsimp only at hSw); go_simp; first | done | with_reducible rfl)
  simp only [Act.put, List.setIfInBounds_toArray, List.set_cons_zero, List.set_cons_succ]
  refine rg_run 2 rfl (by kernel_rfl) (by kernel_rfl) (fun K hK => ?_)
  go_simp
  refine (c_l20List az cz _ m.sz _ rfl (by omega) HN.out.s.sz (H.out.z.below HB.out).drew).mono ?_
  rintro e wA ⟨sI, rfl, hsI, hb⟩
  replace a0 := cell_later hb (by exact a0)
  replace a1 := cell_later hb (by exact a1)
  replace a2 := cell_later hb (by exact a2)
  have HB1 := Lib.hid (below_chain (by exact HB.out.drew) hb)
  have hzI := size_list hsI
  have HSI := Lib.hid hsI
  clear hb hsI
  have had1 := add_str sI ⟨#[32]⟩ (by rw [hzI, sz1]; omega)
  go_wp2
  clear hHeld
  refine hK.out _ _ (by exact ⟨a0, a1, a2⟩) (fun hHeld => ?_)
  clear hK K
  try simp only [Act.put, List.setIfInBounds_toArray, List.set_cons_zero, List.set_cons_succ]
  refine rg_take (v := ?_) 3 rfl (by kernel_rfl) (by kernel_rfl) (by kernel_rfl) (fun _ _ _ h => h) (by kernel_rfl) ?_ (by assumption) ?_
  rotate_left
  · (intro w' hSw; (try dsimp only at hSw); go_simp; first | done | with_reducible rfl)
  simp only [Act.put, List.setIfInBounds_toArray, List.set_cons_zero, List.set_cons_succ]
  refine rg_run 6 rfl (by kernel_rfl) (by kernel_rfl) (fun K hK => ?_)
  go_simp
  refine (c_l20List ax cs _ m.st _ rfl (by omega) HN.out.s.st (H.out.s.below HB1.out)).mono ?_
  rintro e wB ⟨sJ, rfl, hsJ, hb⟩
  replace a0 := cell_later hb (by exact a0)
  replace a1 := cell_later hb (by exact a1)
  replace a2 := cell_later hb (by exact a2)
  have HB2 := Lib.hid (below_chain HB1.out hb)
  have hzJ := size_list hsJ
  have HSJ := Lib.hid hsJ
  clear hb hsJ
  have had2 := add_str (sI ++ ⟨#[32]⟩) sJ (by rw [ByteArray.size_append', hzI, hzJ, sz1]; omega)
  have had3 := add_str (sI ++ ⟨#[32]⟩ ++ sJ) ⟨#[10]⟩ (by rw [ByteArray.size_append', ByteArray.size_append', hzI, hzJ, sz1, sz1]; omega)
  have HS0 : Hid ((sI ++ ⟨#[32]⟩ ++ sJ ++ ⟨#[10]⟩).data.toList = txUpto m 0) := Lib.hid (by rw [app_list, app_list, app_list, HSI.out, HSJ.out, ls1, ls1, upto_zero]; unfold txHead; simp)
  have HZ0 : Hid ((sI ++ ⟨#[32]⟩ ++ sJ ++ ⟨#[10]⟩).size ≤ 100) := Lib.hid (by rw [ByteArray.size_append', ByteArray.size_append', ByteArray.size_append', hzI, hzJ, sz1, sz1]; omega)
  go_wp2
  clear hHeld
  refine hK.out _ _ (by exact ⟨a0, a1, a2⟩) (fun hHeld => ?_)
  clear hK K
  try simp only [Act.put, List.setIfInBounds_toArray, List.set_cons_zero, List.set_cons_succ]
  refine rg_take (v := ?_) 7 rfl (by kernel_rfl) (by kernel_rfl) (by kernel_rfl) (fun _ _ _ h => h) (by kernel_rfl) ?_ (by assumption) ?_
  rotate_left
  · (intro w' hSw; (try dsimp only at hSw); go_simp; first | done | with_reducible rfl)
  simp only [Act.put, List.setIfInBounds_toArray, List.set_cons_zero, List.set_cons_succ]
  refine rg_take (v := ?_) 8 rfl (by kernel_rfl) (by kernel_rfl) (by kernel_rfl) (fun _ _ _ h => h) (by kernel_rfl) ?_ (by assumption) ?_
  rotate_left
  · (intro w' hSw; (try dsimp only at hSw); go_simp; first | done | with_reducible rfl)
  simp only [Act.put, List.setIfInBounds_toArray, List.set_cons_zero, List.set_cons_succ]
  refine rg_take (v := ?_) 9 rfl (by kernel_rfl) (by kernel_rfl) (by kernel_rfl) (fun _ _ _ h => h) (by kernel_rfl) ?_ (by assumption) ?_
  rotate_left
  · (intro w' hSw; (try dsimp only at hSw); go_simp; first | done | with_reducible rfl)
  simp only [Act.put, List.setIfInBounds_toArray, List.set_cons_zero, List.set_cons_succ]
  refine wpAnyH_done (by kernel_rfl) ?_ _
  clear hHeld
  clear had1 had2 had3 hzI hzJ HSI HSJ
  generalize sI ++ ⟨#[32]⟩ ++ sJ ++ ⟨#[10]⟩ = s0 at *
  have HMB : Hid (MB wB w.heap.size az ax ar m.sz.length m.st.length m.rs.length cz cs cr) := Lib.hid ⟨a0, a1, a2⟩
  clear a0 a1 a2 HA1 HB1 HB hzz htt
  go_wp2_with (fail)
  go_loopw [3, 4, 5, 6] (fun o i _ _ wr => ∃ (k : Nat) (s : ByteArray), k ≤ m.rs.length ∧ i = .int .i64 k ∧ o = .string s ∧ Hid (s.data.toList = txUpto m k) ∧ s.size ≤ 100 + 300 * k ∧ Hid (MB wr w.heap.size az ax ar m.sz.length m.st.length m.rs.length cz cs cr) ∧ Hid (Below w.heap.size w wr)) (fun _ i _ _ _ => m.rs.length - (intOf i).toNat)
  case atStart => exact ⟨0, s0, Nat.zero_le _, rfl, rfl, HS0, HZ0.out, HMB, HB2⟩
  case round =>
    obtain ⟨k, s, hk, rfl, rfl, hS, hsz, HM, HBr⟩ := hrel
    clear HB2 HMB HS0 HZ0
    obtain ⟨a0, a1, a2⟩ := HM.out
    by_cases hlt : k < m.rs.length
    · obtain ⟨r, hz⟩ : ∃ z, m.rs[k]? = some z := ⟨_, List.getElem?_eq_getElem hlt⟩
      have HR := Lib.hid (HN.out.s.rs r (List.mem_of_getElem? hz))
      have HG := Lib.hid (HN.out.g r (List.mem_of_getElem? hz))
      have HST := Lib.hid (upto_step hz)
      obtain ⟨b, off, ag, cg, ae, ce, rfl, _, g0, g1, g2, hg, he⟩ := (H.out.r.below HBr.out).at hz
      have HGS := Lib.hid hg
      have HES := Lib.hid he
      have hk0 : (0 : Int) ≤ (k : Int) := by omega
      have hk1 : (k : Int) < (m.rs.length : Int) := by omega
      clear hz hg he
      have hel := HG.out.2.2
      have HR0 : Hid (wr.cell? ⟨b, off + k * 3, none⟩ = some (.string r.nm) ∧ wr.cell? ⟨b, off + k * 3 + 1, none⟩ = some (.slice ag r.gs.length cg) ∧ wr.cell? ⟨b, off + k * 3 + 2, none⟩ = some (.slice ae r.es.length ce)) := Lib.hid ⟨g0, g1, g2⟩
      go_wp2_with (fail)
      clear a0 a1 a2 g0 g1 g2
      obtain ⟨wo, rfl⟩ : ∃ wo, wo = wr := ⟨_, rfl⟩
      go_loopw [5, 6] (fun e i wr => ∃ (q : Nat) (u : ByteArray), q ≤ r.es.length ∧ i = .int .i64 q ∧ e = .string u ∧ Hid (u.data.toList = Lib.join ((r.es.take q).map txAsg) [38]) ∧ u.size ≤ 6 * q ∧ Hid (Below wo.heap.size wo wr)) (fun _ i _ => r.es.length - (intOf i).toNat)
      case atStart => exact ⟨0, ⟨#[]⟩, Nat.zero_le _, rfl, rfl, Lib.hid rfl, Nat.le_refl _, Lib.hid (Below.refl _ _)⟩
      case round =>
        obtain ⟨q, u, hq, rfl, rfl, hU, huz, HB⟩ := hrel
        obtain ⟨a0, a1, a2⟩ := (HM.out.below HB.out)
        have g0 := cell_later HB.out HR0.out.1
        have g1 := cell_later HB.out HR0.out.2.1
        have g2 := cell_later HB.out HR0.out.2.2
        by_cases hql : q < r.es.length
        · obtain ⟨z, hz⟩ : ∃ z, r.es[q]? = some z := ⟨_, List.getElem?_eq_getElem hql⟩
          have HSM := Lib.hid (HR.out.es z (List.mem_of_getElem? hz))
          have HUT := Lib.hid (joinm_step txAsg [38] hz)
          obtain ⟨b2, o2, rfl, _, e0, e1⟩ := (HES.out.below HB.out).asg hz
          have hl1 := itoa_len HSM.out.1
          have hl2 := itoa_len HSM.out.2
          have hq0 : (0 : Int) ≤ (q : Int) := by omega
          have hq1 : (q : Int) < (r.es.length : Int) := by omega
          clear hz
          obtain ⟨v, x⟩ := z
          dsimp only at e0 e1 hl1 hl2
          obtain ⟨u0, hu0, hu0z, hu0l⟩ : ∃ u0 : ByteArray, u0 = (if q = 0 then u else u ++ ⟨#[38]⟩) ∧ u0.size ≤ 6 * q + 1 ∧ u0.data.toList ++ txAsg ⟨v, x⟩ = Lib.join ((r.es.take (q + 1)).map txAsg) [38] := by
            refine ⟨_, rfl, ?_, ?_⟩
            · split
              · omega
              · rw [ByteArray.size_append', sz1]
                omega
            · rw [HUT.out]
              split
              · next h0 =>
                subst h0
                rw [hU.out]
                rfl
              · rw [app_list, hU.out]
          have HU0 := Lib.hid hu0l
          have had0 := add_str u ⟨#[38]⟩ (by rw [sz1]; omega)
          clear hu0l HUT
          go_upto_if 38 with (fail)
          go_cut [5] from 38 to 40 (fun v wx => v = .string u0 ∧ wx = wr)
          case first =>
            by_cases h0 : q = 0
            · subst h0
              rw [if_pos rfl] at hu0
              subst hu0
              go_wp2_with (fail)
              go_meet
              case rel => exact ⟨rfl, rfl⟩
            · have hkp : (0 : Int) < (q : Int) := by omega
              rw [if_neg h0] at hu0
              subst hu0
              go_wp2_with (fail)
              go_meet
              case rel => exact ⟨rfl, rfl⟩
          case rest =>
            obtain ⟨rfl, hwc⟩ := hcut
            obtain rfl : wr = wc := hwc.symm
            clear had0 hu0 hU huz hwc
            go_wp2_with (fail)
            refine wp_region_held_drew (S := (fun w' => w'.cell? ⟨w.heap.size, 2, none⟩ = some (.slice (some ⟨b, off, none⟩) m.rs.length cr) ∧ w'.cell? ⟨b, off + k * 3 + 2, none⟩ = some (.slice (some ⟨b2, o2, none⟩) r.es.length ce) ∧ w'.cell? ⟨b2, o2 + q * 2, none⟩ = some (.int .i64 v) ∧ w'.cell? ⟨b2, o2 + q * 2 + 1, none⟩ = some (.int .i64 x))) (by kernel_rfl) ?_ (fun hHeld => ?_)
            · exact ⟨a2, g2, e0, e1⟩
            refine rg_take (v := ?_) 0 rfl (by kernel_rfl) (by kernel_rfl) (by kernel_rfl) (fun _ _ _ h => h) (by kernel_rfl) ?_ (by assumption) ?_
            rotate_left
            · (intro w' hSw; (try dsimp only at hSw); go_simp; first | done | with_reducible rfl)
            simp only [Act.put, List.setIfInBounds_toArray, List.set_cons_zero, List.set_cons_succ]
            refine rg_take (v := ?_) 1 rfl (by kernel_rfl) (by kernel_rfl) (by kernel_rfl) (fun _ _ _ h => h) (by kernel_rfl) ?_ (by assumption) ?_
            rotate_left
            · (intro w' hSw; (try dsimp only at hSw); go_simp; first | done | with_reducible rfl)
            simp only [Act.put, List.setIfInBounds_toArray, List.set_cons_zero, List.set_cons_succ]
            refine rg_take (v := ?_) 2 rfl (by kernel_rfl) (by kernel_rfl) (by kernel_rfl) (fun _ _ _ h => h) (by kernel_rfl) ?_ (by assumption) ?_
            rotate_left
            · (intro w' hSw; (try dsimp only at hSw); go_simp; first | done | with_reducible rfl)
            simp only [Act.put, List.setIfInBounds_toArray, List.set_cons_zero, List.set_cons_succ]
            refine rg_take (v := ?_) 3 rfl (by kernel_rfl) (by kernel_rfl) (by kernel_rfl) (fun _ _ _ h => h) (by kernel_rfl) ?_ (by assumption) ?_
            rotate_left
            · (intro w' hSw; (try dsimp only at hSw); go_simp; first | done | with_reducible rfl)
            simp only [Act.put, List.setIfInBounds_toArray, List.set_cons_zero, List.set_cons_succ]
            refine rg_take (v := ?_) 4 rfl (by kernel_rfl) (by kernel_rfl) (by kernel_rfl) (fun _ _ _ h => h) (by kernel_rfl) ?_ (by assumption) ?_
            rotate_left
            · (intro w' hSw; (try dsimp only at hSw); go_simp; first | done | with_reducible rfl)
            simp only [Act.put, List.setIfInBounds_toArray, List.set_cons_zero, List.set_cons_succ]
            refine rg_take (v := ?_) 5 rfl (by kernel_rfl) (by kernel_rfl) (by kernel_rfl) (fun _ _ _ h => h) (by kernel_rfl) ?_ (by assumption) ?_
            rotate_left
            · (intro w' hSw; (try dsimp only at hSw); go_simp; first | done | with_reducible rfl)
            simp only [Act.put, List.setIfInBounds_toArray, List.set_cons_zero, List.set_cons_succ]
            refine rg_take (v := ?_) 6 rfl (by kernel_rfl) (by kernel_rfl) (by kernel_rfl) (fun _ _ _ h => h) (by kernel_rfl) ?_ (by assumption) ?_
            rotate_left
            · (intro w' hSw; (try dsimp only at hSw); go_simp; first | done | with_reducible rfl)
            simp only [Act.put, List.setIfInBounds_toArray, List.set_cons_zero, List.set_cons_succ]
            refine rg_take (v := ?_) 7 rfl (by kernel_rfl) (by kernel_rfl) (by kernel_rfl) (fun _ _ _ h => h) (by kernel_rfl) ?_ (by assumption) ?_
            rotate_left
            · (intro w' hSw; (try dsimp only at hSw); go_simp; first | done | with_reducible rfl)
            simp only [Act.put, List.setIfInBounds_toArray, List.set_cons_zero, List.set_cons_succ]
            refine rg_take (v := ?_) 8 rfl (by kernel_rfl) (by kernel_rfl) (by kernel_rfl) (fun _ _ _ h => h) (by kernel_rfl) ?_ (by assumption) ?_
            rotate_left
            · (intro w' hSw; (try dsimp only at hSw); go_simp; first | done | with_reducible rfl)
            simp only [Act.put, List.setIfInBounds_toArray, List.set_cons_zero, List.set_cons_succ]
            refine rg_take (v := ?_) 9 rfl (by kernel_rfl) (by kernel_rfl) (by kernel_rfl) (fun _ _ _ h => h) (by kernel_rfl) ?_ (by assumption) ?_
            rotate_left
            · (intro w' hSw; (try dsimp only at hSw); go_simp; first | done | with_reducible rfl)
            simp only [Act.put, List.setIfInBounds_toArray, List.set_cons_zero, List.set_cons_succ]
            refine rg_take (v := ?_) 10 rfl (by kernel_rfl) (by kernel_rfl) (by kernel_rfl) (fun _ _ _ h => h) (by kernel_rfl) ?_ (by assumption) ?_
            rotate_left
            · (intro w' hSw; (try dsimp only at hSw); go_simp; first | done | with_reducible rfl)
            simp only [Act.put, List.setIfInBounds_toArray, List.set_cons_zero, List.set_cons_succ]
            refine rg_take (v := ?_) 14 rfl (by kernel_rfl) (by kernel_rfl) (by kernel_rfl) (fun _ _ _ h => h) (by kernel_rfl) ?_ (by assumption) ?_
            rotate_left
            · (intro w' hSw; (try dsimp only at hSw); go_simp; first | done | with_reducible rfl)
            simp only [Act.put, List.setIfInBounds_toArray, List.set_cons_zero, List.set_cons_succ]
            refine rg_take (v := ?_) 15 rfl (by kernel_rfl) (by kernel_rfl) (by kernel_rfl) (fun _ _ _ h => h) (by kernel_rfl) ?_ (by assumption) ?_
            rotate_left
            · (intro w' hSw; (try dsimp only at hSw); go_simp; first | done | with_reducible rfl)
            simp only [Act.put, List.setIfInBounds_toArray, List.set_cons_zero, List.set_cons_succ]
            refine rg_take (v := ?_) 16 rfl (by kernel_rfl) (by kernel_rfl) (by kernel_rfl) (fun _ _ _ h => h) (by kernel_rfl) ?_ (by assumption) ?_
            rotate_left
            · (intro w' hSw; (try dsimp only at hSw); go_simp; first | done | with_reducible rfl)
            simp only [Act.put, List.setIfInBounds_toArray, List.set_cons_zero, List.set_cons_succ]
            refine rg_take (v := ?_) 17 rfl (by kernel_rfl) (by kernel_rfl) (by kernel_rfl) (fun _ _ _ h => h) (by kernel_rfl) ?_ (by assumption) ?_
            rotate_left
            · (intro w' hSw; (try dsimp only at hSw); go_simp; first | done | with_reducible rfl)
            simp only [Act.put, List.setIfInBounds_toArray, List.set_cons_zero, List.set_cons_succ]
            refine rg_take (v := ?_) 18 rfl (by kernel_rfl) (by kernel_rfl) (by kernel_rfl) (fun _ _ _ h => h) (by kernel_rfl) ?_ (by assumption) ?_
            rotate_left
            · (intro w' hSw; (try dsimp only at hSw); go_simp; first | done | with_reducible rfl)
            simp only [Act.put, List.setIfInBounds_toArray, List.set_cons_zero, List.set_cons_succ]
            refine rg_take (v := ?_) 19 rfl (by kernel_rfl) (by kernel_rfl) (by kernel_rfl) (fun _ _ _ h => h) (by kernel_rfl) ?_ (by assumption) ?_
            rotate_left
            · (intro w' hSw; (try dsimp only at hSw); go_simp; first | done | with_reducible rfl)
            simp only [Act.put, List.setIfInBounds_toArray, List.set_cons_zero, List.set_cons_succ]
            refine rg_take (v := ?_) 20 rfl (by kernel_rfl) (by kernel_rfl) (by kernel_rfl) (fun _ _ _ h => h) (by kernel_rfl) ?_ (by assumption) ?_
            rotate_left
            · (intro w' hSw; (try dsimp only at hSw); go_simp; first | done | with_reducible rfl)
            simp only [Act.put, List.setIfInBounds_toArray, List.set_cons_zero, List.set_cons_succ]
            refine rg_take (v := ?_) 21 rfl (by kernel_rfl) (by kernel_rfl) (by kernel_rfl) (fun _ _ _ h => h) (by kernel_rfl) ?_ (by assumption) ?_
            rotate_left
            · (intro w' hSw; (try dsimp only at hSw); go_simp; first | done | with_reducible rfl)
            simp only [Act.put, List.setIfInBounds_toArray, List.set_cons_zero, List.set_cons_succ]
            refine rg_take (v := ?_) 22 rfl (by kernel_rfl) (by kernel_rfl) (by kernel_rfl) (fun _ _ _ h => h) (by kernel_rfl) ?_ (by assumption) ?_
            rotate_left
            · (intro w' hSw; (try dsimp only at hSw); go_simp; first | done | with_reducible rfl)
            simp only [Act.put, List.setIfInBounds_toArray, List.set_cons_zero, List.set_cons_succ]
            refine rg_take (v := ?_) 23 rfl (by kernel_rfl) (by kernel_rfl) (by kernel_rfl) (fun _ _ _ h => h) (by kernel_rfl) ?_ (by assumption) ?_
            rotate_left
            · (intro w' hSw; (try dsimp only at hSw); go_simp; first | done | with_reducible rfl)
            simp only [Act.put, List.setIfInBounds_toArray, List.set_cons_zero, List.set_cons_succ]
            refine rg_run 11 rfl (by kernel_rfl) (by kernel_rfl) (fun K hK => ?_)
            go_simp
            refine (c_l01DecS v HSM.out.1 _).mono ?_
            rintro e wA ⟨sI, rfl, hsI, hb⟩
            replace a2 := cell_later hb (by exact a2)
            replace g2 := cell_later hb (by exact g2)
            replace e0 := cell_later hb (by exact e0)
            replace e1 := cell_later hb (by exact e1)
            have HB1 := Lib.hid (below_chain (by exact HB.out.drew) hb)
            have hzI := size_list hsI
            have HSI := Lib.hid hsI
            clear hb hsI
            have had1 := add_str u0 sI (by rw [hzI]; omega)
            have hz1 : (u0 ++ sI).size ≤ 6 * q + 3 := by rw [ByteArray.size_append', hzI]; omega
            have had2 := add_str (u0 ++ sI) ⟨#[58]⟩ (by rw [sz1]; omega)
            have hz2 : (u0 ++ sI ++ ⟨#[58]⟩).size ≤ 6 * q + 4 := by rw [ByteArray.size_append', sz1]; omega
            go_wp2
            clear hHeld
            refine hK.out _ _ (by exact ⟨a2, g2, e0, e1⟩) (fun hHeld => ?_)
            clear hK K
            try simp only [Act.put, List.setIfInBounds_toArray, List.set_cons_zero, List.set_cons_succ]
            refine rg_take (v := ?_) 12 rfl (by kernel_rfl) (by kernel_rfl) (by kernel_rfl) (fun _ _ _ h => h) (by kernel_rfl) ?_ (by assumption) ?_
            rotate_left
            · (intro w' hSw; (try dsimp only at hSw); go_simp; first | done | with_reducible rfl)
            simp only [Act.put, List.setIfInBounds_toArray, List.set_cons_zero, List.set_cons_succ]
            refine rg_take (v := ?_) 13 rfl (by kernel_rfl) (by kernel_rfl) (by kernel_rfl) (fun _ _ _ h => h) (by kernel_rfl) ?_ (by assumption) ?_
            rotate_left
            · (intro w' hSw; (try dsimp only at hSw); go_simp; first | done | with_reducible rfl)
            simp only [Act.put, List.setIfInBounds_toArray, List.set_cons_zero, List.set_cons_succ]
            refine rg_run 24 rfl (by kernel_rfl) (by kernel_rfl) (fun K hK => ?_)
            go_simp
            refine (c_l01DecS x HSM.out.2 _).mono ?_
            rintro e wB ⟨sJ, rfl, hsJ, hb⟩
            replace a2 := cell_later hb (by exact a2)
            replace g2 := cell_later hb (by exact g2)
            replace e0 := cell_later hb (by exact e0)
            replace e1 := cell_later hb (by exact e1)
            have HB2 := Lib.hid (below_chain HB1.out hb)
            have hzJ := size_list hsJ
            have HSJ := Lib.hid hsJ
            clear hb hsJ
            have had3 := add_str (u0 ++ sI ++ ⟨#[58]⟩) sJ (by rw [hzJ]; omega)
            have HZ3 : Hid ((u0 ++ sI ++ ⟨#[58]⟩ ++ sJ).size ≤ 6 * (q + 1)) := Lib.hid (by rw [ByteArray.size_append', hzJ]; omega)
            have HL3 : Hid ((u0 ++ sI ++ ⟨#[58]⟩ ++ sJ).data.toList = Lib.join ((r.es.take (q + 1)).map txAsg) [38]) := Lib.hid (by rw [app_list, app_list, app_list, HSI.out, ls1, HSJ.out, ← HU0.out]; unfold txAsg; simp)
            go_wp2
            clear hHeld
            refine hK.out _ _ (by exact ⟨a2, g2, e0, e1⟩) (fun hHeld => ?_)
            clear hK K
            try simp only [Act.put, List.setIfInBounds_toArray, List.set_cons_zero, List.set_cons_succ]
            refine rg_take (v := ?_) 25 rfl (by kernel_rfl) (by kernel_rfl) (by kernel_rfl) (fun _ _ _ h => h) (by kernel_rfl) ?_ (by assumption) ?_
            rotate_left
            · (intro w' hSw; (try dsimp only at hSw); go_simp; first | done | with_reducible rfl)
            simp only [Act.put, List.setIfInBounds_toArray, List.set_cons_zero, List.set_cons_succ]
            refine rg_take (v := ?_) 26 rfl (by kernel_rfl) (by kernel_rfl) (by kernel_rfl) (fun _ _ _ h => h) (by kernel_rfl) ?_ (by assumption) ?_
            rotate_left
            · (intro w' hSw; (try dsimp only at hSw); go_simp; first | done | with_reducible rfl)
            simp only [Act.put, List.setIfInBounds_toArray, List.set_cons_zero, List.set_cons_succ]
            refine wpAnyH_done (by kernel_rfl) ?_ _
            clear hHeld
            clear had1 had2 had3 hz1 hz2 a2 g2 e0 e1 a0 a1 g0 g1
            go_wp2_with (fail)
            go_roundw
            case rel => exact ⟨q + 1, _, by omega, by go_num, rfl, HL3, HZ3.out, HB2⟩
            case measure => simp [intOf]; omega
        · obtain rfl : q = r.es.length := by omega
          rw [List.take_length] at hU
          obtain ⟨u1, hu1⟩ : ∃ u1 : ByteArray, u1 = (if r.es.length = 0 then ⟨#[45]⟩ else u) := ⟨_, rfl⟩
          have HU1 : Hid (u1.data.toList = txList (r.es.map txAsg)) := Lib.hid (by
            subst hu1
            unfold txList
            by_cases h0 : r.es.length = 0
            · have : r.es = [] := List.eq_nil_of_length_eq_zero h0
              rw [if_pos h0, if_pos (by rw [this]; rfl)]
            · rw [if_neg h0, if_neg (by intro e; have : (r.es.map txAsg).length = 0 := by rw [e]; rfl
                                        rw [List.length_map] at this; exact h0 this), hU.out])
          have hzu := size_list HU1.out
          have hul := asgs_len HR.out
          have htl2 := tests_len HR.out
          have hgl := HG.out.2.1
          have hnl := HG.out.1
          go_upto_if 68 with (fail)
          go_cut [5] from 68 to 68 (fun v wx => v = .string u1 ∧ wx = wr)
          case first =>
            by_cases h0 : r.es.length = 0
            · rw [if_pos h0] at hu1
              subst hu1
              have hu0 : u = ⟨#[]⟩ := nil_list (by rw [hU.out, List.eq_nil_of_length_eq_zero h0]; rfl)
              subst hu0
              clear h0
              have hem : (⟨#[]⟩ : ByteArray).toList.isEmpty = true := by rw [Lib.toList_data]; rfl
              simp only [hem]
              go_wp2_with (fail)
              go_meet
              case rel => exact ⟨rfl, rfl⟩
            · rw [if_neg h0] at hu1
              subst hu1
              have hl0 : r.es.map txAsg ≠ [] := by
                intro e
                have : (r.es.map txAsg).length = 0 := by rw [e]; rfl
                rw [List.length_map] at this
                exact h0 this
              obtain ⟨c0, t0, hj⟩ := join_head hl0 (fun w hw => by obtain ⟨t, ht, rfl⟩ := List.mem_map.1 hw; exact word_asg (HR.out.es t ht)) [38]
              have hem := isE (hU.out.trans hj)
              clear hj
              simp only [hem]
              go_wp2_with (fail)
              go_meet
              case rel => exact ⟨rfl, rfl⟩
          case rest =>
            obtain ⟨rfl, hwc⟩ := hcut
            obtain rfl : wr = wc := hwc.symm
            clear hu1 hU huz hwc
            have had1 := add_str s r.nm (by omega)
            have hz1 : (s ++ r.nm).size ≤ 116 + 300 * k := by rw [ByteArray.size_append']; omega
            have had2 := add_str (s ++ r.nm) ⟨#[32]⟩ (by rw [sz1]; omega)
            have hz2 : (s ++ r.nm ++ ⟨#[32]⟩).size ≤ 117 + 300 * k := by rw [ByteArray.size_append', sz1]; omega
            go_wp2_with (fail)
            refine wp_region_held_drew (S := (fun w' => w'.cell? ⟨w.heap.size, 2, none⟩ = some (.slice (some ⟨b, off, none⟩) m.rs.length cr) ∧ w'.cell? ⟨b, off + k * 3, none⟩ = some (.string r.nm) ∧ w'.cell? ⟨b, off + k * 3 + 1, none⟩ = some (.slice ag r.gs.length cg))) (by kernel_rfl) ?_ (fun hHeld => ?_)
            · exact ⟨a2, g0, g1⟩
            refine rg_take (v := ?_) 0 rfl (by kernel_rfl) (by kernel_rfl) (by kernel_rfl) (fun _ _ _ h => h) (by kernel_rfl) ?_ (by assumption) ?_
            rotate_left
            · (intro w' hSw; (try dsimp only at hSw); go_simp; first | done | with_reducible rfl)
            simp only [Act.put, List.setIfInBounds_toArray, List.set_cons_zero, List.set_cons_succ]
            refine rg_take (v := ?_) 1 rfl (by kernel_rfl) (by kernel_rfl) (by kernel_rfl) (fun _ _ _ h => h) (by kernel_rfl) ?_ (by assumption) ?_
            rotate_left
            · (intro w' hSw; (try dsimp only at hSw); go_simp; first | done | with_reducible rfl)
            simp only [Act.put, List.setIfInBounds_toArray, List.set_cons_zero, List.set_cons_succ]
            refine rg_take (v := ?_) 2 rfl (by kernel_rfl) (by kernel_rfl) (by kernel_rfl) (fun _ _ _ h => h) (by kernel_rfl) ?_ (by assumption) ?_
            rotate_left
            · (intro w' hSw; (try dsimp only at hSw); go_simp; first | done | with_reducible rfl)
            simp only [Act.put, List.setIfInBounds_toArray, List.set_cons_zero, List.set_cons_succ]
            refine rg_take (v := ?_) 3 rfl (by kernel_rfl) (by kernel_rfl) (by kernel_rfl) (fun _ _ _ h => h) (by kernel_rfl) ?_ (by assumption) ?_
            rotate_left
            · (intro w' hSw; (try dsimp only at hSw); go_simp; first | done | with_reducible rfl)
            simp only [Act.put, List.setIfInBounds_toArray, List.set_cons_zero, List.set_cons_succ]
            refine rg_take (v := ?_) 4 rfl (by kernel_rfl) (by kernel_rfl) (by kernel_rfl) (fun _ _ _ h => h) (by kernel_rfl) ?_ (by assumption) ?_
            rotate_left
            · (intro w' hSw; (try dsimp only at hSw); go_simp; first | done | with_reducible rfl)
            simp only [Act.put, List.setIfInBounds_toArray, List.set_cons_zero, List.set_cons_succ]
            refine rg_take (v := ?_) 5 rfl (by kernel_rfl) (by kernel_rfl) (by kernel_rfl) (fun _ _ _ h => h) (by kernel_rfl) ?_ (by assumption) ?_
            rotate_left
            · (intro w' hSw; (try dsimp only at hSw); go_simp; first | done | with_reducible rfl)
            simp only [Act.put, List.setIfInBounds_toArray, List.set_cons_zero, List.set_cons_succ]
            refine rg_take (v := ?_) 6 rfl (by kernel_rfl) (by kernel_rfl) (by kernel_rfl) (fun _ _ _ h => h) (by kernel_rfl) ?_ (by assumption) ?_
            rotate_left
            · (intro w' hSw; (try dsimp only at hSw); go_simp; first | done | with_reducible rfl)
            simp only [Act.put, List.setIfInBounds_toArray, List.set_cons_zero, List.set_cons_succ]
            refine rg_take (v := ?_) 7 rfl (by kernel_rfl) (by kernel_rfl) (by kernel_rfl) (fun _ _ _ h => h) (by kernel_rfl) ?_ (by assumption) ?_
            rotate_left
            · (intro w' hSw; (try dsimp only at hSw); go_simp; first | done | with_reducible rfl)
            simp only [Act.put, List.setIfInBounds_toArray, List.set_cons_zero, List.set_cons_succ]
            refine rg_take (v := ?_) 8 rfl (by kernel_rfl) (by kernel_rfl) (by kernel_rfl) (fun _ _ _ h => h) (by kernel_rfl) ?_ (by assumption) ?_
            rotate_left
            · (intro w' hSw; (try dsimp only at hSw); go_simp; first | done | with_reducible rfl)
            simp only [Act.put, List.setIfInBounds_toArray, List.set_cons_zero, List.set_cons_succ]
            refine rg_take (v := ?_) 9 rfl (by kernel_rfl) (by kernel_rfl) (by kernel_rfl) (fun _ _ _ h => h) (by kernel_rfl) ?_ (by assumption) ?_
            rotate_left
            · (intro w' hSw; (try dsimp only at hSw); go_simp; first | done | with_reducible rfl)
            simp only [Act.put, List.setIfInBounds_toArray, List.set_cons_zero, List.set_cons_succ]
            refine rg_take (v := ?_) 10 rfl (by kernel_rfl) (by kernel_rfl) (by kernel_rfl) (fun _ _ _ h => h) (by kernel_rfl) ?_ (by assumption) ?_
            rotate_left
            · (intro w' hSw; (try dsimp only at hSw); go_simp; first | done | with_reducible rfl)
            simp only [Act.put, List.setIfInBounds_toArray, List.set_cons_zero, List.set_cons_succ]
            refine rg_take (v := ?_) 11 rfl (by kernel_rfl) (by kernel_rfl) (by kernel_rfl) (fun _ _ _ h => h) (by kernel_rfl) ?_ (by assumption) ?_
            rotate_left
            · (intro w' hSw; (try dsimp only at hSw); go_simp; first | done | with_reducible rfl)
            simp only [Act.put, List.setIfInBounds_toArray, List.set_cons_zero, List.set_cons_succ]
            refine rg_take (v := ?_) 12 rfl (by kernel_rfl) (by kernel_rfl) (by kernel_rfl) (fun _ _ _ h => h) (by kernel_rfl) ?_ (by assumption) ?_
            rotate_left
            · (intro w' hSw; (try dsimp only at hSw); go_simp; first | done | with_reducible rfl)
            simp only [Act.put, List.setIfInBounds_toArray, List.set_cons_zero, List.set_cons_succ]
            refine rg_take (v := ?_) 13 rfl (by kernel_rfl) (by kernel_rfl) (by kernel_rfl) (fun _ _ _ h => h) (by kernel_rfl) ?_ (by assumption) ?_
            rotate_left
            · (intro w' hSw; (try dsimp only at hSw); go_simp; first | done | with_reducible rfl)
            simp only [Act.put, List.setIfInBounds_toArray, List.set_cons_zero, List.set_cons_succ]
            refine rg_take (v := ?_) 14 rfl (by kernel_rfl) (by kernel_rfl) (by kernel_rfl) (fun _ _ _ h => h) (by kernel_rfl) ?_ (by assumption) ?_
            rotate_left
            · (intro w' hSw; (try dsimp only at hSw); go_simp; first | done | with_reducible rfl)
            simp only [Act.put, List.setIfInBounds_toArray, List.set_cons_zero, List.set_cons_succ]
            refine rg_take (v := ?_) 18 rfl (by kernel_rfl) (by kernel_rfl) (by kernel_rfl) (fun _ _ _ h => h) (by kernel_rfl) ?_ (by assumption) ?_
            rotate_left
            · (intro w' hSw; (try dsimp only at hSw); go_simp; first | done | with_reducible rfl)
            simp only [Act.put, List.setIfInBounds_toArray, List.set_cons_zero, List.set_cons_succ]
            refine rg_run 15 rfl (by kernel_rfl) (by kernel_rfl) (fun K hK => ?_)
            go_simp
            refine (c_l20TestsText ag cg _ r.gs _ rfl (by omega) HR.out.gs (HGS.out.below HB.out).drew).mono ?_
            rintro e w4 ⟨s4, rfl, hs4, hb⟩
            have HBw := Lib.hid (below_chain HBr.out (below_chain HB.out (below_chain (Below.refl _ _).drew hb)))
            have HM4 := Lib.hid (HM.out.below (below_chain HB.out (below_chain (Below.refl _ _).drew hb)))
            replace a2 := cell_later hb (by exact a2)
            replace g0 := cell_later hb (by exact g0)
            replace g1 := cell_later hb (by exact g1)
            have hz4 := size_list hs4
            have HS4 := Lib.hid hs4
            clear hb hs4
            have had3 := add_str (s ++ r.nm ++ ⟨#[32]⟩) s4 (by rw [hz4]; omega)
            have hz5 : (s ++ r.nm ++ ⟨#[32]⟩ ++ s4).size ≤ 262 + 300 * k := by rw [ByteArray.size_append', hz4]; omega
            have had4 := add_str (s ++ r.nm ++ ⟨#[32]⟩ ++ s4) ⟨#[32]⟩ (by rw [sz1]; omega)
            have hz6 : (s ++ r.nm ++ ⟨#[32]⟩ ++ s4 ++ ⟨#[32]⟩).size ≤ 263 + 300 * k := by rw [ByteArray.size_append', sz1]; omega
            have had5 := add_str (s ++ r.nm ++ ⟨#[32]⟩ ++ s4 ++ ⟨#[32]⟩) u1 (by rw [hzu]; omega)
            have hz7 : (s ++ r.nm ++ ⟨#[32]⟩ ++ s4 ++ ⟨#[32]⟩ ++ u1).size ≤ 290 + 300 * k := by rw [ByteArray.size_append', hzu]; omega
            have had6 := add_str (s ++ r.nm ++ ⟨#[32]⟩ ++ s4 ++ ⟨#[32]⟩ ++ u1) ⟨#[10]⟩ (by rw [sz1]; omega)
            have HZ8 : Hid ((s ++ r.nm ++ ⟨#[32]⟩ ++ s4 ++ ⟨#[32]⟩ ++ u1 ++ ⟨#[10]⟩).size ≤ 100 + 300 * (k + 1)) := Lib.hid (by rw [ByteArray.size_append', sz1]; omega)
            have HL8 : Hid ((s ++ r.nm ++ ⟨#[32]⟩ ++ s4 ++ ⟨#[32]⟩ ++ u1 ++ ⟨#[10]⟩).data.toList = txUpto m (k + 1)) := Lib.hid (by rw [HST.out, ← hS.out, app_list, app_list, app_list, app_list, app_list, app_list, ls1, ls1, HS4.out, HU1.out]; unfold txRule; simp)
            go_wp2
            clear hHeld
            refine hK.out _ _ (by exact ⟨a2, g0, g1⟩) (fun hHeld => ?_)
            clear hK K
            try simp only [Act.put, List.setIfInBounds_toArray, List.set_cons_zero, List.set_cons_succ]
            refine rg_take (v := ?_) 16 rfl (by kernel_rfl) (by kernel_rfl) (by kernel_rfl) (fun _ _ _ h => h) (by kernel_rfl) ?_ (by assumption) ?_
            rotate_left
            · (intro w' hSw; (try dsimp only at hSw); go_simp; first | done | with_reducible rfl)
            simp only [Act.put, List.setIfInBounds_toArray, List.set_cons_zero, List.set_cons_succ]
            refine rg_take (v := ?_) 17 rfl (by kernel_rfl) (by kernel_rfl) (by kernel_rfl) (fun _ _ _ h => h) (by kernel_rfl) ?_ (by assumption) ?_
            rotate_left
            · (intro w' hSw; (try dsimp only at hSw); go_simp; first | done | with_reducible rfl)
            simp only [Act.put, List.setIfInBounds_toArray, List.set_cons_zero, List.set_cons_succ]
            refine rg_take (v := ?_) 19 rfl (by kernel_rfl) (by kernel_rfl) (by kernel_rfl) (fun _ _ _ h => h) (by kernel_rfl) ?_ (by assumption) ?_
            rotate_left
            · (intro w' hSw; (try dsimp only at hSw); go_simp; first | done | with_reducible rfl)
            simp only [Act.put, List.setIfInBounds_toArray, List.set_cons_zero, List.set_cons_succ]
            refine rg_take (v := ?_) 20 rfl (by kernel_rfl) (by kernel_rfl) (by kernel_rfl) (fun _ _ _ h => h) (by kernel_rfl) ?_ (by assumption) ?_
            rotate_left
            · (intro w' hSw; (try dsimp only at hSw); go_simp; first | done | with_reducible rfl)
            simp only [Act.put, List.setIfInBounds_toArray, List.set_cons_zero, List.set_cons_succ]
            refine rg_take (v := ?_) 21 rfl (by kernel_rfl) (by kernel_rfl) (by kernel_rfl) (fun _ _ _ h => h) (by kernel_rfl) ?_ (by assumption) ?_
            rotate_left
            · (intro w' hSw; (try dsimp only at hSw); go_simp; first | done | with_reducible rfl)
            simp only [Act.put, List.setIfInBounds_toArray, List.set_cons_zero, List.set_cons_succ]
            refine wpAnyH_done (by kernel_rfl) ?_ _
            clear hHeld
            clear had1 had2 had3 had4 had5 had6 hz1 hz2 hz4 hz5 hz6 hz7 a0 a1 a2 g0 g1 g2 hzu hul htl2
            go_wp2_with (fail)
            go_roundw
            case rel => exact ⟨k + 1, _, by omega, by go_num, rfl, HL8, HZ8.out, HM4, HBw⟩
            case measure => simp [intOf]; omega
    · obtain rfl : k = m.rs.length := by omega
      go_wp2_with (fail)
      go_ret
      exact ⟨_, rfl, by rw [hS.out, upto_all, HV.out], HBr.out⟩
end Go.Proofs.YtgpmglfcdbpgkaaGreatDoor

/- Numbers and lists of numbers as texts, on the program's side. Condition: the numbers are those of a valid model; the table of powers of ten lies there. -/
namespace Go.Proofs.YtgpmglfcdbpgkaaGreatDoor
open Go.RowKit

/-- The table of the powers of ten. -/
def Pw (w : World) : Prop := Lib.TabIs Tryz.prog w "internal/strconv.uint64pow10" .u64 Lib.pow10Tab
theorem Pw.below {w w' : World} (h : Pw w) (hb : Below w.heap.size w w') : Pw w' := Lib.tabBelow_of_tabIs h w' hb
/-- The string of some bytes. -/
def bsT (L : List UInt8) : ByteArray := ⟨L.toArray⟩
theorem bsT_list (L : List UInt8) : (bsT L).data.toList = L := by simp [bsT]
theorem bsT_of {s : ByteArray} {L : List UInt8} (h : s.data.toList = L) : s = bsT L := by subst h; cases s; simp [bsT]
theorem bsT_size (L : List UInt8) : (bsT L).size = L.length := size_list (bsT_list L)
theorem below_growT (w : World) (q : Nat) (os : Array Obj) : Below w.heap.size w (Sort.grow (w.drewN q) os) :=
  ⟨rfl, rfl, rfl, by simp [Sort.grow], fun k hk => by
    show (w.heap ++ os)[k]? = w.heap[k]?
    exact Array.getElem?_append_left hk⟩
set_option maxRecDepth 100000 in
theorem c_decimal (z : Int) (h0 : -9223372036854775808 ≤ z) (h1 : z ≤ 9223372036854775807) (w : World) (hP : Pw w) : Calls Tryz.prog 100 #[.int .i64 z] w fun e w' => e = .returned (.string (bsT (Lib.itoa z))) ∧ Below w.heap.size w w' := by
  have HP := Lib.hid hP
  clear hP
  go_enter Tryz.func100, Tryz.ntmps100
  go_wp2_with (fail)
  refine (sh_strconv_FormatInt_10 z h0 h1 _ HP.out).mono ?_
  rintro e w1 ⟨rfl, k, os, rfl⟩
  have HB := Lib.hid (below_growT w k os)
  generalize Sort.grow (w.drewN k) os = w1 at *
  go_wp2_with (fail)
  go_ret
  exact ⟨rfl, HB.out⟩
theorem c_decimalS (z : Int) (hz : SmI z) (w : World) (hP : Pw w) : Calls Tryz.prog 100 #[.int .i64 z] w fun e w' => e = .returned (.string (bsT (Lib.itoa z))) ∧ Below w.heap.size w w' :=
  c_decimal z (by have := hz.1; omega) (by have := hz.2; omega) w hP
/-- Cells of strings. -/
def strs (ws : List (List UInt8)) : List Value := ws.map fun x => .string (bsT x)
theorem strs_length (ws : List (List UInt8)) : (strs ws).length = ws.length := by simp [strs]
theorem info_string : (Tryz.prog.info? 9).map (fun i => (i.zero, i.size, i.bytes)) = some (some (.string ⟨#[]⟩), 1, 16) := by kernel_rfl
theorem join_call (bk o c : Nat) (ws : List (List UInt8)) (sep : List UInt8) (w : World) (hr : ∀ j x, ws[j]? = some x → w.cell? ⟨bk, o + j, none⟩ = some (.string (bsT x))) (hbk : bk < w.heap.size) (hN : ws.length ≤ 1000000) (hcap : ws.length ≤ c) (hl : ∀ x ∈ ws, x.length ≤ 1000) (hs : sep.length ≤ 1) :
    Calls Tryz.prog 101 #[.slice (some ⟨bk, o, none⟩) ws.length c, .string (bsT sep)] w fun e w' => e = .returned (.string (bsT (Lib.join ws sep))) ∧ Below w.heap.size w w' := by
  have e : (ws.map bsT).map (·.data.toList) = ws := by
    rw [List.map_map]
    refine (List.map_congr_left fun x _ => ?_).trans (List.map_id _)
    exact bsT_list x
  have hj := join_len (sep := sep) hl
  have h1 := sh_strings_Join bk o c (ws.map bsT) (bsT sep) w (fun j x hx => by
    rw [List.getElem?_map, Option.map_eq_some_iff] at hx
    obtain ⟨y, hy, rfl⟩ := hx
    exact hr j y hy) hbk (by simp; omega) (by simpa using hcap) (by
      rw [e, bsT_list]
      have : (1000 + sep.length) * ws.length ≤ 1001 * 1000000 := Nat.mul_le_mul (by omega) hN
      omega)
  rw [e, bsT_list, List.length_map] at h1
  exact h1
set_option maxHeartbeats 1000000 in
set_option maxRecDepth 100000 in
theorem c_joinN (A : Option Addr) (c n : Nat) (l : List Int) (w : World) (hn : n = l.length) (hs : n ≤ 1000) (hl : ∀ z ∈ l, SmI z) (hr : Rd w A (ints l)) (hP : Pw w) :
    Calls Tryz.prog 73 #[.slice A n c, .string ⟨#[44]⟩] w (RetStr (txNums l) w) := by
  obtain ⟨i0, hi, hz0, hz1, hz2⟩ := info_parts info_string
  have HN := Lib.hid hn
  have HL := Lib.hid hl
  have HR := Lib.hid hr
  have HP := Lib.hid hP
  have HZ : (strs (l.map Lib.itoa)).length = n := by rw [strs_length, List.length_map, hn]
  clear hn hl hr hP
  go_enter Tryz.func73, Tryz.ntmps73
  go_wp2_with (first
    | (at_make
       refine wpList_make_full _ rfl (.tmp 9) (.tmp 9) _ rfl w.heap.size 9 i0 _ 1 Tryz.underlying48 hi hz0 hz1 .i64 .i64 _ _ n rfl rfl rfl rfl (by rw [hz2]; omega) (by unfold maxLen; omega) (Nat.le_refl _) ?_
       intro w1 hown hgrow)
    )
  have hb1 := Lib.hid (below_of_grown (Below.refl w.heap.size w) hgrow (by simp))
  have hZ : (madeCells (Value.string ⟨#[]⟩).cells (n * 1)).toList.length = n := by simp [size_madeCells]
  generalize (madeCells (Value.string ⟨#[]⟩).cells (n * 1)).toList = Z at hown hZ
  have hLZ := Lib.hid (HZ.trans hZ.symm)
  have HZZ := Lib.hid HZ
  have HO0 := Lib.hid hown
  clear hZ HZ hgrow hown
  go_loopw [6, 7, 13] (fun _ _ i wr => ∃ k : Nat, k ≤ n ∧ i = .int .i64 k ∧ Hid (wr.ownsRow w.heap.size 9 1 (.slice (some ⟨w.heap.size, 0, none⟩) n n) n (mix (strs (l.map Lib.itoa)) Z k)) ∧ Hid (Below w.heap.size w wr)) (fun _ _ i _ => n - (intOf i).toNat)
  case atStart => exact ⟨0, Nat.zero_le _, rfl, Lib.hid (by rw [mix_zero]; exact HO0.out), hb1⟩
  case round =>
    obtain ⟨k, hk, rfl, ho, hb⟩ := hrel
    clear HO0 hb1
    by_cases hlt : k < n
    · obtain ⟨z, hz⟩ : ∃ z, l[k]? = some z := ⟨_, List.getElem?_eq_getElem (by have := HN.out; omega)⟩
      have HSM := Lib.hid (HL.out z (List.mem_of_getElem? hz))
      have hu : (strs (l.map Lib.itoa))[k]? = some (.string (bsT (Lib.itoa z))) := by simp [strs, hz]
      obtain ⟨b, off, rfl, _, g0⟩ := (HR.out.below hb.out).int hz
      have hk0 : (0 : Int) ≤ (k : Int) := by omega
      have hk1 : (k : Int) < (n : Int) := by omega
      have HU := Lib.hid hu
      clear hz hu
      go_wp2_with (fail)
      refine (c_decimalS z HSM.out _ (HP.out.below hb.out)).mono ?_
      rintro e w2 ⟨rfl, hb2⟩
      have HB2 := Lib.hid (below_chain hb.out hb2)
      have ho2 := own_below ho.out hb2
      have f0 := ho2.frozenAt k
      obtain ⟨old, hold⟩ := own_cell ho2 (j := k) (by omega)
      have hst := (ho2.stored k (.string (bsT (Lib.itoa z)))).1
      rw [mix_set hLZ.out HU.out] at hst
      have HST := Lib.hid hst
      clear hst ho2 ho hb hb2 HU
      go_wp2_with (fail)
      go_roundw
      case rel => exact ⟨k + 1, by omega, by go_num, HST, Lib.hid (below_set HB2.out _ (Nat.le_refl _))⟩
      case measure => simp [intOf]; omega
    · obtain rfl : k = n := by omega
      have ho1 := ho.out
      rw [mix_all (by rw [HZZ.out]; exact Nat.le_refl _) (by rw [← hLZ.out, HZZ.out]; exact Nat.le_refl _)] at ho1
      have HJ := Lib.hid (join_call w.heap.size 0 k (l.map Lib.itoa) [44] wr (fun j x hx => by
        have hc := ho1.cells (g := w.heap.size) rfl j (.string (bsT x)) (by unfold strs; rw [List.getElem?_map, hx]; rfl)
        have hadd : (⟨w.heap.size, 0, none⟩ : Addr).add j = ⟨w.heap.size, 0 + j, none⟩ := by unfold Addr.add; split <;> simp_all
        rw [hadd] at hc
        exact hc) (ho1.lt _ rfl).2 (by rw [List.length_map, ← HN.out]; omega) (by rw [List.length_map, ← HN.out]; exact Nat.le_refl _) (fun x hx => by
          obtain ⟨z, hz, rfl⟩ := List.mem_map.1 hx
          have := itoa_len (HL.out z hz)
          omega) (by simp))
      rw [List.length_map, ← HN.out] at HJ
      clear ho1 ho
      go_wp2_with (fail)
      refine HJ.out.mono ?_
      rintro e w2 ⟨rfl, hb2⟩
      have HB2 := Lib.hid (below_chain hb.out hb2)
      clear hb2
      go_wp2_with (fail)
      go_ret
      exact ⟨_, rfl, bsT_list _, HB2.out⟩
end Go.Proofs.YtgpmglfcdbpgkaaGreatDoor

/- Lists of words and rules as texts, on the program's side. Condition: the rule is that of a valid model; the table of powers of ten lies there. -/
namespace Go.Proofs.YtgpmglfcdbpgkaaGreatDoor
open Go.RowKit

theorem add_bsT (x y : List UInt8) (h : x.length + y.length ≤ 1000000000) (w : World) : (Op.stringOp .add (bsT x) (bsT y)).run Tryz.prog w = .ok (.string (bsT (x ++ y))) w := by
  have := add_str (bsT x) (bsT y) (by rw [bsT_size, bsT_size]; omega) w
  rw [this, show bsT x ++ bsT y = bsT (x ++ y) from by rw [bsT_of (app_list (bsT x) (bsT y)), bsT_list, bsT_list]]
theorem wp_push_str (w : World) {o : Oper} {a : Act} {K : Act → World → Prop} {Q : Exit → Act → World → Prop} (s x : Operand)
    (ho : o.op = .call { callee := .builtin .append, args := #[s, x], argTypes := #[48, 48] })
    (base : Nat) (v : Value) (n : Nat) (ws : List (List UInt8)) (L : List UInt8) (g c : Nat) (hs : a.eval s = v) (hown : w.ownsRow base 9 1 v n (strs ws))
    (hx : a.eval x = .slice (some ⟨g, 0, none⟩) 1 c) (h0 : w.cell? ⟨g, 0, none⟩ = some (.string (bsT L))) (hn : n ≤ 1000000000) (hbase : base ≤ w.heap.size)
    (h : ∀ v' w', w'.ownsRow base 9 1 v' (n + 1) (strs (ws ++ [L])) → w.grownBy w' v.ownBlock → (v'.ownBlock = v.ownBlock ∨ v'.ownBlock = some w.heap.size) → K (a.put o.dst v') w') : o.wp Tryz.prog a w K Q := by
  obtain ⟨i0, hi, hz0, hz1, hz2⟩ := info_parts info_string
  refine wp_push w s x 48 ho base 9 i0 (.string ⟨#[]⟩) 1 16 Tryz.underlying48 hi hz0 hz1 hz2 rfl (by decide) v n (strs ws) hs hown ⟨g, 0, none⟩ c [.string (bsT L)] hx rfl ?_ ?_ (by unfold maxLen; omega) (by omega) hbase ?_
  · intro j u hu
    match j, hu with
    | 0, hu =>
      simp only [List.getElem?_cons_zero, Option.some.injEq] at hu
      rw [← hu]
      simpa [Addr.add] using h0
  · intro u hu
    simp only [List.mem_singleton] at hu
    subst hu; rfl
  · intro v' w' h1 h2 _ h4
    exact h v' w' (by simpa [strs] using h1) h2 h4
set_option maxRecDepth 100000 in
theorem c_listText (A : Option Addr) (c n base : Nat) (ws : List (List UInt8)) (w : World) (hn : n = ws.length) (hs : n ≤ 1000) (hl : ∀ x ∈ ws, x.length ≤ 1000) (ho : w.ownsRow base 9 1 (.slice A n c) n (strs ws)) :
    Calls Tryz.prog 102 #[.slice A n c] w fun e w' => e = .returned (.string (bsT (txList ws))) ∧ Below w.heap.size w w' := by
  by_cases h0 : n = 0
  · have hw0 : ws = [] := List.eq_nil_of_length_eq_zero (by omega)
    subst hw0
    have h0n : ((n : Int) == 0) = true := by simp [h0]
    clear h0 hn
    have HV : Hid (bsT (txList []) = ⟨#[45]⟩) := Lib.hid rfl
    rw [HV.out]
    go_enter Tryz.func102, Tryz.ntmps102
    go_wp2_with (fail)
    go_ret
    exact ⟨rfl, Below.refl _ _⟩
  · have hw0 : ws ≠ [] := by intro e; rw [e] at hn; exact h0 hn
    obtain ⟨g, hA⟩ : ∃ g, A = some ⟨g, 0, none⟩ := by
      rcases ho.2 with ⟨_, h⟩ | ⟨g, cap, cur, hv, _⟩
      · exact absurd h h0
      · injection hv with h1
        exact ⟨g, h1⟩
    subst hA
    have hcap := (own_cap ho).1
    have HJ := Lib.hid (join_call g 0 c ws [38] w (fun j x hx => by
      have hc := ho.cells (g := g) rfl j (.string (bsT x)) (by unfold strs; rw [List.getElem?_map, hx]; rfl)
      have hadd : (⟨g, 0, none⟩ : Addr).add j = ⟨g, 0 + j, none⟩ := by unfold Addr.add; split <;> simp_all
      rw [hadd] at hc
      exact hc) (ho.lt _ rfl).2 (by rw [← hn]; omega) (by rw [← hn]; exact hcap) hl (by simp))
    rw [← hn] at HJ
    have HV : Hid (txList ws = Lib.join ws [38]) := Lib.hid (by unfold txList; rw [if_neg hw0])
    have h0n : ((n : Int) == 0) = false := by simpa using h0
    have h0p : 0 < n := by omega
    clear hw0 ho hn hl hcap h0
    go_enter Tryz.func102, Tryz.ntmps102
    go_wp2_with (fail)
    refine HJ.out.mono ?_
    rintro e w2 ⟨rfl, hb2⟩
    have HB2 := Lib.hid hb2
    clear hb2
    go_wp2_with (fail)
    go_ret
    exact ⟨by rw [HV.out]; rfl, HB2.out⟩
theorem cell_markT {w w' : World} {row : Option Nat} {a : Addr} {v : Value} (h : w.cell? a = some v) (hg : w.grownBy w' row) (hne : ∀ q, row = some q → q ≠ a.block) : w'.cell? a = some v :=
  (hg.cell_far a (World.block_lt_of_cell? w a h) (fun h' => hne _ h'.symm rfl)).trans h
/-- A rule in its box. -/
def RB (w : World) (b : Nat) (nm : ByteArray) (ag ae : Option Addr) (gn en cg ce : Nat) : Prop := w.cell? ⟨b, 0, none⟩ = some (.string nm) ∧ w.cell? ⟨b, 1, none⟩ = some (.slice ag gn cg) ∧ w.cell? ⟨b, 2, none⟩ = some (.slice ae en ce)
theorem RB.below {w w' : World} {b : Nat} {nm : ByteArray} {ag ae : Option Addr} {gn en cg ce : Nat} (h : RB w b nm ag ae gn en cg ce) (hb : Below w.heap.size w w') : RB w' b nm ag ae gn en cg ce := ⟨cell_later hb h.1, cell_later hb h.2.1, cell_later hb h.2.2⟩
theorem RB.mark {w w' : World} {b : Nat} {nm : ByteArray} {ag ae : Option Addr} {gn en cg ce : Nat} {row : Option Nat} (h : RB w b nm ag ae gn en cg ce) (hg : w.grownBy w' row) (hne : ∀ q, row = some q → q ≠ b) : RB w' b nm ag ae gn en cg ce := ⟨cell_markT h.1 hg hne, cell_markT h.2.1 hg hne, cell_markT h.2.2 hg hne⟩
theorem take_snoc {α : Type} {f : α → List UInt8} {l : List α} {k : Nat} {z : α} (hz : l[k]? = some z) : (l.take (k + 1)).map f = (l.take k).map f ++ [f z] := by
  rw [List.take_add_one, hz]
  simp
set_option maxHeartbeats 4000000 in
set_option maxRecDepth 100000 in
theorem c_ruleText (r : Rul) (ag ae : Option Addr) (cg ce : Nat) (w : World) (hR : RulS r) (hnl : r.nm.size ≤ 16) (hgl : r.gs.length ≤ 24) (hel : r.es.length ≤ 4) (hg : Rd w ag (tstCells r.gs)) (he : Rd w ae (asgCells r.es)) (hP : Pw w) :
    Calls Tryz.prog 74 #[.agg #[.string r.nm, .slice ag r.gs.length cg, .slice ae r.es.length ce]] w fun e w' => e = .returned (.string (bsT (txRule r))) ∧ Below w.heap.size w w' := by
  have HR := Lib.hid hR
  have HG := Lib.hid hg
  have HE := Lib.hid he
  have HP := Lib.hid hP
  have HAB : Hid (Below w.heap.size w (w.alloc (.cells #[.string r.nm, .slice ag r.gs.length cg, .slice ae r.es.length ce] 45))) := Lib.hid (below_alloc (Below.refl _ _) _)
  have HA : Hid (RB (w.alloc (.cells #[.string r.nm, .slice ag r.gs.length cg, .slice ae r.es.length ce] 45)) w.heap.size r.nm ag ae r.gs.length r.es.length cg ce) := Lib.hid ⟨by go_simp, by go_simp, by go_simp⟩
  clear hR hg he hP
  go_enter Tryz.func74, Tryz.ntmps74
  go_upto_region 1 with (fail)
  have hsz0 : (w.alloc (.cells #[.string r.nm, .slice ag r.gs.length cg, .slice ae r.es.length ce] 45)).heap.size = w.heap.size + 1 := by simp
  generalize w.alloc (.cells #[.string r.nm, .slice ag r.gs.length cg, .slice ae r.es.length ce] 45) = W at *
  obtain ⟨a0, a1, a2⟩ := HA.out
  go_wp2_with (fail)
  clear a0 a1 a2
  go_loopw [3, 6, 7, 13] (fun v _ _ i wr => ∃ (k : Nat) (A3 : Option Addr) (c3 : Nat), k ≤ r.gs.length ∧ i = .int .i64 k ∧ v = .slice A3 k c3 ∧ Hid (wr.ownsRow (w.heap.size + 1) 9 1 (.slice A3 k c3) k (strs ((r.gs.take k).map txTest))) ∧ Hid (Below w.heap.size w wr) ∧ Hid (w.heap.size + 1 ≤ wr.heap.size) ∧ Hid (RB wr w.heap.size r.nm ag ae r.gs.length r.es.length cg ce)) (fun _ _ _ i _ => r.gs.length - (intOf i).toNat)
  case atStart => exact ⟨0, none, 0, Nat.zero_le _, rfl, rfl, Lib.hid (World.ownsRow_nil _ _ _ _), HAB, Lib.hid (by omega), HA⟩
  case round =>
    obtain ⟨k, A3, c3, hk, rfl, rfl, HO, HB, HSZ, HM⟩ := hrel
    clear HAB HA
    by_cases hlt : k < r.gs.length
    · obtain ⟨z, hz⟩ : ∃ z, r.gs[k]? = some z := ⟨_, List.getElem?_eq_getElem hlt⟩
      have HSM := Lib.hid (HR.out.gs z (List.mem_of_getElem? hz))
      have HST := Lib.hid (take_snoc (f := txTest) hz)
      obtain ⟨b, off, rfl, _, g0, g1, g2⟩ := (HG.out.below HB.out).tst hz
      have hl1 := itoa_len HSM.out.1
      have hl2 := itoa_len HSM.out.2
      have hk0 : (0 : Int) ≤ (k : Int) := by omega
      have hk1 : (k : Int) < (r.gs.length : Int) := by omega
      clear hz
      obtain ⟨v, x, q⟩ := z
      dsimp only at g0 g1 g2 hl1 hl2
      have HXa : Hid ((wr.alloc (.cells #[.int .i64 v, .int .i64 x, .bool q] 90)).cell? ⟨wr.heap.size, 0, none⟩ = some (.int .i64 v) ∧ (wr.alloc (.cells #[.int .i64 v, .int .i64 x, .bool q] 90)).cell? ⟨wr.heap.size, 1, none⟩ = some (.int .i64 x) ∧ (wr.alloc (.cells #[.int .i64 v, .int .i64 x, .bool q] 90)).cell? ⟨wr.heap.size, 2, none⟩ = some (.bool q)) := Lib.hid ⟨by go_simp, by go_simp, by go_simp⟩
      have HBa := Lib.hid (below_alloc (Below.refl wr.heap.size wr) (.cells #[.int .i64 v, .int .i64 x, .bool q] 90))
      go_upto_region 5 with (fail)
      generalize wr.alloc (.cells #[.int .i64 v, .int .i64 x, .bool q] 90) = W1 at *
      obtain ⟨x0, x1, x2⟩ := HXa.out
      have HB1 := Lib.hid (below_chain HB.out HBa.out)
      have HO1 := Lib.hid (own_below HO.out HBa.out)
      have HM1 := Lib.hid (HM.out.below HBa.out)
      have HZ1 : Hid (w.heap.size + 1 ≤ W1.heap.size) := Lib.hid (by have := HBa.out.size; have := HSZ.out; omega)
      have HQ : Hid (∀ p, (Value.slice A3 k c3).ownBlock = some p → p < wr.heap.size) := Lib.hid (fun p hp => (HO.out.lt p hp).2)
      generalize wr.heap.size = bx at *
      clear HXa HBa HB HO HM g0 g1 g2 HSZ
      go_upto_if 18 with (fail)
      go_cut [7] from 18 to 18 (fun u wx => u = .string (sgB q) ∧ wx = W1)
      case first =>
        cases q
        · go_wp2_with (fail)
          go_meet
          case rel => exact ⟨rfl, rfl⟩
        · go_wp2_with (fail)
          go_meet
          case rel => exact ⟨rfl, rfl⟩
      case rest =>
        obtain ⟨rfl, hwc⟩ := hcut
        obtain rfl : W1 = wc := hwc.symm
        clear hwc
        obtain ⟨sc, hsc⟩ : ∃ sc : UInt8, sc = if q then 61 else 33 := ⟨_, rfl⟩
        have hsg : sgB q = bsT [sc] := by subst hsc; cases q <;> rfl
        rw [hsg]
        have HTX : Hid (Lib.itoa v ++ [sc] ++ Lib.itoa x = txTest ⟨v, x, q⟩) := Lib.hid (by unfold txTest; subst hsc; simp)
        have had1 := add_bsT (Lib.itoa v) [sc] (by simp; omega)
        have had2 := add_bsT (Lib.itoa v ++ [sc]) (Lib.itoa x) (by simp; omega)
        rw [HTX.out] at had2
        generalize bsT [sc] = sg at *
        clear hsc hsg HTX
        go_wp2_with (fail)
        refine wp_region_held_drew (S := (fun w' => w'.cell? ⟨bx, 0, none⟩ = some (.int .i64 v) ∧ w'.cell? ⟨bx, 1, none⟩ = some (.int .i64 x))) (by kernel_rfl) ?_ (fun hHeld => ?_)
        · exact ⟨x0, x1⟩
        refine rg_take (v := ?_) 0 rfl (by kernel_rfl) (by kernel_rfl) (by kernel_rfl) (fun _ _ _ h => h) (by kernel_rfl) ?_ (by assumption) ?_
        rotate_left
        · (intro w' hSw; (try dsimp only at hSw); go_simp; first | done | with_reducible rfl)
        simp only [Act.put, List.setIfInBounds_toArray, List.set_cons_zero, List.set_cons_succ]
        refine rg_take (v := ?_) 1 rfl (by kernel_rfl) (by kernel_rfl) (by kernel_rfl) (fun _ _ _ h => h) (by kernel_rfl) ?_ (by assumption) ?_
        rotate_left
        · (intro w' hSw; (try dsimp only at hSw); go_simp; first | done | with_reducible rfl)
        simp only [Act.put, List.setIfInBounds_toArray, List.set_cons_zero, List.set_cons_succ]
        refine rg_take (v := ?_) 2 rfl (by kernel_rfl) (by kernel_rfl) (by kernel_rfl) (fun _ _ _ h => h) (by kernel_rfl) ?_ (by assumption) ?_
        rotate_left
        · (intro w' hSw; (try dsimp only at hSw); go_simp; first | done | with_reducible rfl)
        simp only [Act.put, List.setIfInBounds_toArray, List.set_cons_zero, List.set_cons_succ]
        refine rg_take (v := ?_) 4 rfl (by kernel_rfl) (by kernel_rfl) (by kernel_rfl) (fun _ _ _ h => h) (by kernel_rfl) ?_ (by assumption) ?_
        rotate_left
        · (intro w' hSw; (try dsimp only at hSw); go_simp; first | done | with_reducible rfl)
        simp only [Act.put, List.setIfInBounds_toArray, List.set_cons_zero, List.set_cons_succ]
        refine rg_take (v := ?_) 6 rfl (by kernel_rfl) (by kernel_rfl) (by kernel_rfl) (fun _ _ _ h => h) (by kernel_rfl) ?_ (by assumption) ?_
        rotate_left
        · (intro w' hSw; (try dsimp only at hSw); go_simp; first | done | with_reducible rfl)
        simp only [Act.put, List.setIfInBounds_toArray, List.set_cons_zero, List.set_cons_succ]
        refine rg_take (v := ?_) 7 rfl (by kernel_rfl) (by kernel_rfl) (by kernel_rfl) (fun _ _ _ h => h) (by kernel_rfl) ?_ (by assumption) ?_
        rotate_left
        · (intro w' hSw; (try dsimp only at hSw); go_simp; first | done | with_reducible rfl)
        simp only [Act.put, List.setIfInBounds_toArray, List.set_cons_zero, List.set_cons_succ]
        refine rg_run 3 rfl (by kernel_rfl) (by kernel_rfl) (fun K hK => ?_)
        go_simp
        refine (c_decimalS v HSM.out.1 _ (HP.out.below HB1.out.drew)).mono ?_
        rintro e w2 ⟨rfl, hb⟩
        have hbs : Below W1.heap.size W1 w2 := below_chain (Below.refl _ _).drew hb
        have HB2 := Lib.hid (below_chain HB1.out hbs)
        have HO2 := Lib.hid (own_below HO1.out hbs)
        have HM2 := Lib.hid (HM1.out.below hbs)
        have HZ2 : Hid (w.heap.size + 1 ≤ w2.heap.size) := Lib.hid (by have := hbs.size; have := HZ1.out; omega)
        replace x0 := cell_later hb (by exact x0)
        replace x1 := cell_later hb (by exact x1)
        clear hb hbs HB1 HO1 HM1 HZ1
        go_wp2
        clear hHeld
        refine hK.out _ _ (by exact ⟨x0, x1⟩) (fun hHeld => ?_)
        clear hK K
        try simp only [Act.put, List.setIfInBounds_toArray, List.set_cons_zero, List.set_cons_succ]
        refine rg_take (v := ?_) 5 rfl (by kernel_rfl) (by kernel_rfl) (by kernel_rfl) (fun _ _ _ h => h) (by kernel_rfl) ?_ (by assumption) ?_
        rotate_left
        · (intro w' hSw; (try dsimp only at hSw); go_simp; first | done | with_reducible rfl)
        simp only [Act.put, List.setIfInBounds_toArray, List.set_cons_zero, List.set_cons_succ]
        refine rg_run 8 rfl (by kernel_rfl) (by kernel_rfl) (fun K hK => ?_)
        go_simp
        refine (c_decimalS x HSM.out.2 _ (HP.out.below HB2.out)).mono ?_
        rintro e w3 ⟨rfl, hb⟩
        have HB3 := Lib.hid (below_chain HB2.out hb)
        have HO3 := Lib.hid (own_below HO2.out hb)
        have HM3 := Lib.hid (HM2.out.below hb)
        have HZ3 : Hid (w.heap.size + 1 ≤ w3.heap.size) := Lib.hid (by have := hb.size; have := HZ2.out; omega)
        replace x0 := cell_later hb (by exact x0)
        replace x1 := cell_later hb (by exact x1)
        clear hb HB2 HO2 HM2 HZ2
        go_wp2
        clear hHeld
        refine hK.out _ _ (by exact ⟨x0, x1⟩) (fun hHeld => ?_)
        clear hK K
        try simp only [Act.put, List.setIfInBounds_toArray, List.set_cons_zero, List.set_cons_succ]
        refine rg_take (v := ?_) 9 rfl (by kernel_rfl) (by kernel_rfl) (by kernel_rfl) (fun _ _ _ h => h) (by kernel_rfl) ?_ (by assumption) ?_
        rotate_left
        · (intro w' hSw; (try dsimp only at hSw); go_simp; first | done | with_reducible rfl)
        simp only [Act.put, List.setIfInBounds_toArray, List.set_cons_zero, List.set_cons_succ]
        have HA3 := Lib.hid (below_alloc (Below.refl w3.heap.size w3) (.cells #[.string (bsT (txTest ⟨v, x, q⟩))] 9))
        have x0' := cell_later HA3.out x0
        have x1' := cell_later HA3.out x1
        have HC3 : Hid ((w3.alloc (.cells #[.string (bsT (txTest ⟨v, x, q⟩))] 9)).cell? ⟨w3.heap.size, 0, none⟩ = some (.string (bsT (txTest ⟨v, x, q⟩)))) := Lib.hid (by go_simp)
        refine rg_run 10 rfl (by kernel_rfl) (by kernel_rfl) (fun K hK => ?_)
        go_simp
        clear hHeld
        refine hK.out _ _ (by exact ⟨x0', x1'⟩) (fun hHeld => ?_)
        clear hK K
        try simp only [Act.put, List.setIfInBounds_toArray, List.set_cons_zero, List.set_cons_succ]
        have HB4 := Lib.hid (below_chain HB3.out HA3.out)
        have HO4 := Lib.hid (own_below HO3.out HA3.out)
        have HM4 := Lib.hid (HM3.out.below HA3.out)
        have HZ4 : Hid (w.heap.size + 1 ≤ (w3.alloc (.cells #[.string (bsT (txTest ⟨v, x, q⟩))] 9)).heap.size) := Lib.hid (by have := HZ3.out; simp; omega)
        generalize w3.alloc (.cells #[.string (bsT (txTest ⟨v, x, q⟩))] 9) = W4 at *
        generalize w3.heap.size = b4 at *
        clear HB3 HO3 HM3 HZ3 HA3 x0 x1 had1 had2
        refine rg_run 11 rfl (by kernel_rfl) (by kernel_rfl) (fun K hK => ?_)
        refine wp_push_str W4 (.tmp 19) (.tmp 29) rfl (w.heap.size + 1) (.slice A3 k c3) k ((r.gs.take k).map txTest) (txTest ⟨v, x, q⟩) b4 1 rfl HO4.out rfl HC3.out (by omega) HZ4.out ?_
        intro v5 w5 hown hgrow _
        obtain ⟨A9, c9, rfl⟩ := own_shape hown
        have HO5 := Lib.hid hown
        rw [← HST.out] at HO5
        have hne : ∀ p, (Value.slice A3 k c3).ownBlock = some p → w.heap.size + 1 ≤ p := fun p hp => (HO4.out.lt p hp).1
        have HB5 := Lib.hid (below_of_grown HB4.out hgrow (fun p hp => by have := hne p hp; omega))
        have HM5 := Lib.hid (HM4.out.mark hgrow (fun p hp => by have := hne p hp; omega))
        have HZ5 : Hid (w.heap.size + 1 ≤ w5.heap.size) := Lib.hid (Nat.le_trans HZ4.out hgrow.size)
        have y0 := cell_markT x0' hgrow (fun p hp => by have := HQ.out p hp; dsimp only; omega)
        have y1 := cell_markT x1' hgrow (fun p hp => by have := HQ.out p hp; dsimp only; omega)
        clear hne hown hgrow HO4 HB4 HM4 HZ4 HC3 HQ HST x0' x1'
        clear hHeld
        refine hK.out _ _ (by exact ⟨y0, y1⟩) (fun hHeld => ?_)
        clear hK K
        try simp only [Act.put, List.setIfInBounds_toArray, List.set_cons_zero, List.set_cons_succ]
        refine rg_take (v := ?_) 12 rfl (by kernel_rfl) (by kernel_rfl) (by kernel_rfl) (fun _ _ _ h => h) (by kernel_rfl) ?_ (by assumption) ?_
        rotate_left
        · (intro w' hSw; (try dsimp only at hSw); go_simp; first | done | with_reducible rfl)
        simp only [Act.put, List.setIfInBounds_toArray, List.set_cons_zero, List.set_cons_succ]
        refine wpAnyH_done (by kernel_rfl) ?_ _
        clear hHeld
        clear y0 y1
        go_wp2_with (fail)
        go_roundw
        case rel => exact ⟨k + 1, A9, c9, by omega, by go_num, rfl, HO5, HB5, HZ5, HM5⟩
        case measure => simp [intOf]; omega
    · obtain rfl : k = r.gs.length := by omega
      rw [List.take_length] at HO
      have HLT : Hid (∀ x ∈ r.gs.map txTest, x.length ≤ 1000) := Lib.hid (fun x hx => by
        obtain ⟨t, ht, rfl⟩ := List.mem_map.1 hx
        have := test_len (HR.out.gs t ht)
        omega)
      have HLE : Hid (∀ x ∈ r.es.map txAsg, x.length ≤ 1000) := Lib.hid (fun x hx => by
        obtain ⟨t, ht, rfl⟩ := List.mem_map.1 hx
        have := asg_len (HR.out.es t ht)
        omega)
      obtain ⟨a0, a1, a2⟩ := HM.out
      obtain ⟨wt, rfl⟩ : ∃ wt, wt = wr := ⟨_, rfl⟩
      go_wp2_with (fail)
      clear a0 a1 a2
      go_loopw [4, 9, 35] (fun v _ i wr => ∃ (k : Nat) (A3 : Option Addr) (c3 : Nat), k ≤ r.es.length ∧ i = .int .i64 k ∧ v = .slice A3 k c3 ∧ Hid (wr.ownsRow wt.heap.size 9 1 (.slice A3 k c3) k (strs ((r.es.take k).map txAsg))) ∧ Hid (Below wt.heap.size wt wr)) (fun _ _ i _ => r.es.length - (intOf i).toNat)
      case atStart => exact ⟨0, none, 0, Nat.zero_le _, rfl, rfl, Lib.hid (World.ownsRow_nil _ _ _ _), Lib.hid (Below.refl _ _)⟩
      case round =>
        obtain ⟨k, A4, c4, hk, rfl, rfl, HO2, HB2⟩ := hrel
        by_cases hlt : k < r.es.length
        · obtain ⟨z, hz⟩ : ∃ z, r.es[k]? = some z := ⟨_, List.getElem?_eq_getElem hlt⟩
          have HSM := Lib.hid (HR.out.es z (List.mem_of_getElem? hz))
          have HST := Lib.hid (take_snoc (f := txAsg) hz)
          obtain ⟨b, off, rfl, _, g0, g1⟩ := (HE.out.below (below_chain HB.out HB2.out)).asg hz
          have hl1 := itoa_len HSM.out.1
          have hl2 := itoa_len HSM.out.2
          have hk0 : (0 : Int) ≤ (k : Int) := by omega
          have hk1 : (k : Int) < (r.es.length : Int) := by omega
          clear hz
          obtain ⟨v, x⟩ := z
          dsimp only at g0 g1 hl1 hl2
          have HXa : Hid ((wr.alloc (.cells #[.int .i64 v, .int .i64 x] 47)).cell? ⟨wr.heap.size, 0, none⟩ = some (.int .i64 v) ∧ (wr.alloc (.cells #[.int .i64 v, .int .i64 x] 47)).cell? ⟨wr.heap.size, 1, none⟩ = some (.int .i64 x)) := Lib.hid ⟨by go_simp, by go_simp⟩
          have HBa := Lib.hid (below_alloc (Below.refl wr.heap.size wr) (.cells #[.int .i64 v, .int .i64 x] 47))
          go_upto_region 13 with (fail)
          generalize wr.alloc (.cells #[.int .i64 v, .int .i64 x] 47) = W1 at *
          obtain ⟨x0, x1⟩ := HXa.out
          have HB3 := Lib.hid (below_chain HB2.out HBa.out)
          have HO3 := Lib.hid (own_below HO2.out HBa.out)
          have HQ : Hid (∀ p, (Value.slice A4 k c4).ownBlock = some p → p < wr.heap.size) := Lib.hid (fun p hp => (HO2.out.lt p hp).2)
          generalize wr.heap.size = bx at *
          clear HXa HBa HB2 HO2 g0 g1
          have HTX : Hid (Lib.itoa v ++ [58] ++ Lib.itoa x = txAsg ⟨v, x⟩) := Lib.hid (by unfold txAsg; simp)
          have had1 : ∀ w, (Op.stringOp .add (bsT (Lib.itoa v)) ⟨#[58]⟩).run Tryz.prog w = .ok (.string (bsT (Lib.itoa v ++ [58]))) w := add_bsT (Lib.itoa v) [58] (by simp; omega)
          have had2 := add_bsT (Lib.itoa v ++ [58]) (Lib.itoa x) (by simp; omega)
          rw [HTX.out] at had2
          clear HTX
          go_wp2_with (fail)
          refine wp_region_held_drew (S := (fun w' => w'.cell? ⟨bx, 0, none⟩ = some (.int .i64 v) ∧ w'.cell? ⟨bx, 1, none⟩ = some (.int .i64 x))) (by kernel_rfl) ?_ (fun hHeld => ?_)
          · exact ⟨x0, x1⟩
          refine rg_take (v := ?_) 0 rfl (by kernel_rfl) (by kernel_rfl) (by kernel_rfl) (fun _ _ _ h => h) (by kernel_rfl) ?_ (by assumption) ?_
          rotate_left
          · (intro w' hSw; (try dsimp only at hSw); go_simp; first | done | with_reducible rfl)
          simp only [Act.put, List.setIfInBounds_toArray, List.set_cons_zero, List.set_cons_succ]
          refine rg_take (v := ?_) 1 rfl (by kernel_rfl) (by kernel_rfl) (by kernel_rfl) (fun _ _ _ h => h) (by kernel_rfl) ?_ (by assumption) ?_
          rotate_left
          · (intro w' hSw; (try dsimp only at hSw); go_simp; first | done | with_reducible rfl)
          simp only [Act.put, List.setIfInBounds_toArray, List.set_cons_zero, List.set_cons_succ]
          refine rg_take (v := ?_) 2 rfl (by kernel_rfl) (by kernel_rfl) (by kernel_rfl) (fun _ _ _ h => h) (by kernel_rfl) ?_ (by assumption) ?_
          rotate_left
          · (intro w' hSw; (try dsimp only at hSw); go_simp; first | done | with_reducible rfl)
          simp only [Act.put, List.setIfInBounds_toArray, List.set_cons_zero, List.set_cons_succ]
          refine rg_take (v := ?_) 5 rfl (by kernel_rfl) (by kernel_rfl) (by kernel_rfl) (fun _ _ _ h => h) (by kernel_rfl) ?_ (by assumption) ?_
          rotate_left
          · (intro w' hSw; (try dsimp only at hSw); go_simp; first | done | with_reducible rfl)
          simp only [Act.put, List.setIfInBounds_toArray, List.set_cons_zero, List.set_cons_succ]
          refine rg_take (v := ?_) 6 rfl (by kernel_rfl) (by kernel_rfl) (by kernel_rfl) (fun _ _ _ h => h) (by kernel_rfl) ?_ (by assumption) ?_
          rotate_left
          · (intro w' hSw; (try dsimp only at hSw); go_simp; first | done | with_reducible rfl)
          simp only [Act.put, List.setIfInBounds_toArray, List.set_cons_zero, List.set_cons_succ]
          refine rg_run 3 rfl (by kernel_rfl) (by kernel_rfl) (fun K hK => ?_)
          go_simp
          refine (c_decimalS v HSM.out.1 _ (HP.out.below (below_chain HB.out HB3.out.drew))).mono ?_
          rintro e w2 ⟨rfl, hb⟩
          have hbs : Below W1.heap.size W1 w2 := below_chain (Below.refl _ _).drew hb
          have HB4 := Lib.hid (below_chain HB3.out hbs)
          have HO4 := Lib.hid (own_below HO3.out hbs)
          replace x0 := cell_later hb (by exact x0)
          replace x1 := cell_later hb (by exact x1)
          clear hb hbs HB3 HO3
          go_wp2
          clear hHeld
          refine hK.out _ _ (by exact ⟨x0, x1⟩) (fun hHeld => ?_)
          clear hK K
          try simp only [Act.put, List.setIfInBounds_toArray, List.set_cons_zero, List.set_cons_succ]
          refine rg_take (v := ?_) 4 rfl (by kernel_rfl) (by kernel_rfl) (by kernel_rfl) (fun _ _ _ h => h) (by kernel_rfl) ?_ (by assumption) ?_
          rotate_left
          · (intro w' hSw; (try dsimp only at hSw); go_simp; first | done | with_reducible rfl)
          simp only [Act.put, List.setIfInBounds_toArray, List.set_cons_zero, List.set_cons_succ]
          refine rg_run 7 rfl (by kernel_rfl) (by kernel_rfl) (fun K hK => ?_)
          go_simp
          refine (c_decimalS x HSM.out.2 _ (HP.out.below (below_chain HB.out HB4.out))).mono ?_
          rintro e w3 ⟨rfl, hb⟩
          have HB5 := Lib.hid (below_chain HB4.out hb)
          have HO5 := Lib.hid (own_below HO4.out hb)
          replace x0 := cell_later hb (by exact x0)
          replace x1 := cell_later hb (by exact x1)
          clear hb HB4 HO4
          go_wp2
          clear hHeld
          refine hK.out _ _ (by exact ⟨x0, x1⟩) (fun hHeld => ?_)
          clear hK K
          try simp only [Act.put, List.setIfInBounds_toArray, List.set_cons_zero, List.set_cons_succ]
          refine rg_take (v := ?_) 8 rfl (by kernel_rfl) (by kernel_rfl) (by kernel_rfl) (fun _ _ _ h => h) (by kernel_rfl) ?_ (by assumption) ?_
          rotate_left
          · (intro w' hSw; (try dsimp only at hSw); go_simp; first | done | with_reducible rfl)
          simp only [Act.put, List.setIfInBounds_toArray, List.set_cons_zero, List.set_cons_succ]
          have HA3 := Lib.hid (below_alloc (Below.refl w3.heap.size w3) (.cells #[.string (bsT (txAsg ⟨v, x⟩))] 9))
          have x0' := cell_later HA3.out x0
          have x1' := cell_later HA3.out x1
          have HC3 : Hid ((w3.alloc (.cells #[.string (bsT (txAsg ⟨v, x⟩))] 9)).cell? ⟨w3.heap.size, 0, none⟩ = some (.string (bsT (txAsg ⟨v, x⟩)))) := Lib.hid (by go_simp)
          refine rg_run 9 rfl (by kernel_rfl) (by kernel_rfl) (fun K hK => ?_)
          go_simp
          clear hHeld
          refine hK.out _ _ (by exact ⟨x0', x1'⟩) (fun hHeld => ?_)
          clear hK K
          try simp only [Act.put, List.setIfInBounds_toArray, List.set_cons_zero, List.set_cons_succ]
          have HB6 := Lib.hid (below_chain HB5.out HA3.out)
          have HO6 := Lib.hid (own_below HO5.out HA3.out)
          generalize w3.alloc (.cells #[.string (bsT (txAsg ⟨v, x⟩))] 9) = W4 at *
          generalize w3.heap.size = b4 at *
          clear HB5 HO5 HA3 x0 x1 had1 had2
          refine rg_run 10 rfl (by kernel_rfl) (by kernel_rfl) (fun K hK => ?_)
          refine wp_push_str W4 (.tmp 39) (.tmp 48) rfl wt.heap.size (.slice A4 k c4) k ((r.es.take k).map txAsg) (txAsg ⟨v, x⟩) b4 1 rfl HO6.out rfl HC3.out (by omega) HB6.out.size ?_
          intro v5 w5 hown hgrow _
          obtain ⟨A9, c9, rfl⟩ := own_shape hown
          have HO7 := Lib.hid hown
          rw [← HST.out] at HO7
          have hne : ∀ p, (Value.slice A4 k c4).ownBlock = some p → wt.heap.size ≤ p := fun p hp => (HO6.out.lt p hp).1
          have HB7 := Lib.hid (below_of_grown HB6.out hgrow (fun p hp => hne p hp))
          have y0 := cell_markT x0' hgrow (fun p hp => by have := HQ.out p hp; dsimp only; omega)
          have y1 := cell_markT x1' hgrow (fun p hp => by have := HQ.out p hp; dsimp only; omega)
          clear hne hown hgrow HO6 HB6 HC3 HQ HST x0' x1'
          clear hHeld
          refine hK.out _ _ (by exact ⟨y0, y1⟩) (fun hHeld => ?_)
          clear hK K
          try simp only [Act.put, List.setIfInBounds_toArray, List.set_cons_zero, List.set_cons_succ]
          refine rg_take (v := ?_) 11 rfl (by kernel_rfl) (by kernel_rfl) (by kernel_rfl) (fun _ _ _ h => h) (by kernel_rfl) ?_ (by assumption) ?_
          rotate_left
          · (intro w' hSw; (try dsimp only at hSw); go_simp; first | done | with_reducible rfl)
          simp only [Act.put, List.setIfInBounds_toArray, List.set_cons_zero, List.set_cons_succ]
          refine wpAnyH_done (by kernel_rfl) ?_ _
          clear hHeld
          clear y0 y1
          go_wp2_with (fail)
          go_roundw
          case rel => exact ⟨k + 1, A9, c9, by omega, by go_num, rfl, HO7, HB7⟩
          case measure => simp [intOf]; omega
        · obtain rfl : k = r.es.length := by omega
          rw [List.take_length] at HO2
          obtain ⟨a0, a1, a2⟩ := HM.out.below HB2.out
          have hgs1 : (txList (r.gs.map txTest)).length ≤ 145 := by have := tests_len HR.out; omega
          have hes1 : (txList (r.es.map txAsg)).length ≤ 25 := by have := asgs_len HR.out; omega
          have HLG := Lib.hid (fun w' h => c_listText A3 c3 r.gs.length (w.heap.size + 1) (r.gs.map txTest) w' (by simp) (by omega) HLT.out h)
          have HLS := Lib.hid (fun w' h => c_listText A4 c4 r.es.length wt.heap.size (r.es.map txAsg) w' (by simp) (by omega) HLE.out h)
          have hnm : r.nm = bsT r.nm.data.toList := bsT_of rfl
          have hnz : r.nm.data.toList.length ≤ 16 := by rw [← size_list rfl]; exact hnl
          have HTX : Hid (r.nm.data.toList ++ [32] ++ txList (r.gs.map txTest) ++ [32] ++ txList (r.es.map txAsg) = txRule r) := Lib.hid (by unfold txRule; simp)
          have had1 : ∀ w, (Op.stringOp .add (bsT r.nm.data.toList) ⟨#[32]⟩).run Tryz.prog w = .ok (.string (bsT (r.nm.data.toList ++ [32]))) w := add_bsT _ [32] (by simp; omega)
          have had2 := add_bsT (r.nm.data.toList ++ [32]) (txList (r.gs.map txTest)) (by simp; omega)
          have had3 : ∀ w, (Op.stringOp .add (bsT (r.nm.data.toList ++ [32] ++ txList (r.gs.map txTest))) ⟨#[32]⟩).run Tryz.prog w = .ok (.string (bsT (r.nm.data.toList ++ [32] ++ txList (r.gs.map txTest) ++ [32]))) w := add_bsT _ [32] (by simp; omega)
          have had4 := add_bsT (r.nm.data.toList ++ [32] ++ txList (r.gs.map txTest) ++ [32]) (txList (r.es.map txAsg)) (by simp; omega)
          rw [HTX.out] at had4
          rw [hnm] at a0
          generalize r.nm.data.toList ++ [32] ++ txList (r.gs.map txTest) ++ [32] = l3 at had3 had4
          generalize r.nm.data.toList ++ [32] ++ txList (r.gs.map txTest) = l2 at had2 had3
          generalize r.nm.data.toList ++ [32] = l1 at had1 had2
          generalize r.nm.data.toList = nl at *
          generalize txList (r.gs.map txTest) = tg at *
          generalize txList (r.es.map txAsg) = te at *
          clear HTX hnm a1 a2
          go_wp2_with (fail)
          refine wp_region_held_drew (S := (fun w' => w'.cell? ⟨w.heap.size, 0, none⟩ = some (.string (bsT nl)))) (by kernel_rfl) ?_ (fun hHeld => ?_)
          · exact a0
          refine rg_take (v := ?_) 0 rfl (by kernel_rfl) (by kernel_rfl) (by kernel_rfl) (fun _ _ _ h => h) (by kernel_rfl) ?_ (by assumption) ?_
          rotate_left
          · (intro w' hSw; (try dsimp only at hSw); go_simp; first | done | with_reducible rfl)
          simp only [Act.put, List.setIfInBounds_toArray, List.set_cons_zero, List.set_cons_succ]
          refine rg_take (v := ?_) 1 rfl (by kernel_rfl) (by kernel_rfl) (by kernel_rfl) (fun _ _ _ h => h) (by kernel_rfl) ?_ (by assumption) ?_
          rotate_left
          · (intro w' hSw; (try dsimp only at hSw); go_simp; first | done | with_reducible rfl)
          simp only [Act.put, List.setIfInBounds_toArray, List.set_cons_zero, List.set_cons_succ]
          refine rg_take (v := ?_) 2 rfl (by kernel_rfl) (by kernel_rfl) (by kernel_rfl) (fun _ _ _ h => h) (by kernel_rfl) ?_ (by assumption) ?_
          rotate_left
          · (intro w' hSw; (try dsimp only at hSw); go_simp; first | done | with_reducible rfl)
          simp only [Act.put, List.setIfInBounds_toArray, List.set_cons_zero, List.set_cons_succ]
          refine rg_take (v := ?_) 3 rfl (by kernel_rfl) (by kernel_rfl) (by kernel_rfl) (fun _ _ _ h => h) (by kernel_rfl) ?_ (by assumption) ?_
          rotate_left
          · (intro w' hSw; (try dsimp only at hSw); go_simp; first | done | with_reducible rfl)
          simp only [Act.put, List.setIfInBounds_toArray, List.set_cons_zero, List.set_cons_succ]
          refine rg_take (v := ?_) 7 rfl (by kernel_rfl) (by kernel_rfl) (by kernel_rfl) (fun _ _ _ h => h) (by kernel_rfl) ?_ (by assumption) ?_
          rotate_left
          · (intro w' hSw; (try dsimp only at hSw); go_simp; first | done | with_reducible rfl)
          simp only [Act.put, List.setIfInBounds_toArray, List.set_cons_zero, List.set_cons_succ]
          refine rg_run 4 rfl (by kernel_rfl) (by kernel_rfl) (fun K hK => ?_)
          go_simp
          refine (HLG.out _ (own_below HO.out HB2.out).drew).mono ?_
          rintro e w5 ⟨rfl, hb⟩
          have hbs : Below wr.heap.size wr w5 := below_chain (Below.refl _ _).drew hb
          have HB5 := Lib.hid (below_chain HB2.out hbs)
          have HO5 := Lib.hid (own_below HO2.out hbs)
          replace a0 := cell_later hb (by exact a0)
          clear hb hbs HO2
          go_wp2
          clear hHeld
          refine hK.out _ _ (by exact a0) (fun hHeld => ?_)
          clear hK K
          try simp only [Act.put, List.setIfInBounds_toArray, List.set_cons_zero, List.set_cons_succ]
          refine rg_take (v := ?_) 5 rfl (by kernel_rfl) (by kernel_rfl) (by kernel_rfl) (fun _ _ _ h => h) (by kernel_rfl) ?_ (by assumption) ?_
          rotate_left
          · (intro w' hSw; (try dsimp only at hSw); go_simp; first | done | with_reducible rfl)
          simp only [Act.put, List.setIfInBounds_toArray, List.set_cons_zero, List.set_cons_succ]
          refine rg_take (v := ?_) 6 rfl (by kernel_rfl) (by kernel_rfl) (by kernel_rfl) (fun _ _ _ h => h) (by kernel_rfl) ?_ (by assumption) ?_
          rotate_left
          · (intro w' hSw; (try dsimp only at hSw); go_simp; first | done | with_reducible rfl)
          simp only [Act.put, List.setIfInBounds_toArray, List.set_cons_zero, List.set_cons_succ]
          refine rg_run 8 rfl (by kernel_rfl) (by kernel_rfl) (fun K hK => ?_)
          go_simp
          refine (HLS.out _ HO5.out).mono ?_
          rintro e w6 ⟨rfl, hb⟩
          have HB6 := Lib.hid (below_chain HB.out (below_chain HB5.out hb))
          replace a0 := cell_later hb (by exact a0)
          clear hb HO5 HB5
          go_wp2
          clear hHeld
          refine hK.out _ _ (by exact a0) (fun hHeld => ?_)
          clear hK K
          try simp only [Act.put, List.setIfInBounds_toArray, List.set_cons_zero, List.set_cons_succ]
          refine rg_take (v := ?_) 9 rfl (by kernel_rfl) (by kernel_rfl) (by kernel_rfl) (fun _ _ _ h => h) (by kernel_rfl) ?_ (by assumption) ?_
          rotate_left
          · (intro w' hSw; (try dsimp only at hSw); go_simp; first | done | with_reducible rfl)
          simp only [Act.put, List.setIfInBounds_toArray, List.set_cons_zero, List.set_cons_succ]
          refine rg_take (v := ?_) 10 rfl (by kernel_rfl) (by kernel_rfl) (by kernel_rfl) (fun _ _ _ h => h) (by kernel_rfl) ?_ (by assumption) ?_
          rotate_left
          · (intro w' hSw; (try dsimp only at hSw); go_simp; first | done | with_reducible rfl)
          simp only [Act.put, List.setIfInBounds_toArray, List.set_cons_zero, List.set_cons_succ]
          refine wpAnyH_done (by kernel_rfl) ?_ _
          clear hHeld
          clear had1 had2 had3 had4 a0
          go_wp2_with (fail)
          go_ret
          exact ⟨rfl, HB6.out⟩
end Go.Proofs.YtgpmglfcdbpgkaaGreatDoor

/- The text of a model, on the program's side. Condition: the lists' sizes; the table of powers of ten lies there. -/
namespace Go.Proofs.YtgpmglfcdbpgkaaGreatDoor
open Go.RowKit

set_option maxHeartbeats 4000000 in
set_option maxRecDepth 100000 in
theorem c_modelText (m : Mdl) (az ax ar : Option Addr) (cz cs cr : Nat) (w : World) (hN : MdlN m) (h : Md w az ax ar m) (hP : Pw w) :
    Calls Tryz.prog 29 #[mv m az ax ar cz cs cr] w (RetStr (txModel m) w) := by
  have HN := Lib.hid hN
  have H := Lib.hid h
  have HP := Lib.hid hP
  have hzl := hN.z
  have htl := hN.t
  have hrl := hN.r
  have hzz := nums_len hN.s.sz m.sz.length
  have htt := nums_len hN.s.st m.st.length
  rw [List.take_length] at hzz htt
  have HAB : Hid (Below w.heap.size w (w.alloc (.cells #[.slice az m.sz.length cz, .slice ax m.st.length cs, .slice ar m.rs.length cr] 25))) := Lib.hid (below_alloc (Below.refl _ _) _)
  have HA : Hid (MB (w.alloc (.cells #[.slice az m.sz.length cz, .slice ax m.st.length cs, .slice ar m.rs.length cr] 25)) w.heap.size az ax ar m.sz.length m.st.length m.rs.length cz cs cr) := Lib.hid ⟨by go_simp, by go_simp, by go_simp⟩
  clear hN h hP
  go_enter Tryz.func29, Tryz.ntmps29
  dsimp only [mv]
  go_upto_region 1 with (fail)
  generalize w.alloc (.cells #[.slice az m.sz.length cz, .slice ax m.st.length cs, .slice ar m.rs.length cr] 25) = W at *
  obtain ⟨a0, a1, a2⟩ := HA.out
  have HB := Lib.hid HAB.out
  clear HAB HA
  go_wp2_with (fail)
  refine wp_region_held_drew (S := (fun w' => w'.cell? ⟨w.heap.size, 0, none⟩ = some (.slice az m.sz.length cz) ∧ w'.cell? ⟨w.heap.size, 1, none⟩ = some (.slice ax m.st.length cs) ∧ w'.cell? ⟨w.heap.size, 2, none⟩ = some (.slice ar m.rs.length cr))) (by kernel_rfl) ?_ (fun hHeld => ?_)
  · exact ⟨a0, a1, a2⟩
  refine rg_take (v := ?_) 0 rfl (by kernel_rfl) (by kernel_rfl) (by kernel_rfl) (fun _ _ _ h => h) (by kernel_rfl) ?_ (by assumption) ?_
  rotate_left
  · (intro w' hSw; (try dsimp only at hSw); go_simp; first | done | with_reducible rfl)
  simp only [Act.put, List.setIfInBounds_toArray, List.set_cons_zero, List.set_cons_succ]
  refine rg_take (v := ?_) 1 rfl (by kernel_rfl) (by kernel_rfl) (by kernel_rfl) (fun _ _ _ h => h) (by kernel_rfl) ?_ (by assumption) ?_
  rotate_left
  · (intro w' hSw; (try dsimp only at hSw); go_simp; first | done | with_reducible rfl)
  simp only [Act.put, List.setIfInBounds_toArray, List.set_cons_zero, List.set_cons_succ]
  refine rg_take (v := ?_) 4 rfl (by kernel_rfl) (by kernel_rfl) (by kernel_rfl) (fun _ _ _ h => h) (by kernel_rfl) ?_ (by assumption) ?_
  rotate_left
  · (intro w' hSw; (try dsimp only at hSw); go_simp; first | done | with_reducible rfl)
  simp only [Act.put, List.setIfInBounds_toArray, List.set_cons_zero, List.set_cons_succ]
  refine rg_take (v := ?_) 5 rfl (by kernel_rfl) (by kernel_rfl) (by kernel_rfl) (fun _ _ _ h => h) (by kernel_rfl) ?_ (by assumption) ?_
  rotate_left
  · (intro w' hSw; (try dsimp only at hSw); go_simp; first | done | with_reducible rfl)
  simp only [Act.put, List.setIfInBounds_toArray, List.set_cons_zero, List.set_cons_succ]
  refine rg_run 2 rfl (by kernel_rfl) (by kernel_rfl) (fun K hK => ?_)
  go_simp
  refine (c_joinN az cz _ m.sz _ rfl (by omega) HN.out.s.sz (H.out.z.below HB.out).drew (HP.out.below HB.out.drew)).mono ?_
  rintro e wA ⟨sI, rfl, hsI, hb⟩
  replace a0 := cell_later hb (by exact a0)
  replace a1 := cell_later hb (by exact a1)
  replace a2 := cell_later hb (by exact a2)
  have HB1 := Lib.hid (below_chain (by exact HB.out.drew) hb)
  have hzI := size_list hsI
  have HSI := Lib.hid hsI
  clear hb hsI
  have had1 := add_str sI ⟨#[32]⟩ (by rw [hzI, sz1]; omega)
  go_wp2
  clear hHeld
  refine hK.out _ _ (by exact ⟨a0, a1, a2⟩) (fun hHeld => ?_)
  clear hK K
  try simp only [Act.put, List.setIfInBounds_toArray, List.set_cons_zero, List.set_cons_succ]
  refine rg_take (v := ?_) 3 rfl (by kernel_rfl) (by kernel_rfl) (by kernel_rfl) (fun _ _ _ h => h) (by kernel_rfl) ?_ (by assumption) ?_
  rotate_left
  · (intro w' hSw; (try dsimp only at hSw); go_simp; first | done | with_reducible rfl)
  simp only [Act.put, List.setIfInBounds_toArray, List.set_cons_zero, List.set_cons_succ]
  refine rg_run 6 rfl (by kernel_rfl) (by kernel_rfl) (fun K hK => ?_)
  go_simp
  refine (c_joinN ax cs _ m.st _ rfl (by omega) HN.out.s.st (H.out.s.below HB1.out) (HP.out.below HB1.out)).mono ?_
  rintro e wB ⟨sJ, rfl, hsJ, hb⟩
  replace a0 := cell_later hb (by exact a0)
  replace a1 := cell_later hb (by exact a1)
  replace a2 := cell_later hb (by exact a2)
  have HB2 := Lib.hid (below_chain HB1.out hb)
  have hzJ := size_list hsJ
  have HSJ := Lib.hid hsJ
  clear hb hsJ
  have had2 := add_str (sI ++ ⟨#[32]⟩) sJ (by rw [ByteArray.size_append', hzI, hzJ, sz1]; omega)
  have had3 := add_str (sI ++ ⟨#[32]⟩ ++ sJ) ⟨#[10]⟩ (by rw [ByteArray.size_append', ByteArray.size_append', hzI, hzJ, sz1, sz1]; omega)
  have HS0 : Hid ((sI ++ ⟨#[32]⟩ ++ sJ ++ ⟨#[10]⟩).data.toList = txUpto m 0) := Lib.hid (by rw [app_list, app_list, app_list, HSI.out, HSJ.out, ls1, ls1, upto_zero]; unfold txHead; simp)
  have HZ0 : Hid ((sI ++ ⟨#[32]⟩ ++ sJ ++ ⟨#[10]⟩).size ≤ 100) := Lib.hid (by rw [ByteArray.size_append', ByteArray.size_append', ByteArray.size_append', hzI, hzJ, sz1, sz1]; omega)
  go_wp2
  clear hHeld
  refine hK.out _ _ (by exact ⟨a0, a1, a2⟩) (fun hHeld => ?_)
  clear hK K
  try simp only [Act.put, List.setIfInBounds_toArray, List.set_cons_zero, List.set_cons_succ]
  refine rg_take (v := ?_) 7 rfl (by kernel_rfl) (by kernel_rfl) (by kernel_rfl) (fun _ _ _ h => h) (by kernel_rfl) ?_ (by assumption) ?_
  rotate_left
  · (intro w' hSw; (try dsimp only at hSw); go_simp; first | done | with_reducible rfl)
  simp only [Act.put, List.setIfInBounds_toArray, List.set_cons_zero, List.set_cons_succ]
  refine rg_take (v := ?_) 8 rfl (by kernel_rfl) (by kernel_rfl) (by kernel_rfl) (fun _ _ _ h => h) (by kernel_rfl) ?_ (by assumption) ?_
  rotate_left
  · (intro w' hSw; (try dsimp only at hSw); go_simp; first | done | with_reducible rfl)
  simp only [Act.put, List.setIfInBounds_toArray, List.set_cons_zero, List.set_cons_succ]
  refine rg_take (v := ?_) 9 rfl (by kernel_rfl) (by kernel_rfl) (by kernel_rfl) (fun _ _ _ h => h) (by kernel_rfl) ?_ (by assumption) ?_
  rotate_left
  · (intro w' hSw; (try dsimp only at hSw); go_simp; first | done | with_reducible rfl)
  simp only [Act.put, List.setIfInBounds_toArray, List.set_cons_zero, List.set_cons_succ]
  refine wpAnyH_done (by kernel_rfl) ?_ _
  clear hHeld
  clear had1 had2 had3 hzI hzJ HSI HSJ
  generalize sI ++ ⟨#[32]⟩ ++ sJ ++ ⟨#[10]⟩ = s0 at *
  have HMB : Hid (MB wB w.heap.size az ax ar m.sz.length m.st.length m.rs.length cz cs cr) := Lib.hid ⟨a0, a1, a2⟩
  clear HB1 HB hzz htt
  go_wp2_with (fail)
  clear a0 a1 a2
  go_loopw [3, 5, 18] (fun o _ i wr => ∃ (k : Nat) (s : ByteArray), k ≤ m.rs.length ∧ i = .int .i64 k ∧ o = .string s ∧ Hid (s.data.toList = txUpto m k) ∧ s.size ≤ 100 + 300 * k ∧ Hid (MB wr w.heap.size az ax ar m.sz.length m.st.length m.rs.length cz cs cr) ∧ Hid (Below w.heap.size w wr)) (fun _ _ i _ => m.rs.length - (intOf i).toNat)
  case atStart => exact ⟨0, s0, Nat.zero_le _, rfl, rfl, HS0, HZ0.out, HMB, HB2⟩
  case round =>
    obtain ⟨k, s, hk, rfl, rfl, hS, hsz, HM, HBr⟩ := hrel
    clear HB2 HMB HS0 HZ0
    by_cases hlt : k < m.rs.length
    · obtain ⟨r, hz⟩ : ∃ z, m.rs[k]? = some z := ⟨_, List.getElem?_eq_getElem hlt⟩
      have HR := Lib.hid (HN.out.s.rs r (List.mem_of_getElem? hz))
      have HG := Lib.hid (HN.out.g r (List.mem_of_getElem? hz))
      have HST := Lib.hid (upto_step hz)
      obtain ⟨b, off, ag, cg, ae, ce, rfl, _, g0, g1, g2, hg, he⟩ := (H.out.r.below HBr.out).at hz
      have HGS := Lib.hid hg
      have HES := Lib.hid he
      have hk0 : (0 : Int) ≤ (k : Int) := by omega
      have hk1 : (k : Int) < (m.rs.length : Int) := by omega
      clear hz hg he
      have HXa : Hid (RB (wr.alloc (.cells #[.string r.nm, .slice ag r.gs.length cg, .slice ae r.es.length ce] 45)) wr.heap.size r.nm ag ae r.gs.length r.es.length cg ce) := Lib.hid ⟨by go_simp, by go_simp, by go_simp⟩
      have HBa := Lib.hid (below_alloc (Below.refl wr.heap.size wr) (.cells #[.string r.nm, .slice ag r.gs.length cg, .slice ae r.es.length ce] 45))
      go_upto_region 5 with (fail)
      generalize wr.alloc (.cells #[.string r.nm, .slice ag r.gs.length cg, .slice ae r.es.length ce] 45) = W1 at *
      obtain ⟨x0, x1, x2⟩ := HXa.out
      have HB1 := Lib.hid (below_chain HBr.out HBa.out)
      have HM1 := Lib.hid (HM.out.below HBa.out)
      have HG1 := Lib.hid (HGS.out.below HBa.out)
      have HE1 := Lib.hid (HES.out.below HBa.out)
      clear HXa HBa HBr HM HGS HES g0 g1 g2
      have hrt : (txRule r).length ≤ 200 := by
        have h1 := tests_len HR.out
        have h2 := asgs_len HR.out
        have h3 := HG.out
        have h4 : r.nm.data.toList.length = r.nm.size := (size_list rfl).symm
        unfold txRule
        simp only [List.length_append, List.length_cons]
        omega
      go_wp2_with (fail)
      refine (c_ruleText r ag ae cg ce _ HR.out HG.out.1 HG.out.2.1 HG.out.2.2 HG1.out HE1.out (HP.out.below HB1.out)).mono ?_
      rintro e w2 ⟨rfl, hb⟩
      have HB2 := Lib.hid (below_chain HB1.out hb)
      have HM2 := Lib.hid (HM1.out.below hb)
      have had1 : ∀ w, (Op.stringOp .add (bsT (txRule r)) ⟨#[10]⟩).run Tryz.prog w = .ok (.string (bsT (txRule r ++ [10]))) w := add_bsT (txRule r) [10] (by simp; omega)
      have had2 := add_str s (bsT (txRule r ++ [10])) (by rw [bsT_size]; simp; omega)
      have HL : Hid ((s ++ bsT (txRule r ++ [10])).data.toList = txUpto m (k + 1)) := Lib.hid (by rw [app_list, bsT_list, HST.out, hS.out]; simp)
      have HZ : Hid ((s ++ bsT (txRule r ++ [10])).size ≤ 100 + 300 * (k + 1)) := Lib.hid (by rw [ByteArray.size_append', bsT_size]; simp; omega)
      generalize txRule r ++ [10] = tl at *
      clear hb HB1 HM1 HG1 HE1 x0 x1 x2 hrt
      go_wp2_with (fail)
      go_roundw
      case rel => exact ⟨k + 1, _, by omega, by go_num, rfl, HL, HZ.out, HM2, HB2⟩
      case measure => simp [intOf]; omega
    · obtain rfl : k = m.rs.length := by omega
      go_wp2_with (fail)
      go_ret
      exact ⟨_, rfl, by rw [hS.out, upto_all], HBr.out⟩
set_option maxHeartbeats 1000000 in
set_option maxRecDepth 100000 in
theorem c_ModelText (m : Mdl) (az ax ar : Option Addr) (cz cs cr : Nat) (w : World) (hok : MOk m) (h : Md w az ax ar m) (hP : Pw w) :
    Calls Tryz.prog 12 #[mv m az ax ar cz cs cr] w (RetStr (outT m) w) := by
  have HIS := Lib.hid (fun w' h => c_IsModel m az ax ar cz cs cr w' hok h)
  have HMT := Lib.hid (fun hN w' h hP => c_modelText m az ax ar cz cs cr w' hN h hP)
  have H := Lib.hid h
  have HP := Lib.hid hP
  have HAB : Hid (Below w.heap.size w (w.alloc (.cells #[.slice az m.sz.length cz, .slice ax m.st.length cs, .slice ar m.rs.length cr] 25))) := Lib.hid (below_alloc (Below.refl _ _) _)
  have HA : Hid (MB (w.alloc (.cells #[.slice az m.sz.length cz, .slice ax m.st.length cs, .slice ar m.rs.length cr] 25)) w.heap.size az ax ar m.sz.length m.st.length m.rs.length cz cs cr) := Lib.hid ⟨by go_simp, by go_simp, by go_simp⟩
  clear hok h hP
  dsimp only [mv] at *
  go_enter Tryz.func12, Tryz.ntmps12
  go_upto_region 1 with (fail)
  generalize w.alloc (.cells #[.slice az m.sz.length cz, .slice ax m.st.length cs, .slice ar m.rs.length cr] 25) = W at *
  obtain ⟨a0, a1, a2⟩ := HA.out
  go_wp2_with (fail)
  refine (HIS.out _ (H.out.below HAB.out)).mono ?_
  rintro e w1 ⟨rfl, hb⟩
  have HB := Lib.hid (below_chain HAB.out hb)
  obtain ⟨a0, a1, a2⟩ := HA.out.below hb
  clear hb HA HAB HIS
  rcases hv : mdB m with _ | _
  · have HV : Hid (outT m = []) := Lib.hid (by unfold outT; rw [hv]; rfl)
    go_wp2_with (fail)
    go_ret
    exact ⟨_, rfl, by rw [HV.out], HB.out⟩
  · have HV : Hid (txModel m = outT m) := Lib.hid (by unfold outT; rw [hv]; rfl)
    have HN := Lib.hid (valid_N hv)
    clear hv
    go_wp2_with (fail)
    refine (HMT.out HN.out _ (H.out.below HB.out) (HP.out.below HB.out)).mono ?_
    rintro e w2 ⟨s, rfl, hs, hb⟩
    have HB2 := Lib.hid (below_chain HB.out hb)
    have HS := Lib.hid hs
    clear hb hs
    go_wp2_with (fail)
    go_ret
    exact ⟨s, rfl, by rw [HS.out, HV.out], HB2.out⟩
end Go.Proofs.YtgpmglfcdbpgkaaGreatDoor

/- A text cut at a byte, on the reference's side. Condition: the text's length. -/
namespace Go.Proofs.YtgpmglfcdbpgkaaGreatDoor
open Go.RowKit

def RetStrs (ws : List (List UInt8)) (n : Nat) (w : World) (e : Ending) (w' : World) : Prop :=
  ∃ A cp, e = .returned (.slice A n cp) ∧ w'.ownsRow w.heap.size 9 1 (.slice A n cp) n (strs ws) ∧ Below w.heap.size w w'
theorem wpList_push_str (w : World) {ops : Array Oper} {rest : List Oper} {o : Oper} {a : Act} {Q : Exit → Act → World → Prop} (hgd : o.guard = none) (s x : Operand)
    (ho : o.op = .call { callee := .builtin .append, args := #[s, x], argTypes := #[48, 48] })
    (base : Nat) (v : Value) (n : Nat) (ws : List (List UInt8)) (L : List UInt8) (g c : Nat) (hs : a.eval s = v) (hown : w.ownsRow base 9 1 v n (strs ws))
    (hx : a.eval x = .slice (some ⟨g, 0, none⟩) 1 c) (h0 : w.cell? ⟨g, 0, none⟩ = some (.string (bsT L))) (hn : n ≤ 1000000000) (hbase : base ≤ w.heap.size)
    (h : ∀ v' w', w'.ownsRow base 9 1 v' (n + 1) (strs (ws ++ [L])) → w.grownBy w' v.ownBlock → (v'.ownBlock = v.ownBlock ∨ v'.ownBlock = some w.heap.size) → wpList Tryz.prog ops Q rest (a.put o.dst v') w') : wpList Tryz.prog ops Q (o :: rest) a w :=
  wpList_plain hgd fun _ hK => wp_push_str w s x ho base v n ws L g c hs hown hx h0 hn hbase fun v' w' h2 h3 h4 => hK _ _ (h v' w' h2 h3 h4)
theorem spl_count (c : UInt8) : ∀ (L : List UInt8), (spl c L).length ≤ L.length + 1
  | [] => by simp [spl]
  | b :: l => by
    have := spl_count c l
    have := spl_ne c l
    unfold spl
    split
    · simp; omega
    · have h1 : 1 ≤ (spl c l).length := by cases h : spl c l with | nil => exact absurd h this | cons _ _ => simp
      simp
      omega
theorem extract_bsT (s : ByteArray) (f k : Nat) : s.extract f k = bsT ((s.data.toList.drop f).take (k - f)) := by
  apply bsT_of
  rw [← Lib.toList_data, Lib.extract_toList]
theorem spl_step {c : UInt8} {L : List UInt8} {f k : Nat} (hf : f ≤ k) (hk : L[k]? = some c) (hn : c ∉ (L.drop f).take (k - f)) : spl c (L.drop f) = (L.drop f).take (k - f) :: spl c (L.drop (k + 1)) := by
  have hlt := (List.getElem?_eq_some_iff.1 hk).1
  have e : L.drop f = (L.drop f).take (k - f) ++ c :: L.drop (k + 1) := by
    have h1 : (L.drop f).drop (k - f) = c :: L.drop (k + 1) := by
      rw [List.drop_drop, show f + (k - f) = k by omega, List.drop_eq_getElem_cons hlt]
      congr 1
      have := (List.getElem?_eq_some_iff.1 hk).2
      exact this
    rw [← h1, List.take_append_drop]
  generalize (L.drop f).take (k - f) = x at *
  rw [e]
  exact spl_cut _ hn
theorem take_next {c b : UInt8} {L : List UInt8} {f k : Nat} (hf : f ≤ k) (hk : L[k]? = some b) (hb : b ≠ c) (hn : c ∉ (L.drop f).take (k - f)) : c ∉ (L.drop f).take (k + 1 - f) := by
  rw [show k + 1 - f = (k - f) + 1 by omega, List.take_add_one, List.getElem?_drop, show f + (k - f) = k by omega, hk, List.mem_append]
  intro h
  rcases h with h | h
  · exact hn h
  · simp at h; exact hb h.symm
theorem spl_last {c : UInt8} {L : List UInt8} {f : Nat} (hn : c ∉ (L.drop f).take (L.length - f)) : spl c (L.drop f) = [(L.drop f).take (L.length - f)] := by
  have e : (L.drop f).take (L.length - f) = L.drop f := List.take_of_length_le (by rw [List.length_drop]; exact Nat.le_refl _)
  rw [e] at hn ⊢
  exact spl_out hn
set_option maxHeartbeats 2000000 in
set_option maxRecDepth 100000 in
theorem c_l01Split (s : ByteArray) (c : UInt8) (w : World) (hs : s.size ≤ 1048576) :
    Calls Tryz.prog 21 #[.string s, .int .u8 c.toNat] w (RetStrs (spl c s.data.toList) (spl c s.data.toList).length w) := by
  have hL : s.data.toList.length = s.size := by simp
  obtain ⟨L, hLe⟩ : ∃ L, L = s.data.toList := ⟨_, rfl⟩
  rw [← hLe] at hL ⊢
  have HEX := Lib.hid (fun f k => extract_bsT s f k)
  rw [← hLe] at HEX
  have HAT : Hid (∀ k (h : k < s.size), L[k]? = some s[k]) := Lib.hid (fun k h => by rw [hLe, List.getElem?_eq_getElem (by simpa using h)]; rfl)
  have HC := Lib.hid (spl_count c L)
  have HB0 := Lib.hid (below_alloc (Below.refl w.heap.size w) (.cells #[] 9))
  have HO : Hid ((w.alloc (.cells #[] 9)).ownsRow w.heap.size 9 1 (.slice (some ⟨w.heap.size, 0, none⟩) 0 0) 0 (strs [])) := Lib.hid (by
    have h := World.ownsRow_lit (e := 9) (size := 1) (base := w.heap.size) w #[] 0 (Nat.le_refl _) (by decide) (by simp)
    simpa [strs] using h)
  have HLL := Lib.hid hL
  clear hLe hL
  go_enter Tryz.func21, Tryz.ntmps21
  go_wp2_with (fail)
  generalize w.alloc (.cells #[] 9) = W at *
  go_loopw [5, 6, 7] (fun v fr i wr => ∃ (k f n : Nat) (A3 : Option Addr) (c3 : Nat) (ws : List (List UInt8)), i = .int .i64 k ∧ fr = .int .i64 f ∧ v = .slice A3 n c3 ∧ n = ws.length ∧ n ≤ (spl c L).length ∧ k ≤ s.size + 1 ∧ Hid ((k ≤ s.size ∧ f ≤ k ∧ spl c L = ws ++ spl c (L.drop f) ∧ c ∉ (L.drop f).take (k - f)) ∨ (k = s.size + 1 ∧ ws = spl c L)) ∧ Hid (wr.ownsRow w.heap.size 9 1 (.slice A3 n c3) n (strs ws)) ∧ Hid (Below w.heap.size w wr)) (fun _ _ i _ => s.size + 1 - (intOf i).toNat)
  case atStart => exact ⟨0, 0, 0, _, _, [], rfl, rfl, rfl, rfl, Nat.zero_le _, Nat.zero_le _, Lib.hid (.inl ⟨Nat.zero_le _, Nat.le_refl _, rfl, by simp⟩), HO, HB0⟩
  case round =>
    obtain ⟨k, f, n, A3, c3, ws, rfl, rfl, rfl, hn, hnl, hk, HI, ho, hb⟩ := hrel
    clear HO HB0
    have HN := Lib.hid hn
    clear hn
    rcases HI.out with ⟨hks, hfk, hsp, hnc⟩ | ⟨hks, hsp⟩
    · have hk0 : (0 : Int) ≤ (k : Int) := by omega
      have hf0 : (0 : Int) ≤ (f : Int) := by omega
      have hfk0 : (f : Int) ≤ (k : Int) := by omega
      have hks0 : (k : Int) ≤ (s.size : Int) := by omega
      have hcl := HC.out
      have hll := HLL.out
      have HSP := Lib.hid hsp
      have HNC := Lib.hid hnc
      obtain ⟨x, hxe⟩ : ∃ x, x = (L.drop f).take (k - f) := ⟨_, rfl⟩
      have hx : s.extract f k = bsT x := by rw [hxe]; exact HEX.out f k
      have HXE := Lib.hid hxe
      clear HI hsp hnc hxe
      by_cases hlt : k < s.size
      · have hlt0 : (k : Int) < (s.size : Int) := by omega
        have hne0 : ((k : Int) == (s.size : Int)) = false := by simp; omega
        by_cases hbc : s[k] = c
        · have hq : (((s[k]).toNat : Int) == (c.toNat : Int)) = true := by rw [hbc]; simp
          have HST : Hid (spl c L = (ws ++ [x]) ++ spl c (L.drop (k + 1))) := Lib.hid (by
            have hat := HAT.out k hlt
            rw [hbc] at hat
            rw [HSP.out, spl_step hfk hat HNC.out, HXE.out]
            simp)
          have HNL : Hid (n + 1 ≤ (spl c L).length) := Lib.hid (by rw [HST.out, HN.out]; simp)
          clear hbc
          have HA1 := Lib.hid (below_alloc (Below.refl wr.heap.size wr) (.cells #[.string (bsT x)] 9))
          have hnx : n ≤ 1000000000 := by omega
          go_wp2_with (first
            | (at_builtin
               refine wpList_push_str _ rfl (.tmp 26) (.tmp 31) rfl w.heap.size (.slice A3 n c3) n ws x wr.heap.size 1 rfl (own_below ho.out HA1.out) rfl (by go_simp) hnx (Nat.le_trans hb.out.size HA1.out.size) ?_
               intro v5 w5 hown hgrow _
               obtain ⟨A9, c9, rfl⟩ := own_shape hown
               have HO5 := Lib.hid hown
               have HB5 := Lib.hid (below_of_grown (below_chain hb.out HA1.out) hgrow (fun p hp => (ho.out.lt p hp).1))
               clear hown hgrow HA1 ho hb)
            )
          go_roundw
          case rel => exact ⟨k + 1, k + 1, n + 1, A9, c9, ws ++ [x], by go_num, by go_num, rfl, by rw [HN.out]; simp, HNL.out, by omega, Lib.hid (.inl ⟨by omega, Nat.le_refl _, HST.out, by simp⟩), HO5, HB5⟩
          case measure => simp [intOf]; omega
        · have hq : (((s[k]).toNat : Int) == (c.toNat : Int)) = false := by
            rw [beq_eq_false_iff_ne]
            intro e
            exact hbc (UInt8.toNat_inj.1 (by omega))
          have HTN := Lib.hid (take_next hfk (HAT.out k hlt) hbc HNC.out)
          clear hbc
          go_wp2_with (fail)
          go_roundw
          case rel => exact ⟨k + 1, f, n, A3, c3, ws, by go_num, rfl, rfl, HN.out, hnl, by omega, Lib.hid (.inl ⟨by omega, by omega, HSP.out, HTN.out⟩), ho, hb⟩
          case measure => simp [intOf]; omega
      · have hke : k = s.size := by omega
        have hne0 : ((k : Int) == (s.size : Int)) = true := by simp; omega
        have HST : Hid (spl c L = ws ++ [x]) := Lib.hid (by
          rw [HSP.out, HXE.out]
          have h1 := HNC.out
          rw [show k = L.length by have := HLL.out; omega] at h1 ⊢
          rw [spl_last h1])
        have HNL : Hid (n + 1 ≤ (spl c L).length) := Lib.hid (by rw [HST.out, HN.out]; simp)
        have HKE := Lib.hid hke
        clear hke hlt
        have HA1 := Lib.hid (below_alloc (Below.refl wr.heap.size wr) (.cells #[.string (bsT x)] 9))
        have hnx : n ≤ 1000000000 := by omega
        go_wp2_with (first
          | (at_builtin
             refine wpList_push_str _ rfl (.tmp 26) (.tmp 31) rfl w.heap.size (.slice A3 n c3) n ws x wr.heap.size 1 rfl (own_below ho.out HA1.out) rfl (by go_simp) hnx (Nat.le_trans hb.out.size HA1.out.size) ?_
             intro v5 w5 hown hgrow _
             obtain ⟨A9, c9, rfl⟩ := own_shape hown
             have HO5 := Lib.hid hown
             have HB5 := Lib.hid (below_of_grown (below_chain hb.out HA1.out) hgrow (fun p hp => (ho.out.lt p hp).1))
             clear hown hgrow HA1 ho hb)
          )
        go_roundw
        case rel => exact ⟨k + 1, k + 1, n + 1, A9, c9, ws ++ [x], by go_num, by go_num, rfl, by rw [HN.out]; simp, HNL.out, by have := HKE.out; omega, Lib.hid (.inr ⟨by have := HKE.out; omega, HST.out.symm⟩), HO5, HB5⟩
        case measure => have := HKE.out; simp [intOf]; omega
    · have hgt : ¬ ((k : Int) ≤ (s.size : Int)) := by omega
      have hn2 : n = (spl c L).length := by rw [← hsp]; exact HN.out
      have HSP := Lib.hid hsp
      have HN2 := Lib.hid hn2
      clear hsp hks hn2 HI
      go_wp2_with (fail)
      go_ret
      exact ⟨A3, c3, by rw [← HN2.out]; rfl, by rw [← HN2.out, ← HSP.out]; exact ho.out, hb.out⟩
end Go.Proofs.YtgpmglfcdbpgkaaGreatDoor
