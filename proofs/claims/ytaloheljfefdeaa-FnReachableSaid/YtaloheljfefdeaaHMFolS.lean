/- FollowTrace (reference): the walk. Condition: the lengths are those that the laws let by. -/
import Derived.Test.YtaloheljfefdeaaH5
namespace Go.Proofs.Ytaloheljfefdeaa
open Go.RowKit

theorem OwnS.keepInt {w w' : World} {base hi b0 n : Nat} {v u : Value} {L : List (List Int)} {xs : List Value} (h : OwnS w base hi v L) (hd : w.ownsRow b0 2 1 u n xs) (hg : w.grownBy w' v.ownBlock) : w'.ownsRow b0 2 1 u n xs := by
  obtain ⟨_, _, h1, _⟩ := h
  exact own_keep hd h1 (by decide) hg
set_option maxHeartbeats 4000000 in
set_option maxRecDepth 100000 in
theorem c_sFollowTrace (m : Mdl) (az ax ar : Option Addr) (cz cs cr : Nat) (A : Option Addr) (c : Nat) (tr : List Int) (w : World) (hok : MOk m) (hl : tr.length ≤ 1048576) (h : Md w az ax ar m) (hv : Rd w A (ints tr)) :
    Calls Try.prog 45 #[mv m az ax ar cz cs cr, .slice A tr.length c] w (RetSC (ftL m tr).length (ftL m tr) (ftC m tr) w) := by
  have HI := Lib.hid (fun w' h => c_sIsModel m az ax ar cz cs cr w' hok h)
  have HM := Lib.hid h
  have HV := Lib.hid hv
  have hrl := hok.1.2.2.1
  have HBD := Lib.hid (show trBad m tr = tr.any (fun y => !inB y 0 (m.rs.length - 1)) from rfl)
  rcases hmd : mdB m with _ | _
  · rw [hmd] at HI
    have e1 : ftC m tr = 1 := by unfold ftC; rw [hmd]; rfl
    have e2 : ftL m tr = [] := by unfold ftL; rw [hmd]; rfl
    rw [e1, e2]
    clear e1 e2 h hv hok hmd HBD
    dsimp only [mv] at *
    generalize m.sz.length = sn at *
    generalize m.st.length = tn at *
    generalize m.rs.length = rn at *
    generalize tr.length = ln at *
    go_enter Try.func45, Try.ntmps45
    go_wp2_with (fail)
    refine (HI.out _ (HM.out.alloc _)).mono ?_
    rintro e w1 ⟨rfl, hb⟩
    have HB := Lib.hid (below_chain (by (repeat (first | exact Below.refl _ _ | assumption | refine below_alloc ?_ _ | refine below_drewN ?_ _ | refine below_set ?_ _ (by simp; try omega) | refine Below.drew ?_)) : Below w.heap.size w _) hb)
    clear hb
    go_wp2
    go_ret2
    exact retSC_nil rfl rfl HB.out
  rw [hmd] at HI
  rcases Nat.lt_or_ge 4000 tr.length with h4 | h4
  · have e1 : ftC m tr = 3 := by unfold ftC; rw [hmd, if_pos rfl, if_pos h4]
    have e2 : ftL m tr = [] := by unfold ftL; rw [hmd, if_pos rfl, if_pos h4]
    rw [e1, e2]
    clear e1 e2 h hv hok hmd HBD
    dsimp only [mv] at *
    generalize m.sz.length = sn at *
    generalize m.st.length = tn at *
    generalize m.rs.length = rn at *
    generalize tr.length = ln at *
    go_enter Try.func45, Try.ntmps45
    go_wp2_with (fail)
    refine (HI.out _ (HM.out.alloc _)).mono ?_
    rintro e w1 ⟨rfl, hb⟩
    have HB := Lib.hid (below_chain (by (repeat (first | exact Below.refl _ _ | assumption | refine below_alloc ?_ _ | refine below_drewN ?_ _ | refine below_set ?_ _ (by simp; try omega) | refine Below.drew ?_)) : Below w.heap.size w _) hb)
    clear hb
    go_wp2
    go_ret2
    exact retSC_nil rfl rfl HB.out
  have h4' : ¬ 4000 < tr.length := by omega
  have e1 : ftC m tr = if trBad m tr then 4 else if trOK m tr tr.length then 0 else 5 := by unfold ftC; rw [hmd, if_pos rfl, if_neg h4']
  have e2 : ftL m tr = if trBad m tr then [] else if trOK m tr tr.length then trL m tr tr.length else [] := by unfold ftL; rw [hmd, if_pos rfl, if_neg h4']
  rw [e1, e2]
  have hst := st_of hmd
  have HVP := vs_pos hmd hst
  have HHL := Lib.hid (fun (k : Nat) (r : Rul) (hr : r ∈ m.rs) a c ag cg w' hv hg => show Calls Try.prog 61 #[.slice a m.st.length c, .slice ag r.gs.length cg] w' _ by
    have := c_l20Holds a c (trS m tr k) ag cg r.gs w' (by rw [trS_len]; exact hok.1.2.1) ((gs_of hmd hst hok) r hr).2 (by rw [trS_len]; exact ((gs_of hmd hst hok) r hr).1) hv hg
    rw [trS_len] at this
    exact this)
  have HAP := Lib.hid (fun (k kk : Nat) (r : Rul) (hr : m.rs[kk]? = some r) b off c w' hv he => c_l20Apply m az ax ar cz cs cr kk r b off c m.st.length (trS m tr k) w' hr hrl (trS_len m tr k).symm hok.1.2.1 (hok.1.2.2.2 r (List.mem_of_getElem? hr)).2 (es_of hmd hst (List.mem_of_getElem? hr)) hv he)
  have HYB := Lib.hid (fun (k : Nat) (y : Int) (hbd : trBad m tr = false) (hk : tr[k]? = some y) => bad_not hbd hk)
  have HAR := Lib.hid (fun (k kk : Nat) (r : Rul) (hk : tr[k]? = some (kk : Int)) (hr : m.rs[kk]? = some r) => show arR m (tr.getD k 0) = r by rw [getD_of hk]; unfold arR; rw [Int.toNat_natCast]; exact getDR hr)
  have HSL := Lib.hid (fun k => trS_len m tr k)
  have HOWN := Lib.hid (fun (k : Nat) b off c w' h => show Calls Try.prog 55 #[.slice (some ⟨b, off, none⟩) m.st.length c] w' _ from c_l01Own b off c m.st.length (trS m tr k) w' (trS_len m tr k).symm (by omega) h)
  obtain ⟨bs, os, has, _, _⟩ := HM.out.s.some_ (by intro e; have h5 := ints_length m.st; rw [e] at h5; simp at h5; omega)
  subst has
  have HLN := Lib.hid (rfl : tr.length = tr.length)
  have HRC := Lib.hid (rfl : 0 = 0)
  have HRL := Lib.hid (rfl : 0 = 0)
  generalize hC : (if trBad m tr = true then (4 : Int) else if trOK m tr tr.length = true then 0 else 5) = C
  generalize hL : (if trBad m tr = true then ([] : List (List Int)) else if trOK m tr tr.length = true then trL m tr tr.length else []) = L
  replace HRC := Lib.hid hC
  replace HRL := Lib.hid hL
  clear hC hL e1 e2 h hv hok hmd h4' hst
  have HT0 := Lib.hid (show trL m tr 0 = [trS m tr 0] from rfl)
  have HZ0 := Lib.hid (show trS m tr 0 = m.st from rfl)
  have hw : IntKind.i64.wrap ((m.rs.length : Int) - 1) = m.rs.length - 1 := IntWalk.i64_in _ (by omega)
  dsimp only [mv] at *
  generalize m.sz.length = sn at *
  generalize hstn : m.st.length = tn at *
  have HSTN := Lib.hid hstn
  clear hstn
  generalize hrn : m.rs.length = rn at *
  have HRN := Lib.hid hrn
  clear hrn
  generalize hln : tr.length = ln at *
  replace HLN := Lib.hid hln
  clear hln
  have HR := Lib.hid HM.out.r
  have HX := Lib.hid HM.out.s
  go_enter Try.func45, Try.ntmps45
  go_wp2_with (fail)
  refine (HI.out _ (HM.out.alloc _)).mono ?_
  rintro e w1 ⟨rfl, hb⟩
  have k0 : w1.cell? ⟨w.heap.size, 0, none⟩ = some (.slice az sn cz) := cell_later hb (by go_simp)
  have k1 : w1.cell? ⟨w.heap.size, 1, none⟩ = some (.slice (some ⟨bs, os, none⟩) tn cs) := cell_later hb (by go_simp)
  have k2 : w1.cell? ⟨w.heap.size, 2, none⟩ = some (.slice ar rn cr) := cell_later hb (by go_simp)
  have HB := Lib.hid (below_chain (by (repeat (first | exact Below.refl _ _ | assumption | refine below_alloc ?_ _ | refine below_drewN ?_ _ | refine below_set ?_ _ (by simp; try omega) | refine Below.drew ?_)) : Below w.heap.size w _) hb)
  clear hb HI HM
  go_wp2
  go_loopw [6] (fun i wr => ∃ k : Nat, k ≤ ln ∧ i = .int .i64 k ∧ Hid ((tr.take k).any (fun y => !inB y 0 (rn - 1)) = false) ∧ wr.cell? ⟨w.heap.size, 0, none⟩ = some (.slice az sn cz) ∧ wr.cell? ⟨w.heap.size, 1, none⟩ = some (.slice (some ⟨bs, os, none⟩) tn cs) ∧ wr.cell? ⟨w.heap.size, 2, none⟩ = some (.slice ar rn cr) ∧ Below w.heap.size w wr) (fun i _ => ln - (intOf i).toNat)
  case atStart => exact ⟨0, Nat.zero_le _, rfl, Lib.hid rfl, k0, k1, k2, HB.out⟩
  case round =>
    clear k0 k1 k2 HB
    obtain ⟨k, hk, rfl, ha, k0, k1, k2, hb⟩ := hrel
    by_cases hlt : k < ln
    · obtain ⟨y, hz⟩ : ∃ z, tr[k]? = some z := ⟨_, List.getElem?_eq_getElem (by have := HLN.out; omega)⟩
      obtain ⟨bt, ot, rfl, _, t0⟩ := (HV.out.below hb).int hz
      have HZZ := Lib.hid hz
      have HBE := Lib.hid hb
      have hk0 : (0 : Int) ≤ (k : Int) := by omega
      have hk1 : (k : Int) < (ln : Int) := by omega
      clear hz hb
      rcases hin : inB y 0 ((rn : Int) - 1) with _ | _
      · have HI := Lib.hid hin
        have HBA := Lib.hid (show trBad m tr = true by
          have := HBD.out
          rw [this]
          exact List.any_eq_true.2 ⟨y, List.mem_of_getElem? HZZ.out, by rw [HI.out]; rfl⟩)
        clear hin
        go_wp2
        refine wp_region_held_drew (S := (fun w' => w'.cell? ⟨bt, ot + k, none⟩ = some (.int .i64 y) ∧ w'.cell? ⟨w.heap.size, 2, none⟩ = some (.slice ar rn cr))) (by kernel_rfl) ?_ (fun hHeld => ?_)
        · exact ⟨t0, k2⟩
        refine rg_take (v := ?_) 0 rfl (by kernel_rfl) (by kernel_rfl) (by kernel_rfl) (fun _ _ _ h => h) (by kernel_rfl) ?_ (by assumption) ?_
        rotate_left
        · (intro w' hSw; (try dsimp only at hSw); go_simp; first | done | with_reducible rfl)
        simp only [Act.put, List.setIfInBounds_toArray, List.set_cons_zero, List.set_cons_succ]
        refine rg_take (v := ?_) 1 rfl (by kernel_rfl) (by kernel_rfl) (by kernel_rfl) (fun _ _ _ h => h) (by kernel_rfl) ?_ (by assumption) ?_
        rotate_left
        · (intro w' hSw; (try dsimp only at hSw); go_simp; first | done | with_reducible rfl)
        simp only [Act.put, List.setIfInBounds_toArray, List.set_cons_zero, List.set_cons_succ]
        refine rg_take (v := ?_) 2 rfl (by kernel_rfl) (by kernel_rfl) (by kernel_rfl) (fun _ _ _ h => h) (by kernel_rfl) ?_ (by assumption) ?_
        rotate_left
        · (intro w' hSw; (try dsimp only at hSw); go_simp; first | done | with_reducible rfl)
        simp only [Act.put, List.setIfInBounds_toArray, List.set_cons_zero, List.set_cons_succ]
        refine rg_take (v := ?_) 3 rfl (by kernel_rfl) (by kernel_rfl) (by kernel_rfl) (fun _ _ _ h => h) (by kernel_rfl) ?_ (by assumption) ?_
        rotate_left
        · (intro w' hSw; (try dsimp only at hSw); go_simp; first | done | with_reducible rfl)
        simp only [Act.put, List.setIfInBounds_toArray, List.set_cons_zero, List.set_cons_succ]
        refine rg_take (v := ?_) 4 rfl (by kernel_rfl) (by kernel_rfl) (by kernel_rfl) (fun _ _ _ h => h) (by kernel_rfl) ?_ (by assumption) ?_
        rotate_left
        · (intro w' hSw; (try dsimp only at hSw); go_simp; first | done | with_reducible rfl)
        simp only [Act.put, List.setIfInBounds_toArray, List.set_cons_zero, List.set_cons_succ]
        refine rg_take (v := ?_) 5 rfl (by kernel_rfl) (by kernel_rfl) (by kernel_rfl) (fun _ _ _ h => h) (by kernel_rfl) ?_ (by assumption) ?_
        rotate_left
        · (intro w' hSw; (try dsimp only at hSw); go_simp; first | done | with_reducible rfl)
        simp only [Act.put, List.setIfInBounds_toArray, List.set_cons_zero, List.set_cons_succ]
        refine rg_take (v := ?_) 6 rfl (by kernel_rfl) (by kernel_rfl) (by kernel_rfl) (fun _ _ _ h => h) (by kernel_rfl) ?_ (by assumption) ?_
        rotate_left
        · (intro w' hSw; (try dsimp only at hSw); go_simp; first | done | with_reducible rfl)
        simp only [Act.put, List.setIfInBounds_toArray, List.set_cons_zero, List.set_cons_succ]
        refine rg_take (v := ?_) 7 rfl (by kernel_rfl) (by kernel_rfl) (by kernel_rfl) (fun _ _ _ h => h) (by kernel_rfl) ?_ (by assumption) ?_
        rotate_left
        · (intro w' hSw; (try dsimp only at hSw); go_simp; first | done | with_reducible rfl)
        simp only [Act.put, List.setIfInBounds_toArray, List.set_cons_zero, List.set_cons_succ]
        refine rg_run 8 rfl (by kernel_rfl) (by kernel_rfl) (fun K hK => ?_)
        go_simp
        refine (c_l01In _ _ _ _).mono ?_
        rintro e w4 ⟨rfl, rfl⟩
        rw [HI.out]
        go_wp2
        clear hHeld
        refine hK.out _ _ ⟨t0, k2⟩ (fun hHeld => ?_)
        clear hK K
        try simp only [Act.put, List.setIfInBounds_toArray, List.set_cons_zero, List.set_cons_succ]
        refine rg_take (v := ?_) 9 rfl (by kernel_rfl) (by kernel_rfl) (by kernel_rfl) (fun _ _ _ h => h) (by kernel_rfl) ?_ (by assumption) ?_
        rotate_left
        · (intro w' hSw; (try dsimp only at hSw); go_simp; first | done | with_reducible rfl)
        simp only [Act.put, List.setIfInBounds_toArray, List.set_cons_zero, List.set_cons_succ]
        refine wpAnyH_done (by kernel_rfl) ?_ _
        clear hHeld
        have e1 := HRC.out
        have e2 := HRL.out
        rw [HBA.out, if_pos rfl] at e1 e2
        subst e1 e2
        go_wp2
        go_ret2
        exact retSC_nil rfl rfl HBE.out.drew
      · have HI := Lib.hid hin
        clear hin
        go_wp2
        refine wp_region_held_drew (S := (fun w' => w'.cell? ⟨bt, ot + k, none⟩ = some (.int .i64 y) ∧ w'.cell? ⟨w.heap.size, 2, none⟩ = some (.slice ar rn cr))) (by kernel_rfl) ?_ (fun hHeld => ?_)
        · exact ⟨t0, k2⟩
        refine rg_take (v := ?_) 0 rfl (by kernel_rfl) (by kernel_rfl) (by kernel_rfl) (fun _ _ _ h => h) (by kernel_rfl) ?_ (by assumption) ?_
        rotate_left
        · (intro w' hSw; (try dsimp only at hSw); go_simp; first | done | with_reducible rfl)
        simp only [Act.put, List.setIfInBounds_toArray, List.set_cons_zero, List.set_cons_succ]
        refine rg_take (v := ?_) 1 rfl (by kernel_rfl) (by kernel_rfl) (by kernel_rfl) (fun _ _ _ h => h) (by kernel_rfl) ?_ (by assumption) ?_
        rotate_left
        · (intro w' hSw; (try dsimp only at hSw); go_simp; first | done | with_reducible rfl)
        simp only [Act.put, List.setIfInBounds_toArray, List.set_cons_zero, List.set_cons_succ]
        refine rg_take (v := ?_) 2 rfl (by kernel_rfl) (by kernel_rfl) (by kernel_rfl) (fun _ _ _ h => h) (by kernel_rfl) ?_ (by assumption) ?_
        rotate_left
        · (intro w' hSw; (try dsimp only at hSw); go_simp; first | done | with_reducible rfl)
        simp only [Act.put, List.setIfInBounds_toArray, List.set_cons_zero, List.set_cons_succ]
        refine rg_take (v := ?_) 3 rfl (by kernel_rfl) (by kernel_rfl) (by kernel_rfl) (fun _ _ _ h => h) (by kernel_rfl) ?_ (by assumption) ?_
        rotate_left
        · (intro w' hSw; (try dsimp only at hSw); go_simp; first | done | with_reducible rfl)
        simp only [Act.put, List.setIfInBounds_toArray, List.set_cons_zero, List.set_cons_succ]
        refine rg_take (v := ?_) 4 rfl (by kernel_rfl) (by kernel_rfl) (by kernel_rfl) (fun _ _ _ h => h) (by kernel_rfl) ?_ (by assumption) ?_
        rotate_left
        · (intro w' hSw; (try dsimp only at hSw); go_simp; first | done | with_reducible rfl)
        simp only [Act.put, List.setIfInBounds_toArray, List.set_cons_zero, List.set_cons_succ]
        refine rg_take (v := ?_) 5 rfl (by kernel_rfl) (by kernel_rfl) (by kernel_rfl) (fun _ _ _ h => h) (by kernel_rfl) ?_ (by assumption) ?_
        rotate_left
        · (intro w' hSw; (try dsimp only at hSw); go_simp; first | done | with_reducible rfl)
        simp only [Act.put, List.setIfInBounds_toArray, List.set_cons_zero, List.set_cons_succ]
        refine rg_take (v := ?_) 6 rfl (by kernel_rfl) (by kernel_rfl) (by kernel_rfl) (fun _ _ _ h => h) (by kernel_rfl) ?_ (by assumption) ?_
        rotate_left
        · (intro w' hSw; (try dsimp only at hSw); go_simp; first | done | with_reducible rfl)
        simp only [Act.put, List.setIfInBounds_toArray, List.set_cons_zero, List.set_cons_succ]
        refine rg_take (v := ?_) 7 rfl (by kernel_rfl) (by kernel_rfl) (by kernel_rfl) (fun _ _ _ h => h) (by kernel_rfl) ?_ (by assumption) ?_
        rotate_left
        · (intro w' hSw; (try dsimp only at hSw); go_simp; first | done | with_reducible rfl)
        simp only [Act.put, List.setIfInBounds_toArray, List.set_cons_zero, List.set_cons_succ]
        refine rg_run 8 rfl (by kernel_rfl) (by kernel_rfl) (fun K hK => ?_)
        go_simp
        refine (c_l01In _ _ _ _).mono ?_
        rintro e w4 ⟨rfl, rfl⟩
        rw [HI.out]
        go_wp2
        clear hHeld
        refine hK.out _ _ ⟨t0, k2⟩ (fun hHeld => ?_)
        clear hK K
        try simp only [Act.put, List.setIfInBounds_toArray, List.set_cons_zero, List.set_cons_succ]
        refine rg_take (v := ?_) 9 rfl (by kernel_rfl) (by kernel_rfl) (by kernel_rfl) (fun _ _ _ h => h) (by kernel_rfl) ?_ (by assumption) ?_
        rotate_left
        · (intro w' hSw; (try dsimp only at hSw); go_simp; first | done | with_reducible rfl)
        simp only [Act.put, List.setIfInBounds_toArray, List.set_cons_zero, List.set_cons_succ]
        refine wpAnyH_done (by kernel_rfl) ?_ _
        clear hHeld
        go_wp2
        go_roundw
        case rel => exact ⟨k + 1, by omega, by go_num, Lib.hid (any_take_snoc HZZ.out ha.out (by rw [HI.out]; rfl)), k0, k1, k2, HBE.out.drew⟩
        case measure => simp [intOf]; omega
    · obtain rfl : ln = k := by omega
      have hA := ha.out
      rw [List.take_of_length_le (by have := HLN.out; omega)] at hA
      have hnb : trBad m tr = false := by rw [HBD.out]; exact hA
      have e1 := HRC.out
      have e2 := HRL.out
      rw [hnb, if_neg (by simp)] at e1 e2
      have HRC2 := Lib.hid e1
      have HRL2 := Lib.hid e2
      have HYB2 := Lib.hid (fun k y hk => HYB.out k y hnb hk)
      have HB := Lib.hid hb
      clear hA ha hnb e1 e2 HRC HRL HYB HBD hb
      go_wp2_with (fail)
      refine (HOWN.out 0 bs os cs _ (by rw [HZ0.out]; exact HX.out.below HB.out)).mono ?_
      rintro e w2 ⟨gv, cv, rfl, hov, hb⟩
      replace k0 := cell_later hb k0
      replace k1 := cell_later hb k1
      replace k2 := cell_later hb k2
      have HB2 := Lib.hid (below_chain HB.out hb)
      have hb2s : w.heap.size + 1 ≤ w2.heap.size := World.block_lt_of_cell? _ _ k2
      have HOV := Lib.hid hov
      clear hb hov HB
      go_wp2_with (fail)
      refine (HOWN.out 0 gv 0 cv _ (Rd.own HOV.out)).mono ?_
      rintro e w3 ⟨g, c', rfl, ho, hb⟩
      replace k0 := cell_later hb k0
      replace k1 := cell_later hb k1
      replace k2 := cell_later hb k2
      have HB3 := Lib.hid (below_chain HB2.out hb)
      have hsz3 := World.block_lt_of_cell? _ _ k2
      dsimp only at hsz3
      have HOW := Lib.hid (ownS_one (hi := w3.heap.size) (own_mono ho hb2s) (HSL.out 0).symm hsz3 (ho.lt g rfl).2)
      have HOV3 := Lib.hid (own_below (own_below HOV.out hb) (below_alloc (Below.refl w3.heap.size w3) (Obj.cells #[Value.slice (some ⟨g, 0, none⟩) tn c'] 24)))
      clear hb ho HOV HB2
      go_wp2
      go_loopw [7, 8, 9] (fun x v i wr => ∃ k gv cv : Nat, k ≤ ln ∧ i = .int .i64 k ∧ x = .slice (some ⟨gv, 0, none⟩) tn cv ∧ Hid (∃ b0, wr.ownsRow b0 2 1 (.slice (some ⟨gv, 0, none⟩) tn cv) tn (ints (trS m tr k))) ∧ Hid (OwnS wr (w.heap.size + 1) wr.heap.size v (trL m tr k)) ∧ Hid (trOK m tr k = true) ∧ wr.cell? ⟨w.heap.size, 0, none⟩ = some (.slice az sn cz) ∧ wr.cell? ⟨w.heap.size, 1, none⟩ = some (.slice (some ⟨bs, os, none⟩) tn cs) ∧ wr.cell? ⟨w.heap.size, 2, none⟩ = some (.slice ar rn cr) ∧ Below w.heap.size w wr) (fun _ _ i _ => ln - (intOf i).toNat)
      case atStart => exact ⟨0, gv, cv, Nat.zero_le _, rfl, rfl, Lib.hid ⟨_, HOV3.out⟩, Lib.hid (by rw [HT0.out]; exact HOW.out.mono (Nat.le_refl _) (by simp)), Lib.hid rfl, by go_simp, by go_simp, by go_simp, below_alloc HB3.out _⟩
      case round =>
        clear HOW HOV3 k0 k1 k2 HB3
        obtain ⟨k, gv, cv, hk, rfl, rfl, hov, ho, ha, k0, k1, k2, hb⟩ := hrel
        by_cases hlt : k < ln
        · obtain ⟨y, hz⟩ : ∃ z, tr[k]? = some z := ⟨_, List.getElem?_eq_getElem (by have := HLN.out; omega)⟩
          have hyb := HYB2.out k y hz
          obtain ⟨kk, rfl⟩ : ∃ kk : Nat, y = kk := ⟨y.toNat, by omega⟩
          have hkk : kk < rn := by omega
          obtain ⟨r, hrz⟩ : ∃ z, m.rs[kk]? = some z := ⟨_, List.getElem?_eq_getElem (by have := HRN.out; omega)⟩
          have HARR := Lib.hid (HAR.out k kk r hz hrz)
          have hmem := List.mem_of_getElem? hrz
          obtain ⟨bt, ot, rfl, _, t0⟩ := (HV.out.below hb).int hz
          obtain ⟨rb, ro, ag, cg, ae, ce, har, _, g0, g1, g2, hg, _⟩ := (HR.out.below hb).at hrz
          obtain ⟨rb0, _, _, _, _, _, har0, hrb, _⟩ := HR.out.at hrz
          rw [har] at har0
          simp only [Option.some.injEq, Addr.mk.injEq, and_true] at har0
          rw [← har0.1] at hrb
          clear har0
          obtain ⟨lg, c1, rfl⟩ := ho.out.form1 (by rw [trL_len]; omega)
          have HOW := Lib.hid ho.out
          rw [trL_len] at HOW ⊢
          obtain ⟨b0, hov0⟩ := hov.out
          have HSV := Lib.hid (Rd.own hov0)
          have HBE := Lib.hid hb
          have HGG := Lib.hid hg
          have HC1 := Lib.hid (fun w' hv hg => HHL.out k r hmem (some ⟨gv, 0, none⟩) cv ag cg w' hv hg)
          have HC2 := Lib.hid (fun w' hv hR => HAP.out k kk r hrz gv 0 cv w' hv hR)
          have HR2 := Lib.hid HR.out
          rw [har] at HC2 HR2
          subst har
          clear ho hov hov0 hb hg hz hrz hyb
          have hk0 : (0 : Int) ≤ (k : Int) := by omega
          have hk2 : (k : Int) < (ln : Int) := by omega
          have hq0 : (0 : Int) ≤ (kk : Int) := by omega
          have hq1 : (kk : Int) < (rn : Int) := by omega
          have HHB := Lib.hid (show ∀ b, hlB (trS m tr k) r.gs = b → (hlB (trS m tr k) (arR m (tr.getD k 0)).gs = b) from fun b h => by rw [HARR.out]; exact h)
          have HNX := Lib.hid (show trS m tr (k + 1) = apL (trS m tr k) r.es by rw [trS, HARR.out])
          generalize r.gs.length = gn at *
          rcases hh : hlB (trS m tr k) r.gs with _ | _
          · rw [hh] at HC1
            have HD := Lib.hid (trOK_bad (HHB.out _ hh) hlt)
            clear hh
            go_wp2
            refine wp_region_held_drew (S := (fun w' => w'.cell? ⟨bt, ot + k, none⟩ = some (.int .i64 kk) ∧ w'.cell? ⟨w.heap.size, 2, none⟩ = some (.slice (some ⟨rb, ro, none⟩) rn cr) ∧ w'.cell? ⟨rb, ro + kk * 3 + 1, none⟩ = some (.slice ag gn cg))) (by kernel_rfl) ?_ (fun hHeld => ?_)
            · exact ⟨t0, k2, g1⟩
            refine rg_take (v := ?_) 0 rfl (by kernel_rfl) (by kernel_rfl) (by kernel_rfl) (fun _ _ _ h => h) (by kernel_rfl) ?_ (by assumption) ?_
            rotate_left
            · (intro w' hSw; (try dsimp only at hSw); go_simp; first | done | with_reducible rfl)
            simp only [Act.put, List.setIfInBounds_toArray, List.set_cons_zero, List.set_cons_succ]
            refine rg_take (v := ?_) 1 rfl (by kernel_rfl) (by kernel_rfl) (by kernel_rfl) (fun _ _ _ h => h) (by kernel_rfl) ?_ (by assumption) ?_
            rotate_left
            · (intro w' hSw; (try dsimp only at hSw); go_simp; first | done | with_reducible rfl)
            simp only [Act.put, List.setIfInBounds_toArray, List.set_cons_zero, List.set_cons_succ]
            refine rg_take (v := ?_) 2 rfl (by kernel_rfl) (by kernel_rfl) (by kernel_rfl) (fun _ _ _ h => h) (by kernel_rfl) ?_ (by assumption) ?_
            rotate_left
            · (intro w' hSw; (try dsimp only at hSw); go_simp; first | done | with_reducible rfl)
            simp only [Act.put, List.setIfInBounds_toArray, List.set_cons_zero, List.set_cons_succ]
            refine rg_take (v := ?_) 3 rfl (by kernel_rfl) (by kernel_rfl) (by kernel_rfl) (fun _ _ _ h => h) (by kernel_rfl) ?_ (by assumption) ?_
            rotate_left
            · (intro w' hSw; (try dsimp only at hSw); go_simp; first | done | with_reducible rfl)
            simp only [Act.put, List.setIfInBounds_toArray, List.set_cons_zero, List.set_cons_succ]
            refine rg_take (v := ?_) 4 rfl (by kernel_rfl) (by kernel_rfl) (by kernel_rfl) (fun _ _ _ h => h) (by kernel_rfl) ?_ (by assumption) ?_
            rotate_left
            · (intro w' hSw; (try dsimp only at hSw); go_simp; first | done | with_reducible rfl)
            simp only [Act.put, List.setIfInBounds_toArray, List.set_cons_zero, List.set_cons_succ]
            refine rg_take (v := ?_) 5 rfl (by kernel_rfl) (by kernel_rfl) (by kernel_rfl) (fun _ _ _ h => h) (by kernel_rfl) ?_ (by assumption) ?_
            rotate_left
            · (intro w' hSw; (try dsimp only at hSw); go_simp; first | done | with_reducible rfl)
            simp only [Act.put, List.setIfInBounds_toArray, List.set_cons_zero, List.set_cons_succ]
            refine rg_take (v := ?_) 6 rfl (by kernel_rfl) (by kernel_rfl) (by kernel_rfl) (fun _ _ _ h => h) (by kernel_rfl) ?_ (by assumption) ?_
            rotate_left
            · (intro w' hSw; (try dsimp only at hSw); go_simp; first | done | with_reducible rfl)
            simp only [Act.put, List.setIfInBounds_toArray, List.set_cons_zero, List.set_cons_succ]
            refine rg_take (v := ?_) 7 rfl (by kernel_rfl) (by kernel_rfl) (by kernel_rfl) (fun _ _ _ h => h) (by kernel_rfl) ?_ (by assumption) ?_
            rotate_left
            · (intro w' hSw; (try dsimp only at hSw); go_simp; first | done | with_reducible rfl)
            simp only [Act.put, List.setIfInBounds_toArray, List.set_cons_zero, List.set_cons_succ]
            refine rg_take (v := ?_) 8 rfl (by kernel_rfl) (by kernel_rfl) (by kernel_rfl) (fun _ _ _ h => h) (by kernel_rfl) ?_ (by assumption) ?_
            rotate_left
            · (intro w' hSw; (try dsimp only at hSw); go_simp; first | done | with_reducible rfl)
            simp only [Act.put, List.setIfInBounds_toArray, List.set_cons_zero, List.set_cons_succ]
            refine rg_take (v := ?_) 9 rfl (by kernel_rfl) (by kernel_rfl) (by kernel_rfl) (fun _ _ _ h => h) (by kernel_rfl) ?_ (by assumption) ?_
            rotate_left
            · (intro w' hSw; (try dsimp only at hSw); go_simp; first | done | with_reducible rfl)
            simp only [Act.put, List.setIfInBounds_toArray, List.set_cons_zero, List.set_cons_succ]
            refine rg_run 10 rfl (by kernel_rfl) (by kernel_rfl) (fun K hK => ?_)
            go_simp
            refine (HC1.out _ HSV.out.drew HGG.out.drew).mono ?_
            rintro e w4 ⟨rfl, hb⟩
            have HB4 := Lib.hid (below_chain (by exact HBE.out.drew) hb)
            replace t0 := cell_later hb (by exact t0)
            replace k2 := cell_later hb (by exact k2)
            replace g1 := cell_later hb (by exact g1)
            clear hb
            go_wp2
            clear hHeld
            refine hK.out _ _ ⟨t0, k2, g1⟩ (fun hHeld => ?_)
            clear hK K
            try simp only [Act.put, List.setIfInBounds_toArray, List.set_cons_zero, List.set_cons_succ]
            refine rg_take (v := ?_) 11 rfl (by kernel_rfl) (by kernel_rfl) (by kernel_rfl) (fun _ _ _ h => h) (by kernel_rfl) ?_ (by assumption) ?_
            rotate_left
            · (intro w' hSw; (try dsimp only at hSw); go_simp; first | done | with_reducible rfl)
            simp only [Act.put, List.setIfInBounds_toArray, List.set_cons_zero, List.set_cons_succ]
            refine wpAnyH_done (by kernel_rfl) ?_ _
            clear hHeld
            have e1 := HRC2.out
            have e2 := HRL2.out
            rw [HD.out, if_neg (by simp)] at e1 e2
            subst e1 e2
            go_wp2
            go_ret2
            exact retSC_nil rfl rfl HB4.out
          · rw [hh] at HC1
            have HD := Lib.hid (show trOK m tr (k + 1) = true by rw [trOK_succ, ha.out, HHB.out _ hh]; rfl)
            have HDL := Lib.hid (show trL m tr (k + 1) = trL m tr k ++ [apL (trS m tr k) r.es] by rw [trL_succ, HNX.out])
            have HAL := Lib.hid (show (apL (trS m tr k) r.es).length = tn by rw [apL_len, HSL.out])
            clear hh
            go_wp2
            refine wp_region_held_drew (S := (fun w' => w'.cell? ⟨bt, ot + k, none⟩ = some (.int .i64 kk) ∧ w'.cell? ⟨w.heap.size, 2, none⟩ = some (.slice (some ⟨rb, ro, none⟩) rn cr) ∧ w'.cell? ⟨rb, ro + kk * 3 + 1, none⟩ = some (.slice ag gn cg))) (by kernel_rfl) ?_ (fun hHeld => ?_)
            · exact ⟨t0, k2, g1⟩
            refine rg_take (v := ?_) 0 rfl (by kernel_rfl) (by kernel_rfl) (by kernel_rfl) (fun _ _ _ h => h) (by kernel_rfl) ?_ (by assumption) ?_
            rotate_left
            · (intro w' hSw; (try dsimp only at hSw); go_simp; first | done | with_reducible rfl)
            simp only [Act.put, List.setIfInBounds_toArray, List.set_cons_zero, List.set_cons_succ]
            refine rg_take (v := ?_) 1 rfl (by kernel_rfl) (by kernel_rfl) (by kernel_rfl) (fun _ _ _ h => h) (by kernel_rfl) ?_ (by assumption) ?_
            rotate_left
            · (intro w' hSw; (try dsimp only at hSw); go_simp; first | done | with_reducible rfl)
            simp only [Act.put, List.setIfInBounds_toArray, List.set_cons_zero, List.set_cons_succ]
            refine rg_take (v := ?_) 2 rfl (by kernel_rfl) (by kernel_rfl) (by kernel_rfl) (fun _ _ _ h => h) (by kernel_rfl) ?_ (by assumption) ?_
            rotate_left
            · (intro w' hSw; (try dsimp only at hSw); go_simp; first | done | with_reducible rfl)
            simp only [Act.put, List.setIfInBounds_toArray, List.set_cons_zero, List.set_cons_succ]
            refine rg_take (v := ?_) 3 rfl (by kernel_rfl) (by kernel_rfl) (by kernel_rfl) (fun _ _ _ h => h) (by kernel_rfl) ?_ (by assumption) ?_
            rotate_left
            · (intro w' hSw; (try dsimp only at hSw); go_simp; first | done | with_reducible rfl)
            simp only [Act.put, List.setIfInBounds_toArray, List.set_cons_zero, List.set_cons_succ]
            refine rg_take (v := ?_) 4 rfl (by kernel_rfl) (by kernel_rfl) (by kernel_rfl) (fun _ _ _ h => h) (by kernel_rfl) ?_ (by assumption) ?_
            rotate_left
            · (intro w' hSw; (try dsimp only at hSw); go_simp; first | done | with_reducible rfl)
            simp only [Act.put, List.setIfInBounds_toArray, List.set_cons_zero, List.set_cons_succ]
            refine rg_take (v := ?_) 5 rfl (by kernel_rfl) (by kernel_rfl) (by kernel_rfl) (fun _ _ _ h => h) (by kernel_rfl) ?_ (by assumption) ?_
            rotate_left
            · (intro w' hSw; (try dsimp only at hSw); go_simp; first | done | with_reducible rfl)
            simp only [Act.put, List.setIfInBounds_toArray, List.set_cons_zero, List.set_cons_succ]
            refine rg_take (v := ?_) 6 rfl (by kernel_rfl) (by kernel_rfl) (by kernel_rfl) (fun _ _ _ h => h) (by kernel_rfl) ?_ (by assumption) ?_
            rotate_left
            · (intro w' hSw; (try dsimp only at hSw); go_simp; first | done | with_reducible rfl)
            simp only [Act.put, List.setIfInBounds_toArray, List.set_cons_zero, List.set_cons_succ]
            refine rg_take (v := ?_) 7 rfl (by kernel_rfl) (by kernel_rfl) (by kernel_rfl) (fun _ _ _ h => h) (by kernel_rfl) ?_ (by assumption) ?_
            rotate_left
            · (intro w' hSw; (try dsimp only at hSw); go_simp; first | done | with_reducible rfl)
            simp only [Act.put, List.setIfInBounds_toArray, List.set_cons_zero, List.set_cons_succ]
            refine rg_take (v := ?_) 8 rfl (by kernel_rfl) (by kernel_rfl) (by kernel_rfl) (fun _ _ _ h => h) (by kernel_rfl) ?_ (by assumption) ?_
            rotate_left
            · (intro w' hSw; (try dsimp only at hSw); go_simp; first | done | with_reducible rfl)
            simp only [Act.put, List.setIfInBounds_toArray, List.set_cons_zero, List.set_cons_succ]
            refine rg_take (v := ?_) 9 rfl (by kernel_rfl) (by kernel_rfl) (by kernel_rfl) (fun _ _ _ h => h) (by kernel_rfl) ?_ (by assumption) ?_
            rotate_left
            · (intro w' hSw; (try dsimp only at hSw); go_simp; first | done | with_reducible rfl)
            simp only [Act.put, List.setIfInBounds_toArray, List.set_cons_zero, List.set_cons_succ]
            refine rg_run 10 rfl (by kernel_rfl) (by kernel_rfl) (fun K hK => ?_)
            go_simp
            refine (HC1.out _ HSV.out.drew HGG.out.drew).mono ?_
            rintro e w4 ⟨rfl, hb⟩
            have HB4 := Lib.hid (below_chain (by exact HBE.out.drew) hb)
            have HST := Lib.hid (show Below wr.heap.size wr w4 from below_chain (by exact (Below.refl _ _).drew) hb)
            replace t0 := cell_later hb (by exact t0)
            replace k0 := cell_later hb (by exact k0)
            replace k1 := cell_later hb (by exact k1)
            replace k2 := cell_later hb (by exact k2)
            replace g1 := cell_later hb (by exact g1)
            clear hb
            go_wp2
            clear hHeld
            refine hK.out _ _ ⟨t0, k2, g1⟩ (fun hHeld => ?_)
            clear hK K
            try simp only [Act.put, List.setIfInBounds_toArray, List.set_cons_zero, List.set_cons_succ]
            refine rg_take (v := ?_) 11 rfl (by kernel_rfl) (by kernel_rfl) (by kernel_rfl) (fun _ _ _ h => h) (by kernel_rfl) ?_ (by assumption) ?_
            rotate_left
            · (intro w' hSw; (try dsimp only at hSw); go_simp; first | done | with_reducible rfl)
            simp only [Act.put, List.setIfInBounds_toArray, List.set_cons_zero, List.set_cons_succ]
            refine wpAnyH_done (by kernel_rfl) ?_ _
            clear hHeld
            have HO4 := Lib.hid (HOW.out.below HST.out)
            have HS4 := Lib.hid (HSV.out.below HST.out)
            have hs4 := HST.out.size
            have hs5 := HB4.out.size
            have hlg := (HOW.out.ge lg rfl).1
            have hlg2 := (HOW.out.ge lg rfl).2
            clear HC1 HOW HSV HGG HST HBE g0 g1 g2
            go_wp2
            refine wp_region_held_drew (S := (fun w' => w'.cell? ⟨bt, ot + k, none⟩ = some (.int .i64 kk) ∧ w'.cell? ⟨w.heap.size, 0, none⟩ = some (.slice az sn cz) ∧ w'.cell? ⟨w.heap.size, 1, none⟩ = some (.slice (some ⟨bs, os, none⟩) tn cs) ∧ w'.cell? ⟨w.heap.size, 2, none⟩ = some (.slice (some ⟨rb, ro, none⟩) rn cr))) (by kernel_rfl) ?_ (fun hHeld => ?_)
            · exact ⟨t0, k0, k1, k2⟩
            refine rg_take (v := ?_) 0 rfl (by kernel_rfl) (by kernel_rfl) (by kernel_rfl) (fun _ _ _ h => h) (by kernel_rfl) ?_ (by assumption) ?_
            rotate_left
            · (intro w' hSw; (try dsimp only at hSw); go_simp; first | done | with_reducible rfl)
            simp only [Act.put, List.setIfInBounds_toArray, List.set_cons_zero, List.set_cons_succ]
            refine rg_take (v := ?_) 1 rfl (by kernel_rfl) (by kernel_rfl) (by kernel_rfl) (fun _ _ _ h => h) (by kernel_rfl) ?_ (by assumption) ?_
            rotate_left
            · (intro w' hSw; (try dsimp only at hSw); go_simp; first | done | with_reducible rfl)
            simp only [Act.put, List.setIfInBounds_toArray, List.set_cons_zero, List.set_cons_succ]
            refine rg_take (v := ?_) 2 rfl (by kernel_rfl) (by kernel_rfl) (by kernel_rfl) (fun _ _ _ h => h) (by kernel_rfl) ?_ (by assumption) ?_
            rotate_left
            · (intro w' hSw; (try dsimp only at hSw); go_simp; first | done | with_reducible rfl)
            simp only [Act.put, List.setIfInBounds_toArray, List.set_cons_zero, List.set_cons_succ]
            refine rg_take (v := ?_) 3 rfl (by kernel_rfl) (by kernel_rfl) (by kernel_rfl) (fun _ _ _ h => h) (by kernel_rfl) ?_ (by assumption) ?_
            rotate_left
            · (intro w' hSw; (try dsimp only at hSw); go_simp; first | done | with_reducible rfl)
            simp only [Act.put, List.setIfInBounds_toArray, List.set_cons_zero, List.set_cons_succ]
            refine rg_take (v := ?_) 4 rfl (by kernel_rfl) (by kernel_rfl) (by kernel_rfl) (fun _ _ _ h => h) (by kernel_rfl) ?_ (by assumption) ?_
            rotate_left
            · (intro w' hSw; (try dsimp only at hSw); go_simp; first | done | with_reducible rfl)
            simp only [Act.put, List.setIfInBounds_toArray, List.set_cons_zero, List.set_cons_succ]
            refine rg_take (v := ?_) 5 rfl (by kernel_rfl) (by kernel_rfl) (by kernel_rfl) (fun _ _ _ h => h) (by kernel_rfl) ?_ (by assumption) ?_
            rotate_left
            · (intro w' hSw; (try dsimp only at hSw); go_simp; first | done | with_reducible rfl)
            simp only [Act.put, List.setIfInBounds_toArray, List.set_cons_zero, List.set_cons_succ]
            refine rg_run 6 rfl (by kernel_rfl) (by kernel_rfl) (fun K hK => ?_)
            go_simp
            refine (HC2.out _ HS4.out.drew (HR2.out.below (by exact HB4.out.drew))).mono ?_
            rintro e w5 ⟨g3, c3, rfl, hog, hb⟩
            have HB5 := Lib.hid (below_chain (by exact HB4.out.drew) hb)
            have HST5 := Lib.hid (show Below w4.heap.size w4 w5 from below_chain (by exact (Below.refl _ _).drew) hb)
            have hs6 := HST5.out.size
            have HOG := Lib.hid hog
            rw [← HNX.out] at HOG
            replace t0 := cell_later hb (by exact t0)
            replace k0 := cell_later hb (by exact k0)
            replace k1 := cell_later hb (by exact k1)
            replace k2 := cell_later hb (by exact k2)
            clear hb hog
            go_wp2
            clear hHeld
            refine hK.out _ _ ⟨t0, k0, k1, k2⟩ (fun hHeld => ?_)
            clear hK K
            try simp only [Act.put, List.setIfInBounds_toArray, List.set_cons_zero, List.set_cons_succ]
            refine rg_take (v := ?_) 7 rfl (by kernel_rfl) (by kernel_rfl) (by kernel_rfl) (fun _ _ _ h => h) (by kernel_rfl) ?_ (by assumption) ?_
            rotate_left
            · (intro w' hSw; (try dsimp only at hSw); go_simp; first | done | with_reducible rfl)
            simp only [Act.put, List.setIfInBounds_toArray, List.set_cons_zero, List.set_cons_succ]
            refine wpAnyH_done (by kernel_rfl) ?_ _
            clear hHeld
            have HO5 := Lib.hid (HO4.out.below HST5.out)
            clear HO4 HST5 HS4 HC2 t0
            go_wp2_with (fail)
            refine (HOWN.out (k + 1) g3 0 c3 _ (Rd.own HOG.out)).mono ?_
            rintro e w6 ⟨g4, c4, rfl, ho4, hb⟩
            have HB6 := Lib.hid (below_chain HB5.out hb)
            have HO6 := Lib.hid (HO5.out.below hb)
            have HOG6 := Lib.hid (own_below HOG.out hb)
            have hs7 := hb.size
            have hg4 := ho4.lt g4 rfl
            have HW4 := Lib.hid ho4
            replace k0 := cell_later hb k0
            replace k1 := cell_later hb k1
            replace k2 := cell_later hb k2
            clear hb ho4 HB5 HO5 HOG
            have hal := below_alloc (Below.refl w6.heap.size w6) (Obj.cells #[Value.slice (some ⟨g4, 0, none⟩) tn c4] 24)
            replace k0 := cell_later hal k0
            replace k1 := cell_later hal k1
            replace k2 := cell_later hal k2
            have HAA := Lib.hid hal
            clear hal
            go_wp2_with (first
              | (at_builtin
                 refine wpList_push_row _ rfl (.tmp 63) (.tmp 66) rfl (w.heap.size + 1) wr.heap.size w6.heap.size (.slice (some ⟨lg, 0, none⟩) (k + 1) c1) (trL m tr k) ⟨trS m tr (k + 1), some ⟨g4, 0, none⟩, c4⟩ w6.heap.size 1 rfl (HO6.out.below HAA.out) rfl (by dsimp only [IvD.v]; rw [HSL.out]; go_simp) (by dsimp only [IvD.v]; rw [HSL.out]; exact own_mono (own_below HW4.out HAA.out) (show w.heap.size + 1 ≤ w5.heap.size by omega)) (fun q hq => by simp [IvD.v, Value.ownBlock] at hq; omega) (by omega) (by rw [trL_len]; omega) (by simp; omega) ?_
                 intro v1 w7 hown1 hgrow
                 have HW1 := Lib.hid hown1
                 have HB7 := Lib.hid (below_of_grown (below_chain HB6.out HAA.out) hgrow (fun q hq => by simp [Value.ownBlock] at hq; omega))
                 have hs8 : w6.heap.size ≤ w7.heap.size := Nat.le_trans (by simp) hgrow.size
                 have HV7 := Lib.hid ((HO6.out.below HAA.out).keepInt (own_below HOG6.out HAA.out) hgrow)
                 have K0 := Lib.hid (hgrow.cell k0 (by simp [Value.ownBlock]; omega))
                 have K1 := Lib.hid (hgrow.cell k1 (by simp [Value.ownBlock]; omega))
                 have K2 := Lib.hid (hgrow.cell k2 (by simp [Value.ownBlock]; omega))
                 clear hown1 hgrow)
              )
            go_roundw
            case rel => exact ⟨k + 1, g3, c3, by omega, by go_num, rfl, Lib.hid ⟨_, HV7.out⟩, Lib.hid (by rw [trL_succ]; exact HW1.out.mono (Nat.le_refl _) hs8), HD, K0.out, K1.out, K2.out, HB7.out⟩
            case measure => simp [intOf]; omega
        · obtain rfl : ln = k := by omega
          have e1 := HRC2.out
          have e2 := HRL2.out
          rw [ha.out, if_pos rfl] at e1 e2
          obtain ⟨A1, c1, rfl⟩ := ho.out.form
          have HO := Lib.hid ho.out
          have HBB := Lib.hid hb
          rw [e2] at HO
          subst e1
          have HLL := Lib.hid (show (trL m tr ln).length = L.length by rw [e2])
          clear ho hb HRL2 e2 HRC2
          generalize (trL m tr ln).length = n1 at *
          go_wp2
          go_ret2
          have e := HLL.out
          subst e
          exact ⟨A1, c1, rfl, HO.out.mono (by omega) (Nat.le_refl _), HBB.out⟩
end Go.Proofs.Ytaloheljfefdeaa
