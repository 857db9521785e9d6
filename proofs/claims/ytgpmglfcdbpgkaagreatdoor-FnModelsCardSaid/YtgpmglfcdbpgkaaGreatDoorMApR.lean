/- ApplyRule, on both sides. Condition: the lengths are those that the laws let by. -/
import Derived.Test.YtgpmglfcdbpgkaaGreatDoorMApp
import Derived.Test.YtgpmglfcdbpgkaaGreatDoorMEnR
namespace Go.Proofs.YtgpmglfcdbpgkaaGreatDoor
open Go.RowKit

theorem c_lengthR (A : Option Addr) (c n : Nat) (w : World) : Calls Tryz.prog 46 #[.slice A n c] w fun e w' => e = .returned (.int .i64 n) ∧ w = w' := by
  go_enter Tryz.func46, Tryz.ntmps46
  go_wp2
  go_ret
  exact ⟨rfl, rfl⟩
def arR (m : Mdl) (y : Int) : Rul := m.rs.getD y.toNat rul0
def arC (m : Mdl) (vs : List Int) (y : Int) : Int := if mdB m && stB m.sz vs then (if inB y 0 (m.rs.length - 1) then (if hlB vs (arR m y).gs then 0 else 5) else 4) else stC m vs
def arL (m : Mdl) (vs : List Int) (y : Int) : List Int := if mdB m && stB m.sz vs then (if inB y 0 (m.rs.length - 1) then (if hlB vs (arR m y).gs then apL vs (arR m y).es else []) else []) else []
theorem rl_of {m : Mdl} {r : Rul} (h : mdB m = true) (hr : r ∈ m.rs) : rlB m.sz r = true := by
  unfold mdB rsB at h
  simp only [Bool.and_eq_true, Bool.not_eq_true', List.any_eq_false] at h
  have h3 := h.2.2.2.2 r hr
  simpa using h3
theorem es_of {m : Mdl} {r : Rul} {vs : List Int} (h : mdB m = true) (h2 : stB m.sz vs = true) (hr : r ∈ m.rs) : EsIn vs.length r.es := by
  have h4 := rl_of h hr
  unfold rlB at h4
  simp only [Bool.and_eq_true] at h4
  rw [st_len h2]
  exact es_in h4.1
theorem vs_pos {m : Mdl} {vs : List Int} (h : mdB m = true) (h2 : stB m.sz vs = true) : 1 ≤ vs.length ∧ vs.length ≤ 16 := by
  rw [st_len h2]
  unfold mdB at h
  simp only [Bool.and_eq_true] at h
  have := h.2.1
  simp [inB] at this
  omega
set_option maxHeartbeats 2000000 in
set_option maxRecDepth 100000 in
theorem c_ApplyRule (m : Mdl) (az ax ar : Option Addr) (cz cs cr : Nat) (A : Option Addr) (c : Nat) (vs : List Int) (y : Int) (w : World) (hok : MOk m) (hl : vs.length ≤ 1048576) (h : Md w az ax ar m) (hv : Rd w A (ints vs)) :
    Calls Tryz.prog 15 #[mv m az ax ar cz cs cr, .slice A vs.length c, .int .i64 y] w (RetIC (arL m vs y).length (arL m vs y) (arC m vs y) w) := by
  have HC := Lib.hid (fun w' h hv => c_stateCode m az ax ar cz cs cr A c vs w' hok hl h hv)
  have HM := Lib.hid h
  have HV := Lib.hid hv
  have hrl := hok.1.2.2.1
  have hw : IntKind.i64.wrap ((m.rs.length : Int) - 1) = m.rs.length - 1 := IntWalk.i64_in _ (by omega)
  rcases h1 : (mdB m && stB m.sz vs) with _ | _
  · have hC0 : stC m vs = 1 ∨ stC m vs = 2 := by
      unfold stC
      rcases hm : mdB m with _ | _
      · left; rfl
      · rw [hm, Bool.true_and] at h1
        rw [h1]
        right; rfl
    have e1 : arC m vs y = stC m vs := by unfold arC; rw [h1]; rfl
    have e2 : arL m vs y = [] := by unfold arL; rw [h1]; rfl
    rw [e1, e2]
    clear e1 e2 h1 h hv hok
    generalize stC m vs = C at *
    dsimp only [mv] at *
    generalize m.sz.length = sn at *
    generalize m.st.length = tn at *
    generalize m.rs.length = rn at *
    generalize vs.length = vn at *
    rcases hC0 with rfl | rfl
    all_goals
      go_enter Tryz.func15, Tryz.ntmps15
      go_wp2_with (fail)
      refine (HC.out _ (HM.out.alloc _) (HV.out.alloc _)).mono ?_
      rintro e w1 ⟨rfl, hb⟩
      have HB := Lib.hid (below_chain (by (repeat (first | exact Below.refl _ _ | assumption | refine below_alloc ?_ _ | refine below_drewN ?_ _ | refine below_set ?_ _ (by simp; try omega) | refine Below.drew ?_)) : Below w.heap.size w _) hb)
      clear hb
      go_wp2
      go_ret2
      exact retIC_nil rfl rfl HB.out
  have h2 := h1
  rw [Bool.and_eq_true] at h2
  have e0 : stC m vs = 0 := by unfold stC; rw [h2.1, h2.2]; rfl
  rw [e0] at HC
  have HGS := Lib.hid (gs_of h2.1 h2.2 hok)
  have HMD := Lib.hid h2
  have HVP := Lib.hid (vs_pos h2.1 h2.2)
  rcases hin : inB y 0 (m.rs.length - 1) with _ | _
  · have e1 : arC m vs y = 4 := by unfold arC; rw [h1, hin]; rfl
    have e2 : arL m vs y = [] := by unfold arL; rw [h1, hin]; rfl
    rw [e1, e2]
    clear e1 e2 h1 h2 h hv hok HGS HVP HMD
    dsimp only [mv] at *
    generalize m.sz.length = sn at *
    generalize m.st.length = tn at *
    generalize m.rs.length = rn at *
    generalize vs.length = vn at *
    go_enter Tryz.func15, Tryz.ntmps15
    go_wp2_with (fail)
    refine (HC.out _ (HM.out.alloc _) (HV.out.alloc _)).mono ?_
    rintro e w1 ⟨rfl, hb⟩
    have k2 : w1.cell? ⟨w.heap.size, 2, none⟩ = some (.slice ar rn cr) := cell_later hb (by go_simp)
    have HB := Lib.hid (below_chain (by (repeat (first | exact Below.refl _ _ | assumption | refine below_alloc ?_ _ | refine below_drewN ?_ _ | refine below_set ?_ _ (by simp; try omega) | refine Below.drew ?_)) : Below w.heap.size w _) hb)
    clear hb
    go_wp2_with (first
      | (go_at_call 46
         refine (c_lengthR _ _ _ _).mono ?_
         rintro e w' ⟨rfl, rfl⟩)
      | (go_at_call 45
         refine (c_within _ _ _ _).mono ?_
         rintro e w' ⟨rfl, rfl⟩)
      )
    go_ret2
    exact retIC_nil rfl rfl HB.out
  have hyy : 0 ≤ y ∧ y < m.rs.length := by simp [inB] at hin; omega
  obtain ⟨k, rfl⟩ : ∃ k : Nat, y = k := ⟨y.toNat, by omega⟩
  have hk : k < m.rs.length := by omega
  obtain ⟨r, hz⟩ : ∃ z, m.rs[k]? = some z := ⟨_, List.getElem?_eq_getElem hk⟩
  have har : arR m k = r := by unfold arR; rw [Int.toNat_natCast]; exact getDR hz
  have hmem := List.mem_of_getElem? hz
  have HES := Lib.hid (es_of h2.1 h2.2 hmem)
  have HTS := Lib.hid (HGS.out r hmem)
  have hel := (hok.1.2.2.2 r hmem).2
  have hgl := (hok.1.2.2.2 r hmem).1
  have HZ := Lib.hid hz
  have hi0 : (0 : Int) ≤ (k : Int) := by omega
  have hi1 : (k : Int) < (m.rs.length : Int) := by omega
  have hHL := Lib.hid (fun ag cg w' hv hg => c_holds A c vs ag cg r.gs w' hl hgl HTS.out.1 hv hg)
  have e1 : arC m vs k = if hlB vs r.gs then 0 else 5 := by unfold arC; rw [h1, hin, har]; rfl
  have e2 : arL m vs k = if hlB vs r.gs then apL vs r.es else [] := by unfold arL; rw [h1, hin, har]; rfl
  rw [e1, e2]
  clear e1 e2 h1 h2 hv hok har hmem hz hyy HGS
  rcases hh : hlB vs r.gs with _ | _
  · rw [hh] at hHL
    rw [if_neg (by simp), if_neg (by simp)]
    obtain ⟨bb, ob, ag, cg, ae, ce, har, hbb, _, g1, _, hg, _⟩ := h.r.at HZ.out
    have HG := Lib.hid hg
    subst har
    clear h hg hh HZ HES HTS HVP HMD
    dsimp only [mv] at *
    generalize m.sz.length = sn at *
    generalize m.st.length = tn at *
    generalize m.rs.length = rn at *
    generalize vs.length = vn at *
    generalize r.gs.length = gn at *
    go_enter Tryz.func15, Tryz.ntmps15
    go_wp2_with (fail)
    refine (HC.out _ (HM.out.alloc _) (HV.out.alloc _)).mono ?_
    rintro e w1 ⟨rfl, hb⟩
    have k2 : w1.cell? ⟨w.heap.size, 2, none⟩ = some (.slice (some ⟨bb, ob, none⟩) rn cr) := cell_later hb (by go_simp)
    have hst : Below w.heap.size w w1 := below_chain (by (repeat (first | exact Below.refl _ _ | assumption | refine below_alloc ?_ _ | refine below_drewN ?_ _ | refine below_set ?_ _ (by simp; try omega) | refine Below.drew ?_)) : Below w.heap.size w _) hb
    replace g1 := cell_later hst g1
    have HB := Lib.hid hst
    clear hb hst
    go_wp2_with (first
      | (go_at_call 46
         refine (c_lengthR _ _ _ _).mono ?_
         rintro e w' ⟨rfl, rfl⟩)
      | (go_at_call 45
         refine (c_within _ _ _ _).mono ?_
         rintro e w' ⟨rfl, rfl⟩)
      )
    refine (hHL.out _ _ _ (HV.out.below HB.out) (HG.out.below HB.out)).mono ?_
    rintro e w2 ⟨rfl, hb⟩
    have HB2 := Lib.hid (below_chain HB.out hb)
    clear hb
    go_wp2
    go_ret2
    exact retIC_nil rfl rfl HB2.out
  · rw [hh] at hHL
    rw [if_pos rfl, if_pos rfl]
    obtain ⟨bb, ob, ag, cg, ae, ce, har, hbb, g0, g1, g2, hg, he⟩ := h.r.at HZ.out
    have HG := Lib.hid hg
    have HE := Lib.hid he
    obtain ⟨b, off, rfl, _, _⟩ := HV.out.some_ (by intro e; have := HVP.out.1; have h5 := ints_length vs; rw [e] at h5; simp at h5; omega)
    have HAP := Lib.hid (fun nm gn w' hv he => c_apply nm ag ae gn cg r.es.length ce r.es b off c vs.length vs w' rfl hl rfl hel HES.out hv he)
    have HAL := Lib.hid (apL_len r.es vs)
    subst har
    clear h hg he hh HZ HES HTS HVP HMD
    rw [HAL.out]
    dsimp only [mv] at *
    generalize m.sz.length = sn at *
    generalize m.st.length = tn at *
    generalize m.rs.length = rn at *
    generalize vs.length = vn at *
    generalize r.gs.length = gn at *
    generalize r.es.length = en at *
    go_enter Tryz.func15, Tryz.ntmps15
    go_wp2_with (fail)
    refine (HC.out _ (HM.out.alloc _) (HV.out.alloc _)).mono ?_
    rintro e w1 ⟨rfl, hb⟩
    have k2 : w1.cell? ⟨w.heap.size, 2, none⟩ = some (.slice (some ⟨bb, ob, none⟩) rn cr) := cell_later hb (by go_simp)
    have hst : Below w.heap.size w w1 := below_chain (by (repeat (first | exact Below.refl _ _ | assumption | refine below_alloc ?_ _ | refine below_drewN ?_ _ | refine below_set ?_ _ (by simp; try omega) | refine Below.drew ?_)) : Below w.heap.size w _) hb
    replace g0 := cell_later hst g0
    replace g1 := cell_later hst g1
    replace g2 := cell_later hst g2
    have HB := Lib.hid hst
    clear hb hst
    go_wp2_with (first
      | (go_at_call 46
         refine (c_lengthR _ _ _ _).mono ?_
         rintro e w' ⟨rfl, rfl⟩)
      | (go_at_call 45
         refine (c_within _ _ _ _).mono ?_
         rintro e w' ⟨rfl, rfl⟩)
      )
    refine (hHL.out _ _ _ (HV.out.below HB.out) (HG.out.below HB.out)).mono ?_
    rintro e w2 ⟨rfl, hb⟩
    have HB2 := Lib.hid (below_chain HB.out hb)
    replace k2 := cell_later hb k2
    replace g0 := cell_later hb g0
    replace g1 := cell_later hb g1
    replace g2 := cell_later hb g2
    clear hb
    go_wp2_with (fail)
    refine (HAP.out _ _ _ (HV.out.below HB2.out) (HE.out.below HB2.out)).mono ?_
    rintro e w3 ⟨g, c', rfl, ho, hb⟩
    have HO := Lib.hid (own_mono ho HB2.out.size)
    have HB3 := Lib.hid (below_chain HB2.out hb)
    clear ho hb
    go_wp2
    go_ret2
    exact ⟨_, c', rfl, HO.out, HB3.out⟩
end Go.Proofs.YtgpmglfcdbpgkaaGreatDoor
