/- EnabledRules, on both sides. Condition: the lengths are those that the laws let by. -/
import Derived.Test.YticlpjljcedfmaaMEna
namespace Go.Proofs.Yticlpjljcedfmaa
open Go.RowKit

/-- What is handed back: a list of the call's own, and a code. -/
def RetIC (n : Nat) (zs : List Int) (c : Int) (w : World) (e : Ending) (w' : World) : Prop :=
  ∃ A cap, e = .returned (.tuple #[.slice A n cap, .int .i64 c]) ∧ w'.ownsRow w.heap.size 2 1 (.slice A n cap) n (ints zs) ∧ Below w.heap.size w w'
def erL (m : Mdl) (vs : List Int) : List Int := if mdB m && stB m.sz vs then enL vs m.rs else []
theorem retIC_nil {n : Nat} {zs : List Int} {c : Int} {w w' : World} (h : zs = []) (hn : n = zs.length) (hb : Below w.heap.size w w') : RetIC n zs c w (.returned (.tuple #[.slice none 0 0, .int .i64 c])) w' := by
  subst h
  subst hn
  exact ⟨none, 0, rfl, World.ownsRow_nil _ _ _ _, hb⟩
set_option maxHeartbeats 1000000 in
set_option maxRecDepth 100000 in
theorem c_EnabledRules (m : Mdl) (az ax ar : Option Addr) (cz cs cr : Nat) (A : Option Addr) (c : Nat) (vs : List Int) (w : World) (hok : MOk m) (hl : vs.length ≤ 1048576) (h : Md w az ax ar m) (hv : Rd w A (ints vs)) :
    Calls Try.prog 27 #[mv m az ax ar cz cs cr, .slice A vs.length c] w (RetIC (erL m vs).length (erL m vs) (stC m vs) w) := by
  have HC := Lib.hid (fun w' h hv => c_stateCode m az ax ar cz cs cr A c vs w' hok hl h hv)
  have HEN := Lib.hid (fun hgs w' h hv => c_enabled m az ax ar cz cs cr A c vs w' hok.1.2.2.1 hl hgs h hv)
  have HG := Lib.hid (fun h1 h2 => gs_of (m := m) (vs := vs) h1 h2 hok)
  have HSC := Lib.hid (show stC m vs = if mdB m then (if stB m.sz vs then 0 else 2) else 1 from rfl)
  have HER := Lib.hid (show erL m vs = if mdB m && stB m.sz vs then enL vs m.rs else [] from rfl)
  have HM := Lib.hid h
  have HV := Lib.hid hv
  generalize stC m vs = C at *
  generalize erL m vs = L at *
  generalize enL vs m.rs = L0 at *
  clear h hv hok
  rcases h1 : (mdB m && stB m.sz vs) with _ | _
  · have hC0 : C = 1 ∨ C = 2 := by
      have := HSC.out
      rcases hm : mdB m with _ | _
      · rw [hm] at this; left; simpa using this
      · rw [hm] at h1 this
        rw [Bool.true_and] at h1
        rw [h1] at this
        right; simpa using this
    have hL : L = [] := by have := HER.out; rw [h1] at this; simpa using this
    have HL := Lib.hid hL
    clear hL HEN HG HSC HER h1
    dsimp only [mv] at *
    generalize m.sz.length = sn at *
    generalize m.st.length = tn at *
    generalize m.rs.length = rn at *
    generalize vs.length = vn at *
    rcases hC0 with rfl | rfl
    all_goals
      go_enter Try.func27, Try.ntmps27
      go_wp2_with (fail)
      refine (HC.out _ (HM.out.alloc _) (HV.out.alloc _)).mono ?_
      rintro e w1 ⟨rfl, hb⟩
      have HB := Lib.hid (below_chain (by (repeat (first | exact Below.refl _ _ | assumption | refine below_alloc ?_ _ | refine below_drewN ?_ _ | refine below_set ?_ _ (by simp; try omega) | refine Below.drew ?_)) : Below w.heap.size w _) hb)
      clear hb
      go_wp2
      go_ret2
      exact retIC_nil HL.out rfl HB.out
  · have h2 := h1
    rw [Bool.and_eq_true] at h2
    have e := HSC.out
    rw [h2.1, h2.2] at e
    simp only [if_true] at e
    have e2 := HER.out
    rw [h1] at e2
    simp only [if_true] at e2
    have HGS := Lib.hid (HG.out h2.1 h2.2)
    have HEN2 := Lib.hid (fun w' h hv => HEN.out HGS.out w' h hv)
    subst e e2
    clear h1 h2 HSC HER HEN HG HGS
    dsimp only [mv] at *
    generalize m.sz.length = sn at *
    generalize m.st.length = tn at *
    generalize m.rs.length = rn at *
    generalize vs.length = vn at *
    go_enter Try.func27, Try.ntmps27
    go_wp2_with (fail)
    refine (HC.out _ (HM.out.alloc _) (HV.out.alloc _)).mono ?_
    rintro e w1 ⟨rfl, hb⟩
    have k0 : w1.cell? ⟨w.heap.size, 0, none⟩ = some (.slice az sn cz) := cell_later hb (by go_simp)
    have k1 : w1.cell? ⟨w.heap.size, 1, none⟩ = some (.slice ax tn cs) := cell_later hb (by go_simp)
    have k2 : w1.cell? ⟨w.heap.size, 2, none⟩ = some (.slice ar rn cr) := cell_later hb (by go_simp)
    have HB := Lib.hid (below_chain (by (repeat (first | exact Below.refl _ _ | assumption | refine below_alloc ?_ _ | refine below_drewN ?_ _ | refine below_set ?_ _ (by simp; try omega) | refine Below.drew ?_)) : Below w.heap.size w _) hb)
    clear hb
    go_wp2_with (fail)
    refine (HEN2.out _ (HM.out.below HB.out) (HV.out.below HB.out)).mono ?_
    rintro e w2 ⟨A1, c1, rfl, ho, hb⟩
    have HO := Lib.hid (own_mono ho (HB.out.size))
    have HB2 := Lib.hid (below_chain HB.out hb)
    clear ho hb
    go_wp2
    go_ret2
    exact ⟨A1, c1, rfl, HO.out, HB2.out⟩
set_option maxHeartbeats 1000000 in
set_option maxRecDepth 100000 in
theorem c_sEnabledRules (m : Mdl) (az ax ar : Option Addr) (cz cs cr : Nat) (A : Option Addr) (c : Nat) (vs : List Int) (w : World) (hok : MOk m) (hl : vs.length ≤ 1048576) (h : Md w az ax ar m) (hv : Rd w A (ints vs)) :
    Calls Try.prog 26 #[mv m az ax ar cz cs cr, .slice A vs.length c] w (RetIC (erL m vs).length (erL m vs) (stC m vs) w) := by
  have HC := Lib.hid (fun w' h hv => c_l20Code m az ax ar cz cs cr A c vs w' hok hl h hv)
  have HEN := Lib.hid (fun hgs w' h hv => c_l20Enabled m az ax ar cz cs cr A c vs w' hok.1.2.2.1 hl hgs h hv)
  have HG := Lib.hid (fun h1 h2 => gs_of (m := m) (vs := vs) h1 h2 hok)
  have HSC := Lib.hid (show stC m vs = if mdB m then (if stB m.sz vs then 0 else 2) else 1 from rfl)
  have HER := Lib.hid (show erL m vs = if mdB m && stB m.sz vs then enL vs m.rs else [] from rfl)
  have HM := Lib.hid h
  have HV := Lib.hid hv
  generalize stC m vs = C at *
  generalize erL m vs = L at *
  generalize enL vs m.rs = L0 at *
  clear h hv hok
  rcases h1 : (mdB m && stB m.sz vs) with _ | _
  · have hC0 : C = 1 ∨ C = 2 := by
      have := HSC.out
      rcases hm : mdB m with _ | _
      · rw [hm] at this; left; simpa using this
      · rw [hm] at h1 this
        rw [Bool.true_and] at h1
        rw [h1] at this
        right; simpa using this
    have hL : L = [] := by have := HER.out; rw [h1] at this; simpa using this
    have HL := Lib.hid hL
    clear hL HEN HG HSC HER h1
    dsimp only [mv] at *
    generalize m.sz.length = sn at *
    generalize m.st.length = tn at *
    generalize m.rs.length = rn at *
    generalize vs.length = vn at *
    rcases hC0 with rfl | rfl
    all_goals
      go_enter Try.func26, Try.ntmps26
      go_wp2_with (fail)
      refine (HC.out _ (HM.out.alloc _) (HV.out.alloc _)).mono ?_
      rintro e w1 ⟨rfl, hb⟩
      have HB := Lib.hid (below_chain (by (repeat (first | exact Below.refl _ _ | assumption | refine below_alloc ?_ _ | refine below_drewN ?_ _ | refine below_set ?_ _ (by simp; try omega) | refine Below.drew ?_)) : Below w.heap.size w _) hb)
      clear hb
      go_wp2
      go_ret2
      exact retIC_nil HL.out rfl HB.out
  · have h2 := h1
    rw [Bool.and_eq_true] at h2
    have e := HSC.out
    rw [h2.1, h2.2] at e
    simp only [if_true] at e
    have e2 := HER.out
    rw [h1] at e2
    simp only [if_true] at e2
    have HGS := Lib.hid (HG.out h2.1 h2.2)
    have HEN2 := Lib.hid (fun w' h hv => HEN.out HGS.out w' h hv)
    subst e e2
    clear h1 h2 HSC HER HEN HG HGS
    dsimp only [mv] at *
    generalize m.sz.length = sn at *
    generalize m.st.length = tn at *
    generalize m.rs.length = rn at *
    generalize vs.length = vn at *
    go_enter Try.func26, Try.ntmps26
    go_wp2_with (fail)
    refine (HC.out _ (HM.out.alloc _) (HV.out.alloc _)).mono ?_
    rintro e w1 ⟨rfl, hb⟩
    have k0 : w1.cell? ⟨w.heap.size, 0, none⟩ = some (.slice az sn cz) := cell_later hb (by go_simp)
    have k1 : w1.cell? ⟨w.heap.size, 1, none⟩ = some (.slice ax tn cs) := cell_later hb (by go_simp)
    have k2 : w1.cell? ⟨w.heap.size, 2, none⟩ = some (.slice ar rn cr) := cell_later hb (by go_simp)
    have HB := Lib.hid (below_chain (by (repeat (first | exact Below.refl _ _ | assumption | refine below_alloc ?_ _ | refine below_drewN ?_ _ | refine below_set ?_ _ (by simp; try omega) | refine Below.drew ?_)) : Below w.heap.size w _) hb)
    clear hb
    go_wp2_with (fail)
    refine (HEN2.out _ (HM.out.below HB.out) (HV.out.below HB.out)).mono ?_
    rintro e w2 ⟨A1, c1, rfl, ho, hb⟩
    have HO := Lib.hid (own_mono ho (HB.out.size))
    have HB2 := Lib.hid (below_chain HB.out hb)
    clear ho hb
    go_wp2
    go_ret2
    exact ⟨A1, c1, rfl, HO.out, HB2.out⟩
end Go.Proofs.Yticlpjljcedfmaa
