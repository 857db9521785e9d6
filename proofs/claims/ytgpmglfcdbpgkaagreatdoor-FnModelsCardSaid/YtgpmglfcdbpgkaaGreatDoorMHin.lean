/- stateCode and l20Code, HoldsIn on both sides. Condition: the lengths are those that the laws let by. -/
import Derived.Test.YtgpmglfcdbpgkaaGreatDoorMHld
namespace Go.Proofs.YtgpmglfcdbpgkaaGreatDoor
open Go.RowKit

theorem md_szs {m : Mdl} (h : mdB m = true) : SzsOk m.sz := by
  unfold mdB szB at h
  simp only [Bool.and_eq_true, Bool.not_eq_true'] at h
  exact szB_ok h.1
theorem st_len {sz vs : List Int} (h : stB sz vs = true) : vs.length = sz.length := by
  unfold stB at h
  simp only [Bool.and_eq_true, decide_eq_true_eq] at h
  exact h.1
def stC (m : Mdl) (vs : List Int) : Int := if mdB m then (if stB m.sz vs then 0 else 2) else 1
/-- What HoldsIn hands back: a bool and a code. -/
def RetBC (b : Bool) (c : Int) (w : World) (e : Ending) (w' : World) : Prop := e = .returned (.tuple #[.bool b, .int .i64 c]) ∧ Below w.heap.size w w'
def hiB (m : Mdl) (vs : List Int) (ts : List Tst) : Bool := mdB m && (stB m.sz vs && (tsB m.sz ts && hlB vs ts))
def hiC (m : Mdl) (vs : List Int) (ts : List Tst) : Int := if mdB m then (if stB m.sz vs && tsB m.sz ts then 0 else 2) else 1
set_option maxRecDepth 100000 in
theorem c_stateCode (m : Mdl) (az ax ar : Option Addr) (cz cs cr : Nat) (A : Option Addr) (c : Nat) (vs : List Int) (w : World) (hok : MOk m) (hl : vs.length ≤ 1048576) (h : Md w az ax ar m) (hv : Rd w A (ints vs)) :
    Calls Tryz.prog 44 #[mv m az ax ar cz cs cr, .slice A vs.length c] w fun e w' => e = .returned (.int .i64 (stC m vs)) ∧ Below w.heap.size w w' := by
  have HI := Lib.hid (fun w' h => c_IsModel m az ax ar cz cs cr w' hok h)
  have HST := Lib.hid (fun w' hs h hv => c_isState m az ax ar cz cs cr A c vs w' hs hok.1.1 hl h hv)
  have HS := Lib.hid (fun h => md_szs (m := m) h)
  have HM := Lib.hid h
  have HV := Lib.hid hv
  have HR := Lib.hid (show stC m vs = if mdB m then (if stB m.sz vs then 0 else 2) else 1 from rfl)
  generalize stC m vs = R at HR ⊢
  generalize stB m.sz vs = A3 at *
  generalize mdB m = A1 at *
  clear h hv hok
  dsimp only [mv] at *
  generalize m.sz.length = sn at *
  generalize m.st.length = tn at *
  generalize m.rs.length = rn at *
  generalize vs.length = vn at *
  rcases A1 with _ | _
  · have e := HR.out
    rw [if_neg (by simp)] at e
    subst e
    go_enter Tryz.func44, Tryz.ntmps44
    go_wp2_with (fail)
    refine (HI.out _ (HM.out.alloc _)).mono ?_
    rintro e w1 ⟨rfl, hb⟩
    have HB := Lib.hid (below_chain (by (repeat (first | exact Below.refl _ _ | assumption | refine below_alloc ?_ _ | refine below_drewN ?_ _ | refine below_set ?_ _ (by simp; try omega) | refine Below.drew ?_)) : Below w.heap.size w _) hb)
    clear hb
    go_wp2
    go_ret
    exact ⟨rfl, HB.out⟩
  have e := HR.out
  rw [if_pos rfl] at e
  have HR2 := Lib.hid e
  have HSS := Lib.hid (HS.out rfl)
  clear e HR HS
  go_enter Tryz.func44, Tryz.ntmps44
  go_wp2_with (fail)
  refine (HI.out _ (HM.out.alloc _)).mono ?_
  rintro e w1 ⟨rfl, hb⟩
  have k0 : w1.cell? ⟨w.heap.size, 0, none⟩ = some (.slice az sn cz) := cell_later hb (by go_simp)
  have k1 : w1.cell? ⟨w.heap.size, 1, none⟩ = some (.slice ax tn cs) := cell_later hb (by go_simp)
  have k2 : w1.cell? ⟨w.heap.size, 2, none⟩ = some (.slice ar rn cr) := cell_later hb (by go_simp)
  have HB := Lib.hid (below_chain (by (repeat (first | exact Below.refl _ _ | assumption | refine below_alloc ?_ _ | refine below_drewN ?_ _ | refine below_set ?_ _ (by simp; try omega) | refine Below.drew ?_)) : Below w.heap.size w _) hb)
  clear hb
  rcases A3 with _ | _
  · have e := HR2.out
    rw [if_neg (by simp)] at e
    subst e
    go_wp2_with (fail)
    refine (HST.out _ HSS.out (HM.out.z.below HB.out) (HV.out.below HB.out)).mono ?_
    rintro e w2 ⟨rfl, hb⟩
    have HB2 := Lib.hid (below_chain HB.out hb)
    clear hb
    go_wp2
    go_ret
    exact ⟨rfl, HB2.out⟩
  · have e := HR2.out
    rw [if_pos rfl] at e
    subst e
    go_wp2_with (fail)
    refine (HST.out _ HSS.out (HM.out.z.below HB.out) (HV.out.below HB.out)).mono ?_
    rintro e w2 ⟨rfl, hb⟩
    have HB2 := Lib.hid (below_chain HB.out hb)
    clear hb
    go_wp2
    go_ret
    exact ⟨rfl, HB2.out⟩
set_option maxRecDepth 100000 in
theorem c_l20Code (m : Mdl) (az ax ar : Option Addr) (cz cs cr : Nat) (A : Option Addr) (c : Nat) (vs : List Int) (w : World) (hok : MOk m) (hl : vs.length ≤ 1048576) (h : Md w az ax ar m) (hv : Rd w A (ints vs)) :
    Calls Tryz.prog 49 #[mv m az ax ar cz cs cr, .slice A vs.length c] w fun e w' => e = .returned (.int .i64 (stC m vs)) ∧ Below w.heap.size w w' := by
  have HI := Lib.hid (fun w' h => c_sIsModel m az ax ar cz cs cr w' hok h)
  have HST := Lib.hid (fun w' hs h hv => c_l20State m az ax ar cz cs cr A c vs w' hs hok.1.1 hl h hv)
  have HS := Lib.hid (fun h => md_szs (m := m) h)
  have HM := Lib.hid h
  have HV := Lib.hid hv
  have HR := Lib.hid (show stC m vs = if mdB m then (if stB m.sz vs then 0 else 2) else 1 from rfl)
  generalize stC m vs = R at HR ⊢
  generalize stB m.sz vs = A3 at *
  generalize mdB m = A1 at *
  clear h hv hok
  dsimp only [mv] at *
  generalize m.sz.length = sn at *
  generalize m.st.length = tn at *
  generalize m.rs.length = rn at *
  generalize vs.length = vn at *
  rcases A1 with _ | _
  · have e := HR.out
    rw [if_neg (by simp)] at e
    subst e
    go_enter Tryz.func49, Tryz.ntmps49
    go_wp2_with (fail)
    refine (HI.out _ (HM.out.alloc _)).mono ?_
    rintro e w1 ⟨rfl, hb⟩
    have HB := Lib.hid (below_chain (by (repeat (first | exact Below.refl _ _ | assumption | refine below_alloc ?_ _ | refine below_drewN ?_ _ | refine below_set ?_ _ (by simp; try omega) | refine Below.drew ?_)) : Below w.heap.size w _) hb)
    clear hb
    go_wp2
    go_ret
    exact ⟨rfl, HB.out⟩
  have e := HR.out
  rw [if_pos rfl] at e
  have HR2 := Lib.hid e
  have HSS := Lib.hid (HS.out rfl)
  clear e HR HS
  go_enter Tryz.func49, Tryz.ntmps49
  go_wp2_with (fail)
  refine (HI.out _ (HM.out.alloc _)).mono ?_
  rintro e w1 ⟨rfl, hb⟩
  have k0 : w1.cell? ⟨w.heap.size, 0, none⟩ = some (.slice az sn cz) := cell_later hb (by go_simp)
  have k1 : w1.cell? ⟨w.heap.size, 1, none⟩ = some (.slice ax tn cs) := cell_later hb (by go_simp)
  have k2 : w1.cell? ⟨w.heap.size, 2, none⟩ = some (.slice ar rn cr) := cell_later hb (by go_simp)
  have HB := Lib.hid (below_chain (by (repeat (first | exact Below.refl _ _ | assumption | refine below_alloc ?_ _ | refine below_drewN ?_ _ | refine below_set ?_ _ (by simp; try omega) | refine Below.drew ?_)) : Below w.heap.size w _) hb)
  clear hb
  rcases A3 with _ | _
  · have e := HR2.out
    rw [if_neg (by simp)] at e
    subst e
    go_wp2_with (fail)
    refine (HST.out _ HSS.out (HM.out.z.below HB.out) (HV.out.below HB.out)).mono ?_
    rintro e w2 ⟨rfl, hb⟩
    have HB2 := Lib.hid (below_chain HB.out hb)
    clear hb
    go_wp2
    go_ret
    exact ⟨rfl, HB2.out⟩
  · have e := HR2.out
    rw [if_pos rfl] at e
    subst e
    go_wp2_with (fail)
    refine (HST.out _ HSS.out (HM.out.z.below HB.out) (HV.out.below HB.out)).mono ?_
    rintro e w2 ⟨rfl, hb⟩
    have HB2 := Lib.hid (below_chain HB.out hb)
    clear hb
    go_wp2
    go_ret
    exact ⟨rfl, HB2.out⟩
end Go.Proofs.YtgpmglfcdbpgkaaGreatDoor
