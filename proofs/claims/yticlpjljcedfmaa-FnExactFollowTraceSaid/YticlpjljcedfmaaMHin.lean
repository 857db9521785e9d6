/- stateCode and l20Code, HoldsIn on both sides. Condition: the lengths are those that the laws let by. -/
import Derived.Test.YticlpjljcedfmaaMHld
namespace Go.Proofs.Yticlpjljcedfmaa
open Go.RowKit

theorem md_szs {m : Mdl} (h : mdB m = true) : SzsOk m.sz := by
  unfold mdB szB at h
  simp only [Bool.and_eq_true, Bool.not_eq_true'] at h
  exact szB_ok h.1
theorem st_len {sz vs : List Int} (h : stB sz vs = true) : vs.length = sz.length := by
  unfold stB at h
  simp only [Bool.and_eq_true, decide_eq_true_eq] at h
  exact h.1
def stC (m : Mdl) (vs : List Int) : Int := if mdB m then (if stB m.sz vs then 0 else 2) else 1
/-- What HoldsIn hands back: a bool and a code. -/
def RetBC (b : Bool) (c : Int) (w : World) (e : Ending) (w' : World) : Prop := e = .returned (.tuple #[.bool b, .int .i64 c]) ∧ Below w.heap.size w w'
def hiB (m : Mdl) (vs : List Int) (ts : List Tst) : Bool := mdB m && (stB m.sz vs && (tsB m.sz ts && hlB vs ts))
def hiC (m : Mdl) (vs : List Int) (ts : List Tst) : Int := if mdB m then (if stB m.sz vs && tsB m.sz ts then 0 else 2) else 1
set_option maxRecDepth 100000 in
theorem c_stateCode (m : Mdl) (az ax ar : Option Addr) (cz cs cr : Nat) (A : Option Addr) (c : Nat) (vs : List Int) (w : World) (hok : MOk m) (hl : vs.length ≤ 1048576) (h : Md w az ax ar m) (hv : Rd w A (ints vs)) :
    Calls Try.prog 63 #[mv m az ax ar cz cs cr, .slice A vs.length c] w fun e w' => e = .returned (.int .i64 (stC m vs)) ∧ Below w.heap.size w w' := by
  have HI := Lib.hid (fun w' h => c_IsModel m az ax ar cz cs cr w' hok h)
  have HST := Lib.hid (fun w' hs h hv => c_isState m az ax ar cz cs cr A c vs w' hs hok.1.1 hl h hv)
  have HS := Lib.hid (fun h => md_szs (m := m) h)
  have HM := Lib.hid h
  have HV := Lib.hid hv
  have HR := Lib.hid (show stC m vs = if mdB m then (if stB m.sz vs then 0 else 2) else 1 from rfl)
  generalize stC m vs = R at HR ⊢
  generalize stB m.sz vs = A3 at *
  generalize mdB m = A1 at *
  clear h hv hok
  dsimp only [mv] at *
  generalize m.sz.length = sn at *
  generalize m.st.length = tn at *
  generalize m.rs.length = rn at *
  generalize vs.length = vn at *
  rcases A1 with _ | _
  · have e := HR.out
    rw [if_neg (by simp)] at e
    subst e
    go_enter Try.func63, Try.ntmps63
    go_wp2_with (fail)
    refine (HI.out _ (HM.out.alloc _)).mono ?_
    rintro e w1 ⟨rfl, hb⟩
    have HB := Lib.hid (below_chain (by (repeat (first | exact Below.refl _ _ | assumption | refine below_alloc ?_ _ | refine below_drewN ?_ _ | refine below_set ?_ _ (by simp; try omega) | refine Below.drew ?_)) : Below w.heap.size w _) hb)
    clear hb
    go_wp2
    go_ret
    exact ⟨rfl, HB.out⟩
  have e := HR.out
  rw [if_pos rfl] at e
  have HR2 := Lib.hid e
  have HSS := Lib.hid (HS.out rfl)
  clear e HR HS
  go_enter Try.func63, Try.ntmps63
  go_wp2_with (fail)
  refine (HI.out _ (HM.out.alloc _)).mono ?_
  rintro e w1 ⟨rfl, hb⟩
  have k0 : w1.cell? ⟨w.heap.size, 0, none⟩ = some (.slice az sn cz) := cell_later hb (by go_simp)
  have k1 : w1.cell? ⟨w.heap.size, 1, none⟩ = some (.slice ax tn cs) := cell_later hb (by go_simp)
  have k2 : w1.cell? ⟨w.heap.size, 2, none⟩ = some (.slice ar rn cr) := cell_later hb (by go_simp)
  have HB := Lib.hid (below_chain (by (repeat (first | exact Below.refl _ _ | assumption | refine below_alloc ?_ _ | refine below_drewN ?_ _ | refine below_set ?_ _ (by simp; try omega) | refine Below.drew ?_)) : Below w.heap.size w _) hb)
  clear hb
  rcases A3 with _ | _
  · have e := HR2.out
    rw [if_neg (by simp)] at e
    subst e
    go_wp2_with (fail)
    refine (HST.out _ HSS.out (HM.out.z.below HB.out) (HV.out.below HB.out)).mono ?_
    rintro e w2 ⟨rfl, hb⟩
    have HB2 := Lib.hid (below_chain HB.out hb)
    clear hb
    go_wp2
    go_ret
    exact ⟨rfl, HB2.out⟩
  · have e := HR2.out
    rw [if_pos rfl] at e
    subst e
    go_wp2_with (fail)
    refine (HST.out _ HSS.out (HM.out.z.below HB.out) (HV.out.below HB.out)).mono ?_
    rintro e w2 ⟨rfl, hb⟩
    have HB2 := Lib.hid (below_chain HB.out hb)
    clear hb
    go_wp2
    go_ret
    exact ⟨rfl, HB2.out⟩
set_option maxRecDepth 100000 in
theorem c_l20Code (m : Mdl) (az ax ar : Option Addr) (cz cs cr : Nat) (A : Option Addr) (c : Nat) (vs : List Int) (w : World) (hok : MOk m) (hl : vs.length ≤ 1048576) (h : Md w az ax ar m) (hv : Rd w A (ints vs)) :
    Calls Try.prog 55 #[mv m az ax ar cz cs cr, .slice A vs.length c] w fun e w' => e = .returned (.int .i64 (stC m vs)) ∧ Below w.heap.size w w' := by
  have HI := Lib.hid (fun w' h => c_sIsModel m az ax ar cz cs cr w' hok h)
  have HST := Lib.hid (fun w' hs h hv => c_l20State m az ax ar cz cs cr A c vs w' hs hok.1.1 hl h hv)
  have HS := Lib.hid (fun h => md_szs (m := m) h)
  have HM := Lib.hid h
  have HV := Lib.hid hv
  have HR := Lib.hid (show stC m vs = if mdB m then (if stB m.sz vs then 0 else 2) else 1 from rfl)
  generalize stC m vs = R at HR ⊢
  generalize stB m.sz vs = A3 at *
  generalize mdB m = A1 at *
  clear h hv hok
  dsimp only [mv] at *
  generalize m.sz.length = sn at *
  generalize m.st.length = tn at *
  generalize m.rs.length = rn at *
  generalize vs.length = vn at *
  rcases A1 with _ | _
  · have e := HR.out
    rw [if_neg (by simp)] at e
    subst e
    go_enter Try.func55, Try.ntmps55
    go_wp2_with (fail)
    refine (HI.out _ (HM.out.alloc _)).mono ?_
    rintro e w1 ⟨rfl, hb⟩
    have HB := Lib.hid (below_chain (by (repeat (first | exact Below.refl _ _ | assumption | refine below_alloc ?_ _ | refine below_drewN ?_ _ | refine below_set ?_ _ (by simp; try omega) | refine Below.drew ?_)) : Below w.heap.size w _) hb)
    clear hb
    go_wp2
    go_ret
    exact ⟨rfl, HB.out⟩
  have e := HR.out
  rw [if_pos rfl] at e
  have HR2 := Lib.hid e
  have HSS := Lib.hid (HS.out rfl)
  clear e HR HS
  go_enter Try.func55, Try.ntmps55
  go_wp2_with (fail)
  refine (HI.out _ (HM.out.alloc _)).mono ?_
  rintro e w1 ⟨rfl, hb⟩
  have k0 : w1.cell? ⟨w.heap.size, 0, none⟩ = some (.slice az sn cz) := cell_later hb (by go_simp)
  have k1 : w1.cell? ⟨w.heap.size, 1, none⟩ = some (.slice ax tn cs) := cell_later hb (by go_simp)
  have k2 : w1.cell? ⟨w.heap.size, 2, none⟩ = some (.slice ar rn cr) := cell_later hb (by go_simp)
  have HB := Lib.hid (below_chain (by (repeat (first | exact Below.refl _ _ | assumption | refine below_alloc ?_ _ | refine below_drewN ?_ _ | refine below_set ?_ _ (by simp; try omega) | refine Below.drew ?_)) : Below w.heap.size w _) hb)
  clear hb
  rcases A3 with _ | _
  · have e := HR2.out
    rw [if_neg (by simp)] at e
    subst e
    go_wp2_with (fail)
    refine (HST.out _ HSS.out (HM.out.z.below HB.out) (HV.out.below HB.out)).mono ?_
    rintro e w2 ⟨rfl, hb⟩
    have HB2 := Lib.hid (below_chain HB.out hb)
    clear hb
    go_wp2
    go_ret
    exact ⟨rfl, HB2.out⟩
  · have e := HR2.out
    rw [if_pos rfl] at e
    subst e
    go_wp2_with (fail)
    refine (HST.out _ HSS.out (HM.out.z.below HB.out) (HV.out.below HB.out)).mono ?_
    rintro e w2 ⟨rfl, hb⟩
    have HB2 := Lib.hid (below_chain HB.out hb)
    clear hb
    go_wp2
    go_ret
    exact ⟨rfl, HB2.out⟩
set_option maxHeartbeats 1000000 in
set_option maxRecDepth 100000 in
theorem c_HoldsIn (m : Mdl) (az ax ar : Option Addr) (cz cs cr : Nat) (A : Option Addr) (c : Nat) (vs : List Int) (A' : Option Addr) (c' : Nat) (ts : List Tst) (w : World) (hok : MOk m) (hl : vs.length ≤ 1048576) (hl2 : ts.length ≤ 1048576) (h : Md w az ax ar m) (hv : Rd w A (ints vs)) (ht : Rd w A' (tstCells ts)) :
    Calls Try.prog 21 #[mv m az ax ar cz cs cr, .slice A vs.length c, .slice A' ts.length c'] w (RetBC (hiB m vs ts) (hiC m vs ts) w) := by
  have HI := Lib.hid (fun w' h => c_IsModel m az ax ar cz cs cr w' hok h)
  have HST := Lib.hid (fun w' hs h hv => c_isState m az ax ar cz cs cr A c vs w' hs hok.1.1 hl h hv)
  have HTS := Lib.hid (fun w' hs h ht => c_areTests m az ax ar cz cs cr A' c' ts w' hs hok.1.1 hl2 h ht)
  have HHL := Lib.hid (fun w' hin hv ht => c_holds A c vs A' c' ts w' hl hl2 hin hv ht)
  have HS := Lib.hid (fun h => md_szs (m := m) h)
  have HIN := Lib.hid (fun (h1 : stB m.sz vs = true) (h2 : tsB m.sz ts = true) => show TsIn vs.length ts by rw [st_len h1]; exact tsIn_of h2)
  have HM := Lib.hid h
  have HV := Lib.hid hv
  have HT := Lib.hid ht
  have HRB := Lib.hid (show hiB m vs ts = (mdB m && (stB m.sz vs && (tsB m.sz ts && hlB vs ts))) from rfl)
  have HRC := Lib.hid (show hiC m vs ts = if mdB m then (if stB m.sz vs && tsB m.sz ts then 0 else 2) else 1 from rfl)
  generalize hiB m vs ts = RB at HRB ⊢
  generalize hiC m vs ts = RC at HRC ⊢
  generalize stB m.sz vs = A3 at *
  generalize tsB m.sz ts = A4 at *
  generalize hlB vs ts = A5 at *
  generalize mdB m = A1 at *
  clear h hv ht hok
  dsimp only [mv] at *
  generalize m.sz.length = sn at *
  generalize m.st.length = tn at *
  generalize m.rs.length = rn at *
  generalize vs.length = vn at *
  generalize ts.length = ln at *
  rcases A1 with _ | _
  · have e := HRC.out
    rw [if_neg (by simp)] at e
    have e2 := HRB.out
    rw [Bool.false_and] at e2
    subst e e2
    go_enter Try.func21, Try.ntmps21
    go_wp2_with (fail)
    refine (HI.out _ (HM.out.alloc _)).mono ?_
    rintro e w1 ⟨rfl, hb⟩
    have HB := Lib.hid (below_chain (by (repeat (first | exact Below.refl _ _ | assumption | refine below_alloc ?_ _ | refine below_drewN ?_ _ | refine below_set ?_ _ (by simp; try omega) | refine Below.drew ?_)) : Below w.heap.size w _) hb)
    clear hb
    go_wp2
    go_ret2
    exact ⟨rfl, HB.out⟩
  have e := HRC.out
  rw [if_pos rfl] at e
  have HRC2 := Lib.hid e
  have e2 := HRB.out
  rw [Bool.true_and] at e2
  have HRB2 := Lib.hid e2
  have HSS := Lib.hid (HS.out rfl)
  clear e e2 HRB HRC HS
  go_enter Try.func21, Try.ntmps21
  go_wp2_with (fail)
  refine (HI.out _ (HM.out.alloc _)).mono ?_
  rintro e w1 ⟨rfl, hb⟩
  have k0 : w1.cell? ⟨w.heap.size, 0, none⟩ = some (.slice az sn cz) := cell_later hb (by go_simp)
  have k1 : w1.cell? ⟨w.heap.size, 1, none⟩ = some (.slice ax tn cs) := cell_later hb (by go_simp)
  have k2 : w1.cell? ⟨w.heap.size, 2, none⟩ = some (.slice ar rn cr) := cell_later hb (by go_simp)
  have HB := Lib.hid (below_chain (by (repeat (first | exact Below.refl _ _ | assumption | refine below_alloc ?_ _ | refine below_drewN ?_ _ | refine below_set ?_ _ (by simp; try omega) | refine Below.drew ?_)) : Below w.heap.size w _) hb)
  clear hb
  rcases A3 with _ | _
  · have e := HRC2.out
    rw [Bool.false_and, if_neg (by simp)] at e
    have e2 := HRB2.out
    rw [Bool.false_and] at e2
    subst e e2
    go_wp2_with (fail)
    refine (HST.out _ HSS.out (HM.out.z.below HB.out) (HV.out.below HB.out)).mono ?_
    rintro e w2 ⟨rfl, hb⟩
    have HB2 := Lib.hid (below_chain HB.out hb)
    clear hb
    go_wp2
    go_ret2
    exact ⟨rfl, HB2.out⟩
  go_wp2_with (fail)
  refine (HST.out _ HSS.out (HM.out.z.below HB.out) (HV.out.below HB.out)).mono ?_
  rintro e w2 ⟨rfl, hb⟩
  have HB2 := Lib.hid (below_chain HB.out hb)
  replace k0 := cell_later hb k0
  replace k1 := cell_later hb k1
  replace k2 := cell_later hb k2
  clear hb
  rcases A4 with _ | _
  · have e := HRC2.out
    rw [Bool.and_false, if_neg (by simp)] at e
    have e2 := HRB2.out
    rw [Bool.false_and, Bool.and_false] at e2
    subst e e2
    go_wp2_with (fail)
    refine (HTS.out _ HSS.out (HM.out.z.below HB2.out) (HT.out.below HB2.out)).mono ?_
    rintro e w3 ⟨rfl, hb⟩
    have HB3 := Lib.hid (below_chain HB2.out hb)
    clear hb
    go_wp2
    go_ret2
    exact ⟨rfl, HB3.out⟩
  have e := HRC2.out
  rw [Bool.and_self, if_pos rfl] at e
  have e2 := HRB2.out
  rw [Bool.true_and, Bool.true_and] at e2
  subst e e2
  have HTI := Lib.hid (by first | exact HIN.out rfl rfl | exact HIN.out trivial rfl | exact HIN.out trivial trivial | exact HIN.out)
  go_wp2_with (fail)
  refine (HTS.out _ HSS.out (HM.out.z.below HB2.out) (HT.out.below HB2.out)).mono ?_
  rintro e w3 ⟨rfl, hb⟩
  have HB3 := Lib.hid (below_chain HB2.out hb)
  clear hb
  go_wp2_with (fail)
  refine (HHL.out _ HTI.out (HV.out.below HB3.out) (HT.out.below HB3.out)).mono ?_
  rintro e w4 ⟨rfl, hb⟩
  have HB4 := Lib.hid (below_chain HB3.out hb)
  clear hb
  go_wp2
  go_ret2
  exact ⟨rfl, HB4.out⟩
set_option maxHeartbeats 1000000 in
set_option maxRecDepth 100000 in
theorem c_sHoldsIn (m : Mdl) (az ax ar : Option Addr) (cz cs cr : Nat) (A : Option Addr) (c : Nat) (vs : List Int) (A' : Option Addr) (c' : Nat) (ts : List Tst) (w : World) (hok : MOk m) (hl : vs.length ≤ 1048576) (hl2 : ts.length ≤ 1048576) (h : Md w az ax ar m) (hv : Rd w A (ints vs)) (ht : Rd w A' (tstCells ts)) :
    Calls Try.prog 18 #[mv m az ax ar cz cs cr, .slice A vs.length c, .slice A' ts.length c'] w (RetBC (hiB m vs ts) (hiC m vs ts) w) := by
  have HCO := Lib.hid (fun w' h hv => c_l20Code m az ax ar cz cs cr A c vs w' hok hl h hv)
  have HTS := Lib.hid (fun w' hs h ht => c_l20Tests m az ax ar cz cs cr A' c' ts w' hs hok.1.1 hl2 h ht)
  have HHL := Lib.hid (fun w' hin hv ht => c_l20Holds A c vs A' c' ts w' hl hl2 hin hv ht)
  have HS := Lib.hid (fun h => md_szs (m := m) h)
  have HIN := Lib.hid (fun (h1 : stB m.sz vs = true) (h2 : tsB m.sz ts = true) => show TsIn vs.length ts by rw [st_len h1]; exact tsIn_of h2)
  have HM := Lib.hid h
  have HV := Lib.hid hv
  have HT := Lib.hid ht
  have HRB := Lib.hid (show hiB m vs ts = (mdB m && (stB m.sz vs && (tsB m.sz ts && hlB vs ts))) from rfl)
  have HRC := Lib.hid (show hiC m vs ts = if mdB m then (if stB m.sz vs && tsB m.sz ts then 0 else 2) else 1 from rfl)
  have HSC := Lib.hid (show stC m vs = if mdB m then (if stB m.sz vs then 0 else 2) else 1 from rfl)
  generalize stC m vs = C at HSC HCO
  generalize hiB m vs ts = RB at HRB ⊢
  generalize hiC m vs ts = RC at HRC ⊢
  generalize stB m.sz vs = A3 at *
  generalize tsB m.sz ts = A4 at *
  generalize hlB vs ts = A5 at *
  generalize mdB m = A1 at *
  clear h hv ht hok
  dsimp only [mv] at *
  generalize m.sz.length = sn at *
  generalize m.st.length = tn at *
  generalize m.rs.length = rn at *
  generalize vs.length = vn at *
  generalize ts.length = ln at *
  rcases A1 with _ | _
  · have e := HRC.out
    rw [if_neg (by simp)] at e
    have e2 := HRB.out
    rw [Bool.false_and] at e2
    have e3 := HSC.out
    rw [if_neg (by simp)] at e3
    subst e e2 e3
    go_enter Try.func18, Try.ntmps18
    go_wp2_with (fail)
    refine (HCO.out _ (HM.out.alloc _) (HV.out.alloc _)).mono ?_
    rintro e w1 ⟨rfl, hb⟩
    have HB := Lib.hid (below_chain (by (repeat (first | exact Below.refl _ _ | assumption | refine below_alloc ?_ _ | refine below_drewN ?_ _ | refine below_set ?_ _ (by simp; try omega) | refine Below.drew ?_)) : Below w.heap.size w _) hb)
    clear hb
    go_wp2
    go_ret2
    exact ⟨rfl, HB.out⟩
  have e := HRC.out
  rw [if_pos rfl] at e
  have HRC2 := Lib.hid e
  have e2 := HRB.out
  rw [Bool.true_and] at e2
  have HRB2 := Lib.hid e2
  have e3 := HSC.out
  rw [if_pos rfl] at e3
  have HSC2 := Lib.hid e3
  have HSS := Lib.hid (HS.out rfl)
  clear e e2 e3 HRB HRC HS HSC
  rcases A3 with _ | _
  · have e := HRC2.out
    rw [Bool.false_and, if_neg (by simp)] at e
    have e2 := HRB2.out
    rw [Bool.false_and] at e2
    have e3 := HSC2.out
    rw [if_neg (by simp)] at e3
    subst e e2 e3
    go_enter Try.func18, Try.ntmps18
    go_wp2_with (fail)
    refine (HCO.out _ (HM.out.alloc _) (HV.out.alloc _)).mono ?_
    rintro e w1 ⟨rfl, hb⟩
    have HB := Lib.hid (below_chain (by (repeat (first | exact Below.refl _ _ | assumption | refine below_alloc ?_ _ | refine below_drewN ?_ _ | refine below_set ?_ _ (by simp; try omega) | refine Below.drew ?_)) : Below w.heap.size w _) hb)
    clear hb
    go_wp2
    go_ret2
    exact ⟨rfl, HB.out⟩
  have e3 := HSC2.out
  rw [if_pos rfl] at e3
  subst e3
  go_enter Try.func18, Try.ntmps18
  go_wp2_with (fail)
  refine (HCO.out _ (HM.out.alloc _) (HV.out.alloc _)).mono ?_
  rintro e w1 ⟨rfl, hb⟩
  have k0 : w1.cell? ⟨w.heap.size, 0, none⟩ = some (.slice az sn cz) := cell_later hb (by go_simp)
  have k1 : w1.cell? ⟨w.heap.size, 1, none⟩ = some (.slice ax tn cs) := cell_later hb (by go_simp)
  have k2 : w1.cell? ⟨w.heap.size, 2, none⟩ = some (.slice ar rn cr) := cell_later hb (by go_simp)
  have HB := Lib.hid (below_chain (by (repeat (first | exact Below.refl _ _ | assumption | refine below_alloc ?_ _ | refine below_drewN ?_ _ | refine below_set ?_ _ (by simp; try omega) | refine Below.drew ?_)) : Below w.heap.size w _) hb)
  clear hb
  rcases A4 with _ | _
  · have e := HRC2.out
    rw [Bool.and_false, if_neg (by simp)] at e
    have e2 := HRB2.out
    rw [Bool.false_and, Bool.and_false] at e2
    subst e e2
    go_wp2_with (fail)
    refine (HTS.out _ HSS.out (HM.out.z.below HB.out) (HT.out.below HB.out)).mono ?_
    rintro e w3 ⟨rfl, hb⟩
    have HB3 := Lib.hid (below_chain HB.out hb)
    clear hb
    go_wp2
    go_ret2
    exact ⟨rfl, HB3.out⟩
  have e := HRC2.out
  rw [Bool.and_self, if_pos rfl] at e
  have e2 := HRB2.out
  rw [Bool.true_and, Bool.true_and] at e2
  subst e e2
  have HTI := Lib.hid (by first | exact HIN.out rfl rfl | exact HIN.out trivial rfl | exact HIN.out trivial trivial | exact HIN.out)
  go_wp2_with (fail)
  refine (HTS.out _ HSS.out (HM.out.z.below HB.out) (HT.out.below HB.out)).mono ?_
  rintro e w3 ⟨rfl, hb⟩
  have HB3 := Lib.hid (below_chain HB.out hb)
  clear hb
  go_wp2_with (fail)
  refine (HHL.out _ HTI.out (HV.out.below HB3.out) (HT.out.below HB3.out)).mono ?_
  rintro e w4 ⟨rfl, hb⟩
  have HB4 := Lib.hid (below_chain HB3.out hb)
  clear hb
  go_wp2
  go_ret2
  exact ⟨rfl, HB4.out⟩
end Go.Proofs.Yticlpjljcedfmaa
