/- IsCounterexample, on both sides. Condition: the lengths are those that the laws let by. -/
import Derived.Test.YtaloheljfefdeaaHMFolS
namespace Go.Proofs.Ytaloheljfefdeaa
open Go.RowKit

def icB (m : Mdl) (ts : List Tst) (tr : List Int) : Bool := decide (ftC m tr = 0) && (tsB m.sz ts && hlB (trS m tr tr.length) ts)
theorem ft_zero {m : Mdl} {tr : List Int} (h : ftC m tr = 0) : mdB m = true ∧ ftL m tr = trL m tr tr.length := by
  unfold ftC at h
  split at h
  · rename_i h1
    refine ⟨h1, ?_⟩
    unfold ftL
    rw [if_pos h1]
    split at h
    · omega
    · rename_i h2
      rw [if_neg h2]
      split at h
      · omega
      · rename_i h3
        rw [if_neg h3]
        split at h
        · rename_i h4
          rw [if_pos h4]
        · omega
  · omega
set_option maxHeartbeats 2000000 in
set_option maxRecDepth 100000 in
theorem c_IsCounterexample (m : Mdl) (az ax ar : Option Addr) (cz cs cr : Nat) (A' : Option Addr) (c' : Nat) (ts : List Tst) (A : Option Addr) (c : Nat) (tr : List Int) (w : World) (hok : MOk m) (hl : tr.length ≤ 1048576) (hl2 : ts.length ≤ 1048576) (h : Md w az ax ar m) (hv : Rd w A (ints tr)) (ht : Rd w A' (tstCells ts)) :
    Calls Try.prog 15 #[mv m az ax ar cz cs cr, .slice A' ts.length c', .slice A tr.length c] w fun e w' => e = .returned (.bool (icB m ts tr)) ∧ Below w.heap.size w w' := by
  have HF := Lib.hid (fun w' h hv => c_FollowTrace m az ax ar cz cs cr A c tr w' hok hl h hv)
  have HTS := Lib.hid (fun w' hs h ht => c_areTests m az ax ar cz cs cr A' c' ts w' hs hok.1.1 hl2 h ht)
  have HM := Lib.hid h
  have HV := Lib.hid hv
  have HT := Lib.hid ht
  have HR := Lib.hid (show icB m ts tr = (decide (ftC m tr = 0) && (tsB m.sz ts && hlB (trS m tr tr.length) ts)) from rfl)
  generalize icB m ts tr = R at HR ⊢
  by_cases hc : ftC m tr = 0
  · obtain ⟨hmd, hfl⟩ := ft_zero hc
    have hst := st_of hmd
    have HSZ := Lib.hid (md_szs hmd)
    have HHL := Lib.hid (fun (h2 : tsB m.sz ts = true) a d w' hv ht => show Calls Try.prog 51 #[.slice a m.st.length d, .slice A' ts.length c'] w' _ by
      have := c_holds a d (trS m tr tr.length) A' c' ts w' (by rw [trS_len]; exact hok.1.2.1) hl2 (by rw [trS_len, st_len hst]; exact tsIn_of h2) hv ht
      rw [trS_len] at this
      exact this)
    have HAT := Lib.hid (trL_at m tr tr.length tr.length (Nat.le_refl _))
    have HSL := Lib.hid (trS_len m tr tr.length)
    have HLL := Lib.hid (trL_len m tr tr.length)
    have e := HR.out
    rw [hc, decide_eq_true rfl, Bool.true_and] at e
    have HR2 := Lib.hid e
    rw [hc, hfl] at HF
    clear e HR hc hfl hmd hst h hv ht hok
    rw [trL_len] at HF
    generalize trL m tr tr.length = L at *
    generalize trS m tr tr.length = S0 at *
    dsimp only [mv] at *
    generalize m.sz.length = sn at *
    generalize m.st.length = tn at *
    generalize m.rs.length = rn at *
    generalize tr.length = ln at *
    generalize ts.length = mn at *
    rcases ht2 : tsB m.sz ts with _ | _
    · rw [ht2] at HTS
      have e := HR2.out
      rw [ht2, Bool.false_and] at e
      subst e
      clear HR2 ht2
      go_enter Try.func15, Try.ntmps15
      go_wp2_with (fail)
      refine (HF.out _ (HM.out.alloc _) (HV.out.alloc _)).mono ?_
      rintro e w1 ⟨A1, c1, rfl, ho, hb⟩
      have k0 : w1.cell? ⟨w.heap.size, 0, none⟩ = some (.slice az sn cz) := cell_later hb (by go_simp)
      have k1 : w1.cell? ⟨w.heap.size, 1, none⟩ = some (.slice ax tn cs) := cell_later hb (by go_simp)
      have k2 : w1.cell? ⟨w.heap.size, 2, none⟩ = some (.slice ar rn cr) := cell_later hb (by go_simp)
      have HB := Lib.hid (below_chain (by (repeat (first | exact Below.refl _ _ | assumption | refine below_alloc ?_ _ | refine below_drewN ?_ _ | refine below_set ?_ _ (by simp; try omega) | refine Below.drew ?_)) : Below w.heap.size w _) hb)
      clear hb ho
      go_wp2_with (fail)
      refine (HTS.out _ HSZ.out (HM.out.z.below HB.out) (HT.out.below HB.out)).mono ?_
      rintro e w2 ⟨rfl, hb⟩
      have HB2 := Lib.hid (below_chain HB.out hb)
      clear hb
      go_wp2
      go_ret
      exact ⟨rfl, HB2.out⟩
    · rw [ht2] at HTS
      have e := HR2.out
      rw [ht2, Bool.true_and] at e
      subst e
      have HHL2 := Lib.hid (fun a d w' hv ht => HHL.out ht2 a d w' hv ht)
      clear HR2 ht2 HHL
      go_enter Try.func15, Try.ntmps15
      go_wp2_with (fail)
      refine (HF.out _ (HM.out.alloc _) (HV.out.alloc _)).mono ?_
      rintro e w1 ⟨A1, c1, rfl, ho, hb⟩
      have k0 : w1.cell? ⟨w.heap.size, 0, none⟩ = some (.slice az sn cz) := cell_later hb (by go_simp)
      have k1 : w1.cell? ⟨w.heap.size, 1, none⟩ = some (.slice ax tn cs) := cell_later hb (by go_simp)
      have k2 : w1.cell? ⟨w.heap.size, 2, none⟩ = some (.slice ar rn cr) := cell_later hb (by go_simp)
      have HB := Lib.hid (below_chain (by (repeat (first | exact Below.refl _ _ | assumption | refine below_alloc ?_ _ | refine below_drewN ?_ _ | refine below_set ?_ _ (by simp; try omega) | refine Below.drew ?_)) : Below w.heap.size w _) hb)
      have HO := Lib.hid (ho.rd HLL.out.symm)
      clear hb ho
      go_wp2_with (fail)
      refine (HTS.out _ HSZ.out (HM.out.z.below HB.out) (HT.out.below HB.out)).mono ?_
      rintro e w2 ⟨rfl, hb⟩
      have HB2 := Lib.hid (below_chain HB.out hb)
      obtain ⟨lb, lo, sa, sc, rfl, _, s0, hsv⟩ := (HO.out.below hb).at HAT.out
      rw [HSL.out] at s0
      have HSV := Lib.hid hsv
      have hq0 : (0 : Int) ≤ (ln : Int) := by omega
      have hq1 : (ln : Int) < (ln : Int) + 1 := by omega
      clear hb hsv HO
      go_wp2_with (fail)
      refine (HHL2.out _ _ _ HSV.out (HT.out.below HB2.out)).mono ?_
      rintro e w3 ⟨rfl, hb⟩
      have HB3 := Lib.hid (below_chain HB2.out hb)
      clear hb
      go_wp2
      go_ret
      exact ⟨rfl, HB3.out⟩
  · have e := HR.out
    rw [decide_eq_false hc, Bool.false_and] at e
    subst e
    have hc1 : ftC m tr < 0 ∨ 0 < ftC m tr := by omega
    clear HR HTS hc h hv ht hok
    generalize ftC m tr = C at *
    generalize ftL m tr = L at *
    dsimp only [mv] at *
    generalize m.sz.length = sn at *
    generalize m.st.length = tn at *
    generalize m.rs.length = rn at *
    generalize tr.length = ln at *
    generalize ts.length = mn at *
    have hc2 : (C == 0) = false := by simp; omega
    have hc3 : ¬ C = 0 := by omega
    have hc4 : decide (C = 0) = false := by simp; omega
    clear hc1
    go_enter Try.func15, Try.ntmps15
    go_wp2_with (fail)
    refine (HF.out _ (HM.out.alloc _) (HV.out.alloc _)).mono ?_
    rintro e w1 ⟨A1, c1, rfl, ho, hb⟩
    have HB := Lib.hid (below_chain (by (repeat (first | exact Below.refl _ _ | assumption | refine below_alloc ?_ _ | refine below_drewN ?_ _ | refine below_set ?_ _ (by simp; try omega) | refine Below.drew ?_)) : Below w.heap.size w _) hb)
    clear hb ho
    go_wp2
    go_ret
    exact ⟨rfl, HB.out⟩
set_option maxHeartbeats 2000000 in
set_option maxRecDepth 100000 in
theorem c_sIsCounterexample (m : Mdl) (az ax ar : Option Addr) (cz cs cr : Nat) (A' : Option Addr) (c' : Nat) (ts : List Tst) (A : Option Addr) (c : Nat) (tr : List Int) (w : World) (hok : MOk m) (hl : tr.length ≤ 1048576) (hl2 : ts.length ≤ 1048576) (h : Md w az ax ar m) (hv : Rd w A (ints tr)) (ht : Rd w A' (tstCells ts)) :
    Calls Try.prog 16 #[mv m az ax ar cz cs cr, .slice A' ts.length c', .slice A tr.length c] w fun e w' => e = .returned (.bool (icB m ts tr)) ∧ Below w.heap.size w w' := by
  have HF := Lib.hid (fun w' h hv => c_sFollowTrace m az ax ar cz cs cr A c tr w' hok hl h hv)
  have HTS := Lib.hid (fun w' hs h ht => c_l20Tests m az ax ar cz cs cr A' c' ts w' hs hok.1.1 hl2 h ht)
  have HM := Lib.hid h
  have HV := Lib.hid hv
  have HT := Lib.hid ht
  have HR := Lib.hid (show icB m ts tr = (decide (ftC m tr = 0) && (tsB m.sz ts && hlB (trS m tr tr.length) ts)) from rfl)
  generalize icB m ts tr = R at HR ⊢
  by_cases hc : ftC m tr = 0
  · obtain ⟨hmd, hfl⟩ := ft_zero hc
    have hst := st_of hmd
    have HSZ := Lib.hid (md_szs hmd)
    have HHL := Lib.hid (fun (h2 : tsB m.sz ts = true) a d w' hv ht => show Calls Try.prog 61 #[.slice a m.st.length d, .slice A' ts.length c'] w' _ by
      have := c_l20Holds a d (trS m tr tr.length) A' c' ts w' (by rw [trS_len]; exact hok.1.2.1) hl2 (by rw [trS_len, st_len hst]; exact tsIn_of h2) hv ht
      rw [trS_len] at this
      exact this)
    have HAT := Lib.hid (trL_at m tr tr.length tr.length (Nat.le_refl _))
    have HSL := Lib.hid (trS_len m tr tr.length)
    have HLL := Lib.hid (trL_len m tr tr.length)
    have e := HR.out
    rw [hc, decide_eq_true rfl, Bool.true_and] at e
    have HR2 := Lib.hid e
    rw [hc, hfl] at HF
    clear e HR hc hfl hmd hst h hv ht hok
    rw [trL_len] at HF
    generalize trL m tr tr.length = L at *
    generalize trS m tr tr.length = S0 at *
    dsimp only [mv] at *
    generalize m.sz.length = sn at *
    generalize m.st.length = tn at *
    generalize m.rs.length = rn at *
    generalize tr.length = ln at *
    generalize ts.length = mn at *
    rcases ht2 : tsB m.sz ts with _ | _
    · rw [ht2] at HTS
      have e := HR2.out
      rw [ht2, Bool.false_and] at e
      subst e
      clear HR2 ht2
      go_enter Try.func16, Try.ntmps16
      go_wp2_with (fail)
      refine (HF.out _ (HM.out.alloc _) (HV.out.alloc _)).mono ?_
      rintro e w1 ⟨A1, c1, rfl, ho, hb⟩
      have k0 : w1.cell? ⟨w.heap.size, 0, none⟩ = some (.slice az sn cz) := cell_later hb (by go_simp)
      have k1 : w1.cell? ⟨w.heap.size, 1, none⟩ = some (.slice ax tn cs) := cell_later hb (by go_simp)
      have k2 : w1.cell? ⟨w.heap.size, 2, none⟩ = some (.slice ar rn cr) := cell_later hb (by go_simp)
      have HB := Lib.hid (below_chain (by (repeat (first | exact Below.refl _ _ | assumption | refine below_alloc ?_ _ | refine below_drewN ?_ _ | refine below_set ?_ _ (by simp; try omega) | refine Below.drew ?_)) : Below w.heap.size w _) hb)
      clear hb ho
      go_wp2_with (fail)
      refine (HTS.out _ HSZ.out (HM.out.z.below HB.out) (HT.out.below HB.out)).mono ?_
      rintro e w2 ⟨rfl, hb⟩
      have HB2 := Lib.hid (below_chain HB.out hb)
      clear hb
      go_wp2
      go_ret
      exact ⟨rfl, HB2.out⟩
    · rw [ht2] at HTS
      have e := HR2.out
      rw [ht2, Bool.true_and] at e
      subst e
      have HHL2 := Lib.hid (fun a d w' hv ht => HHL.out ht2 a d w' hv ht)
      clear HR2 ht2 HHL
      go_enter Try.func16, Try.ntmps16
      go_wp2_with (fail)
      refine (HF.out _ (HM.out.alloc _) (HV.out.alloc _)).mono ?_
      rintro e w1 ⟨A1, c1, rfl, ho, hb⟩
      have k0 : w1.cell? ⟨w.heap.size, 0, none⟩ = some (.slice az sn cz) := cell_later hb (by go_simp)
      have k1 : w1.cell? ⟨w.heap.size, 1, none⟩ = some (.slice ax tn cs) := cell_later hb (by go_simp)
      have k2 : w1.cell? ⟨w.heap.size, 2, none⟩ = some (.slice ar rn cr) := cell_later hb (by go_simp)
      have HB := Lib.hid (below_chain (by (repeat (first | exact Below.refl _ _ | assumption | refine below_alloc ?_ _ | refine below_drewN ?_ _ | refine below_set ?_ _ (by simp; try omega) | refine Below.drew ?_)) : Below w.heap.size w _) hb)
      have HO := Lib.hid (ho.rd HLL.out.symm)
      clear hb ho
      go_wp2_with (fail)
      refine (HTS.out _ HSZ.out (HM.out.z.below HB.out) (HT.out.below HB.out)).mono ?_
      rintro e w2 ⟨rfl, hb⟩
      have HB2 := Lib.hid (below_chain HB.out hb)
      obtain ⟨lb, lo, sa, sc, rfl, _, s0, hsv⟩ := (HO.out.below hb).at HAT.out
      rw [HSL.out] at s0
      have HSV := Lib.hid hsv
      have hq0 : (0 : Int) ≤ (ln : Int) := by omega
      have hq1 : (ln : Int) < (ln : Int) + 1 := by omega
      have hw1 : IntKind.i64.wrap ((ln : Int) + 1 - 1) = ln := by rw [Int.add_sub_cancel]; exact IntWalk.i64_in _ (by omega)
      have hw2 : IntKind.i64.wrap (((ln + 1 : Nat) : Int) - 1) = ln := by rw [show ((ln + 1 : Nat) : Int) - 1 = ln by omega]; exact IntWalk.i64_in _ (by omega)
      have hw3 : IntKind.i64.wrap (ln : Int) = ln := IntWalk.i64_in _ (by omega)
      clear hb hsv HO
      go_wp2_with (fail)
      refine (HHL2.out _ _ _ HSV.out (HT.out.below HB2.out)).mono ?_
      rintro e w3 ⟨rfl, hb⟩
      have HB3 := Lib.hid (below_chain HB2.out hb)
      clear hb
      go_wp2
      go_ret
      exact ⟨rfl, HB3.out⟩
  · have e := HR.out
    rw [decide_eq_false hc, Bool.false_and] at e
    subst e
    have hc1 : ftC m tr < 0 ∨ 0 < ftC m tr := by omega
    clear HR HTS hc h hv ht hok
    generalize ftC m tr = C at *
    generalize ftL m tr = L at *
    dsimp only [mv] at *
    generalize m.sz.length = sn at *
    generalize m.st.length = tn at *
    generalize m.rs.length = rn at *
    generalize tr.length = ln at *
    generalize ts.length = mn at *
    have hc2 : (C == 0) = false := by simp; omega
    have hc3 : ¬ C = 0 := by omega
    have hc4 : decide (C = 0) = false := by simp; omega
    clear hc1
    go_enter Try.func16, Try.ntmps16
    go_wp2_with (fail)
    refine (HF.out _ (HM.out.alloc _) (HV.out.alloc _)).mono ?_
    rintro e w1 ⟨A1, c1, rfl, ho, hb⟩
    have HB := Lib.hid (below_chain (by (repeat (first | exact Below.refl _ _ | assumption | refine below_alloc ?_ _ | refine below_drewN ?_ _ | refine below_set ?_ _ (by simp; try omega) | refine Below.drew ?_)) : Below w.heap.size w _) hb)
    clear hb ho
    go_wp2
    go_ret
    exact ⟨rfl, HB.out⟩
end Go.Proofs.Ytaloheljfefdeaa
