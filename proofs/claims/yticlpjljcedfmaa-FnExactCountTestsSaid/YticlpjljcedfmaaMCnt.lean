/- CountTests, on both sides. Condition: the lengths are those that the laws let by. -/
import Derived.Test.YticlpjljcedfmaaMIsS
namespace Go.Proofs.Yticlpjljcedfmaa
open Go.RowKit

def sgS (l : List Rul) : Nat := (l.map fun r => r.gs.length).sum
def seS (l : List Rul) : Nat := (l.map fun r => r.es.length).sum
theorem sgS_snoc {l : List Rul} {k : Nat} {r : Rul} (h : l[k]? = some r) : sgS (l.take (k + 1)) = sgS (l.take k) + r.gs.length := by
  unfold sgS; rw [List.take_add_one, h]; simp
theorem seS_snoc {l : List Rul} {k : Nat} {r : Rul} (h : l[k]? = some r) : seS (l.take (k + 1)) = seS (l.take k) + r.es.length := by
  unfold seS; rw [List.take_add_one, h]; simp
def ctT (m : Mdl) : Int := if mdB m then (sgS m.rs : Int) else 0
def ctE (m : Mdl) : Int := if mdB m then (seS m.rs : Int) else 0
def ctC (m : Mdl) : Int := if mdB m then 0 else 1
/-- What CountTests hands back. -/
def RetCt (a b c : Int) (w : World) (e : Ending) (w' : World) : Prop := e = .returned (.tuple #[.int .i64 a, .int .i64 b, .int .i64 c]) ∧ Below w.heap.size w w'
theorem c_lengthT (A : Option Addr) (c n : Nat) (w : World) : Calls Try.prog 53 #[.slice A n c] w fun e w' => e = .returned (.int .i64 n) ∧ w = w' := by
  go_enter Try.func53, Try.ntmps53
  go_wp2
  go_ret
  exact ⟨rfl, rfl⟩
theorem c_lengthA (A : Option Addr) (c n : Nat) (w : World) : Calls Try.prog 54 #[.slice A n c] w fun e w' => e = .returned (.int .i64 n) ∧ w = w' := by
  go_enter Try.func54, Try.ntmps54
  go_wp2
  go_ret
  exact ⟨rfl, rfl⟩
set_option maxHeartbeats 1000000 in
set_option maxRecDepth 100000 in
theorem c_CountTests (m : Mdl) (az ax ar : Option Addr) (cz cs cr : Nat) (w : World) (hok : MOk m) (h : Md w az ax ar m) :
    Calls Try.prog 16 #[mv m az ax ar cz cs cr] w (RetCt (ctT m) (ctE m) (ctC m) w) := by
  have HI := Lib.hid (fun w' h => c_IsModel m az ax ar cz cs cr w' hok h)
  have HM := Lib.hid h
  have HR := Lib.hid h.r
  have hl3 := hok.1.2.2.1
  have HQ := Lib.hid hok.1.2.2.2
  rcases hmd : mdB m with _ | _
  · rw [hmd] at HI
    have e1 : ctT m = 0 := by unfold ctT; rw [hmd]; rfl
    have e2 : ctE m = 0 := by unfold ctE; rw [hmd]; rfl
    have e3 : ctC m = 1 := by unfold ctC; rw [hmd]; rfl
    rw [e1, e2, e3]
    clear h hmd e1 e2 e3
    dsimp only [mv] at *
    generalize m.sz.length = sn at *
    generalize m.st.length = tn at *
    generalize m.rs.length = rn at *
    go_enter Try.func16, Try.ntmps16
    go_wp2_with (fail)
    refine (HI.out _ (HM.out.alloc _)).mono ?_
    rintro e w1 ⟨rfl, hb⟩
    have HB := Lib.hid (below_chain (by (repeat (first | exact Below.refl _ _ | assumption | refine below_alloc ?_ _ | refine below_drewN ?_ _ | refine below_set ?_ _ (by simp; try omega) | refine Below.drew ?_)) : Below w.heap.size w _) hb)
    clear hb
    go_wp2
    go_ret3
    exact ⟨rfl, HB.out⟩
  · rw [hmd] at HI
    have e1 : ctT m = (sgS m.rs : Int) := by unfold ctT; rw [hmd]; rfl
    have e2 : ctE m = (seS m.rs : Int) := by unfold ctE; rw [hmd]; rfl
    have e3 : ctC m = 0 := by unfold ctC; rw [hmd]; rfl
    rw [e1, e2, e3]
    clear h hmd e1 e2 e3
    have hrn := Lib.hid (rfl : m.rs.length = m.rs.length)
    dsimp only [mv] at *
    generalize m.sz.length = sn at *
    generalize m.st.length = tn at *
    generalize hr0 : m.rs.length = rn at *
    have HRN := Lib.hid hr0
    clear hrn hr0
    generalize m.rs = rs at *
    go_enter Try.func16, Try.ntmps16
    go_wp2_with (fail)
    refine (HI.out _ (HM.out.alloc _)).mono ?_
    rintro e w1 ⟨rfl, hb⟩
    have k2 : w1.cell? ⟨w.heap.size, 2, none⟩ = some (.slice ar rn cr) := cell_later hb (by go_simp)
    have HB := Lib.hid (below_chain (by (repeat (first | exact Below.refl _ _ | assumption | refine below_alloc ?_ _ | refine below_drewN ?_ _ | refine below_set ?_ _ (by simp; try omega) | refine Below.drew ?_)) : Below w.heap.size w _) hb)
    clear hb HI HM
    go_wp2
    clear k2
    go_loopw [5, 6, 15] (fun t s i wr => ∃ k a b : Nat, k ≤ rn ∧ i = .int .i64 k ∧ t = .int .i64 a ∧ s = .int .i64 b ∧ a ≤ k * 1048576 ∧ b ≤ k * 1048576 ∧ Hid (a = sgS (rs.take k) ∧ b = seS (rs.take k)) ∧ Below w.heap.size w wr) (fun _ _ i _ => rn - (intOf i).toNat)
    case atStart => exact ⟨0, 0, 0, Nat.zero_le _, rfl, rfl, rfl, by omega, by omega, Lib.hid ⟨rfl, rfl⟩, HB.out⟩
    case round =>
      clear HB
      obtain ⟨k, a, b, hk, rfl, rfl, rfl, hab, hbb, ha, hb⟩ := hrel
      by_cases hlt : k < rn
      · obtain ⟨r, hz⟩ : ∃ z, rs[k]? = some z := ⟨_, List.getElem?_eq_getElem (by have := HRN.out; omega)⟩
        obtain ⟨bb, off, ag, cg, ae, ce, rfl, _, g0, g1, g2, _, _⟩ := (HR.out.below hb).at hz
        have hq := HQ.out r (List.mem_of_getElem? hz)
        have hg1 := hq.1
        have hg2 := hq.2
        have HS := Lib.hid (show a + r.gs.length = sgS (rs.take (k + 1)) ∧ b + r.es.length = seS (rs.take (k + 1)) by rw [sgS_snoc hz, seS_snoc hz, ha.out.1, ha.out.2]; exact ⟨rfl, rfl⟩)
        have HBE := Lib.hid hb
        clear hz hb hq ha
        generalize r.gs.length = gn at *
        generalize r.es.length = en at *
        go_wp2_with (first
          | (go_at_call 53
             refine (c_lengthT _ _ _ _).mono ?_
             rintro e w' ⟨rfl, rfl⟩)
          | (go_at_call 54
             refine (c_lengthA _ _ _ _).mono ?_
             rintro e w' ⟨rfl, rfl⟩)
          )
        go_roundw
        case rel => exact ⟨k + 1, a + gn, b + en, by omega, by go_num, by go_num, by go_num, by omega, by omega, HS, below_alloc HBE.out _⟩
        case measure => simp [intOf]; omega
      · obtain rfl : k = rn := by omega
        have hA := ha.out
        rw [List.take_of_length_le (by have := HRN.out; omega)] at hA
        have HA := Lib.hid hA
        have HBE := Lib.hid hb
        clear hA ha hb
        go_wp2
        go_ret3
        exact ⟨by rw [← HA.out.1, ← HA.out.2]; rfl, HBE.out⟩
set_option maxHeartbeats 1000000 in
set_option maxRecDepth 100000 in
theorem c_sCountTests (m : Mdl) (az ax ar : Option Addr) (cz cs cr : Nat) (w : World) (hok : MOk m) (h : Md w az ax ar m) :
    Calls Try.prog 15 #[mv m az ax ar cz cs cr] w (RetCt (ctT m) (ctE m) (ctC m) w) := by
  have HI := Lib.hid (fun w' h => c_sIsModel m az ax ar cz cs cr w' hok h)
  have HM := Lib.hid h
  have HR := Lib.hid h.r
  have hl3 := hok.1.2.2.1
  have HQ := Lib.hid hok.1.2.2.2
  rcases hmd : mdB m with _ | _
  · rw [hmd] at HI
    have e1 : ctT m = 0 := by unfold ctT; rw [hmd]; rfl
    have e2 : ctE m = 0 := by unfold ctE; rw [hmd]; rfl
    have e3 : ctC m = 1 := by unfold ctC; rw [hmd]; rfl
    rw [e1, e2, e3]
    clear h hmd e1 e2 e3
    dsimp only [mv] at *
    generalize m.sz.length = sn at *
    generalize m.st.length = tn at *
    generalize m.rs.length = rn at *
    go_enter Try.func15, Try.ntmps15
    go_wp2_with (fail)
    refine (HI.out _ (HM.out.alloc _)).mono ?_
    rintro e w1 ⟨rfl, hb⟩
    have HB := Lib.hid (below_chain (by (repeat (first | exact Below.refl _ _ | assumption | refine below_alloc ?_ _ | refine below_drewN ?_ _ | refine below_set ?_ _ (by simp; try omega) | refine Below.drew ?_)) : Below w.heap.size w _) hb)
    clear hb
    go_wp2
    go_ret3
    exact ⟨rfl, HB.out⟩
  · rw [hmd] at HI
    have e1 : ctT m = (sgS m.rs : Int) := by unfold ctT; rw [hmd]; rfl
    have e2 : ctE m = (seS m.rs : Int) := by unfold ctE; rw [hmd]; rfl
    have e3 : ctC m = 0 := by unfold ctC; rw [hmd]; rfl
    rw [e1, e2, e3]
    clear h hmd e1 e2 e3
    dsimp only [mv] at *
    generalize m.sz.length = sn at *
    generalize m.st.length = tn at *
    generalize hr0 : m.rs.length = rn at *
    have HRN := Lib.hid hr0
    clear hr0
    generalize m.rs = rs at *
    go_enter Try.func15, Try.ntmps15
    go_wp2_with (fail)
    refine (HI.out _ (HM.out.alloc _)).mono ?_
    rintro e w1 ⟨rfl, hb⟩
    have k2 : w1.cell? ⟨w.heap.size, 2, none⟩ = some (.slice ar rn cr) := cell_later hb (by go_simp)
    have HB := Lib.hid (below_chain (by (repeat (first | exact Below.refl _ _ | assumption | refine below_alloc ?_ _ | refine below_drewN ?_ _ | refine below_set ?_ _ (by simp; try omega) | refine Below.drew ?_)) : Below w.heap.size w _) hb)
    clear hb HI HM
    go_wp2
    have HR1 := Lib.hid (HR.out.below HB.out)
    go_loop [5, 6, 7] (fun t s i => ∃ k a b : Nat, k ≤ rn ∧ i = .int .i64 k ∧ t = .int .i64 a ∧ s = .int .i64 b ∧ a ≤ k * 1048576 ∧ b ≤ k * 1048576 ∧ Hid (a = sgS (rs.take k) ∧ b = seS (rs.take k))) (fun _ _ i => rn - (intOf i).toNat)
    case atStart => exact ⟨0, 0, 0, Nat.zero_le _, rfl, rfl, rfl, by omega, by omega, Lib.hid ⟨rfl, rfl⟩⟩
    case round =>
      obtain ⟨k, a, b, hk, rfl, rfl, rfl, hab, hbb, ha⟩ := hrel
      by_cases hlt : k < rn
      · obtain ⟨r, hz⟩ : ∃ z, rs[k]? = some z := ⟨_, List.getElem?_eq_getElem (by have := HRN.out; omega)⟩
        obtain ⟨bb, off, ag, cg, ae, ce, rfl, _, g0, g1, g2, _, _⟩ := HR1.out.at hz
        have hq := HQ.out r (List.mem_of_getElem? hz)
        have hg1 := hq.1
        have hg2 := hq.2
        have HS := Lib.hid (show a + r.gs.length = sgS (rs.take (k + 1)) ∧ b + r.es.length = seS (rs.take (k + 1)) by rw [sgS_snoc hz, seS_snoc hz, ha.out.1, ha.out.2]; exact ⟨rfl, rfl⟩)
        clear hz hq ha
        generalize r.gs.length = gn at *
        generalize r.es.length = en at *
        go_wp2
        go_round
        case rel => exact ⟨k + 1, a + gn, b + en, by omega, by go_num, by go_num, by go_num, by omega, by omega, HS⟩
        case measure => simp [intOf]; omega
      · obtain rfl : k = rn := by omega
        have hA := ha.out
        rw [List.take_of_length_le (by have := HRN.out; omega)] at hA
        have HA := Lib.hid hA
        clear hA ha
        go_wp2
        go_ret3
        exact ⟨by rw [← HA.out.1, ← HA.out.2]; rfl, HB.out⟩
end Go.Proofs.Yticlpjljcedfmaa
