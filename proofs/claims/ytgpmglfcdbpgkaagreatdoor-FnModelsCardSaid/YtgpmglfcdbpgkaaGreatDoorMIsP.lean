/- IsModel (program). Condition: the lengths are those that the laws let by. -/
import Derived.Test.YtgpmglfcdbpgkaaGreatDoorMRlP
import Derived.Test.YtgpmglfcdbpgkaaGreatDoorMTo
namespace Go.Proofs.YtgpmglfcdbpgkaaGreatDoor
open Go.RowKit

def szB (sz : List Int) : Bool := !(sz.any fun z => !inB z 1 32)
def rsB (sz : List Int) (rs : List Rul) : Bool := !(rs.any fun r => !rlB sz r)
def mdB (m : Mdl) : Bool := szB m.sz && (inB m.sz.length 1 16 && (stB m.sz m.st && (decide (m.rs.length ≤ 200) && rsB m.sz m.rs)))
def MOk (m : Mdl) : Prop := MdlOk m ∧ ∀ r ∈ m.rs, r.nm.size ≤ 9223372036854775807
theorem szB_ok {sz : List Int} (h : sz.any (fun z => !inB z 1 32) = false) : SzsOk sz := by
  intro z hz
  rw [List.any_eq_false] at h
  have := h z hz
  simpa [inB] using this
theorem c_IsModel1 (n : Int) (w : World) : Calls Tryz.prog 59 #[.int .i64 n] w fun e w' => e = .returned (.bool (!inB n 1 32)) ∧ Below w.heap.size w w' := by
  go_enter Tryz.func59, Tryz.ntmps59
  go_wp2_with (first
    | (go_at_call 45
       refine (c_within _ _ _ _).mono ?_
       rintro e w' ⟨rfl, rfl⟩)
    )
  go_ret
  exact ⟨rfl, by (repeat (first | exact Below.refl _ _ | assumption | refine below_alloc ?_ _ | refine below_drewN ?_ _ | refine below_set ?_ _ (by simp; try omega) | refine Below.drew ?_))⟩
set_option maxRecDepth 100000 in
theorem c_IsModel2 (m : Mdl) (az ax ar : Option Addr) (cz cs cr : Nat) (p : Nat) (r : Rul) (ag ae : Option Addr) (cg ce : Nat) (w : World) (hs : SzsOk m.sz) (hl : m.sz.length ≤ 1048576) (hlg : r.gs.length ≤ 1048576) (hle : r.es.length ≤ 1048576) (hnm : r.nm.size ≤ 9223372036854775807)
    (h : Rd w az (ints m.sz)) (hg : Rd w ag (tstCells r.gs)) (he : Rd w ae (asgCells r.es))
    (k0 : w.cell? ⟨p, 0, none⟩ = some (.slice az m.sz.length cz)) (k1 : w.cell? ⟨p, 1, none⟩ = some (.slice ax m.st.length cs)) (k2 : w.cell? ⟨p, 2, none⟩ = some (.slice ar m.rs.length cr)) :
    Calls Tryz.prog 62 #[.agg #[.string r.nm, .slice ag r.gs.length cg, .slice ae r.es.length ce], .pointer (some ⟨p, 0, none⟩)] w fun e w' => e = .returned (.bool (!rlB m.sz r)) ∧ Below w.heap.size w w' := by
  have HH := Lib.hid (fun (w : World) (h : Rd w az (ints m.sz)) hg he => c_isRule m az ax ar cz cs cr r ag ae cg ce w hs hl hlg hle hnm h hg he)
  generalize rlB m.sz r = R at HH ⊢
  obtain ⟨sz, st, rs⟩ := m
  dsimp only [mv] at *
  have H := Lib.hid h
  have HG := Lib.hid hg
  have HE := Lib.hid he
  clear h hg he hs hnm
  have hp := World.block_lt_of_cell? _ _ k0
  generalize sz.length = a at *
  generalize st.length = b at *
  generalize rs.length = c at *
  generalize r.gs.length = gn at *
  generalize r.es.length = en at *
  generalize r.nm = nm at *
  go_enter Tryz.func62, Tryz.ntmps62
  go_wp2_with (fail)
  refine (HH.out _ (H.out.alloc _) (HG.out.alloc _) (HE.out.alloc _)).mono ?_
  rintro e w1 ⟨rfl, hb⟩
  have B := below_chain (below_alloc (Below.refl _ _) _) hb
  clear hb
  go_wp2
  go_ret
  exact ⟨rfl, B⟩
set_option maxHeartbeats 1000000 in
set_option maxRecDepth 100000 in
theorem c_IsModel (m : Mdl) (az ax ar : Option Addr) (cz cs cr : Nat) (w : World) (hok : MOk m) (h : Md w az ax ar m) :
    Calls Tryz.prog 20 #[mv m az ax ar cz cs cr] w fun e w' => e = .returned (.bool (mdB m)) ∧ Below w.heap.size w w' := by
  have hmf : ∀ (fn : Fn) (first cap : Array Value) (w : World), (Instr.makeFunc fn first cap).run Tryz.prog w = .ok (.func fn first cap) w := fun _ _ _ _ => rfl
  have HC1 := Lib.hid (fun w' hv => c_ContainsInt0 59 (fun z => !inB z 1 32) az cz m.sz w' hok.1.1 hv (Lib.hid fun wr t _ _ => c_IsModel1 t wr) (enter_of Tryz.func59 (by kernel_rfl) rfl))
  have HST := Lib.hid (fun w' hs hz hv => c_isState m az ax ar cz cs cr ax cs m.st w' hs hok.1.1 hok.1.2.1 hz hv)
  have HC2 := Lib.hid (fun w' x hv hc => c_ContainsRule 62 x (fun r => !rlB m.sz r) ar cr m.rs w' hok.1.2.2.1 hv hc (enter_of Tryz.func62 (by kernel_rfl) rfl))
  have HCL := Lib.hid (fun (hs : SzsOk m.sz) (wr : World) (p : Nat) (r : Rul) (hr : r ∈ m.rs) (ag ae : Option Addr) (cg ce : Nat) h hg he k0 k1 k2 => c_IsModel2 m az ax ar cz cs cr p r ag ae cg ce wr hs hok.1.1 (hok.1.2.2.2 r hr).1 (hok.1.2.2.2 r hr).2 (hok.2 r hr) h hg he k0 k1 k2)
  have HB0 := Lib.hid (show mdB m = (!(m.sz.any fun z => !inB z 1 32) && (inB m.sz.length 1 16 && (stB m.sz m.st && (decide (m.rs.length ≤ 200) && !(m.rs.any fun r => !rlB m.sz r))))) from rfl)
  have HZ := Lib.hid h.z
  have HX := Lib.hid h.s
  have HR := Lib.hid h.r
  have HSZ := Lib.hid (fun h => szB_ok (sz := m.sz) h)
  generalize mdB m = R at HB0 ⊢
  have hl1 := hok.1.1
  have hl2 := hok.1.2.1
  have hl3 := hok.1.2.2.1
  clear h hok
  obtain ⟨sz, st, rs⟩ := m
  dsimp only [mv] at *
  generalize sz.length = sn at *
  generalize st.length = tn at *
  generalize rs.length = rn at *
  generalize (sz.any fun z => !inB z 1 32) = A1 at *
  generalize stB sz st = A3 at *
  generalize (rs.any fun r => !rlB sz r) = A5 at *
  rcases h1 : inB sn 1 16 with _ | _
  · have e := HB0.out
    rw [h1, Bool.false_and, Bool.and_false] at e
    subst e
    clear HB0 HC1 HST HC2 HCL HSZ
    go_enter Tryz.func20, Tryz.ntmps20
    go_wp2_with (first
      | (go_at_call 45
         refine (c_within _ _ _ _).mono ?_
         rintro e w' ⟨rfl, rfl⟩)
      | (go_at_call 57
         refine (c_length _ _ _ _).mono ?_
         rintro e w' ⟨rfl, rfl⟩)
      )
    go_ret
    exact ⟨rfl, by (repeat (first | exact Below.refl _ _ | assumption | refine below_alloc ?_ _ | refine below_drewN ?_ _ | refine below_set ?_ _ (by simp; try omega) | refine Below.drew ?_))⟩
  have e1 := HB0.out
  rw [h1, Bool.true_and] at e1
  have HB1 := Lib.hid e1
  clear HB0 e1
  rcases A1 with _ | _
  · have hs := HSZ.out rfl
    have e2 := HB1.out
    rw [Bool.not_false, Bool.true_and] at e2
    have HB2 := Lib.hid e2
    have HS := Lib.hid hs
    clear HB1 e2 HSZ hs
    rcases A3 with _ | _
    · have e := HB2.out
      rw [Bool.false_and] at e
      subst e
      go_enter Tryz.func20, Tryz.ntmps20
      go_wp2_with (first
        | (go_at_call 45
           refine (c_within _ _ _ _).mono ?_
           rintro e w' ⟨rfl, rfl⟩)
        | (go_at_call 57
           refine (c_length _ _ _ _).mono ?_
           rintro e w' ⟨rfl, rfl⟩)
        )
      refine (HC1.out _ (HZ.out.alloc _)).mono ?_
      rintro e w1 ⟨rfl, hb⟩
      have k0 : w1.cell? ⟨w.heap.size, 0, none⟩ = some (.slice az sn cz) := cell_later hb (by go_simp)
      have k1 : w1.cell? ⟨w.heap.size, 1, none⟩ = some (.slice ax tn cs) := cell_later hb (by go_simp)
      have k2 : w1.cell? ⟨w.heap.size, 2, none⟩ = some (.slice ar rn cr) := cell_later hb (by go_simp)
      have HB := Lib.hid (below_chain (by (repeat (first | exact Below.refl _ _ | assumption | refine below_alloc ?_ _ | refine below_drewN ?_ _ | refine below_set ?_ _ (by simp; try omega) | refine Below.drew ?_)) : Below w.heap.size w _) hb)
      clear hb
      go_wp2_with (fail)
      refine (HST.out _ HS.out (HZ.out.below HB.out) (HX.out.below HB.out)).mono ?_
      rintro e w2 ⟨rfl, hb⟩
      have HBB := Lib.hid (below_chain HB.out hb)
      clear hb
      go_wp2
      go_ret
      exact ⟨rfl, HBB.out⟩
    have e := HB2.out
    rw [Bool.true_and] at e
    have HB3 := Lib.hid e
    clear e HB2
    by_cases h4 : rn ≤ 200
    · have e := HB3.out
      rw [decide_eq_true h4, Bool.true_and] at e
      subst e
      clear HB3
      go_enter Tryz.func20, Tryz.ntmps20
      go_wp2_with (first
        | (go_at_call 45
           refine (c_within _ _ _ _).mono ?_
           rintro e w' ⟨rfl, rfl⟩)
        | (go_at_call 57
           refine (c_length _ _ _ _).mono ?_
           rintro e w' ⟨rfl, rfl⟩)
        )
      refine (HC1.out _ (HZ.out.alloc _)).mono ?_
      rintro e w1 ⟨rfl, hb⟩
      have k0 : w1.cell? ⟨w.heap.size, 0, none⟩ = some (.slice az sn cz) := cell_later hb (by go_simp)
      have k1 : w1.cell? ⟨w.heap.size, 1, none⟩ = some (.slice ax tn cs) := cell_later hb (by go_simp)
      have k2 : w1.cell? ⟨w.heap.size, 2, none⟩ = some (.slice ar rn cr) := cell_later hb (by go_simp)
      have HB := Lib.hid (below_chain (by (repeat (first | exact Below.refl _ _ | assumption | refine below_alloc ?_ _ | refine below_drewN ?_ _ | refine below_set ?_ _ (by simp; try omega) | refine Below.drew ?_)) : Below w.heap.size w _) hb)
      clear hb
      go_wp2_with (fail)
      refine (HST.out _ HS.out (HZ.out.below HB.out) (HX.out.below HB.out)).mono ?_
      rintro e w2 ⟨rfl, hb⟩
      have HBB := Lib.hid (below_chain HB.out hb)
      replace k0 := cell_later hb k0
      replace k1 := cell_later hb k1
      replace k2 := cell_later hb k2
      clear hb
      go_wp2_with (fail)
      have HK0 := Lib.hid k0
      have HK1 := Lib.hid k1
      have HK2 := Lib.hid k2
      refine (HC2.out _ _ (HR.out.below HBB.out) (Lib.hid fun wr t ag ae cg ce ht hb hg he => HCL.out HS.out wr _ t ht ag ae cg ce ((HZ.out.below HBB.out).below hb) hg he (cell_later hb HK0.out) (cell_later hb HK1.out) (cell_later hb HK2.out))).mono ?_
      rintro e w3 ⟨rfl, hb⟩
      have HB4 := Lib.hid (below_chain HBB.out hb)
      clear hb
      go_wp2
      go_ret
      exact ⟨ret_bool (by simp), HB4.out⟩
    · have e := HB3.out
      rw [decide_eq_false h4, Bool.false_and] at e
      subst e
      clear HB3
      go_enter Tryz.func20, Tryz.ntmps20
      go_wp2_with (first
        | (go_at_call 45
           refine (c_within _ _ _ _).mono ?_
           rintro e w' ⟨rfl, rfl⟩)
        | (go_at_call 57
           refine (c_length _ _ _ _).mono ?_
           rintro e w' ⟨rfl, rfl⟩)
        )
      refine (HC1.out _ (HZ.out.alloc _)).mono ?_
      rintro e w1 ⟨rfl, hb⟩
      have k0 : w1.cell? ⟨w.heap.size, 0, none⟩ = some (.slice az sn cz) := cell_later hb (by go_simp)
      have k1 : w1.cell? ⟨w.heap.size, 1, none⟩ = some (.slice ax tn cs) := cell_later hb (by go_simp)
      have k2 : w1.cell? ⟨w.heap.size, 2, none⟩ = some (.slice ar rn cr) := cell_later hb (by go_simp)
      have HB := Lib.hid (below_chain (by (repeat (first | exact Below.refl _ _ | assumption | refine below_alloc ?_ _ | refine below_drewN ?_ _ | refine below_set ?_ _ (by simp; try omega) | refine Below.drew ?_)) : Below w.heap.size w _) hb)
      clear hb
      go_wp2_with (fail)
      refine (HST.out _ HS.out (HZ.out.below HB.out) (HX.out.below HB.out)).mono ?_
      rintro e w2 ⟨rfl, hb⟩
      have HBB := Lib.hid (below_chain HB.out hb)
      replace k0 := cell_later hb k0
      replace k1 := cell_later hb k1
      replace k2 := cell_later hb k2
      clear hb
      go_wp2
      go_ret
      exact ⟨rfl, HBB.out⟩
  · have e := HB1.out
    rw [Bool.not_true, Bool.false_and] at e
    subst e
    clear HB1
    go_enter Tryz.func20, Tryz.ntmps20
    go_wp2_with (first
      | (go_at_call 45
         refine (c_within _ _ _ _).mono ?_
         rintro e w' ⟨rfl, rfl⟩)
      | (go_at_call 57
         refine (c_length _ _ _ _).mono ?_
         rintro e w' ⟨rfl, rfl⟩)
      )
    refine (HC1.out _ (HZ.out.alloc _)).mono ?_
    rintro e w1 ⟨rfl, hb⟩
    have HB := Lib.hid (below_chain (by (repeat (first | exact Below.refl _ _ | assumption | refine below_alloc ?_ _ | refine below_drewN ?_ _ | refine below_set ?_ _ (by simp; try omega) | refine Below.drew ?_)) : Below w.heap.size w _) hb)
    clear hb
    go_wp2
    go_ret
    exact ⟨rfl, HB.out⟩
end Go.Proofs.YtgpmglfcdbpgkaaGreatDoor
