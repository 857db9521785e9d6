/- The reference's ScanTime and FitsPeriod. Condition: the lists' sizes. Printed by CTg.py. -/
import Derived.Test.YtdkclhbonmpcbaaDoorCTf
namespace Go.Proofs.YtdkclhbonmpcbaaDoor
open Go.RowKit

def scanC (c : Cd) : Int := if codeB c then 0 else 1
def scanV (c : Cd) : Int := if codeB c then sumK c c.ss.length else 0
def fitsC (c : Cd) (p : Int) : Int := if codeB c then (if inB p 1 1000000 then 0 else 2) else 1
def fitsV (c : Cd) (p : Int) : Bool := if fitsC c p = 0 then decide (sumK c c.ss.length ≤ p) else false
set_option maxHeartbeats 2000000 in
set_option maxRecDepth 100000 in
theorem c_sScanTime (c : Cd) (ab as_ : Option Addr) (cb cs : Nat) (w : World) (hs : CdOk c) (h : CdR w ab as_ c) :
    Calls Tryd.prog 11 #[cv c ab as_ cb cs] w (Ret2 (scanV c) (scanC c) w) := by
  have HS := Lib.hid hs
  have HC := Lib.hid h
  have hl2 := hs.2
  have HAB : Hid (Below w.heap.size w (w.alloc (.cells #[.int .i64 c.i, .int .i64 c.v, .int .i64 c.o, .slice ab c.bs.length cb, .slice as_ c.ss.length cs] 32))) := Lib.hid (below_alloc (Below.refl _ _) _)
  have HA : Hid (CB (w.alloc (.cells #[.int .i64 c.i, .int .i64 c.v, .int .i64 c.o, .slice ab c.bs.length cb, .slice as_ c.ss.length cs] 32)) w.heap.size c ab as_ cb cs) := Lib.hid ⟨by go_simp, by go_simp, by go_simp, by go_simp, by go_simp⟩
  clear hs h
  go_enter Tryd.func11, Tryd.ntmps11
  dsimp only [cv]
  go_upto_region 1 with (fail)
  generalize w.alloc (.cells #[.int .i64 c.i, .int .i64 c.v, .int .i64 c.o, .slice ab c.bs.length cb, .slice as_ c.ss.length cs] 32) = W at *
  obtain ⟨a0, a1, a2, a3, a4⟩ := HA.out
  go_wp2_with (fail)
  refine (c_sIsCode c ab as_ cb cs _ HS.out (HC.out.below HAB.out)).mono ?_
  rintro e w1 ⟨rfl, hb⟩
  have HB1 := Lib.hid (below_chain HAB.out hb)
  have HA1 := Lib.hid (HA.out.below hb)
  clear hb HA HAB a0 a1 a2 a3 a4
  obtain ⟨a0, a1, a2, a3, a4⟩ := HA1.out
  rcases hc : codeB c with _ | _
  · have HV : Hid (scanC c = 1 ∧ scanV c = 0) := Lib.hid (by unfold scanV scanC; rw [hc]; exact ⟨rfl, rfl⟩)
    go_wp2_with (fail)
    refine bodyPost_ret (v := .tuple #[.int .i64 0, .int .i64 1]) (by simp [results, Tryd.results11, go_sem]) rfl (by rw [HV.out.1, HV.out.2]; exact ⟨rfl, HB1.out⟩)
  obtain ⟨hd, hbl, hft⟩ := code_parts hc
  have HD := Lib.hid hd
  have HBL := Lib.hid hbl
  have HFT := Lib.hid hft
  have HCC := Lib.hid hc
  clear hd hbl hft hc
  have HV : Hid (scanC c = 0 ∧ scanV c = sumK c c.ss.length) := Lib.hid (by unfold scanV scanC; rw [HCC.out]; exact ⟨rfl, rfl⟩)
  go_wp2_with (fail)
  refine (c_l19Scan c ab as_ cb cs _ HD.out HBL.out HFT.out (HC.out.below HB1.out)).mono ?_
  rintro e w2 ⟨rfl, hb⟩
  have HB2 := Lib.hid (below_chain HB1.out hb)
  clear hb a0 a1 a2 a3 a4
  go_wp2_with (fail)
  refine bodyPost_ret (v := .tuple #[.int .i64 (sumK c c.ss.length), .int .i64 0]) (by simp [results, Tryd.results11, go_sem]) rfl (by rw [HV.out.1, HV.out.2]; exact ⟨rfl, HB2.out⟩)
set_option maxRecDepth 100000 in
theorem c_l19Period (p : Int) (w : World) : Calls Tryd.prog 30 #[.int .i64 p] w fun e w' => e = .returned (.bool (inB p 1 1000000)) ∧ w = w' := by
  go_enter Tryd.func30, Tryd.ntmps30
  go_wp2_with (fail)
  refine (c_l01In _ _ _ _).mono ?_
  rintro e w1 ⟨rfl, rfl⟩
  go_wp2_with (fail)
  go_ret
  exact ⟨rfl, rfl⟩
def RetBC (b : Bool) (y : Int) (w : World) (e : Ending) (w' : World) : Prop := e = .returned (.tuple #[.bool b, .int .i64 y]) ∧ Below w.heap.size w w'
set_option maxHeartbeats 2000000 in
set_option maxRecDepth 100000 in
theorem c_sFitsPeriod (c : Cd) (ab as_ : Option Addr) (cb cs : Nat) (p : Int) (w : World) (hs : CdOk c) (h : CdR w ab as_ c) :
    Calls Tryd.prog 13 #[cv c ab as_ cb cs, .int .i64 p] w (RetBC (fitsV c p) (fitsC c p) w) := by
  have HS := Lib.hid hs
  have HC := Lib.hid h
  have hl2 := hs.2
  have HAB : Hid (Below w.heap.size w (w.alloc (.cells #[.int .i64 c.i, .int .i64 c.v, .int .i64 c.o, .slice ab c.bs.length cb, .slice as_ c.ss.length cs] 32))) := Lib.hid (below_alloc (Below.refl _ _) _)
  have HA : Hid (CB (w.alloc (.cells #[.int .i64 c.i, .int .i64 c.v, .int .i64 c.o, .slice ab c.bs.length cb, .slice as_ c.ss.length cs] 32)) w.heap.size c ab as_ cb cs) := Lib.hid ⟨by go_simp, by go_simp, by go_simp, by go_simp, by go_simp⟩
  clear hs h
  go_enter Tryd.func13, Tryd.ntmps13
  dsimp only [cv]
  go_upto_region 1 with (fail)
  generalize w.alloc (.cells #[.int .i64 c.i, .int .i64 c.v, .int .i64 c.o, .slice ab c.bs.length cb, .slice as_ c.ss.length cs] 32) = W at *
  obtain ⟨a0, a1, a2, a3, a4⟩ := HA.out
  go_wp2_with (fail)
  refine (c_sIsCode c ab as_ cb cs _ HS.out (HC.out.below HAB.out)).mono ?_
  rintro e w1 ⟨rfl, hb⟩
  have HB1 := Lib.hid (below_chain HAB.out hb)
  have HA1 := Lib.hid (HA.out.below hb)
  clear hb HA HAB a0 a1 a2 a3 a4
  obtain ⟨a0, a1, a2, a3, a4⟩ := HA1.out
  rcases hc : codeB c with _ | _
  · have HV : Hid (fitsC c p = 1 ∧ fitsV c p = false) := Lib.hid (by unfold fitsV fitsC; rw [hc]; exact ⟨rfl, rfl⟩)
    go_wp2_with (fail)
    refine bodyPost_ret (v := .tuple #[.bool false, .int .i64 1]) (by simp [results, Tryd.results13, go_sem]) rfl (by rw [HV.out.1, HV.out.2]; exact ⟨rfl, HB1.out⟩)
  obtain ⟨hd, hbl, hft⟩ := code_parts hc
  have HD := Lib.hid hd
  have HBL := Lib.hid hbl
  have HFT := Lib.hid hft
  have HCC := Lib.hid hc
  clear hd hbl hft hc
  rcases hi : inB p 1 1000000 with _ | _
  · have HV : Hid (fitsC c p = 2 ∧ fitsV c p = false) := Lib.hid (by unfold fitsV fitsC; rw [HCC.out, hi]; exact ⟨rfl, rfl⟩)
    go_wp2_with (first
      | (go_at_call 30
         refine (c_l19Period _ _).mono ?_
         rintro e w' ⟨rfl, rfl⟩)
      )
    refine bodyPost_ret (v := .tuple #[.bool false, .int .i64 2]) (by simp [results, Tryd.results13, go_sem]) rfl (by rw [HV.out.1, HV.out.2]; exact ⟨rfl, HB1.out⟩)
  have HV : Hid (fitsC c p = 0 ∧ fitsV c p = decide (sumK c c.ss.length ≤ p)) := Lib.hid (by
    have h0 : fitsC c p = 0 := by unfold fitsC; rw [HCC.out, hi]; rfl
    exact ⟨h0, by unfold fitsV; rw [if_pos h0]⟩)
  go_wp2_with (first
    | (go_at_call 30
       refine (c_l19Period _ _).mono ?_
       rintro e w' ⟨rfl, rfl⟩)
    )
  refine (c_l19Scan c ab as_ cb cs _ HD.out HBL.out HFT.out (HC.out.below HB1.out)).mono ?_
  rintro e w2 ⟨rfl, hb⟩
  have HB2 := Lib.hid (below_chain HB1.out hb)
  clear hb a0 a1 a2 a3 a4
  go_wp2_with (fail)
  refine bodyPost_ret (v := .tuple #[.bool (decide (sumK c c.ss.length ≤ p)), .int .i64 0]) (by simp [results, Tryd.results13, go_sem]) rfl (by rw [HV.out.1, HV.out.2]; exact ⟨rfl, HB2.out⟩)
end Go.Proofs.YtdkclhbonmpcbaaDoor
