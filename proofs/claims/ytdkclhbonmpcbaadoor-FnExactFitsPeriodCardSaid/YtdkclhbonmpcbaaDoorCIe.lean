/- IsCode on the program's side. Condition: the lists' sizes; the keywords lie there. -/
import Derived.Test.YtdkclhbonmpcbaaDoorCIh
namespace Go.Proofs.YtdkclhbonmpcbaaDoor
open Go.RowKit

theorem any_not {l : List Tm} : l.any (fun t => !blkB t) = !(l.all blkB) := by
  induction l with
  | nil => rfl
  | cons t l ih => simp only [List.any_cons, List.all_cons, ih, Bool.not_and]
set_option maxHeartbeats 2000000 in
set_option maxRecDepth 100000 in
theorem c_IsCode (c : Cd) (ab as_ : Option Addr) (cb cs : Nat) (w : World) (hs : CdOk c) (h : CdR w ab as_ c) (hk : Strs w 0 17) :
    Calls Tryd.prog 22 #[cv c ab as_ cb cs] w fun e w' => e = .returned (.bool (codeB c)) ∧ Below w.heap.size w w' := by
  have HS := Lib.hid hs
  have H := Lib.hid h
  have HK := Lib.hid hk
  have hl1 := hs.1.1
  have hl2 := hs.2
  clear hs h hk
  have HAB : Hid (Below w.heap.size w (w.alloc (.cells #[.int .i64 c.i, .int .i64 c.v, .int .i64 c.o, .slice ab c.bs.length cb, .slice as_ c.ss.length cs] 32))) := Lib.hid (below_alloc (Below.refl _ _) _)
  rcases q1 : inB c.i 0 20 with _ | _
  · have HV : Hid (codeB c = false) := Lib.hid (by unfold codeB headC; rw [q1]; rfl)
    rw [HV.out]
    go_enter Tryd.func22, Tryd.ntmps22
    dsimp only [cv]
    go_wp2_with (first
      | (go_at_call 23
         refine (c_within _ _ _ _).mono ?_
         rintro e w' ⟨rfl, rfl⟩)
      )
    go_ret
    exact ⟨rfl, HAB.out⟩
  rcases q2 : inB c.v 0 20 with _ | _
  · have HV : Hid (codeB c = false) := Lib.hid (by unfold codeB headC; rw [q1, q2]; rfl)
    rw [HV.out]
    go_enter Tryd.func22, Tryd.ntmps22
    dsimp only [cv]
    go_wp2_with (first
      | (go_at_call 23
         refine (c_within _ _ _ _).mono ?_
         rintro e w' ⟨rfl, rfl⟩)
      )
    go_ret
    exact ⟨rfl, HAB.out⟩
  rcases q3 : inB c.o 0 20 with _ | _
  · have HV : Hid (codeB c = false) := Lib.hid (by unfold codeB headC; rw [q1, q2, q3]; rfl)
    rw [HV.out]
    go_enter Tryd.func22, Tryd.ntmps22
    dsimp only [cv]
    go_wp2_with (first
      | (go_at_call 23
         refine (c_within _ _ _ _).mono ?_
         rintro e w' ⟨rfl, rfl⟩)
      )
    go_ret
    exact ⟨rfl, HAB.out⟩
  by_cases q4 : 2000 < c.bs.length
  · have HV : Hid (codeB c = false) := Lib.hid (by unfold codeB headC; rw [decide_eq_false (show ¬ c.bs.length ≤ 2000 by omega)]; simp)
    rw [HV.out]
    go_enter Tryd.func22, Tryd.ntmps22
    dsimp only [cv]
    go_wp2_with (first
      | (go_at_call 23
         refine (c_within _ _ _ _).mono ?_
         rintro e w' ⟨rfl, rfl⟩)
      )
    go_ret
    exact ⟨rfl, HAB.out⟩
  by_cases q5 : 2000 < c.ss.length
  · have HV : Hid (codeB c = false) := Lib.hid (by unfold codeB headC; rw [decide_eq_false (show ¬ c.ss.length ≤ 2000 by omega)]; simp)
    rw [HV.out]
    go_enter Tryd.func22, Tryd.ntmps22
    dsimp only [cv]
    go_wp2_with (first
      | (go_at_call 23
         refine (c_within _ _ _ _).mono ?_
         rintro e w' ⟨rfl, rfl⟩)
      )
    go_ret
    exact ⟨rfl, HAB.out⟩
  have hh : headC c = true := by
    unfold headC
    rw [q1, q2, q3, decide_eq_true (show c.bs.length ≤ 2000 by omega), decide_eq_true (show c.ss.length ≤ 2000 by omega)]
    rfl
  have HH := Lib.hid hh
  have HA : Hid (CB (w.alloc (.cells #[.int .i64 c.i, .int .i64 c.v, .int .i64 c.o, .slice ab c.bs.length cb, .slice as_ c.ss.length cs] 32)) w.heap.size c ab as_ cb cs) := Lib.hid ⟨by go_simp, by go_simp, by go_simp, by go_simp, by go_simp⟩
  clear hh
  go_enter Tryd.func22, Tryd.ntmps22
  dsimp only [cv]
  go_wp2_with (first
    | (go_at_call 23
       refine (c_within _ _ _ _).mono ?_
       rintro e w' ⟨rfl, rfl⟩)
    )
  generalize w.alloc (.cells #[.int .i64 c.i, .int .i64 c.v, .int .i64 c.o, .slice ab c.bs.length cb, .slice as_ c.ss.length cs] 32) = W at *
  clear q1 q2 q3
  have HCL : Hid (ClTm 38 (fun t => !blkB t) c.bs W) := Lib.hid (fun wr t ht hb => c_notBlock t wr (HS.out.1.2 t ht) ((HK.out.below HAB.out).below hb))
  have HAY := Lib.hid (any_not (l := c.bs))
  refine (c_ContainsTm 38 (fun t => !blkB t) ab cb c.bs _ hl1 (H.out.below HAB.out).b HCL (enter_of Tryd.func38 (by kernel_rfl) rfl)).mono ?_
  rw [HAY.out]
  rintro e w1 ⟨rfl, hb⟩
  have HA1 := Lib.hid (HA.out.below hb)
  have HB1 := Lib.hid (below_chain HAB.out hb)
  clear hb HA HAB HCL HAY
  obtain ⟨a0, a1, a2, a3, a4⟩ := HA1.out
  rcases hall : c.bs.all blkB with _ | _
  · have HV : Hid (codeB c = false) := Lib.hid (by unfold codeB; rw [hall]; simp)
    go_wp2_with (fail)
    go_ret
    exact ⟨ret_bool HV.out.symm, HB1.out⟩
  · have HV : Hid (hgtB c = codeB c) := Lib.hid (by unfold codeB; rw [HH.out, hall]; simp)
    go_wp2_with (fail)
    refine (c_heights c ab as_ cb cs _ (head_Hd HH.out) (H.out.below HB1.out)).mono ?_
    rintro e w2 ⟨A, n, cc, rfl, hb2⟩
    have HB2 := Lib.hid (below_chain HB1.out hb2)
    clear hb2
    go_wp2_with (fail)
    go_ret
    exact ⟨ret_bool HV.out, HB2.out⟩
end Go.Proofs.YtdkclhbonmpcbaaDoor
