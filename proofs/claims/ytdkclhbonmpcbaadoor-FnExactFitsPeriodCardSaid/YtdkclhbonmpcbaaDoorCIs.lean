/- The reference's IsCode. Condition: the lists' sizes. -/
import Derived.Test.YtdkclhbonmpcbaaDoorCHt
namespace Go.Proofs.YtdkclhbonmpcbaaDoor
open Go.RowKit

def headC (c : Cd) : Bool := inB c.i 0 20 && inB c.v 0 20 && inB c.o 0 20 && decide (c.bs.length ≤ 2000) && decide (c.ss.length ≤ 2000)
def codeB (c : Cd) : Bool := headC c && c.bs.all blkB && hgtB c
theorem head_Hd {c : Cd} (h : headC c = true) : Hd c := by
  unfold headC inB at h
  simp only [Bool.and_eq_true, decide_eq_true_eq] at h
  obtain ⟨⟨⟨⟨h1, h2⟩, h3⟩, h4⟩, h5⟩ := h
  exact ⟨h1.1, h1.2, h2.1, h2.2, h3.1, h3.2, h4, h5⟩
set_option maxHeartbeats 2000000 in
set_option maxRecDepth 100000 in
theorem c_sIsCode (c : Cd) (ab as_ : Option Addr) (cb cs : Nat) (w : World) (hs : CdOk c) (h : CdR w ab as_ c) :
    Calls Tryd.prog 17 #[cv c ab as_ cb cs] w fun e w' => e = .returned (.bool (codeB c)) ∧ Below w.heap.size w w' := by
  have HS := Lib.hid hs
  have H := Lib.hid h
  have hl1 := hs.1.1
  have hl2 := hs.2
  clear hs h
  have HAB : Hid (Below w.heap.size w (w.alloc (.cells #[.int .i64 c.i, .int .i64 c.v, .int .i64 c.o, .slice ab c.bs.length cb, .slice as_ c.ss.length cs] 32))) := Lib.hid (below_alloc (Below.refl _ _) _)
  rcases q1 : inB c.i 0 20 with _ | _
  · have HV : Hid (codeB c = false) := Lib.hid (by unfold codeB headC; rw [q1]; rfl)
    rw [HV.out]
    go_enter Tryd.func17, Tryd.ntmps17
    dsimp only [cv]
    go_wp2_with (first
      | (go_at_call 18
         refine (c_l01In _ _ _ _).mono ?_
         rintro e w' ⟨rfl, rfl⟩)
      )
    go_ret
    exact ⟨rfl, HAB.out⟩
  rcases q2 : inB c.v 0 20 with _ | _
  · have HV : Hid (codeB c = false) := Lib.hid (by unfold codeB headC; rw [q1, q2]; rfl)
    rw [HV.out]
    go_enter Tryd.func17, Tryd.ntmps17
    dsimp only [cv]
    go_wp2_with (first
      | (go_at_call 18
         refine (c_l01In _ _ _ _).mono ?_
         rintro e w' ⟨rfl, rfl⟩)
      )
    go_ret
    exact ⟨rfl, HAB.out⟩
  rcases q3 : inB c.o 0 20 with _ | _
  · have HV : Hid (codeB c = false) := Lib.hid (by unfold codeB headC; rw [q1, q2, q3]; rfl)
    rw [HV.out]
    go_enter Tryd.func17, Tryd.ntmps17
    dsimp only [cv]
    go_wp2_with (first
      | (go_at_call 18
         refine (c_l01In _ _ _ _).mono ?_
         rintro e w' ⟨rfl, rfl⟩)
      )
    go_ret
    exact ⟨rfl, HAB.out⟩
  by_cases q4 : 2000 < c.bs.length
  · have HV : Hid (codeB c = false) := Lib.hid (by unfold codeB headC; rw [decide_eq_false (show ¬ c.bs.length ≤ 2000 by omega)]; simp)
    rw [HV.out]
    go_enter Tryd.func17, Tryd.ntmps17
    dsimp only [cv]
    go_wp2_with (first
      | (go_at_call 18
         refine (c_l01In _ _ _ _).mono ?_
         rintro e w' ⟨rfl, rfl⟩)
      )
    go_ret
    exact ⟨rfl, HAB.out⟩
  by_cases q5 : 2000 < c.ss.length
  · have HV : Hid (codeB c = false) := Lib.hid (by unfold codeB headC; rw [decide_eq_false (show ¬ c.ss.length ≤ 2000 by omega)]; simp)
    rw [HV.out]
    go_enter Tryd.func17, Tryd.ntmps17
    dsimp only [cv]
    go_wp2_with (first
      | (go_at_call 18
         refine (c_l01In _ _ _ _).mono ?_
         rintro e w' ⟨rfl, rfl⟩)
      )
    go_ret
    exact ⟨rfl, HAB.out⟩
  have hh : headC c = true := by
    unfold headC
    rw [q1, q2, q3, decide_eq_true (show c.bs.length ≤ 2000 by omega), decide_eq_true (show c.ss.length ≤ 2000 by omega)]
    rfl
  have HH := Lib.hid hh
  have HA : Hid (CB (w.alloc (.cells #[.int .i64 c.i, .int .i64 c.v, .int .i64 c.o, .slice ab c.bs.length cb, .slice as_ c.ss.length cs] 32)) w.heap.size c ab as_ cb cs) := Lib.hid ⟨by go_simp, by go_simp, by go_simp, by go_simp, by go_simp⟩
  clear hh
  go_enter Tryd.func17, Tryd.ntmps17
  dsimp only [cv]
  go_wp2_with (first
    | (go_at_call 18
       refine (c_l01In _ _ _ _).mono ?_
       rintro e w' ⟨rfl, rfl⟩)
    )
  generalize w.alloc (.cells #[.int .i64 c.i, .int .i64 c.v, .int .i64 c.o, .slice ab c.bs.length cb, .slice as_ c.ss.length cs] 32) = W at *
  clear q1 q2 q3
  go_loopw [3] (fun i wr => ∃ k : Nat, k ≤ c.bs.length ∧ i = .int .i64 k ∧ Hid (∀ t ∈ c.bs.take k, blkB t = true) ∧ Hid (Below w.heap.size w wr) ∧ Hid (CB wr w.heap.size c ab as_ cb cs)) (fun i _ => c.bs.length - (intOf i).toNat)
  case atStart => exact ⟨0, Nat.zero_le _, rfl, Lib.hid (fun t h => by simp at h), HAB, HA⟩
  case round =>
    obtain ⟨k, hk, rfl, hall, hb, ha⟩ := hrel
    clear HAB HA
    obtain ⟨a0, a1, a2, a3, a4⟩ := ha.out
    by_cases hlt : k < c.bs.length
    · obtain ⟨t, ht⟩ : ∃ t, c.bs[k]? = some t := ⟨_, List.getElem?_eq_getElem hlt⟩
      obtain ⟨b1, o1, rfl, _, g0, g1, g2⟩ := (H.out.below hb.out).b.tm ht
      have HT := Lib.hid ht
      have hnm := HS.out.1.2 t (List.mem_of_getElem? ht)
      have hk0 : (0 : Int) ≤ (k : Int) := by omega
      have hk1 : (k : Int) < c.bs.length := by omega
      clear ht
      go_wp2_with (fail)
      refine (c_sIsBlock t _ hnm).mono ?_
      rintro e w2 ⟨rfl, hb2⟩
      have HA2 := Lib.hid (ha.out.below hb2)
      have HB2 := Lib.hid (below_chain hb.out hb2)
      clear hb2 ha hb a0 a1 a2 a3 a4 g0 g1 g2
      rcases hbl : blkB t with _ | _
      · have HV : Hid (codeB c = false) := Lib.hid (by
          unfold codeB
          have hm := List.mem_of_getElem? HT.out
          have : c.bs.all blkB = false := by
            rw [← Bool.not_eq_true, List.all_eq_true]
            intro h
            rw [h t hm] at hbl
            cases hbl
          rw [this]; simp)
        go_wp2_with (fail)
        go_ret
        exact ⟨ret_bool HV.out.symm, HB2.out⟩
      · have HAL : Hid (∀ t ∈ c.bs.take (k + 1), blkB t = true) := Lib.hid (by
          intro t' h
          rw [List.take_add_one, HT.out, List.mem_append] at h
          rcases h with h | h
          · exact hall.out t' h
          · simp at h
            subst h
            exact hbl)
        clear hbl
        go_wp2_with (fail)
        go_roundw
        case rel => exact ⟨k + 1, by omega, by go_num, HAL, HB2, HA2⟩
        case measure => simp [intOf]; omega
    · obtain rfl : k = c.bs.length := by omega
      have HV : Hid (hgtB c = codeB c) := Lib.hid (by
        unfold codeB
        have : c.bs.all blkB = true := by
          rw [List.all_eq_true]
          intro t ht
          have := hall.out t
          rw [List.take_length] at this
          exact this ht
        rw [HH.out, this]; simp)
      go_wp2_with (fail)
      refine (c_l17Heights c ab as_ cb cs _ (head_Hd HH.out) (H.out.below hb.out)).mono ?_
      rintro e w2 ⟨A, n, cc, rfl, hb2⟩
      have HB2 := Lib.hid (below_chain hb.out hb2)
      clear hb2
      go_wp2_with (fail)
      go_ret
      exact ⟨ret_bool HV.out, HB2.out⟩
end Go.Proofs.YtdkclhbonmpcbaaDoor
