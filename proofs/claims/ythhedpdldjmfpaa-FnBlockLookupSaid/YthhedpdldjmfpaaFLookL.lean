/- The walk of the law FnBlockLookup. -/
import Derived.Test.YthhedpdldjmfpaaFLook
import Derived.Test.YthhedpdldjmfpaaFLookP
namespace Go.Proofs.Ythhedpdldjmfpaa
open Go.RowKit

set_option maxHeartbeats 1000000 in
set_option maxRecDepth 100000 in
theorem law_FnBlockLookup (A : Option Addr) (c n : Nat) (w : World) (hb : Bytes w w.heap.size A n) :
    Calls Try.prog 14 #[.slice A n c] w fun e w' => e = .returned (.bool true) ∧ Below w.heap.size w w' := by
  rcases Nat.lt_or_ge 4096 n with hbig | hbig
  · have hd : decide (4096 < n) = true := by simp; omega
    go_enter Try.func14, Try.ntmps14
    go_wp2_with (first
      | (go_at_call 39
         refine (c_big _ _ _ _).mono ?_
         rintro e w' ⟨rfl, rfl⟩)
      )
    go_ret
    exact ⟨rfl, by (repeat (first | exact Below.refl _ _ | assumption | refine below_alloc ?_ _ | refine below_drewN ?_ _ | refine below_set ?_ _ (by simp; try omega) | refine Below.drew ?_))⟩
  have hd : decide (4096 < n) = false := by simp; omega
  go_enter Try.func14, Try.ntmps14
  go_wp2_with (first
    | (go_at_call 39
       refine (c_big _ _ _ _).mono ?_
       rintro e w' ⟨rfl, rfl⟩)
    )
  refine (c_DrawBlockAt A c n w hbig hb).mono ?_
  rintro e w1 ⟨A1, c1, l, A2, c2, fs, p, rfl, hl100, hf20, ho, hof, B⟩
  have lb := LB_ofk ho hof (by omega) (by omega)
  clear ho hof hb
  go_wp2_with (fail)
  have k0 : (w1.alloc (.cells #[.slice A1 l.length c1] 40)).cell? ⟨w1.heap.size, 0, none⟩ = some (.slice A1 l.length c1) := by go_simp
  replace lb := lb.alloc (.cells #[.slice A1 l.length c1] 40)
  replace B := below_alloc B (.cells #[.slice A1 l.length c1] 40)
  generalize w1.alloc (.cells #[.slice A1 l.length c1] 40) = W at k0 lb B ⊢
  generalize hn1 : l.length = n1 at *
  have HN1 := Lib.hid hn1.symm
  clear hn1
  generalize hn2 : fs.length = n2 at *
  have HN2 := Lib.hid hn2.symm
  clear hn2
  generalize w1.heap.size = b0 at *
  go_wp2_with (fail)
  refine (c_BlockAt c1 p lb).mono ?_
  rintro e w2 ⟨rfl, hb⟩
  have hstep : Below W.heap.size W w2 := below_chain (by (repeat (first | exact Below.refl _ _ | assumption | refine below_alloc ?_ _ | refine below_drewN ?_ _ | refine below_set ?_ _ (by simp; try omega) | refine Below.drew ?_))) hb
  replace lb := lb.below hstep
  replace k0 := cell_later hstep k0
  replace B := below_chain B hstep
  clear hb hstep
  go_wp2_with (fail)
  refine (c_sBlockAt c1 p lb).mono ?_
  rintro e w3 ⟨rfl, hb⟩
  have hstep : Below w2.heap.size w2 w3 := below_chain (by (repeat (first | exact Below.refl _ _ | assumption | refine below_alloc ?_ _ | refine below_drewN ?_ _ | refine below_set ?_ _ (by simp; try omega) | refine Below.drew ?_))) hb
  replace lb := lb.below hstep
  replace k0 := cell_later hstep k0
  replace B := below_chain B hstep
  clear hb hstep
  have HA1 := Lib.hid (fun (w : World) (h : LB w A1 n1 l A2 c2 n2 fs) => k_AreBlocks c1 h)
  have HA2 := Lib.hid (fun (w : World) (h : LB w A1 n1 l A2 c2 n2 fs) => k_sAreBlocks c1 h)
  have HPC := Lib.hid (fun (h : posCode l fs p = 0) => look_facts h)
  have HST := Lib.hid (fun (w : World) (h : LB w A1 n1 l A2 c2 n2 fs) (q : Int) => c_BlockStart c1 q h)
  have HLE := Lib.hid (fun (w : World) (h : LB w A1 n1 l A2 c2 n2 fs) (q : Int) => c_BlockLength c1 q h)
  have HBS := Lib.hid (fun (w : World) (h : LB w A1 n1 l A2 c2 n2 fs) (q : Int) => c_BlockOfSegment c1 q h)
  generalize hok9 : (layB l && blkB l fs) = ok9 at HA1 HA2
  generalize hpc : posCode l fs p = pc at HPC ⊢
  generalize hpb : posBlk l fs p = pb at HPC ⊢
  have HLB := Lib.hid lb
  have HB := Lib.hid B
  have hd1 : (pc != pc) = false := by simp
  have hd2 : (pb != pb) = false := by simp
  have hd3 : (ok9 != ok9) = false := by simp
  clear hok9 hpc hpb
  go_wp2_with (fail)
  go_region_held3 (fun w' => w'.cell? ⟨b0, 0, none⟩ = some (.slice A1 n1 c1)) (first | exact k0 | exact k4 | exact k5)
    (first
      | (go_at_call 29
         refine (HA1.out _ (by exact HLB.out.drew)).mono ?_
         rintro e w4 ⟨rfl, hb⟩
         have k4 := cell_later hb (by exact k0)
         have HLB4 := Lib.hid (LB.below (by exact HLB.out.drew) hb)
         have HB4 := Lib.hid (below_chain (by exact HB.out.drew) hb)
         clear hb)
      | (go_at_call 26
         refine (HA2.out _ HLB4.out).mono ?_
         rintro e w5 ⟨rfl, hb⟩
         have k5 := cell_later hb (by exact k4)
         have HLB5 := Lib.hid (HLB4.out.below hb)
         have HB5 := Lib.hid (below_chain HB4.out hb)
         clear hb))
  clear k0 k4 lb B HLB HB HLB4 HB4 HA1 HA2
  rcases Decidable.em (pc = 0) with hp | hp
  · obtain ⟨k, q, P1, P2, L⟩ := HPC.out hp
    have H1 := fun w h => HST.out w h q
    have H2 := fun w h => HLE.out w h q
    have H3 := fun w h => HBS.out w h k
    rw [L.st, L.cd] at H1
    rw [L.ln, L.cd] at H2
    rw [L.sb, L.sc] at H3
    have G1 := Lib.hid H1
    have G2 := Lib.hid H2
    have G3 := Lib.hid H3
    have h0 := L.p0
    have h1 := L.p1
    have hlo := L.lo
    have hhi := L.hi
    have hb0 := L.b0
    have hb1 := L.b1
    have hlay := okB_lay L.ok
    have HSA := Lib.hid (fun (w : World) (h : LB w A1 n1 l A2 c2 n2 fs) => c_SegmentAt A1 c1 n1 l p w h.hn h.hs h.hr hlay h0 h1)
    rw [← L.ek] at HSA
    have heq := L.eq
    clear H1 H2 H3 HST HLE HBS HPC L h1
    subst heq
    subst hp
    have lb := HLB5.out
    have B := HB5.out
    clear HLB5 HB5
    have hs1 : decide (P1 ≤ p) = true := by simp [hlo]
    have hs2 : decide (p < P1 + (P2 - P1)) = true := by simp; omega
    go_wp2_with (fail)
    refine (HSA.out _ lb).mono ?_
    rintro e w6 ⟨rfl, hb⟩
    have hstep : Below w5.heap.size w5 w6 := below_chain (by (repeat (first | exact Below.refl _ _ | assumption | refine below_alloc ?_ _ | refine below_drewN ?_ _ | refine below_set ?_ _ (by simp; try omega) | refine Below.drew ?_))) hb
    replace lb := lb.below hstep
    replace k5 := cell_later hstep k5
    replace B := below_chain B hstep
    clear hb hstep
    go_wp2_with (fail)
    refine (G3.out _ lb).mono ?_
    rintro e w7 ⟨rfl, hb⟩
    have hstep : Below w6.heap.size w6 w7 := below_chain (by (repeat (first | exact Below.refl _ _ | assumption | refine below_alloc ?_ _ | refine below_drewN ?_ _ | refine below_set ?_ _ (by simp; try omega) | refine Below.drew ?_))) hb
    replace lb := lb.below hstep
    replace k5 := cell_later hstep k5
    replace B := below_chain B hstep
    clear hb hstep
    go_wp2_with (fail)
    refine (G1.out _ lb).mono ?_
    rintro e w8 ⟨rfl, hb⟩
    have hstep : Below w7.heap.size w7 w8 := below_chain (by (repeat (first | exact Below.refl _ _ | assumption | refine below_alloc ?_ _ | refine below_drewN ?_ _ | refine below_set ?_ _ (by simp; try omega) | refine Below.drew ?_))) hb
    replace lb := lb.below hstep
    replace k5 := cell_later hstep k5
    replace B := below_chain B hstep
    clear hb hstep
    go_wp2_with (fail)
    refine (G2.out _ lb).mono ?_
    rintro e w9 ⟨rfl, hb⟩
    have hstep : Below w8.heap.size w8 w9 := below_chain (by (repeat (first | exact Below.refl _ _ | assumption | refine below_alloc ?_ _ | refine below_drewN ?_ _ | refine below_set ?_ _ (by simp; try omega) | refine Below.drew ?_))) hb
    replace lb := lb.below hstep
    replace k5 := cell_later hstep k5
    replace B := below_chain B hstep
    clear hb hstep
    go_wp2_with (fail)
    go_ret
    refine ⟨ret_bool ?_, B⟩
    simp
  · have hc2 : (pc != 0) = true := by simp [hp]
    clear hp
    go_wp2_with (fail)
    go_ret
    exact ⟨rfl, HB5.out⟩
end Go.Proofs.Ythhedpdldjmfpaa
