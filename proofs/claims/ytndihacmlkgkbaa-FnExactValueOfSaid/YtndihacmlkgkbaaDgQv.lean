/- Contracts of ValueOf, the program's and the reference's. Condition: the sizes. -/
import Derived.Test.YtndihacmlkgkbaaDgQ
namespace Go.Proofs.Ytndihacmlkgkbaa
open Go.RowKit

def valC (X : Int) (l : List Nd) (R : Int) (bs : List Int) : Int := if isD X l R then (if bitsB bs X then 0 else 2) else 1
def valV (X : Int) (l : List Nd) (R : Int) (bs : List Int) : Int := if isD X l R then (if bitsB bs X then (valR l bs R.toNat : Nat) else 0) else 0
theorem bits_len {bs : List Int} {X : Int} (h : bitsB bs X = true) : (bs.length : Int) = X := by
  unfold bitsB at h
  simp only [Bool.and_eq_true, decide_eq_true_eq] at h
  exact h.1
set_option maxHeartbeats 1000000 in
set_option maxRecDepth 100000 in
theorem c_sValueOf (X R : Int) (A : Option Addr) (c n : Nat) (l : List Nd) (A' : Option Addr) (c' n' : Nat) (bs : List Int) (w : World) (hn : n = l.length) (hs : n ≤ 1099511627000) (hr : Rd w A (ndCells l)) (hn' : n' = bs.length) (hs' : n' ≤ 1048576) (hr' : Rd w A' (ints bs)) :
    Calls Try.prog 27 #[.agg #[.int .i64 X, .slice A n c, .int .i64 R], .slice A' n' c'] w fun e w' => e = .returned (.tuple #[.int .i64 (valV X l R bs), .int .i64 (valC X l R bs)]) ∧ Below w.heap.size w w' := by
  have a0 : (w.alloc (.cells #[.int .i64 X, .slice A n c, .int .i64 R] 29)).cell? ⟨w.heap.size, 0, none⟩ = some (.int .i64 X) := by go_simp
  have a1 : (w.alloc (.cells #[.int .i64 X, .slice A n c, .int .i64 R] 29)).cell? ⟨w.heap.size, 1, none⟩ = some (.slice A n c) := by go_simp
  have a2 : (w.alloc (.cells #[.int .i64 X, .slice A n c, .int .i64 R] 29)).cell? ⟨w.heap.size, 2, none⟩ = some (.int .i64 R) := by go_simp
  have HB := Lib.hid (below_alloc (Below.refl w.heap.size w) (.cells #[.int .i64 X, .slice A n c, .int .i64 R] 29))
  have HI := Lib.hid (fun w1 h => c_sIsDiagram X R A c n l w1 hn hs h)
  have HBI := Lib.hid (fun w1 h => c_l22Bits A' c' n' bs X w1 hn' hs' h)
  have H := Lib.hid hr
  have H' := Lib.hid hr'
  have HN := Lib.hid hn
  have HN' := Lib.hid hn'
  clear hn hr hn' hr'
  go_enter Try.func27, Try.ntmps27
  go_wp2_with (fail)
  refine (HI.out _ (H.out.below HB.out)).mono ?_
  rintro e w1 ⟨rfl, hb⟩
  replace a0 := cell_later hb a0
  replace a1 := cell_later hb a1
  replace a2 := cell_later hb a2
  have HB1 := Lib.hid (below_chain HB.out hb)
  clear hb HI HB
  rcases hd : isD X l R with _ | _
  · have HV : Hid (valV X l R bs = 0 ∧ valC X l R bs = 1) := Lib.hid (by unfold valV valC; rw [hd]; exact ⟨rfl, rfl⟩)
    clear hd
    go_wp2_with (fail)
    go_ret2
    exact ⟨by rw [HV.out.1, HV.out.2]; rfl, HB1.out⟩
  · have HD := Lib.hid hd
    clear hd
    go_wp2_with (fail)
    refine (HBI.out _ (H'.out.below HB1.out)).mono ?_
    rintro e w2 ⟨rfl, rfl⟩
    rcases hd : bitsB bs X with _ | _
    · have HV : Hid (valV X l R bs = 0 ∧ valC X l R bs = 2) := Lib.hid (by unfold valV valC; rw [HD.out, hd]; exact ⟨rfl, rfl⟩)
      clear hd
      go_wp2_with (fail)
      go_ret2
      exact ⟨by rw [HV.out.1, HV.out.2]; rfl, HB1.out⟩
    · have HV : Hid (valV X l R bs = (valR l bs R.toNat : Nat) ∧ valC X l R bs = 0) := Lib.hid (by unfold valV valC; rw [HD.out, hd]; exact ⟨rfl, rfl⟩)
      have hbl := bits_len hd
      obtain ⟨hv, hR0, hR1, _, _⟩ := isD_VN HD.out
      have HVN := Lib.hid hv
      rw [← HN.out] at hR1
      rw [← HN'.out] at hbl
      obtain ⟨r0, rfl⟩ : ∃ r : Nat, R = r := ⟨R.toNat, by omega⟩
      rw [Int.toNat_natCast] at HV
      have HBL := Lib.hid hbl
      clear hd hv hbl
      go_wp2_with (fail)
      go_loopw [6, 7] (fun u _ wr => ∃ r : Nat, r < n + 2 ∧ u = .int .i64 r ∧ Hid (valR l bs r = valR l bs r0) ∧ Below w1.heap.size w1 wr) (fun u _ _ => (intOf u).toNat)
      case atStart => exact ⟨r0, by omega, rfl, Lib.hid rfl, Below.refl _ _⟩
      case round =>
        obtain ⟨r, hr, rfl, hval, hb⟩ := hrel
        replace a0 := cell_later hb a0
        replace a1 := cell_later hb a1
        replace a2 := cell_later hb a2
        have HBR := Lib.hid (below_chain HB1.out hb)
        by_cases h2 : 2 ≤ r
        · obtain ⟨k, x, rfl, hx⟩ := nd_at (l := l) (r := r) (by omega) (by have := HN.out; omega)
          have hat := HVN.out.good.at hx
          have hlv := HVN.out.lv k x hx
          have hstep := val_step HVN.out.good (bs := bs) hx
          obtain ⟨z, hz⟩ : ∃ z, bs[x.i.toNat]? = some z := ⟨_, List.getElem?_eq_getElem (by have := HBL.out; have := HN'.out; omega)⟩
          have hkid : (kid bs x : Int) = brn X l (k + 2) x.i z := by
            rw [brn_at hx rfl]
            unfold kid
            rw [show bs.getD x.i.toNat 0 = z by simp [List.getD_eq_getElem?_getD, hz]]
            split <;> omega
          have hkl := kid_lt HVN.out.good (bs := bs) hx
          have HBR2 := Lib.hid (fun w1 h => c_l22Branch X r0 A c n l (k + 2) x.i z w1 HN.out (by omega) hr h)
          rw [← hkid] at HBR2
          have HK := Lib.hid (hstep.symm.trans hval.out)
          generalize kid bs x = q at *
          obtain ⟨b1, off, rfl, hb1, g0, g1, g2⟩ := (H.out.below HBR.out).nd hx
          obtain ⟨bb, bo, rfl, hb2, gz⟩ := (H'.out.below HBR.out).int hz
          obtain ⟨xi, xa, xb⟩ := x
          dsimp only at hat hlv g0 g1 g2 gz HBR2
          obtain ⟨i, rfl⟩ : ∃ i : Nat, xi = i := ⟨xi.toNat, by omega⟩
          rw [Int.toNat_natCast] at gz
          have hkn : (k : Int) < n := by omega
          have hin : (i : Int) < n' := by have := HBL.out; omega
          have hin2 : i < n' := by omega
          have hk2 : ((k + 2 : Nat) : Int) = (k : Int) + 2 := by omega
          have hal := below_alloc (Below.refl wr.heap.size wr) (.cells #[.int .i64 i, .int .i64 xa, .int .i64 xb] 57)
          have y0 : (wr.alloc (.cells #[.int .i64 i, .int .i64 xa, .int .i64 xb] 57)).cell? ⟨wr.heap.size, 0, none⟩ = some (.int .i64 i) := by go_simp
          have b0 := cell_later hal a0
          have b1' := cell_later hal a1
          have b2 := cell_later hal a2
          have qz := cell_later hal gz
          have HRW := Lib.hid ((H.out.below HBR.out).below hal)
          have HBX := Lib.hid (below_chain hb hal)
          clear hval hat hlv hstep hz hkid hx hb hal
          rw [hk2] at HBR2
          rw [hk2]
          go_wp2_with (fail)
          clear a0 a1 a2 g0 g1 g2 gz
          generalize wr.alloc (.cells #[.int .i64 i, .int .i64 xa, .int .i64 xb] 57) = W5 at *
          generalize wr.heap.size = gx at *
          refine wp_region_held_drew (S := (fun w' => (w'.cell? ⟨w.heap.size, 0, none⟩ = some (.int .i64 X) ∧ w'.cell? ⟨w.heap.size, 1, none⟩ = some (.slice (some ⟨b1, off, none⟩) n c) ∧ w'.cell? ⟨w.heap.size, 2, none⟩ = some (.int .i64 r0)) ∧ w'.cell? ⟨gx, 0, none⟩ = some (.int .i64 i) ∧ w'.cell? ⟨bb, bo + i, none⟩ = some (.int .i64 z))) (by kernel_rfl) ?_ (fun hHeld => ?_)
          · exact ⟨⟨b0, b1', b2⟩, y0, qz⟩
          refine rg_take (v := ?_) 0 rfl (by kernel_rfl) (by kernel_rfl) (by kernel_rfl) (fun _ _ _ h => h) (by kernel_rfl) ?_ (by assumption) ?_
          rotate_left
          · (intro w' hSw; (try dsimp only at hSw); go_simp; first | done | with_reducible rfl)
          simp only [Act.put, List.setIfInBounds_toArray, List.set_cons_zero, List.set_cons_succ]
          refine rg_take (v := ?_) 1 rfl (by kernel_rfl) (by kernel_rfl) (by kernel_rfl) (fun _ _ _ h => h) (by kernel_rfl) ?_ (by assumption) ?_
          rotate_left
          · (intro w' hSw; (try dsimp only at hSw); go_simp; first | done | with_reducible rfl)
          simp only [Act.put, List.setIfInBounds_toArray, List.set_cons_zero, List.set_cons_succ]
          refine rg_take (v := ?_) 2 rfl (by kernel_rfl) (by kernel_rfl) (by kernel_rfl) (fun _ _ _ h => h) (by kernel_rfl) ?_ (by assumption) ?_
          rotate_left
          · (intro w' hSw; (try dsimp only at hSw); go_simp; first | done | with_reducible rfl)
          simp only [Act.put, List.setIfInBounds_toArray, List.set_cons_zero, List.set_cons_succ]
          refine rg_take (v := ?_) 3 rfl (by kernel_rfl) (by kernel_rfl) (by kernel_rfl) (fun _ _ _ h => h) (by kernel_rfl) ?_ (by assumption) ?_
          rotate_left
          · (intro w' hSw; (try dsimp only at hSw); go_simp; first | done | with_reducible rfl)
          simp only [Act.put, List.setIfInBounds_toArray, List.set_cons_zero, List.set_cons_succ]
          refine rg_take (v := ?_) 4 rfl (by kernel_rfl) (by kernel_rfl) (by kernel_rfl) (fun _ _ _ h => h) (by kernel_rfl) ?_ (by assumption) ?_
          rotate_left
          · (intro w' hSw; (try dsimp only at hSw); go_simp; first | done | with_reducible rfl)
          simp only [Act.put, List.setIfInBounds_toArray, List.set_cons_zero, List.set_cons_succ]
          refine rg_take (v := ?_) 5 rfl (by kernel_rfl) (by kernel_rfl) (by kernel_rfl) (fun _ _ _ h => h) (by kernel_rfl) ?_ (by assumption) ?_
          rotate_left
          · (intro w' hSw; (try dsimp only at hSw); go_simp; first | done | with_reducible rfl)
          simp only [Act.put, List.setIfInBounds_toArray, List.set_cons_zero, List.set_cons_succ]
          refine rg_take (v := ?_) 6 rfl (by kernel_rfl) (by kernel_rfl) (by kernel_rfl) (fun _ _ _ h => h) (by kernel_rfl) ?_ (by assumption) ?_
          rotate_left
          · (intro w' hSw; (try dsimp only at hSw); go_simp; first | done | with_reducible rfl)
          simp only [Act.put, List.setIfInBounds_toArray, List.set_cons_zero, List.set_cons_succ]
          refine rg_take (v := ?_) 7 rfl (by kernel_rfl) (by kernel_rfl) (by kernel_rfl) (fun _ _ _ h => h) (by kernel_rfl) ?_ (by assumption) ?_
          rotate_left
          · (intro w' hSw; (try dsimp only at hSw); go_simp; first | done | with_reducible rfl)
          simp only [Act.put, List.setIfInBounds_toArray, List.set_cons_zero, List.set_cons_succ]
          refine rg_take (v := ?_) 8 rfl (by kernel_rfl) (by kernel_rfl) (by kernel_rfl) (fun _ _ _ h => h) (by kernel_rfl) ?_ (by assumption) ?_
          rotate_left
          · (intro w' hSw; (try dsimp only at hSw); go_simp; first | done | with_reducible rfl)
          simp only [Act.put, List.setIfInBounds_toArray, List.set_cons_zero, List.set_cons_succ]
          refine rg_run 9 rfl (by kernel_rfl) (by kernel_rfl) (fun K hK => ?_)
          go_simp
          refine (HBR2.out _ (by exact HRW.out.drew)).mono ?_
          rintro e w9 ⟨rfl, hb⟩
          replace b0 := cell_later hb (by exact b0)
          replace b1' := cell_later hb (by exact b1')
          replace b2 := cell_later hb (by exact b2)
          replace y0 := cell_later hb (by exact y0)
          replace qz := cell_later hb (by exact qz)
          have HBX9 := Lib.hid (below_chain (by exact HBX.out.drew) hb)
          clear hb HRW HBX
          go_wp2
          clear hHeld
          refine hK.out _ _ ⟨⟨b0, b1', b2⟩, y0, qz⟩ (fun hHeld => ?_)
          clear hK K
          try simp only [Act.put, List.setIfInBounds_toArray, List.set_cons_zero, List.set_cons_succ]
          refine rg_take (v := ?_) 10 rfl (by kernel_rfl) (by kernel_rfl) (by kernel_rfl) (fun _ _ _ h => h) (by kernel_rfl) ?_ (by assumption) ?_
          rotate_left
          · (intro w' hSw; (try dsimp only at hSw); go_simp; first | done | with_reducible rfl)
          simp only [Act.put, List.setIfInBounds_toArray, List.set_cons_zero, List.set_cons_succ]
          refine wpAnyH_done (by kernel_rfl) ?_ _
          clear hHeld
          go_wp2_with (fail)
          go_roundw
          case rel => exact ⟨q, by omega, rfl, HK, HBX9.out⟩
          case measure => simp [intOf]; omega
        · have HQ : Hid (valR l bs r = r) := Lib.hid (val_lo (by omega))
          have h2i : (r : Int) < 2 := by omega
          clear hb
          go_wp2_with (fail)
          go_ret2
          exact ⟨by rw [HV.out.1, HV.out.2, ← hval.out, HQ.out]; rfl, HBR.out⟩
set_option maxHeartbeats 1000000 in
set_option maxRecDepth 100000 in
theorem c_ValueOf (X R : Int) (A : Option Addr) (c n : Nat) (l : List Nd) (A' : Option Addr) (c' n' : Nat) (bs : List Int) (w : World) (hn : n = l.length) (hs : n ≤ 1099511627000) (hr : Rd w A (ndCells l)) (hn' : n' = bs.length) (hs' : n' ≤ 1048576) (hr' : Rd w A' (ints bs)) :
    Calls Try.prog 29 #[.agg #[.int .i64 X, .slice A n c, .int .i64 R], .slice A' n' c'] w fun e w' => e = .returned (.tuple #[.int .i64 (valV X l R bs), .int .i64 (valC X l R bs)]) ∧ Below w.heap.size w w' := by
  have a0 : (w.alloc (.cells #[.int .i64 X, .slice A n c, .int .i64 R] 29)).cell? ⟨w.heap.size, 0, none⟩ = some (.int .i64 X) := by go_simp
  have a1 : (w.alloc (.cells #[.int .i64 X, .slice A n c, .int .i64 R] 29)).cell? ⟨w.heap.size, 1, none⟩ = some (.slice A n c) := by go_simp
  have a2 : (w.alloc (.cells #[.int .i64 X, .slice A n c, .int .i64 R] 29)).cell? ⟨w.heap.size, 2, none⟩ = some (.int .i64 R) := by go_simp
  have HB := Lib.hid (below_alloc (Below.refl w.heap.size w) (.cells #[.int .i64 X, .slice A n c, .int .i64 R] 29))
  have HI := Lib.hid (fun w1 h => c_IsDiagram X R A c n l w1 hn hs h)
  have HBI := Lib.hid (fun w1 h => c_areBits A' c' n' bs X w1 hn' hs' h)
  have H := Lib.hid hr
  have H' := Lib.hid hr'
  have HN := Lib.hid hn
  have HN' := Lib.hid hn'
  clear hn hr hn' hr'
  go_enter Try.func29, Try.ntmps29
  go_wp2_with (fail)
  refine (HI.out _ (H.out.below HB.out)).mono ?_
  rintro e w1 ⟨rfl, hb⟩
  replace a0 := cell_later hb a0
  replace a1 := cell_later hb a1
  replace a2 := cell_later hb a2
  have HB1 := Lib.hid (below_chain HB.out hb)
  clear hb HI HB
  rcases hd : isD X l R with _ | _
  · have HV : Hid (valV X l R bs = 0 ∧ valC X l R bs = 1) := Lib.hid (by unfold valV valC; rw [hd]; exact ⟨rfl, rfl⟩)
    clear hd
    go_wp2_with (fail)
    go_ret2
    exact ⟨by rw [HV.out.1, HV.out.2]; rfl, HB1.out⟩
  · have HD := Lib.hid hd
    clear hd
    go_wp2_with (fail)
    refine (HBI.out _ (H'.out.below HB1.out)).mono ?_
    rintro e w2 ⟨rfl, rfl⟩
    rcases hd : bitsB bs X with _ | _
    · have HV : Hid (valV X l R bs = 0 ∧ valC X l R bs = 2) := Lib.hid (by unfold valV valC; rw [HD.out, hd]; exact ⟨rfl, rfl⟩)
      clear hd
      go_wp2_with (fail)
      go_ret2
      exact ⟨by rw [HV.out.1, HV.out.2]; rfl, HB1.out⟩
    · have HV : Hid (valV X l R bs = (valR l bs R.toNat : Nat) ∧ valC X l R bs = 0) := Lib.hid (by unfold valV valC; rw [HD.out, hd]; exact ⟨rfl, rfl⟩)
      have hbl := bits_len hd
      obtain ⟨hv, hR0, hR1, _, _⟩ := isD_VN HD.out
      have HVN := Lib.hid hv
      rw [← HN.out] at hR1
      rw [← HN'.out] at hbl
      obtain ⟨r0, rfl⟩ : ∃ r : Nat, R = r := ⟨R.toNat, by omega⟩
      rw [Int.toNat_natCast] at HV
      have HBL := Lib.hid hbl
      clear hd hv hbl
      go_wp2_with (fail)
      go_loopw [6, 7] (fun u _ wr => ∃ r : Nat, r < n + 2 ∧ u = .int .i64 r ∧ Hid (valR l bs r = valR l bs r0) ∧ Below w1.heap.size w1 wr) (fun u _ _ => (intOf u).toNat)
      case atStart => exact ⟨r0, by omega, rfl, Lib.hid rfl, Below.refl _ _⟩
      case round =>
        obtain ⟨r, hr, rfl, hval, hb⟩ := hrel
        replace a0 := cell_later hb a0
        replace a1 := cell_later hb a1
        replace a2 := cell_later hb a2
        have HBR := Lib.hid (below_chain HB1.out hb)
        by_cases h2 : 2 ≤ r
        · obtain ⟨k, x, rfl, hx⟩ := nd_at (l := l) (r := r) (by omega) (by have := HN.out; omega)
          have hat := HVN.out.good.at hx
          have hlv := HVN.out.lv k x hx
          have hstep := val_step HVN.out.good (bs := bs) hx
          obtain ⟨z, hz⟩ : ∃ z, bs[x.i.toNat]? = some z := ⟨_, List.getElem?_eq_getElem (by have := HBL.out; have := HN'.out; omega)⟩
          have hkd : bs.getD x.i.toNat 0 = z := by simp [List.getD_eq_getElem?_getD, hz]
          have hkl := kid_lt HVN.out.good (bs := bs) hx
          have HK := Lib.hid (hstep.symm.trans hval.out)
          have hq : kid bs x = if z = 0 then x.lo.toNat else x.hi.toNat := by unfold kid; rw [hkd]
          generalize kid bs x = q at *
          obtain ⟨b1, off, rfl, hb1, g0, g1, g2⟩ := (H.out.below HBR.out).nd hx
          obtain ⟨bb, bo, rfl, hb2, gz⟩ := (H'.out.below HBR.out).int hz
          obtain ⟨xi, xa, xb⟩ := x
          dsimp only at hat hlv g0 g1 g2 gz hq
          obtain ⟨a, rfl⟩ : ∃ a : Nat, xa = a := ⟨xa.toNat, by omega⟩
          obtain ⟨b, rfl⟩ : ∃ b : Nat, xb = b := ⟨xb.toNat, by omega⟩
          rw [Int.toNat_natCast, Int.toNat_natCast] at hq
          obtain ⟨i, rfl⟩ : ∃ i : Nat, xi = i := ⟨xi.toNat, by omega⟩
          rw [Int.toNat_natCast] at gz
          have hkn : (k : Int) < n := by omega
          have hin : (i : Int) < n' := by have := HBL.out; omega
          have hin2 : i < n' := by omega
          have hk2 : ((k + 2 : Nat) : Int) = (k : Int) + 2 := by omega
          have HBX := Lib.hid (below_alloc hb (.cells #[.int .i64 i, .int .i64 a, .int .i64 b] 57))
          clear hval hat hlv hstep hz hx hb hkd
          rw [hk2]
          rcases Decidable.em (z = 0) with h0 | h0
          · subst h0
            rw [if_pos rfl] at hq
            subst hq
            go_wp2_with (fail)
            go_roundw
            case rel => exact ⟨_, by omega, rfl, HK, HBX.out⟩
            case measure => simp [intOf]; omega
          · have h0b : (z == 0) = false := by simpa using h0
            rw [if_neg h0] at hq
            subst hq
            go_wp2_with (fail)
            go_roundw
            case rel => exact ⟨_, by omega, rfl, HK, HBX.out⟩
            case measure => simp [intOf]; omega
        · have HQ : Hid (valR l bs r = r) := Lib.hid (val_lo (by omega))
          have h2i : (r : Int) < 2 := by omega
          clear hb
          go_wp2_with (fail)
          go_ret2
          exact ⟨by rw [HV.out.1, HV.out.2, ← hval.out, HQ.out]; rfl, HBR.out⟩
end Go.Proofs.Ytndihacmlkgkbaa
