/- Contracts of FirstOne, the program's and the reference's. Condition: the sizes. -/
import Derived.Test.YtndihacmlkgkbaaDgB
import Derived.Test.YtndihacmlkgkbaaDgL
namespace Go.Proofs.Ytndihacmlkgkbaa
open Go.RowKit

def RetIC (zs : List Int) (code : Int) (w : World) (e : Ending) (w' : World) : Prop :=
  ∃ A c, e = .returned (.tuple #[.slice A zs.length c, .int .i64 code]) ∧ w'.ownsRow w.heap.size 2 1 (.slice A zs.length c) zs.length (ints zs) ∧ Below w.heap.size w w'
theorem RetIC.nil {w w' : World} {code : Int} (hb : Below w.heap.size w w') : RetIC [] code w (.returned (.tuple #[.slice none 0 0, .int .i64 code])) w' := ⟨none, 0, rfl, own_nil _ _ _ _, hb⟩
theorem firstL_len (X R : Int) (l : List Nd) : (firstL X l R).length ≤ 1048576 := by
  unfold firstL
  split
  · rename_i h
    obtain ⟨hv, _⟩ := isD_VN h.1
    have := hv.x1
    unfold fstR
    rw [fstF_len, List.length_replicate]
    omega
  · simp
set_option maxHeartbeats 1000000 in
set_option maxRecDepth 100000 in
theorem c_sFirstOne (X R : Int) (A : Option Addr) (c n : Nat) (l : List Nd) (w : World) (hn : n = l.length) (hs : n ≤ 1099511627000) (hr : Rd w A (ndCells l)) :
    Calls Try.prog 18 #[.agg #[.int .i64 X, .slice A n c, .int .i64 R]] w (RetIC (firstL X l R) (firstC X l R) w) := by
  obtain ⟨i0, hi, hz0, hz1, hz2⟩ := info_parts info_int64
  have a0 : (w.alloc (.cells #[.int .i64 X, .slice A n c, .int .i64 R] 29)).cell? ⟨w.heap.size, 0, none⟩ = some (.int .i64 X) := by go_simp
  have a1 : (w.alloc (.cells #[.int .i64 X, .slice A n c, .int .i64 R] 29)).cell? ⟨w.heap.size, 1, none⟩ = some (.slice A n c) := by go_simp
  have a2 : (w.alloc (.cells #[.int .i64 X, .slice A n c, .int .i64 R] 29)).cell? ⟨w.heap.size, 2, none⟩ = some (.int .i64 R) := by go_simp
  have HB := Lib.hid (below_alloc (Below.refl w.heap.size w) (.cells #[.int .i64 X, .slice A n c, .int .i64 R] 29))
  have HI := Lib.hid (fun w1 h => c_sIsDiagram X R A c n l w1 hn hs h)
  have H := Lib.hid hr
  have HN := Lib.hid hn
  clear hn hr
  go_enter Try.func18, Try.ntmps18
  go_wp2_with (fail)
  refine (HI.out _ (H.out.below HB.out)).mono ?_
  rintro e w1 ⟨rfl, hb⟩
  replace a0 := cell_later hb a0
  replace a1 := cell_later hb a1
  replace a2 := cell_later hb a2
  have HB1 := Lib.hid (below_chain HB.out hb)
  clear hb HI HB
  rcases hd : isD X l R with _ | _
  · have HV : Hid (firstL X l R = [] ∧ firstC X l R = 1) := Lib.hid (by unfold firstL firstC; rw [hd]; exact ⟨if_neg (by simp), rfl⟩)
    clear hd
    go_wp2_with (fail)
    go_ret2
    rw [HV.out.1, HV.out.2]
    exact RetIC.nil HB1.out
  · have HD := Lib.hid hd
    clear hd
    obtain ⟨hv, hR0, hR1, _, _⟩ := isD_VN HD.out
    have HVN := Lib.hid hv
    rw [← HN.out] at hR1
    obtain ⟨r0, rfl⟩ : ∃ r : Nat, R = r := ⟨R.toNat, by omega⟩
    rcases Decidable.em (r0 = 0) with h0 | h0
    · subst h0
      have HV : Hid (firstL X l ((0 : Nat) : Int) = [] ∧ firstC X l ((0 : Nat) : Int) = 4) := Lib.hid (by unfold firstL firstC; rw [HD.out]; exact ⟨if_neg (by simp), rfl⟩)
      clear hv
      go_wp2_with (fail)
      go_ret2
      rw [HV.out.1, HV.out.2]
      exact RetIC.nil HB1.out
    · have HV : Hid (firstL X l r0 = fstR l (List.replicate X.toNat 0) r0 ∧ firstC X l r0 = 0) := Lib.hid (by
        unfold firstL firstC
        rw [HD.out, if_pos ⟨rfl, by omega⟩, Int.toNat_natCast]
        exact ⟨rfl, by rw [if_pos rfl, if_neg (by omega)]⟩)
      have h0b : ((r0 : Int) == 0) = false := by simpa using h0
      have hx0 := hv.x0
      have hx1 := hv.x1
      obtain ⟨x0, rfl⟩ : ∃ x : Nat, X = x := ⟨X.toNat, by omega⟩
      rw [Int.toNat_natCast] at HV
      clear hv
      have A0 := Lib.hid a0
      have A1 := Lib.hid a1
      have A2 := Lib.hid a2
      have hzz := World.block_lt_of_cell? _ _ a0
      dsimp only at hzz
      go_wp2_with (first
        | (at_make
           refine wpList_make_full _ rfl (.tmp 14) (.tmp 14) _ rfl w1.heap.size 2 i0 _ 1 Try.underlying35 hi hz0 hz1 .i64 .i64 _ _ x0 rfl rfl rfl rfl (by rw [hz2]; omega) (by unfold maxLen; omega) (Nat.le_refl _) ?_
           intro w2 hown hgrow
           rw [made_int] at hown
           have HO2 := Lib.hid hown
           have hb2 : Below w1.heap.size w1 w2 := below_of_grown (Below.refl _ _) hgrow (by simp)
           have hgl := (hown.lt w1.heap.size rfl).2
           replace a0 := cell_later hb2 a0
           replace a1 := cell_later hb2 a1
           replace a2 := cell_later hb2 a2
           have HB2 := Lib.hid hb2
           clear hown hgrow hb2)
        )
      go_loopw [5, 6] (fun u _ wr => ∃ (r : Nat) (bs : List Int), r < n + 2 ∧ u = .int .i64 r ∧ Hid (wr.ownsRow w1.heap.size 2 1 (.slice (some ⟨w1.heap.size, 0, none⟩) x0 x0) x0 (ints bs)) ∧ Hid (fstR l bs r = fstR l (List.replicate x0 0) r0) ∧ Below w1.heap.size w1 wr) (fun u _ _ => (intOf u).toNat)
      case atStart => exact ⟨r0, _, by omega, rfl, HO2, Lib.hid rfl, HB2.out⟩
      case round =>
        obtain ⟨r, bs, hr, rfl, ho, hval, hb⟩ := hrel
        have HBR := Lib.hid (below_chain HB1.out hb)
        by_cases h2 : 2 ≤ r
        · obtain ⟨k, x, rfl, hx⟩ := nd_at (l := l) (r := r) (by omega) (by have := HN.out; omega)
          have hat := HVN.out.good.at hx
          have hlv := HVN.out.lv k x hx
          have hstep := fst_step HVN.out.good (bs := bs) hx
          obtain ⟨b1, off, rfl, hb1, g0, g1, g2⟩ := (H.out.below HBR.out).nd hx
          obtain ⟨xi, xa, xb⟩ := x
          dsimp only at hat hlv g0 g1 g2 hstep
          obtain ⟨i, rfl⟩ : ∃ i : Nat, xi = i := ⟨xi.toNat, by omega⟩
          obtain ⟨a, rfl⟩ : ∃ a : Nat, xa = a := ⟨xa.toNat, by omega⟩
          obtain ⟨b, rfl⟩ : ∃ b : Nat, xb = b := ⟨xb.toNat, by omega⟩
          simp only [Int.toNat_natCast] at hstep hat
          have hkn : (k : Int) < n := by omega
          have hin : i < x0 := by omega
          have hin2 : (i : Int) < x0 := by omega
          have hk2 : ((k + 2 : Nat) : Int) = (k : Int) + 2 := by omega
          have hak : a < k + 2 := by omega
          have hbk : b < k + 2 := by omega
          replace a0 := (hb.cell (p := ⟨w.heap.size, 0, none⟩) hzz).trans A0.out
          replace a1 := (hb.cell (p := ⟨w.heap.size, 1, none⟩) hzz).trans A1.out
          replace a2 := (hb.cell (p := ⟨w.heap.size, 2, none⟩) hzz).trans A2.out
          have hgr := (ho.out.lt w1.heap.size rfl).2
          have hal := below_alloc (Below.refl wr.heap.size wr) (.cells #[.int .i64 i, .int .i64 a, .int .i64 b] 57)
          have HBX := Lib.hid (below_alloc hb (.cells #[.int .i64 i, .int .i64 a, .int .i64 b] 57))
          have HOX := Lib.hid (own_below ho.out hal)
          rcases Decidable.em (a = 0) with h0 | h0
          · subst h0
            have e0 : ((0 : Nat) : Int) = 0 := rfl
            rw [e0] at g1 HOX HBX hstep
            rw [if_pos rfl] at hstep
            clear e0
            have HK := Lib.hid (hstep.symm.trans hval.out)
            have f0 := HOX.out.frozenAt i
            obtain ⟨old, hold⟩ := own_cell HOX.out (j := i) (by omega)
            have hst := ho.out.stored i (.int .i64 1)
            rw [ints_set] at hst
            have HST := Lib.hid (own_below hst.1 (below_alloc (Below.refl (wr.setCell ⟨w1.heap.size, i, none⟩ (.int .i64 1)).heap.size (wr.setCell ⟨w1.heap.size, i, none⟩ (.int .i64 1))) (.cells #[.int .i64 i, .int .i64 0, .int .i64 b] 57)))
            have HBZ := Lib.hid (below_alloc (hb.setCell (Nat.le_refl _) (p := ⟨w1.heap.size, i, none⟩) (.int .i64 1)) (.cells #[.int .i64 i, .int .i64 0, .int .i64 b] 57))
            clear ho hb hval hat hlv hstep hx hal hst HBX HOX HO2
            rw [hk2]
            go_wp2_with (fail)
            go_roundw
            case rel => exact ⟨b, bs.set i 1, by omega, rfl, HST, HK, HBZ.out⟩
            case measure => simp [intOf]; omega
          · have h0c : ((a : Int) == 0) = false := by simpa using h0
            rw [if_neg (by omega)] at hstep
            have HK := Lib.hid (hstep.symm.trans hval.out)
            clear ho hb hval hat hlv hstep hx hal HO2
            rw [hk2]
            go_wp2_with (fail)
            go_roundw
            case rel => exact ⟨a, bs, by omega, rfl, HOX, HK, HBX.out⟩
            case measure => simp [intOf]; omega
        · have HQ : Hid (fstR l bs r = bs) := Lib.hid (fst_lo (by omega))
          have h2i : (r : Int) < 2 := by omega
          have hbs : bs.length = x0 := by have := ho.out.1; rw [ints_length] at this; omega
          have HO := Lib.hid (own_mono (base' := w.heap.size) ho.out (by omega))
          have HL : Hid (firstL (x0 : Int) l r0 = bs) := Lib.hid (by rw [HV.out.1, ← hval.out, HQ.out])
          clear hb ho
          go_wp2_with (fail)
          go_ret2
          rw [HL.out, HV.out.2]
          exact ⟨_, _, by rw [hbs]; rfl, by rw [hbs]; exact HO.out, HBR.out⟩
set_option maxHeartbeats 1000000 in
set_option maxRecDepth 100000 in
theorem c_FirstOne (X R : Int) (A : Option Addr) (c n : Nat) (l : List Nd) (w : World) (hn : n = l.length) (hs : n ≤ 1099511627000) (hr : Rd w A (ndCells l)) :
    Calls Try.prog 19 #[.agg #[.int .i64 X, .slice A n c, .int .i64 R]] w (RetIC (firstL X l R) (firstC X l R) w) := by
  obtain ⟨i0, hi, hz0, hz1, hz2⟩ := info_parts info_int64
  have a0 : (w.alloc (.cells #[.int .i64 X, .slice A n c, .int .i64 R] 29)).cell? ⟨w.heap.size, 0, none⟩ = some (.int .i64 X) := by go_simp
  have a1 : (w.alloc (.cells #[.int .i64 X, .slice A n c, .int .i64 R] 29)).cell? ⟨w.heap.size, 1, none⟩ = some (.slice A n c) := by go_simp
  have a2 : (w.alloc (.cells #[.int .i64 X, .slice A n c, .int .i64 R] 29)).cell? ⟨w.heap.size, 2, none⟩ = some (.int .i64 R) := by go_simp
  have HB := Lib.hid (below_alloc (Below.refl w.heap.size w) (.cells #[.int .i64 X, .slice A n c, .int .i64 R] 29))
  have HI := Lib.hid (fun w1 h => c_IsDiagram X R A c n l w1 hn hs h)
  have H := Lib.hid hr
  have HN := Lib.hid hn
  clear hn hr
  go_enter Try.func19, Try.ntmps19
  go_wp2_with (fail)
  refine (HI.out _ (H.out.below HB.out)).mono ?_
  rintro e w1 ⟨rfl, hb⟩
  replace a0 := cell_later hb a0
  replace a1 := cell_later hb a1
  replace a2 := cell_later hb a2
  have HB1 := Lib.hid (below_chain HB.out hb)
  clear hb HI HB
  rcases hd : isD X l R with _ | _
  · have HV : Hid (firstL X l R = [] ∧ firstC X l R = 1) := Lib.hid (by unfold firstL firstC; rw [hd]; exact ⟨if_neg (by simp), rfl⟩)
    clear hd
    go_wp2_with (fail)
    go_ret2
    rw [HV.out.1, HV.out.2]
    exact RetIC.nil HB1.out
  · have HD := Lib.hid hd
    clear hd
    obtain ⟨hv, hR0, hR1, _, _⟩ := isD_VN HD.out
    have HVN := Lib.hid hv
    rw [← HN.out] at hR1
    obtain ⟨r0, rfl⟩ : ∃ r : Nat, R = r := ⟨R.toNat, by omega⟩
    rcases Decidable.em (r0 = 0) with h0 | h0
    · subst h0
      have HV : Hid (firstL X l ((0 : Nat) : Int) = [] ∧ firstC X l ((0 : Nat) : Int) = 4) := Lib.hid (by unfold firstL firstC; rw [HD.out]; exact ⟨if_neg (by simp), rfl⟩)
      clear hv
      go_wp2_with (fail)
      go_ret2
      rw [HV.out.1, HV.out.2]
      exact RetIC.nil HB1.out
    · have HV : Hid (firstL X l r0 = fstR l (List.replicate X.toNat 0) r0 ∧ firstC X l r0 = 0) := Lib.hid (by
        unfold firstL firstC
        rw [HD.out, if_pos ⟨rfl, by omega⟩, Int.toNat_natCast]
        exact ⟨rfl, by rw [if_pos rfl, if_neg (by omega)]⟩)
      have h0b : ((r0 : Int) == 0) = false := by simpa using h0
      have hx0 := hv.x0
      have hx1 := hv.x1
      obtain ⟨x0, rfl⟩ : ∃ x : Nat, X = x := ⟨X.toNat, by omega⟩
      rw [Int.toNat_natCast] at HV
      clear hv
      have A0 := Lib.hid a0
      have A1 := Lib.hid a1
      have A2 := Lib.hid a2
      have hzz := World.block_lt_of_cell? _ _ a0
      dsimp only at hzz
      go_wp2_with (first
        | (at_make
           refine wpList_make_full _ rfl (.tmp 16) (.tmp 16) _ rfl w1.heap.size 2 i0 _ 1 Try.underlying35 hi hz0 hz1 .i64 .i64 _ _ x0 rfl rfl rfl rfl (by rw [hz2]; omega) (by unfold maxLen; omega) (Nat.le_refl _) ?_
           intro w2 hown hgrow
           rw [made_int] at hown
           have HO2 := Lib.hid hown
           have hb2 : Below w1.heap.size w1 w2 := below_of_grown (Below.refl _ _) hgrow (by simp)
           have hgl := (hown.lt w1.heap.size rfl).2
           replace a0 := cell_later hb2 a0
           replace a1 := cell_later hb2 a1
           replace a2 := cell_later hb2 a2
           have HB2 := Lib.hid hb2
           clear hown hgrow hb2)
        )
      go_loopw [5, 6] (fun u _ wr => ∃ (r : Nat) (bs : List Int), r < n + 2 ∧ u = .int .i64 r ∧ Hid (wr.ownsRow w1.heap.size 2 1 (.slice (some ⟨w1.heap.size, 0, none⟩) x0 x0) x0 (ints bs)) ∧ Hid (fstR l bs r = fstR l (List.replicate x0 0) r0) ∧ Below w1.heap.size w1 wr) (fun u _ _ => (intOf u).toNat)
      case atStart => exact ⟨r0, _, by omega, rfl, HO2, Lib.hid rfl, HB2.out⟩
      case round =>
        obtain ⟨r, bs, hr, rfl, ho, hval, hb⟩ := hrel
        have HBR := Lib.hid (below_chain HB1.out hb)
        by_cases h2 : 2 ≤ r
        · obtain ⟨k, x, rfl, hx⟩ := nd_at (l := l) (r := r) (by omega) (by have := HN.out; omega)
          have hat := HVN.out.good.at hx
          have hlv := HVN.out.lv k x hx
          have hstep := fst_step HVN.out.good (bs := bs) hx
          obtain ⟨b1, off, rfl, hb1, g0, g1, g2⟩ := (H.out.below HBR.out).nd hx
          obtain ⟨xi, xa, xb⟩ := x
          dsimp only at hat hlv g0 g1 g2 hstep
          obtain ⟨i, rfl⟩ : ∃ i : Nat, xi = i := ⟨xi.toNat, by omega⟩
          obtain ⟨a, rfl⟩ : ∃ a : Nat, xa = a := ⟨xa.toNat, by omega⟩
          obtain ⟨b, rfl⟩ : ∃ b : Nat, xb = b := ⟨xb.toNat, by omega⟩
          simp only [Int.toNat_natCast] at hstep hat
          have hkn : (k : Int) < n := by omega
          have hin : i < x0 := by omega
          have hin2 : (i : Int) < x0 := by omega
          have hk2 : ((k + 2 : Nat) : Int) = (k : Int) + 2 := by omega
          have hak : a < k + 2 := by omega
          have hbk : b < k + 2 := by omega
          replace a0 := (hb.cell (p := ⟨w.heap.size, 0, none⟩) hzz).trans A0.out
          replace a1 := (hb.cell (p := ⟨w.heap.size, 1, none⟩) hzz).trans A1.out
          replace a2 := (hb.cell (p := ⟨w.heap.size, 2, none⟩) hzz).trans A2.out
          have hgr := (ho.out.lt w1.heap.size rfl).2
          have hal := below_alloc (Below.refl wr.heap.size wr) (.cells #[.int .i64 i, .int .i64 a, .int .i64 b] 57)
          have HBX := Lib.hid (below_alloc hb (.cells #[.int .i64 i, .int .i64 a, .int .i64 b] 57))
          have HOX := Lib.hid (own_below ho.out hal)
          rcases Decidable.em (a = 0) with h0 | h0
          · subst h0
            have e0 : ((0 : Nat) : Int) = 0 := rfl
            rw [e0] at g1 HOX HBX hstep
            rw [if_pos rfl] at hstep
            clear e0
            have HK := Lib.hid (hstep.symm.trans hval.out)
            have f0 := HOX.out.frozenAt i
            obtain ⟨old, hold⟩ := own_cell HOX.out (j := i) (by omega)
            have hst := ho.out.stored i (.int .i64 1)
            rw [ints_set] at hst
            have HST := Lib.hid (own_below hst.1 (below_alloc (Below.refl (wr.setCell ⟨w1.heap.size, i, none⟩ (.int .i64 1)).heap.size (wr.setCell ⟨w1.heap.size, i, none⟩ (.int .i64 1))) (.cells #[.int .i64 i, .int .i64 0, .int .i64 b] 57)))
            have HBZ := Lib.hid (below_alloc (hb.setCell (Nat.le_refl _) (p := ⟨w1.heap.size, i, none⟩) (.int .i64 1)) (.cells #[.int .i64 i, .int .i64 0, .int .i64 b] 57))
            clear ho hb hval hat hlv hstep hx hal hst HBX HOX HO2
            rw [hk2]
            go_wp2_with (fail)
            go_roundw
            case rel => exact ⟨b, bs.set i 1, by omega, rfl, HST, HK, HBZ.out⟩
            case measure => simp [intOf]; omega
          · have h0c : ((a : Int) == 0) = false := by simpa using h0
            rw [if_neg (by omega)] at hstep
            have HK := Lib.hid (hstep.symm.trans hval.out)
            clear ho hb hval hat hlv hstep hx hal HO2
            rw [hk2]
            go_wp2_with (fail)
            go_roundw
            case rel => exact ⟨a, bs, by omega, rfl, HOX, HK, HBX.out⟩
            case measure => simp [intOf]; omega
        · have HQ : Hid (fstR l bs r = bs) := Lib.hid (fst_lo (by omega))
          have h2i : (r : Int) < 2 := by omega
          have hbs : bs.length = x0 := by have := ho.out.1; rw [ints_length] at this; omega
          have HO := Lib.hid (own_mono (base' := w.heap.size) ho.out (by omega))
          have HL : Hid (firstL (x0 : Int) l r0 = bs) := Lib.hid (by rw [HV.out.1, ← hval.out, HQ.out])
          clear hb ho
          go_wp2_with (fail)
          go_ret2
          rw [HL.out, HV.out.2]
          exact ⟨_, _, by rw [hbs]; rfl, by rw [hbs]; exact HO.out, HBR.out⟩
end Go.Proofs.Ytndihacmlkgkbaa
