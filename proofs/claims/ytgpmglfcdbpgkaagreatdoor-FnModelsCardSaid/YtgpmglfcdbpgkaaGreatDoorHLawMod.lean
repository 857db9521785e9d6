/- The walk of the law FnModels. Condition: the bytes; the library's variables hold what they are set to. -/
import Derived.Test.YtgpmglfcdbpgkaaGreatDoorH7
namespace Go.Proofs.YtgpmglfcdbpgkaaGreatDoor
open Go.RowKit

set_option maxHeartbeats 4000000 in
set_option maxRecDepth 100000 in
theorem law_FnModels (A : Option Addr) (c n : Nat) (w : World) (hb : Bytes w w.heap.size A n) (hG : Gw w) :
    Calls Tryz.prog 4 #[.slice A n c] w fun e w' => e = .returned (.bool true) ∧ Below w.heap.size w w' := by
  rcases Nat.lt_or_ge 4096 n with hbig | hbig
  · have hd : decide (4096 < n) = true := by simp; omega
    go_enter Tryz.func4, Tryz.ntmps4
    go_wp2_with (first
      | (go_at_call 10
         refine (c_big _ _ _ _).mono ?_
         rintro e w' ⟨rfl, rfl⟩)
      )
    go_ret
    exact ⟨rfl, by (repeat (first | exact Below.refl _ _ | assumption | refine below_alloc ?_ _ | refine below_drewN ?_ _ | refine below_set ?_ _ (by simp; try omega) | refine Below.drew ?_))⟩
  have hd : decide (4096 < n) = false := by simp; omega
  have HBY := Lib.hid hb
  have HG := Lib.hid hG
  clear hG
  go_enter Tryz.func4, Tryz.ntmps4
  go_wp2_with (first
    | (go_at_call 10
       refine (c_big _ _ _ _).mono ?_
       rintro e w' ⟨rfl, rfl⟩)
    )
  refine (c_DrawModelText A c n w hbig hb).mono ?_
  rintro e w1 ⟨az, ax, ar, cz, cs, cr, m, ds, rfl, hok, hmo, B⟩
  have HOK := Lib.hid hok
  have hm1 := hmo.md
  clear hmo hb hok
  dsimp only [mv]
  go_upto_region 4 with (fail)
  have k0 : (w1.alloc (.cells #[.slice az m.sz.length cz, .slice ax m.st.length cs, .slice ar m.rs.length cr] 25)).cell? ⟨w1.heap.size, 0, none⟩ = some (.slice az m.sz.length cz) := by go_simp
  have k1 : (w1.alloc (.cells #[.slice az m.sz.length cz, .slice ax m.st.length cs, .slice ar m.rs.length cr] 25)).cell? ⟨w1.heap.size, 1, none⟩ = some (.slice ax m.st.length cs) := by go_simp
  have k2 : (w1.alloc (.cells #[.slice az m.sz.length cz, .slice ax m.st.length cs, .slice ar m.rs.length cr] 25)).cell? ⟨w1.heap.size, 2, none⟩ = some (.slice ar m.rs.length cr) := by go_simp
  replace hm1 := hm1.below (below_alloc (Below.refl _ _) (.cells #[.slice az m.sz.length cz, .slice ax m.st.length cs, .slice ar m.rs.length cr] 25))
  replace B := below_alloc B (.cells #[.slice az m.sz.length cz, .slice ax m.st.length cs, .slice ar m.rs.length cr] 25)
  generalize w1.alloc (.cells #[.slice az m.sz.length cz, .slice ax m.st.length cs, .slice ar m.rs.length cr] 25) = Ww1 at k0 k1 k2 hm1 B ⊢
  generalize w1.heap.size = b0 at *
  go_wp2_with (fail)
  refine (c_ModelText m az ax ar cz cs cr _ HOK.out hm1 (HG.out.below B).p).mono ?_
  rintro e w2 ⟨t, rfl, ht, hb⟩
  have hstep : Below Ww1.heap.size Ww1 w2 := below_chain (by (repeat (first | exact Below.refl _ _ | assumption | refine below_alloc ?_ _ | refine below_drewN ?_ _ | refine below_set ?_ _ (by simp; try omega) | refine Below.drew ?_))) hb
  replace hm1 := hm1.below hstep
  replace k0 := cell_later hstep k0
  replace k1 := cell_later hstep k1
  replace k2 := cell_later hstep k2
  replace B := below_chain B hstep
  have HT := Lib.hid ht
  clear ht
  clear hb hstep
  have hts : t.size ≤ 1048576 := by
    have h1 := out_len m
    rw [← HT.out] at h1
    have h2 : t.data.toList.length = t.size := by simp
    omega
  have HRX := Lib.hid (fun w' h => ((c_ReadModel t w' hts h).mono fun e w'' h => RetMS.both h))
  have HXN := Lib.hid (readM_ok (outT m))
  rw [HT.out, rd_some] at HRX
  obtain ⟨bm, hbm⟩ : ∃ bm, bm = mdB m := ⟨_, rfl⟩
  rw [← hbm] at HRX
  have HX : Hid (bm = true → mV (readM (outT m)) = m) := Lib.hid (fun h => rd_val (by rw [← hbm]; exact h))
  have HBM := Lib.hid hbm
  clear hbm
  generalize mV (readM (outT m)) = X at HRX HXN HX
  clear hts
  go_wp2_with (fail)
  refine (HRX.out _ (HG.out.below B)).mono ?_
  rintro e w3 ⟨bz, bx, br, dz, dS, dr, ds3, rfl, ho3, _, _, hb⟩
  have hstep : Below w2.heap.size w2 w3 := below_chain (by (repeat (first | exact Below.refl _ _ | assumption | refine below_alloc ?_ _ | refine below_drewN ?_ _ | refine below_set ?_ _ (by simp; try omega) | refine Below.drew ?_))) hb
  replace hm1 := hm1.below hstep
  replace k0 := cell_later hstep k0
  replace k1 := cell_later hstep k1
  replace k2 := cell_later hstep k2
  replace B := below_chain B hstep
  have hm3 := ho3.md
  clear ho3 HRX
  clear hb hstep
  dsimp only [mv]
  go_upto_region 6 with (fail)
  have j0 : (w3.alloc (.cells #[.slice bz X.sz.length dz, .slice bx X.st.length dS, .slice br X.rs.length dr] 25)).cell? ⟨w3.heap.size, 0, none⟩ = some (.slice bz X.sz.length dz) := by go_simp
  have j1 : (w3.alloc (.cells #[.slice bz X.sz.length dz, .slice bx X.st.length dS, .slice br X.rs.length dr] 25)).cell? ⟨w3.heap.size, 1, none⟩ = some (.slice bx X.st.length dS) := by go_simp
  have j2 : (w3.alloc (.cells #[.slice bz X.sz.length dz, .slice bx X.st.length dS, .slice br X.rs.length dr] 25)).cell? ⟨w3.heap.size, 2, none⟩ = some (.slice br X.rs.length dr) := by go_simp
  replace hm1 := hm1.below (below_alloc (Below.refl _ _) (.cells #[.slice bz X.sz.length dz, .slice bx X.st.length dS, .slice br X.rs.length dr] 25))
  replace hm3 := hm3.below (below_alloc (Below.refl _ _) (.cells #[.slice bz X.sz.length dz, .slice bx X.st.length dS, .slice br X.rs.length dr] 25))
  replace k0 := cell_later (below_alloc (Below.refl _ _) (.cells #[.slice bz X.sz.length dz, .slice bx X.st.length dS, .slice br X.rs.length dr] 25)) k0
  replace k1 := cell_later (below_alloc (Below.refl _ _) (.cells #[.slice bz X.sz.length dz, .slice bx X.st.length dS, .slice br X.rs.length dr] 25)) k1
  replace k2 := cell_later (below_alloc (Below.refl _ _) (.cells #[.slice bz X.sz.length dz, .slice bx X.st.length dS, .slice br X.rs.length dr] 25)) k2
  replace B := below_alloc B (.cells #[.slice bz X.sz.length dz, .slice bx X.st.length dS, .slice br X.rs.length dr] 25)
  generalize w3.alloc (.cells #[.slice bz X.sz.length dz, .slice bx X.st.length dS, .slice br X.rs.length dr] 25) = Ww3 at j0 j1 j2 hm1 hm3 k0 k1 k2 B ⊢
  generalize w3.heap.size = b1 at *
  go_wp2_with (fail)
  refine (c_DrawReadModel A c n _ hbig (bytes_later HBY.out B)).mono ?_
  rintro e w4 ⟨u, rfl, hu, hb⟩
  have hstep : Below Ww3.heap.size Ww3 w4 := below_chain (by (repeat (first | exact Below.refl _ _ | assumption | refine below_alloc ?_ _ | refine below_drewN ?_ _ | refine below_set ?_ _ (by simp; try omega) | refine Below.drew ?_))) hb
  replace hm1 := hm1.below hstep
  replace hm3 := hm3.below hstep
  replace k0 := cell_later hstep k0
  replace k1 := cell_later hstep k1
  replace k2 := cell_later hstep k2
  replace j0 := cell_later hstep j0
  replace j1 := cell_later hstep j1
  replace j2 := cell_later hstep j2
  replace B := below_chain B hstep
  clear hb hstep
  have HRY := Lib.hid (fun w' h => ((c_ReadModel u w' (by omega) h).mono fun e w'' h => RetMS.both h))
  have HSY := Lib.hid (fun w' => ((c_sReadModel u w' (by omega)).mono fun e w'' h => RetMO.both h))
  have HYN := Lib.hid (readM_ok u.data.toList)
  generalize mV (readM u.data.toList) = Y at HRY HSY HYN
  generalize (readM u.data.toList).isSome = q at HRY HSY
  go_wp2_with (fail)
  refine (HRY.out _ (HG.out.below B)).mono ?_
  rintro e w5 ⟨ez, ex, er, fz, fS, fr, ds5, rfl, ho5, _, _, hb⟩
  have hstep : Below w4.heap.size w4 w5 := below_chain (by (repeat (first | exact Below.refl _ _ | assumption | refine below_alloc ?_ _ | refine below_drewN ?_ _ | refine below_set ?_ _ (by simp; try omega) | refine Below.drew ?_))) hb
  replace hm1 := hm1.below hstep
  replace hm3 := hm3.below hstep
  replace k0 := cell_later hstep k0
  replace k1 := cell_later hstep k1
  replace k2 := cell_later hstep k2
  replace j0 := cell_later hstep j0
  replace j1 := cell_later hstep j1
  replace j2 := cell_later hstep j2
  replace B := below_chain B hstep
  have hm5 := ho5.md
  clear ho5 HRY
  clear hb hstep
  dsimp only [mv]
  go_upto_region 8 with (fail)
  have q0 : (w5.alloc (.cells #[.slice ez Y.sz.length fz, .slice ex Y.st.length fS, .slice er Y.rs.length fr] 25)).cell? ⟨w5.heap.size, 0, none⟩ = some (.slice ez Y.sz.length fz) := by go_simp
  have q1 : (w5.alloc (.cells #[.slice ez Y.sz.length fz, .slice ex Y.st.length fS, .slice er Y.rs.length fr] 25)).cell? ⟨w5.heap.size, 1, none⟩ = some (.slice ex Y.st.length fS) := by go_simp
  have q2 : (w5.alloc (.cells #[.slice ez Y.sz.length fz, .slice ex Y.st.length fS, .slice er Y.rs.length fr] 25)).cell? ⟨w5.heap.size, 2, none⟩ = some (.slice er Y.rs.length fr) := by go_simp
  replace hm1 := hm1.below (below_alloc (Below.refl _ _) (.cells #[.slice ez Y.sz.length fz, .slice ex Y.st.length fS, .slice er Y.rs.length fr] 25))
  replace hm3 := hm3.below (below_alloc (Below.refl _ _) (.cells #[.slice ez Y.sz.length fz, .slice ex Y.st.length fS, .slice er Y.rs.length fr] 25))
  replace hm5 := hm5.below (below_alloc (Below.refl _ _) (.cells #[.slice ez Y.sz.length fz, .slice ex Y.st.length fS, .slice er Y.rs.length fr] 25))
  replace k0 := cell_later (below_alloc (Below.refl _ _) (.cells #[.slice ez Y.sz.length fz, .slice ex Y.st.length fS, .slice er Y.rs.length fr] 25)) k0
  replace k1 := cell_later (below_alloc (Below.refl _ _) (.cells #[.slice ez Y.sz.length fz, .slice ex Y.st.length fS, .slice er Y.rs.length fr] 25)) k1
  replace k2 := cell_later (below_alloc (Below.refl _ _) (.cells #[.slice ez Y.sz.length fz, .slice ex Y.st.length fS, .slice er Y.rs.length fr] 25)) k2
  replace j0 := cell_later (below_alloc (Below.refl _ _) (.cells #[.slice ez Y.sz.length fz, .slice ex Y.st.length fS, .slice er Y.rs.length fr] 25)) j0
  replace j1 := cell_later (below_alloc (Below.refl _ _) (.cells #[.slice ez Y.sz.length fz, .slice ex Y.st.length fS, .slice er Y.rs.length fr] 25)) j1
  replace j2 := cell_later (below_alloc (Below.refl _ _) (.cells #[.slice ez Y.sz.length fz, .slice ex Y.st.length fS, .slice er Y.rs.length fr] 25)) j2
  replace B := below_alloc B (.cells #[.slice ez Y.sz.length fz, .slice ex Y.st.length fS, .slice er Y.rs.length fr] 25)
  generalize w5.alloc (.cells #[.slice ez Y.sz.length fz, .slice ex Y.st.length fS, .slice er Y.rs.length fr] 25) = Ww5 at q0 q1 q2 hm1 hm3 hm5 k0 k1 k2 j0 j1 j2 B ⊢
  generalize w5.heap.size = b2 at *
  go_wp2_with (fail)
  refine (HSY.out _).mono ?_
  rintro e w6 ⟨gz, gx, gr, lz, lS, lr, ds6, rfl, ho6, hb⟩
  have hstep : Below Ww5.heap.size Ww5 w6 := below_chain (by (repeat (first | exact Below.refl _ _ | assumption | refine below_alloc ?_ _ | refine below_drewN ?_ _ | refine below_set ?_ _ (by simp; try omega) | refine Below.drew ?_))) hb
  replace hm1 := hm1.below hstep
  replace hm3 := hm3.below hstep
  replace hm5 := hm5.below hstep
  replace k0 := cell_later hstep k0
  replace k1 := cell_later hstep k1
  replace k2 := cell_later hstep k2
  replace j0 := cell_later hstep j0
  replace j1 := cell_later hstep j1
  replace j2 := cell_later hstep j2
  replace q0 := cell_later hstep q0
  replace q1 := cell_later hstep q1
  replace q2 := cell_later hstep q2
  replace B := below_chain B hstep
  have hm6 := ho6.md
  clear ho6 HSY
  clear hb hstep
  dsimp only [mv]
  go_upto_region 9 with (fail)
  have p0 : (w6.alloc (.cells #[.slice gz Y.sz.length lz, .slice gx Y.st.length lS, .slice gr Y.rs.length lr] 25)).cell? ⟨w6.heap.size, 0, none⟩ = some (.slice gz Y.sz.length lz) := by go_simp
  have p1 : (w6.alloc (.cells #[.slice gz Y.sz.length lz, .slice gx Y.st.length lS, .slice gr Y.rs.length lr] 25)).cell? ⟨w6.heap.size, 1, none⟩ = some (.slice gx Y.st.length lS) := by go_simp
  have p2 : (w6.alloc (.cells #[.slice gz Y.sz.length lz, .slice gx Y.st.length lS, .slice gr Y.rs.length lr] 25)).cell? ⟨w6.heap.size, 2, none⟩ = some (.slice gr Y.rs.length lr) := by go_simp
  replace hm1 := hm1.below (below_alloc (Below.refl _ _) (.cells #[.slice gz Y.sz.length lz, .slice gx Y.st.length lS, .slice gr Y.rs.length lr] 25))
  replace hm3 := hm3.below (below_alloc (Below.refl _ _) (.cells #[.slice gz Y.sz.length lz, .slice gx Y.st.length lS, .slice gr Y.rs.length lr] 25))
  replace hm5 := hm5.below (below_alloc (Below.refl _ _) (.cells #[.slice gz Y.sz.length lz, .slice gx Y.st.length lS, .slice gr Y.rs.length lr] 25))
  replace hm6 := hm6.below (below_alloc (Below.refl _ _) (.cells #[.slice gz Y.sz.length lz, .slice gx Y.st.length lS, .slice gr Y.rs.length lr] 25))
  replace k0 := cell_later (below_alloc (Below.refl _ _) (.cells #[.slice gz Y.sz.length lz, .slice gx Y.st.length lS, .slice gr Y.rs.length lr] 25)) k0
  replace k1 := cell_later (below_alloc (Below.refl _ _) (.cells #[.slice gz Y.sz.length lz, .slice gx Y.st.length lS, .slice gr Y.rs.length lr] 25)) k1
  replace k2 := cell_later (below_alloc (Below.refl _ _) (.cells #[.slice gz Y.sz.length lz, .slice gx Y.st.length lS, .slice gr Y.rs.length lr] 25)) k2
  replace j0 := cell_later (below_alloc (Below.refl _ _) (.cells #[.slice gz Y.sz.length lz, .slice gx Y.st.length lS, .slice gr Y.rs.length lr] 25)) j0
  replace j1 := cell_later (below_alloc (Below.refl _ _) (.cells #[.slice gz Y.sz.length lz, .slice gx Y.st.length lS, .slice gr Y.rs.length lr] 25)) j1
  replace j2 := cell_later (below_alloc (Below.refl _ _) (.cells #[.slice gz Y.sz.length lz, .slice gx Y.st.length lS, .slice gr Y.rs.length lr] 25)) j2
  replace q0 := cell_later (below_alloc (Below.refl _ _) (.cells #[.slice gz Y.sz.length lz, .slice gx Y.st.length lS, .slice gr Y.rs.length lr] 25)) q0
  replace q1 := cell_later (below_alloc (Below.refl _ _) (.cells #[.slice gz Y.sz.length lz, .slice gx Y.st.length lS, .slice gr Y.rs.length lr] 25)) q1
  replace q2 := cell_later (below_alloc (Below.refl _ _) (.cells #[.slice gz Y.sz.length lz, .slice gx Y.st.length lS, .slice gr Y.rs.length lr] 25)) q2
  replace B := below_alloc B (.cells #[.slice gz Y.sz.length lz, .slice gx Y.st.length lS, .slice gr Y.rs.length lr] 25)
  generalize w6.alloc (.cells #[.slice gz Y.sz.length lz, .slice gx Y.st.length lS, .slice gr Y.rs.length lr] 25) = Ww6 at p0 p1 p2 hm1 hm3 hm5 hm6 k0 k1 k2 j0 j1 j2 q0 q1 q2 B ⊢
  generalize w6.heap.size = b3 at *
  go_wp2_with (fail)
  refine (c_DrawApplyRule A c n _ hbig (bytes_later HBY.out B)).mono ?_
  rintro e w7 ⟨iz, ix, ir, oz, oS, or_, m2, ds7, A7, c7, vs, y, rfl, hok2, hmo2, hvl, hvo, hb⟩
  have hstep : Below Ww6.heap.size Ww6 w7 := below_chain (by (repeat (first | exact Below.refl _ _ | assumption | refine below_alloc ?_ _ | refine below_drewN ?_ _ | refine below_set ?_ _ (by simp; try omega) | refine Below.drew ?_))) hb
  replace hm1 := hm1.below hstep
  replace hm3 := hm3.below hstep
  replace hm5 := hm5.below hstep
  replace hm6 := hm6.below hstep
  replace k0 := cell_later hstep k0
  replace k1 := cell_later hstep k1
  replace k2 := cell_later hstep k2
  replace j0 := cell_later hstep j0
  replace j1 := cell_later hstep j1
  replace j2 := cell_later hstep j2
  replace q0 := cell_later hstep q0
  replace q1 := cell_later hstep q1
  replace q2 := cell_later hstep q2
  replace p0 := cell_later hstep p0
  replace p1 := cell_later hstep p1
  replace p2 := cell_later hstep p2
  replace B := below_chain B hstep
  have hm7 := hmo2.md
  have hv7 := Rd.own hvo
  have HOK2 := Lib.hid hok2
  clear hmo2 hvo hok2
  clear hb hstep
  dsimp only [mv]
  go_upto_region 10 with (fail)
  have r0 : (w7.alloc (.cells #[.slice iz m2.sz.length oz, .slice ix m2.st.length oS, .slice ir m2.rs.length or_] 25)).cell? ⟨w7.heap.size, 0, none⟩ = some (.slice iz m2.sz.length oz) := by go_simp
  have r1 : (w7.alloc (.cells #[.slice iz m2.sz.length oz, .slice ix m2.st.length oS, .slice ir m2.rs.length or_] 25)).cell? ⟨w7.heap.size, 1, none⟩ = some (.slice ix m2.st.length oS) := by go_simp
  have r2 : (w7.alloc (.cells #[.slice iz m2.sz.length oz, .slice ix m2.st.length oS, .slice ir m2.rs.length or_] 25)).cell? ⟨w7.heap.size, 2, none⟩ = some (.slice ir m2.rs.length or_) := by go_simp
  replace hm1 := hm1.below (below_alloc (Below.refl _ _) (.cells #[.slice iz m2.sz.length oz, .slice ix m2.st.length oS, .slice ir m2.rs.length or_] 25))
  replace hm3 := hm3.below (below_alloc (Below.refl _ _) (.cells #[.slice iz m2.sz.length oz, .slice ix m2.st.length oS, .slice ir m2.rs.length or_] 25))
  replace hm5 := hm5.below (below_alloc (Below.refl _ _) (.cells #[.slice iz m2.sz.length oz, .slice ix m2.st.length oS, .slice ir m2.rs.length or_] 25))
  replace hm6 := hm6.below (below_alloc (Below.refl _ _) (.cells #[.slice iz m2.sz.length oz, .slice ix m2.st.length oS, .slice ir m2.rs.length or_] 25))
  replace hm7 := hm7.below (below_alloc (Below.refl _ _) (.cells #[.slice iz m2.sz.length oz, .slice ix m2.st.length oS, .slice ir m2.rs.length or_] 25))
  replace hv7 := hv7.below (below_alloc (Below.refl _ _) (.cells #[.slice iz m2.sz.length oz, .slice ix m2.st.length oS, .slice ir m2.rs.length or_] 25))
  replace k0 := cell_later (below_alloc (Below.refl _ _) (.cells #[.slice iz m2.sz.length oz, .slice ix m2.st.length oS, .slice ir m2.rs.length or_] 25)) k0
  replace k1 := cell_later (below_alloc (Below.refl _ _) (.cells #[.slice iz m2.sz.length oz, .slice ix m2.st.length oS, .slice ir m2.rs.length or_] 25)) k1
  replace k2 := cell_later (below_alloc (Below.refl _ _) (.cells #[.slice iz m2.sz.length oz, .slice ix m2.st.length oS, .slice ir m2.rs.length or_] 25)) k2
  replace j0 := cell_later (below_alloc (Below.refl _ _) (.cells #[.slice iz m2.sz.length oz, .slice ix m2.st.length oS, .slice ir m2.rs.length or_] 25)) j0
  replace j1 := cell_later (below_alloc (Below.refl _ _) (.cells #[.slice iz m2.sz.length oz, .slice ix m2.st.length oS, .slice ir m2.rs.length or_] 25)) j1
  replace j2 := cell_later (below_alloc (Below.refl _ _) (.cells #[.slice iz m2.sz.length oz, .slice ix m2.st.length oS, .slice ir m2.rs.length or_] 25)) j2
  replace q0 := cell_later (below_alloc (Below.refl _ _) (.cells #[.slice iz m2.sz.length oz, .slice ix m2.st.length oS, .slice ir m2.rs.length or_] 25)) q0
  replace q1 := cell_later (below_alloc (Below.refl _ _) (.cells #[.slice iz m2.sz.length oz, .slice ix m2.st.length oS, .slice ir m2.rs.length or_] 25)) q1
  replace q2 := cell_later (below_alloc (Below.refl _ _) (.cells #[.slice iz m2.sz.length oz, .slice ix m2.st.length oS, .slice ir m2.rs.length or_] 25)) q2
  replace p0 := cell_later (below_alloc (Below.refl _ _) (.cells #[.slice iz m2.sz.length oz, .slice ix m2.st.length oS, .slice ir m2.rs.length or_] 25)) p0
  replace p1 := cell_later (below_alloc (Below.refl _ _) (.cells #[.slice iz m2.sz.length oz, .slice ix m2.st.length oS, .slice ir m2.rs.length or_] 25)) p1
  replace p2 := cell_later (below_alloc (Below.refl _ _) (.cells #[.slice iz m2.sz.length oz, .slice ix m2.st.length oS, .slice ir m2.rs.length or_] 25)) p2
  replace B := below_alloc B (.cells #[.slice iz m2.sz.length oz, .slice ix m2.st.length oS, .slice ir m2.rs.length or_] 25)
  generalize w7.alloc (.cells #[.slice iz m2.sz.length oz, .slice ix m2.st.length oS, .slice ir m2.rs.length or_] 25) = Ww7 at r0 r1 r2 hm1 hm3 hm5 hm6 hm7 hv7 k0 k1 k2 j0 j1 j2 q0 q1 q2 p0 p1 p2 B ⊢
  generalize w7.heap.size = b4 at *
  go_wp2_with (fail)
  refine (c_ApplyRule m2 iz ix ir oz oS or_ A7 c7 vs y _ HOK2.out hvl hm7 hv7).mono ?_
  rintro e w8 ⟨A8, c8, rfl, ho, hb⟩
  have hstep : Below Ww7.heap.size Ww7 w8 := below_chain (by (repeat (first | exact Below.refl _ _ | assumption | refine below_alloc ?_ _ | refine below_drewN ?_ _ | refine below_set ?_ _ (by simp; try omega) | refine Below.drew ?_))) hb
  replace hm1 := hm1.below hstep
  replace hm3 := hm3.below hstep
  replace hm5 := hm5.below hstep
  replace hm6 := hm6.below hstep
  replace hm7 := hm7.below hstep
  replace hv7 := hv7.below hstep
  replace k0 := cell_later hstep k0
  replace k1 := cell_later hstep k1
  replace k2 := cell_later hstep k2
  replace j0 := cell_later hstep j0
  replace j1 := cell_later hstep j1
  replace j2 := cell_later hstep j2
  replace q0 := cell_later hstep q0
  replace q1 := cell_later hstep q1
  replace q2 := cell_later hstep q2
  replace p0 := cell_later hstep p0
  replace p1 := cell_later hstep p1
  replace p2 := cell_later hstep p2
  replace r0 := cell_later hstep r0
  replace r1 := cell_later hstep r1
  replace r2 := cell_later hstep r2
  replace B := below_chain B hstep
  have e8 := Rd.own ho
  clear ho
  clear hb hstep
  go_wp2_with (fail)
  refine (c_sApplyRule m2 iz ix ir oz oS or_ A7 c7 vs y _ HOK2.out hvl hm7 hv7).mono ?_
  rintro e w9 ⟨A9, c9, rfl, ho, hb⟩
  have hstep : Below w8.heap.size w8 w9 := below_chain (by (repeat (first | exact Below.refl _ _ | assumption | refine below_alloc ?_ _ | refine below_drewN ?_ _ | refine below_set ?_ _ (by simp; try omega) | refine Below.drew ?_))) hb
  replace hm1 := hm1.below hstep
  replace hm3 := hm3.below hstep
  replace hm5 := hm5.below hstep
  replace hm6 := hm6.below hstep
  replace hm7 := hm7.below hstep
  replace hv7 := hv7.below hstep
  replace e8 := e8.below hstep
  replace k0 := cell_later hstep k0
  replace k1 := cell_later hstep k1
  replace k2 := cell_later hstep k2
  replace j0 := cell_later hstep j0
  replace j1 := cell_later hstep j1
  replace j2 := cell_later hstep j2
  replace q0 := cell_later hstep q0
  replace q1 := cell_later hstep q1
  replace q2 := cell_later hstep q2
  replace p0 := cell_later hstep p0
  replace p1 := cell_later hstep p1
  replace p2 := cell_later hstep p2
  replace r0 := cell_later hstep r0
  replace r1 := cell_later hstep r1
  replace r2 := cell_later hstep r2
  replace B := below_chain B hstep
  have e9 := Rd.own ho
  clear ho
  clear hb hstep
  have hal : (arL m2 vs y).length ≤ 1048576 := by
    unfold arL
    split
    · split
      · split
        · rw [apL_len]; exact hvl
        · simp
      · simp
    · simp
  have hte : t.toList.isEmpty = !mdB m := by
    rw [Lib.toList_data, HT.out, ← out_nil m]
    cases outT m <;> simp
  have htt : (t.toList != t.toList) = false := by simp
  have HLX := Lib.hid (fun w' h1 h2 => c_likeModel m bz bx br az ax ar dz dS dr cz cs cr w' HOK.out.1 h1 h2)
  have HLY := Lib.hid (fun w' h1 h2 => c_likeModel Y ez ex er gz gx gr fz fS fr lz lS lr w' HYN.out.1 h1 h2)
  have elk : likB (arL m2 vs y) (arL m2 vs y) = true := by unfold likB; simp
  have HLI := Lib.hid (fun w' h h' => c_likeB A8 A9 c8 c9 _ _ (arL m2 vs y) (arL m2 vs y) w' rfl rfl hal hal h h')
  rw [elk] at HLI
  have HIM := Lib.hid (fun w' h => c_IsModel m az ax ar cz cs cr w' HOK.out h)
  have HSM := Lib.hid (fun w' h => c_sModelText m az ax ar cz cs cr w' HOK.out h)
  clear elk
  clear r0 r1
  rw [← HBM.out] at hte HIM
  clear HBM
  go_upto_region 12 with (fail)
  dsimp only [mv] at HLX HLY HIM HSM
  have F_w9 : Below w9.heap.size w9 w9 := Below.refl _ _
  have S_w_w9 : w.heap.size ≤ w9.heap.size := B.size
  go_cut [112] from 65 to 111 (fun v wx => v = .bool false ∧ Hid (Below w9.heap.size w9 wx))
  case first =>
    go_wp2_with (fail)
    refine (HSM.out _ hm1).mono ?_
    rintro e w10 ⟨t2, rfl, ht2, hb⟩
    have hstep : Below w9.heap.size w9 w10 := below_chain (by (repeat (first | exact Below.refl _ _ | assumption | refine below_alloc ?_ _ | refine below_drewN ?_ _ | refine below_set ?_ _ (by simp; try omega) | refine Below.drew ?_))) hb
    replace hm1 := hm1.below hstep
    replace hm3 := hm3.below hstep
    replace hm5 := hm5.below hstep
    replace hm6 := hm6.below hstep
    replace hm7 := hm7.below hstep
    replace hv7 := hv7.below hstep
    replace e8 := e8.below hstep
    replace e9 := e9.below hstep
    replace k0 := cell_later hstep k0
    replace k1 := cell_later hstep k1
    replace k2 := cell_later hstep k2
    replace j0 := cell_later hstep j0
    replace j1 := cell_later hstep j1
    replace j2 := cell_later hstep j2
    replace q0 := cell_later hstep q0
    replace q1 := cell_later hstep q1
    replace q2 := cell_later hstep q2
    replace p0 := cell_later hstep p0
    replace p1 := cell_later hstep p1
    replace p2 := cell_later hstep p2
    replace r2 := cell_later hstep r2
    replace B := below_chain B hstep
    replace F_w9 := below_chain F_w9 hstep
    obtain rfl : t2 = t := (bsT_of ht2).trans (bsT_of HT.out).symm
    clear ht2
    clear hb hstep
    rcases bm with _ | _
    · skip
      go_wp2_with (fail)
      refine (HLY.out _ hm5 hm6).mono ?_
      rintro e w11 ⟨rfl, hb⟩
      have hstep : Below w10.heap.size w10 w11 := below_chain (by (repeat (first | exact Below.refl _ _ | assumption | refine below_alloc ?_ _ | refine below_drewN ?_ _ | refine below_set ?_ _ (by simp; try omega) | refine Below.drew ?_))) hb
      replace hm1 := hm1.below hstep
      replace hm3 := hm3.below hstep
      replace hm5 := hm5.below hstep
      replace hm6 := hm6.below hstep
      replace hm7 := hm7.below hstep
      replace hv7 := hv7.below hstep
      replace e8 := e8.below hstep
      replace e9 := e9.below hstep
      replace k0 := cell_later hstep k0
      replace k1 := cell_later hstep k1
      replace k2 := cell_later hstep k2
      replace j0 := cell_later hstep j0
      replace j1 := cell_later hstep j1
      replace j2 := cell_later hstep j2
      replace q0 := cell_later hstep q0
      replace q1 := cell_later hstep q1
      replace q2 := cell_later hstep q2
      replace p0 := cell_later hstep p0
      replace p1 := cell_later hstep p1
      replace p2 := cell_later hstep p2
      replace r2 := cell_later hstep r2
      replace B := below_chain B hstep
      replace F_w9 := below_chain F_w9 hstep
      clear hb hstep
      go_wp2_with (fail)
      refine (HLI.out _ e8 e9).mono ?_
      rintro e w12 ⟨rfl, hb⟩
      have hstep : Below w11.heap.size w11 w12 := below_chain (by (repeat (first | exact Below.refl _ _ | assumption | refine below_alloc ?_ _ | refine below_drewN ?_ _ | refine below_set ?_ _ (by simp; try omega) | refine Below.drew ?_))) hb
      replace hm1 := hm1.below hstep
      replace hm3 := hm3.below hstep
      replace hm5 := hm5.below hstep
      replace hm6 := hm6.below hstep
      replace hm7 := hm7.below hstep
      replace hv7 := hv7.below hstep
      replace e8 := e8.below hstep
      replace e9 := e9.below hstep
      replace k0 := cell_later hstep k0
      replace k1 := cell_later hstep k1
      replace k2 := cell_later hstep k2
      replace j0 := cell_later hstep j0
      replace j1 := cell_later hstep j1
      replace j2 := cell_later hstep j2
      replace q0 := cell_later hstep q0
      replace q1 := cell_later hstep q1
      replace q2 := cell_later hstep q2
      replace p0 := cell_later hstep p0
      replace p1 := cell_later hstep p1
      replace p2 := cell_later hstep p2
      replace r2 := cell_later hstep r2
      replace B := below_chain B hstep
      replace F_w9 := below_chain F_w9 hstep
      clear hb hstep
      go_wp2_with (fail)
      refine (HIM.out _ hm1).mono ?_
      rintro e w13 ⟨rfl, hb⟩
      have hstep : Below w12.heap.size w12 w13 := below_chain (by (repeat (first | exact Below.refl _ _ | assumption | refine below_alloc ?_ _ | refine below_drewN ?_ _ | refine below_set ?_ _ (by simp; try omega) | refine Below.drew ?_))) hb
      replace hm1 := hm1.below hstep
      replace hm3 := hm3.below hstep
      replace hm5 := hm5.below hstep
      replace hm6 := hm6.below hstep
      replace hm7 := hm7.below hstep
      replace hv7 := hv7.below hstep
      replace e8 := e8.below hstep
      replace e9 := e9.below hstep
      replace k0 := cell_later hstep k0
      replace k1 := cell_later hstep k1
      replace k2 := cell_later hstep k2
      replace j0 := cell_later hstep j0
      replace j1 := cell_later hstep j1
      replace j2 := cell_later hstep j2
      replace q0 := cell_later hstep q0
      replace q1 := cell_later hstep q1
      replace q2 := cell_later hstep q2
      replace p0 := cell_later hstep p0
      replace p1 := cell_later hstep p1
      replace p2 := cell_later hstep p2
      replace r2 := cell_later hstep r2
      replace B := below_chain B hstep
      replace F_w9 := below_chain F_w9 hstep
      clear hb hstep
      go_wp2_with (fail)
      go_meet
      case rel => exact ⟨rfl, Lib.hid F_w9⟩
    · have hXm := HX.out rfl
      clear HX
      subst hXm
      go_wp2_with (fail)
      refine (HLX.out _ hm3 hm1).mono ?_
      rintro e w11 ⟨rfl, hb⟩
      have hstep : Below w10.heap.size w10 w11 := below_chain (by (repeat (first | exact Below.refl _ _ | assumption | refine below_alloc ?_ _ | refine below_drewN ?_ _ | refine below_set ?_ _ (by simp; try omega) | refine Below.drew ?_))) hb
      replace hm1 := hm1.below hstep
      replace hm3 := hm3.below hstep
      replace hm5 := hm5.below hstep
      replace hm6 := hm6.below hstep
      replace hm7 := hm7.below hstep
      replace hv7 := hv7.below hstep
      replace e8 := e8.below hstep
      replace e9 := e9.below hstep
      replace k0 := cell_later hstep k0
      replace k1 := cell_later hstep k1
      replace k2 := cell_later hstep k2
      replace j0 := cell_later hstep j0
      replace j1 := cell_later hstep j1
      replace j2 := cell_later hstep j2
      replace q0 := cell_later hstep q0
      replace q1 := cell_later hstep q1
      replace q2 := cell_later hstep q2
      replace p0 := cell_later hstep p0
      replace p1 := cell_later hstep p1
      replace p2 := cell_later hstep p2
      replace r2 := cell_later hstep r2
      replace B := below_chain B hstep
      replace F_w9 := below_chain F_w9 hstep
      clear hb hstep
      go_wp2_with (fail)
      refine (HLY.out _ hm5 hm6).mono ?_
      rintro e w12 ⟨rfl, hb⟩
      have hstep : Below w11.heap.size w11 w12 := below_chain (by (repeat (first | exact Below.refl _ _ | assumption | refine below_alloc ?_ _ | refine below_drewN ?_ _ | refine below_set ?_ _ (by simp; try omega) | refine Below.drew ?_))) hb
      replace hm1 := hm1.below hstep
      replace hm3 := hm3.below hstep
      replace hm5 := hm5.below hstep
      replace hm6 := hm6.below hstep
      replace hm7 := hm7.below hstep
      replace hv7 := hv7.below hstep
      replace e8 := e8.below hstep
      replace e9 := e9.below hstep
      replace k0 := cell_later hstep k0
      replace k1 := cell_later hstep k1
      replace k2 := cell_later hstep k2
      replace j0 := cell_later hstep j0
      replace j1 := cell_later hstep j1
      replace j2 := cell_later hstep j2
      replace q0 := cell_later hstep q0
      replace q1 := cell_later hstep q1
      replace q2 := cell_later hstep q2
      replace p0 := cell_later hstep p0
      replace p1 := cell_later hstep p1
      replace p2 := cell_later hstep p2
      replace r2 := cell_later hstep r2
      replace B := below_chain B hstep
      replace F_w9 := below_chain F_w9 hstep
      clear hb hstep
      go_wp2_with (fail)
      refine (HLI.out _ e8 e9).mono ?_
      rintro e w13 ⟨rfl, hb⟩
      have hstep : Below w12.heap.size w12 w13 := below_chain (by (repeat (first | exact Below.refl _ _ | assumption | refine below_alloc ?_ _ | refine below_drewN ?_ _ | refine below_set ?_ _ (by simp; try omega) | refine Below.drew ?_))) hb
      replace hm1 := hm1.below hstep
      replace hm3 := hm3.below hstep
      replace hm5 := hm5.below hstep
      replace hm6 := hm6.below hstep
      replace hm7 := hm7.below hstep
      replace hv7 := hv7.below hstep
      replace e8 := e8.below hstep
      replace e9 := e9.below hstep
      replace k0 := cell_later hstep k0
      replace k1 := cell_later hstep k1
      replace k2 := cell_later hstep k2
      replace j0 := cell_later hstep j0
      replace j1 := cell_later hstep j1
      replace j2 := cell_later hstep j2
      replace q0 := cell_later hstep q0
      replace q1 := cell_later hstep q1
      replace q2 := cell_later hstep q2
      replace p0 := cell_later hstep p0
      replace p1 := cell_later hstep p1
      replace p2 := cell_later hstep p2
      replace r2 := cell_later hstep r2
      replace B := below_chain B hstep
      replace F_w9 := below_chain F_w9 hstep
      clear hb hstep
      go_wp2_with (fail)
      refine (HIM.out _ hm1).mono ?_
      rintro e w14 ⟨rfl, hb⟩
      have hstep : Below w13.heap.size w13 w14 := below_chain (by (repeat (first | exact Below.refl _ _ | assumption | refine below_alloc ?_ _ | refine below_drewN ?_ _ | refine below_set ?_ _ (by simp; try omega) | refine Below.drew ?_))) hb
      replace hm1 := hm1.below hstep
      replace hm3 := hm3.below hstep
      replace hm5 := hm5.below hstep
      replace hm6 := hm6.below hstep
      replace hm7 := hm7.below hstep
      replace hv7 := hv7.below hstep
      replace e8 := e8.below hstep
      replace e9 := e9.below hstep
      replace k0 := cell_later hstep k0
      replace k1 := cell_later hstep k1
      replace k2 := cell_later hstep k2
      replace j0 := cell_later hstep j0
      replace j1 := cell_later hstep j1
      replace j2 := cell_later hstep j2
      replace q0 := cell_later hstep q0
      replace q1 := cell_later hstep q1
      replace q2 := cell_later hstep q2
      replace p0 := cell_later hstep p0
      replace p1 := cell_later hstep p1
      replace p2 := cell_later hstep p2
      replace r2 := cell_later hstep r2
      replace B := below_chain B hstep
      replace F_w9 := below_chain F_w9 hstep
      clear hb hstep
      go_wp2_with (fail)
      go_meet
      case rel => exact ⟨rfl, Lib.hid F_w9⟩
  case rest =>
    clear F_w9
    obtain ⟨wB, rfl⟩ : ∃ wB, wB = wc := ⟨_, rfl⟩
    obtain ⟨rfl, hb9⟩ := hcut
    have HB := Lib.hid (below_chain B hb9.out)
    have HM := Lib.hid (hm7.below hb9.out)
    have HV := Lib.hid (hv7.below hb9.out)
    have HE := Lib.hid (e8.below hb9.out)
    replace r2 := cell_later hb9.out r2
    clear B hm7 hv7 e8 e9 hb9 hm1 hm3 hm5 hm6 k0 k1 k2 j0 j1 j2 q0 q1 q2 p0 p1 p2 HLX HLY HLI HIM HSM hte htt HX HXN HYN HBY HG HT hu
    rcases Decidable.em (arC m2 vs y = 0) with hc | hc
    · obtain ⟨kr, r, rfl, hr, hes, hel⟩ := ar_zero hc
      rw [hc]
      have hkr := (List.getElem?_eq_some_iff.1 hr).1
      have HAL := Lib.hid hal
      rw [hel] at HE HAL
      have hall : (arL m2 vs (kr : Int)).length = vs.length := by rw [hel, apL_len]
      rw [hall]
      obtain ⟨rb, ro, ag, cg, ae, ce, rfl, _, _, _, g2, _, he⟩ := HM.out.r.at hr
      have R2 := Lib.hid r2
      have G2 := Lib.hid g2
      have HA := Lib.hid he
      have hen : r.es.length ≤ 1048576 := (HOK2.out.1.2.2.2 r (List.mem_of_getElem? hr)).2
      have HES := Lib.hid hes
      have hkr0 : (0 : Int) ≤ (kr : Int) := by omega
      have hkr1 : (kr : Int) < (m2.rs.length : Int) := by omega
      have HC1 := Lib.hid (fun (v q : Nat) (a : Asg) (h : r.es[q]? = some a) => chg_succ (v := v) h)
      have HC0 := Lib.hid (fun (v : Nat) => chg_zero r.es v)
      have HCK := Lib.hid (fun (v : Nat) (z : Int) (h : chg r.es v r.es.length = false) (hz : vs[v]? = some z) => chg_keep hes h hz)
      clear r2 g2 he hes hr hc hel hal hall HM HOK2 HAL
      obtain ⟨nm, gs, es⟩ := r
      dsimp only at *
      have HEN := Lib.hid (rfl : es.length = es.length)
      generalize hY : apL vs es = Y2 at *
      clear hY
      go_wp2_with (fail)
      go_loopw [19] (fun v wr => ∃ i : Nat, i ≤ vs.length ∧ v = .int .i64 i ∧ Hid (Below wB.heap.size wB wr)) (fun v _ => vs.length - (intOf v).toNat)
      case atStart => exact ⟨0, Nat.zero_le _, rfl, Lib.hid (Below.refl _ _)⟩
      case round =>
        obtain ⟨i, hi, rfl, hb⟩ := hrel
        by_cases hlt : i < vs.length
        · obtain ⟨z, hz⟩ : ∃ z, vs[i]? = some z := ⟨_, List.getElem?_eq_getElem hlt⟩
          have HCZ := Lib.hid (fun h => HCK.out i z h hz)
          have HZ := Lib.hid hz
          have HS0 := Lib.hid (HC0.out i)
          have HS1 := Lib.hid (HC1.out i)
          have hi0 : (0 : Int) ≤ (i : Int) := by omega
          have hi1 : (i : Int) < (vs.length : Int) := by omega
          clear hz
          go_wp2_with (fail)
          go_loopw [20, 21] (fun v u wr2 => ∃ (q : Nat) (f : Bool), q ≤ es.length ∧ u = .int .i64 q ∧ v = .bool f ∧ Hid (f = chg es i q) ∧ Hid (Below wB.heap.size wB wr2)) (fun _ u _ => es.length - (intOf u).toNat)
          case atStart => exact ⟨0, false, Nat.zero_le _, rfl, rfl, Lib.hid HS0.out.symm, hb⟩
          case round =>
            obtain ⟨q, f, hq, rfl, rfl, hf, hb2⟩ := hrel
            have r2 := cell_later hb2.out R2.out
            have g2 := cell_later hb2.out G2.out
            by_cases hq2 : q < es.length
            · obtain ⟨a, ha⟩ : ∃ a, es[q]? = some a := ⟨_, List.getElem?_eq_getElem hq2⟩
              have HQ1 := Lib.hid (HS1.out q a ha)
              rcases f with _ | _
              · obtain ⟨ab, ao, rfl, _, a0, _⟩ := (HA.out.below hb2.out).asg ha
                obtain ⟨av, ax2⟩ := a
                dsimp only at a0 HQ1
                have hq0 : (0 : Int) ≤ (q : Int) := by omega
                have hq1 : (q : Int) < (es.length : Int) := by omega
                clear ha
                go_wp2_with (fail)
                go_roundw
                case rel => exact ⟨q + 1, av == (i : Int), by omega, by go_num, rfl, Lib.hid (by rw [HQ1.out, ← hf.out]; simp), hb2⟩
                case measure => simp [intOf]; omega
              · clear ha
                go_wp2_with (fail)
                go_roundw
                case rel => exact ⟨q + 1, true, by omega, by go_num, rfl, Lib.hid (by rw [HQ1.out, ← hf.out]; simp), hb2⟩
                case measure => simp [intOf]; omega
            · obtain rfl : q = es.length := by omega
              rcases f with _ | _
              · obtain ⟨eb, eo, rfl, _, e0⟩ := (HE.out.below hb2.out).int (HCZ.out hf.out.symm)
                obtain ⟨vb, vo, rfl, _, v0⟩ := (HV.out.below hb2.out).int HZ.out
                have hzz : (z != z) = false := by simp
                go_wp2_with (fail)
                refine wp_region_held_drew (S := (fun w' => w'.cell? ⟨eb, eo + i, none⟩ = some (.int .i64 z) ∧ w'.cell? ⟨vb, vo + i, none⟩ = some (.int .i64 z))) (by kernel_rfl) ?_ (fun hHeld => ?_)
                · exact ⟨e0, v0⟩
                refine rg_take (v := ?_) 0 rfl (by kernel_rfl) (by kernel_rfl) (by kernel_rfl) (fun _ _ _ h => h) (by kernel_rfl) ?_ (by assumption) ?_
                rotate_left
                · (intro w' hSw; (try dsimp only at hSw); go_simp; first | done | with_reducible rfl)
                simp only [Act.put, List.setIfInBounds_toArray, List.set_cons_zero, List.set_cons_succ]
                refine rg_take (v := ?_) 1 rfl (by kernel_rfl) (by kernel_rfl) (by kernel_rfl) (fun _ _ _ h => h) (by kernel_rfl) ?_ (by assumption) ?_
                rotate_left
                · (intro w' hSw; (try dsimp only at hSw); go_simp; first | done | with_reducible rfl)
                simp only [Act.put, List.setIfInBounds_toArray, List.set_cons_zero, List.set_cons_succ]
                refine rg_take (v := ?_) 2 rfl (by kernel_rfl) (by kernel_rfl) (by kernel_rfl) (fun _ _ _ h => h) (by kernel_rfl) ?_ (by assumption) ?_
                rotate_left
                · (intro w' hSw; (try dsimp only at hSw); go_simp; first | done | with_reducible rfl)
                simp only [Act.put, List.setIfInBounds_toArray, List.set_cons_zero, List.set_cons_succ]
                refine rg_take (v := ?_) 3 rfl (by kernel_rfl) (by kernel_rfl) (by kernel_rfl) (fun _ _ _ h => h) (by kernel_rfl) ?_ (by assumption) ?_
                rotate_left
                · (intro w' hSw; (try dsimp only at hSw); go_simp; first | done | with_reducible rfl)
                simp only [Act.put, List.setIfInBounds_toArray, List.set_cons_zero, List.set_cons_succ]
                refine rg_take (v := ?_) 4 rfl (by kernel_rfl) (by kernel_rfl) (by kernel_rfl) (fun _ _ _ h => h) (by kernel_rfl) ?_ (by assumption) ?_
                rotate_left
                · (intro w' hSw; (try dsimp only at hSw); go_simp; first | done | with_reducible rfl)
                simp only [Act.put, List.setIfInBounds_toArray, List.set_cons_zero, List.set_cons_succ]
                refine rg_take (v := ?_) 5 rfl (by kernel_rfl) (by kernel_rfl) (by kernel_rfl) (fun _ _ _ h => h) (by kernel_rfl) ?_ (by assumption) ?_
                rotate_left
                · (intro w' hSw; (try dsimp only at hSw); go_simp; first | done | with_reducible rfl)
                simp only [Act.put, List.setIfInBounds_toArray, List.set_cons_zero, List.set_cons_succ]
                refine rg_take (v := ?_) 6 rfl (by kernel_rfl) (by kernel_rfl) (by kernel_rfl) (fun _ _ _ h => h) (by kernel_rfl) ?_ (by assumption) ?_
                rotate_left
                · (intro w' hSw; (try dsimp only at hSw); go_simp; first | done | with_reducible rfl)
                simp only [Act.put, List.setIfInBounds_toArray, List.set_cons_zero, List.set_cons_succ]
                refine rg_take (v := ?_) 7 rfl (by kernel_rfl) (by kernel_rfl) (by kernel_rfl) (fun _ _ _ h => h) (by kernel_rfl) ?_ (by assumption) ?_
                rotate_left
                · (intro w' hSw; (try dsimp only at hSw); go_simp; first | done | with_reducible rfl)
                simp only [Act.put, List.setIfInBounds_toArray, List.set_cons_zero, List.set_cons_succ]
                refine rg_take (v := ?_) 8 rfl (by kernel_rfl) (by kernel_rfl) (by kernel_rfl) (fun _ _ _ h => h) (by kernel_rfl) ?_ (by assumption) ?_
                rotate_left
                · (intro w' hSw; (try dsimp only at hSw); go_simp; first | done | with_reducible rfl)
                simp only [Act.put, List.setIfInBounds_toArray, List.set_cons_zero, List.set_cons_succ]
                refine rg_take (v := ?_) 9 rfl (by kernel_rfl) (by kernel_rfl) (by kernel_rfl) (fun _ _ _ h => h) (by kernel_rfl) ?_ (by assumption) ?_
                rotate_left
                · (intro w' hSw; (try dsimp only at hSw); go_simp; first | done | with_reducible rfl)
                simp only [Act.put, List.setIfInBounds_toArray, List.set_cons_zero, List.set_cons_succ]
                refine rg_take (v := ?_) 10 rfl (by kernel_rfl) (by kernel_rfl) (by kernel_rfl) (fun _ _ _ h => h) (by kernel_rfl) ?_ (by assumption) ?_
                rotate_left
                · (intro w' hSw; (try dsimp only at hSw); go_simp; first | done | with_reducible rfl)
                simp only [Act.put, List.setIfInBounds_toArray, List.set_cons_zero, List.set_cons_succ]
                refine rg_take (v := ?_) 11 rfl (by kernel_rfl) (by kernel_rfl) (by kernel_rfl) (fun _ _ _ h => h) (by kernel_rfl) ?_ (by assumption) ?_
                rotate_left
                · (intro w' hSw; (try dsimp only at hSw); go_simp; first | done | with_reducible rfl)
                simp only [Act.put, List.setIfInBounds_toArray, List.set_cons_zero, List.set_cons_succ]
                refine rg_take (v := ?_) 12 rfl (by kernel_rfl) (by kernel_rfl) (by kernel_rfl) (fun _ _ _ h => h) (by kernel_rfl) ?_ (by assumption) ?_
                rotate_left
                · (intro w' hSw; (try dsimp only at hSw); go_simp; first | done | with_reducible rfl)
                simp only [Act.put, List.setIfInBounds_toArray, List.set_cons_zero, List.set_cons_succ]
                refine wpAnyH_done (by kernel_rfl) ?_ _
                clear hHeld
                go_wp2_with (fail)
                go_roundw
                case rel => exact ⟨i + 1, by omega, by go_num, Lib.hid hb2.out.drew⟩
                case measure => simp [intOf]; omega
              · go_wp2_with (fail)
                refine wp_region_held_drew (S := (fun _ => True)) (by kernel_rfl) ?_ (fun hHeld => ?_)
                · exact trivial
                refine rg_take (v := ?_) 0 rfl (by kernel_rfl) (by kernel_rfl) (by kernel_rfl) (fun _ _ _ h => h) (by kernel_rfl) ?_ (by assumption) ?_
                rotate_left
                · (intro w' hSw; (try dsimp only at hSw); go_simp; first | done | with_reducible rfl)
                simp only [Act.put, List.setIfInBounds_toArray, List.set_cons_zero, List.set_cons_succ]
                refine rg_take (v := ?_) 1 rfl (by kernel_rfl) (by kernel_rfl) (by kernel_rfl) (fun _ _ _ h => h) (by kernel_rfl) ?_ (by assumption) ?_
                rotate_left
                · (intro w' hSw; (try dsimp only at hSw); go_simp; first | done | with_reducible rfl)
                simp only [Act.put, List.setIfInBounds_toArray, List.set_cons_zero, List.set_cons_succ]
                refine rg_take (v := ?_) 2 rfl (by kernel_rfl) (by kernel_rfl) (by kernel_rfl) (fun _ _ _ h => h) (by kernel_rfl) ?_ (by assumption) ?_
                rotate_left
                · (intro w' hSw; (try dsimp only at hSw); go_simp; first | done | with_reducible rfl)
                simp only [Act.put, List.setIfInBounds_toArray, List.set_cons_zero, List.set_cons_succ]
                refine rg_skip 3 rfl (by kernel_rfl) (by kernel_rfl) (by kernel_rfl) (fun _ _ _ h => h) (by kernel_rfl) (by assumption) ?_
                simp only [Act.put, List.setIfInBounds_toArray, List.set_cons_zero, List.set_cons_succ]
                refine rg_skip 4 rfl (by kernel_rfl) (by kernel_rfl) (by kernel_rfl) (fun _ _ _ h => h) (by kernel_rfl) (by assumption) ?_
                simp only [Act.put, List.setIfInBounds_toArray, List.set_cons_zero, List.set_cons_succ]
                refine rg_skip 5 rfl (by kernel_rfl) (by kernel_rfl) (by kernel_rfl) (fun _ _ _ h => h) (by kernel_rfl) (by assumption) ?_
                simp only [Act.put, List.setIfInBounds_toArray, List.set_cons_zero, List.set_cons_succ]
                refine rg_skip 6 rfl (by kernel_rfl) (by kernel_rfl) (by kernel_rfl) (fun _ _ _ h => h) (by kernel_rfl) (by assumption) ?_
                simp only [Act.put, List.setIfInBounds_toArray, List.set_cons_zero, List.set_cons_succ]
                refine rg_skip 7 rfl (by kernel_rfl) (by kernel_rfl) (by kernel_rfl) (fun _ _ _ h => h) (by kernel_rfl) (by assumption) ?_
                simp only [Act.put, List.setIfInBounds_toArray, List.set_cons_zero, List.set_cons_succ]
                refine rg_skip 8 rfl (by kernel_rfl) (by kernel_rfl) (by kernel_rfl) (fun _ _ _ h => h) (by kernel_rfl) (by assumption) ?_
                simp only [Act.put, List.setIfInBounds_toArray, List.set_cons_zero, List.set_cons_succ]
                refine rg_skip 9 rfl (by kernel_rfl) (by kernel_rfl) (by kernel_rfl) (fun _ _ _ h => h) (by kernel_rfl) (by assumption) ?_
                simp only [Act.put, List.setIfInBounds_toArray, List.set_cons_zero, List.set_cons_succ]
                refine rg_skip 10 rfl (by kernel_rfl) (by kernel_rfl) (by kernel_rfl) (fun _ _ _ h => h) (by kernel_rfl) (by assumption) ?_
                simp only [Act.put, List.setIfInBounds_toArray, List.set_cons_zero, List.set_cons_succ]
                refine rg_skip 11 rfl (by kernel_rfl) (by kernel_rfl) (by kernel_rfl) (fun _ _ _ h => h) (by kernel_rfl) (by assumption) ?_
                simp only [Act.put, List.setIfInBounds_toArray, List.set_cons_zero, List.set_cons_succ]
                refine rg_take (v := ?_) 12 rfl (by kernel_rfl) (by kernel_rfl) (by kernel_rfl) (fun _ _ _ h => h) (by kernel_rfl) ?_ (by assumption) ?_
                rotate_left
                · (intro w' hSw; (try dsimp only at hSw); go_simp; first | done | with_reducible rfl)
                simp only [Act.put, List.setIfInBounds_toArray, List.set_cons_zero, List.set_cons_succ]
                refine wpAnyH_done (by kernel_rfl) ?_ _
                clear hHeld
                go_wp2_with (fail)
                go_roundw
                case rel => exact ⟨i + 1, by omega, by go_num, Lib.hid hb2.out.drew⟩
                case measure => simp [intOf]; omega
        · obtain rfl : i = vs.length := by omega
          go_wp2_with (fail)
          go_ret
          exact ⟨rfl, below_chain HB.out hb.out⟩
    · have hc1 : (arC m2 vs y != 0) = true := by simpa using hc
      clear hc
      generalize arC m2 vs y = C at *
      go_wp2_with (fail)
      go_ret
      exact ⟨rfl, HB.out⟩
end Go.Proofs.YtgpmglfcdbpgkaaGreatDoor
