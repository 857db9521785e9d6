/- The walk of the law FnExactReadModel. Condition: the library's variables hold what they are set to. -/
import Derived.Test.YtgpmglfcdbpgkaaGreatDoorH2
import Derived.Test.YtgpmglfcdbpgkaaGreatDoorH3
namespace Go.Proofs.YtgpmglfcdbpgkaaGreatDoor
open Go.RowKit

theorem zM_N : MdlB zM := ⟨by decide, by decide, by decide, fun _ h => (nomatch h)⟩
theorem read_N (L : List UInt8) : MdlB (mV (readM L)) ∧ MOk (mV (readM L)) := by
  refine ⟨?_, readM_ok L⟩
  cases h : readM L with
  | none => exact zM_N
  | some m =>
    have hN := read_MN h
    exact ⟨hN.z, hN.t, hN.r, fun r hr => (hN.g r hr).2⟩
set_option maxHeartbeats 2000000 in
set_option maxRecDepth 100000 in
theorem law_ReadModel (s : ByteArray) (w : World) (hmax : s.size ≤ 9223372036854775807) (hG : Gw w) :
    Calls Tryz.prog 3 #[.string s] w fun e w' => e = .returned (.bool true) ∧ Below w.heap.size w w' := by
  rcases Nat.lt_or_ge 1048576 s.size with hs | hs
  · have hs1 : (1048576 : Int) < (s.size : Int) := by omega
    go_enter Tryz.func3, Tryz.ntmps3
    go_wp2_with (fail)
    go_ret
    exact ⟨rfl, by (repeat (first | exact Below.refl _ _ | assumption | refine below_alloc ?_ _ | refine below_drewN ?_ _ | refine below_set ?_ _ (by simp; try omega) | refine Below.drew ?_))⟩
  have hs1 : ¬ ((1048576 : Int) < (s.size : Int)) := by omega
  have HG := Lib.hid hG
  have HSR := Lib.hid (fun w' => c_sReadModel s w' hs)
  have HIR := Lib.hid (fun w' h => c_ReadModel s w' hs h)
  have HMN := Lib.hid (read_N s.data.toList)
  generalize readM s.data.toList = o at *
  obtain ⟨b, hb⟩ : ∃ b, b = o.isSome := ⟨_, rfl⟩
  have HSB := Lib.hid (fun w' => ((HSR.out w').mono fun e w'' h => RetMO.both h))
  have HIB := Lib.hid (fun w' h => ((HIR.out w' h).mono fun e w'' h => RetMS.both h))
  rw [← hb] at HSB HIB
  generalize mV o = m at *
  clear HSR HIR hb hG
  have HE := Lib.hid (fun az ax ar az' ax' ar' cz cs cr cz' cs' cr' w' h h' => c_eqModel m az ax ar az' ax' ar' cz cs cr cz' cs' cr' w' HMN.out.2.1 h h')
  have HHE := Lib.hid (fun az ax ar cz cs cr ds w' he h => c_heldModel m az ax ar cz cs cr ds w' HMN.out.1 he h)
  have HMK := Lib.hid (fun az ax ar cz cs cr base ds w' hb ho h1 h2 => c_markModelX m az ax ar cz cs cr base ds w' HMN.out.1 hb ho h1 h2)
  dsimp only [mv] at *
  go_enter Tryz.func3, Tryz.ntmps3
  go_wp2_with (fail)
  refine (HSB.out _).mono ?_
  rintro e w1 ⟨az, ax, ar, cz, cs, cr, ds0, rfl, ho0, hb⟩
  have HM1 := Lib.hid ho0.md
  have HB1 := Lib.hid hb
  clear ho0 hb HSB
  have HA1 := Lib.hid (below_alloc (Below.refl w1.heap.size w1) (.cells #[.slice az m.sz.length cz, .slice ax m.st.length cs, .slice ar m.rs.length cr] 25))
  have HC1 : Hid (Box3 25 (w1.alloc (.cells #[.slice az m.sz.length cz, .slice ax m.st.length cs, .slice ar m.rs.length cr] 25)) w1.heap.size w1.heap.size (.slice az m.sz.length cz) (.slice ax m.st.length cs) (.slice ar m.rs.length cr)) := Lib.hid (box3_new _ _ _)
  have HB2 := Lib.hid (below_chain HB1.out HA1.out)
  have HM2 := Lib.hid (HM1.out.below HA1.out)
  have HG2 := Lib.hid (HG.out.below HB2.out)
  clear HB1 HM1 HG HA1
  go_upto_region 4 with (fail)
  generalize w1.alloc (.cells #[.slice az m.sz.length cz, .slice ax m.st.length cs, .slice ar m.rs.length cr] 25) = w2 at *
  go_wp2_with (fail)
  refine (HIB.out _ HG2.out).mono ?_
  rintro e w3 ⟨bz, bx, br, dz, dx, dr, ds, rfl, ho3, hsd, hap, hb⟩
  have hal := below_alloc (Below.refl w3.heap.size w3) (.cells #[.slice bz m.sz.length dz, .slice bx m.st.length dx, .slice br m.rs.length dr] 25)
  have HC4 : Hid (Box3 25 (w3.alloc (.cells #[.slice bz m.sz.length dz, .slice bx m.st.length dx, .slice br m.rs.length dr] 25)) w3.heap.size w3.heap.size (.slice bz m.sz.length dz) (.slice bx m.st.length dx) (.slice br m.rs.length dr)) := Lib.hid (box3_new _ _ _)
  have hst := below_chain hb hal
  have HO4 := Lib.hid (ho3.below hal)
  have HSD := Lib.hid hsd
  have HAP := Lib.hid hap
  have HF4 := Lib.hid hst
  clear hal hst ho3 hsd hap hb
  go_upto_region 5 with (fail)
  generalize w3.alloc (.cells #[.slice bz m.sz.length dz, .slice bx m.st.length dx, .slice br m.rs.length dr] 25) = w4 at *
  have hbb : (b != b) = false := by simp
  obtain ⟨q0, q1, q2, _⟩ := HC4.out.c
  obtain ⟨p0, p1, p2, _⟩ := (HC1.out.below HF4.out).c
  go_wp2_with (fail)
  refine (HE.out _ _ _ _ _ _ _ _ _ _ _ _ _ HO4.out.md (HM2.out.below HF4.out)).mono ?_
  rintro e w5 ⟨rfl, hb⟩
  have HO5 := Lib.hid (HO4.out.below hb)
  have HC5 := Lib.hid (HC4.out.below hb)
  have HF5 := Lib.hid (below_chain HF4.out hb)
  clear hb HO4 HC4 HF4 q0 q1 q2 p0 p1 p2
  obtain ⟨q0, q1, q2, _⟩ := HC5.out.c
  have HMD := Lib.hid (HMK.out bz bx br dz dx dr w2.heap.size ds w5 HF5.out.size HO5.out HSD.out HAP.out)
  have HHD := Lib.hid (fun w' h => HHE.out bz bx br dz dx dr ds w' HO5.out.e h)
  generalize kM m ds = km at *
  have hk0 : ¬ ((km : Int) < 0) := by omega
  have hkk : ((km : Int) != (km : Int)) = false := by simp
  go_wp2_with (fail)
  refine HMD.out.mono ?_
  rintro e w6 ⟨rfl, hmk, hb, hkeep⟩
  have HC6 : Hid (Box3 25 w6 w3.heap.size w3.heap.size (.slice bz m.sz.length dz) (.slice bx m.st.length dx) (.slice br m.rs.length dr)) := Lib.hid (hkeep _ _ _ _ _ _ (by decide) (by decide) (by decide) (by decide) HC5.out)
  have HF6 := Lib.hid (HF5.out.trans hb)
  have HK6 := Lib.hid hmk
  clear hmk hb hkeep HMD HO5 HC5 HF5 q0 q1 q2 HMK HHE HSD HAP
  obtain ⟨q0, q1, q2, _⟩ := HC6.out.c
  go_wp2_with (fail)
  refine (HHD.out _ HK6.out).mono ?_
  rintro e w7 ⟨rfl, hb⟩
  have HC7 := Lib.hid (HC6.out.below hb)
  have HF7 := Lib.hid (below_chain HF6.out hb)
  have HK7 := Lib.hid (HK6.out.below hb)
  have HG7 := Lib.hid (HG2.out.below HF7.out)
  clear hb HC6 HF6 HK6 q0 q1 q2
  go_wp2_with (fail)
  refine (HIB.out _ HG7.out).mono ?_
  rintro e w8 ⟨ez, ex, er, fz, fx, fr, ds2, rfl, ho8, _, _, hb⟩
  have hal := below_alloc (Below.refl w8.heap.size w8) (.cells #[.slice ez m.sz.length fz, .slice ex m.st.length fx, .slice er m.rs.length fr] 25)
  have HC9 : Hid (Box3 25 (w8.alloc (.cells #[.slice ez m.sz.length fz, .slice ex m.st.length fx, .slice er m.rs.length fr] 25)) w8.heap.size w8.heap.size (.slice ez m.sz.length fz) (.slice ex m.st.length fx) (.slice er m.rs.length fr)) := Lib.hid (box3_new _ _ _)
  have hst := below_chain hb hal
  have HM9 := Lib.hid (ho8.below hal).md
  have HF9 := Lib.hid (below_chain HF7.out hst)
  have HK9 := Lib.hid (HK7.out.below hst)
  have HC79 := Lib.hid (HC7.out.below hst)
  clear hal hst ho8 hb HC7 HF7 HK7 HG7 HG2 HIB
  go_upto_region 16 with (fail)
  generalize w8.alloc (.cells #[.slice ez m.sz.length fz, .slice ex m.st.length fx, .slice er m.rs.length fr] 25) = w9 at *
  obtain ⟨q0, q1, q2, _⟩ := HC9.out.c
  obtain ⟨p0, p1, p2, _⟩ := (HC1.out.below HF9.out).c
  go_wp2_with (fail)
  refine (HE.out _ _ _ _ _ _ _ _ _ _ _ _ _ HM9.out (HM2.out.below HF9.out)).mono ?_
  rintro e w10 ⟨rfl, hb⟩
  have HC10 := Lib.hid (HC79.out.below hb)
  have HF10 := Lib.hid (below_chain HF9.out hb)
  have HK10 := Lib.hid (HK9.out.below hb)
  clear hb HC79 HC9 HF9 HK9 HM9 q0 q1 q2 p0 p1 p2
  obtain ⟨q0, q1, q2, _⟩ := HC10.out.c
  go_wp2_with (fail)
  refine (HHD.out _ HK10.out).mono ?_
  rintro e w11 ⟨rfl, hb⟩
  have HFF := Lib.hid (below_chain HB2.out (below_chain HF10.out hb))
  clear hb q0 q1 q2
  go_wp2_with (fail)
  go_ret
  exact ⟨rfl, HFF.out⟩
end Go.Proofs.YtgpmglfcdbpgkaaGreatDoor
