/- Faults of programs on the program's side, IsSound (printed by PGb.py). Condition: the lengths; the keywords lie there. -/
import Derived.Test.YteengjcplmjakaaGreatDoorPGp
namespace Go.Proofs.YteengjcplmjakaaGreatDoor
open Go.RowKit

/-- A box of one slice of strings. -/
def SBox (w : World) (base b : Nat) (v : Value) : Prop := w.ownsRow base 24 1 (.slice (some ⟨b, 0, none⟩) 1 1) 1 [v]
theorem SBox.c {w : World} {base b : Nat} {v : Value} (h : SBox w base b v) : w.cell? ⟨b, 0, none⟩ = some v ∧ w.frozen? ⟨b, 0, none⟩ = false ∧ base ≤ b ∧ b < w.heap.size := ⟨World.ownsRow.cellAt h 0 (by decide), World.ownsRow.frozenAt h 0, own_ge h⟩
theorem SBox.put {w : World} {base b : Nat} {x : Value} (h : SBox w base b x) (v : Value) : SBox (w.setCell ⟨b, 0, none⟩ v) base b v ∧ w.grownBy (w.setCell ⟨b, 0, none⟩ v) (some b) := World.ownsRow.stored h 0 v
set_option maxHeartbeats 4000000 in
set_option maxRecDepth 100000 in
theorem c_fault (p : Prg) (a1 a2 a3 a4 : Option Addr) (c1 c2 c3 c4 : Nat) (w : World) (hs : PgOk p) (hbd : PgB p) (hz : PgZ a1 a2 a3 c1 c2 c3) (h : PgR w a1 a2 a3 a4 p) :
    Calls Tryz.prog 87 #[pv p a1 a2 a3 a4 c1 c2 c3 c4] w fun e w' => ∃ z : Int, e = .returned (.int .i64 z) ∧ (z == 0) = fltB p ∧ Below w.heap.size w w' := by
  have HV := Lib.hid (flt_impl p)
  have HNA := Lib.hid (fun w h => c_names p a1 a2 a3 a4 c1 c2 c3 c4 w hs hz h)
  have HUS := Lib.hid (fun w (h : PgR w a1 a2 a3 a4 p) => c_ContainsLb 138 (pv p a1 a2 a3 a4 c1 c2 c3 c4) (unL p.ins p.vs) a4 c4 _ p.ls w rfl (by have := hbd.l; omega) h.l (Lib.hid (fun wr t a c ht hb hr => c_uses p a1 a2 a3 a4 c1 c2 c3 c4 t a c wr hs (hs.l.2 t ht).2.1 (h.below hb) hr)) (enter_of Tryz.func138 (by kernel_rfl) rfl))
  have H := Lib.hid h
  have HTL : Hid ((tgs p).length = p.ls.length) := Lib.hid (by unfold tgs; rw [List.length_map])
  have HTT : Hid (tgs p = p.ls.map Lin.tg) := Lib.hid rfl
  obtain ⟨nm, ins, vs, os, gd, ls⟩ := p
  have bi := hbd.i
  have bv := hbd.v
  have bo := hbd.o
  have bl := hbd.l
  have HZ := Lib.hid hz
  dsimp only at bi bv bo bl HV HTL HTT HUS
  generalize tgs ⟨nm, ins, vs, os, gd, ls⟩ = TG at *
  have HCI := Lib.hid (fun w h => c_ContainsS a1 c1 _ ins gd w rfl (by omega) h)
  have HCV := Lib.hid (fun w h => c_ContainsS a2 c2 _ vs gd w rfl (by omega) h)
  have HTW := Lib.hid (fun A c n (l : List ByteArray) w hn hl hc hc2 h => c_hasTwice A c n l w hn hl hc hc2 h)
  have HMD : Hid ((vs ++ os).length ≤ 40) := Lib.hid (by rw [List.length_append]; omega)
  have HLL : Hid ((ins ++ (vs ++ os)).length ≤ 60) := Lib.hid (by simp only [List.length_append]; omega)
  have HCC := Lib.hid (fun g w hg hd => c_Concat g 2 2 [⟨vs, a2, c2⟩, ⟨os, a3, c3⟩] w rfl (by decide) hg hd (by simp [catS]; omega))
  have hcat : catS [⟨vs, a2, c2⟩, ⟨os, a3, c3⟩] = vs ++ os := by simp [catS]
  rw [hcat] at HCC
  dsimp only at HNA
  generalize ins ++ (vs ++ os) = LL at *
  generalize vs ++ os = MD at *
  have HF1 := Lib.hid (fun (b : Nat) (A : Option Addr) (c : Nat) (At : Option Addr) (ct : Nat) (w : World) (k : w.cell? ⟨b, 0, none⟩ = some (.slice A MD.length c)) (hr : Rd w A (sts MD)) (ht : Rd w At (sts TG)) =>
    c_ContainsSc 136 (.pointer (some ⟨b, 0, none⟩)) (fun s => !memS MD s) At ct _ TG w HTL.out (by omega) ht (Lib.hid (fun wr s _ hb => c_fault1 b A c _ MD s wr rfl (by have := HMD.out; omega) (cell_later hb k) (hr.below hb))) (enter_of Tryz.func136 (by kernel_rfl) rfl))
  have HF2 := Lib.hid (fun (b : Nat) (A : Option Addr) (c : Nat) (At : Option Addr) (ct : Nat) (w : World) (k : w.cell? ⟨b, 0, none⟩ = some (.slice A ls.length c)) (hr : Rd w A (sts TG)) (ht : Rd w At (sts MD)) =>
    c_ContainsSc 137 (.pointer (some ⟨b, 0, none⟩)) (fun s => !memS TG s) At ct _ MD w rfl (by have := HMD.out; omega) ht (Lib.hid (fun wr s _ hb => c_fault2 b A c _ TG s wr HTL.out.symm (by omega) (cell_later hb k) (hr.below hb))) (enter_of Tryz.func137 (by kernel_rfl) rfl))
  have B0 := Lib.hid (below_alloc (Below.refl w.heap.size w) (.cells #[.string nm, .slice a1 ins.length c1, .slice a2 vs.length c2, .slice a3 os.length c3, .string gd, .slice a4 ls.length c4] 27))
  clear hs h hz hbd hcat
  dsimp only [pv] at *
  generalize fltB ⟨nm, ins, vs, os, gd, ls⟩ = R at *
  generalize (ls.any (unL ins vs)) = x7 at *
  generalize (TG.any fun s => !memS MD s) = x4 at *
  generalize (MD.any fun s => !memS TG s) = x6 at *
  generalize memS ins gd = y1 at *
  generalize memS vs gd = y2 at *
  have k0 : (w.alloc (.cells #[.string nm, .slice a1 ins.length c1, .slice a2 vs.length c2, .slice a3 os.length c3, .string gd, .slice a4 ls.length c4] 27)).cell? ⟨w.heap.size, 0, none⟩ = some (.string nm) := by go_simp
  have k1 : (w.alloc (.cells #[.string nm, .slice a1 ins.length c1, .slice a2 vs.length c2, .slice a3 os.length c3, .string gd, .slice a4 ls.length c4] 27)).cell? ⟨w.heap.size, 1, none⟩ = some (.slice a1 ins.length c1) := by go_simp
  have k2 : (w.alloc (.cells #[.string nm, .slice a1 ins.length c1, .slice a2 vs.length c2, .slice a3 os.length c3, .string gd, .slice a4 ls.length c4] 27)).cell? ⟨w.heap.size, 2, none⟩ = some (.slice a2 vs.length c2) := by go_simp
  have k3 : (w.alloc (.cells #[.string nm, .slice a1 ins.length c1, .slice a2 vs.length c2, .slice a3 os.length c3, .string gd, .slice a4 ls.length c4] 27)).cell? ⟨w.heap.size, 3, none⟩ = some (.slice a3 os.length c3) := by go_simp
  have k4 : (w.alloc (.cells #[.string nm, .slice a1 ins.length c1, .slice a2 vs.length c2, .slice a3 os.length c3, .string gd, .slice a4 ls.length c4] 27)).cell? ⟨w.heap.size, 4, none⟩ = some (.string gd) := by go_simp
  have k5 : (w.alloc (.cells #[.string nm, .slice a1 ins.length c1, .slice a2 vs.length c2, .slice a3 os.length c3, .string gd, .slice a4 ls.length c4] 27)).cell? ⟨w.heap.size, 5, none⟩ = some (.slice a4 ls.length c4) := by go_simp
  have K0 := Lib.hid k0
  have K1 := Lib.hid k1
  have K2 := Lib.hid k2
  have K3 := Lib.hid k3
  have K4 := Lib.hid k4
  have K5 := Lib.hid k5
  clear k0 k1 k2 k3 k4 k5
  go_enter Tryz.func87, Tryz.ntmps87
  go_upto_region 1 with (fail)
  generalize w.alloc (.cells #[.string nm, .slice a1 ins.length c1, .slice a2 vs.length c2, .slice a3 os.length c3, .string gd, .slice a4 ls.length c4] 27) = W at *
  have BV := Lib.hid (below_alloc (Below.refl W.heap.size W) (.cells #[.slice none 0 0] 24))
  have HBX : Hid (SBox (W.alloc (.cells #[.slice none 0 0] 24)) W.heap.size W.heap.size (.slice none 0 0)) := Lib.hid (own_box W W.heap.size 24 [.slice none 0 0] 1 rfl (Nat.le_refl _))
  have hwW : w.heap.size < W.heap.size := by have := World.block_lt_of_cell? _ _ K0.out; exact this
  generalize hln : ls.length = ln at *
  have HLEN := Lib.hid hln
  clear hln
  have k0 := cell_later BV.out K0.out
  have k1 := cell_later BV.out K1.out
  have k2 := cell_later BV.out K2.out
  have k3 := cell_later BV.out K3.out
  have k4 := cell_later BV.out K4.out
  have k5 := cell_later BV.out K5.out
  go_upto_region 2 with (fail)
  generalize W.alloc (.cells #[.slice none 0 0] 24) = WV at *
  go_wp2_with (fail)
  go_loopw [5, 10] (fun _ i wr => ∃ (k : Nat) (A3 : Option Addr) (c3 : Nat), k ≤ ln ∧ i = .int .i64 k ∧ Hid (SBox wr W.heap.size W.heap.size (.slice A3 k c3)) ∧ Hid (wr.ownsRow W.heap.size 9 1 (.slice A3 k c3) k (sts (TG.take k))) ∧ Hid (Below W.heap.size W wr)) (fun _ i _ => ln - (intOf i).toNat)
  case atStart => exact ⟨0, none, 0, Nat.zero_le _, rfl, HBX, Lib.hid (World.ownsRow_nil _ _ _ _), BV⟩
  case round =>
    obtain ⟨k, A3, C3, hk, rfl, hbx, ho, hb⟩ := hrel
    clear HBX BV k0 k1 k2 k3 k4 k5
    by_cases hlt : k < ln
    · obtain ⟨⟨tg, ts⟩, hz⟩ : ∃ z, ls[k]? = some z := ⟨_, List.getElem?_eq_getElem (by have := HLEN.out; omega)⟩
      obtain ⟨b, off, la, lc, rfl, _, g0, g1, hrow⟩ := (H.out.l.below (below_chain B0.out hb.out)).at hz
      dsimp only at g0 g1
      have HTK : Hid (TG.take (k + 1) = TG.take k ++ [tg]) := Lib.hid (by rw [HTT.out, List.take_add_one, List.getElem?_map, hz]; rfl)
      have hk0 : (0 : Int) ≤ (k : Int) := by omega
      have hk1 : (k : Int) < ln := by omega
      clear hz hrow
      generalize ts.length = tn at *
      have hal := below_alloc (Below.refl wr.heap.size wr) (.cells #[.string tg, .slice la tn lc] 80)
      have HB1 := Lib.hid (below_chain hb.out hal)
      have HO1 := Lib.hid (own_below ho.out hal)
      have HX1 := Lib.hid (own_below hbx.out hal)
      have l0 : (wr.alloc (.cells #[.string tg, .slice la tn lc] 80)).cell? ⟨wr.heap.size, 0, none⟩ = some (.string tg) := by go_simp
      obtain ⟨s0, _, _, _⟩ := SBox.c HX1.out
      clear hal ho hbx hb
      go_upto_region 5 with (fail)
      generalize wr.alloc (.cells #[.string tg, .slice la tn lc] 80) = wl at *
      have hl0 := World.block_lt_of_cell? _ _ s0
      dsimp only at hl0
      have HBP := Lib.hid (below_alloc HB1.out (.cells #[.string tg] 9))
      have HXP := Lib.hid (own_below HX1.out (below_alloc (Below.refl wl.heap.size wl) (.cells #[.string tg] 9)))
      go_wp2_with (first
        | (at_builtin
           refine app_strs _ rfl (.tmp 14) (.tmp 17) rfl W.heap.size _ k (TG.take k) rfl (own_below HO1.out (below_alloc (Below.refl _ _) _)) (some ⟨wl.heap.size, 0, none⟩) 1 1 [tg] (by rfl) rfl (rd_one tg) (fun h => by cases h) (by omega) HBP.out.size ?_
           intro v7 w7 hown hgrow
           obtain ⟨A9, c9, rfl⟩ := own_shape hown
           have HB7 := Lib.hid (below_of_grown HBP.out hgrow (fun q hq => (HO1.out.lt q hq).1))
           have HX7 : Hid (SBox w7 W.heap.size W.heap.size (.slice A3 k C3)) := Lib.hid (own_keep HXP.out (own_below HO1.out (below_alloc (Below.refl _ _) _)) (by decide) hgrow)
           have hpt := SBox.put HX7.out (.slice A9 (k + 1) c9)
           have HP := Lib.hid hpt.1
           have HO7 := Lib.hid (own_keep hown HX7.out (by decide) hpt.2)
           have HBF := Lib.hid (below_of_grown HB7.out hpt.2 (fun q hq => by simp at hq; omega))
           obtain ⟨s7, f7, _, _⟩ := SBox.c HX7.out
           clear hown hgrow hpt s0)
        )
      go_roundw
      case rel => exact ⟨k + 1, A9, c9, by omega, by go_num, HP, Lib.hid (by rw [HTK.out]; exact HO7.out), HBF⟩
      case measure => simp [intOf]; omega
    · obtain rfl : k = ln := by omega
      have hO := ho.out
      rw [List.take_of_length_le (by rw [HTL.out]; exact Nat.le_refl _)] at hO
      have HR3 := Lib.hid (Rd.own hO)
      have HCP := Lib.hid (own_cap hO)
      have KB3 := Lib.hid (SBox.c hbx.out).1
      have HB3 := Lib.hid hb.out
      clear hO ho hbx hb HTT
      have k0 := cell_later HB3.out K0.out
      have k1 := cell_later HB3.out K1.out
      have k2 := cell_later HB3.out K2.out
      have k3 := cell_later HB3.out K3.out
      have k4 := cell_later HB3.out K4.out
      have k5 := cell_later HB3.out K5.out
      have hk1 := World.block_lt_of_cell? _ _ k1
      dsimp only at hk1
      have hba := below_alloc (Below.refl wr.heap.size wr) (.cells #[.slice a2 vs.length c2, .slice a3 os.length c3] 24)
      have HB4 := Lib.hid (below_chain HB3.out hba)
      have HCD := Lib.hid (HCC.out wr.heap.size (wr.alloc (.cells #[.slice a2 vs.length c2, .slice a3 os.length c3] 24)) (fun k d hd => by
        match k, hd with
        | 0, hd => simp only [List.getElem?_cons_zero, Option.some.injEq] at hd; subst hd; go_simp; first | done | rfl
        | 1, hd => simp only [List.getElem?_cons_succ, List.getElem?_cons_zero, Option.some.injEq] at hd; subst hd; go_simp; first | done | rfl
        | k + 2, hd => simp at hd) (fun d hd => by
        simp only [List.mem_cons, List.not_mem_nil, or_false] at hd
        rcases hd with rfl | rfl
        · exact ⟨(H.out.v.below B0.out).below HB4.out, HZ.out.2.1⟩
        · exact ⟨(H.out.o.below B0.out).below HB4.out, HZ.out.2.2⟩))
      have HR4 := Lib.hid (HR3.out.below hba)
      have K4B := Lib.hid (cell_later hba KB3.out)
      clear hba HCC
      go_wp2_with (fail)
      refine HCD.out.mono ?_
      rintro e w5 ⟨A7, C7, rfl, hr7, hcc, hb⟩
      have hal := below_alloc (Below.refl w5.heap.size w5) (.cells #[.slice A7 MD.length C7] 24)
      have HB5 := Lib.hid (below_chain (below_chain HB4.out hb) hal)
      have HR5 := Lib.hid ((HR4.out.below hb).below hal)
      have HR7 := Lib.hid (hr7.below hal)
      have K5B := Lib.hid (cell_later hal (cell_later hb K4B.out))
      have K6B : Hid ((w5.alloc (.cells #[.slice A7 MD.length C7] 24)).cell? ⟨w5.heap.size, 0, none⟩ = some (.slice A7 MD.length C7)) := Lib.hid (by go_simp)
      have HC7 := Lib.hid hcc
      clear hr7 hcc hb hal HCD hk1 k0 k1 k2 k3 k4 k5 HR4 K4B HR3 KB3 HB3 HB4
      go_upto_region 8 with (fail)
      generalize w5.alloc (.cells #[.slice A7 MD.length C7] 24) = w6 at *
      generalize w5.heap.size = b6 at *
      have k0 := cell_later HB5.out K0.out
      have k1 := cell_later HB5.out K1.out
      have k2 := cell_later HB5.out K2.out
      have k3 := cell_later HB5.out K3.out
      have k4 := cell_later HB5.out K4.out
      have k5 := cell_later HB5.out K5.out
      go_wp2_with (fail)
      refine (HNA.out _ ((H.out.below B0.out).below HB5.out)).mono ?_
      rintro e w7 ⟨A8, C8, rfl, hr8, hcc, hb⟩
      have B7 := Lib.hid hb
      have HT8 := Lib.hid (HTW.out A8 C8 _ LL w7 rfl (by have := HLL.out; omega) hcc.1 hcc.2 hr8)
      generalize twB LL = x1 at *
      clear hr8 hcc hb k0 k1 k2 k3 k4 k5 HNA
      go_wp2_with (fail)
      refine HT8.out.mono ?_
      rintro e w8 ⟨rfl, hb⟩
      have B8 := Lib.hid (below_chain B7.out hb)
      have HB8 := Lib.hid (below_chain HB5.out B8.out)
      clear hb HT8 B7
      cases x1
      rotate_left
      · obtain rfl : R = false := by rw [HV.out]; rfl
        go_wp2_with (fail)
        go_ret
        exact ⟨1, rfl, rfl, below_chain B0.out HB8.out⟩
      go_upto_region 10 with (fail)
      go_cut [30] from 31 to 49 (fun v wx => ∃ y : Bool, v = .bool y ∧ Hid (y = !(gd.toList.isEmpty || (y1 || y2))) ∧ Hid (Below w8.heap.size w8 wx))
      case first =>
        have k0 := cell_later HB8.out K0.out
        have k1 := cell_later HB8.out K1.out
        have k2 := cell_later HB8.out K2.out
        have k3 := cell_later HB8.out K3.out
        have k4 := cell_later HB8.out K4.out
        have k5 := cell_later HB8.out K5.out
        rcases hg : gd.toList.isEmpty with _ | _
        · go_wp2_with (fail)
          refine (HCI.out _ ((H.out.i.below B0.out).below HB8.out)).mono ?_
          rintro e w9 ⟨rfl, hb⟩
          have B9 := Lib.hid hb
          have HB9 := Lib.hid (below_chain HB8.out hb)
          clear hb k0 k1 k2 k3 k4 k5
          have k0 := cell_later HB9.out K0.out
          have k1 := cell_later HB9.out K1.out
          have k2 := cell_later HB9.out K2.out
          have k3 := cell_later HB9.out K3.out
          have k4 := cell_later HB9.out K4.out
          have k5 := cell_later HB9.out K5.out
          cases y1
          · go_wp2_with (fail)
            refine (HCV.out _ ((H.out.v.below B0.out).below HB9.out)).mono ?_
            rintro e w10 ⟨rfl, hb⟩
            have B10 := Lib.hid (below_chain B9.out hb)
            clear hb
            go_wp2_with (fail)
            go_meet
            case rel => exact ⟨!y2, by first | rfl | simp, Lib.hid (by rw [hg]; rfl), B10⟩
          · go_wp2_with (fail)
            go_meet
            case rel => exact ⟨false, rfl, Lib.hid (by rw [hg]; rfl), B9⟩
        · go_wp2_with (fail)
          go_meet
          case rel => exact ⟨false, rfl, Lib.hid (by rw [hg]; rfl), Lib.hid (Below.refl _ _)⟩
      case rest =>
        obtain ⟨wA, rfl⟩ : ∃ wA, wA = wc := ⟨_, rfl⟩
        obtain ⟨y, rfl, hy, BA⟩ := hcut
        have HBA := Lib.hid (below_chain HB8.out BA.out)
        have HA6 := Lib.hid (below_chain B8.out BA.out)
        generalize (gd.toList.isEmpty || (y1 || y2)) = G at *
        cases y
        rotate_left
        · obtain rfl : G = false := by have := hy.out; cases G with | false => rfl | true => cases this
          obtain rfl : R = false := by rw [HV.out]; rfl
          go_wp2_with (fail)
          go_ret
          exact ⟨2, rfl, rfl, below_chain B0.out HBA.out⟩
        obtain rfl : G = true := by have := hy.out; cases G with | true => rfl | false => cases this
        clear hy BA HB8 B8 HB5
        have q3 := cell_later HA6.out K5B.out
        have q6 := cell_later HA6.out K6B.out
        go_wp2_with (fail)
        refine (HF1.out b6 A7 C7 A3 C3 _ q6 (HR7.out.below HA6.out) (HR5.out.below HA6.out)).mono ?_
        rintro e w11 ⟨rfl, hb⟩
        have HA7 := Lib.hid (below_chain HA6.out hb)
        have HB11 := Lib.hid (below_chain HBA.out hb)
        clear hb q3 q6
        cases x4
        rotate_left
        · obtain rfl : R = false := by rw [HV.out]; rfl
          go_wp2_with (fail)
          go_ret
          exact ⟨3, rfl, rfl, below_chain B0.out HB11.out⟩
        have q3 := cell_later HA7.out K5B.out
        have q6 := cell_later HA7.out K6B.out
        have HT9 := Lib.hid (HTW.out A3 C3 k TG w11 (by rw [HTL.out]) (by omega) HCP.out.1 HCP.out.2 (HR5.out.below HA7.out))
        generalize twB TG = x5 at *
        go_wp2_with (fail)
        refine HT9.out.mono ?_
        rintro e w12 ⟨rfl, hb⟩
        have HA8 := Lib.hid (below_chain HA7.out hb)
        have HB12 := Lib.hid (below_chain HB11.out hb)
        clear hb q3 q6 HT9
        cases x5
        rotate_left
        · obtain rfl : R = false := by rw [HV.out]; rfl
          go_wp2_with (fail)
          go_ret
          exact ⟨4, rfl, rfl, below_chain B0.out HB12.out⟩
        have q3 := cell_later HA8.out K5B.out
        have q6 := cell_later HA8.out K6B.out
        go_wp2_with (fail)
        refine (HF2.out W.heap.size A3 C3 A7 C7 _ q3 (HR5.out.below HA8.out) (HR7.out.below HA8.out)).mono ?_
        rintro e w13 ⟨rfl, hb⟩
        have HB13 := Lib.hid (below_chain HB12.out hb)
        clear hb q3 q6
        cases x6
        rotate_left
        · obtain rfl : R = false := by rw [HV.out]; rfl
          go_wp2_with (fail)
          go_ret
          exact ⟨5, rfl, rfl, below_chain B0.out HB13.out⟩
        have k0 := cell_later HB13.out K0.out
        have k1 := cell_later HB13.out K1.out
        have k2 := cell_later HB13.out K2.out
        have k3 := cell_later HB13.out K3.out
        have k4 := cell_later HB13.out K4.out
        have k5 := cell_later HB13.out K5.out
        go_wp2_with (fail)
        refine (HUS.out _ ((H.out.below B0.out).below HB13.out)).mono ?_
        rintro e w14 ⟨rfl, hb⟩
        have HB14 := Lib.hid (below_chain HB13.out hb)
        clear hb
        cases x7
        rotate_left
        · obtain rfl : R = false := by rw [HV.out]; rfl
          go_wp2_with (fail)
          go_ret
          exact ⟨6, rfl, rfl, below_chain B0.out HB14.out⟩
        obtain rfl : R = true := by rw [HV.out]; rfl
        go_wp2_with (fail)
        go_ret
        exact ⟨0, rfl, rfl, below_chain B0.out HB14.out⟩
set_option maxHeartbeats 1000000 in
set_option maxRecDepth 100000 in
theorem c_IsSound (p : Prg) (a1 a2 a3 a4 : Option Addr) (c1 c2 c3 c4 : Nat) (w : World) (hs : PgOk p) (hz : PgZ a1 a2 a3 c1 c2 c3) (h : PgR w a1 a2 a3 a4 p) (hk : KwR w) :
    Calls Tryz.prog 40 #[pv p a1 a2 a3 a4 c1 c2 c3 c4] w fun e w' => e = .returned (.bool (wrB p && fltB p)) ∧ Below w.heap.size w w' := by
  have HW := Lib.hid (fun w h hk => c_IsWritten p a1 a2 a3 a4 c1 c2 c3 c4 w hs hz h hk)
  have HF := Lib.hid (fun w hb h => c_fault p a1 a2 a3 a4 c1 c2 c3 c4 w hs hb hz h)
  have HB := Lib.hid (fun h => wr_bd (p := p) h)
  have H := Lib.hid h
  have HK := Lib.hid hk
  generalize wrB p = x1 at *
  generalize fltB p = x2 at *
  obtain ⟨nm, ins, vs, os, gd, ls⟩ := p
  have B0 := Lib.hid (below_alloc (Below.refl w.heap.size w) (.cells #[.string nm, .slice a1 ins.length c1, .slice a2 vs.length c2, .slice a3 os.length c3, .string gd, .slice a4 ls.length c4] 27))
  clear hs h hz hk
  dsimp only [pv] at *
  have k0 : (w.alloc (.cells #[.string nm, .slice a1 ins.length c1, .slice a2 vs.length c2, .slice a3 os.length c3, .string gd, .slice a4 ls.length c4] 27)).cell? ⟨w.heap.size, 0, none⟩ = some (.string nm) := by go_simp
  have k1 : (w.alloc (.cells #[.string nm, .slice a1 ins.length c1, .slice a2 vs.length c2, .slice a3 os.length c3, .string gd, .slice a4 ls.length c4] 27)).cell? ⟨w.heap.size, 1, none⟩ = some (.slice a1 ins.length c1) := by go_simp
  have k2 : (w.alloc (.cells #[.string nm, .slice a1 ins.length c1, .slice a2 vs.length c2, .slice a3 os.length c3, .string gd, .slice a4 ls.length c4] 27)).cell? ⟨w.heap.size, 2, none⟩ = some (.slice a2 vs.length c2) := by go_simp
  have k3 : (w.alloc (.cells #[.string nm, .slice a1 ins.length c1, .slice a2 vs.length c2, .slice a3 os.length c3, .string gd, .slice a4 ls.length c4] 27)).cell? ⟨w.heap.size, 3, none⟩ = some (.slice a3 os.length c3) := by go_simp
  have k4 : (w.alloc (.cells #[.string nm, .slice a1 ins.length c1, .slice a2 vs.length c2, .slice a3 os.length c3, .string gd, .slice a4 ls.length c4] 27)).cell? ⟨w.heap.size, 4, none⟩ = some (.string gd) := by go_simp
  have k5 : (w.alloc (.cells #[.string nm, .slice a1 ins.length c1, .slice a2 vs.length c2, .slice a3 os.length c3, .string gd, .slice a4 ls.length c4] 27)).cell? ⟨w.heap.size, 5, none⟩ = some (.slice a4 ls.length c4) := by go_simp
  have K0 := Lib.hid k0
  have K1 := Lib.hid k1
  have K2 := Lib.hid k2
  have K3 := Lib.hid k3
  have K4 := Lib.hid k4
  have K5 := Lib.hid k5
  clear k0 k1 k2 k3 k4 k5
  go_enter Tryz.func40, Tryz.ntmps40
  go_upto_region 1 with (fail)
  generalize w.alloc (.cells #[.string nm, .slice a1 ins.length c1, .slice a2 vs.length c2, .slice a3 os.length c3, .string gd, .slice a4 ls.length c4] 27) = W at *
  have k0 := K0.out
  have k1 := K1.out
  have k2 := K2.out
  have k3 := K3.out
  have k4 := K4.out
  have k5 := K5.out
  go_wp2_with (fail)
  refine (HW.out _ (H.out.below B0.out) (HK.out.below B0.out)).mono ?_
  rintro e w1 ⟨rfl, hb⟩
  have B1 := Lib.hid hb
  clear hb k0 k1 k2 k3 k4 k5
  have k0 := cell_later B1.out K0.out
  have k1 := cell_later B1.out K1.out
  have k2 := cell_later B1.out K2.out
  have k3 := cell_later B1.out K3.out
  have k4 := cell_later B1.out K4.out
  have k5 := cell_later B1.out K5.out
  cases x1
  · go_wp2_with (fail)
    go_ret
    exact ⟨rfl, below_chain B0.out B1.out⟩
  go_wp2_with (fail)
  refine (HF.out _ (HB.out (by first | rfl | trivial)) ((H.out.below B0.out).below B1.out)).mono ?_
  rintro e w2 ⟨z, rfl, hz2, hb⟩
  have B2 := Lib.hid (below_chain B1.out hb)
  have HZ := Lib.hid hz2
  clear hb hz2
  go_wp2_with (fail)
  go_ret
  exact ⟨by rw [← HZ.out]; rfl, below_chain B0.out B2.out⟩
end Go.Proofs.YteengjcplmjakaaGreatDoor
