/- Faults of programs on the reference's side (printed by PFa.py). Condition: the program is written. -/
import Derived.Test.YteengjcplmjakaaGreatDoorPFs
import Derived.Deep.Cut
import Derived.Deep.CutRange
import Derived.Deep.CutBlock
namespace Go.Proofs.YteengjcplmjakaaGreatDoor
open Go.RowKit

/-- The lengths of a written program. -/
structure PgB (p : Prg) : Prop where
  i : p.ins.length ≤ 20
  v : p.vs.length ≤ 20
  o : p.os.length ≤ 20
  l : p.ls.length ≤ 40
  t : ∀ l ∈ p.ls, l.ts.length ≤ 40
theorem wr_bd {p : Prg} (h : wrB p = true) : PgB p := by
  unfold wrB namesB inB at h
  simp only [Bool.and_eq_true, decide_eq_true_eq] at h
  obtain ⟨_, ⟨_, h2⟩, ⟨_, h3⟩, ⟨_, h4⟩, _, h5, h6⟩ := h
  refine ⟨by omega, by omega, by omega, by omega, fun l hl => ?_⟩
  have := List.all_eq_true.1 h5 l hl
  unfold linB exB at this
  simp at this
  omega
def tgs (p : Prg) : List ByteArray := p.ls.map Lin.tg
/-- A term that names nothing that can be read. -/
def unT (ins vs : List ByteArray) (t : Tm) : Bool := t.k == 1 && !(memS ins t.nm || memS vs t.nm)
def unL (ins vs : List ByteArray) (l : Lin) : Bool := l.ts.any (unT ins vs)
def tgB (vs os : List ByteArray) (l : Lin) : Bool := memS vs l.tg || memS os l.tg
/-- A written program without a fault. -/
def fltB (p : Prg) : Bool := !twB (p.ins ++ p.vs ++ p.os) && ((p.gd.toList.isEmpty || (memS p.ins p.gd || memS p.vs p.gd)) && (p.ls.all (tgB p.vs p.os) && (!twB (tgs p) && (!decide (p.ls.length < p.vs.length + p.os.length) && !p.ls.any (unL p.ins p.vs)))))
theorem anyB_snoc {α : Type} {p : α → Bool} {l : List α} {k : Nat} {t : α} (hz : l[k]? = some t) (h : (l.take k).any p = false) (h2 : p t = false) : (l.take (k + 1)).any p = false := any_take_snoc hz h h2
theorem anyB_bad {α : Type} {p : α → Bool} {l : List α} {k : Nat} {t : α} (hz : l[k]? = some t) (h2 : p t = true) : l.any p = true := by
  rw [List.any_eq_true]
  exact ⟨t, List.mem_of_getElem? hz, h2⟩
theorem rd_one {w : World} (s : ByteArray) : Rd (w.alloc (.cells #[.string s] 9)) (some ⟨w.heap.size, 0, none⟩) (sts [s]) := by
  have h := World.ownsRow_lit (e := 9) (size := 1) (base := w.heap.size) w #[.string s] 1 (by simp) (by decide) (by simp)
  simpa [sts] using Rd.own h
set_option maxHeartbeats 4000000 in
set_option maxRecDepth 100000 in
theorem c_l14Fault (p : Prg) (a1 a2 a3 a4 : Option Addr) (c1 c2 c3 c4 : Nat) (w : World) (hs : PgOk p) (hbd : PgB p) (hz : PgZ a1 a2 a3 c1 c2 c3) (h : PgR w a1 a2 a3 a4 p) :
    Calls Tryz.prog 93 #[pv p a1 a2 a3 a4 c1 c2 c3 c4] w fun e w' => ∃ z : Int, e = .returned (.int .i64 z) ∧ (z == 0) = fltB p ∧ Below w.heap.size w w' := by
  have HAL := Lib.hid (fun w h => c_l14All p a1 a2 a3 a4 c1 c2 c3 c4 w hs hz h)
  have HRE := Lib.hid (fun s w h => c_l14Readable p a1 a2 a3 a4 c1 c2 c3 c4 s w hs h)
  have H := Lib.hid h
  obtain ⟨nm, ins, vs, os, gd, ls⟩ := p
  have HV : Hid (fltB ⟨nm, ins, vs, os, gd, ls⟩ = (!twB (ins ++ vs ++ os) && ((gd.toList.isEmpty || (memS ins gd || memS vs gd)) && (ls.all (tgB vs os) && (!twB (ls.map Lin.tg) && (!decide (ls.length < vs.length + os.length) && !ls.any (unL ins vs))))))) := Lib.hid rfl
  have bi := hbd.i
  have bv := hbd.v
  have bo := hbd.o
  have bl := hbd.l
  have BT := Lib.hid hbd.t
  dsimp only at bi bv bo bl
  have HIV := Lib.hid (fun s w h => c_l14Index a2 c2 _ vs s w rfl (by omega) h)
  have HIO := Lib.hid (fun s w h => c_l14Index a3 c3 _ os s w rfl (by omega) h)
  have HTW := Lib.hid (fun A c (l : List ByteArray) w hl hc hc2 h => c_l14Twice A c l.length l w rfl hl hc hc2 h)
  have B0 := Lib.hid (below_alloc (Below.refl w.heap.size w) (.cells #[.string nm, .slice a1 ins.length c1, .slice a2 vs.length c2, .slice a3 os.length c3, .string gd, .slice a4 ls.length c4] 27))
  clear hs h hz hbd
  dsimp only [pv] at *
  generalize fltB ⟨nm, ins, vs, os, gd, ls⟩ = R at *
  have k0 : (w.alloc (.cells #[.string nm, .slice a1 ins.length c1, .slice a2 vs.length c2, .slice a3 os.length c3, .string gd, .slice a4 ls.length c4] 27)).cell? ⟨w.heap.size, 0, none⟩ = some (.string nm) := by go_simp
  have k1 : (w.alloc (.cells #[.string nm, .slice a1 ins.length c1, .slice a2 vs.length c2, .slice a3 os.length c3, .string gd, .slice a4 ls.length c4] 27)).cell? ⟨w.heap.size, 1, none⟩ = some (.slice a1 ins.length c1) := by go_simp
  have k2 : (w.alloc (.cells #[.string nm, .slice a1 ins.length c1, .slice a2 vs.length c2, .slice a3 os.length c3, .string gd, .slice a4 ls.length c4] 27)).cell? ⟨w.heap.size, 2, none⟩ = some (.slice a2 vs.length c2) := by go_simp
  have k3 : (w.alloc (.cells #[.string nm, .slice a1 ins.length c1, .slice a2 vs.length c2, .slice a3 os.length c3, .string gd, .slice a4 ls.length c4] 27)).cell? ⟨w.heap.size, 3, none⟩ = some (.slice a3 os.length c3) := by go_simp
  have k4 : (w.alloc (.cells #[.string nm, .slice a1 ins.length c1, .slice a2 vs.length c2, .slice a3 os.length c3, .string gd, .slice a4 ls.length c4] 27)).cell? ⟨w.heap.size, 4, none⟩ = some (.string gd) := by go_simp
  have k5 : (w.alloc (.cells #[.string nm, .slice a1 ins.length c1, .slice a2 vs.length c2, .slice a3 os.length c3, .string gd, .slice a4 ls.length c4] 27)).cell? ⟨w.heap.size, 5, none⟩ = some (.slice a4 ls.length c4) := by go_simp
  have K0 := Lib.hid k0
  have K1 := Lib.hid k1
  have K2 := Lib.hid k2
  have K3 := Lib.hid k3
  have K4 := Lib.hid k4
  have K5 := Lib.hid k5
  clear k0 k1 k2 k3 k4 k5
  go_enter Tryz.func93, Tryz.ntmps93
  go_upto_region 1 with (fail)
  generalize w.alloc (.cells #[.string nm, .slice a1 ins.length c1, .slice a2 vs.length c2, .slice a3 os.length c3, .string gd, .slice a4 ls.length c4] 27) = W at *
  have HLL : Hid ((ins ++ vs ++ os).length ≤ 60) := Lib.hid (by simp only [List.length_append]; omega)
  generalize ins ++ vs ++ os = LL at *
  have k0 := K0.out
  have k1 := K1.out
  have k2 := K2.out
  have k3 := K3.out
  have k4 := K4.out
  have k5 := K5.out
  go_wp2_with (fail)
  refine (HAL.out _ (H.out.below B0.out)).mono ?_
  rintro e w1 ⟨A1, C1, rfl, ho, hb⟩
  have HO1 := Lib.hid ho
  have B1 := Lib.hid hb
  have HT1 := Lib.hid (HTW.out A1 C1 LL w1 (by have := HLL.out; omega) (own_cap ho).1 (own_cap ho).2 (Rd.own ho))
  clear ho hb k0 k1 k2 k3 k4 k5
  generalize twB LL = x1 at *
  go_wp2_with (fail)
  refine HT1.out.mono ?_
  rintro e w2 ⟨rfl, hb⟩
  have B2 := Lib.hid (below_chain B1.out hb)
  clear hb HT1 HO1 B1 HAL
  cases x1
  rotate_left
  · obtain rfl : R = false := by rw [HV.out]; rfl
    go_wp2_with (fail)
    go_ret
    exact ⟨1, rfl, rfl, below_chain B0.out B2.out⟩
  have HGR := Lib.hid (fun w h => HRE.out gd w h)
  generalize (memS ins gd || memS vs gd) = x2 at *
  go_upto_region 3 with (fail)
  go_cut [21] from 12 to 20 (fun v wx => ∃ y : Bool, v = .bool y ∧ Hid (y = !(gd.toList.isEmpty || x2)) ∧ Hid (Below W.heap.size W wx))
  case first =>
    have k0 := cell_later B2.out K0.out
    have k1 := cell_later B2.out K1.out
    have k2 := cell_later B2.out K2.out
    have k3 := cell_later B2.out K3.out
    have k4 := cell_later B2.out K4.out
    have k5 := cell_later B2.out K5.out
    rcases hg : gd.toList.isEmpty with _ | _
    · go_wp2_with (fail)
      refine (HGR.out _ ((H.out.below B0.out).below B2.out)).mono ?_
      rintro e w3 ⟨rfl, hb⟩
      have B3 := Lib.hid (below_chain B2.out hb)
      clear hb
      go_wp2_with (fail)
      go_meet
      case rel => exact ⟨!x2, by first | rfl | simp, Lib.hid (by rw [hg]; rfl), B3⟩
    · go_wp2_with (fail)
      go_meet
      case rel => exact ⟨false, rfl, Lib.hid (by rw [hg]; rfl), B2⟩
  case rest =>
    clear B2
    obtain ⟨wA, rfl⟩ : ∃ wA, wA = wc := ⟨_, rfl⟩
    obtain ⟨y, rfl, hy, B2⟩ := hcut
    generalize (gd.toList.isEmpty || x2) = G at *
    cases y
    rotate_left
    · obtain rfl : G = false := by have := hy.out; cases G with | false => rfl | true => cases this
      obtain rfl : R = false := by rw [HV.out]; rfl
      go_wp2_with (fail)
      go_ret
      exact ⟨2, rfl, rfl, below_chain B0.out B2.out⟩
    obtain rfl : G = true := by have := hy.out; cases G with | true => rfl | false => cases this
    clear hy
    have BA := Lib.hid (below_alloc B2.out (.cells #[] 9))
    have HOA : Hid ((wA.alloc (.cells #[] 9)).ownsRow W.heap.size 9 1 (.slice (some ⟨wA.heap.size, 0, none⟩) 0 0) 0 (sts ((ls.map Lin.tg).take 0))) := Lib.hid (by
      have h := World.ownsRow_lit (e := 9) (size := 1) (base := W.heap.size) wA #[] 0 B2.out.size (by decide) (by simp)
      simpa [sts] using h)
    have HLN := Lib.hid (rfl : ls.length = ls.length)
    generalize hln : ls.length = ln at *
    have HLEN := Lib.hid hln
    clear hln HLN
    go_wp2_with (fail)
    go_loopw [3, 4, 5] (fun u i _ wr => ∃ (k : Nat) (A3 : Option Addr) (c3 : Nat), k ≤ ln ∧ i = .int .i64 k ∧ u = .slice A3 k c3 ∧ Hid (wr.ownsRow W.heap.size 9 1 (.slice A3 k c3) k (sts ((ls.map Lin.tg).take k))) ∧ Hid ((ls.take k).all (tgB vs os) = true) ∧ Hid (Below W.heap.size W wr)) (fun _ i _ _ => ln - (intOf i).toNat)
    case atStart => exact ⟨0, _, _, Nat.zero_le _, rfl, rfl, HOA, Lib.hid rfl, BA⟩
    case round =>
      obtain ⟨k, A3, C3, hk, rfl, rfl, ho, ha, hb⟩ := hrel
      clear HOA BA
      have k0 := cell_later hb.out K0.out
      have k1 := cell_later hb.out K1.out
      have k2 := cell_later hb.out K2.out
      have k3 := cell_later hb.out K3.out
      have k4 := cell_later hb.out K4.out
      have k5 := cell_later hb.out K5.out
      by_cases hlt : k < ln
      · obtain ⟨⟨tg, ts⟩, hz⟩ : ∃ z, ls[k]? = some z := ⟨_, List.getElem?_eq_getElem (by have := HLEN.out; omega)⟩
        obtain ⟨b, off, la, lc, rfl, _, g0, g1, hrow⟩ := (H.out.l.below (below_chain B0.out hb.out)).at hz
        dsimp only at g0
        have hk0 : (0 : Int) ≤ (k : Int) := by omega
        have hk1 : (k : Int) < ln := by omega
        have HL : Hid (tgB vs os ⟨tg, ts⟩ = (memS vs tg || memS os tg)) := Lib.hid rfl
        have HT := Lib.hid (fun h : tgB vs os ⟨tg, ts⟩ = true => allB_snoc hz ha.out h)
        have HF := Lib.hid (fun h : tgB vs os ⟨tg, ts⟩ = false => allB_bad hz h)
        have HTK : Hid ((ls.map Lin.tg).take (k + 1) = (ls.map Lin.tg).take k ++ [tg]) := Lib.hid (by rw [List.take_add_one, List.getElem?_map, hz]; rfl)
        generalize tgB vs os ⟨tg, ts⟩ = q at HL HT HF
        have H1 := Lib.hid (HIV.out tg)
        have H2 := Lib.hid (HIO.out tg)
        have N1 := Lib.hid (ixS_nn tg vs)
        have N2 := Lib.hid (ixS_nn tg os)
        generalize memS vs tg = q1 at *
        generalize memS os tg = q2 at *
        generalize ixS vs tg = z1 at *
        generalize ixS os tg = z2 at *
        clear hz hrow g1
        go_wp2_with (fail)
        refine (H1.out _ (H.out.v.below (below_chain B0.out hb.out))).mono ?_
        rintro e w4 ⟨rfl, hb4⟩
        have HB4 := Lib.hid (below_chain hb.out hb4)
        have HO4 := Lib.hid (own_below ho.out hb4)
        clear hb4 k0 k1 k2 k3 k4 k5 g0
        have k0 := cell_later HB4.out K0.out
        have k1 := cell_later HB4.out K1.out
        have k2 := cell_later HB4.out K2.out
        have k3 := cell_later HB4.out K3.out
        have k4 := cell_later HB4.out K4.out
        have k5 := cell_later HB4.out K5.out
        cases q1
        · have hz1 : z1 < 0 := by have := of_decide_eq_false N1.out; omega
          go_wp2_with (fail)
          refine (H2.out _ (H.out.o.below (below_chain B0.out HB4.out))).mono ?_
          rintro e w5 ⟨rfl, hb5⟩
          have HB5 := Lib.hid (below_chain HB4.out hb5)
          have HO5 := Lib.hid (own_below HO4.out hb5)
          clear hb5 k0 k1 k2 k3 k4 k5
          cases q2
          · have hz2 : z2 < 0 := by have := of_decide_eq_false N2.out; omega
            obtain rfl : R = false := by rw [HV.out, HF.out (by rw [HL.out]; rfl)]; rfl
            go_wp2_with (fail)
            go_ret
            exact ⟨3, rfl, rfl, below_chain B0.out HB5.out⟩
          · have hz2 : ¬ z2 < 0 := by have := of_decide_eq_true N2.out; omega
            have HA := Lib.hid (HT.out (by rw [HL.out]; rfl))
            clear HT HF HL
            go_upto_region 12 with (fail)
            clear hz1 hz2
            have HBP := Lib.hid (below_alloc HB5.out (.cells #[.string tg] 9))
            go_wp2_with (first
              | (at_builtin
                 refine app_strs _ rfl (.tmp 48) (.tmp 50) rfl W.heap.size _ k ((ls.map Lin.tg).take k) rfl (own_below HO5.out (below_alloc (Below.refl _ _) _)) (some ⟨w5.heap.size, 0, none⟩) 1 1 [tg] (by rfl) rfl (rd_one tg) (fun h => by cases h) (by omega) HBP.out.size ?_
                 intro v7 w7 hown hgrow
                 obtain ⟨A9, c9, rfl⟩ := own_shape hown
                 have HB7 := Lib.hid (below_of_grown HBP.out hgrow (fun q hq => (HO5.out.lt q hq).1))
                 have HO7 := Lib.hid hown
                 clear hown hgrow)
              )
            go_roundw
            case rel => exact ⟨k + 1, A9, c9, by omega, by go_num, rfl, Lib.hid (by rw [HTK.out]; exact HO7.out), HA, HB7⟩
            case measure => simp [intOf]; omega
        · have hz1 : ¬ z1 < 0 := by have := of_decide_eq_true N1.out; omega
          have HA := Lib.hid (HT.out (by rw [HL.out]; rfl))
          clear HT HF HL
          go_upto_region 12 with (fail)
          clear hz1
          have HBP := Lib.hid (below_alloc HB4.out (.cells #[.string tg] 9))
          go_wp2_with (first
            | (at_builtin
               refine app_strs _ rfl (.tmp 48) (.tmp 50) rfl W.heap.size _ k ((ls.map Lin.tg).take k) rfl (own_below HO4.out (below_alloc (Below.refl _ _) _)) (some ⟨w4.heap.size, 0, none⟩) 1 1 [tg] (by rfl) rfl (rd_one tg) (fun h => by cases h) (by omega) HBP.out.size ?_
               intro v7 w7 hown hgrow
               obtain ⟨A9, c9, rfl⟩ := own_shape hown
               have HB7 := Lib.hid (below_of_grown HBP.out hgrow (fun q hq => (HO4.out.lt q hq).1))
               have HO7 := Lib.hid hown
               clear hown hgrow)
            )
          go_roundw
          case rel => exact ⟨k + 1, A9, c9, by omega, by go_num, rfl, Lib.hid (by rw [HTK.out]; exact HO7.out), HA, HB7⟩
          case measure => simp [intOf]; omega
      · obtain rfl : k = ln := by omega
        have hA := ha.out
        rw [List.take_of_length_le (by have := HLEN.out; omega)] at hA
        have hO := ho.out
        rw [List.take_of_length_le (by rw [List.length_map]; have := HLEN.out; omega)] at hO
        have hml : (ls.map Lin.tg).length = k := by rw [List.length_map]; exact HLEN.out
        have HT4 := Lib.hid (HTW.out A3 C3 (ls.map Lin.tg) wr (by omega) (by rw [hml]; exact (own_cap hO).1) (own_cap hO).2 (Rd.own hO))
        rw [hml] at HT4
        rw [hA] at HV
        clear hA hO hml
        generalize twB (ls.map Lin.tg) = x4 at *
        go_wp2_with (fail)
        refine HT4.out.mono ?_
        rintro e w4 ⟨rfl, hb4⟩
        have HB4 := Lib.hid (below_chain hb.out hb4)
        clear hb4 k0 k1 k2 k3 k4 k5 HT4 ho ha
        have k0 := cell_later HB4.out K0.out
        have k1 := cell_later HB4.out K1.out
        have k2 := cell_later HB4.out K2.out
        have k3 := cell_later HB4.out K3.out
        have k4 := cell_later HB4.out K4.out
        have k5 := cell_later HB4.out K5.out
        cases x4
        rotate_left
        · obtain rfl : R = false := by rw [HV.out]; rfl
          go_wp2_with (fail)
          go_ret
          exact ⟨4, rfl, rfl, below_chain B0.out HB4.out⟩
        have hw5 : IntKind.i64.wrap ((vs.length : Int) + os.length) = vs.length + os.length := IntWalk.i64_in _ (by omega)
        by_cases e5 : k < vs.length + os.length
        · have e5i : (k : Int) < (vs.length : Int) + os.length := by omega
          obtain rfl : R = false := by rw [HV.out, decide_eq_true e5]; rfl
          go_wp2_with (fail)
          go_ret
          exact ⟨5, rfl, rfl, below_chain B0.out HB4.out⟩
        have e5i : ¬ (k : Int) < (vs.length : Int) + os.length := by omega
        have HV2 : Hid (R = !ls.any (unL ins vs)) := Lib.hid (by rw [HV.out, decide_eq_false e5]; rfl)
        clear HV hb
        go_upto_region 17 with (fail)
        clear e5i e5 hw5
        go_wp2_with (fail)
        go_loopw [6, 7, 8] (fun i _ _ wr => ∃ j : Nat, j ≤ k ∧ i = .int .i64 j ∧ Hid ((ls.take j).any (unL ins vs) = false) ∧ Hid (Below W.heap.size W wr)) (fun i _ _ _ => k - (intOf i).toNat)
        case atStart => exact ⟨0, Nat.zero_le _, rfl, Lib.hid rfl, HB4⟩
        case round =>
          obtain ⟨j, hj, rfl, ha, hb⟩ := hrel
          clear k0 k1 k2 k3 k4 k5
          have k0 := cell_later hb.out K0.out
          have k1 := cell_later hb.out K1.out
          have k2 := cell_later hb.out K2.out
          have k3 := cell_later hb.out K3.out
          have k4 := cell_later hb.out K4.out
          have k5 := cell_later hb.out K5.out
          by_cases hlt : j < k
          · obtain ⟨⟨tg, ts⟩, hz⟩ : ∃ z, ls[j]? = some z := ⟨_, List.getElem?_eq_getElem (by have := HLEN.out; omega)⟩
            have htl := BT.out _ (List.mem_of_getElem? hz)
            dsimp only at htl
            have hj0 : (0 : Int) ≤ (j : Int) := by omega
            have hj1 : (j : Int) < k := by omega
            have HU : Hid (unL ins vs ⟨tg, ts⟩ = ts.any (unT ins vs)) := Lib.hid rfl
            have HT := Lib.hid (fun h : unL ins vs ⟨tg, ts⟩ = false => anyB_snoc hz ha.out h)
            have HF := Lib.hid (fun h : unL ins vs ⟨tg, ts⟩ = true => anyB_bad hz h)
            have HZ := Lib.hid hz
            clear hz
            go_wp2_with (fail)
            go_loopw [7, 8] (fun i _ wq => ∃ q : Nat, q ≤ ts.length ∧ i = .int .i64 q ∧ Hid ((ts.take q).any (unT ins vs) = false) ∧ Hid (Below W.heap.size W wq)) (fun i _ _ => ts.length - (intOf i).toNat)
            case atStart => exact ⟨0, Nat.zero_le _, rfl, Lib.hid rfl, hb⟩
            case round =>
              obtain ⟨q, hq, rfl, ha2, hb2⟩ := hrel
              clear k0 k1 k2 k3 k4 k5
              have k0 := cell_later hb2.out K0.out
              have k1 := cell_later hb2.out K1.out
              have k2 := cell_later hb2.out K2.out
              have k3 := cell_later hb2.out K3.out
              have k4 := cell_later hb2.out K4.out
              have k5 := cell_later hb2.out K5.out
              obtain ⟨b, off, la, lc, rfl, _, g0, g1, hrow⟩ := (H.out.l.below (below_chain B0.out hb2.out)).at HZ.out
              dsimp only at g1 hrow
              by_cases hlt2 : q < ts.length
              · obtain ⟨⟨tk, tn, tx⟩, hz2⟩ : ∃ z, ts[q]? = some z := ⟨_, List.getElem?_eq_getElem hlt2⟩
                obtain ⟨b2, o2, rfl, _, m0, m1, m2⟩ := hrow.tm hz2
                dsimp only at m0 m1 m2
                have hq0 : (0 : Int) ≤ (q : Int) := by omega
                have hq1 : (q : Int) < ts.length := by omega
                have HT2 := Lib.hid (fun h : unT ins vs ⟨tk, tn, tx⟩ = false => anyB_snoc hz2 ha2.out h)
                have HF2 := Lib.hid (fun h : unT ins vs ⟨tk, tn, tx⟩ = true => anyB_bad hz2 h)
                have HUT : Hid (unT ins vs ⟨tk, tn, tx⟩ = (tk == 1 && !(memS ins tn || memS vs tn))) := Lib.hid rfl
                generalize unT ins vs ⟨tk, tn, tx⟩ = y at HT2 HF2 HUT
                have HRD := Lib.hid (HRE.out tn)
                generalize (memS ins tn || memS vs tn) = m at HUT HRD
                have HBT := Lib.hid (below_alloc hb2.out (.cells #[.int .i64 tk, .string tn, .int .i64 tx] 60))
                clear hz2 hrow g0
                by_cases hk1' : tk = 1
                · subst hk1'
                  have e0 : w.heap.size < wr.heap.size := by have := World.block_lt_of_cell? _ _ k0; dsimp only at this; omega
                  go_wp2_with (fail)
                  refine (HRD.out _ (H.out.below (below_chain B0.out HBT.out))).mono ?_
                  rintro e w7 ⟨rfl, hb7⟩
                  have HB7 := Lib.hid (below_chain HBT.out hb7)
                  clear hb7
                  cases m
                  · obtain rfl : R = false := by rw [HV2.out, HF.out (by rw [HU.out]; exact HF2.out (by rw [HUT.out]; rfl))]; rfl
                    go_wp2_with (fail)
                    go_ret
                    exact ⟨6, rfl, rfl, below_chain B0.out HB7.out⟩
                  · go_wp2_with (fail)
                    go_roundw
                    case rel => exact ⟨q + 1, by omega, by go_num, Lib.hid (HT2.out (by rw [HUT.out]; rfl)), HB7⟩
                    case measure => simp [intOf]; omega
                · have hkb : (tk == 1) = false := by simpa using hk1'
                  clear hk1'
                  go_wp2_with (fail)
                  go_roundw
                  case rel => exact ⟨q + 1, by omega, by go_num, Lib.hid (HT2.out (by rw [HUT.out, hkb]; rfl)), HBT⟩
                  case measure => simp [intOf]; omega
              · obtain rfl : q = ts.length := by omega
                have hA2 := ha2.out
                rw [List.take_of_length_le (Nat.le_refl _)] at hA2
                have HA2 := Lib.hid (HT.out (by rw [HU.out]; exact hA2))
                clear hA2 hrow
                go_wp2_with (fail)
                go_roundw
                case rel => exact ⟨j + 1, by omega, by go_num, HA2, hb2⟩
                case measure => simp [intOf]; omega
          · obtain rfl : j = k := by omega
            have hA2 := ha.out
            rw [List.take_of_length_le (by have := HLEN.out; omega)] at hA2
            obtain rfl : R = true := by rw [HV2.out, hA2]; rfl
            go_wp2_with (fail)
            go_ret
            exact ⟨0, rfl, rfl, below_chain B0.out hb.out⟩
set_option maxHeartbeats 1000000 in
set_option maxRecDepth 100000 in
theorem c_sIsSound (p : Prg) (a1 a2 a3 a4 : Option Addr) (c1 c2 c3 c4 : Nat) (w : World) (hs : PgOk p) (hz : PgZ a1 a2 a3 c1 c2 c3) (h : PgR w a1 a2 a3 a4 p) :
    Calls Tryz.prog 44 #[pv p a1 a2 a3 a4 c1 c2 c3 c4] w fun e w' => e = .returned (.bool (wrB p && fltB p)) ∧ Below w.heap.size w w' := by
  have HW := Lib.hid (fun w h => c_sIsWritten p a1 a2 a3 a4 c1 c2 c3 c4 w hs h)
  have HF := Lib.hid (fun w hb h => c_l14Fault p a1 a2 a3 a4 c1 c2 c3 c4 w hs hb hz h)
  have HB := Lib.hid (fun h => wr_bd (p := p) h)
  have H := Lib.hid h
  generalize wrB p = x1 at *
  generalize fltB p = x2 at *
  obtain ⟨nm, ins, vs, os, gd, ls⟩ := p
  have B0 := Lib.hid (below_alloc (Below.refl w.heap.size w) (.cells #[.string nm, .slice a1 ins.length c1, .slice a2 vs.length c2, .slice a3 os.length c3, .string gd, .slice a4 ls.length c4] 27))
  clear hs h hz
  dsimp only [pv] at *
  have k0 : (w.alloc (.cells #[.string nm, .slice a1 ins.length c1, .slice a2 vs.length c2, .slice a3 os.length c3, .string gd, .slice a4 ls.length c4] 27)).cell? ⟨w.heap.size, 0, none⟩ = some (.string nm) := by go_simp
  have k1 : (w.alloc (.cells #[.string nm, .slice a1 ins.length c1, .slice a2 vs.length c2, .slice a3 os.length c3, .string gd, .slice a4 ls.length c4] 27)).cell? ⟨w.heap.size, 1, none⟩ = some (.slice a1 ins.length c1) := by go_simp
  have k2 : (w.alloc (.cells #[.string nm, .slice a1 ins.length c1, .slice a2 vs.length c2, .slice a3 os.length c3, .string gd, .slice a4 ls.length c4] 27)).cell? ⟨w.heap.size, 2, none⟩ = some (.slice a2 vs.length c2) := by go_simp
  have k3 : (w.alloc (.cells #[.string nm, .slice a1 ins.length c1, .slice a2 vs.length c2, .slice a3 os.length c3, .string gd, .slice a4 ls.length c4] 27)).cell? ⟨w.heap.size, 3, none⟩ = some (.slice a3 os.length c3) := by go_simp
  have k4 : (w.alloc (.cells #[.string nm, .slice a1 ins.length c1, .slice a2 vs.length c2, .slice a3 os.length c3, .string gd, .slice a4 ls.length c4] 27)).cell? ⟨w.heap.size, 4, none⟩ = some (.string gd) := by go_simp
  have k5 : (w.alloc (.cells #[.string nm, .slice a1 ins.length c1, .slice a2 vs.length c2, .slice a3 os.length c3, .string gd, .slice a4 ls.length c4] 27)).cell? ⟨w.heap.size, 5, none⟩ = some (.slice a4 ls.length c4) := by go_simp
  have K0 := Lib.hid k0
  have K1 := Lib.hid k1
  have K2 := Lib.hid k2
  have K3 := Lib.hid k3
  have K4 := Lib.hid k4
  have K5 := Lib.hid k5
  clear k0 k1 k2 k3 k4 k5
  go_enter Tryz.func44, Tryz.ntmps44
  go_upto_region 1 with (fail)
  generalize w.alloc (.cells #[.string nm, .slice a1 ins.length c1, .slice a2 vs.length c2, .slice a3 os.length c3, .string gd, .slice a4 ls.length c4] 27) = W at *
  have k0 := K0.out
  have k1 := K1.out
  have k2 := K2.out
  have k3 := K3.out
  have k4 := K4.out
  have k5 := K5.out
  go_wp2_with (fail)
  refine (HW.out _ (H.out.below B0.out)).mono ?_
  rintro e w1 ⟨rfl, hb⟩
  have B1 := Lib.hid hb
  clear hb k0 k1 k2 k3 k4 k5
  have k0 := cell_later B1.out K0.out
  have k1 := cell_later B1.out K1.out
  have k2 := cell_later B1.out K2.out
  have k3 := cell_later B1.out K3.out
  have k4 := cell_later B1.out K4.out
  have k5 := cell_later B1.out K5.out
  cases x1
  · go_wp2_with (fail)
    go_ret
    exact ⟨rfl, below_chain B0.out B1.out⟩
  go_wp2_with (fail)
  refine (HF.out _ (HB.out (by first | rfl | trivial)) ((H.out.below B0.out).below B1.out)).mono ?_
  rintro e w2 ⟨z, rfl, hz2, hb⟩
  have B2 := Lib.hid (below_chain B1.out hb)
  have HZ := Lib.hid hz2
  clear hb hz2
  go_wp2_with (fail)
  go_ret
  exact ⟨by rw [← HZ.out]; rfl, below_chain B0.out B2.out⟩
end Go.Proofs.YteengjcplmjakaaGreatDoor
