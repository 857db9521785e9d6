/- IsWritten on the reference's side, exactly. Condition: the lengths. -/
import Derived.Test.YteengjcplmjakaaGreatDoorPCf
namespace Go.Proofs.YteengjcplmjakaaGreatDoor
open Go.RowKit

def namesB (l : List ByteArray) (lo : Int) : Bool := l.all nameB && inB l.length lo 20
def linB (r : Lin) : Bool := nameB r.tg && exB r.ts
/-- A written program. -/
def wrB (p : Prg) : Bool := nameB p.nm && (namesB p.ins 1 && (namesB p.vs 0 && (namesB p.os 1 && ((p.gd.toList.isEmpty || nameB p.gd) && (p.ls.all linB && inB p.ls.length 1 40)))))
theorem allB_snoc {α : Type} {p : α → Bool} {l : List α} {k : Nat} {t : α} (hz : l[k]? = some t) (h : (l.take k).all p = true) (h2 : p t = true) : (l.take (k + 1)).all p = true := by
  rw [List.take_add_one, List.all_append, h, hz]
  simp [h2]
theorem allB_bad {α : Type} {p : α → Bool} {l : List α} {k : Nat} {t : α} (hz : l[k]? = some t) (h2 : p t = false) : l.all p = false := by
  rw [List.all_eq_false]
  exact ⟨t, List.mem_of_getElem? hz, by simp [h2]⟩
set_option maxHeartbeats 1000000 in
set_option maxRecDepth 100000 in
theorem c_l13Names (A : Option Addr) (c n : Nat) (l : List ByteArray) (lo : Int) (w : World) (hn : n = l.length) (hs : n ≤ 1048576) (hok : ∀ s ∈ l, s.size ≤ 1048576) (hr : Rd w A (sts l)) :
    Calls Tryz.prog 141 #[.slice A n c, .int .i64 lo] w fun e w' => e = .returned (.bool (namesB l lo)) ∧ Below w.heap.size w w' := by
  have HN := Lib.hid hn
  have HR := Lib.hid hr
  have HOK := Lib.hid (fun (s : ByteArray) (h : s ∈ l) w => c_l13Name s w (hok s h))
  have HV : Hid (namesB l lo = (l.all nameB && inB n lo 20)) := Lib.hid (by unfold namesB; rw [hn])
  have HIN := Lib.hid (fun w => c_l01In (n : Int) lo 20 w)
  generalize namesB l lo = R at HV ⊢
  generalize inB (n : Int) lo 20 = q at *
  clear hn hr hok
  go_enter Tryz.func141, Tryz.ntmps141
  go_wp2_with (fail)
  go_loopw [5] (fun i wr => ∃ k : Nat, k ≤ n ∧ i = .int .i64 k ∧ Hid ((l.take k).all nameB = true) ∧ Hid (Below w.heap.size w wr)) (fun i _ => n - (intOf i).toNat)
  case atStart => exact ⟨0, Nat.zero_le _, rfl, Lib.hid rfl, Lib.hid (by (repeat (first | exact Below.refl _ _ | assumption | refine below_alloc ?_ _ | refine below_drewN ?_ _ | refine below_set ?_ _ (by simp; try omega) | refine Below.drew ?_)))⟩
  case round =>
    obtain ⟨k, hk, rfl, ha, hb⟩ := hrel
    by_cases hlt : k < n
    · obtain ⟨t, hz⟩ : ∃ z, l[k]? = some z := ⟨_, List.getElem?_eq_getElem (by have := HN.out; omega)⟩
      obtain ⟨b, off, rfl, _, g0⟩ := (HR.out.below hb.out).st hz
      have HC := Lib.hid (HOK.out t (List.mem_of_getElem? hz))
      have hk0 : (0 : Int) ≤ (k : Int) := by omega
      have hk1 : (k : Int) < n := by omega
      have HZ := Lib.hid hz
      clear hz
      have HT := Lib.hid (fun h : nameB t = true => allB_snoc HZ.out ha.out h)
      have HF := Lib.hid (fun h : nameB t = false => allB_bad HZ.out h)
      generalize nameB t = x at HC HT HF
      go_wp2_with (fail)
      refine (HC.out _).mono ?_
      rintro e w2 ⟨rfl, hb2⟩
      have HB2 := Lib.hid (below_chain hb.out hb2)
      clear hb2
      cases x
      · obtain rfl : R = false := by rw [HV.out, HF.out rfl]; rfl
        go_wp2_with (fail)
        go_ret
        exact ⟨rfl, HB2.out⟩
      · go_wp2_with (fail)
        go_roundw
        case rel => exact ⟨k + 1, by omega, by go_num, Lib.hid (HT.out (by first | rfl | trivial)), HB2⟩
        case measure => simp [intOf]; omega
    · obtain rfl : k = n := by omega
      have hA := ha.out
      rw [List.take_of_length_le (by have := HN.out; omega)] at hA
      obtain rfl : R = q := by rw [HV.out, hA]; rfl
      clear hA
      go_wp2_with (fail)
      refine (HIN.out _).mono ?_
      rintro e w2 ⟨rfl, rfl⟩
      go_wp2_with (fail)
      go_ret
      exact ⟨rfl, hb.out⟩
set_option maxHeartbeats 2000000 in
set_option maxRecDepth 100000 in
theorem c_sIsWritten (p : Prg) (a1 a2 a3 a4 : Option Addr) (c1 c2 c3 c4 : Nat) (w : World) (hs : PgOk p) (h : PgR w a1 a2 a3 a4 p) :
    Calls Tryz.prog 92 #[pv p a1 a2 a3 a4 c1 c2 c3 c4] w fun e w' => e = .returned (.bool (wrB p)) ∧ Below w.heap.size w w' := by
  obtain ⟨nm, ins, vs, os, gd, ls⟩ := p
  have HS := Lib.hid hs
  have H := Lib.hid h
  have HNM := Lib.hid (fun w => c_l13Name nm w hs.n)
  have HIN := Lib.hid (fun w h => c_l13Names a1 c1 _ ins 1 w rfl hs.i.1 hs.i.2 h)
  have HVN := Lib.hid (fun w h => c_l13Names a2 c2 _ vs 0 w rfl hs.v.1 hs.v.2 h)
  have HON := Lib.hid (fun w h => c_l13Names a3 c3 _ os 1 w rfl hs.o.1 hs.o.2 h)
  have HGD := Lib.hid (fun w => c_l13Name gd w hs.g)
  have HLN := Lib.hid (fun (r : Lin) (hr : r ∈ ls) => hs.l.2 r hr)
  have hls := hs.l.1
  have HV : Hid (wrB ⟨nm, ins, vs, os, gd, ls⟩ = (nameB nm && (namesB ins 1 && (namesB vs 0 && (namesB os 1 && ((gd.toList.isEmpty || nameB gd) && (ls.all linB && inB ls.length 1 40))))))) := Lib.hid rfl
  have HLI := Lib.hid (fun w => c_l01In (ls.length : Int) 1 40 w)
  generalize wrB ⟨nm, ins, vs, os, gd, ls⟩ = R at HV ⊢
  dsimp only at hls HNM HIN HVN HON HGD HLN
  clear hs h
  dsimp only [pv]
  generalize nameB nm = x1 at *
  generalize namesB ins 1 = x2 at *
  generalize namesB vs 0 = x3 at *
  generalize namesB os 1 = x4 at *
  generalize nameB gd = x6 at *
  have B0 := Lib.hid (below_alloc (Below.refl w.heap.size w) (.cells #[.string nm, .slice a1 ins.length c1, .slice a2 vs.length c2, .slice a3 os.length c3, .string gd, .slice a4 ls.length c4] 27))
  have k1 : (w.alloc (.cells #[.string nm, .slice a1 ins.length c1, .slice a2 vs.length c2, .slice a3 os.length c3, .string gd, .slice a4 ls.length c4] 27)).cell? ⟨w.heap.size, 1, none⟩ = some (.slice a1 ins.length c1) := by go_simp
  have k2 : (w.alloc (.cells #[.string nm, .slice a1 ins.length c1, .slice a2 vs.length c2, .slice a3 os.length c3, .string gd, .slice a4 ls.length c4] 27)).cell? ⟨w.heap.size, 2, none⟩ = some (.slice a2 vs.length c2) := by go_simp
  have k3 : (w.alloc (.cells #[.string nm, .slice a1 ins.length c1, .slice a2 vs.length c2, .slice a3 os.length c3, .string gd, .slice a4 ls.length c4] 27)).cell? ⟨w.heap.size, 3, none⟩ = some (.slice a3 os.length c3) := by go_simp
  have k4 : (w.alloc (.cells #[.string nm, .slice a1 ins.length c1, .slice a2 vs.length c2, .slice a3 os.length c3, .string gd, .slice a4 ls.length c4] 27)).cell? ⟨w.heap.size, 4, none⟩ = some (.string gd) := by go_simp
  have k5 : (w.alloc (.cells #[.string nm, .slice a1 ins.length c1, .slice a2 vs.length c2, .slice a3 os.length c3, .string gd, .slice a4 ls.length c4] 27)).cell? ⟨w.heap.size, 5, none⟩ = some (.slice a4 ls.length c4) := by go_simp
  have k0 : (w.alloc (.cells #[.string nm, .slice a1 ins.length c1, .slice a2 vs.length c2, .slice a3 os.length c3, .string gd, .slice a4 ls.length c4] 27)).cell? ⟨w.heap.size, 0, none⟩ = some (.string nm) := by go_simp
  go_enter Tryz.func92, Tryz.ntmps92
  go_upto_region 1 with (fail)
  generalize w.alloc (.cells #[.string nm, .slice a1 ins.length c1, .slice a2 vs.length c2, .slice a3 os.length c3, .string gd, .slice a4 ls.length c4] 27) = W at *
  go_wp2_with (fail)
  refine (HNM.out _).mono ?_
  rintro e w1 ⟨rfl, hb⟩
  replace k1 := cell_later hb k1
  replace k2 := cell_later hb k2
  replace k3 := cell_later hb k3
  replace k4 := cell_later hb k4
  replace k5 := cell_later hb k5
  have B1 := Lib.hid (below_chain B0.out hb)
  clear hb k0
  cases x1
  · obtain rfl : R = false := by rw [HV.out]; rfl
    go_wp2_with (fail)
    go_ret
    exact ⟨rfl, B1.out⟩
  go_wp2_with (fail)
  refine (HIN.out _ (H.out.i.below B1.out)).mono ?_
  rintro e w2 ⟨rfl, hb⟩
  replace k2 := cell_later hb k2
  replace k3 := cell_later hb k3
  replace k4 := cell_later hb k4
  replace k5 := cell_later hb k5
  have B2 := Lib.hid (below_chain B1.out hb)
  clear hb k1
  cases x2
  · obtain rfl : R = false := by rw [HV.out]; rfl
    go_wp2_with (fail)
    go_ret
    exact ⟨rfl, B2.out⟩
  go_wp2_with (fail)
  refine (HVN.out _ (H.out.v.below B2.out)).mono ?_
  rintro e w3 ⟨rfl, hb⟩
  replace k3 := cell_later hb k3
  replace k4 := cell_later hb k4
  replace k5 := cell_later hb k5
  have B3 := Lib.hid (below_chain B2.out hb)
  clear hb k2
  cases x3
  · obtain rfl : R = false := by rw [HV.out]; rfl
    go_wp2_with (fail)
    go_ret
    exact ⟨rfl, B3.out⟩
  go_wp2_with (fail)
  refine (HON.out _ (H.out.o.below B3.out)).mono ?_
  rintro e w4 ⟨rfl, hb⟩
  replace k4 := cell_later hb k4
  replace k5 := cell_later hb k5
  have B4 := Lib.hid (below_chain B3.out hb)
  clear hb k3
  cases x4
  · obtain rfl : R = false := by rw [HV.out]; rfl
    go_wp2_with (fail)
    go_ret
    exact ⟨rfl, B4.out⟩
  have K5 := Lib.hid k5
  have K4 := Lib.hid k4
  rcases hz : gd.toList.isEmpty with _ | _
  · go_wp2_with (fail)
    refine (HGD.out _).mono ?_
    rintro e w5 ⟨rfl, hb⟩
    have K6 := Lib.hid (cell_later hb K5.out)
    have B5 := Lib.hid (below_chain B4.out hb)
    replace k4 := cell_later hb k4
    replace k5 := cell_later hb k5
    clear hb
    cases x6
    · obtain rfl : R = false := by rw [HV.out, hz]; rfl
      go_wp2_with (fail)
      go_ret
      exact ⟨rfl, B5.out⟩
    have HVV : Hid (R = (ls.all linB && inB ls.length 1 40)) := Lib.hid (by rw [HV.out, hz]; simp)
    generalize inB (ls.length : Int) 1 40 = y at *
    have HLN2 := Lib.hid (rfl : ls.length = ls.length)
    generalize hln : ls.length = ln at *
    have HLEN := Lib.hid hln
    clear hln HLN2 HNM HIN HVN HON
    go_wp2_with (fail)
    clear hz k4 k5
    go_loopw [3] (fun i wr => ∃ k : Nat, k ≤ ln ∧ i = .int .i64 k ∧ Hid ((ls.take k).all linB = true) ∧ Hid (Below w5.heap.size w5 wr)) (fun i _ => ln - (intOf i).toNat)
    case atStart => exact ⟨0, Nat.zero_le _, rfl, Lib.hid rfl, Lib.hid (Below.refl _ _)⟩
    case round =>
      obtain ⟨k, hk, rfl, ha, hb⟩ := hrel
      have k5 := cell_later hb.out K6.out
      by_cases hlt : k < ln
      · obtain ⟨⟨tg, ts⟩, hz⟩ : ∃ z, ls[k]? = some z := ⟨_, List.getElem?_eq_getElem (by have := HLEN.out; omega)⟩
        obtain ⟨b, off, la, lc, rfl, _, g0, g1, hrow⟩ := (H.out.l.below (below_chain B5.out hb.out)).at hz
        have hok := HLN.out _ (List.mem_of_getElem? hz)
        dsimp only at g0 g1 hrow hok
        have HN1 := Lib.hid (fun w => c_l13Name tg w hok.1)
        have HE1 := Lib.hid (fun w h => c_sIsExpression la lc _ ts w rfl hok.2.1 hok.2.2 h)
        have HROW := Lib.hid hrow
        have hk0 : (0 : Int) ≤ (k : Int) := by omega
        have hk1 : (k : Int) < ln := by omega
        have HL : Hid (linB ⟨tg, ts⟩ = (nameB tg && exB ts)) := Lib.hid rfl
        have HT := Lib.hid (fun h : linB ⟨tg, ts⟩ = true => allB_snoc hz ha.out h)
        have HF := Lib.hid (fun h : linB ⟨tg, ts⟩ = false => allB_bad hz h)
        generalize linB ⟨tg, ts⟩ = q at HL HT HF
        generalize nameB tg = u at *
        generalize exB ts = v at *
        clear hz hok hrow
        go_wp2_with (fail)
        refine (HN1.out _).mono ?_
        rintro e w8 ⟨rfl, hb2⟩
        have HB2 := Lib.hid (below_chain hb.out hb2)
        have HROW2 := Lib.hid (HROW.out.below hb2)
        replace k5 := cell_later hb2 k5
        replace g1 := cell_later hb2 g1
        clear hb2 g0
        cases u
        · obtain rfl : R = false := by rw [HVV.out, HF.out (by rw [HL.out]; rfl)]; rfl
          go_wp2_with (fail)
          go_ret
          exact ⟨rfl, below_chain B5.out HB2.out⟩
        go_wp2_with (fail)
        refine (HE1.out _ HROW2.out).mono ?_
        rintro e w9 ⟨rfl, hb2⟩
        have HB3 := Lib.hid (below_chain HB2.out hb2)
        clear hb2
        cases v
        · obtain rfl : R = false := by rw [HVV.out, HF.out (by rw [HL.out]; rfl)]; rfl
          go_wp2_with (fail)
          go_ret
          exact ⟨rfl, below_chain B5.out HB3.out⟩
        · go_wp2_with (fail)
          go_roundw
          case rel => exact ⟨k + 1, by omega, by go_num, Lib.hid (HT.out (by rw [HL.out]; rfl)), HB3⟩
          case measure => simp [intOf]; omega
      · obtain rfl : k = ln := by omega
        have hA := ha.out
        rw [List.take_of_length_le (by have := HLEN.out; omega)] at hA
        obtain rfl : R = y := by rw [HVV.out, hA]; rfl
        clear hA
        go_wp2_with (fail)
        refine (HLI.out _).mono ?_
        rintro e w8 ⟨rfl, rfl⟩
        go_wp2_with (fail)
        go_ret
        exact ⟨rfl, below_chain B5.out hb.out⟩
  · skip
    have HVV : Hid (R = (ls.all linB && inB ls.length 1 40)) := Lib.hid (by rw [HV.out, hz]; simp)
    generalize inB (ls.length : Int) 1 40 = y at *
    have HLN2 := Lib.hid (rfl : ls.length = ls.length)
    generalize hln : ls.length = ln at *
    have HLEN := Lib.hid hln
    clear hln HLN2 HNM HIN HVN HON
    go_wp2_with (fail)
    clear hz k4 k5
    go_loopw [3] (fun i wr => ∃ k : Nat, k ≤ ln ∧ i = .int .i64 k ∧ Hid ((ls.take k).all linB = true) ∧ Hid (Below w4.heap.size w4 wr)) (fun i _ => ln - (intOf i).toNat)
    case atStart => exact ⟨0, Nat.zero_le _, rfl, Lib.hid rfl, Lib.hid (Below.refl _ _)⟩
    case round =>
      obtain ⟨k, hk, rfl, ha, hb⟩ := hrel
      have k5 := cell_later hb.out K5.out
      by_cases hlt : k < ln
      · obtain ⟨⟨tg, ts⟩, hz⟩ : ∃ z, ls[k]? = some z := ⟨_, List.getElem?_eq_getElem (by have := HLEN.out; omega)⟩
        obtain ⟨b, off, la, lc, rfl, _, g0, g1, hrow⟩ := (H.out.l.below (below_chain B4.out hb.out)).at hz
        have hok := HLN.out _ (List.mem_of_getElem? hz)
        dsimp only at g0 g1 hrow hok
        have HN1 := Lib.hid (fun w => c_l13Name tg w hok.1)
        have HE1 := Lib.hid (fun w h => c_sIsExpression la lc _ ts w rfl hok.2.1 hok.2.2 h)
        have HROW := Lib.hid hrow
        have hk0 : (0 : Int) ≤ (k : Int) := by omega
        have hk1 : (k : Int) < ln := by omega
        have HL : Hid (linB ⟨tg, ts⟩ = (nameB tg && exB ts)) := Lib.hid rfl
        have HT := Lib.hid (fun h : linB ⟨tg, ts⟩ = true => allB_snoc hz ha.out h)
        have HF := Lib.hid (fun h : linB ⟨tg, ts⟩ = false => allB_bad hz h)
        generalize linB ⟨tg, ts⟩ = q at HL HT HF
        generalize nameB tg = u at *
        generalize exB ts = v at *
        clear hz hok hrow
        go_wp2_with (fail)
        refine (HN1.out _).mono ?_
        rintro e w8 ⟨rfl, hb2⟩
        have HB2 := Lib.hid (below_chain hb.out hb2)
        have HROW2 := Lib.hid (HROW.out.below hb2)
        replace k5 := cell_later hb2 k5
        replace g1 := cell_later hb2 g1
        clear hb2 g0
        cases u
        · obtain rfl : R = false := by rw [HVV.out, HF.out (by rw [HL.out]; rfl)]; rfl
          go_wp2_with (fail)
          go_ret
          exact ⟨rfl, below_chain B4.out HB2.out⟩
        go_wp2_with (fail)
        refine (HE1.out _ HROW2.out).mono ?_
        rintro e w9 ⟨rfl, hb2⟩
        have HB3 := Lib.hid (below_chain HB2.out hb2)
        clear hb2
        cases v
        · obtain rfl : R = false := by rw [HVV.out, HF.out (by rw [HL.out]; rfl)]; rfl
          go_wp2_with (fail)
          go_ret
          exact ⟨rfl, below_chain B4.out HB3.out⟩
        · go_wp2_with (fail)
          go_roundw
          case rel => exact ⟨k + 1, by omega, by go_num, Lib.hid (HT.out (by rw [HL.out]; rfl)), HB3⟩
          case measure => simp [intOf]; omega
      · obtain rfl : k = ln := by omega
        have hA := ha.out
        rw [List.take_of_length_le (by have := HLEN.out; omega)] at hA
        obtain rfl : R = y := by rw [HVV.out, hA]; rfl
        clear hA
        go_wp2_with (fail)
        refine (HLI.out _).mono ?_
        rintro e w8 ⟨rfl, rfl⟩
        go_wp2_with (fail)
        go_ret
        exact ⟨rfl, below_chain B4.out hb.out⟩
end Go.Proofs.YteengjcplmjakaaGreatDoor
