/- IsWritten on the program's side, exactly (printed by PWk.py). Condition: the lengths; the keywords lie there. -/
import Derived.Test.YteengjcplmjakaaGreatDoorPWi
namespace Go.Proofs.YteengjcplmjakaaGreatDoor
open Go.RowKit

theorem wr_impl (p : Prg) : wrB p = (nameB p.nm && ((p.ins ++ (p.vs ++ p.os)).all nameB && ((p.gd.toList.isEmpty || nameB p.gd) && (decide (0 < p.ins.length) && (decide (0 < p.os.length) && (decide (0 < p.ls.length) && (sizB p && !(p.ls.any fun l => !linB l)))))))) := by
  rw [any_not, List.all_append, List.all_append]
  unfold wrB namesB sizB inB
  generalize nameB p.nm = x1
  generalize p.ins.all nameB = x2
  generalize p.vs.all nameB = x3
  generalize p.os.all nameB = x4
  generalize (p.gd.toList.isEmpty || nameB p.gd) = x5
  have h6 : p.ls.all linB = true → (p.ls.any fun l => decide (40 < l.ts.length)) = false := fun h => by
    rw [List.any_eq_false]
    intro l hl
    have := List.all_eq_true.1 h l hl
    unfold linB exB at this
    simp at this
    simp
    omega
  generalize p.ls.all linB = x6 at *
  generalize (p.ls.any fun l => decide (40 < l.ts.length)) = x7 at *
  rw [Bool.eq_iff_iff]
  simp only [Bool.and_eq_true, decide_eq_true_eq, Bool.not_eq_true']
  constructor
  · rintro ⟨h1, ⟨h2, h2a⟩, ⟨h3, h3a⟩, ⟨h4, h4a⟩, h5, h7, h8⟩
    exact ⟨h1, ⟨h2, h3, h4⟩, h5, by omega, by omega, by omega, ⟨by omega, by omega, by omega, by omega, h6 h7⟩, h7⟩
  · rintro ⟨h1, ⟨h2, h3, h4⟩, h5, e1, e2, e3, ⟨f1, f2, f3, f4, _⟩, h7⟩
    exact ⟨h1, ⟨h2, by omega⟩, ⟨h3, by omega⟩, ⟨h4, by omega⟩, h5, h7, by omega⟩
/-- The slices that are nil have no spare room. -/
def PgZ (a1 a2 a3 : Option Addr) (c1 c2 c3 : Nat) : Prop := (a1 = none → c1 = 0) ∧ (a2 = none → c2 = 0) ∧ (a3 = none → c3 = 0)
set_option maxHeartbeats 2000000 in
set_option maxRecDepth 100000 in
theorem c_IsWritten (p : Prg) (a1 a2 a3 a4 : Option Addr) (c1 c2 c3 c4 : Nat) (w : World) (hs : PgOk p) (hz : PgZ a1 a2 a3 c1 c2 c3) (h : PgR w a1 a2 a3 a4 p) (hk : KwR w) :
    Calls Tryz.prog 67 #[pv p a1 a2 a3 a4 c1 c2 c3 c4] w fun e w' => e = .returned (.bool (wrB p)) ∧ Below w.heap.size w w' := by
  have HSZ := Lib.hid (fun w h => c_isSized p a1 a2 a3 a4 c1 c2 c3 c4 w hs h)
  have HV := Lib.hid (wr_impl p)
  have H := Lib.hid h
  have HK := Lib.hid hk
  have HZ := Lib.hid hz
  obtain ⟨nm, ins, vs, os, gd, ls⟩ := p
  have si := hs.i
  have sv := hs.v
  have so := hs.o
  have hls := hs.l.1
  dsimp only at si sv so hls HV
  have HNM := Lib.hid (fun w h => c_isName nm w hs.n h)
  have HGD := Lib.hid (fun w h => c_isName gd w hs.g h)
  have HLC := Lib.hid (fun w (h : Ll w a4 ls) (hk : KwR w) => c_ContainsL0 116 (fun l => !linB l) a4 c4 _ ls w rfl (by omega) h (Lib.hid (fun wr t a c ht hb hr => c_IsWritten1 t.tg t.ts a c _ wr rfl (hs.l.2 t ht).1 (hs.l.2 t ht).2 hr (hk.below hb))) (enter_of Tryz.func116 (by kernel_rfl) rfl))
  have HCC := Lib.hid (fun g w hg hd => c_Concat g 3 3 [⟨ins, a1, c1⟩, ⟨vs, a2, c2⟩, ⟨os, a3, c3⟩] w rfl (by decide) hg hd (by simp [catS]; have := si.1; have := sv.1; have := so.1; omega))
  have hcat : catS [⟨ins, a1, c1⟩, ⟨vs, a2, c2⟩, ⟨os, a3, c3⟩] = ins ++ (vs ++ os) := by simp [catS]
  rw [hcat] at HCC
  have HAN := Lib.hid (fun A c w h hk => c_areNames A c _ (ins ++ (vs ++ os)) w rfl (by have := si.1; have := sv.1; have := so.1; simp; omega) (fun s hs => by
    rcases List.mem_append.1 hs with hs | hs
    · exact si.2 s hs
    · rcases List.mem_append.1 hs with hs | hs
      · exact sv.2 s hs
      · exact so.2 s hs) h hk)
  have B0 := Lib.hid (below_alloc (Below.refl w.heap.size w) (.cells #[.string nm, .slice a1 ins.length c1, .slice a2 vs.length c2, .slice a3 os.length c3, .string gd, .slice a4 ls.length c4] 27))
  dsimp only [pv] at HSZ ⊢
  generalize wrB ⟨nm, ins, vs, os, gd, ls⟩ = R at *
  generalize sizB ⟨nm, ins, vs, os, gd, ls⟩ = x7 at *
  generalize (ins ++ (vs ++ os)).all nameB = x2 at *
  generalize nameB nm = x1 at *
  generalize nameB gd = x6 at *
  generalize (ls.any fun l => !linB l) = x8 at *
  generalize ins ++ (vs ++ os) = LL at *
  clear hs h hk hz hcat si sv so
  have k0 : (w.alloc (.cells #[.string nm, .slice a1 ins.length c1, .slice a2 vs.length c2, .slice a3 os.length c3, .string gd, .slice a4 ls.length c4] 27)).cell? ⟨w.heap.size, 0, none⟩ = some (.string nm) := by go_simp
  have k1 : (w.alloc (.cells #[.string nm, .slice a1 ins.length c1, .slice a2 vs.length c2, .slice a3 os.length c3, .string gd, .slice a4 ls.length c4] 27)).cell? ⟨w.heap.size, 1, none⟩ = some (.slice a1 ins.length c1) := by go_simp
  have k2 : (w.alloc (.cells #[.string nm, .slice a1 ins.length c1, .slice a2 vs.length c2, .slice a3 os.length c3, .string gd, .slice a4 ls.length c4] 27)).cell? ⟨w.heap.size, 2, none⟩ = some (.slice a2 vs.length c2) := by go_simp
  have k3 : (w.alloc (.cells #[.string nm, .slice a1 ins.length c1, .slice a2 vs.length c2, .slice a3 os.length c3, .string gd, .slice a4 ls.length c4] 27)).cell? ⟨w.heap.size, 3, none⟩ = some (.slice a3 os.length c3) := by go_simp
  have k4 : (w.alloc (.cells #[.string nm, .slice a1 ins.length c1, .slice a2 vs.length c2, .slice a3 os.length c3, .string gd, .slice a4 ls.length c4] 27)).cell? ⟨w.heap.size, 4, none⟩ = some (.string gd) := by go_simp
  have k5 : (w.alloc (.cells #[.string nm, .slice a1 ins.length c1, .slice a2 vs.length c2, .slice a3 os.length c3, .string gd, .slice a4 ls.length c4] 27)).cell? ⟨w.heap.size, 5, none⟩ = some (.slice a4 ls.length c4) := by go_simp
  go_enter Tryz.func67, Tryz.ntmps67
  go_upto_region 1 with (fail)
  generalize w.alloc (.cells #[.string nm, .slice a1 ins.length c1, .slice a2 vs.length c2, .slice a3 os.length c3, .string gd, .slice a4 ls.length c4] 27) = W at *
  go_wp2_with (fail)
  refine (HNM.out _ (HK.out.below B0.out)).mono ?_
  rintro e w1 ⟨rfl, hb⟩
  replace k0 := cell_later hb k0
  replace k1 := cell_later hb k1
  replace k2 := cell_later hb k2
  replace k3 := cell_later hb k3
  replace k4 := cell_later hb k4
  replace k5 := cell_later hb k5
  have B1 := Lib.hid (below_chain B0.out hb)
  clear hb
  cases x1
  · obtain rfl : R = false := by rw [HV.out]; rfl
    go_wp2_with (fail)
    go_ret
    exact ⟨rfl, B1.out⟩
  have hk1 := World.block_lt_of_cell? _ _ k1
  dsimp only at hk1
  have hba := below_alloc (Below.refl w1.heap.size w1) (.cells #[.slice a1 ins.length c1, .slice a2 vs.length c2, .slice a3 os.length c3] 24)
  have B2 := Lib.hid (below_chain B1.out hba)
  have HCD := Lib.hid (HCC.out w1.heap.size (w1.alloc (.cells #[.slice a1 ins.length c1, .slice a2 vs.length c2, .slice a3 os.length c3] 24)) (fun k d hd => by
    match k, hd with
    | 0, hd => simp only [List.getElem?_cons_zero, Option.some.injEq] at hd; subst hd; go_simp; first | done | rfl
    | 1, hd => simp only [List.getElem?_cons_succ, List.getElem?_cons_zero, Option.some.injEq] at hd; subst hd; go_simp; first | done | rfl
    | 2, hd => simp only [List.getElem?_cons_succ, List.getElem?_cons_zero, Option.some.injEq] at hd; subst hd; go_simp; first | done | rfl
    | k + 3, hd => simp at hd) (fun d hd => by
    simp only [List.mem_cons, List.not_mem_nil, or_false] at hd
    rcases hd with rfl | rfl | rfl
    · exact ⟨H.out.i.below B2.out, HZ.out.1⟩
    · exact ⟨H.out.v.below B2.out, HZ.out.2.1⟩
    · exact ⟨H.out.o.below B2.out, HZ.out.2.2⟩))
  clear hba HCC
  go_wp2_with (fail)
  refine HCD.out.mono ?_
  rintro e w3 ⟨A3, C3, rfl, hr3, _, hb⟩
  replace k4 : w3.cell? ⟨w.heap.size, 4, none⟩ = some (.string gd) := cell_later hb (by go_simp)
  replace k5 : w3.cell? ⟨w.heap.size, 5, none⟩ = some (.slice a4 ls.length c4) := cell_later hb (by go_simp)
  replace k1 : w3.cell? ⟨w.heap.size, 1, none⟩ = some (.slice a1 ins.length c1) := cell_later hb (by go_simp)
  replace k3 : w3.cell? ⟨w.heap.size, 3, none⟩ = some (.slice a3 os.length c3) := cell_later hb (by go_simp)
  replace k2 : w3.cell? ⟨w.heap.size, 2, none⟩ = some (.slice a2 vs.length c2) := cell_later hb (by go_simp)
  replace k0 : w3.cell? ⟨w.heap.size, 0, none⟩ = some (.string nm) := cell_later hb (by go_simp)
  have B3 := Lib.hid (below_chain B2.out hb)
  have HR3 := Lib.hid hr3
  clear hb hr3 HCD hk1
  go_wp2_with (fail)
  refine (HAN.out A3 C3 _ HR3.out (HK.out.below B3.out)).mono ?_
  rintro e w4 ⟨rfl, hb⟩
  replace k0 := cell_later hb k0
  replace k1 := cell_later hb k1
  replace k2 := cell_later hb k2
  replace k3 := cell_later hb k3
  replace k4 := cell_later hb k4
  replace k5 := cell_later hb k5
  have B4 := Lib.hid (below_chain B3.out hb)
  clear hb
  cases x2
  · obtain rfl : R = false := by rw [HV.out]; rfl
    go_wp2_with (fail)
    go_ret
    exact ⟨rfl, B4.out⟩
  rcases hz : gd.toList.isEmpty with _ | _
  · go_wp2_with (fail)
    refine (HGD.out _ (HK.out.below B4.out)).mono ?_
    rintro e w5 ⟨rfl, hb⟩
    replace k0 := cell_later hb k0
    replace k1 := cell_later hb k1
    replace k2 := cell_later hb k2
    replace k3 := cell_later hb k3
    replace k4 := cell_later hb k4
    replace k5 := cell_later hb k5
    have B5 := Lib.hid (below_chain B4.out hb)
    clear hb
    cases x6
    · obtain rfl : R = false := by rw [HV.out, hz]; rfl
      go_wp2_with (fail)
      go_ret
      exact ⟨rfl, B5.out⟩
    have HVV : Hid (R = (decide (0 < ins.length) && (decide (0 < os.length) && (decide (0 < ls.length) && (x7 && !x8))))) := Lib.hid (by rw [HV.out, hz]; simp)
    by_cases e1 : 0 < ins.length
    rotate_left
    · have e1i : ¬ (0 : Int) < (ins.length : Int) := by omega
      obtain rfl : R = false := by rw [HVV.out, decide_eq_false e1]; rfl
      go_wp2_with (fail)
      go_ret
      exact ⟨rfl, B5.out⟩
    have e1i : (0 : Int) < (ins.length : Int) := by omega
    by_cases e2 : 0 < os.length
    rotate_left
    · have e2i : ¬ (0 : Int) < (os.length : Int) := by omega
      obtain rfl : R = false := by rw [HVV.out, decide_eq_true e1, decide_eq_false e2]; rfl
      go_wp2_with (fail)
      go_ret
      exact ⟨rfl, B5.out⟩
    have e2i : (0 : Int) < (os.length : Int) := by omega
    by_cases e3 : 0 < ls.length
    rotate_left
    · have e3i : ¬ (0 : Int) < (ls.length : Int) := by omega
      obtain rfl : R = false := by rw [HVV.out, decide_eq_true e1, decide_eq_true e2, decide_eq_false e3]; rfl
      go_wp2_with (fail)
      go_ret
      exact ⟨rfl, B5.out⟩
    have e3i : (0 : Int) < (ls.length : Int) := by omega
    obtain rfl : R = (x7 && !x8) := by rw [HVV.out, decide_eq_true e1, decide_eq_true e2, decide_eq_true e3]; rfl
    clear HVV HV
    go_wp2_with (fail)
    refine (HSZ.out _ (H.out.below B5.out)).mono ?_
    rintro e w8 ⟨rfl, hb⟩
    have B8 := Lib.hid (below_chain B5.out hb)
    replace k5 := cell_later hb k5
    clear hb k0 k1 k2 k3 k4
    cases x7
    · go_wp2_with (fail)
      go_ret
      exact ⟨rfl, B8.out⟩
    go_wp2_with (fail)
    refine (HLC.out _ (H.out.l.below B8.out) (HK.out.below B8.out)).mono ?_
    rintro e w9 ⟨rfl, hb⟩
    have B9 := Lib.hid (below_chain B8.out hb)
    clear hb
    go_wp2_with (fail)
    go_ret
    exact ⟨rfl, B9.out⟩
  · skip
    have HVV : Hid (R = (decide (0 < ins.length) && (decide (0 < os.length) && (decide (0 < ls.length) && (x7 && !x8))))) := Lib.hid (by rw [HV.out, hz]; simp)
    by_cases e1 : 0 < ins.length
    rotate_left
    · have e1i : ¬ (0 : Int) < (ins.length : Int) := by omega
      obtain rfl : R = false := by rw [HVV.out, decide_eq_false e1]; rfl
      go_wp2_with (fail)
      go_ret
      exact ⟨rfl, B4.out⟩
    have e1i : (0 : Int) < (ins.length : Int) := by omega
    by_cases e2 : 0 < os.length
    rotate_left
    · have e2i : ¬ (0 : Int) < (os.length : Int) := by omega
      obtain rfl : R = false := by rw [HVV.out, decide_eq_true e1, decide_eq_false e2]; rfl
      go_wp2_with (fail)
      go_ret
      exact ⟨rfl, B4.out⟩
    have e2i : (0 : Int) < (os.length : Int) := by omega
    by_cases e3 : 0 < ls.length
    rotate_left
    · have e3i : ¬ (0 : Int) < (ls.length : Int) := by omega
      obtain rfl : R = false := by rw [HVV.out, decide_eq_true e1, decide_eq_true e2, decide_eq_false e3]; rfl
      go_wp2_with (fail)
      go_ret
      exact ⟨rfl, B4.out⟩
    have e3i : (0 : Int) < (ls.length : Int) := by omega
    obtain rfl : R = (x7 && !x8) := by rw [HVV.out, decide_eq_true e1, decide_eq_true e2, decide_eq_true e3]; rfl
    clear HVV HV
    go_wp2_with (fail)
    refine (HSZ.out _ (H.out.below B4.out)).mono ?_
    rintro e w8 ⟨rfl, hb⟩
    have B8 := Lib.hid (below_chain B4.out hb)
    replace k5 := cell_later hb k5
    clear hb k0 k1 k2 k3 k4
    cases x7
    · go_wp2_with (fail)
      go_ret
      exact ⟨rfl, B8.out⟩
    go_wp2_with (fail)
    refine (HLC.out _ (H.out.l.below B8.out) (HK.out.below B8.out)).mono ?_
    rintro e w9 ⟨rfl, hb⟩
    have B9 := Lib.hid (below_chain B8.out hb)
    clear hb
    go_wp2_with (fail)
    go_ret
    exact ⟨rfl, B9.out⟩
end Go.Proofs.YteengjcplmjakaaGreatDoor
