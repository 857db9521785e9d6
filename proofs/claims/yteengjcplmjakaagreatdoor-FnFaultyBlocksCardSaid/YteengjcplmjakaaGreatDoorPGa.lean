/- Closures of faults on the program's side, names, usesUnknown (printed by PGa.py). Condition: the lengths. -/
import Derived.Test.YteengjcplmjakaaGreatDoorPFa
namespace Go.Proofs.YteengjcplmjakaaGreatDoor
open Go.RowKit

set_option maxRecDepth 100000 in
theorem c_fault1 (b : Nat) (A : Option Addr) (c n : Nat) (l : List ByteArray) (s : ByteArray) (w : World) (hn : n = l.length) (hs : n ≤ 1048576) (hc : w.cell? ⟨b, 0, none⟩ = some (.slice A n c)) (hr : Rd w A (sts l)) :
    Calls Tryz.prog 136 #[.string s, .pointer (some ⟨b, 0, none⟩)] w fun e w' => e = .returned (.bool (!memS l s)) ∧ Below w.heap.size w w' := by
  have H := Lib.hid (c_ContainsS A c n l s w hn hs hr)
  generalize memS l s = q at *
  clear hr hn
  go_enter Tryz.func136, Tryz.ntmps136
  go_wp2_with (fail)
  refine H.out.mono ?_
  rintro e w1 ⟨rfl, hb⟩
  have HB := Lib.hid hb
  clear hb hc
  go_wp2_with (fail)
  go_ret
  exact ⟨rfl, HB.out⟩
set_option maxRecDepth 100000 in
theorem c_fault2 (b : Nat) (A : Option Addr) (c n : Nat) (l : List ByteArray) (s : ByteArray) (w : World) (hn : n = l.length) (hs : n ≤ 1048576) (hc : w.cell? ⟨b, 0, none⟩ = some (.slice A n c)) (hr : Rd w A (sts l)) :
    Calls Tryz.prog 137 #[.string s, .pointer (some ⟨b, 0, none⟩)] w fun e w' => e = .returned (.bool (!memS l s)) ∧ Below w.heap.size w w' := by
  have H := Lib.hid (c_ContainsS A c n l s w hn hs hr)
  generalize memS l s = q at *
  clear hr hn
  go_enter Tryz.func137, Tryz.ntmps137
  go_wp2_with (fail)
  refine H.out.mono ?_
  rintro e w1 ⟨rfl, hb⟩
  have HB := Lib.hid hb
  clear hb hc
  go_wp2_with (fail)
  go_ret
  exact ⟨rfl, HB.out⟩
set_option maxHeartbeats 1000000 in
set_option maxRecDepth 100000 in
theorem c_names (p : Prg) (a1 a2 a3 a4 : Option Addr) (c1 c2 c3 c4 : Nat) (w : World) (hs : PgOk p) (hz : PgZ a1 a2 a3 c1 c2 c3) (h : PgR w a1 a2 a3 a4 p) :
    Calls Tryz.prog 135 #[pv p a1 a2 a3 a4 c1 c2 c3 c4] w fun e w' => ∃ A cc, e = .returned (.slice A (p.ins ++ (p.vs ++ p.os)).length cc) ∧ Rd w' A (sts (p.ins ++ (p.vs ++ p.os))) ∧ ((p.ins ++ (p.vs ++ p.os)).length ≤ cc ∧ cc ≤ maxLen) ∧ Below w.heap.size w w' := by
  obtain ⟨nm, ins, vs, os, gd, ls⟩ := p
  have H := Lib.hid h
  have HZ := Lib.hid hz
  have si := hs.i.1
  have sv := hs.v.1
  have so := hs.o.1
  dsimp only at si sv so ⊢
  have HCC := Lib.hid (fun g w hg hd => c_Concat g 3 3 [⟨ins, a1, c1⟩, ⟨vs, a2, c2⟩, ⟨os, a3, c3⟩] w rfl (by decide) hg hd (by simp [catS]; omega))
  have hcat : catS [⟨ins, a1, c1⟩, ⟨vs, a2, c2⟩, ⟨os, a3, c3⟩] = ins ++ (vs ++ os) := by simp [catS]
  rw [hcat] at HCC
  generalize ins ++ (vs ++ os) = LL at *
  have B0 := Lib.hid (below_alloc (Below.refl w.heap.size w) (.cells #[.string nm, .slice a1 ins.length c1, .slice a2 vs.length c2, .slice a3 os.length c3, .string gd, .slice a4 ls.length c4] 27))
  clear hs h hz hcat si sv so
  dsimp only [pv]
  have k0 : (w.alloc (.cells #[.string nm, .slice a1 ins.length c1, .slice a2 vs.length c2, .slice a3 os.length c3, .string gd, .slice a4 ls.length c4] 27)).cell? ⟨w.heap.size, 0, none⟩ = some (.string nm) := by go_simp
  have k1 : (w.alloc (.cells #[.string nm, .slice a1 ins.length c1, .slice a2 vs.length c2, .slice a3 os.length c3, .string gd, .slice a4 ls.length c4] 27)).cell? ⟨w.heap.size, 1, none⟩ = some (.slice a1 ins.length c1) := by go_simp
  have k2 : (w.alloc (.cells #[.string nm, .slice a1 ins.length c1, .slice a2 vs.length c2, .slice a3 os.length c3, .string gd, .slice a4 ls.length c4] 27)).cell? ⟨w.heap.size, 2, none⟩ = some (.slice a2 vs.length c2) := by go_simp
  have k3 : (w.alloc (.cells #[.string nm, .slice a1 ins.length c1, .slice a2 vs.length c2, .slice a3 os.length c3, .string gd, .slice a4 ls.length c4] 27)).cell? ⟨w.heap.size, 3, none⟩ = some (.slice a3 os.length c3) := by go_simp
  have k4 : (w.alloc (.cells #[.string nm, .slice a1 ins.length c1, .slice a2 vs.length c2, .slice a3 os.length c3, .string gd, .slice a4 ls.length c4] 27)).cell? ⟨w.heap.size, 4, none⟩ = some (.string gd) := by go_simp
  have k5 : (w.alloc (.cells #[.string nm, .slice a1 ins.length c1, .slice a2 vs.length c2, .slice a3 os.length c3, .string gd, .slice a4 ls.length c4] 27)).cell? ⟨w.heap.size, 5, none⟩ = some (.slice a4 ls.length c4) := by go_simp
  go_enter Tryz.func135, Tryz.ntmps135
  go_upto_region 1 with (fail)
  generalize w.alloc (.cells #[.string nm, .slice a1 ins.length c1, .slice a2 vs.length c2, .slice a3 os.length c3, .string gd, .slice a4 ls.length c4] 27) = W at *
  have hk1 := World.block_lt_of_cell? _ _ k1
  dsimp only at hk1
  have hba := below_alloc (Below.refl W.heap.size W) (.cells #[.slice a1 ins.length c1, .slice a2 vs.length c2, .slice a3 os.length c3] 24)
  have B2 := Lib.hid (below_chain B0.out hba)
  have HCD := Lib.hid (HCC.out W.heap.size (W.alloc (.cells #[.slice a1 ins.length c1, .slice a2 vs.length c2, .slice a3 os.length c3] 24)) (fun k d hd => by
    match k, hd with
    | 0, hd => simp only [List.getElem?_cons_zero, Option.some.injEq] at hd; subst hd; go_simp; first | done | rfl
    | 1, hd => simp only [List.getElem?_cons_succ, List.getElem?_cons_zero, Option.some.injEq] at hd; subst hd; go_simp; first | done | rfl
    | 2, hd => simp only [List.getElem?_cons_succ, List.getElem?_cons_zero, Option.some.injEq] at hd; subst hd; go_simp; first | done | rfl
    | k + 3, hd => simp at hd) (fun d hd => by
    simp only [List.mem_cons, List.not_mem_nil, or_false] at hd
    rcases hd with rfl | rfl | rfl
    · exact ⟨H.out.i.below B2.out, HZ.out.1⟩
    · exact ⟨H.out.v.below B2.out, HZ.out.2.1⟩
    · exact ⟨H.out.o.below B2.out, HZ.out.2.2⟩))
  clear hba HCC
  go_wp2_with (fail)
  refine HCD.out.mono ?_
  rintro e w3 ⟨A3, C3, rfl, hr3, hcc, hb⟩
  have B3 := Lib.hid (below_chain B2.out hb)
  have HR3 := Lib.hid hr3
  have HCN := Lib.hid hcc
  clear hb hr3 HCD hk1 k0 k1 k2 k3 k4 k5 hcc
  go_wp2_with (fail)
  go_ret
  exact ⟨A3, C3, rfl, HR3.out, ⟨HCN.out.1, HCN.out.2.1⟩, B3.out⟩
set_option maxHeartbeats 1000000 in
set_option maxRecDepth 100000 in
theorem c_uses1 (b : Nat) (p : Prg) (a1 a2 : Option Addr) (c1 c2 : Nat) (t : Tm) (w : World) (hs : PgOk p) (k1 : w.cell? ⟨b, 1, none⟩ = some (.slice a1 p.ins.length c1)) (k2 : w.cell? ⟨b, 2, none⟩ = some (.slice a2 p.vs.length c2)) (hi : Rd w a1 (sts p.ins)) (hv : Rd w a2 (sts p.vs)) :
    Calls Tryz.prog 173 #[.agg #[.int .i64 t.k, .string t.nm, .int .i64 t.n], .pointer (some ⟨b, 0, none⟩)] w fun e w' => e = .returned (.bool (unT p.ins p.vs t)) ∧ Below w.heap.size w w' := by
  obtain ⟨nm, ins, vs, os, gd, ls⟩ := p
  obtain ⟨tk, tn, tx⟩ := t
  dsimp only at k1 k2 hi hv ⊢
  have HI := Lib.hid (fun w h => c_ContainsS a1 c1 _ ins tn w rfl hs.i.1 h)
  have HJ := Lib.hid (fun w h => c_ContainsS a2 c2 _ vs tn w rfl hs.v.1 h)
  have HRI := Lib.hid hi
  have HRV := Lib.hid hv
  have HV : Hid (unT ins vs ⟨tk, tn, tx⟩ = (tk == 1 && !(memS ins tn || memS vs tn))) := Lib.hid rfl
  generalize unT ins vs ⟨tk, tn, tx⟩ = R at *
  generalize memS ins tn = q1 at *
  generalize memS vs tn = q2 at *
  have hb0 := World.block_lt_of_cell? _ _ k1
  dsimp only at hb0
  have B0 := Lib.hid (below_alloc (Below.refl w.heap.size w) (.cells #[.int .i64 tk, .string tn, .int .i64 tx] 60))
  have m0 : (w.alloc (.cells #[.int .i64 tk, .string tn, .int .i64 tx] 60)).cell? ⟨w.heap.size, 0, none⟩ = some (.int .i64 tk) := by go_simp
  have m1 : (w.alloc (.cells #[.int .i64 tk, .string tn, .int .i64 tx] 60)).cell? ⟨w.heap.size, 1, none⟩ = some (.string tn) := by go_simp
  replace k1 := cell_later B0.out k1
  replace k2 := cell_later B0.out k2
  clear hs hi hv
  go_enter Tryz.func173, Tryz.ntmps173
  go_upto_region 1 with (fail)
  generalize w.alloc (.cells #[.int .i64 tk, .string tn, .int .i64 tx] 60) = W at *
  by_cases hk : tk = 1
  rotate_left
  · have hkb : (tk == 1) = false := by simpa using hk
    obtain rfl : R = false := by rw [HV.out, hkb]; rfl
    clear hk
    go_wp2_with (fail)
    go_ret
    exact ⟨rfl, B0.out⟩
  subst hk
  go_wp2_with (fail)
  refine (HI.out _ (HRI.out.below B0.out)).mono ?_
  rintro e w1 ⟨rfl, hb⟩
  replace k2 := cell_later hb k2
  replace m1 := cell_later hb m1
  have B1 := Lib.hid (below_chain B0.out hb)
  clear hb k1 m0
  cases q1
  rotate_left
  · obtain rfl : R = false := by rw [HV.out]; rfl
    go_wp2_with (fail)
    go_ret
    exact ⟨rfl, B1.out⟩
  obtain rfl : R = !q2 := by rw [HV.out]; rfl
  go_wp2_with (fail)
  refine (HJ.out _ (HRV.out.below B1.out)).mono ?_
  rintro e w2 ⟨rfl, hb⟩
  have B2 := Lib.hid (below_chain B1.out hb)
  clear hb
  go_wp2_with (fail)
  go_ret
  exact ⟨rfl, B2.out⟩
set_option maxHeartbeats 1000000 in
set_option maxRecDepth 100000 in
theorem c_uses (p : Prg) (a1 a2 a3 a4 : Option Addr) (c1 c2 c3 c4 : Nat) (t : Lin) (a : Option Addr) (c : Nat) (w : World) (hs : PgOk p) (hl : t.ts.length ≤ 1048576) (h : PgR w a1 a2 a3 a4 p) (hr : Rd w a (tmCells t.ts)) :
    Calls Tryz.prog 138 #[pv p a1 a2 a3 a4 c1 c2 c3 c4, .agg #[.string t.tg, .slice a t.ts.length c]] w fun e w' => e = .returned (.bool (unL p.ins p.vs t)) ∧ Below w.heap.size w w' := by
  have HC := Lib.hid (fun (b : Nat) (w : World) (k1 : w.cell? ⟨b, 1, none⟩ = some (.slice a1 p.ins.length c1)) (k2 : w.cell? ⟨b, 2, none⟩ = some (.slice a2 p.vs.length c2)) (hi : Rd w a1 (sts p.ins)) (hv : Rd w a2 (sts p.vs)) (hr : Rd w a (tmCells t.ts)) =>
    c_ContainsTc 173 (.pointer (some ⟨b, 0, none⟩)) (unT p.ins p.vs) a c _ t.ts w rfl (by omega) hr (Lib.hid (fun wr x _ hb => c_uses1 b p a1 a2 c1 c2 x wr hs (cell_later hb k1) (cell_later hb k2) (hi.below hb) (hv.below hb))) (enter_of Tryz.func173 (by kernel_rfl) rfl))
  have HV : Hid (unL p.ins p.vs t = t.ts.any (unT p.ins p.vs)) := Lib.hid rfl
  have H := Lib.hid h
  have HR := Lib.hid hr
  rw [HV.out]
  clear HV
  obtain ⟨nm, ins, vs, os, gd, ls⟩ := p
  obtain ⟨tg, ts⟩ := t
  dsimp only [pv] at *
  generalize ts.any (unT ins vs) = q at *
  generalize ts.length = tn at *
  have B0 := Lib.hid (below_alloc (below_alloc (Below.refl w.heap.size w) (.cells #[.string nm, .slice a1 ins.length c1, .slice a2 vs.length c2, .slice a3 os.length c3, .string gd, .slice a4 ls.length c4] 27)) (.cells #[.string tg, .slice a tn c] 80))
  have k1 : ((w.alloc (.cells #[.string nm, .slice a1 ins.length c1, .slice a2 vs.length c2, .slice a3 os.length c3, .string gd, .slice a4 ls.length c4] 27)).alloc (.cells #[.string tg, .slice a tn c] 80)).cell? ⟨w.heap.size, 1, none⟩ = some (.slice a1 ins.length c1) := by go_simp
  have k2 : ((w.alloc (.cells #[.string nm, .slice a1 ins.length c1, .slice a2 vs.length c2, .slice a3 os.length c3, .string gd, .slice a4 ls.length c4] 27)).alloc (.cells #[.string tg, .slice a tn c] 80)).cell? ⟨w.heap.size, 2, none⟩ = some (.slice a2 vs.length c2) := by go_simp
  have g1 : ((w.alloc (.cells #[.string nm, .slice a1 ins.length c1, .slice a2 vs.length c2, .slice a3 os.length c3, .string gd, .slice a4 ls.length c4] 27)).alloc (.cells #[.string tg, .slice a tn c] 80)).cell? ⟨w.heap.size + 1, 1, none⟩ = some (.slice a tn c) := by go_simp
  have HCC := Lib.hid (HC.out w.heap.size _ k1 k2 (H.out.i.below B0.out) (H.out.v.below B0.out) (HR.out.below B0.out))
  clear hs h hr HC k1 k2
  go_enter Tryz.func138, Tryz.ntmps138
  go_upto_region 1 with (fail)
  generalize (w.alloc (.cells #[.string nm, .slice a1 ins.length c1, .slice a2 vs.length c2, .slice a3 os.length c3, .string gd, .slice a4 ls.length c4] 27)).alloc (.cells #[.string tg, .slice a tn c] 80) = W at *
  go_wp2_with (fail)
  refine HCC.out.mono ?_
  rintro e w1 ⟨rfl, hb⟩
  have B1 := Lib.hid (below_chain B0.out hb)
  clear hb g1 HCC
  go_wp2_with (fail)
  go_ret
  exact ⟨rfl, B1.out⟩
end Go.Proofs.YteengjcplmjakaaGreatDoor
