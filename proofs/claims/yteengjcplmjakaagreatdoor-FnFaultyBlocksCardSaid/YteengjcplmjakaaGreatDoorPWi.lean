/- IsWritten on the program's side, exactly (printed by PWi.py). Condition: the lengths; the keywords lie there. -/
import Derived.Test.YteengjcplmjakaaGreatDoorPWs
namespace Go.Proofs.YteengjcplmjakaaGreatDoor
open Go.RowKit

set_option maxRecDepth 100000 in
theorem c_areNames1 (s : ByteArray) (w : World) (hs : s.size ≤ 1048576) (hk : KwR w) : Calls Tryz.prog 165 #[.string s] w fun e w' => e = .returned (.bool (!nameB s)) ∧ Below w.heap.size w w' := by
  have H := Lib.hid (c_isName s w hs hk)
  generalize nameB s = x at *
  clear hk
  go_enter Tryz.func165, Tryz.ntmps165
  go_wp2_with (fail)
  refine H.out.mono ?_
  rintro e w1 ⟨rfl, hb⟩
  have HB := Lib.hid hb
  clear hb
  go_wp2_with (fail)
  go_ret
  exact ⟨rfl, HB.out⟩
theorem any_not {α : Type} (p : α → Bool) (l : List α) : (!l.any fun x => !p x) = l.all p := by
  rw [List.all_eq_not_any_not]
set_option maxRecDepth 100000 in
theorem c_areNames (A : Option Addr) (c n : Nat) (l : List ByteArray) (w : World) (hn : l.length = n) (hs : n ≤ 4000000) (hok : ∀ s ∈ l, s.size ≤ 1048576) (hr : Rd w A (sts l)) (hk : KwR w) :
    Calls Tryz.prog 113 #[.slice A n c] w fun e w' => e = .returned (.bool (l.all nameB)) ∧ Below w.heap.size w w' := by
  have HC := Lib.hid (c_ContainsS0 165 (fun s => !nameB s) A c n l w hn hs hr (Lib.hid (fun wr t ht hb => c_areNames1 t wr (hok t ht) (hk.below hb))) (enter_of Tryz.func165 (by kernel_rfl) rfl))
  have HV := Lib.hid (any_not nameB l)
  generalize l.any (fun s => !nameB s) = q at *
  rw [← HV.out]
  clear hr hk hok hn
  go_enter Tryz.func113, Tryz.ntmps113
  go_wp2_with (fail)
  refine HC.out.mono ?_
  rintro e w1 ⟨rfl, hb⟩
  have HB := Lib.hid hb
  clear hb
  go_wp2_with (fail)
  go_ret
  exact ⟨rfl, HB.out⟩
set_option maxRecDepth 100000 in
theorem c_isLine (tg : ByteArray) (ts : List Tm) (a : Option Addr) (c n : Nat) (w : World) (hn : n = ts.length) (hs : tg.size ≤ 1048576) (hok : TmOk ts) (hr : Rd w a (tmCells ts)) (hk : KwR w) :
    Calls Tryz.prog 117 #[.agg #[.string tg, .slice a n c]] w fun e w' => e = .returned (.bool (linB ⟨tg, ts⟩)) ∧ Below w.heap.size w w' := by
  have HB0 := Lib.hid (below_alloc (Below.refl w.heap.size w) (.cells #[.string tg, .slice a n c] 80))
  have HN := Lib.hid (fun w h => c_isName tg w hs h)
  have HE := Lib.hid (fun w h hk => c_IsExpression a c n ts w hn (by have := hok.1; omega) hok.2 h hk)
  have HR := Lib.hid hr
  have HK := Lib.hid hk
  have HL : Hid (linB ⟨tg, ts⟩ = (nameB tg && exB ts)) := Lib.hid rfl
  rw [HL.out]
  clear HL
  generalize nameB tg = u at *
  generalize exB ts = v at *
  have k1 : (w.alloc (.cells #[.string tg, .slice a n c] 80)).cell? ⟨w.heap.size, 1, none⟩ = some (.slice a n c) := by go_simp
  have k0 : (w.alloc (.cells #[.string tg, .slice a n c] 80)).cell? ⟨w.heap.size, 0, none⟩ = some (.string tg) := by go_simp
  clear hn hok hr hk
  go_enter Tryz.func117, Tryz.ntmps117
  go_upto_region 1 with (fail)
  generalize w.alloc (.cells #[.string tg, .slice a n c] 80) = W at *
  go_wp2_with (fail)
  refine (HN.out _ (HK.out.below HB0.out)).mono ?_
  rintro e w1 ⟨rfl, hb⟩
  replace k1 := cell_later hb k1
  have HB1 := Lib.hid (below_chain HB0.out hb)
  clear hb k0
  cases u
  · go_wp2_with (fail)
    go_ret
    exact ⟨rfl, HB1.out⟩
  go_wp2_with (fail)
  refine (HE.out _ (HR.out.below HB1.out) (HK.out.below HB1.out)).mono ?_
  rintro e w2 ⟨rfl, hb⟩
  have HB2 := Lib.hid (below_chain HB1.out hb)
  clear hb
  go_wp2_with (fail)
  go_ret
  exact ⟨rfl, HB2.out⟩
set_option maxRecDepth 100000 in
theorem c_IsWritten1 (tg : ByteArray) (ts : List Tm) (a : Option Addr) (c n : Nat) (w : World) (hn : n = ts.length) (hs : tg.size ≤ 1048576) (hok : TmOk ts) (hr : Rd w a (tmCells ts)) (hk : KwR w) :
    Calls Tryz.prog 116 #[.agg #[.string tg, .slice a n c]] w fun e w' => e = .returned (.bool (!linB ⟨tg, ts⟩)) ∧ Below w.heap.size w w' := by
  have HB0 := Lib.hid (below_alloc (Below.refl w.heap.size w) (.cells #[.string tg, .slice a n c] 80))
  have H := Lib.hid (fun w h hk => c_isLine tg ts a c n w hn hs hok h hk)
  have HR := Lib.hid hr
  have HK := Lib.hid hk
  generalize linB ⟨tg, ts⟩ = x at *
  clear hn hok hr hk
  go_enter Tryz.func116, Tryz.ntmps116
  go_wp2_with (fail)
  refine (H.out _ (HR.out.below HB0.out) (HK.out.below HB0.out)).mono ?_
  rintro e w1 ⟨rfl, hb⟩
  have HB := Lib.hid (below_chain HB0.out hb)
  clear hb
  go_wp2_with (fail)
  go_ret
  exact ⟨rfl, HB.out⟩
set_option maxRecDepth 100000 in
theorem c_isSized1 (tg : ByteArray) (a : Option Addr) (c n : Nat) (w : World) : Calls Tryz.prog 166 #[.agg #[.string tg, .slice a n c]] w fun e w' => e = .returned (.bool (decide (40 < n))) ∧ Below w.heap.size w w' := by
  go_enter Tryz.func166, Tryz.ntmps166
  go_wp2_with (fail)
  go_ret
  exact ⟨ret_bool (by rw [decide_eq_decide]; omega), by (repeat (first | exact Below.refl _ _ | assumption | refine below_alloc ?_ _ | refine below_drewN ?_ _ | refine below_set ?_ _ (by simp; try omega) | refine Below.drew ?_))⟩
def sizB (p : Prg) : Bool := decide (p.ins.length ≤ 20) && (decide (p.vs.length ≤ 20) && (decide (p.os.length ≤ 20) && (decide (p.ls.length ≤ 40) && !(p.ls.any fun l => decide (40 < l.ts.length)))))
set_option maxHeartbeats 1000000 in
set_option maxRecDepth 100000 in
theorem c_isSized (p : Prg) (a1 a2 a3 a4 : Option Addr) (c1 c2 c3 c4 : Nat) (w : World) (hs : PgOk p) (h : PgR w a1 a2 a3 a4 p) :
    Calls Tryz.prog 114 #[pv p a1 a2 a3 a4 c1 c2 c3 c4] w fun e w' => e = .returned (.bool (sizB p)) ∧ Below w.heap.size w w' := by
  obtain ⟨nm, ins, vs, os, gd, ls⟩ := p
  have hls := hs.l.1
  have B0 := Lib.hid (below_alloc (Below.refl w.heap.size w) (.cells #[.string nm, .slice a1 ins.length c1, .slice a2 vs.length c2, .slice a3 os.length c3, .string gd, .slice a4 ls.length c4] 27))
  have HC := Lib.hid (fun w (h : Ll w a4 ls) => c_ContainsL0 166 (fun l => decide (40 < l.ts.length)) a4 c4 _ ls w rfl (by show ls.length ≤ _; have := hls; dsimp only at this; omega) h (Lib.hid (fun wr t a c _ _ _ => c_isSized1 t.tg a c _ wr)) (enter_of Tryz.func166 (by kernel_rfl) rfl))
  have HL := Lib.hid (h.l.below B0.out)
  have HV : Hid (sizB ⟨nm, ins, vs, os, gd, ls⟩ = (decide (ins.length ≤ 20) && (decide (vs.length ≤ 20) && (decide (os.length ≤ 20) && (decide (ls.length ≤ 40) && !(ls.any fun l => decide (40 < l.ts.length))))))) := Lib.hid rfl
  generalize sizB ⟨nm, ins, vs, os, gd, ls⟩ = R at *
  dsimp only at hls HL
  generalize (ls.any fun l => decide (40 < l.ts.length)) = q at *
  clear hs h
  dsimp only [pv]
  have k0 : (w.alloc (.cells #[.string nm, .slice a1 ins.length c1, .slice a2 vs.length c2, .slice a3 os.length c3, .string gd, .slice a4 ls.length c4] 27)).cell? ⟨w.heap.size, 0, none⟩ = some (.string nm) := by go_simp
  have k1 : (w.alloc (.cells #[.string nm, .slice a1 ins.length c1, .slice a2 vs.length c2, .slice a3 os.length c3, .string gd, .slice a4 ls.length c4] 27)).cell? ⟨w.heap.size, 1, none⟩ = some (.slice a1 ins.length c1) := by go_simp
  have k2 : (w.alloc (.cells #[.string nm, .slice a1 ins.length c1, .slice a2 vs.length c2, .slice a3 os.length c3, .string gd, .slice a4 ls.length c4] 27)).cell? ⟨w.heap.size, 2, none⟩ = some (.slice a2 vs.length c2) := by go_simp
  have k3 : (w.alloc (.cells #[.string nm, .slice a1 ins.length c1, .slice a2 vs.length c2, .slice a3 os.length c3, .string gd, .slice a4 ls.length c4] 27)).cell? ⟨w.heap.size, 3, none⟩ = some (.slice a3 os.length c3) := by go_simp
  have k4 : (w.alloc (.cells #[.string nm, .slice a1 ins.length c1, .slice a2 vs.length c2, .slice a3 os.length c3, .string gd, .slice a4 ls.length c4] 27)).cell? ⟨w.heap.size, 4, none⟩ = some (.string gd) := by go_simp
  have k5 : (w.alloc (.cells #[.string nm, .slice a1 ins.length c1, .slice a2 vs.length c2, .slice a3 os.length c3, .string gd, .slice a4 ls.length c4] 27)).cell? ⟨w.heap.size, 5, none⟩ = some (.slice a4 ls.length c4) := by go_simp
  go_enter Tryz.func114, Tryz.ntmps114
  go_upto_region 1 with (fail)
  generalize w.alloc (.cells #[.string nm, .slice a1 ins.length c1, .slice a2 vs.length c2, .slice a3 os.length c3, .string gd, .slice a4 ls.length c4] 27) = W at *
  by_cases e1 : ins.length ≤ 20
  rotate_left
  · have e1i : ¬ (ins.length : Int) ≤ 20 := by omega
    obtain rfl : R = false := by rw [HV.out, decide_eq_false e1]; rfl
    go_wp2_with (fail)
    go_ret
    exact ⟨rfl, B0.out⟩
  have e1i : (ins.length : Int) ≤ 20 := by omega
  by_cases e2 : vs.length ≤ 20
  rotate_left
  · have e2i : ¬ (vs.length : Int) ≤ 20 := by omega
    obtain rfl : R = false := by rw [HV.out, decide_eq_false e2, decide_eq_true e1]; rfl
    go_wp2_with (fail)
    go_ret
    exact ⟨rfl, B0.out⟩
  have e2i : (vs.length : Int) ≤ 20 := by omega
  by_cases e3 : os.length ≤ 20
  rotate_left
  · have e3i : ¬ (os.length : Int) ≤ 20 := by omega
    obtain rfl : R = false := by rw [HV.out, decide_eq_false e3, decide_eq_true e1, decide_eq_true e2]; rfl
    go_wp2_with (fail)
    go_ret
    exact ⟨rfl, B0.out⟩
  have e3i : (os.length : Int) ≤ 20 := by omega
  by_cases e4 : ls.length ≤ 40
  rotate_left
  · have e4i : ¬ (ls.length : Int) ≤ 40 := by omega
    obtain rfl : R = false := by rw [HV.out, decide_eq_false e4, decide_eq_true e1, decide_eq_true e2, decide_eq_true e3]; rfl
    go_wp2_with (fail)
    go_ret
    exact ⟨rfl, B0.out⟩
  have e4i : (ls.length : Int) ≤ 40 := by omega
  obtain rfl : R = !q := by rw [HV.out, decide_eq_true e4, decide_eq_true e1, decide_eq_true e2, decide_eq_true e3]; rfl
  go_wp2_with (fail)
  refine (HC.out _ HL.out).mono ?_
  rintro e w2 ⟨rfl, hb⟩
  have B1 := Lib.hid (below_chain B0.out hb)
  clear hb
  go_wp2_with (fail)
  go_ret
  exact ⟨rfl, B1.out⟩
end Go.Proofs.YteengjcplmjakaaGreatDoor
