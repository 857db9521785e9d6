/- Contracts of the laws' own sizes of lines and programs (printed by PSz.py). Condition: the lengths are those of a run. -/
import Derived.Test.YtackekfjalaacaaGreatDoorPLin
namespace Go.Proofs.YtackekfjalaacaaGreatDoor
open Go.RowKit

def LinSz (r : Lin) : Prop := r.tg.size ≤ 9223372036854775807 ∧ r.ts.length ≤ 9223372036854775807 ∧ ∀ t ∈ r.ts, t.nm.size ≤ 9223372036854775807
set_option maxRecDepth 100000 in
theorem c_szLine (r : Lin) (a : Option Addr) (c : Nat) (left : Int) (w : World) (hs : LinSz r) (h0 : 0 ≤ left) (h1 : left ≤ 1048576) (hr : Rd w a (tmCells r.ts)) :
    Calls Tryz.prog 55 #[.agg #[.string r.tg, .slice a r.ts.length c], .int .i64 left] w (Left left (r.tg.size ≤ 1048576 ∧ TmOk r.ts) w) := by
  obtain ⟨tg, ts⟩ := r
  obtain ⟨s0, s1, s2⟩ := hs
  dsimp only at s0 s1 s2 hr ⊢
  have HS := Lib.hid s2
  have HR := Lib.hid hr
  clear s2 hr
  have hw1 : IntKind.i64.wrap (left - (tg.size : Int)) = left - tg.size := IntWalk.i64_in _ (by omega)
  by_cases c0 : left - (tg.size : Int) < 0
  · skip
    go_enter Tryz.func55, Tryz.ntmps55
    go_wp2_with (fail)
    go_ret
    exact ⟨-1, rfl, .inl rfl, by (repeat (first | exact Below.refl _ _ | assumption | refine below_alloc ?_ _ | refine below_drewN ?_ _ | refine below_set ?_ _ (by simp; try omega) | refine Below.drew ?_))⟩
  go_enter Tryz.func55, Tryz.ntmps55
  go_wp2_with (fail)
  refine (c_szTermS _ _ _ ts _ _ rfl s1 HS.out (by omega) (by omega) (HR.out.alloc _)).mono ?_
  rintro e w2 ⟨u, rfl, hu, hb⟩
  have HB2 := Lib.hid (below_chain (below_alloc (Below.refl _ _) _) hb)
  clear hb
  rcases hu with rfl | ⟨u0, u1, u2⟩
  · go_wp2_with (fail)
    go_ret
    exact ⟨-1, rfl, .inl rfl, HB2.out⟩
  have HT := Lib.hid u2
  clear u2
  have hu0 : ¬ u < 0 := by omega
  go_wp2_with (fail)
  go_ret
  exact ⟨u, rfl, .inr ⟨by omega, by omega, by omega, HT.out⟩, HB2.out⟩
set_option maxRecDepth 100000 in
theorem c_szLineS (A : Option Addr) (c n : Nat) (l : List Lin) (left : Int) (w : World) (hn : n = l.length) (hm : n ≤ 9223372036854775807) (hs : ∀ t ∈ l, LinSz t) (h0 : 0 ≤ left) (h1 : left ≤ 1048576) (hr : Ll w A l) :
    Calls Tryz.prog 25 #[.slice A n c, .int .i64 left] w (Left left (LinOk l) w) := by
  have HN := Lib.hid hn
  clear hn
  have hw1 : IntKind.i64.wrap (left - (n : Int)) = left - n := IntWalk.i64_in _ (by omega)
  by_cases c0 : left - (n : Int) < 0
  · skip
    go_enter Tryz.func25, Tryz.ntmps25
    go_wp2
    go_ret
    exact ⟨-1, rfl, .inl rfl, by (repeat (first | exact Below.refl _ _ | assumption | refine below_alloc ?_ _ | refine below_drewN ?_ _ | refine below_set ?_ _ (by simp; try omega) | refine Below.drew ?_))⟩
  go_enter Tryz.func25, Tryz.ntmps25
  go_wp2
  go_loopw [1, 5] (fun t i wr => ∃ k : Nat, ∃ v : Int, k ≤ n ∧ i = .int .i64 k ∧ t = .int .i64 v ∧ 0 ≤ v ∧ v ≤ left ∧ Hid (∀ r ∈ l.take k, r.tg.size ≤ 1048576 ∧ TmOk r.ts) ∧ Hid (Below w.heap.size w wr)) (fun _ i _ => n - (intOf i).toNat)
  case atStart => exact ⟨0, _, Nat.zero_le _, rfl, rfl, by omega, by omega, Lib.hid (by simp), Lib.hid (by (repeat (first | exact Below.refl _ _ | assumption | refine below_alloc ?_ _ | refine below_drewN ?_ _ | refine below_set ?_ _ (by simp; try omega) | refine Below.drew ?_)))⟩
  case round =>
    obtain ⟨k, v, hk, rfl, rfl, hv0, hv1, ha, hb⟩ := hrel
    by_cases hlt : k < n
    · obtain ⟨r, hz⟩ : ∃ z, l[k]? = some z := ⟨_, List.getElem?_eq_getElem (by have := HN.out; omega)⟩
      obtain ⟨b, off, a, ca, rfl, _, g0, g1, hg⟩ := (hr.below hb.out).at hz
      have HOK := Lib.hid (hs r (List.mem_of_getElem? hz))
      have HZ := Lib.hid hz
      have HG := Lib.hid hg
      have hk0 : (0 : Int) ≤ (k : Int) := by omega
      have hk1 : (k : Int) < n := by omega
      clear hz hr hs hg
      go_wp2_with (fail)
      refine (c_szLine r a ca v _ HOK.out hv0 (by omega) HG.out).mono ?_
      rintro e w2 ⟨u, rfl, hu, hb2⟩
      have HB2 := Lib.hid (below_chain hb.out hb2)
      clear hb2
      rcases hu with rfl | ⟨u0, u1, u2⟩
      · go_wp2_with (fail)
        go_ret
        exact ⟨-1, rfl, .inl rfl, HB2.out⟩
      · have hu0 : ¬ u < 0 := by omega
        have HU := Lib.hid u2
        clear u2
        go_wp2_with (fail)
        go_roundw
        case rel =>
          refine ⟨k + 1, u, by omega, by go_num, rfl, u0, by omega, ?_, HB2⟩
          refine Lib.hid ?_
          intro r' hr'
          rw [List.take_add_one, HZ.out, List.mem_append] at hr'
          rcases hr' with hr' | hr'
          · exact ha.out r' hr'
          · simp at hr'
            subst hr'
            exact HU.out
        case measure => simp [intOf]; omega
    · obtain rfl : k = n := by omega
      have HA := Lib.hid ha
      clear ha
      go_wp2_with (fail)
      go_ret
      refine ⟨v, rfl, .inr ⟨hv0, hv1, by have := HN.out; omega, ?_⟩, hb.out⟩
      have := HA.out.out
      rwa [List.take_of_length_le (by have := HN.out; omega)] at this
/-- A program. -/
structure Prg where
  nm : ByteArray
  ins : List ByteArray
  vs : List ByteArray
  os : List ByteArray
  gd : ByteArray
  ls : List Lin
def pv (p : Prg) (a1 a2 a3 a4 : Option Addr) (c1 c2 c3 c4 : Nat) : Value := .agg #[.string p.nm, .slice a1 p.ins.length c1, .slice a2 p.vs.length c2, .slice a3 p.os.length c3, .string p.gd, .slice a4 p.ls.length c4]
/-- The program's lists, where they lie. -/
structure PgR (w : World) (a1 a2 a3 a4 : Option Addr) (p : Prg) : Prop where
  i : Rd w a1 (sts p.ins)
  v : Rd w a2 (sts p.vs)
  o : Rd w a3 (sts p.os)
  l : Ll w a4 p.ls
theorem PgR.below {w w' : World} {a1 a2 a3 a4 : Option Addr} {p : Prg} (h : PgR w a1 a2 a3 a4 p) (hb : Below w.heap.size w w') : PgR w' a1 a2 a3 a4 p := ⟨h.i.below hb, h.v.below hb, h.o.below hb, h.l.below hb⟩
def StSz (l : List ByteArray) : Prop := l.length ≤ 9223372036854775807 ∧ ∀ t ∈ l, t.size ≤ 9223372036854775807
structure PgSz (p : Prg) : Prop where
  n : p.nm.size ≤ 9223372036854775807
  i : StSz p.ins
  v : StSz p.vs
  o : StSz p.os
  g : p.gd.size ≤ 9223372036854775807
  l : p.ls.length ≤ 9223372036854775807
  r : ∀ t ∈ p.ls, LinSz t
structure PgOk (p : Prg) : Prop where
  n : p.nm.size ≤ 1048576
  i : StOk p.ins
  v : StOk p.vs
  o : StOk p.os
  g : p.gd.size ≤ 1048576
  l : LinOk p.ls
set_option maxHeartbeats 1000000 in
set_option maxRecDepth 100000 in
theorem c_szProgram (p : Prg) (a1 a2 a3 a4 : Option Addr) (c1 c2 c3 c4 : Nat) (left : Int) (w : World) (hs : PgSz p) (h0 : 0 ≤ left) (h1 : left ≤ 1048576) (h : PgR w a1 a2 a3 a4 p) :
    Calls Tryz.prog 6 #[pv p a1 a2 a3 a4 c1 c2 c3 c4, .int .i64 left] w (Left left (PgOk p) w) := by
  obtain ⟨nm, ins, vs, os, gd, ls⟩ := p
  have HS := Lib.hid hs
  have H := Lib.hid h
  have sn := hs.n
  have sg := hs.g
  clear hs h
  dsimp only [pv] at sn sg ⊢
  have B0 := Lib.hid (below_alloc (Below.refl w.heap.size w) (.cells #[.string nm, .slice a1 ins.length c1, .slice a2 vs.length c2, .slice a3 os.length c3, .string gd, .slice a4 ls.length c4] 25))
  have k1 : (w.alloc (.cells #[.string nm, .slice a1 ins.length c1, .slice a2 vs.length c2, .slice a3 os.length c3, .string gd, .slice a4 ls.length c4] 25)).cell? ⟨w.heap.size, 1, none⟩ = some (.slice a1 ins.length c1) := by go_simp
  have k2 : (w.alloc (.cells #[.string nm, .slice a1 ins.length c1, .slice a2 vs.length c2, .slice a3 os.length c3, .string gd, .slice a4 ls.length c4] 25)).cell? ⟨w.heap.size, 2, none⟩ = some (.slice a2 vs.length c2) := by go_simp
  have k3 : (w.alloc (.cells #[.string nm, .slice a1 ins.length c1, .slice a2 vs.length c2, .slice a3 os.length c3, .string gd, .slice a4 ls.length c4] 25)).cell? ⟨w.heap.size, 3, none⟩ = some (.slice a3 os.length c3) := by go_simp
  have k4 : (w.alloc (.cells #[.string nm, .slice a1 ins.length c1, .slice a2 vs.length c2, .slice a3 os.length c3, .string gd, .slice a4 ls.length c4] 25)).cell? ⟨w.heap.size, 4, none⟩ = some (.string gd) := by go_simp
  have k5 : (w.alloc (.cells #[.string nm, .slice a1 ins.length c1, .slice a2 vs.length c2, .slice a3 os.length c3, .string gd, .slice a4 ls.length c4] 25)).cell? ⟨w.heap.size, 5, none⟩ = some (.slice a4 ls.length c4) := by go_simp
  have hw1 : IntKind.i64.wrap (left - (nm.size : Int)) = left - nm.size := IntWalk.i64_in _ (by omega)
  by_cases c0 : left - (nm.size : Int) < 0
  · skip
    go_enter Tryz.func6, Tryz.ntmps6
    go_wp2_with (fail)
    go_ret
    exact ⟨-1, rfl, .inl rfl, B0.out⟩
  go_enter Tryz.func6, Tryz.ntmps6
  go_upto_region 4 with (fail)
  generalize w.alloc (.cells #[.string nm, .slice a1 ins.length c1, .slice a2 vs.length c2, .slice a3 os.length c3, .string gd, .slice a4 ls.length c4] 25) = W0 at *
  obtain ⟨v0, hv0⟩ : ∃ v0, v0 = left - (nm.size : Int) := ⟨_, rfl⟩
  have HV0 := Lib.hid hv0
  rw [← hv0] at c0 hw1
  simp only [← hv0]
  have hl0 : 0 ≤ v0 ∧ v0 ≤ left := by omega
  obtain ⟨hl0, hl1⟩ := hl0
  clear hv0 hw1 c0
  go_wp2_with (fail)
  refine (c_szStringS a1 c1 _ ins v0 _ rfl HS.out.i.1 HS.out.i.2 (by omega) (by omega) (H.out.i.below B0.out)).mono ?_
  rintro e w0 ⟨u1, rfl, hu, hb⟩
  have B1 := Lib.hid (below_chain B0.out hb)
  replace k1 := cell_later hb k1
  replace k2 := cell_later hb k2
  replace k3 := cell_later hb k3
  replace k4 := cell_later hb k4
  replace k5 := cell_later hb k5
  clear hb
  rcases hu with rfl | ⟨p0, q0, z0⟩
  · go_wp2_with (fail)
    go_ret
    exact ⟨-1, rfl, .inl rfl, B1.out⟩
  have Z0 := Lib.hid z0
  have n0 : ¬ u1 < 0 := by omega
  clear z0
  go_wp2_with (fail)
  refine (c_szStringS a2 c2 _ vs u1 _ rfl HS.out.v.1 HS.out.v.2 (by omega) (by omega) (H.out.v.below B1.out)).mono ?_
  rintro e w1 ⟨u2, rfl, hu, hb⟩
  have B2 := Lib.hid (below_chain B1.out hb)
  replace k1 := cell_later hb k1
  replace k2 := cell_later hb k2
  replace k3 := cell_later hb k3
  replace k4 := cell_later hb k4
  replace k5 := cell_later hb k5
  clear hb
  rcases hu with rfl | ⟨p1, q1, z1⟩
  · go_wp2_with (fail)
    go_ret
    exact ⟨-1, rfl, .inl rfl, B2.out⟩
  have Z1 := Lib.hid z1
  have n1 : ¬ u2 < 0 := by omega
  clear z1
  go_wp2_with (fail)
  refine (c_szStringS a3 c3 _ os u2 _ rfl HS.out.o.1 HS.out.o.2 (by omega) (by omega) (H.out.o.below B2.out)).mono ?_
  rintro e w2 ⟨u3, rfl, hu, hb⟩
  have B3 := Lib.hid (below_chain B2.out hb)
  replace k1 := cell_later hb k1
  replace k2 := cell_later hb k2
  replace k3 := cell_later hb k3
  replace k4 := cell_later hb k4
  replace k5 := cell_later hb k5
  clear hb
  rcases hu with rfl | ⟨p2, q2, z2⟩
  · go_wp2_with (fail)
    go_ret
    exact ⟨-1, rfl, .inl rfl, B3.out⟩
  have Z2 := Lib.hid z2
  have n2 : ¬ u3 < 0 := by omega
  clear z2
  have hw2 : IntKind.i64.wrap (u3 - (gd.size : Int)) = u3 - gd.size := IntWalk.i64_in _ (by omega)
  by_cases c9 : u3 - (gd.size : Int) < 0
  · go_wp2_with (fail)
    go_ret
    exact ⟨-1, rfl, .inl rfl, B3.out⟩
  go_wp2_with (fail)
  refine (c_szLineS a4 c4 _ ls _ _ rfl HS.out.l HS.out.r (by omega) (by omega) (H.out.l.below B3.out)).mono ?_
  rintro e w4 ⟨u4, rfl, hu, hb⟩
  have B4 := Lib.hid (below_chain B3.out hb)
  clear hb
  rcases hu with rfl | ⟨p4, q4, z4⟩
  · go_wp2_with (fail)
    go_ret
    exact ⟨-1, rfl, .inl rfl, B4.out⟩
  have Z4 := Lib.hid z4
  have n4 : ¬ u4 < 0 := by omega
  clear z4
  go_wp2_with (fail)
  go_ret
  have hv := HV0.out
  exact ⟨u4, rfl, .inr ⟨by omega, by omega, ⟨by show nm.size ≤ _; omega, Z0.out, Z1.out, Z2.out, by show gd.size ≤ _; omega, Z4.out⟩⟩, B4.out⟩
end Go.Proofs.YtackekfjalaacaaGreatDoor
