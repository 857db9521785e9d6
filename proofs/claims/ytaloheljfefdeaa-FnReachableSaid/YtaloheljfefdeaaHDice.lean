/- The laws' dice: roll, below. Condition: at most 4096 bytes of code. -/
import Derived.Test.YtaloheljfefdeaaH11
import Derived.WalkSmall
namespace Go.Proofs.Ytaloheljfefdeaa
open Go.RowKit

theorem own_dice {w : World} (x y z : Value) : (w.alloc (.cells #[x, y, z] 110)).ownsRow w.heap.size 110 1 (.slice (some ⟨w.heap.size, 0, none⟩) 3 3) 3 [x, y, z] := by
  have h := World.ownsRow_lit (e := 110) (size := 1) (base := w.heap.size) w #[x, y, z] 3 (by simp) (by decide) (by simp)
  simpa using h
/-- The dice at block p. -/
structure Dice (w : World) (p : Nat) (A : Option Addr) (n c : Nat) (i h : Int) : Prop where
  own : w.ownsRow p 110 1 (.slice (some ⟨p, 0, none⟩) 3 3) 3 [.slice A n c, .int .i64 i, .int .u64 h]
  i0 : 0 ≤ i
  h0 : 0 ≤ h
  h1 : h < 18446744073709551616
theorem Dice.c {w : World} {p : Nat} {A : Option Addr} {n c : Nat} {i h : Int} (d : Dice w p A n c i h) : w.cell? ⟨p, 0, none⟩ = some (.slice A n c) ∧ w.cell? ⟨p, 1, none⟩ = some (.int .i64 i) ∧ w.cell? ⟨p, 2, none⟩ = some (.int .u64 h) ∧ w.frozen? ⟨p, 0, none⟩ = false ∧ w.frozen? ⟨p, 1, none⟩ = false ∧ w.frozen? ⟨p, 2, none⟩ = false ∧ p < w.heap.size :=
  ⟨d.own.cellAt 0 (by decide), d.own.cellAt 1 (by decide), d.own.cellAt 2 (by decide), d.own.frozenAt 0, d.own.frozenAt 1, d.own.frozenAt 2, (own_ge d.own).2⟩
theorem u64_bd (x : Int) : 0 ≤ IntKind.u64.wrap x ∧ IntKind.u64.wrap x < 18446744073709551616 := by
  unfold IntKind.wrap
  simp [IntKind.signed, IntKind.bits]
  omega
theorem and24 (E : Int) (h0 : 0 ≤ E) (h1 : E ≤ 18446744073709551615) : 0 ≤ bits BinOp.and IntKind.u64 E 16777215 ∧ bits BinOp.and IntKind.u64 E 16777215 ≤ 16777215 := by
  have h := bits_and_u64_nat E.toNat 16777215 (by omega) (by omega)
  have h3 := Nat.and_le_right (n := E.toNat) (m := 16777215)
  rw [Int.toNat_of_nonneg h0] at h
  have h4 : bits BinOp.and IntKind.u64 E 16777215 = ((E.toNat &&& 16777215 : Nat) : Int) := h
  rw [h4]
  omega
theorem Dice.setH {w : World} {p : Nat} {A : Option Addr} {n c : Nat} {i h x : Int} (d : Dice w p A n c i h) (h0 : 0 ≤ x) (h1 : x < 18446744073709551616) : Dice (w.setCell ⟨p, 2, none⟩ (.int .u64 x)) p A n c i x ∧ w.grownBy (w.setCell ⟨p, 2, none⟩ (.int .u64 x)) (some p) := by
  have hst := d.own.stored 2 (.int .u64 x)
  exact ⟨⟨by simpa using hst.1, d.i0, h0, h1⟩, hst.2⟩
theorem Dice.setI {w : World} {p : Nat} {A : Option Addr} {n c : Nat} {i h x : Int} (d : Dice w p A n c i h) (h0 : 0 ≤ x) : Dice (w.setCell ⟨p, 1, none⟩ (.int .i64 x)) p A n c x h ∧ w.grownBy (w.setCell ⟨p, 1, none⟩ (.int .i64 x)) (some p) := by
  have hst := d.own.stored 1 (.int .i64 x)
  exact ⟨⟨by simpa using hst.1, h0, d.h0, d.h1⟩, hst.2⟩
theorem Dice.below {w w' : World} {p : Nat} {A : Option Addr} {n c : Nat} {i h : Int} (d : Dice w p A n c i h) (hb : Below w.heap.size w w') : Dice w' p A n c i h := ⟨own_below d.own hb, d.i0, d.h0, d.h1⟩
theorem Dice.drew {w : World} {p : Nat} {A : Option Addr} {n c : Nat} {i h : Int} (d : Dice w p A n c i h) : Dice w.drew p A n c i h := ⟨own_below d.own (Below.refl _ _).drew, d.i0, d.h0, d.h1⟩
set_option maxHeartbeats 1000000 in
set_option maxRecDepth 100000 in
theorem c_roll (A : Option Addr) (c n : Nat) (s : Int) (w : World) (hn : n ≤ 4096) (hs : 0 ≤ s) (hs1 : s ≤ 100000) (hb : Bytes w w.heap.size A n) :
    Calls Try.prog 37 #[.slice A n c, .int .u64 s] w fun e w' => ∃ h, e = .returned (.pointer (some ⟨w.heap.size, 0, none⟩)) ∧ Dice w' w.heap.size A n c 0 h ∧ Below w.heap.size w w' := by
  go_enter Try.func37, Try.ntmps37
  go_wp2
  go_loopw [6] (fun v wr => ∃ (k : Nat) (h : Int), k ≤ n ∧ v = .int .i64 k ∧ Dice wr w.heap.size A n c 0 h ∧ Below w.heap.size w wr) (fun v _ => n - (intOf v).toNat)
  case atStart =>
    have hd := own_dice (w := w) (.slice A n c) (.int .i64 0) (.int .u64 (s * 6007 + (n : Int)))
    exact ⟨0, s * 6007 + n, Nat.zero_le _, rfl, ⟨hd, by omega, by omega, by omega⟩, by (repeat (first | exact Below.refl _ _ | assumption | refine below_alloc ?_ _ | refine below_drewN ?_ _ | refine below_set ?_ _ (by simp; try omega) | refine Below.drew ?_))⟩
  case round =>
    obtain ⟨k, h, hk, rfl, hf, hB⟩ := hrel
    by_cases hlt : k < n
    · obtain ⟨b, off, u, rfl, hbB, hu, hc⟩ := hb k hlt
      replace hc := (hB.cell (p := ⟨b, off + k, none⟩) hbB).trans hc
      obtain ⟨v0, v1, v2, f0, f1, f2, hltw⟩ := hf.c
      have hs0 := hf.h0
      have hs1 := hf.h1
      have hk0 : (0 : Int) ≤ (k : Int) := by omega
      have hk1 : (k : Int) < n := by omega
      have HF := Lib.hid hf
      have HB := Lib.hid hB
      clear hf hB
      go_wp2_with (fail)
      refine wp_still_drew 15 (by kernel_rfl) (by kernel_rfl) ?_
      simp only [List.take_succ_cons, List.take_zero, List.drop_succ_cons, List.drop_zero]
      repeat still_step
      try refine wpStill_nil ?_
      go_wp2
      have hx := u64_bd (IntKind.u64.wrap (IntKind.u64.wrap (h * 1099511628211) + (u : Int)) + 5)
      generalize IntKind.u64.wrap (IntKind.u64.wrap (IntKind.u64.wrap (h * 1099511628211) + (u : Int)) + 5) = x at *
      have HS := Lib.hid (HF.out.setH hx.1 hx.2)
      have HD : Hid (Dice ((wr.setCell ⟨w.heap.size, 2, none⟩ (.int .u64 x)).drew) w.heap.size (some ⟨b, off, none⟩) n c 0 x ∧ Below w.heap.size w ((wr.setCell ⟨w.heap.size, 2, none⟩ (.int .u64 x)).drew)) :=
        Lib.hid ⟨HS.out.1.drew, (below_of_grown HB.out HS.out.2 (by simp)).drew⟩
      go_roundw
      case rel => exact ⟨k + 1, _, by omega, by go_num, HD.out.1, HD.out.2⟩
      case measure => simp [intOf]; omega
    · go_wp2
      go_ret
      exact ⟨h, rfl, hf, hB⟩
set_option maxHeartbeats 1000000 in
set_option maxRecDepth 100000 in
theorem c_below (p : Nat) (A : Option Addr) (n c : Nat) (i h m : Int) (w : World) (hd : Dice w p A n c i h) (hn : n ≤ 4096) (hm : 1 ≤ m) (hm1 : m ≤ 1048576) (hb : Bytes w p A n) :
    Calls Try.prog 38 #[.pointer (some ⟨p, 0, none⟩), .int .i64 m] w fun e w' => ∃ r : Int, e = .returned (.int .i64 r) ∧ 0 ≤ r ∧ r < m ∧ w.grownBy w' (some p) := by
  have HD := Lib.hid hd
  obtain ⟨v0, v1, v2, f0, f1, f2, hltw⟩ := hd.c
  have HY : Hid (Bytes w p A n) := Lib.hid hb
  clear hd hb
  go_enter Try.func38, Try.ntmps38
  go_wp2
  have hx := u64_bd (IntKind.u64.wrap (h * 6364136223846793005) + 1442695040888963407)
  generalize IntKind.u64.wrap (h * 6364136223846793005) = y0 at *
  generalize IntKind.u64.wrap (y0 + 1442695040888963407) = y1 at *
  have hy := and24 (y1 / 8589934592) (by omega) (by omega)
  generalize bits BinOp.and IntKind.u64 (y1 / 8589934592) 16777215 = y2 at *
  have hwr : wrap64 y2 = y2 := IntWalk.wrap64_in y2 ⟨by omega, by omega⟩
  rw [hwr]
  clear hwr
  have HS := Lib.hid (HD.out.setH hx.1 hx.2)
  have HB1 : Hid (Bytes (w.setCell ⟨p, 2, none⟩ (.int .u64 y1)) p A n) := Lib.hid (by
    intro j hj
    obtain ⟨b, off, u, e, hb, hu, hc⟩ := HY.out j hj
    exact ⟨b, off, u, e, hb, hu, HS.out.2.cell hc (fun e => by simp at e; omega)⟩)
  generalize w.setCell ⟨p, 2, none⟩ (.int .u64 y1) = W at *
  clear v0 v1 v2 f0 f1 f2 HD
  obtain ⟨v0, v1, v2, f0, f1, f2, hltw2⟩ := HS.out.1.c
  have hi0 := HS.out.1.i0
  have hrm : ∀ q : Int, 0 ≤ q → 0 ≤ q % m ∧ q % m < m := fun q hq => ⟨Int.emod_nonneg q (by omega), Int.emod_lt_of_pos q (by omega)⟩
  have HRM := Lib.hid hrm
  clear hrm
  by_cases hin : i < n
  · obtain ⟨i, rfl⟩ : ∃ i' : Nat, i = i' := ⟨i.toNat, by omega⟩
    obtain ⟨b, off, u, rfl, hbB, hu, hc⟩ := HB1.out i (by omega)
    have hd2 : decide ((i : Int) < n) = true := by simp; omega
    go_region_held3 (fun w' => w'.cell? ⟨p, 0, none⟩ = some (.slice (some ⟨b, off, none⟩) n c) ∧ w'.cell? ⟨p, 1, none⟩ = some (.int .i64 i)) (exact ⟨v0, v1⟩) (fail)
    go_wp2_with (fail)
    have hw1 : IntKind.i64.wrap (y2 + (u : Int)) = y2 + u := IntWalk.i64_in _ (by omega)
    have hw2 : IntKind.i64.wrap (u : Int) = u := IntWalk.i64_in _ (by omega)
    go_region_held3 (fun w' => w'.cell? ⟨p, 0, none⟩ = some (.slice (some ⟨b, off, none⟩) n c) ∧ w'.cell? ⟨p, 1, none⟩ = some (.int .i64 i) ∧ w'.cell? ⟨b, off + i, none⟩ = some (.int .u8 u)) (exact ⟨v0, v1, hc⟩) (fail)
    go_wp2_with (fail)
    go_ret
    exact ⟨(y2 + (u : Int)) % m, rfl, (HRM.out _ (by omega)).1, (HRM.out _ (by omega)).2, grown_trans HS.out.2 (grown_trans (HS.out.1.setI (x := (i : Int) + 1) (by omega)).2 (grown_of_below (Below.refl _ _).drew.drew _))⟩
  · have hd2 : decide (i < (n : Int)) = false := by simp; omega
    go_region_held3 (fun w' => w'.cell? ⟨p, 0, none⟩ = some (.slice A n c) ∧ w'.cell? ⟨p, 1, none⟩ = some (.int .i64 i)) (exact ⟨v0, v1⟩) (fail)
    go_wp2_with (fail)
    go_ret
    exact ⟨y2 % m, rfl, (HRM.out _ hy.1).1, (HRM.out _ hy.1).2, grown_trans HS.out.2 (grown_of_below (Below.refl _ _).drew _)⟩
end Go.Proofs.Ytaloheljfefdeaa
