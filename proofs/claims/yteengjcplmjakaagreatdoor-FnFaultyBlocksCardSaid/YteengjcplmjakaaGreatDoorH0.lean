/- Contracts and helpers (joined texts, part 0). The conditions stand at each theorem. -/
import Derived.Test.YteengjcplmjakaaGreatDoorQSn
import Derived.Test.YteengjcplmjakaaGreatDoorRgH
import Derived.Test.YteengjcplmjakaaGreatDoorPush
import Derived.Test.YteengjcplmjakaaGreatDoorRgE
import Derived.Test.YteengjcplmjakaaGreatDoorPTo
import Derived.Laws.BytesArg
import Derived.Test.YteengjcplmjakaaGreatDoorPGb
import Derived.Maps.Own
import Derived.Maps.Range
import Derived.Maps.RangeWalk
import Derived.Lib.SliceRun
/- The reference's side of delays: l14Line, l14Uses, l19Scans. Condition: the lengths. -/
namespace Go.Proofs.YteengjcplmjakaaGreatDoor
open Go.RowKit

theorem made_intQ (n : Nat) : (madeCells (Value.int .i64 0).cells (n * 1)).toList = ints (List.replicate n 0) := by
  rw [Nat.mul_one]
  show (madeCells #[Value.int .i64 0] n).toList = _
  rw [toList_madeCells_one]
  simp [ints]
end Go.Proofs.YteengjcplmjakaaGreatDoor

/- Marks of a program and of a memory: what they touch (printed by PMk.py). No condition but the sizes. -/
namespace Go.Proofs.YteengjcplmjakaaGreatDoor
open Go.RowKit

theorem cell_mark {w w' : World} {row : Option Nat} {a : Addr} {v : Value} (h : w.cell? a = some v) (hg : w.grownBy w' row) (hne : ∀ q, row = some q → q ≠ a.block) : w'.cell? a = some v :=
  (hg.cell_far a (World.block_lt_of_cell? w a h) (fun h' => hne _ h'.symm rfl)).trans h
end Go.Proofs.YteengjcplmjakaaGreatDoor

/- The source of drawn numbers: its box, and the contract of the next number. Condition: at most 4096 bytes of code. -/
namespace Go.Proofs.YteengjcplmjakaaGreatDoor
open Go.RowKit

theorem own_three {w : World} (x y z : Value) : (w.alloc (.cells #[x, y, z] 124)).ownsRow w.heap.size 124 1 (.slice (some ⟨w.heap.size, 0, none⟩) 3 3) 3 [x, y, z] := by
  have h := World.ownsRow_lit (e := 124) (size := 1) (base := w.heap.size) w #[x, y, z] 3 (by simp) (by decide) (by simp)
  simpa using h
theorem three_cells {w : World} {base b : Nat} {x y z : Value} (h : w.ownsRow base 124 1 (.slice (some ⟨b, 0, none⟩) 3 3) 3 [x, y, z]) : w.cell? ⟨b, 0, none⟩ = some x ∧ w.cell? ⟨b, 1, none⟩ = some y ∧ w.cell? ⟨b, 2, none⟩ = some z ∧ w.frozen? ⟨b, 0, none⟩ = false ∧ w.frozen? ⟨b, 1, none⟩ = false ∧ w.frozen? ⟨b, 2, none⟩ = false ∧ base ≤ b ∧ b < w.heap.size := by
  have h0 := h.cellAt 0 (by decide)
  have h1 := h.cellAt 1 (by decide)
  have h2 := h.cellAt 2 (by decide)
  exact ⟨h0, h1, h2, h.frozenAt 0, h.frozenAt 1, h.frozenAt 2, own_ge h⟩
/-- The slice holds n bytes, in a block below B. -/
def Bytes (w : World) (B : Nat) (A : Option Addr) (n : Nat) : Prop := ∀ j, j < n → ∃ (b off : Nat) (u : Nat), A = some ⟨b, off, none⟩ ∧ b < B ∧ u < 256 ∧ w.cell? ⟨b, off + j, none⟩ = some (.int .u8 u)
theorem Bytes.keep {w w' : World} {B : Nat} {A : Option Addr} {n : Nat} (h : Bytes w B A n) (hg : w.grownBy w' (some B)) (hB : B ≤ w.heap.size) : Bytes w' B A n := by
  intro j hj
  obtain ⟨b, off, u, e, hb, hu, hc⟩ := h j hj
  refine ⟨b, off, u, e, hb, hu, ?_⟩
  rw [← hc]
  exact hg.cell_far ⟨b, off + j, none⟩ (by simp; omega) (by simp; omega)
structure SrcF (w : World) (B : Nat) (A : Option Addr) (n c : Nat) (at' seed : Int) : Prop where
  own : w.ownsRow B 124 1 (.slice (some ⟨B, 0, none⟩) 3 3) 3 [.slice A n c, .int .i64 at', .int .i64 seed]
  a0 : 0 ≤ at'
  a1 : at' ≤ n
  s0 : 0 ≤ seed
  s1 : seed < 2147483647
  n1 : n ≤ 4096
  by_ : Bytes w B A n
def Src (w : World) (B : Nat) : Prop := ∃ A n c at' seed, SrcF w B A n c at' seed
def NextP (B : Nat) (n : Int) (w : World) (e : Ending) (w' : World) : Prop := ∃ r : Int, e = .returned (.int .i64 r) ∧ 0 ≤ r ∧ (1 < n → r < n) ∧ (n ≤ 1 → r = 0) ∧ Src w' B ∧ w.grownBy w' (some B)
theorem grown_refl (w : World) (row : Option Nat) : w.grownBy w row := grown_of_below (Below.refl _ _) row
theorem SrcF.set_seed {w : World} {B : Nat} {A : Option Addr} {n c : Nat} {at' seed s : Int} (h : SrcF w B A n c at' seed) (h0 : 0 ≤ s) (h1 : s < 2147483647) : SrcF (w.setCell ⟨B, 2, none⟩ (.int .i64 s)) B A n c at' s ∧ w.grownBy (w.setCell ⟨B, 2, none⟩ (.int .i64 s)) (some B) := by
  have hst := h.own.stored 2 (.int .i64 s)
  exact ⟨⟨by simpa using hst.1, h.a0, h.a1, h0, h1, h.n1, h.by_.keep (by simpa using hst.2) (by have := (own_ge h.own).2; omega)⟩, by simpa using hst.2⟩
theorem SrcF.set_at {w : World} {B : Nat} {A : Option Addr} {n c : Nat} {at' seed a : Int} (h : SrcF w B A n c at' seed) (h0 : 0 ≤ a) (h1 : a ≤ n) : SrcF (w.setCell ⟨B, 1, none⟩ (.int .i64 a)) B A n c a seed ∧ w.grownBy (w.setCell ⟨B, 1, none⟩ (.int .i64 a)) (some B) := by
  have hst := h.own.stored 1 (.int .i64 a)
  exact ⟨⟨by simpa using hst.1, h0, h1, h.s0, h.s1, h.n1, h.by_.keep (by simpa using hst.2) (by have := (own_ge h.own).2; omega)⟩, by simpa using hst.2⟩
theorem SrcF.drewN {w : World} {B : Nat} {A : Option Addr} {n c : Nat} {at' seed : Int} (h : SrcF w B A n c at' seed) (k : Nat) : SrcF (w.drewN k) B A n c at' seed :=
  ⟨own_below h.own (below_drewN (Below.refl _ _) k), h.a0, h.a1, h.s0, h.s1, h.n1, h.by_⟩
set_option maxHeartbeats 2000000 in
set_option maxRecDepth 100000 in
theorem c_Next (B : Nat) (n : Int) (w : World) (h : Src w B) (hn : n ≤ 9223372036854775807) : Calls Tryz.prog 51 #[.pointer (some ⟨B, 0, none⟩), .int .i64 n] w (NextP B n w) := by
  obtain ⟨A, m, c, a, seed, hf⟩ := h
  rcases Int.lt_or_le 1 n with hn1 | hn1
  · obtain ⟨v0, v1, v2, f0, f1, f2, _, hlt⟩ := three_cells hf.own
    have hs0 := hf.s0
    have hs1 := hf.s1
    have hn1m := hf.n1
    have ha0 := hf.a0
    have ha1 := hf.a1
    have hr0 := Int.emod_nonneg (seed * 48271 + 29) (b := 2147483647) (by decide)
    have hr1 := Int.emod_lt_of_pos (seed * 48271 + 29) (b := 2147483647) (by decide)
    have HS := Lib.hid (hf.set_seed hr0 hr1)
    clear hf
    go_enter Tryz.func51, Tryz.ntmps51
    go_wp2_with (fail)
    generalize (seed * 48271 + 29) % 2147483647 = s at hr0 hr1 HS ⊢
    have hf := HS.out.1
    have HG := Lib.hid HS.out.2
    generalize w.setCell ⟨B, 2, none⟩ (.int .i64 s) = W at hf HG ⊢
    clear v0 v1 v2 f0 f1 f2 HS hlt
    obtain ⟨v0, v1, v2, f0, f1, f2, _, hlt⟩ := three_cells hf.own
    obtain ⟨k, rfl⟩ : ∃ k : Nat, a = k := ⟨a.toNat, by omega⟩
    have hx0 : 0 ≤ s / 31 := Int.ediv_nonneg hr0 (by decide)
    have hx1 : s / 31 ≤ 2147483647 := by omega
    generalize s / 31 = x at hx0 hx1 ⊢
    by_cases ham : k < m
    · obtain ⟨b, off, u, rfl, hbB, hu, hc⟩ := hf.by_ k ham
      have HF := Lib.hid hf
      have hd : decide ((k : Int) < m) = true := by simp; omega
      clear hf
      go_region_held3 (fun w' => w'.cell? ⟨B, 0, none⟩ = some (.slice (some ⟨b, off, none⟩) m c) ∧ w'.cell? ⟨B, 1, none⟩ = some (.int .i64 k)) (exact ⟨v0, v1⟩) (fail)
      go_wp2_with (fail)
      have hw1 : IntKind.i64.wrap (x + (u : Int)) = x + u := IntWalk.i64_in _ (by omega)
      have hw2 : IntKind.i64.wrap (u : Int) = u := IntWalk.i64_in _ (by omega)
      have hk0 : (0 : Int) ≤ (k : Int) := by omega
      have hk1 : (k : Int) < m := by omega
      go_region_held3 (fun w' => w'.cell? ⟨B, 0, none⟩ = some (.slice (some ⟨b, off, none⟩) m c) ∧ w'.cell? ⟨B, 1, none⟩ = some (.int .i64 k) ∧ w'.cell? ⟨b, off + k, none⟩ = some (.int .u8 u)) (exact ⟨v0, v1, hc⟩) (fail)
      go_wp2_with (fail)
      clear hw1 hw2
      all_goals
        have HS := Lib.hid (HF.out.set_at (a := (k : Int) + 1) (by omega) (by omega))
        have hlt2 : b < W.heap.size := by omega
        have hne : ¬ b = B := by omega
        have hw3 : IntKind.i64.wrap ((k : Int) + 1 - 1) = k := by rw [show (k : Int) + 1 - 1 = k by omega]; exact IntWalk.i64_in _ (by omega)
        have hw5 : IntKind.i64.wrap (k : Int) = k := IntWalk.i64_in _ (by omega)
        have j0 : ((W.setCell ⟨B, 1, none⟩ (.int .i64 ((k : Int) + 1))).drew.drew).cell? ⟨B, 0, none⟩ = some (.slice (some ⟨b, off, none⟩) m c) := by go_simp
        have j1 : ((W.setCell ⟨B, 1, none⟩ (.int .i64 ((k : Int) + 1))).drew.drew).cell? ⟨B, 1, none⟩ = some (.int .i64 ((k : Int) + 1)) := by go_simp
        have j2 : ((W.setCell ⟨B, 1, none⟩ (.int .i64 ((k : Int) + 1))).drew.drew).cell? ⟨b, off + k, none⟩ = some (.int .u8 u) := by go_simp
        have HQ : Hid (Src ((W.setCell ⟨B, 1, none⟩ (.int .i64 ((k : Int) + 1))).drew.drew) B ∧ w.grownBy ((W.setCell ⟨B, 1, none⟩ (.int .i64 ((k : Int) + 1))).drew.drew) (some B)) := Lib.hid ⟨⟨_, _, _, _, _, HS.out.1.drewN 2⟩, grown_trans (grown_trans HG.out HS.out.2) (grown_of_below (Below.refl _ _).drew.drew _)⟩
        generalize ((W.setCell ⟨B, 1, none⟩ (.int .i64 ((k : Int) + 1))).drew.drew) = W2 at j0 j1 j2 HQ ⊢
        clear HS HF hc v0 v1 v2 f0 f1 f2
        have HR := Lib.hid (fun (y : Int) (hy : 0 ≤ y) => (show 0 ≤ y % n ∧ y % n < n from ⟨Int.emod_nonneg y (by omega), Int.emod_lt_of_pos y (by omega)⟩))
      all_goals try
        (go_region_held3 (fun w' => w'.cell? ⟨B, 0, none⟩ = some (.slice (some ⟨b, off, none⟩) m c) ∧ w'.cell? ⟨B, 1, none⟩ = some (.int .i64 ((k : Int) + 1)) ∧ w'.cell? ⟨b, off + k, none⟩ = some (.int .u8 u)) (exact ⟨j0, j1, j2⟩) (fail)
         go_wp2_with (fail)
         go_ret
         exact ⟨(u : Int) % n, rfl, (HR.out _ (by omega)).1, fun _ => (HR.out _ (by omega)).2, fun h => by omega, (let ⟨A, m, c, a, s, h⟩ := HQ.out.1; ⟨A, m, c, a, s, h.drewN 1⟩), grown_trans HQ.out.2 (grown_of_below (Below.refl _ _).drew _)⟩)
      all_goals
        go_ret
        exact ⟨(x + u) % n, rfl, (HR.out _ (by omega)).1, fun _ => (HR.out _ (by omega)).2, fun h => by omega, HQ.out.1, HQ.out.2⟩
    · have hd : decide ((k : Int) < m) = false := by simp; omega
      have HSR := Lib.hid (show Src W B from ⟨A, m, c, k, s, hf⟩)
      have HSD := Lib.hid (show Src W.drew B from ⟨A, m, c, k, s, hf.drewN 1⟩)
      have hq0 := Int.emod_nonneg x (b := n) (by omega)
      have hq1 := Int.emod_lt_of_pos x (b := n) (by omega)
      clear hf
      go_region_held3 (fun w' => w'.cell? ⟨B, 0, none⟩ = some (.slice A m c) ∧ w'.cell? ⟨B, 1, none⟩ = some (.int .i64 k)) (exact ⟨v0, v1⟩) (fail)
      go_wp2_with (fail)
      go_ret
      refine ⟨x % n, rfl, hq0, fun _ => hq1, fun h => by omega, HSD.out, ?_⟩
      exact grown_trans HG.out (grown_of_below (Below.refl _ _).drew _)
  · have HS := Lib.hid (show Src w B from ⟨A, m, c, a, seed, hf⟩)
    go_enter Tryz.func51, Tryz.ntmps51
    go_wp2
    go_ret
    exact ⟨0, rfl, by omega, fun h => by omega, fun _ => rfl, HS.out, grown_refl _ _⟩
end Go.Proofs.YteengjcplmjakaaGreatDoor

/- The kit's still tail, with the world behind the draw folded. -/
namespace Go.Proofs.YteengjcplmjakaaGreatDoor
open Go.RowKit

theorem wp_still_drew {P : Program} {id : Nat} {Q : Exit → Act → World → Prop} {a : Act} {w : World} {l : List Oper} (n : Nat) (hm : P.follows .mixedOrders = true) (hB : Region.lexTailB .any l.toArray n = true)
    (h : wpStill P l.toArray w.drew (fun a' => wpList P l.toArray Q (l.drop n) a' w.drew) (l.take n) a) : (Code.region id l.toArray true).wp P Q a w := wp_region_still_tail n hm hB h
end Go.Proofs.YteengjcplmjakaaGreatDoor

/- Contracts of l01From, l01Pick: the source at its start, one of some numbers. Condition: at most 4096 bytes of code; lists that are not empty. -/
namespace Go.Proofs.YteengjcplmjakaaGreatDoor
open Go.RowKit

theorem Src.drew {w : World} {B : Nat} (h : Src w B) : Src w.drew B := let ⟨A, m, c, a, s, h⟩ := h; ⟨A, m, c, a, s, h.drewN 1⟩
theorem Src.lt {w : World} {B : Nat} (h : Src w B) : B < w.heap.size := let ⟨_, _, _, _, _, h⟩ := h; (own_ge h.own).2
theorem Src.far {w w' : World} {B : Nat} {row : Option Nat} (h : Src w B) (hg : w.grownBy w' row) (hr : ∀ q, row = some q → B < q) : Src w' B := by
  have hlt := h.lt
  obtain ⟨A, m, c, a, s, h⟩ := h
  refine ⟨A, m, c, a, s, h.own.kept hg (.inr ?_), h.a0, h.a1, h.s0, h.s1, h.n1, ?_⟩
  · intro e
    have := hr B (by rw [← e]; rfl)
    omega
  · intro j hj
    obtain ⟨b, off, u, e, hb, hu, hc⟩ := h.by_ j hj
    refine ⟨b, off, u, e, hb, hu, ?_⟩
    rw [← hc]
    exact hg.cell_far ⟨b, off + j, none⟩ (by simp; omega) (fun e => by have := hr _ e.symm; simp at this; omega)
set_option maxRecDepth 100000 in
theorem c_From (A : Option Addr) (c n : Nat) (w : World) (hn : n ≤ 4096) (hb : Bytes w w.heap.size A n) :
    Calls Tryz.prog 39 #[.slice A n c] w fun e w' => e = .returned (.pointer (some ⟨w.heap.size, 0, none⟩)) ∧ Src w' w.heap.size ∧ Below w.heap.size w w' := by
  have hown := own_three (w := w) (.slice A n c) (.int .i64 0) (.int .i64 52021)
  have hf : SrcF (w.alloc (.cells #[.slice A n c, .int .i64 0, .int .i64 52021] 124)) w.heap.size A n c 0 52021 :=
    ⟨hown, by omega, by omega, by omega, by omega, hn, hb.keep (grown_of_below (below_alloc (Below.refl _ _) _) _) (Nat.le_refl _)⟩
  have HF := Lib.hid hf
  clear hf hown hb
  go_enter Tryz.func39, Tryz.ntmps39
  go_wp2
  go_loopw [4] (fun v wr => ∃ (k : Nat) (s : Int), k ≤ 64 ∧ k ≤ n ∧ v = .int .i64 k ∧ SrcF wr w.heap.size A n c 0 s ∧ Below w.heap.size w wr) (fun v _ => n - (intOf v).toNat)
  case atStart => exact ⟨0, 52021, by omega, Nat.zero_le _, rfl, HF.out, by (repeat (first | exact Below.refl _ _ | assumption | refine below_alloc ?_ _ | refine below_drewN ?_ _ | refine below_set ?_ _ (by simp; try omega) | refine Below.drew ?_))⟩
  case round =>
    obtain ⟨k, s, hk, hkn, rfl, hf, hb⟩ := hrel
    clear HF
    by_cases hlt : k < n ∧ k < 64
    · obtain ⟨hlt, hlt64⟩ := hlt
      obtain ⟨b, off, u, rfl, hbB, hu, hc⟩ := hf.by_ k hlt
      obtain ⟨v0, v1, v2, f0, f1, f2, _, hltw⟩ := three_cells hf.own
      have hs0 := hf.s0
      have hs1 := hf.s1
      have hr0 := Int.emod_nonneg (s * 59 + (u : Int)) (b := 2147483647) (by decide)
      have hr1 := Int.emod_lt_of_pos (s * 59 + (u : Int)) (b := 2147483647) (by decide)
      have hw1 : IntKind.i64.wrap (s * 59) = s * 59 := IntWalk.i64_in _ (by omega)
      have hw2 : IntKind.i64.wrap (u : Int) = u := IntWalk.i64_in _ (by omega)
      have hw3 : IntKind.i64.wrap (s * 59 + (u : Int)) = s * 59 + u := IntWalk.i64_in _ (by omega)
      have hw4 : (s * 59 + (u : Int)).tmod 2147483647 = (s * 59 + (u : Int)) % 2147483647 := Int.tmod_eq_emod_of_nonneg (by omega)
      have hk0 : (0 : Int) ≤ (k : Int) := by omega
      have hk1 : (k : Int) < n := by omega
      have HS := Lib.hid (hf.set_seed hr0 hr1)
      have HB := Lib.hid hb
      clear hf hb
      go_wp2_with (fail)
      refine wp_still_drew 15 (by kernel_rfl) (by kernel_rfl) ?_
      simp only [List.take_succ_cons, List.take_zero, List.drop_succ_cons, List.drop_zero]
      repeat still_step
      try refine wpStill_nil ?_
      clear hw1 hw2 hw3 hw4
      go_wp2
      have HD : Hid (SrcF ((wr.setCell ⟨w.heap.size, 2, none⟩ (.int .i64 ((s * 59 + (u : Int)) % 2147483647))).drew) w.heap.size (some ⟨b, off, none⟩) n c 0 ((s * 59 + (u : Int)) % 2147483647) ∧ Below w.heap.size w ((wr.setCell ⟨w.heap.size, 2, none⟩ (.int .i64 ((s * 59 + (u : Int)) % 2147483647))).drew)) :=
        Lib.hid ⟨HS.out.1.drewN 1, (below_of_grown HB.out HS.out.2 (by simp)).drew⟩
      go_roundw
      case rel => exact ⟨k + 1, _, by omega, by omega, by go_num, HD.out.1, HD.out.2⟩
      case measure => simp [intOf]; omega
    · have HFF := Lib.hid hf
      have HB := Lib.hid hb
      have hd : (decide ((k : Int) < n) && decide ((k : Int) < 64)) = false := by simp; omega
      clear hf hb
      rcases Nat.lt_or_ge k n with h1 | h1
      · have h2 : ¬ k < 64 := by omega
        go_wp2
        go_ret
        exact ⟨rfl, ⟨_, _, _, _, _, HFF.out⟩, HB.out⟩
      · go_wp2
        go_ret
        exact ⟨rfl, ⟨_, _, _, _, _, HFF.out⟩, HB.out⟩
end Go.Proofs.YteengjcplmjakaaGreatDoor

/- Draws: helpers on worlds that grow beside the source; c_PickIn. Condition: bounded sizes. -/
namespace Go.Proofs.YteengjcplmjakaaGreatDoor
open Go.RowKit

/-- The source goes on, and nothing else of before has turned. -/
structure DW (B : Nat) (w wr : World) : Prop where
  s : Src wr B
  g : w.grownBy wr (some B)
theorem DW.start {B : Nat} {w : World} (h : Src w B) : DW B w w := ⟨h, grown_refl _ _⟩
theorem gb_far {w a b : World} {row r2 : Option Nat} (h : w.grownBy a row) (hg : a.grownBy b r2) (hr : ∀ q, r2 = some q → w.heap.size ≤ q) : w.grownBy b row :=
  ⟨hg.os.trans h.os, hg.tape.trans h.tape, hg.output.trans h.output, Nat.le_trans h.size hg.size, fun k hk hne => (hg.block k (Nat.lt_of_lt_of_le hk h.size) (fun e => by have := hr k e.symm; omega)).trans (h.block k hk hne)⟩
theorem DW.far {B : Nat} {w a b : World} {r2 : Option Nat} (h : DW B w a) (hB : B < w.heap.size) (hg : a.grownBy b r2) (hr : ∀ q, r2 = some q → w.heap.size ≤ q) : DW B w b :=
  ⟨h.s.far hg (fun q hq => Nat.lt_of_lt_of_le hB (hr q hq)), gb_far h.g hg hr⟩
theorem DW.below {B : Nat} {w a b : World} (h : DW B w a) (hB : B < w.heap.size) (hb : Below a.heap.size a b) : DW B w b := h.far hB (grown_of_below hb none) (by simp)
theorem DW.alloc {B : Nat} {w a : World} (h : DW B w a) (hB : B < w.heap.size) (o : Obj) : DW B w (a.alloc o) := h.below hB (below_alloc (Below.refl _ _) o)
theorem DW.drew {B : Nat} {w a : World} (h : DW B w a) (hB : B < w.heap.size) : DW B w a.drew := h.below hB (Below.refl _ _).drew
theorem DW.then_ {B : Nat} {w a b : World} (h : DW B w a) (h2 : DW B a b) : DW B w b := ⟨h2.s, grown_trans h.g h2.g⟩
theorem DW.own {B : Nat} {w wr : World} (h : DW B w wr) {base : Nat} {e : TypeId} {size n : Nat} {v : Value} {xs : List Value} (ho : w.ownsRow base e size v n xs) (hB : B < base) : wr.ownsRow base e size v n xs :=
  kept_far ho h.g (fun q hq => by simp at hq; omega)
theorem DW.cell {B : Nat} {w wr : World} (h : DW B w wr) {b j : Nat} {v : Value} (hc : w.cell? ⟨b, j, none⟩ = some v) (hB : B ≠ b) : wr.cell? ⟨b, j, none⟩ = some v :=
  cell_mark hc h.g (fun q hq => by simp at hq; simp; omega)
/-- One of some numbers, and the source goes on. -/
def PickP (B : Nat) (zs : List Int) (w : World) (e : Ending) (w' : World) : Prop := ∃ z : Int, z ∈ zs ∧ e = .returned (.int .i64 z) ∧ DW B w w'
set_option maxRecDepth 100000 in
theorem c_PickIn (B g c n : Nat) (zs : List Int) (w : World) (h : Src w B) (hg : g ≠ B) (hn : n = zs.length) (hn0 : 0 < n) (hn1 : n ≤ 100) (hr : Rd w (some ⟨g, 0, none⟩) (ints zs)) :
    Calls Tryz.prog 71 #[.pointer (some ⟨B, 0, none⟩), .slice (some ⟨g, 0, none⟩) n c] w (PickP B zs w) := by
  have HN := Lib.hid hn
  clear hn
  go_enter Tryz.func71, Tryz.ntmps71
  go_wp2_with (fail)
  refine (c_Next B n w h (by omega)).mono ?_
  rintro e w1 ⟨r, rfl, hr0, hr1, hr2, hs, hgr⟩
  have hrn : r < n := by
    rcases Int.lt_or_le 1 n with h1 | h1
    · exact hr1 h1
    · have := hr2 h1; omega
  obtain ⟨k, rfl⟩ : ∃ k : Nat, r = k := ⟨r.toNat, by omega⟩
  obtain ⟨z, hz⟩ : ∃ z, zs[k]? = some z := ⟨_, List.getElem?_eq_getElem (by have := HN.out; omega)⟩
  have HZ := Lib.hid (List.mem_of_getElem? hz)
  obtain ⟨b, off, e, hb, hc⟩ := hr.int hz
  simp only [Option.some.injEq, Addr.mk.injEq, and_true] at e
  obtain ⟨rfl, rfl⟩ := e
  have hc1 : w1.cell? ⟨g, 0 + k, none⟩ = some (.int .i64 z) := cell_mark hc hgr (fun q hq => by simp at hq; simp; omega)
  have HS := Lib.hid hs
  have HG := Lib.hid hgr
  clear hr hz hc hr1 hr2 hs hgr h
  simp only [Nat.zero_add] at hc1
  go_wp2_with (fail)
  go_ret
  exact ⟨z, HZ.out, rfl, HS.out, HG.out⟩
theorem c_NextD (B : Nat) (n : Int) (w : World) (h : Src w B) (hn : n ≤ 9223372036854775807) : Calls Tryz.prog 51 #[.pointer (some ⟨B, 0, none⟩), .int .i64 n] w fun e w' => ∃ r : Int, e = .returned (.int .i64 r) ∧ 0 ≤ r ∧ (1 ≤ n → r < n) ∧ (n ≤ 1 → r = 0) ∧ DW B w w' :=
  (c_Next B n w h hn).mono fun e w' ⟨r, he, h0, h1, h2, hs, hg⟩ => ⟨r, he, h0, fun hn1 => by
    rcases Int.lt_or_le 1 n with h3 | h3
    · exact h1 h3
    · have := h2 h3; omega, h2, hs, hg⟩
end Go.Proofs.YteengjcplmjakaaGreatDoor

/- Draws of terms. Condition: a source at hand; the names' lengths. -/
namespace Go.Proofs.YteengjcplmjakaaGreatDoor
open Go.RowKit

theorem wpList_push_tmD (w : World) {ops : Array Oper} {rest : List Oper} {o : Oper} {a : Act} {Q : Exit → Act → World → Prop} (hgd : o.guard = none) (s x : Operand)
    (ho : o.op = .call { callee := .builtin .append, args := #[s, x], argTypes := #[32, 32] })
    (base : Nat) (v : Value) (n : Nat) (l : List Tm) (t : Tm) (g c : Nat) (hs : a.eval s = v) (hown : w.ownsRow base 60 3 v n (tmCells l))
    (hx : a.eval x = .slice (some ⟨g, 0, none⟩) 1 c) (h0 : w.cell? ⟨g, 0, none⟩ = some (.int .i64 t.k)) (h1 : w.cell? ⟨g, 1, none⟩ = some (.string t.nm)) (h2 : w.cell? ⟨g, 2, none⟩ = some (.int .i64 t.n)) (hn : n ≤ 1048577) (hbase : base ≤ w.heap.size)
    (h : ∀ v' w', w'.ownsRow base 60 3 v' (n + 1) (tmCells (l ++ [t])) → w.grownBy w' v.ownBlock → wpList Tryz.prog ops Q rest (a.put o.dst v') w') : wpList Tryz.prog ops Q (o :: rest) a w := by
  obtain ⟨i0, hi, hz0, hz1, hz2⟩ := info_parts info_iTerm
  refine wpList_push w hgd s x 32 ho base 60 i0 _ 3 32 Tryz.underlying32 hi hz0 hz1 hz2 rfl (by decide) v n (tmCells l) hs hown ⟨g, 0, none⟩ c t.cells hx rfl ?_ ?_ (by unfold maxLen; omega) (by omega) hbase ?_
  · intro j u hu
    match j, hu with
    | 0, hu => simp only [Tm.cells, List.getElem?_cons_zero, Option.some.injEq] at hu; rw [← hu]; simpa [Addr.add] using h0
    | 1, hu => simp only [Tm.cells, List.getElem?_cons_succ, List.getElem?_cons_zero, Option.some.injEq] at hu; rw [← hu]; simpa [Addr.add] using h1
    | 2, hu => simp only [Tm.cells, List.getElem?_cons_succ, List.getElem?_cons_zero, Option.some.injEq] at hu; rw [← hu]; simpa [Addr.add] using h2
  · intro u hu
    simp only [Tm.cells, List.mem_cons, List.not_mem_nil, or_false] at hu
    rcases hu with rfl | rfl | rfl <;> rfl
  · intro v' w' hown1 hgrow _ _
    refine h v' w' ?_ hgrow
    have e : tmCells (l ++ [t]) = tmCells l ++ t.cells := by simp [tmCells]
    rw [e]
    exact hown1
theorem app_tms (w : World) {ops : Array Oper} {rest : List Oper} {o : Oper} {a : Act} {Q : Exit → Act → World → Prop} (hgd : o.guard = none) (s x : Operand)
    (ho : o.op = .call { callee := .builtin .append, args := #[s, x], argTypes := #[32, 32] })
    (base : Nat) (v : Value) (n : Nat) (xs : List Tm) (hs : a.eval s = v) (hown : w.ownsRow base 60 3 v n (tmCells xs))
    (g m c : Nat) (ys : List Tm) (hx : a.eval x = .slice (some ⟨g, 0, none⟩) m c) (hm : m = ys.length) (hr : Rd w (some ⟨g, 0, none⟩) (tmCells ys)) (hb : n + m ≤ 4000000) (hbase : base ≤ w.heap.size)
    (h : ∀ v' w', w'.ownsRow base 60 3 v' (n + m) (tmCells (xs ++ ys)) → w.grownBy w' v.ownBlock → wpList Tryz.prog ops Q rest (a.put o.dst v') w') : wpList Tryz.prog ops Q (o :: rest) a w := by
  obtain ⟨i0, hi, hz0, hz1, hz2⟩ := info_parts info_iTerm
  have hcat : tmCells (xs ++ ys) = tmCells xs ++ tmCells ys := by simp [tmCells]
  refine wpList_append_own (w := w) hgd s x 32 ho base 60 i0 _ 3 32 Tryz.underlying32 hi hz0 hz1 hz2 rfl (by decide) v n (tmCells xs) hs hown ⟨g, 0, none⟩ m c (tmCells ys) hx (by rw [tmCells_length, hm]) ?_ ?_ (by unfold maxLen; omega) (by omega) hbase ?_
  · intro j u hu
    rcases hr with h0 | ⟨b, off, e, _, hc⟩
    · rw [h0] at hu; simp at hu
    · simp only [Option.some.injEq, Addr.mk.injEq, and_true] at e
      obtain ⟨rfl, rfl⟩ := e
      rw [Addr.add_lit]
      exact hc j u hu
  · intro u hu
    unfold tmCells at hu
    obtain ⟨t, _, hu⟩ := List.mem_flatMap.1 hu
    simp only [Tm.cells, List.mem_cons, List.not_mem_nil, or_false] at hu
    rcases hu with rfl | rfl | rfl <;> rfl
  · intro v' w' h1 h2 _
    exact h v' w' (by rw [hcat]; exact h1) h2
/-- A row that the source does not lie in. -/
def Apart (B : Nat) (A : Option Addr) : Prop := ∀ b off, A = some ⟨b, off, none⟩ → b ≠ B
theorem Rd.dw {B : Nat} {w w' : World} {A : Option Addr} {xs : List Value} (h : Rd w A xs) (hd : DW B w w') (ha : Apart B A) : Rd w' A xs := by
  rcases h with h | ⟨b, off, e, hb, hc⟩
  · exact .inl h
  · exact .inr ⟨b, off, e, Nat.lt_of_lt_of_le hb hd.g.size, fun j u hu => hd.cell (hc j u hu) (fun e2 => ha b off e e2.symm)⟩
def TermsP (B bd : Nat) (w : World) (e : Ending) (w' : World) : Prop := ∃ g n c ts, e = .returned (.slice (some ⟨g, 0, none⟩) n c) ∧ n = ts.length ∧ 1 ≤ n ∧ n ≤ bd ∧ w'.ownsRow w.heap.size 60 3 (.slice (some ⟨g, 0, none⟩) n c) n (tmCells ts) ∧ (∀ t ∈ ts, t.nm.size ≤ 1048576 ∧ 1 ≤ t.k ∧ t.k ≤ 12) ∧ DW B w w'
def fT : Nat → Nat
  | 0 => 1
  | d + 1 => 2 * fT d + 1
theorem rd_litI (w : World) (zs : List Int) (T : TypeId) (hn : zs.length ≤ 100) : Rd (w.alloc (.cells (ints zs).toArray T)) (some ⟨w.heap.size, 0, none⟩) (ints zs) := by
  refine .inr ⟨w.heap.size, 0, rfl, by simp, fun j u h => ?_⟩
  have hj := (List.getElem?_eq_some_iff.1 h).1
  rw [Nat.zero_add]
  have h2 := World.ownsRow.cellAt (World.ownsRow_lit (e := T) (size := 1) (base := w.heap.size) w (ints zs).toArray (ints zs).length (Nat.le_refl _) (by rw [ints_length]; unfold maxLen; omega) (by simp)) j (by omega)
  rw [h2]
  simpa using h
theorem leafP {B bd : Nat} {w w2 : World} (hB : B < w.heap.size) (hd : DW B w w2) (k : Int) (nm : ByteArray) (x : Int) (hnm : nm.size ≤ 1048576) (hk : 1 ≤ k ∧ k ≤ 12) (hbd : 1 ≤ bd) : TermsP B bd w (.returned (.slice (some ⟨w2.heap.size, 0, none⟩) 1 1)) (w2.alloc (.cells #[.int .i64 k, .string nm, .int .i64 x] 60)) :=
  ⟨w2.heap.size, 1, 1, [⟨k, nm, x⟩], rfl, rfl, Nat.le_refl _, hbd, own_mono (World.ownsRow_lit (e := 60) (size := 3) (base := w2.heap.size) w2 #[.int .i64 k, .string nm, .int .i64 x] 1 (Nat.le_refl _) (by decide) (by simp)) hd.g.size, fun t ht => by rw [List.mem_singleton] at ht; subst ht; exact ⟨hnm, hk⟩, hd.alloc hB _⟩
theorem fT_le {d : Nat} (h : d ≤ 4) : fT d ≤ 31 := by
  match d, h with
  | 0, _ => decide
  | 1, _ => decide
  | 2, _ => decide
  | 3, _ => decide
  | 4, _ => decide
set_option maxHeartbeats 4000000 in
set_option maxRecDepth 100000 in
theorem c_DrawTerms (B : Nat) : ∀ (d : Nat) (A : Option Addr) (n c : Nat) (l : List ByteArray) (w : World), Src w B → d ≤ 4 → n = l.length → 0 < n → n ≤ 1000 → Rd w A (sts l) → Apart B A → (∀ s ∈ l, s.size ≤ 1048576) →
    Calls Tryz.prog 133 #[.pointer (some ⟨B, 0, none⟩), .slice A n c, .int .i64 d] w (TermsP B (fT d) w) := by
  intro d
  induction d with
  | zero =>
    intro A n c l w h hd hn hn0 hn1 hr ha hz
    have hBl := h.lt
    have HR := Lib.hid hr
    have HA := Lib.hid ha
    have HZ := Lib.hid hz
    have HL := Lib.hid hn
    have HS := Lib.hid (DW.start h)
    clear hr ha hz hn h
    go_enter Tryz.func133, Tryz.ntmps133
    have hbd : 1 ≤ fT 0 := by decide
    go_wp2_with (fail)
    refine (c_NextD B 12 _ HS.out.s (by omega)).mono ?_
    rintro e w2 ⟨r, rfl, hr0, hr1, _, hd2⟩
    have HD2 := Lib.hid (HS.out.then_ hd2)
    have hr2 := hr1 (by omega)
    clear hd2 hr1
    by_cases h0 : r = 0
    · subst h0
      go_wp2_with (fail)
      go_ret
      exact leafP hBl HD2.out 2 _ 0 (by decide) (by decide) hbd
    by_cases h1 : r = 1
    · subst h1
      go_wp2_with (fail)
      go_ret
      exact leafP hBl HD2.out 3 _ 0 (by decide) (by decide) hbd
    have e0 : (r == 0) = false := by simpa using h0
    have e1 : (r == 1) = false := by simpa using h1
    clear h0 h1 hr0 hr2
    go_wp2_with (fail)
    refine (c_NextD B n _ HD2.out.s (by omega)).mono ?_
    rintro e w3 ⟨r3, rfl, hr0, hr1, hr2, hd3⟩
    have hrn : r3 < n := hr1 (by omega)
    obtain ⟨j, rfl⟩ : ∃ j : Nat, r3 = j := ⟨r3.toNat, by omega⟩
    obtain ⟨x, hx⟩ : ∃ x, l[j]? = some x := ⟨_, List.getElem?_eq_getElem (by have := HL.out; omega)⟩
    have HXZ := Lib.hid (HZ.out x (List.mem_of_getElem? hx))
    have HD3 := Lib.hid (HD2.out.then_ hd3)
    obtain ⟨b, off, rfl, _, g0⟩ := (HR.out.dw HD3.out HA.out).st hx
    clear hd3 hr1 hr2 hx HD2
    go_wp2_with (fail)
    go_ret
    exact leafP hBl HD3.out 1 x 0 HXZ.out (by decide) hbd
  | succ d ih =>
    intro A n c l w h hd hn hn0 hn1 hr ha hz
    have hBl := h.lt
    have HR := Lib.hid hr
    have HA := Lib.hid ha
    have HZ := Lib.hid hz
    have HL := Lib.hid hn
    have HS := Lib.hid (DW.start h)
    have HIH := Lib.hid (fun w (h : Src w B) hr => ih A n c l w h (by omega) hn hn0 hn1 hr ha hz)
    clear hr ha hz hn h ih
    have hbd : 1 ≤ fT (d + 1) := by unfold fT; omega
    have ed : ((d : Int) + 1 == 0) = false := by simp; omega
    go_enter Tryz.func133, Tryz.ntmps133
    go_wp2_with (fail)
    refine (c_NextD B 4 _ HS.out.s (by omega)).mono ?_
    rintro e w1 ⟨r, rfl, hr0, hr1, _, hd1⟩
    have HS1 := Lib.hid (HS.out.then_ hd1)
    clear hd1 hr1
    by_cases hq : r = 0
    · subst hq
      go_wp2_with (fail)
      refine (c_NextD B 12 _ HS1.out.s (by omega)).mono ?_
      rintro e w2 ⟨r, rfl, hr0, hr1, _, hd2⟩
      have HD2 := Lib.hid (HS1.out.then_ hd2)
      have hr2 := hr1 (by omega)
      clear hd2 hr1
      by_cases h0 : r = 0
      · subst h0
        go_wp2_with (fail)
        go_ret
        exact leafP hBl HD2.out 2 _ 0 (by decide) (by decide) hbd
      by_cases h1 : r = 1
      · subst h1
        go_wp2_with (fail)
        go_ret
        exact leafP hBl HD2.out 3 _ 0 (by decide) (by decide) hbd
      have e0 : (r == 0) = false := by simpa using h0
      have e1 : (r == 1) = false := by simpa using h1
      clear h0 h1 hr0 hr2
      go_wp2_with (fail)
      refine (c_NextD B n _ HD2.out.s (by omega)).mono ?_
      rintro e w3 ⟨r3, rfl, hr0, hr1, hr2, hd3⟩
      have hrn : r3 < n := hr1 (by omega)
      obtain ⟨j, rfl⟩ : ∃ j : Nat, r3 = j := ⟨r3.toNat, by omega⟩
      obtain ⟨x, hx⟩ : ∃ x, l[j]? = some x := ⟨_, List.getElem?_eq_getElem (by have := HL.out; omega)⟩
      have HXZ := Lib.hid (HZ.out x (List.mem_of_getElem? hx))
      have HD3 := Lib.hid (HD2.out.then_ hd3)
      obtain ⟨b, off, rfl, _, g0⟩ := (HR.out.dw HD3.out HA.out).st hx
      clear hd3 hr1 hr2 hx HD2
      go_wp2_with (fail)
      go_ret
      exact leafP hBl HD3.out 1 x 0 HXZ.out (by decide) hbd
    · have eq0 : (r == 0) = false := by simpa using hq
      clear hq hr0
      go_wp2_with (fail)
      refine (c_PickIn B w1.heap.size 11 11 [4, 5, 6, 5, 6, 7, 8, 9, 10, 11, 12] _ (HS1.out.alloc hBl _).s (by have := HS1.out.g.size; omega) rfl (by omega) (by omega) (by exact rd_litI w1 [4, 5, 6, 5, 6, 7, 8, 9, 10, 11, 12] 2 (by decide))).mono ?_
      rintro e w2 ⟨z, hzm, rfl, hd2⟩
      have HS2 := Lib.hid ((HS1.out.alloc hBl _).then_ hd2)
      have hB2 : B < w2.heap.size := by have := HS2.out.g.size; omega
      have HZK := Lib.hid ((by decide : ∀ z ∈ ([4, 5, 6, 5, 6, 7, 8, 9, 10, 11, 12] : List Int), 1 ≤ z ∧ z ≤ 12) z hzm)
      clear hd2 hzm
      go_wp2_with (fail)
      refine (HIH.out _ HS2.out.s (HR.out.dw HS2.out HA.out)).mono ?_
      rintro e w3 ⟨g, n3, c3, ts, rfl, hnt, h13, hb3, ho, hnm, hd3⟩
      have HS3 := Lib.hid (HS2.out.then_ hd3)
      have HO3 := Lib.hid ho
      have HN3 := Lib.hid hnm
      have HL3 := Lib.hid hnt
      have hs23 := hd3.g.size
      have hfd := fT_le (d := d) (by omega)
      have hfd2 : fT (d + 1) = 2 * fT d + 1 := rfl
      clear ho hnm hd3 hnt
      have hB3 : B < w3.heap.size := by have := HS3.out.g.size; omega
      go_wp2_with (fail)
      refine (c_l13Takes z _).mono ?_
      rintro e wx ⟨rfl, rfl⟩
      generalize argI z = q at *
      by_cases h2 : q = 2
      · subst h2
        go_wp2_with (fail)
        refine (HIH.out _ HS3.out.s (HR.out.dw HS3.out HA.out)).mono ?_
        rintro e w4 ⟨g4, n4, c4, ts4, rfl, hnt4, h14, hb4, ho4, hnm4, hd4⟩
        have HS4 := Lib.hid (HS3.out.then_ hd4)
        have HO4 := Lib.hid (hd4.own HO3.out hB2)
        have HR4 := Lib.hid (Rd.own ho4)
        have HL4 := Lib.hid hnt4
        have HN4 := Lib.hid hnm4
        have HSG4 := Lib.hid hd4.g.size
        clear ho4 hnm4 hd4 hnt4
        have hl5 : n3 + n4 = (ts ++ ts4).length := by rw [List.length_append, ← HL3.out, ← HL4.out]
        have HN5 : Hid (∀ t ∈ ts ++ ts4, t.nm.size ≤ 1048576 ∧ 1 ≤ t.k ∧ t.k ≤ 12) := Lib.hid (fun t ht => (List.mem_append.1 ht).elim (HN3.out t) (HN4.out t))
        have HL5 := Lib.hid hl5
        have HSZ4 := Lib.hid (show w2.heap.size ≤ w4.heap.size from Nat.le_trans hs23 HSG4.out)
        clear hl5
        go_wp2_with (first
          | (at_builtin
             refine app_tms _ rfl (.tmp 47) (.tmp 52) rfl w2.heap.size _ n3 ts rfl HO4.out g4 n4 c4 ts4 rfl HL4.out HR4.out (by omega) HSZ4.out ?_
             intro v7 w7 hown hgrow
             obtain ⟨g9, c9, hv9, _, _⟩ := hown.form (by omega)
             subst hv9
             have HS7 := Lib.hid (HS4.out.far hBl hgrow (fun q hq => Nat.le_trans HS2.out.g.size (HO4.out.lt q hq).1))
             have HO7 := Lib.hid hown
             have HSZ7 := Lib.hid (Nat.le_trans HSZ4.out hgrow.size)
             clear hown hgrow)
          )
        have hBt : B < w7.heap.size := by have := HS7.out.g.size; omega
        have HSa := Lib.hid (HS7.out.alloc hBl (.cells #[.int .i64 z, .string ⟨#[]⟩, .int .i64 0] 60))
        have HOa := Lib.hid (own_below HO7.out (below_alloc (Below.refl w7.heap.size w7) (.cells #[.int .i64 z, .string ⟨#[]⟩, .int .i64 0] 60)))
        have HSZa := Lib.hid (show w2.heap.size ≤ (w7.alloc (.cells #[.int .i64 z, .string ⟨#[]⟩, .int .i64 0] 60)).heap.size by have := HSZ7.out; simp; omega)
        go_wp2_with (fail)
        refine (c_l13Counts z _).mono ?_
        rintro e wx ⟨rfl, rfl⟩
        generalize numB z = y at *
        cases y
        · have k0 : (w7.alloc (.cells #[.int .i64 z, .string ⟨#[]⟩, .int .i64 0] 60)).cell? ⟨w7.heap.size, 0, none⟩ = some (.int .i64 z) := by go_simp
          have k1 : (w7.alloc (.cells #[.int .i64 z, .string ⟨#[]⟩, .int .i64 0] 60)).cell? ⟨w7.heap.size, 1, none⟩ = some (.string ⟨#[]⟩) := by go_simp
          have k2 : (w7.alloc (.cells #[.int .i64 z, .string ⟨#[]⟩, .int .i64 0] 60)).cell? ⟨w7.heap.size, 2, none⟩ = some (.int .i64 0) := by go_simp
          generalize w7.alloc (.cells #[.int .i64 z, .string ⟨#[]⟩, .int .i64 0] 60) = wa at *
          go_wp2_with (first
            | (at_builtin
               refine wpList_push_tmD _ rfl (.tmp 61) (.tmp 63) rfl w2.heap.size _ (n3 + n4) (ts ++ ts4) ⟨z, ⟨#[]⟩, 0⟩ wa.heap.size 1 rfl (own_below HOa.out (below_alloc (Below.refl _ _) _)) rfl (by go_simp) (by go_simp) (by go_simp) (by omega) (by have := HSZa.out; simp; omega) ?_
               intro v8 w8 hown hgrow
               obtain ⟨g8, c8, hv8, _, _⟩ := hown.form (by omega)
               subst hv8
               have HS8 := Lib.hid ((HSa.out.alloc hBl _).far hBl hgrow (fun q hq => Nat.le_trans HS2.out.g.size (HOa.out.lt q hq).1))
               have HO8 := Lib.hid hown
               clear hown hgrow)
            )
          go_ret
          exact ⟨g8, _, c8, (ts ++ ts4) ++ [⟨z, ⟨#[]⟩, 0⟩], rfl, by rw [List.length_append, ← HL5.out]; rfl, by omega, by omega, own_mono HO8.out HS2.out.g.size, by intro t ht; rcases List.mem_append.1 ht with ht | ht; exact HN5.out t ht; rw [List.mem_singleton] at ht; subst ht; exact ⟨by first | decide | (dsimp only; decide), HZK.out⟩, HS8.out⟩
        · have HTB := Lib.hid (World.ownsRow_lit (e := 60) (size := 3) (base := w7.heap.size) w7 #[.int .i64 z, .string ⟨#[]⟩, .int .i64 0] 1 (Nat.le_refl _) (by decide) (by simp))
          have HGL := Lib.hid (fun q hq => (HO7.out.lt q hq).2)
          generalize w7.alloc (.cells #[.int .i64 z, .string ⟨#[]⟩, .int .i64 0] 60) = wa at *
          go_wp2_with (fail)
          refine (c_NextD B 4 _ HSa.out.s (by omega)).mono ?_
          rintro e w5 ⟨r5, rfl, hr0, hr1, _, hd5⟩
          have HS5 := Lib.hid (HSa.out.then_ hd5)
          have HO5 := Lib.hid (hd5.own HOa.out hB2)
          have ht5 := hd5.own HTB.out hBt
          have hst := ht5.stored 2 (.int .i64 r5)
          have HT6 := Lib.hid hst.1
          have HS6 := Lib.hid (HS5.out.far hBl hst.2 (fun q hq => by cases hq; exact HS7.out.g.size))
          have HO6 := Lib.hid (HO5.out.kept hst.2 (.inr (fun e => by have := HGL.out w7.heap.size e; omega)))
          have HSZ6 := Lib.hid (Nat.le_trans (Nat.le_trans HSZa.out hd5.g.size) hst.2.size)
          have k0 := ht5.cellAt 0 (by decide)
          have k1 := ht5.cellAt 1 (by decide)
          have k2 := ht5.cellAt 2 (by decide)
          have f2 := ht5.frozenAt 2
          clear hd5 ht5 hst hr0 hr1 HTB HSa HOa
          go_wp2_with (first
            | (at_builtin
               refine wpList_push_tmD _ rfl (.tmp 61) (.tmp 63) rfl w2.heap.size _ (n3 + n4) (ts ++ ts4) ⟨z, ⟨#[]⟩, r5⟩ _ 1 rfl (own_below HO6.out (below_alloc (Below.refl _ _) _)) rfl (by go_simp) (by go_simp) (by go_simp) (by omega) (Nat.le_trans HSZ6.out (below_alloc (Below.refl _ _) _).size) ?_
               intro v8 w8 hown hgrow
               obtain ⟨g8, c8, hv8, _, _⟩ := hown.form (by omega)
               subst hv8
               have HS8 := Lib.hid ((HS6.out.alloc hBl _).far hBl hgrow (fun q hq => Nat.le_trans HS2.out.g.size (HO6.out.lt q hq).1))
               have HO8 := Lib.hid hown
               clear hown hgrow)
            )
          go_ret
          exact ⟨g8, _, c8, (ts ++ ts4) ++ [⟨z, ⟨#[]⟩, r5⟩], rfl, by rw [List.length_append, ← HL5.out]; rfl, by omega, by omega, own_mono HO8.out HS2.out.g.size, by intro t ht; rcases List.mem_append.1 ht with ht | ht; exact HN5.out t ht; rw [List.mem_singleton] at ht; subst ht; exact ⟨by first | decide | (dsimp only; decide), HZK.out⟩, HS8.out⟩
      · have e2 : (q == 2) = false := by simpa using h2
        have HSW : Hid (w2.heap.size ≤ w3.heap.size) := Lib.hid hs23
        clear h2
        have hBt : B < w3.heap.size := by have := HS3.out.g.size; omega
        have HSa := Lib.hid (HS3.out.alloc hBl (.cells #[.int .i64 z, .string ⟨#[]⟩, .int .i64 0] 60))
        have HOa := Lib.hid (own_below HO3.out (below_alloc (Below.refl w3.heap.size w3) (.cells #[.int .i64 z, .string ⟨#[]⟩, .int .i64 0] 60)))
        have HSZa := Lib.hid (show w2.heap.size ≤ (w3.alloc (.cells #[.int .i64 z, .string ⟨#[]⟩, .int .i64 0] 60)).heap.size by have := HSW.out; simp; omega)
        go_wp2_with (fail)
        refine (c_l13Counts z _).mono ?_
        rintro e wx ⟨rfl, rfl⟩
        generalize numB z = y at *
        cases y
        · have k0 : (w3.alloc (.cells #[.int .i64 z, .string ⟨#[]⟩, .int .i64 0] 60)).cell? ⟨w3.heap.size, 0, none⟩ = some (.int .i64 z) := by go_simp
          have k1 : (w3.alloc (.cells #[.int .i64 z, .string ⟨#[]⟩, .int .i64 0] 60)).cell? ⟨w3.heap.size, 1, none⟩ = some (.string ⟨#[]⟩) := by go_simp
          have k2 : (w3.alloc (.cells #[.int .i64 z, .string ⟨#[]⟩, .int .i64 0] 60)).cell? ⟨w3.heap.size, 2, none⟩ = some (.int .i64 0) := by go_simp
          generalize w3.alloc (.cells #[.int .i64 z, .string ⟨#[]⟩, .int .i64 0] 60) = wa at *
          go_wp2_with (first
            | (at_builtin
               refine wpList_push_tmD _ rfl (.tmp 61) (.tmp 63) rfl w2.heap.size _ n3 ts ⟨z, ⟨#[]⟩, 0⟩ wa.heap.size 1 rfl (own_below HOa.out (below_alloc (Below.refl _ _) _)) rfl (by go_simp) (by go_simp) (by go_simp) (by omega) (by have := HSZa.out; simp; omega) ?_
               intro v7 w7 hown hgrow
               obtain ⟨g9, c9, hv9, _, _⟩ := hown.form (by omega)
               subst hv9
               have HS7 := Lib.hid ((HSa.out.alloc hBl _).far hBl hgrow (fun q hq => Nat.le_trans HS2.out.g.size (HOa.out.lt q hq).1))
               have HO7 := Lib.hid hown
               clear hown hgrow)
            )
          go_ret
          exact ⟨g9, _, c9, ts ++ [⟨z, ⟨#[]⟩, 0⟩], rfl, by rw [List.length_append, ← HL3.out]; rfl, by omega, by omega, own_mono HO7.out HS2.out.g.size, by intro t ht; rcases List.mem_append.1 ht with ht | ht; exact HN3.out t ht; rw [List.mem_singleton] at ht; subst ht; exact ⟨by first | decide | (dsimp only; decide), HZK.out⟩, HS7.out⟩
        · have HTB := Lib.hid (World.ownsRow_lit (e := 60) (size := 3) (base := w3.heap.size) w3 #[.int .i64 z, .string ⟨#[]⟩, .int .i64 0] 1 (Nat.le_refl _) (by decide) (by simp))
          have HGL := Lib.hid (fun q hq => (HO3.out.lt q hq).2)
          generalize w3.alloc (.cells #[.int .i64 z, .string ⟨#[]⟩, .int .i64 0] 60) = wa at *
          go_wp2_with (fail)
          refine (c_NextD B 4 _ HSa.out.s (by omega)).mono ?_
          rintro e w5 ⟨r5, rfl, hr0, hr1, _, hd5⟩
          have HS5 := Lib.hid (HSa.out.then_ hd5)
          have HO5 := Lib.hid (hd5.own HOa.out hB2)
          have ht5 := hd5.own HTB.out hBt
          have hst := ht5.stored 2 (.int .i64 r5)
          have HT6 := Lib.hid hst.1
          have HS6 := Lib.hid (HS5.out.far hBl hst.2 (fun q hq => by cases hq; exact HS3.out.g.size))
          have HO6 := Lib.hid (HO5.out.kept hst.2 (.inr (fun e => by have := HGL.out w3.heap.size e; omega)))
          have HSZ6 := Lib.hid (Nat.le_trans (Nat.le_trans HSZa.out hd5.g.size) hst.2.size)
          have k0 := ht5.cellAt 0 (by decide)
          have k1 := ht5.cellAt 1 (by decide)
          have k2 := ht5.cellAt 2 (by decide)
          have f2 := ht5.frozenAt 2
          clear hd5 ht5 hst hr0 hr1 HTB HSa HOa
          go_wp2_with (first
            | (at_builtin
               refine wpList_push_tmD _ rfl (.tmp 61) (.tmp 63) rfl w2.heap.size _ n3 ts ⟨z, ⟨#[]⟩, r5⟩ _ 1 rfl (own_below HO6.out (below_alloc (Below.refl _ _) _)) rfl (by go_simp) (by go_simp) (by go_simp) (by omega) (Nat.le_trans HSZ6.out (below_alloc (Below.refl _ _) _).size) ?_
               intro v7 w7 hown hgrow
               obtain ⟨g9, c9, hv9, _, _⟩ := hown.form (by omega)
               subst hv9
               have HS7 := Lib.hid ((HS6.out.alloc hBl _).far hBl hgrow (fun q hq => Nat.le_trans HS2.out.g.size (HO6.out.lt q hq).1))
               have HO7 := Lib.hid hown
               clear hown hgrow)
            )
          go_ret
          exact ⟨g9, _, c9, ts ++ [⟨z, ⟨#[]⟩, r5⟩], rfl, by rw [List.length_append, ← HL3.out]; rfl, by omega, by omega, own_mono HO7.out HS2.out.g.size, by intro t ht; rcases List.mem_append.1 ht with ht | ht; exact HN3.out t ht; rw [List.mem_singleton] at ht; subst ht; exact ⟨by first | decide | (dsimp only; decide), HZK.out⟩, HS7.out⟩
end Go.Proofs.YteengjcplmjakaaGreatDoor

/- Draws of names. Condition: a source at hand; the names' lengths. -/
namespace Go.Proofs.YteengjcplmjakaaGreatDoor
open Go.RowKit

theorem rd_litS (w : World) (zs : List ByteArray) (T : TypeId) (hn : zs.length ≤ 100) : Rd (w.alloc (.cells (sts zs).toArray T)) (some ⟨w.heap.size, 0, none⟩) (sts zs) := by
  refine .inr ⟨w.heap.size, 0, rfl, by simp, fun j u h => ?_⟩
  have hj := (List.getElem?_eq_some_iff.1 h).1
  rw [sts_length] at hj
  rw [Nat.zero_add]
  have h2 := World.ownsRow.cellAt (World.ownsRow_lit (e := T) (size := 1) (base := w.heap.size) w (sts zs).toArray zs.length (Nat.le_refl _) (by unfold maxLen; omega) (by simp [sts_length])) j (by omega)
  rw [h2]
  simpa using h
end Go.Proofs.YteengjcplmjakaaGreatDoor

/- Draws of expressions. Condition: a source at hand. -/
namespace Go.Proofs.YteengjcplmjakaaGreatDoor
open Go.RowKit

theorem tm_set {i : Nat} (hi : i < 3) (u : Value) (t' : Tm) : ∀ (ts : List Tm) (k : Nat) (t : Tm), ts[k]? = some t → t.cells.set i u = t'.cells → (tmCells ts).set (k * 3 + i) u = tmCells (ts.set k t')
  | [], k, t, h, _ => by simp at h
  | a :: ts, 0, t, h, e => by
    simp only [List.getElem?_cons_zero, Option.some.injEq] at h
    subst h
    show (a.cells ++ tmCells ts).set (0 * 3 + i) u = t'.cells ++ tmCells ts
    rw [Nat.zero_mul, Nat.zero_add, List.set_append_left _ _ (by show i < 3; exact hi), e]
  | a :: ts, k + 1, t, h, e => by
    simp only [List.getElem?_cons_succ] at h
    have ih := tm_set hi u t' ts k t h e
    show (a.cells ++ tmCells ts).set ((k + 1) * 3 + i) u = a.cells ++ tmCells (ts.set k t')
    rw [List.set_append_right _ _ (by show 3 ≤ (k + 1) * 3 + i; omega), ← ih]
    congr 2
    show (k + 1) * 3 + i - 3 = _
    omega
theorem own_lessT {w : World} {base g n m cap : Nat} {e : TypeId} {ts : List Tm} (h : w.ownsRow base e 3 (.slice (some ⟨g, 0, none⟩) n cap) n (tmCells ts)) (hm : m ≤ n) : w.ownsRow base e 3 (.slice (some ⟨g, 0, none⟩) m cap) m (tmCells (ts.take m)) := by
  have hx : (tmCells ts).take (m * 3) = tmCells (ts.take m) := by
    have h2 : tmCells ts = tmCells (ts.take m) ++ tmCells (ts.drop m) := by unfold tmCells; rw [← List.flatMap_append, List.take_append_drop]
    have hl := h.1
    rw [tmCells_length] at hl
    have h3 : (tmCells (ts.take m)).length = m * 3 := by rw [tmCells_length, List.length_take]; omega
    rw [h2, ← h3, List.take_left']
    rfl
  obtain ⟨h1, h2⟩ := h
  refine ⟨by rw [← hx, List.length_take, h1]; omega, .inr ?_⟩
  rcases h2 with ⟨h3, _⟩ | ⟨g', cap', cur, hv, hb, hg, h4, h5, h6, h7⟩
  · simp at h3
  · simp only [Value.slice.injEq, Option.some.injEq, Addr.mk.injEq, and_true, true_and] at hv
    obtain ⟨rfl, rfl⟩ := hv
    refine ⟨_, _, cur, rfl, hb, hg, by omega, h5, h6, ?_⟩
    rw [← hx, ← h7, List.take_take]
    congr 1
    omega
theorem set_sz {ts : List Tm} {k : Nat} {t' : Tm} (h : ∀ t ∈ ts, t.nm.size ≤ 1048576) (h2 : t'.nm.size ≤ 1048576) : ∀ t ∈ ts.set k t', t.nm.size ≤ 1048576 := fun t ht => (List.mem_or_eq_of_mem_set ht).elim (h t) (fun e => e ▸ h2)
theorem DW.own2 {B : Nat} {w wr : World} (h : DW B w wr) {base : Nat} {e : TypeId} {size n : Nat} {v : Value} {xs : List Value} (ho : w.ownsRow base e size v n xs) (hB : ∀ q, v.ownBlock = some q → q ≠ B) : wr.ownsRow base e size v n xs :=
  ho.kept h.g (by
    cases hv : v.ownBlock with
    | none => exact .inl rfl
    | some q => exact .inr (fun e => hB q hv (by simpa using e)))
def lenV : Value → Nat
  | .slice _ n _ => n
  | _ => 0
def eNames : List ByteArray := [⟨#[]⟩, ⟨#[97, 110, 100]⟩, ⟨#[120]⟩, ⟨#[89]⟩]
theorem eNames_sz (s : ByteArray) (h : s ∈ eNames) : s.size ≤ 1048576 := by
  simp only [eNames, List.mem_cons, List.not_mem_nil, or_false] at h
  rcases h with rfl | rfl | rfl | rfl <;> decide
def ExprP (B : Nat) (w : World) (e : Ending) (w' : World) : Prop := ∃ g n c ts, e = .returned (.slice (some ⟨g, 0, none⟩) n c) ∧ n = ts.length ∧ n ≤ 41 ∧ w'.ownsRow w.heap.size 60 3 (.slice (some ⟨g, 0, none⟩) n c) n (tmCells ts) ∧ (∀ t ∈ ts, t.nm.size ≤ 1048576) ∧ DW B w w'
theorem exprP_put {B : Nat} {w wr : World} {g n c k o i : Nat} {ts : List Tm} {t t' : Tm} {u : Value} (hBl : B < w.heap.size) (hs : DW B w wr) (ho : wr.ownsRow w.heap.size 60 3 (.slice (some ⟨g, 0, none⟩) n c) n (tmCells ts)) (hn : n = ts.length) (hn2 : n ≤ 41) (hz : ∀ t ∈ ts, t.nm.size ≤ 1048576) (hi : i < 3) (hk : ts[k]? = some t) (e : t.cells.set i u = t'.cells) (hz2 : t'.nm.size ≤ 1048576) (hoo : o = k * 3 + i) :
    ExprP B w (.returned (.slice (some ⟨g, 0, none⟩) n c)) (wr.setCell ⟨g, o, none⟩ u) := by
  subst hoo
  have hst := ho.stored (k * 3 + i) u
  rw [tm_set hi u t' ts k t hk e] at hst
  exact ⟨g, n, c, ts.set k t', rfl, by rw [List.length_set]; exact hn, hn2, hst.1, set_sz hz hz2, hs.far hBl hst.2 (fun q hq => by cases hq; exact (ho.lt g rfl).1)⟩
set_option maxHeartbeats 4000000 in
set_option maxRecDepth 100000 in
theorem c_DrawExpression (B : Nat) (w : World) (h : Src w B) :
    Calls Tryz.prog 131 #[.pointer (some ⟨B, 0, none⟩)] w (ExprP B w) := by
  have hBl := h.lt
  have HS := Lib.hid (DW.start h)
  clear h
  have HRc := Lib.hid (rd_litS w [⟨#[97]⟩, ⟨#[98]⟩, ⟨#[103, 97, 116, 101]⟩] 9 (by decide))
  go_enter Tryz.func131, Tryz.ntmps131
  go_wp2_with (fail)
  refine (c_NextD B 4 _ (HS.out.alloc hBl _).s (by omega)).mono ?_
  rintro e w1 ⟨r, rfl, hr0, hr1, _, hd1⟩
  have HS1 := Lib.hid ((HS.out.alloc hBl _).then_ hd1)
  have hr2 := hr1 (by omega)
  obtain ⟨d, rfl⟩ : ∃ d : Nat, r = d := ⟨r.toNat, by omega⟩
  have HR1 := Lib.hid (HRc.out.dw hd1 (fun b off e => by cases e; omega))
  clear hd1 hr1 HRc
  go_wp2_with (fail)
  refine (c_DrawTerms B d _ 3 3 _ _ HS1.out.s (by omega) rfl (by omega) (by omega) HR1.out (fun b off e => by cases e; omega) (by decide)).mono ?_
  rintro e w2 ⟨g, n, c, ts, rfl, hnt, h1n, hb, ho, hnm, hd2⟩
  have HS2 := Lib.hid (HS1.out.then_ hd2)
  have hfd := fT_le (d := d) (by omega)
  have HO2 := Lib.hid (own_mono ho HS1.out.g.size)
  have HBN := Lib.hid (fun q hq => Nat.lt_of_lt_of_le (Nat.lt_of_lt_of_le hBl HS1.out.g.size) (ho.lt q hq).1)
  have HN2 := Lib.hid (fun t ht => (hnm t ht).1)
  have HL2 := Lib.hid hnt
  clear hnm ho hnt hd2 HR1
  go_wp2_with (fail)
  refine (c_NextD B n _ HS2.out.s (by omega)).mono ?_
  rintro e w3 ⟨r3, rfl, hr0, hr1, _, hd3⟩
  have hkn : r3 < n := hr1 (by omega)
  obtain ⟨k, rfl⟩ : ∃ k : Nat, r3 = k := ⟨r3.toNat, by omega⟩
  have HS3 := Lib.hid (HS2.out.then_ hd3)
  have hgB : B < g := HBN.out g rfl
  have HO3 := Lib.hid (hd3.own2 HO2.out (fun q hq e => by have := HBN.out q hq; omega))
  clear hd3 hr1 HO2
  go_wp2_with (fail)
  refine (c_NextD B 24 _ HS3.out.s (by omega)).mono ?_
  rintro e w4 ⟨r4, rfl, hr0', hr1', _, hd4⟩
  have hr4 := hr1' (by omega)
  have HS4 := Lib.hid (HS3.out.then_ hd4)
  have HO4 := Lib.hid (hd4.own2 HO3.out (fun q hq e => by have := HBN.out q hq; omega))
  clear hd4 hr1' HO3
  obtain ⟨⟨tk, tn, tx⟩, ht⟩ : ∃ t, ts[k]? = some t := ⟨_, List.getElem?_eq_getElem (by have := HL2.out; omega)⟩
  have HT := Lib.hid ht
  have htn := HN2.out _ (List.mem_of_getElem? ht)
  dsimp only at htn
  clear ht
  by_cases h0 : r4 = 0
  · subst h0
    go_wp2_with (fail)
    refine (c_PickIn B w4.heap.size 4 4 [0, 4, 5, 13] _ (HS4.out.alloc hBl _).s (by have := HS4.out.g.size; omega) rfl (by omega) (by omega) (by exact rd_litI w4 [0, 4, 5, 13] 2 (by decide))).mono ?_
    rintro e w5 ⟨z, _, rfl, hd5⟩
    have HS5 := Lib.hid ((HS4.out.alloc hBl _).then_ hd5)
    have HO5 := Lib.hid (hd5.own2 (own_below HO4.out (below_alloc (Below.refl _ _) _)) (fun q hq e => by have := HBN.out q hq; omega))
    obtain ⟨o0, c0⟩ := own_cell HO5.out (j := k * 3) (by omega)
    have f0 := HO5.out.frozenAt (k * 3)
    clear hd5
    go_wp2_with (fail)
    go_ret
    exact exprP_put hBl HS5.out HO5.out HL2.out (by omega) HN2.out (i := 0) (by decide) HT.out (t' := ⟨z, tn, tx⟩) rfl htn rfl
  by_cases h2 : r4 = 2
  · subst h2
    go_wp2_with (fail)
    refine (c_PickIn B w4.heap.size 4 4 [-1, 1, 9999, 10000] _ (HS4.out.alloc hBl _).s (by have := HS4.out.g.size; omega) rfl (by omega) (by omega) (by exact rd_litI w4 [-1, 1, 9999, 10000] 2 (by decide))).mono ?_
    rintro e w5 ⟨z, _, rfl, hd5⟩
    have HS5 := Lib.hid ((HS4.out.alloc hBl _).then_ hd5)
    have HO5 := Lib.hid (hd5.own2 (own_below HO4.out (below_alloc (Below.refl _ _) _)) (fun q hq e => by have := HBN.out q hq; omega))
    obtain ⟨o0, c0⟩ := own_cell HO5.out (j := k * 3 + 2) (by omega)
    have f0 := HO5.out.frozenAt (k * 3 + 2)
    clear hd5
    go_wp2_with (fail)
    go_ret
    exact exprP_put hBl HS5.out HO5.out HL2.out (by omega) HN2.out (i := 2) (by decide) HT.out (t' := ⟨tk, tn, z⟩) rfl htn rfl
  by_cases h3 : r4 = 3
  · subst h3
    have hcap := (own_cap HO4.out).1
    have hkc : (k : Int) ≤ c := by omega
    have hk0 : (0 : Int) ≤ (k : Int) := by omega
    go_wp2_with (fail)
    go_ret
    exact ⟨g, k, c, ts.take k, rfl, by rw [List.length_take]; have := HL2.out; omega, by omega, own_lessT HO4.out (by omega), fun t ht => HN2.out t (List.mem_of_mem_take ht), HS4.out⟩
  by_cases h1 : r4 = 1
  · subst h1
    have HRd := Lib.hid (rd_litS w4 eNames 9 (by decide))
    go_wp2_with (fail)
    refine (c_NextD B 4 _ (HS4.out.alloc hBl _).s (by omega)).mono ?_
    rintro e w5 ⟨r5, rfl, hq0, hq1, _, hd5⟩
    have hq2 := hq1 (by omega)
    obtain ⟨j, rfl⟩ : ∃ j : Nat, r5 = j := ⟨r5.toNat, by omega⟩
    obtain ⟨x, hx⟩ : ∃ x, eNames[j]? = some x := ⟨_, List.getElem?_eq_getElem (by show j < 4; omega)⟩
    have HXZ := Lib.hid (eNames_sz x (List.mem_of_getElem? hx))
    have hsz4 := HS4.out.g.size
    have HS5 := Lib.hid ((HS4.out.alloc hBl _).then_ hd5)
    have HO5 := Lib.hid (hd5.own2 (own_below HO4.out (below_alloc (Below.refl _ _) _)) (fun q hq e => by have := HBN.out q hq; omega))
    obtain ⟨b, off, e, _, g0⟩ := (HRd.out.dw hd5 (fun b off e => by cases e; omega)).st hx
    simp only [Option.some.injEq, Addr.mk.injEq, and_true] at e
    obtain ⟨rfl, rfl⟩ := e
    simp only [Nat.zero_add] at g0
    obtain ⟨o0, c0⟩ := own_cell HO5.out (j := k * 3 + 1) (by omega)
    have f0 := HO5.out.frozenAt (k * 3 + 1)
    clear hd5 hq1 hx HRd
    go_wp2_with (fail)
    go_ret
    exact exprP_put hBl HS5.out HO5.out HL2.out (by omega) HN2.out (i := 1) (by decide) HT.out (t' := ⟨tk, x, tx⟩) rfl HXZ.out rfl
  by_cases h4 : r4 = 4
  · subst h4
    clear HT htn
    have HN4 := Lib.hid (show n ≤ 41 by omega)
    go_wp2_with (fail)
    go_loopw [3] (fun u wr => ∃ (g n c : Nat) (ts : List Tm), n ≤ 41 ∧ u = .slice (some ⟨g, 0, none⟩) n c ∧ 1 ≤ n ∧ Hid (n = ts.length) ∧ Hid (wr.ownsRow w.heap.size 60 3 (.slice (some ⟨g, 0, none⟩) n c) n (tmCells ts)) ∧ Hid (∀ t ∈ ts, t.nm.size ≤ 1048576) ∧ Hid (DW B w wr)) (fun u _ => 42 - lenV u)
    case atStart => exact ⟨g, n, c, ts, HN4.out, rfl, h1n, HL2, HO4, HN2, HS4⟩
    case round =>
      clear HO4 HN2 HL2 HS4 HBN hb h1n hkn
      obtain ⟨g9, m, c9, us, hm, rfl, hm1, hl, ho, hnm, hs⟩ := hrel
      have HBN := Lib.hid (fun q hq => Nat.lt_of_lt_of_le hBl (ho.out.lt q hq).1)
      go_wp2_with (fail)
      refine (c_NextD B 2 _ hs.out.s (by omega)).mono ?_
      rintro e w5 ⟨r5, rfl, hq0, hq1, _, hd5⟩
      have hq2 := hq1 (by omega)
      have HS5 := Lib.hid (hs.out.then_ hd5)
      have HO5 := Lib.hid (hd5.own2 ho.out (fun q hq e => by have := HBN.out q hq; omega))
      clear hd5 hq1 ho hs
      have hw5 : IntKind.i64.wrap (40 + r5) = 40 + r5 := IntWalk.i64_in _ (by omega)
      by_cases hlt : (m : Int) < 40 + r5
      · go_wp2_with (first
          | (at_builtin
             refine wpList_push_tmD _ rfl (.tmp 58) (.tmp 60) rfl w.heap.size _ m us ⟨4, ⟨#[]⟩, 0⟩ w5.heap.size 1 rfl (own_below HO5.out (below_alloc (Below.refl _ _) _)) rfl (by go_simp) (by go_simp) (by go_simp) (by omega) (by have := HS5.out.g.size; simp; omega) ?_
             intro v7 w7 hown hgrow
             obtain ⟨g8, c8, hv8, _, _⟩ := hown.form (by omega)
             subst hv8
             have HS7 := Lib.hid ((HS5.out.alloc hBl _).far hBl hgrow (fun q hq => (HO5.out.lt q hq).1))
             have HO7 := Lib.hid hown
             clear hown hgrow)
          )
        go_roundw
        case rel => exact ⟨g8, m + 1, c8, us ++ [⟨4, ⟨#[]⟩, 0⟩], by omega, rfl, by omega, Lib.hid (by rw [List.length_append, ← hl.out]; rfl), HO7, Lib.hid (fun t ht => by
          rcases List.mem_append.1 ht with ht | ht
          · exact hnm.out t ht
          · rw [List.mem_singleton] at ht; subst ht; decide), HS7⟩
        case measure => simp [lenV]; omega
      · go_wp2_with (fail)
        go_ret
        exact ⟨g9, m, c9, us, rfl, hl.out, hm, HO5.out, hnm.out, HS5.out⟩
  have e0 : (r4 == 0) = false := by simpa using h0
  have e1 : (r4 == 1) = false := by simpa using h1
  have e2 : (r4 == 2) = false := by simpa using h2
  have e3 : (r4 == 3) = false := by simpa using h3
  have e4 : (r4 == 4) = false := by simpa using h4
  go_wp2_with (fail)
  go_ret
  exact ⟨g, n, c, ts, rfl, HL2.out, by omega, HO4.out, HN2.out, HS4.out⟩
end Go.Proofs.YteengjcplmjakaaGreatDoor

/- likeNames5 and big. Condition: the lengths. -/
namespace Go.Proofs.YteengjcplmjakaaGreatDoor
open Go.RowKit

theorem c_big (A : Option Addr) (c n : Nat) (w : World) : Calls Tryz.prog 6 #[.slice A n c] w fun e w' => e = .returned (.bool (decide (4096 < n))) ∧ w = w' := by
  go_enter Tryz.func6, Tryz.ntmps6
  go_wp2
  go_ret
  exact ⟨ret_bool (by rw [decide_eq_decide]; omega), rfl⟩
end Go.Proofs.YteengjcplmjakaaGreatDoor

/- Append of a line. No condition but the sizes. -/
namespace Go.Proofs.YteengjcplmjakaaGreatDoor
open Go.RowKit

theorem wpList_push_ln (w : World) {ops : Array Oper} {rest : List Oper} {o : Oper} {a : Act} {Q : Exit → Act → World → Prop} (hgd : o.guard = none) (s x : Operand)
    (ho : o.op = .call { callee := .builtin .append, args := #[s, x], argTypes := #[25, 25] })
    (base : Nat) (v : Value) (n : Nat) (l : List LiD) (t : LiD) (g c : Nat) (hs : a.eval s = v) (hown : w.ownsRow base 80 2 v n (lidCells l))
    (hx : a.eval x = .slice (some ⟨g, 0, none⟩) 1 c) (h0 : w.cell? ⟨g, 0, none⟩ = some (.string t.l.tg)) (h1 : w.cell? ⟨g, 1, none⟩ = some t.v) (hn : n ≤ 1048577) (hbase : base ≤ w.heap.size)
    (h : ∀ v' w', w'.ownsRow base 80 2 v' (n + 1) (lidCells (l ++ [t])) → w.grownBy w' v.ownBlock → (v'.ownBlock = v.ownBlock ∨ v'.ownBlock = some w.heap.size) → wpList Tryz.prog ops Q rest (a.put o.dst v') w') : wpList Tryz.prog ops Q (o :: rest) a w := by
  obtain ⟨i0, hi, hz0, hz1, hz2⟩ := info_parts info_iLine
  refine wpList_push w hgd s x 25 ho base 80 i0 _ 2 40 Tryz.underlying25 hi hz0 hz1 hz2 rfl (by decide) v n (lidCells l) hs hown ⟨g, 0, none⟩ c t.cells hx rfl ?_ ?_ (by unfold maxLen; omega) (by omega) hbase ?_
  · intro j u hu
    match j, hu with
    | 0, hu => simp only [LiD.cells, List.getElem?_cons_zero, Option.some.injEq] at hu; rw [← hu]; simpa [Addr.add] using h0
    | 1, hu => simp only [LiD.cells, List.getElem?_cons_succ, List.getElem?_cons_zero, Option.some.injEq] at hu; rw [← hu]; simpa [Addr.add] using h1
  · intro u hu
    simp only [LiD.cells, List.mem_cons, List.not_mem_nil, or_false] at hu
    rcases hu with rfl | rfl <;> rfl
  · intro v' w' hown1 hgrow _ hbl
    refine h v' w' ?_ hgrow hbl
    have e : lidCells (l ++ [t]) = lidCells l ++ t.cells := by simp [lidCells]
    rw [e]
    exact hown1
theorem wp_push_ln (w : World) {o : Oper} {a : Act} {K : Act → World → Prop} {Q : Exit → Act → World → Prop} (s x : Operand)
    (ho : o.op = .call { callee := .builtin .append, args := #[s, x], argTypes := #[25, 25] })
    (base : Nat) (v : Value) (n : Nat) (l : List LiD) (t : LiD) (g c : Nat) (hs : a.eval s = v) (hown : w.ownsRow base 80 2 v n (lidCells l))
    (hx : a.eval x = .slice (some ⟨g, 0, none⟩) 1 c) (h0 : w.cell? ⟨g, 0, none⟩ = some (.string t.l.tg)) (h1 : w.cell? ⟨g, 1, none⟩ = some t.v) (hn : n ≤ 1048577) (hbase : base ≤ w.heap.size)
    (h : ∀ v' w', w'.ownsRow base 80 2 v' (n + 1) (lidCells (l ++ [t])) → w.grownBy w' v.ownBlock → (v'.ownBlock = v.ownBlock ∨ v'.ownBlock = some w.heap.size) → K (a.put o.dst v') w') : o.wp Tryz.prog a w K Q := by
  obtain ⟨i0, hi, hz0, hz1, hz2⟩ := info_parts info_iLine
  refine wp_push w s x 25 ho base 80 i0 _ 2 40 Tryz.underlying25 hi hz0 hz1 hz2 rfl (by decide) v n (lidCells l) hs hown ⟨g, 0, none⟩ c t.cells hx rfl ?_ ?_ (by unfold maxLen; omega) (by omega) hbase ?_
  · intro j u hu
    match j, hu with
    | 0, hu => simp only [LiD.cells, List.getElem?_cons_zero, Option.some.injEq] at hu; rw [← hu]; simpa [Addr.add] using h0
    | 1, hu => simp only [LiD.cells, List.getElem?_cons_succ, List.getElem?_cons_zero, Option.some.injEq] at hu; rw [← hu]; simpa [Addr.add] using h1
  · intro u hu
    simp only [LiD.cells, List.mem_cons, List.not_mem_nil, or_false] at hu
    rcases hu with rfl | rfl <;> rfl
  · intro v' w' hown1 hgrow _ hbl
    refine h v' w' ?_ hgrow hbl
    have e : lidCells (l ++ [t]) = lidCells l ++ t.cells := by simp [lidCells]
    rw [e]
    exact hown1
theorem rd_take {w : World} {A : Option Addr} {l : List ByteArray} (h : Rd w A (sts l)) (m : Nat) : Rd w A (sts (l.take m)) := by
  have e : sts (l.take m) = (sts l).take m := by simp [sts, List.map_take]
  rw [e]
  rcases h with h | ⟨b, off, e, hb, hc⟩
  · rw [h]; exact .inl (by simp)
  · exact .inr ⟨b, off, e, hb, fun j u hu => hc j u (by
      rw [List.getElem?_take] at hu
      split at hu
      · exact hu
      · cases hu)⟩
theorem rd_drop {w : World} {b off : Nat} {l : List ByteArray} (h : Rd w (some ⟨b, off, none⟩) (sts l)) (m : Nat) : Rd w (some ⟨b, off + m, none⟩) (sts (l.drop m)) := by
  have e : sts (l.drop m) = (sts l).drop m := by simp [sts, List.map_drop]
  rw [e]
  rcases h with h | ⟨b', off', e, hb, hc⟩
  · rw [h]; exact .inl (by simp)
  · simp only [Option.some.injEq, Addr.mk.injEq, and_true] at e
    obtain ⟨rfl, rfl⟩ := e
    exact .inr ⟨b, off + m, rfl, hb, fun j u hu => by
      rw [List.getElem?_drop] at hu
      have := hc (m + j) u hu
      rw [show off + m + j = off + (m + j) by omega]
      exact this⟩
theorem wp_app_strs (w : World) {o : Oper} {a : Act} {K : Act → World → Prop} {Q : Exit → Act → World → Prop} (s x : Operand)
    (ho : o.op = .call { callee := .builtin .append, args := #[s, x], argTypes := #[24, 24] })
    (base : Nat) (v : Value) (n : Nat) (xs : List ByteArray) (hs : a.eval s = v) (hown : w.ownsRow base 9 1 v n (sts xs))
    (ad : Addr) (m c : Nat) (ys : List ByteArray) (hx : a.eval x = .slice (some ad) m c) (hm : m = ys.length) (hr : Rd w (some ad) (sts ys)) (hb : n + m ≤ 4000000) (hbase : base ≤ w.heap.size)
    (h : ∀ v' w', w'.ownsRow base 9 1 v' (n + m) (sts (xs ++ ys)) → w.grownBy w' v.ownBlock → K (a.put o.dst v') w') : o.wp Tryz.prog a w K Q := by
  obtain ⟨i0, hi, hz0, hz1, hz2⟩ := info_parts info_string
  have hcat : sts (xs ++ ys) = sts xs ++ sts ys := by simp [sts]
  obtain ⟨v', w', hrun, h1, h2, _⟩ := run_append_own (P := Tryz.prog) w base 24 o.type 9 i0 (.string ⟨#[]⟩) 1 16 Tryz.underlying24 hi hz0 hz1 hz2 rfl (by decide) v n (sts xs) hown ad m c (sts ys) (by rw [sts_length, hm, Nat.mul_one]) (by
    intro j u hu
    rcases hr with h0 | ⟨b, off, e, _, hc⟩
    · rw [h0] at hu; simp at hu
    · simp only [Option.some.injEq] at e
      subst e
      rw [Addr.add_lit]
      exact hc j u hu) (by
    intro u hu
    simp only [sts, List.mem_map] at hu
    obtain ⟨t, _, rfl⟩ := hu
    rfl) (by unfold maxLen; omega) (by omega) hbase
  unfold Oper.wp execOp
  simp only [ho, resolve, invoke, builtin, Sem.run_bind, Sem.run_pure, Result.andThen_ok, List.map_toArray, List.map_cons, List.map_nil, hs, hx, hrun]
  exact h v' w' (by rw [hcat]; exact h1) h2
theorem kept_sep {w w' : World} {base : Nat} {e : TypeId} {size n : Nat} {v : Value} {xs : List Value} {row : Option Nat} (h : w.ownsRow base e size v n xs) (hg : w.grownBy w' row) (hs : ∀ b, row = some b → v.ownBlock ≠ some b) : w'.ownsRow base e size v n xs := by
  refine h.kept hg ?_
  cases hv : v.ownBlock with
  | none => exact .inl rfl
  | some q => exact .inr (fun e => hs q e.symm hv)
theorem sep_next {old new o : Option Nat} {H : Nat} (hbl : new = old ∨ new = some H) (hs : ∀ b, old = some b → o ≠ some b) (hlt : ∀ b, o = some b → b < H) : ∀ b, new = some b → o ≠ some b := by
  intro b hb ho
  rcases hbl with e | e
  · exact hs b (e ▸ hb) ho
  · have := hlt b ho
    rw [e] at hb
    cases hb
    omega
end Go.Proofs.YteengjcplmjakaaGreatDoor

/- The rows of a drawn program: what they are, and what keeps them. No condition. -/
namespace Go.Proofs.YteengjcplmjakaaGreatDoor
open Go.RowKit

/-- The rows of a program of the call's own, with their lengths as numbers. -/
structure PRows (w : World) (base : Nat) (a1 a2 a3 a4 : Option Addr) (c1 c2 c3 c4 n1 n2 n3 n4 : Nat) (ins vs os : List ByteArray) (ds : List LiD) : Prop where
  i : w.ownsRow base 9 1 (.slice a1 n1 c1) n1 (sts ins)
  v : w.ownsRow base 9 1 (.slice a2 n2 c2) n2 (sts vs)
  o : w.ownsRow base 9 1 (.slice a3 n3 c3) n3 (sts os)
  l : w.ownsRow base 80 2 (.slice a4 n4 c4) n4 (lidCells ds)
  d : ∀ d ∈ ds, NestT w base d
/-- The sizes of a program's strings and lists. -/
structure PSizes (nm gd : ByteArray) (ins vs os : List ByteArray) (ds : List LiD) : Prop where
  n : nm.size ≤ 1048576
  g : gd.size ≤ 1048576
  i : StOk ins
  v : StOk vs
  o : StOk os
  l : ds.length ≤ 1048576
  d : ∀ d ∈ ds, d.l.tg.size ≤ 1048576 ∧ TmOk d.l.ts
section
variable {w w' : World} {base : Nat} {a1 a2 a3 a4 : Option Addr} {c1 c2 c3 c4 n1 n2 n3 n4 : Nat} {ins vs os : List ByteArray} {ds : List LiD}
theorem PRows.below (h : PRows w base a1 a2 a3 a4 c1 c2 c3 c4 n1 n2 n3 n4 ins vs os ds) (hb : Below w.heap.size w w') : PRows w' base a1 a2 a3 a4 c1 c2 c3 c4 n1 n2 n3 n4 ins vs os ds :=
  ⟨own_below h.i hb, own_below h.v hb, own_below h.o hb, own_below h.l hb, fun d hd => (h.d d hd).below hb⟩
theorem PRows.mono {b2 : Nat} (h : PRows w base a1 a2 a3 a4 c1 c2 c3 c4 n1 n2 n3 n4 ins vs os ds) (hb : b2 ≤ base) : PRows w b2 a1 a2 a3 a4 c1 c2 c3 c4 n1 n2 n3 n4 ins vs os ds :=
  ⟨own_mono h.i hb, own_mono h.v hb, own_mono h.o hb, own_mono h.l hb, fun d hd => (h.d d hd).mono hb⟩
theorem PRows.far {row : Option Nat} (h : PRows w base a1 a2 a3 a4 c1 c2 c3 c4 n1 n2 n3 n4 ins vs os ds) (hg : w.grownBy w' row) (hlt : ∀ q, row = some q → q < base) : PRows w' base a1 a2 a3 a4 c1 c2 c3 c4 n1 n2 n3 n4 ins vs os ds :=
  ⟨kept_far h.i hg hlt, kept_far h.v hg hlt, kept_far h.o hg hlt, kept_far h.l hg hlt, fun d hd => kept_far (h.d d hd) hg hlt⟩
theorem PRows.dw {B : Nat} (h : PRows w base a1 a2 a3 a4 c1 c2 c3 c4 n1 n2 n3 n4 ins vs os ds) (hd : DW B w w') (hB : B < base) : PRows w' base a1 a2 a3 a4 c1 c2 c3 c4 n1 n2 n3 n4 ins vs os ds :=
  h.far hd.g (fun q hq => by simp at hq; omega)
theorem PRows.box {b b2 : Nat} {x : List Value} (h : PRows w base a1 a2 a3 a4 c1 c2 c3 c4 n1 n2 n3 n4 ins vs os ds) (hx : PBox w b2 b x) (hg : w.grownBy w' (some b)) : PRows w' base a1 a2 a3 a4 c1 c2 c3 c4 n1 n2 n3 n4 ins vs os ds :=
  ⟨own_keep h.i hx (by decide) hg, own_keep h.v hx (by decide) hg, own_keep h.o hx (by decide) hg, own_keep h.l hx (by decide) hg, fun d hd => own_keep (h.d d hd) hx (by decide) hg⟩
end
/-- A program of the call's own, with bounded lengths; the source goes on. -/
def ProgP (F : Prg → Option Addr → Option Addr → Option Addr → Prop) (B : Nat) (w : World) (e : Ending) (w' : World) : Prop := ∃ p a1 a2 a3 a4 c1 c2 c3 c4 ds, e = .returned (pv p a1 a2 a3 a4 c1 c2 c3 c4) ∧ POwn w' w.heap.size a1 a2 a3 a4 c1 c2 c3 c4 p ds ∧ PgOk p ∧ F p a1 a2 a3 ∧ DW B w w'
def blkO (A : Option Addr) : Option Nat := A.map (·.block)
theorem ob (A : Option Addr) (n c : Nat) : (Value.slice A n c).ownBlock = blkO A := by cases A <;> rfl
/-- The first row shares no block with the others. -/
def SepI (a1 a2 a3 : Option Addr) : Prop := ∀ b, blkO a1 = some b → blkO a2 ≠ some b ∧ blkO a3 ≠ some b
/-- One to six lines, with at most 31 terms each. -/
def Few (p : Prg) (a1 a2 a3 : Option Addr) : Prop := SepI a1 a2 a3 ∧ (p.ins.length ≤ 3 ∧ p.vs.length ≤ 3 ∧ p.os.length ≤ 2) ∧ 1 ≤ p.ls.length ∧ p.ls.length ≤ 6 ∧ ∀ l ∈ p.ls, l.ts.length ≤ 31 ∧ ∀ t ∈ l.ts, 1 ≤ t.k ∧ t.k ≤ 12
theorem PRows.prog {F : Prg → Option Addr → Option Addr → Option Addr → Prop} {B : Nat} {w w' : World} {a1 a2 a3 a4 : Option Addr} {c1 c2 c3 c4 n1 n2 n3 n4 : Nat} {ins vs os : List ByteArray} {ds : List LiD} {nm gd : ByteArray} (h : PRows w' w.heap.size a1 a2 a3 a4 c1 c2 c3 c4 n1 n2 n3 n4 ins vs os ds) (hz : PSizes nm gd ins vs os ds) (hF : F ⟨nm, ins, vs, os, gd, ds.map LiD.l⟩ a1 a2 a3) (hd : DW B w w') :
    ProgP F B w (.returned (.agg #[.string nm, .slice a1 n1 c1, .slice a2 n2 c2, .slice a3 n3 c3, .string gd, .slice a4 n4 c4])) w' := by
  obtain rfl : n1 = ins.length := by have := h.i.1; rw [sts_length] at this; omega
  obtain rfl : n2 = vs.length := by have := h.v.1; rw [sts_length] at this; omega
  obtain rfl : n3 = os.length := by have := h.o.1; rw [sts_length] at this; omega
  obtain rfl : n4 = ds.length := by have := h.l.1; rw [lidCells_length] at this; omega
  refine ⟨⟨nm, ins, vs, os, gd, ds.map LiD.l⟩, a1, a2, a3, a4, c1, c2, c3, c4, ds, ?_, ⟨h.i, h.v, h.o, ?_, rfl, h.d⟩, ⟨hz.n, hz.i, hz.v, hz.o, hz.g, ?_, ?_⟩, hF, hd⟩
  · simp [pv]
  · simpa using h.l
  · simpa using hz.l
  · intro r hr
    obtain ⟨d, hd, rfl⟩ := List.mem_map.1 hr
    exact hz.d d hd
theorem POwn.rows {w : World} {base : Nat} {a1 a2 a3 a4 : Option Addr} {c1 c2 c3 c4 : Nat} {p : Prg} {ds : List LiD} (h : POwn w base a1 a2 a3 a4 c1 c2 c3 c4 p ds) : PRows w base a1 a2 a3 a4 c1 c2 c3 c4 p.ins.length p.vs.length p.os.length p.ls.length p.ins p.vs p.os ds :=
  ⟨h.i, h.v, h.o, h.l, h.d⟩
theorem PgOk.sizes {p : Prg} {ds : List LiD} (h : PgOk p) (e : ds.map LiD.l = p.ls) : PSizes p.nm p.gd p.ins p.vs p.os ds :=
  ⟨h.n, h.g, h.i, h.v, h.o, by have := h.l.1; rw [← e, List.length_map] at this; exact this, fun d hd => h.l.2 d.l (by rw [← e]; exact List.mem_map_of_mem hd)⟩
/-- A box filled with a program. -/
theorem PBox.fill {w : World} {base b : Nat} {y0 y1 y2 y3 y4 y5 : Value} (h : PBox w base b [y0, y1, y2, y3, y4, y5]) (x0 x1 x2 x3 x4 x5 : Value) :
    PBox ((((((w.setCell ⟨b, 0, none⟩ x0).setCell ⟨b, 1, none⟩ x1).setCell ⟨b, 2, none⟩ x2).setCell ⟨b, 3, none⟩ x3).setCell ⟨b, 4, none⟩ x4).setCell ⟨b, 5, none⟩ x5) base b [x0, x1, x2, x3, x4, x5] ∧
    w.grownBy ((((((w.setCell ⟨b, 0, none⟩ x0).setCell ⟨b, 1, none⟩ x1).setCell ⟨b, 2, none⟩ x2).setCell ⟨b, 3, none⟩ x3).setCell ⟨b, 4, none⟩ x4).setCell ⟨b, 5, none⟩ x5) (some b) := by
  have z0 := PBox.put h 0 x0
  have z1 := PBox.put z0.1 1 x1
  have z2 := PBox.put z1.1 2 x2
  have z3 := PBox.put z2.1 3 x3
  have z4 := PBox.put z3.1 4 x4
  have z5 := PBox.put z4.1 5 x5
  exact ⟨z5.1, grown_trans (grown_trans (grown_trans (grown_trans (grown_trans z0.2 z1.2) z2.2) z3.2) z4.2) z5.2⟩
end Go.Proofs.YteengjcplmjakaaGreatDoor

/- Draws of programs. Condition: a source at hand. -/
namespace Go.Proofs.YteengjcplmjakaaGreatDoor
open Go.RowKit

def kV : List ByteArray := [⟨#[120]⟩, ⟨#[121]⟩, ⟨#[122]⟩]
def kO : List ByteArray := [⟨#[113]⟩, ⟨#[108, 97, 109, 112]⟩]
theorem kV_sz (s : ByteArray) (h : s ∈ kV) : s.size ≤ 1048576 := by
  simp only [kV, List.mem_cons, List.not_mem_nil, or_false] at h
  rcases h with rfl | rfl | rfl <;> decide
theorem kO_sz (s : ByteArray) (h : s ∈ kO) : s.size ≤ 1048576 := by
  simp only [kO, List.mem_cons, List.not_mem_nil, or_false] at h
  rcases h with rfl | rfl <;> decide
def kI : List ByteArray := [⟨#[97]⟩, ⟨#[98]⟩, ⟨#[107, 101, 121]⟩]
theorem kI_sz (s : ByteArray) (h : s ∈ kI) : s.size ≤ 1048576 := by
  simp only [kI, List.mem_cons, List.not_mem_nil, or_false] at h
  rcases h with rfl | rfl | rfl <;> decide
theorem Rd.takeS {w : World} {A : Option Addr} {l : List ByteArray} (h : Rd w A (sts l)) (m : Nat) : Rd w A (sts (l.take m)) := by
  have e : sts (l.take m) = (sts l).take m := by simp [sts, List.map_take]
  rw [e]
  rcases h with h | ⟨b, off, e, hb, hc⟩
  · rw [h]; exact .inl (by simp)
  · exact .inr ⟨b, off, e, hb, fun j u hu => hc j u (by
      rw [List.getElem?_take] at hu
      split at hu
      · exact hu
      · cases hu)⟩
theorem own_lit0 (w : World) : (w.alloc (.cells #[] 9)).ownsRow w.heap.size 9 1 (.slice (some ⟨w.heap.size, 0, none⟩) 0 0) 0 (sts []) := by
  have h := World.ownsRow_lit (e := 9) (size := 1) (base := w.heap.size) w #[] 0 (Nat.le_refl _) (by decide) (by simp)
  simpa [sts] using h
set_option maxHeartbeats 4000000 in
set_option maxRecDepth 100000 in
theorem c_l13Draw (B : Nat) (w : World) (h : Src w B) :
    Calls Tryz.prog 86 #[.pointer (some ⟨B, 0, none⟩)] w (ProgP Few B w) := by
  have hBl := h.lt
  have HS := Lib.hid (DW.start h)
  clear h
  have HRi := Lib.hid (rd_litS (w.alloc (.cells #[.string ⟨#[]⟩, .slice none 0 0, .slice none 0 0, .slice none 0 0, .string ⟨#[]⟩, .slice none 0 0] 27)) kI 9 (by decide))
  have HS0 := Lib.hid ((HS.out.alloc hBl (.cells #[.string ⟨#[]⟩, .slice none 0 0, .slice none 0 0, .slice none 0 0, .string ⟨#[]⟩, .slice none 0 0] 27)).alloc hBl (.cells (sts kI).toArray 9))
  have HBX := Lib.hid (World.ownsRow_lit (e := 27) (size := 6) (base := w.heap.size) w #[.string ⟨#[]⟩, .slice none 0 0, .slice none 0 0, .slice none 0 0, .string ⟨#[]⟩, .slice none 0 0] 1 (Nat.le_refl _) (by decide) (by simp))
  have HBX1 := Lib.hid (own_below HBX.out (below_alloc (Below.refl _ _) (.cells (sts kI).toArray 9)))
  have hz1 : (w.alloc (.cells #[.string ⟨#[]⟩, .slice none 0 0, .slice none 0 0, .slice none 0 0, .string ⟨#[]⟩, .slice none 0 0] 27)).heap.size = w.heap.size + 1 := by simp
  rw [hz1] at HRi
  clear hz1 HBX
  go_enter Tryz.func86, Tryz.ntmps86
  go_wp2_with (fail)
  refine (c_NextD B 3 _ HS0.out.s (by omega)).mono ?_
  rintro e w1 ⟨r, rfl, hr0, hr1, _, hd1⟩
  have hr2 := hr1 (by omega)
  obtain ⟨i, rfl⟩ : ∃ i : Nat, r = i := ⟨r.toNat, by omega⟩
  have HS1 := Lib.hid (HS0.out.then_ hd1)
  have HX1 := Lib.hid (hd1.own2 HBX1.out (fun q hq e => by simp only [Value.ownBlock, Option.some.injEq] at hq; omega))
  have HR1 := Lib.hid ((HRi.out.dw hd1 (fun b off e => by cases e; omega)).takeS (1 + i))
  have hi3 : (1 : Int) + i ≤ 3 := by omega
  have hi0 : (0 : Int) ≤ 1 + (i : Int) := by omega
  clear hd1 hr1 HRi HS0 HBX1
  go_wp2_with (fail)
  have HRv := Lib.hid (rd_litS w1 kV 9 (by decide))
  have hs1 := HS1.out.g.size
  refine (c_NextD B 4 _ (HS1.out.alloc hBl _).s (by omega)).mono ?_
  rintro e w2 ⟨r, rfl, hq0, hr1, _, hd2⟩
  have hq2 := hr1 (by omega)
  obtain ⟨j, rfl⟩ : ∃ j : Nat, r = j := ⟨r.toNat, by omega⟩
  have HS2 := Lib.hid ((HS1.out.alloc hBl (.cells (sts kV).toArray 9)).then_ hd2)
  have HX2 := Lib.hid (hd2.own2 (own_below HX1.out (below_alloc (Below.refl _ _) (.cells (sts kV).toArray 9))) (fun q hq e => by simp only [Value.ownBlock, Option.some.injEq] at hq; omega))
  have HR2 := Lib.hid ((HR1.out.below (below_alloc (Below.refl _ _) (.cells (sts kV).toArray 9))).dw hd2 (fun b off e => by cases e; omega))
  have HV2 := Lib.hid ((HRv.out.dw hd2 (fun b off e => by cases e; omega)).takeS j)
  have hj3 : (j : Int) ≤ 3 := by omega
  clear hd2 hr1 HRv HX1 HR1
  go_wp2_with (fail)
  have HRo := Lib.hid (rd_litS w2 kO 9 (by decide))
  have hs2 := HS2.out.g.size
  have hs12 := Lib.hid hs2
  refine (c_NextD B 2 _ (HS2.out.alloc hBl _).s (by omega)).mono ?_
  rintro e w3 ⟨r, rfl, hp0, hr1, _, hd3⟩
  have hp2 := hr1 (by omega)
  obtain ⟨o, rfl⟩ : ∃ o : Nat, r = o := ⟨r.toNat, by omega⟩
  have HS3 := Lib.hid ((HS2.out.alloc hBl (.cells (sts kO).toArray 9)).then_ hd3)
  have HX3 := Lib.hid (hd3.own2 (own_below HX2.out (below_alloc (Below.refl _ _) (.cells (sts kO).toArray 9))) (fun q hq e => by simp only [Value.ownBlock, Option.some.injEq] at hq; omega))
  have HI3 := Lib.hid ((HR2.out.below (below_alloc (Below.refl _ _) (.cells (sts kO).toArray 9))).dw hd3 (fun b off e => by cases e; omega))
  have HV3 := Lib.hid ((HV2.out.below (below_alloc (Below.refl _ _) (.cells (sts kO).toArray 9))).dw hd3 (fun b off e => by cases e; omega))
  have HO3 := Lib.hid ((HRo.out.dw hd3 (fun b off e => by cases e; omega)).takeS (1 + o))
  have ho2 : (1 : Int) + o ≤ 2 := by omega
  have ho0 : (0 : Int) ≤ 1 + (o : Int) := by omega
  clear hd3 hr1 HRo HX2 HR2 HV2
  have HE3 := Lib.hid (show (w3.alloc (.cells #[] 9)).ownsRow w3.heap.size 9 1 (.slice (some ⟨w3.heap.size, 0, none⟩) 0 0) 0 (sts []) by
    have h := World.ownsRow_lit (e := 9) (size := 1) (base := w3.heap.size) w3 #[] 0 (Nat.le_refl _) (by decide) (by simp)
    simpa [sts] using h)
  have HLI := Lib.hid (show 1 + i = (kI.take (1 + i)).length by rw [List.length_take]; show 1 + i = min (1 + i) 3; omega)
  have HLV := Lib.hid (show j = (kV.take j).length by rw [List.length_take]; show j = min j 3; omega)
  have HLO := Lib.hid (show 1 + o = (kO.take (1 + o)).length by rw [List.length_take]; show 1 + o = min (1 + o) 2; omega)
  have hs3 := HS3.out.g.size
  go_wp2_with (first
    | (at_builtin
       refine app_strs _ rfl (.tmp 25) (.tmp 26) rfl w3.heap.size _ 0 [] rfl HE3.out (some ⟨w.heap.size + 1, 0, none⟩) (1 + i) 3 (kI.take (1 + i)) rfl HLI.out (HI3.out.below (below_alloc (Below.refl _ _) _)) (fun e => by cases e) (by omega) (by simp) ?_
       intro v4 w4 hown hgrow
       have HN4 := Lib.hid hown
       have HG4 := Lib.hid (below_of_grown (below_alloc (Below.refl w3.heap.size w3) _) hgrow (fun q hq => by cases hq; exact Nat.le_refl _))
       clear hown hgrow)
    | (at_builtin
       refine app_strs _ rfl (.tmp 27) (.tmp 28) rfl w3.heap.size v4 (0 + (1 + i)) ([] ++ kI.take (1 + i)) rfl HN4.out (some ⟨w1.heap.size, 0, none⟩) j 3 (kV.take j) rfl HLV.out (HV3.out.below HG4.out) (fun e => by cases e) (by omega) HG4.out.size ?_
       intro v5 w5 hown hgrow
       rw [Nat.zero_add] at hown
       have HN5 := Lib.hid hown
       have HG5 := Lib.hid (below_of_grown HG4.out hgrow (fun q hq => (HN4.out.lt q hq).1))
       have HE5 := Lib.hid (own_lit0 w5)
       clear hown hgrow HN4 HG4)
    | (at_builtin
       refine app_strs _ rfl (.tmp 30) (.tmp 31) rfl w5.heap.size _ 0 [] rfl HE5.out (some ⟨w1.heap.size, 0, none⟩) j 3 (kV.take j) rfl HLV.out ((HV3.out.below HG5.out).below (below_alloc (Below.refl _ _) _)) (fun e => by cases e) (by omega) (by simp) ?_
       intro v6 w6 hown hgrow
       have HN6 := Lib.hid hown
       have HG6 := Lib.hid (below_of_grown (below_alloc (Below.refl w5.heap.size w5) _) hgrow (fun q hq => by cases hq; exact Nat.le_refl _))
       clear hown hgrow)
    | (at_builtin
       refine app_strs _ rfl (.tmp 32) (.tmp 33) rfl w5.heap.size v6 (0 + j) ([] ++ kV.take j) rfl HN6.out (some ⟨w2.heap.size, 0, none⟩) (1 + o) 2 (kO.take (1 + o)) rfl HLO.out ((HO3.out.below HG5.out).below HG6.out) (fun e => by cases e) (by omega) HG6.out.size ?_
       intro v7 w7 hown hgrow
       rw [Nat.zero_add] at hown
       have HN7 := Lib.hid hown
       have HG7 := Lib.hid (below_of_grown HG6.out hgrow (fun q hq => (HN6.out.lt q hq).1))
       clear hown hgrow HN6 HG6)
    )
  obtain ⟨A7, c7, rfl⟩ := own_shape HN7.out
  obtain ⟨A5, c5, rfl⟩ := own_shape HN5.out
  have HBS := Lib.hid (show w.heap.size < w3.heap.size from Nat.lt_of_lt_of_le (own_ge HX3.out).2 (Nat.le_refl _))
  have hB3 : B < w3.heap.size := Nat.lt_trans hBl HBS.out
  have HDW5 := Lib.hid ((DW.start HS3.out.s).below hB3 HG5.out)
  have HDW7 := Lib.hid (HDW5.out.below hB3 HG7.out)
  have HNM7 := Lib.hid (own_below HN5.out HG7.out)
  have HT7 := Lib.hid (own_mono HN7.out HG5.out.size)
  generalize hnm : [] ++ List.take (1 + i) kI ++ List.take j kV = NM at *
  generalize htg : [] ++ List.take j kV ++ List.take (1 + o) kO = TG at *
  have HTS : Hid (∀ s ∈ TG, s.size ≤ 1048576) := Lib.hid (by
    intro s hs
    rw [← htg] at hs
    rcases List.mem_append.1 hs with hs | hs
    · rcases List.mem_append.1 hs with hs | hs
      · cases hs
      · exact kV_sz s (List.mem_of_mem_take hs)
    · exact kO_sz s (List.mem_of_mem_take hs))
  have HNS : Hid (∀ s ∈ NM, s.size ≤ 1048576) := Lib.hid (by
    intro s hs
    rw [← hnm] at hs
    rcases List.mem_append.1 hs with hs | hs
    · rcases List.mem_append.1 hs with hs | hs
      · cases hs
      · exact kI_sz s (List.mem_of_mem_take hs)
    · exact kV_sz s (List.mem_of_mem_take hs))
  have HTL : Hid (TG.length = j + (1 + o)) := Lib.hid (by have := HT7.out.1; rw [sts_length] at this; omega)
  have HNL : Hid (NM.length = 1 + i + j) := Lib.hid (by have := HNM7.out.1; rw [sts_length] at this; omega)
  have HLE : Hid ((w7.alloc (.cells #[] 80)).ownsRow w3.heap.size 80 2 (.slice (some ⟨w7.heap.size, 0, none⟩) 0 0) 0 (lidCells [])) := Lib.hid (by
    have h := World.ownsRow_lit (e := 80) (size := 2) (base := w7.heap.size) w7 #[] 0 (Nat.le_refl _) (by decide) (by simp)
    exact own_mono (by simpa [lidCells] using h) (Nat.le_trans HG5.out.size HG7.out.size))
  have BL := below_alloc (Below.refl w7.heap.size w7) (.cells #[] 80)
  have HT8 := Lib.hid (own_below HT7.out BL)
  have HN8 := Lib.hid (own_below HNM7.out BL)
  have HD8 := Lib.hid (HDW7.out.below hB3 BL)
  have HTB := Lib.hid (fun q hq => (HT7.out.lt q hq).2)
  have HNB := Lib.hid (fun q hq => (HNM7.out.lt q hq).2)
  clear htg hnm BL HT7 HNM7 HDW7 HDW5 HN5 HN7 HE3 HE5 HG5 HG7
  go_loopw [7, 8, 9] (fun tv lv _ wr => ∃ (m q : Nat) (T : List ByteArray) (ds : List LiD) (AT AL : Option Addr) (cT cL : Nat), m + q ≤ 6 ∧ 1 ≤ m + q ∧ tv = .slice AT m cT ∧ lv = .slice AL q cL ∧ Hid (T.length = m) ∧ Hid (ds.length = q)
      ∧ Hid (wr.ownsRow w3.heap.size 9 1 (.slice AT m cT) m (sts T)) ∧ Hid (wr.ownsRow w3.heap.size 80 2 (.slice AL q cL) q (lidCells ds))
      ∧ Hid (∀ d ∈ ds, NestT wr w3.heap.size d ∧ d.l.tg.size ≤ 1048576 ∧ d.l.ts.length ≤ 31 ∧ ∀ t ∈ d.l.ts, t.nm.size ≤ 1048576 ∧ 1 ≤ t.k ∧ t.k ≤ 12)
      ∧ Hid (∀ s ∈ T, s.size ≤ 1048576)
      ∧ Hid (wr.ownsRow w3.heap.size 9 1 (.slice A5 (1 + i + j) c5) (1 + i + j) (sts NM))
      ∧ Hid (∀ b, (Value.slice AL q cL).ownBlock = some b → (Value.slice AT m cT).ownBlock ≠ some b ∧ (Value.slice A5 (1 + i + j) c5).ownBlock ≠ some b ∧ ∀ d ∈ ds, d.v.ownBlock ≠ some b)
      ∧ Hid (DW B w3 wr)) (fun tv _ _ _ => lenV tv)
  case atStart =>
    refine ⟨j + (1 + o), 0, TG, [], A7, _, c7, _, by omega, by omega, rfl, rfl, HTL, Lib.hid rfl, HT8, HLE, Lib.hid (fun d hd => by cases hd), HTS, HN8, Lib.hid (fun b hb => ?_), HD8⟩
    cases hb
    exact ⟨fun e => absurd (HTB.out _ e) (Nat.lt_irrefl _), fun e => absurd (HNB.out _ e) (Nat.lt_irrefl _), fun d hd => by cases hd⟩
  case round =>
    clear HLE HT8 HN8 HD8 HTB HNB HTS HTL
    obtain ⟨m, q, T, ds, AT, AL, cT, cL, hmq, hmq1, rfl, rfl, htl, hql, hot, hol, hds, hts, hon, hsep, hdw⟩ := hrel
    by_cases hm0 : 0 < m
    · have hm1 : (0 : Int) < (m : Int) := by omega
      go_wp2_with (fail)
      refine (c_NextD B m _ hdw.out.s (by omega)).mono ?_
      rintro e w8 ⟨r, rfl, hr0, hr1, _, hd8⟩
      have hrm : r < m := hr1 (by omega)
      obtain ⟨k, rfl⟩ : ∃ k : Nat, r = k := ⟨r.toNat, by omega⟩
      have hkm : k < m := by omega
      obtain ⟨tb, c9, e9, _, _⟩ := hot.out.form (by omega)
      simp only [Value.slice.injEq, true_and] at e9
      obtain ⟨rfl, rfl⟩ := e9
      have HDW8 := Lib.hid (hdw.out.then_ hd8)
      have HT8 := Lib.hid (hd8.own hot.out hB3)
      have HL8 := Lib.hid (hd8.own hol.out hB3)
      have HN8 := Lib.hid (hd8.own hon.out hB3)
      have HE8 := Lib.hid (fun d (hd : d ∈ ds) => hd8.own (hds.out d hd).1 hB3)
      have HEZ := Lib.hid (fun d (hd : d ∈ ds) => (hds.out d hd).2)
      have HB8 : B < w8.heap.size := by have := HDW8.out.g.size; omega
      obtain ⟨x, hx⟩ : ∃ x, T[k]? = some x := ⟨_, List.getElem?_eq_getElem (by have := htl.out; omega)⟩
      have HXZ := Lib.hid (hts.out x (List.mem_of_getElem? hx))
      obtain ⟨b, off, e, _, g0⟩ := (Rd.own HT8.out).st hx
      simp only [Option.some.injEq, Addr.mk.injEq, and_true] at e
      obtain ⟨rfl, rfl⟩ := e
      simp only [Nat.zero_add] at g0
      have htbB : w3.heap.size ≤ tb := (HT8.out.lt tb rfl).1
      clear hd8 hdw hot hol hon hds hx hr0 hr1
      go_wp2_with (fail)
      refine wp_region_held_drew (S := (fun w' => w'.cell? ⟨tb, k, none⟩ = some (.string x))) (by kernel_rfl) ?_ (fun hHeld => ?_)
      · exact g0
      refine rg_take (v := ?_) 0 rfl (by kernel_rfl) (by kernel_rfl) (by kernel_rfl) (fun _ _ _ h => h) (by kernel_rfl) ?_ (by assumption) ?_
      rotate_left
      · (intro w' hSw; (try dsimp only at hSw); go_simp; first | done | with_reducible rfl)
      simp only [Act.put, List.setIfInBounds_toArray, List.set_cons_zero, List.set_cons_succ]
      refine rg_take (v := ?_) 1 rfl (by kernel_rfl) (by kernel_rfl) (by kernel_rfl) (fun _ _ _ h => h) (by kernel_rfl) ?_ (by assumption) ?_
      rotate_left
      · (intro w' hSw; (try dsimp only at hSw); go_simp; first | done | with_reducible rfl)
      simp only [Act.put, List.setIfInBounds_toArray, List.set_cons_zero, List.set_cons_succ]
      refine rg_take (v := ?_) 2 rfl (by kernel_rfl) (by kernel_rfl) (by kernel_rfl) (fun _ _ _ h => h) (by kernel_rfl) ?_ (by assumption) ?_
      rotate_left
      · (intro w' hSw; (try dsimp only at hSw); go_simp; first | done | with_reducible rfl)
      simp only [Act.put, List.setIfInBounds_toArray, List.set_cons_zero, List.set_cons_succ]
      refine rg_take (v := ?_) 3 rfl (by kernel_rfl) (by kernel_rfl) (by kernel_rfl) (fun _ _ _ h => h) (by kernel_rfl) ?_ (by assumption) ?_
      rotate_left
      · (intro w' hSw; (try dsimp only at hSw); go_simp; first | done | with_reducible rfl)
      simp only [Act.put, List.setIfInBounds_toArray, List.set_cons_zero, List.set_cons_succ]
      refine rg_take (v := ?_) 4 rfl (by kernel_rfl) (by kernel_rfl) (by kernel_rfl) (fun _ _ _ h => h) (by kernel_rfl) ?_ (by assumption) ?_
      rotate_left
      · (intro w' hSw; (try dsimp only at hSw); go_simp; first | done | with_reducible rfl)
      simp only [Act.put, List.setIfInBounds_toArray, List.set_cons_zero, List.set_cons_succ]
      refine rg_take (v := ?_) 5 rfl (by kernel_rfl) (by kernel_rfl) (by kernel_rfl) (fun _ _ _ h => h) (by kernel_rfl) ?_ (by assumption) ?_
      rotate_left
      · (intro w' hSw; (try dsimp only at hSw); go_simp; first | done | with_reducible rfl)
      simp only [Act.put, List.setIfInBounds_toArray, List.set_cons_zero, List.set_cons_succ]
      refine rg_take (v := ?_) 6 rfl (by kernel_rfl) (by kernel_rfl) (by kernel_rfl) (fun _ _ _ h => h) (by kernel_rfl) ?_ (by assumption) ?_
      rotate_left
      · (intro w' hSw; (try dsimp only at hSw); go_simp; first | done | with_reducible rfl)
      simp only [Act.put, List.setIfInBounds_toArray, List.set_cons_zero, List.set_cons_succ]
      refine rg_take (v := ?_) 7 rfl (by kernel_rfl) (by kernel_rfl) (by kernel_rfl) (fun _ _ _ h => h) (by kernel_rfl) ?_ (by assumption) ?_
      rotate_left
      · (intro w' hSw; (try dsimp only at hSw); go_simp; first | done | with_reducible rfl)
      simp only [Act.put, List.setIfInBounds_toArray, List.set_cons_zero, List.set_cons_succ]
      refine rg_run 8 rfl (by kernel_rfl) (by kernel_rfl) (fun K hK => ?_)
      go_simp
      refine (c_NextD B 4 _ HDW8.out.s.drew (by omega)).mono ?_
      rintro e w9 ⟨r9, rfl, hq0, hq1, _, hd9⟩
      have hq2 := hq1 (by omega)
      obtain ⟨dp, rfl⟩ : ∃ dp : Nat, r9 = dp := ⟨r9.toNat, by omega⟩
      have hd89 := ((DW.start HDW8.out.s).drew HB8).then_ hd9
      have HDW9 := Lib.hid (HDW8.out.then_ hd89)
      have HT9 := Lib.hid (hd89.own HT8.out hB3)
      have HL9 := Lib.hid (hd89.own HL8.out hB3)
      have HN9 := Lib.hid (hd89.own HN8.out hB3)
      have HE9 := Lib.hid (fun d (hd : d ∈ ds) => hd89.own (HE8.out d hd) hB3)
      replace g0 := hd89.cell g0 (by omega)
      clear hd9 hd89 HT8 HL8 HN8 HE8 hq0 hq1 HDW8
      go_wp2
      clear hHeld
      refine hK.out _ _ (by exact g0) (fun hHeld => ?_)
      clear hK K
      try simp only [Act.put, List.setIfInBounds_toArray, List.set_cons_zero, List.set_cons_succ]
      refine rg_run 9 rfl (by kernel_rfl) (by kernel_rfl) (fun K hK => ?_)
      go_simp
      refine (c_DrawTerms B dp A5 _ c5 NM _ HDW9.out.s (by omega) (by have := HNL.out; omega) (by omega) (by omega) (Rd.own HN9.out) (fun b off e => by have := (HN9.out.lt b (by rw [e]; rfl)).1; omega) HNS.out).mono ?_
      rintro e w10 ⟨g, n, ct, us, rfl, hnt, h1n, hbd, ho, hnm, hd10⟩
      have hfd := fT_le (d := dp) (by omega)
      have HDW10 := Lib.hid (HDW9.out.then_ hd10)
      have HT10 := Lib.hid (hd10.own HT9.out hB3)
      have HL10 := Lib.hid (hd10.own HL9.out hB3)
      have HN10 := Lib.hid (hd10.own HN9.out hB3)
      have HE10 := Lib.hid (fun d (hd : d ∈ ds) => hd10.own (HE9.out d hd) hB3)
      have HU10 := Lib.hid (own_mono ho HDW9.out.g.size)
      have HNT := Lib.hid hnt
      have HNM := Lib.hid hnm
      have HS1 : Hid (∀ b, (Value.slice AL q cL).ownBlock = some b → (Value.slice (some ⟨g, 0, none⟩) n ct).ownBlock ≠ some b) := Lib.hid (fun b hb e => by
        have h1 := (HL9.out.lt b hb).2
        have h2 := (ho.lt b e).1
        omega)
      replace g0 := hd10.cell g0 (by omega)
      clear hd10 HT9 HL9 HN9 HE9 hnt hnm ho HDW9
      go_wp2
      clear hHeld
      refine hK.out _ _ (by exact g0) (fun hHeld => ?_)
      clear hK K
      try simp only [Act.put, List.setIfInBounds_toArray, List.set_cons_zero, List.set_cons_succ]
      refine rg_take (v := ?_) 10 rfl (by kernel_rfl) (by kernel_rfl) (by kernel_rfl) (fun _ _ _ h => h) (by kernel_rfl) ?_ (by assumption) ?_
      rotate_left
      · (intro w' hSw; (try dsimp only at hSw); go_simp; first | done | with_reducible rfl)
      simp only [Act.put, List.setIfInBounds_toArray, List.set_cons_zero, List.set_cons_succ]
      refine rg_run 11 rfl (by kernel_rfl) (by kernel_rfl) (fun K hK => ?_)
      go_simp
      have BA := below_alloc (Below.refl w10.heap.size w10) (.cells #[.string x, .slice (some ⟨g, 0, none⟩) n ct] 80)
      replace g0 := cell_later BA g0
      clear hHeld
      refine hK.out _ _ (by exact g0) (fun hHeld => ?_)
      clear hK K
      try simp only [Act.put, List.setIfInBounds_toArray, List.set_cons_zero, List.set_cons_succ]
      refine rg_run 12 rfl (by kernel_rfl) (by kernel_rfl) (fun K hK => ?_)
      refine wp_push_ln _ (.tmp 43) (.tmp 54) rfl w3.heap.size (.slice AL q cL) q ds ⟨⟨x, us⟩, some ⟨g, 0, none⟩, ct⟩ w10.heap.size 1 rfl (own_below HL10.out BA) rfl (by go_simp) (by show _ = some (Value.slice (some ⟨g, 0, none⟩) us.length ct); rw [← HNT.out]; go_simp) (by omega) (by have := HDW10.out.g.size; simp; omega) ?_
      intro v11 w11 hown hgrow hbl
      obtain ⟨A11, c11, rfl⟩ := own_shape hown
      have HSL := Lib.hid (fun b hb => hsep.out b hb)
      have HT11 := Lib.hid (kept_sep (own_below HT10.out BA) hgrow (fun b hb => (hsep.out b hb).1))
      have HN11 := Lib.hid (kept_sep (own_below HN10.out BA) hgrow (fun b hb => (hsep.out b hb).2.1))
      have HE11 := Lib.hid (fun d (hd : d ∈ ds) => kept_sep (own_below (HE10.out d hd) BA) hgrow (fun b hb => (hsep.out b hb).2.2 d hd))
      have HU11 := Lib.hid (kept_sep (own_below HU10.out BA) hgrow HS1.out)
      have HL11 := Lib.hid hown
      have HDW11 := Lib.hid ((HDW10.out.below hB3 BA).far hB3 hgrow (fun q hq => (HL10.out.lt q hq).1))
      have HQN := Lib.hid (sep_next hbl (fun b hb => (hsep.out b hb).2.1) (fun b hb => by have := (HN10.out.lt b hb).2; simp; omega))
      have HQU := Lib.hid (sep_next hbl HS1.out (fun b hb => by have := (HU10.out.lt b hb).2; simp; omega))
      have HQE := Lib.hid (fun d (hd : d ∈ ds) => sep_next hbl (fun b hb => (hsep.out b hb).2.2 d hd) (fun b hb => by have := ((HE10.out d hd).lt b hb).2; simp; omega))
      replace g0 := hgrow.cell g0 (fun e => (hsep.out tb e.symm).1 rfl)
      clear hown hgrow hbl HSL HT10 HN10 HE10 HU10 HL10 HDW10 HS1 hsep BA
      clear hHeld
      refine hK.out _ _ (by exact g0) (fun hHeld => ?_)
      clear hK K
      try simp only [Act.put, List.setIfInBounds_toArray, List.set_cons_zero, List.set_cons_succ]
      refine rg_take (v := ?_) 13 rfl (by kernel_rfl) (by kernel_rfl) (by kernel_rfl) (fun _ _ _ h => h) (by kernel_rfl) ?_ (by assumption) ?_
      rotate_left
      · (intro w' hSw; (try dsimp only at hSw); go_simp; first | done | with_reducible rfl)
      simp only [Act.put, List.setIfInBounds_toArray, List.set_cons_zero, List.set_cons_succ]
      refine wpAnyH_done (by kernel_rfl) ?_ _
      clear hHeld
      have hct := (own_cap HT11.out).1
      have hk0 : (0 : Int) ≤ (k : Int) := by omega
      have hkc : (k : Int) ≤ cT := by omega
      have hk1 : (0 : Int) ≤ (k : Int) + 1 := by omega
      have hk2 : (k : Int) + 1 ≤ m := by omega
      have hk3 : (m : Int) ≤ cT := by omega
      have hk4 : (k : Int) + 1 ≤ cT := by omega
      have hk5 : IntKind.i64.wrap ((k : Int) + 1) = (k : Int) + 1 := IntWalk.i64_in _ (by omega)
      have hk6 : ((k : Int) + 1).toNat = k + 1 := by omega
      clear g0
      by_cases hck : cT = k + 1
      · obtain rfl : m = k + 1 := by omega
        subst hck
        have hk7 : (k : Int) ≤ (k : Int) + 1 := by omega
        go_wp2_with (fail)
        refine wp_region_held_drew (S := (fun _ => True)) (by kernel_rfl) ?_ (fun hHeld => ?_)
        · exact trivial
        refine rg_take (v := ?_) 1 rfl (by kernel_rfl) (by kernel_rfl) (by kernel_rfl) (fun _ _ _ h => h) (by kernel_rfl) ?_ (by assumption) ?_
        rotate_left
        · (intro w' hSw; (try dsimp only at hSw); go_simp; first | done | with_reducible rfl)
        simp only [Act.put, List.setIfInBounds_toArray, List.set_cons_zero, List.set_cons_succ]
        refine rg_take (v := ?_) 2 rfl (by kernel_rfl) (by kernel_rfl) (by kernel_rfl) (fun _ _ _ h => h) (by kernel_rfl) ?_ (by assumption) ?_
        rotate_left
        · (intro w' hSw; (try dsimp only at hSw); go_simp; first | done | with_reducible rfl)
        simp only [Act.put, List.setIfInBounds_toArray, List.set_cons_zero, List.set_cons_succ]
        refine rg_take (v := ?_) 3 rfl (by kernel_rfl) (by kernel_rfl) (by kernel_rfl) (fun _ _ _ h => h) (by kernel_rfl) ?_ (by assumption) ?_
        rotate_left
        · (intro w' hSw; (try dsimp only at hSw); go_simp; first | done | with_reducible rfl)
        simp only [Act.put, List.setIfInBounds_toArray, List.set_cons_zero, List.set_cons_succ]
        refine rg_take (v := ?_) 5 rfl (by kernel_rfl) (by kernel_rfl) (by kernel_rfl) (fun _ _ _ h => h) (by kernel_rfl) ?_ (by assumption) ?_
        rotate_left
        · (intro w' hSw; (try dsimp only at hSw); go_simp; first | done | with_reducible rfl)
        simp only [Act.put, List.setIfInBounds_toArray, List.set_cons_zero, List.set_cons_succ]
        refine rg_take (v := ?_) 6 rfl (by kernel_rfl) (by kernel_rfl) (by kernel_rfl) (fun _ _ _ h => h) (by kernel_rfl) ?_ (by assumption) ?_
        rotate_left
        · (intro w' hSw; (try dsimp only at hSw); go_simp; first | done | with_reducible rfl)
        simp only [Act.put, List.setIfInBounds_toArray, List.set_cons_zero, List.set_cons_succ]
        refine rg_take (v := ?_) 7 rfl (by kernel_rfl) (by kernel_rfl) (by kernel_rfl) (fun _ _ _ h => h) (by kernel_rfl) ?_ (by assumption) ?_
        rotate_left
        · (intro w' hSw; (try dsimp only at hSw); go_simp; first | done | with_reducible rfl)
        simp only [Act.put, List.setIfInBounds_toArray, List.set_cons_zero, List.set_cons_succ]
        refine rg_take (v := ?_) 8 rfl (by kernel_rfl) (by kernel_rfl) (by kernel_rfl) (fun _ _ _ h => h) (by kernel_rfl) ?_ (by assumption) ?_
        rotate_left
        · (intro w' hSw; (try dsimp only at hSw); go_simp; first | done | with_reducible rfl)
        simp only [Act.put, List.setIfInBounds_toArray, List.set_cons_zero, List.set_cons_succ]
        refine rg_run 0 rfl (by kernel_rfl) (by kernel_rfl) (fun K hK => ?_)
        go_simp
        clear hHeld
        refine hK.out _ _ trivial (fun hHeld => ?_)
        clear hK K
        try simp only [Act.put, List.setIfInBounds_toArray, List.set_cons_zero, List.set_cons_succ]
        refine rg_run 4 rfl (by kernel_rfl) (by kernel_rfl) (fun K hK => ?_)
        have BA := below_alloc (Below.refl w11.heap.size w11).drew (.cells #[] 9)
        refine wp_app_strs _ (.tmp 56) (.tmp 59) rfl w11.heap.size _ 0 [] rfl (own_lit0 w11.drew) ⟨tb, 0, none⟩ k (k + 1) (T.take k) rfl (by rw [List.length_take, htl.out]; omega) (rd_take ((Rd.own HT11.out).below BA) k) (by omega) (by simp) ?_
        intro v12 w12 hown hgrow
        have HB12 := Lib.hid (below_of_grown BA hgrow (fun q hq => by cases hq; exact Nat.le_refl _))
        have HO12 := Lib.hid hown
        clear hown hgrow BA
        clear hHeld
        refine hK.out _ _ trivial (fun hHeld => ?_)
        clear hK K
        try simp only [Act.put, List.setIfInBounds_toArray, List.set_cons_zero, List.set_cons_succ]
        refine rg_run 9 rfl (by kernel_rfl) (by kernel_rfl) (fun K hK => ?_)
        refine wp_app_strs _ (.tmp 60) (.tmp 64) rfl w11.heap.size v12 (0 + k) ([] ++ T.take k) rfl HO12.out ⟨tb, 0, none⟩ 0 0 [] rfl rfl (.inl rfl) (by omega) HB12.out.size ?_
        intro v13 w13 hown hgrow
        have HB13 := Lib.hid (below_of_grown HB12.out hgrow (fun q hq => (HO12.out.lt q hq).1))
        rw [show 0 + k + 0 = k by omega] at hown
        obtain ⟨A13, c13, rfl⟩ := own_shape hown
        have HO13 := Lib.hid hown
        clear hown hgrow HO12 HB12
        clear hHeld
        refine hK.out _ _ trivial (fun hHeld => ?_)
        clear hK K
        try simp only [Act.put, List.setIfInBounds_toArray, List.set_cons_zero, List.set_cons_succ]
        refine rg_take (v := ?_) 10 rfl (by kernel_rfl) (by kernel_rfl) (by kernel_rfl) (fun _ _ _ h => h) (by kernel_rfl) ?_ (by assumption) ?_
        rotate_left
        · (intro w' hSw; (try dsimp only at hSw); go_simp; first | done | with_reducible rfl)
        simp only [Act.put, List.setIfInBounds_toArray, List.set_cons_zero, List.set_cons_succ]
        refine wpAnyH_done (by kernel_rfl) ?_ _
        clear hHeld
        go_wp2
        go_roundw
        case rel =>
          refine ⟨k, q + 1, ([] ++ T.take k ++ []), ds ++ [⟨⟨x, us⟩, some ⟨g, 0, none⟩, ct⟩], A13, A11, c13, c11, by omega, by omega, rfl, rfl, Lib.hid (by have := HO13.out.1; rw [sts_length] at this; omega), Lib.hid (by rw [List.length_append, hql.out]; rfl), Lib.hid (own_mono HO13.out HDW11.out.g.size), Lib.hid (own_below HL11.out HB13.out), Lib.hid (fun d hd => ?_), Lib.hid (fun s hs => ?_), Lib.hid (own_below HN11.out HB13.out), Lib.hid (fun b hb => ⟨fun e => ?_, HQN.out b hb, fun d hd => ?_⟩), Lib.hid (HDW11.out.below hB3 HB13.out)⟩
          · rcases List.mem_append.1 hd with hd | hd
            · exact ⟨own_below (HE11.out d hd) HB13.out, HEZ.out d hd⟩
            · rw [List.mem_singleton] at hd
              subst hd
              refine ⟨?_, HXZ.out, by show us.length ≤ _; rw [← HNT.out]; omega, HNM.out⟩
              show w13.ownsRow _ _ 3 (Value.slice (some ⟨g, 0, none⟩) us.length ct) us.length _
              rw [← HNT.out]
              exact own_below HU11.out HB13.out
          · rcases List.mem_append.1 hs with hs | hs
            · rcases List.mem_append.1 hs with hs | hs
              · cases hs
              · exact hts.out s (List.mem_of_mem_take hs)
            · cases hs
          · have h1 := (HO13.out.lt b e).1
            have h2 := (HL11.out.lt b hb).2
            omega
          · rcases List.mem_append.1 hd with hd | hd
            · exact HQE.out d hd b hb
            · rw [List.mem_singleton] at hd
              subst hd
              intro e
              refine HQU.out b hb ?_
              exact e
        case measure => simp [lenV] <;> omega
      · skip
        go_wp2_with (fail)
        refine wp_region_held_drew (S := (fun _ => True)) (by kernel_rfl) ?_ (fun hHeld => ?_)
        · exact trivial
        refine rg_take (v := ?_) 1 rfl (by kernel_rfl) (by kernel_rfl) (by kernel_rfl) (fun _ _ _ h => h) (by kernel_rfl) ?_ (by assumption) ?_
        rotate_left
        · (intro w' hSw; (try dsimp only at hSw); go_simp; first | done | with_reducible rfl)
        simp only [Act.put, List.setIfInBounds_toArray, List.set_cons_zero, List.set_cons_succ]
        refine rg_take (v := ?_) 2 rfl (by kernel_rfl) (by kernel_rfl) (by kernel_rfl) (fun _ _ _ h => h) (by kernel_rfl) ?_ (by assumption) ?_
        rotate_left
        · (intro w' hSw; (try dsimp only at hSw); go_simp; first | done | with_reducible rfl)
        simp only [Act.put, List.setIfInBounds_toArray, List.set_cons_zero, List.set_cons_succ]
        refine rg_take (v := ?_) 3 rfl (by kernel_rfl) (by kernel_rfl) (by kernel_rfl) (fun _ _ _ h => h) (by kernel_rfl) ?_ (by assumption) ?_
        rotate_left
        · (intro w' hSw; (try dsimp only at hSw); go_simp; first | done | with_reducible rfl)
        simp only [Act.put, List.setIfInBounds_toArray, List.set_cons_zero, List.set_cons_succ]
        refine rg_take (v := ?_) 5 rfl (by kernel_rfl) (by kernel_rfl) (by kernel_rfl) (fun _ _ _ h => h) (by kernel_rfl) ?_ (by assumption) ?_
        rotate_left
        · (intro w' hSw; (try dsimp only at hSw); go_simp; first | done | with_reducible rfl)
        simp only [Act.put, List.setIfInBounds_toArray, List.set_cons_zero, List.set_cons_succ]
        refine rg_take (v := ?_) 6 rfl (by kernel_rfl) (by kernel_rfl) (by kernel_rfl) (fun _ _ _ h => h) (by kernel_rfl) ?_ (by assumption) ?_
        rotate_left
        · (intro w' hSw; (try dsimp only at hSw); go_simp; first | done | with_reducible rfl)
        simp only [Act.put, List.setIfInBounds_toArray, List.set_cons_zero, List.set_cons_succ]
        refine rg_take (v := ?_) 7 rfl (by kernel_rfl) (by kernel_rfl) (by kernel_rfl) (fun _ _ _ h => h) (by kernel_rfl) ?_ (by assumption) ?_
        rotate_left
        · (intro w' hSw; (try dsimp only at hSw); go_simp; first | done | with_reducible rfl)
        simp only [Act.put, List.setIfInBounds_toArray, List.set_cons_zero, List.set_cons_succ]
        refine rg_take (v := ?_) 8 rfl (by kernel_rfl) (by kernel_rfl) (by kernel_rfl) (fun _ _ _ h => h) (by kernel_rfl) ?_ (by assumption) ?_
        rotate_left
        · (intro w' hSw; (try dsimp only at hSw); go_simp; first | done | with_reducible rfl)
        simp only [Act.put, List.setIfInBounds_toArray, List.set_cons_zero, List.set_cons_succ]
        refine rg_run 0 rfl (by kernel_rfl) (by kernel_rfl) (fun K hK => ?_)
        go_simp
        clear hHeld
        refine hK.out _ _ trivial (fun hHeld => ?_)
        clear hK K
        try simp only [Act.put, List.setIfInBounds_toArray, List.set_cons_zero, List.set_cons_succ]
        refine rg_run 4 rfl (by kernel_rfl) (by kernel_rfl) (fun K hK => ?_)
        have BA := below_alloc (Below.refl w11.heap.size w11).drew (.cells #[] 9)
        refine wp_app_strs _ (.tmp 56) (.tmp 59) rfl w11.heap.size _ 0 [] rfl (own_lit0 w11.drew) ⟨tb, 0, none⟩ k cT (T.take k) rfl (by rw [List.length_take, htl.out]; omega) (rd_take ((Rd.own HT11.out).below BA) k) (by omega) (by simp) ?_
        intro v12 w12 hown hgrow
        have HB12 := Lib.hid (below_of_grown BA hgrow (fun q hq => by cases hq; exact Nat.le_refl _))
        have HO12 := Lib.hid hown
        clear hown hgrow BA
        clear hHeld
        refine hK.out _ _ trivial (fun hHeld => ?_)
        clear hK K
        try simp only [Act.put, List.setIfInBounds_toArray, List.set_cons_zero, List.set_cons_succ]
        refine rg_run 9 rfl (by kernel_rfl) (by kernel_rfl) (fun K hK => ?_)
        refine wp_app_strs _ (.tmp 60) (.tmp 64) rfl w11.heap.size v12 (0 + k) ([] ++ T.take k) rfl HO12.out ⟨tb, k + 1, none⟩ (m - (k + 1)) (cT - (k + 1)) (T.drop (k + 1)) rfl (by rw [List.length_drop, htl.out]) (by have := rd_drop ((Rd.own HT11.out).below HB12.out) (k + 1); rwa [Nat.zero_add] at this) (by omega) HB12.out.size ?_
        intro v13 w13 hown hgrow
        have HB13 := Lib.hid (below_of_grown HB12.out hgrow (fun q hq => (HO12.out.lt q hq).1))
        rw [show 0 + k + (m - (k + 1)) = m - 1 by omega] at hown
        obtain ⟨A13, c13, rfl⟩ := own_shape hown
        have HO13 := Lib.hid hown
        clear hown hgrow HO12 HB12
        clear hHeld
        refine hK.out _ _ trivial (fun hHeld => ?_)
        clear hK K
        try simp only [Act.put, List.setIfInBounds_toArray, List.set_cons_zero, List.set_cons_succ]
        refine rg_take (v := ?_) 10 rfl (by kernel_rfl) (by kernel_rfl) (by kernel_rfl) (fun _ _ _ h => h) (by kernel_rfl) ?_ (by assumption) ?_
        rotate_left
        · (intro w' hSw; (try dsimp only at hSw); go_simp; first | done | with_reducible rfl)
        simp only [Act.put, List.setIfInBounds_toArray, List.set_cons_zero, List.set_cons_succ]
        refine wpAnyH_done (by kernel_rfl) ?_ _
        clear hHeld
        go_wp2
        go_roundw
        case rel =>
          refine ⟨m - 1, q + 1, ([] ++ T.take k ++ (T.drop (k + 1))), ds ++ [⟨⟨x, us⟩, some ⟨g, 0, none⟩, ct⟩], A13, A11, c13, c11, by omega, by omega, rfl, rfl, Lib.hid (by have := HO13.out.1; rw [sts_length] at this; omega), Lib.hid (by rw [List.length_append, hql.out]; rfl), Lib.hid (own_mono HO13.out HDW11.out.g.size), Lib.hid (own_below HL11.out HB13.out), Lib.hid (fun d hd => ?_), Lib.hid (fun s hs => ?_), Lib.hid (own_below HN11.out HB13.out), Lib.hid (fun b hb => ⟨fun e => ?_, HQN.out b hb, fun d hd => ?_⟩), Lib.hid (HDW11.out.below hB3 HB13.out)⟩
          · rcases List.mem_append.1 hd with hd | hd
            · exact ⟨own_below (HE11.out d hd) HB13.out, HEZ.out d hd⟩
            · rw [List.mem_singleton] at hd
              subst hd
              refine ⟨?_, HXZ.out, by show us.length ≤ _; rw [← HNT.out]; omega, HNM.out⟩
              show w13.ownsRow _ _ 3 (Value.slice (some ⟨g, 0, none⟩) us.length ct) us.length _
              rw [← HNT.out]
              exact own_below HU11.out HB13.out
          · rcases List.mem_append.1 hs with hs | hs
            · rcases List.mem_append.1 hs with hs | hs
              · cases hs
              · exact hts.out s (List.mem_of_mem_take hs)
            · exact hts.out s (List.mem_of_mem_drop hs)
          · have h1 := (HO13.out.lt b e).1
            have h2 := (HL11.out.lt b hb).2
            omega
          · rcases List.mem_append.1 hd with hd | hd
            · exact HQE.out d hd b hb
            · rw [List.mem_singleton] at hd
              subst hd
              intro e
              refine HQU.out b hb ?_
              exact e
        case measure => simp [lenV] <;> omega
    · obtain rfl : m = 0 := by omega
      have HIr := Lib.hid (HI3.out.dw hdw.out (fun b off e => by cases e; omega))
      have HVr := Lib.hid (HV3.out.dw hdw.out (fun b off e => by cases e; omega))
      have HOr := Lib.hid (HO3.out.dw hdw.out (fun b off e => by cases e; omega))
      have HEr := Lib.hid (own_lit0 wr)
      go_wp2_with (first
        | (at_builtin
           refine app_strs _ rfl (.tmp 66) (.tmp 67) rfl wr.heap.size _ 0 [] rfl HEr.out (some ⟨w.heap.size + 1, 0, none⟩) (1 + i) 3 (kI.take (1 + i)) rfl HLI.out (HIr.out.below (below_alloc (Below.refl _ _) _)) (fun e => by cases e) (by omega) (by simp) ?_
           intro v13 w13 hown hgrow
           rw [Nat.zero_add, List.nil_append] at hown
           obtain ⟨A13, c13, rfl⟩ := own_shape hown
           have HI13 := Lib.hid hown
           have HB13 := Lib.hid (below_of_grown (below_alloc (Below.refl wr.heap.size wr) _) hgrow (fun q hq => by cases hq; exact Nat.le_refl _))
           have HE13 := Lib.hid (own_lit0 w13)
           clear hown hgrow)
        | (at_builtin
           refine app_strs _ rfl (.tmp 69) (.tmp 70) rfl w13.heap.size _ 0 [] rfl HE13.out (some ⟨w1.heap.size, 0, none⟩) j 3 (kV.take j) rfl HLV.out ((HVr.out.below HB13.out).below (below_alloc (Below.refl _ _) _)) (fun e => by cases e) (by omega) (by simp) ?_
           intro v14 w14 hown hgrow
           rw [Nat.zero_add, List.nil_append] at hown
           obtain ⟨A14, c14, rfl⟩ := own_shape hown
           have HV14 := Lib.hid hown
           have HB14 := Lib.hid (below_of_grown (below_alloc (Below.refl w13.heap.size w13) _) hgrow (fun q hq => by cases hq; exact Nat.le_refl _))
           have HE14 := Lib.hid (own_lit0 w14)
           clear hown hgrow)
        | (at_builtin
           refine app_strs _ rfl (.tmp 72) (.tmp 73) rfl w14.heap.size _ 0 [] rfl HE14.out (some ⟨w2.heap.size, 0, none⟩) (1 + o) 2 (kO.take (1 + o)) rfl HLO.out (((HOr.out.below HB13.out).below HB14.out).below (below_alloc (Below.refl _ _) _)) (fun e => by cases e) (by omega) (by simp) ?_
           intro v15 w15 hown hgrow
           rw [Nat.zero_add, List.nil_append] at hown
           obtain ⟨A15, c15, rfl⟩ := own_shape hown
           have HO15 := Lib.hid hown
           have HB15 := Lib.hid (below_of_grown (below_alloc (Below.refl w14.heap.size w14) _) hgrow (fun q hq => by cases hq; exact Nat.le_refl _))
           clear hown hgrow)
        )
      have BA := below_alloc (Below.refl w15.heap.size w15) (.cells #[.string ⟨#[114, 105, 100, 101]⟩, .slice A13 (1 + i) c13, .slice A14 j c14, .slice A15 (1 + o) c15, .string ⟨#[]⟩, .slice AL q cL] 27)
      have HD15 := ((hdw.out.below hB3 HB13.out).below hB3 HB14.out).below hB3 HB15.out
      have hsr := hdw.out.g.size
      have hs13 := HB13.out.size
      have hs14 := HB14.out.size
      have hs15 := HB15.out.size
      have HD16 := Lib.hid (HD15.below hB3 BA)
      have HR16 : Hid (PRows (w15.alloc (.cells #[.string ⟨#[114, 105, 100, 101]⟩, .slice A13 (1 + i) c13, .slice A14 j c14, .slice A15 (1 + o) c15, .string ⟨#[]⟩, .slice AL q cL] 27)) w3.heap.size A13 A14 A15 AL c13 c14 c15 cL (1 + i) j (1 + o) q (kI.take (1 + i)) (kV.take j) (kO.take (1 + o)) ds) :=
        Lib.hid (PRows.below ⟨own_mono (own_below (own_below HI13.out HB14.out) HB15.out) hsr, own_mono (own_below HV14.out HB15.out) (by omega), own_mono HO15.out (by omega), own_below (own_below (own_below hol.out HB13.out) HB14.out) HB15.out, fun d hd => own_below (own_below (own_below (hds.out d hd).1 HB13.out) HB14.out) HB15.out⟩ BA)
      have HX16 := Lib.hid (HD16.out.own2 HX3.out (fun q hq e => by simp only [Value.ownBlock, Option.some.injEq] at hq; omega))
      have HP16 : Hid (PBox (w15.alloc (.cells #[.string ⟨#[114, 105, 100, 101]⟩, .slice A13 (1 + i) c13, .slice A14 j c14, .slice A15 (1 + o) c15, .string ⟨#[]⟩, .slice AL q cL] 27)) w3.heap.size w15.heap.size [.string ⟨#[114, 105, 100, 101]⟩, .slice A13 (1 + i) c13, .slice A14 j c14, .slice A15 (1 + o) c15, .string ⟨#[]⟩, .slice AL q cL]) := Lib.hid (own_box w15 w3.heap.size 27 [.string ⟨#[114, 105, 100, 101]⟩, .slice A13 (1 + i) c13, .slice A14 j c14, .slice A15 (1 + o) c15, .string ⟨#[]⟩, .slice AL q cL] 6 rfl (by omega))
      have HN16 := Lib.hid (own_below (own_below (own_below (own_below hon.out HB13.out) HB14.out) HB15.out) BA)
      have HZt : Hid (∀ s : ByteArray, s.size ≤ 1048576 → PSizes ⟨#[114, 105, 100, 101]⟩ s (kI.take (1 + i)) (kV.take j) (kO.take (1 + o)) ds) := Lib.hid (fun s hs => ⟨by decide, hs, ⟨by rw [← HLI.out]; omega, fun t ht => kI_sz t (List.mem_of_mem_take ht)⟩, ⟨by rw [← HLV.out]; omega, fun t ht => kV_sz t (List.mem_of_mem_take ht)⟩, ⟨by rw [← HLO.out]; omega, fun t ht => kO_sz t (List.mem_of_mem_take ht)⟩, by rw [hql.out]; omega, fun d hd => ⟨(hds.out d hd).2.1, by have := (hds.out d hd).2.2.1; omega, fun t ht => ((hds.out d hd).2.2.2 t ht).1⟩⟩)
      have HFt : Hid (∀ gd : ByteArray, Few ⟨⟨#[114, 105, 100, 101]⟩, kI.take (1 + i), kV.take j, kO.take (1 + o), gd, ds.map LiD.l⟩ A13 A14 A15) := Lib.hid (fun gd => ⟨fun b hb => ⟨fun e => by have h1 := (HI13.out.lt b ((ob _ _ _).trans hb)).2; have h2 := (HV14.out.lt b ((ob _ _ _).trans e)).1; omega, fun e => by have h1 := (HI13.out.lt b ((ob _ _ _).trans hb)).2; have h2 := (HO15.out.lt b ((ob _ _ _).trans e)).1; omega⟩, ⟨by show (kI.take (1 + i)).length ≤ 3; rw [← HLI.out]; omega, by show (kV.take j).length ≤ 3; rw [← HLV.out]; omega, by show (kO.take (1 + o)).length ≤ 2; rw [← HLO.out]; omega⟩, by show 1 ≤ (ds.map LiD.l).length; rw [List.length_map, hql.out]; omega, by show (ds.map LiD.l).length ≤ 6; rw [List.length_map, hql.out]; omega, fun l hl => by obtain ⟨d, hd, rfl⟩ := List.mem_map.1 hl; exact ⟨(hds.out d hd).2.2.1, fun t ht => ((hds.out d hd).2.2.2 t ht).2⟩⟩)
      clear HD15 hdw HB13 HB14 HB15 HI13 HV14 HO15 hol hds hon HE13 HE14 HEr HIr HVr HOr BA hsep hot HX3 hql htl
      generalize hw16 : w15.alloc (.cells #[.string ⟨#[114, 105, 100, 101]⟩, .slice A13 (1 + i) c13, .slice A14 j c14, .slice A15 (1 + o) c15, .string ⟨#[]⟩, .slice AL q cL] 27) = w16 at *
      have hwz : w15.heap.size < w16.heap.size := by rw [← hw16]; simp
      have hwn : w.heap.size < w15.heap.size := by have := HBS.out; omega
      clear hw16
      refine (c_NextD B 3 _ HD16.out.s (by omega)).mono ?_
      rintro e w17 ⟨r, rfl, hr0, hr1, _, hd17⟩
      have HRt := Lib.hid (HR16.out.dw hd17 hB3)
      have HPt := Lib.hid (hd17.own HP16.out hB3)
      have HXt := Lib.hid (hd17.own2 HX16.out (fun q hq e => by simp only [Value.ownBlock, Option.some.injEq] at hq; omega))
      have HN17 := Lib.hid (hd17.own HN16.out hB3)
      have HDt := Lib.hid (HD16.out.then_ hd17)
      have hwz7 := Nat.lt_of_lt_of_le hwz hd17.g.size
      clear hd17 HR16 HP16 HX16 HN16 HD16 hr1 hr0
      by_cases hr : 0 < r
      · go_wp2_with (fail)
        refine (c_NextD B _ _ HDt.out.s (by omega)).mono ?_
        rintro e w18 ⟨r8, rfl, hp8, hr8, _, hd18⟩
        have hr8' := hr8 (by omega)
        obtain ⟨k, rfl⟩ : ∃ k : Nat, r8 = k := ⟨r8.toNat, by omega⟩
        obtain ⟨x, hx⟩ : ∃ x, NM[k]? = some x := ⟨_, List.getElem?_eq_getElem (by have := HNL.out; omega)⟩
        have HXZ := Lib.hid (HNS.out x (List.mem_of_getElem? hx))
        obtain ⟨b, off, rfl, _, g0⟩ := (Rd.own (hd18.own HN17.out hB3)).st hx
        have HR18 := HRt.out.dw hd18 hB3
        have HP18 : PBox _ _ _ _ := hd18.own HPt.out hB3
        have HX18 : PBox _ _ _ _ := hd18.own2 HXt.out (fun q hq e => by simp only [Value.ownBlock, Option.some.injEq] at hq; omega)
        have HD18 := HDt.out.then_ hd18
        have hp := PBox.put HP18 4 (.string x)
        obtain ⟨⟨b0, b1, b2, b3, b4, b5⟩, ⟨f0, f1, f2, f3, f4, f5⟩, hltb⟩ := PBox.c HP18
        have HR19 := Lib.hid (HR18.box HP18 hp.2)
        have HP19 : Hid (PBox (w18.setCell ⟨w15.heap.size, 4, none⟩ (.string x)) w3.heap.size w15.heap.size [.string ⟨#[114, 105, 100, 101]⟩, .slice A13 (1 + i) c13, .slice A14 j c14, .slice A15 (1 + o) c15, .string x, .slice AL q cL]) := Lib.hid hp.1
        have HX19 := Lib.hid (HX18.keep hp.2 (by omega))
        have HD19 := Lib.hid (HD18.far hB3 hp.2 (fun q hq => by simp only [Option.some.injEq] at hq; omega))
        clear hd18 HR18 HP18 HX18 HD18 hp HRt HPt HXt HDt HN17 hx hr8
        go_upto_region 14 with (fail)
        generalize w18.setCell ⟨w15.heap.size, 4, none⟩ (.string x) = w19 at *
        clear b0 b1 b2 b3 b4 b5 f0 f1 f2 f3 f4 f5 hltb g0
        have HRt := HR19
        have HPt := HP19
        have HXt := HX19
        have HDt := HD19
        clear HR19 HP19 HX19 HD19
        obtain ⟨⟨b0, b1, b2, b3, b4, b5⟩, _, hltb⟩ := PBox.c HPt.out
        obtain ⟨⟨a0, a1, a2, a3, a4, a5⟩, ⟨f0, f1, f2, f3, f4, f5⟩, hlta⟩ := PBox.c HXt.out
        have hz := PBox.fill HXt.out (.string ⟨#[114, 105, 100, 101]⟩) (.slice A13 (1 + i) c13) (.slice A14 j c14) (.slice A15 (1 + o) c15) (.string x) (.slice AL q cL)
        have YR := Lib.hid ((HRt.out.box HXt.out hz.2).mono HS3.out.g.size)
        have YD := Lib.hid ((HS3.out.then_ HDt.out).far hBl hz.2 (fun q hq => by simp only [Option.some.injEq] at hq; omega))
        have YC := Lib.hid hz.1
        have YZ := Lib.hid (HZt.out x HXZ.out)
        obtain ⟨WF, hWF⟩ : ∃ WF, WF = ((((((w19.setCell ⟨w.heap.size, 0, none⟩ (.string ⟨#[114, 105, 100, 101]⟩)).setCell ⟨w.heap.size, 1, none⟩ (.slice A13 (1 + i) c13)).setCell ⟨w.heap.size, 2, none⟩ (.slice A14 j c14)).setCell ⟨w.heap.size, 3, none⟩ (.slice A15 (1 + o) c15)).setCell ⟨w.heap.size, 4, none⟩ (.string x)).setCell ⟨w.heap.size, 5, none⟩ (.slice AL q cL)) := ⟨_, rfl⟩
        rw [← hWF] at YR YD YC
        have HF := Lib.hid hWF
        clear hWF hz HRt HPt HXt HDt HZt
        go_wp2_with (fail)
        rw [← HF.out]
        obtain ⟨⟨r0, r1, r2, r3, r4, r5⟩, _⟩ := PBox.c YC.out
        clear a0 a1 a2 a3 a4 a5 b0 b1 b2 b3 b4 b5 f0 f1 f2 f3 f4 f5
        refine bodyPost_ret (v := .agg #[.string ⟨#[114, 105, 100, 101]⟩, .slice A13 (1 + i) c13, .slice A14 j c14, .slice A15 (1 + o) c15, .string x, .slice AL q cL]) (by simp [results, Tryz.results86, go_sem, r0, r1, r2, r3, r4, r5]) rfl (YR.out.prog YZ.out (HFt.out _) YD.out)
      · skip
        go_upto_region 14 with (fail)
        obtain ⟨⟨b0, b1, b2, b3, b4, b5⟩, _, hltb⟩ := PBox.c HPt.out
        obtain ⟨⟨a0, a1, a2, a3, a4, a5⟩, ⟨f0, f1, f2, f3, f4, f5⟩, hlta⟩ := PBox.c HXt.out
        have hz := PBox.fill HXt.out (.string ⟨#[114, 105, 100, 101]⟩) (.slice A13 (1 + i) c13) (.slice A14 j c14) (.slice A15 (1 + o) c15) (.string ⟨#[]⟩) (.slice AL q cL)
        have YR := Lib.hid ((HRt.out.box HXt.out hz.2).mono HS3.out.g.size)
        have YD := Lib.hid ((HS3.out.then_ HDt.out).far hBl hz.2 (fun q hq => by simp only [Option.some.injEq] at hq; omega))
        have YC := Lib.hid hz.1
        have YZ := Lib.hid (HZt.out ⟨#[]⟩ (by decide))
        obtain ⟨WF, hWF⟩ : ∃ WF, WF = ((((((w17.setCell ⟨w.heap.size, 0, none⟩ (.string ⟨#[114, 105, 100, 101]⟩)).setCell ⟨w.heap.size, 1, none⟩ (.slice A13 (1 + i) c13)).setCell ⟨w.heap.size, 2, none⟩ (.slice A14 j c14)).setCell ⟨w.heap.size, 3, none⟩ (.slice A15 (1 + o) c15)).setCell ⟨w.heap.size, 4, none⟩ (.string ⟨#[]⟩)).setCell ⟨w.heap.size, 5, none⟩ (.slice AL q cL)) := ⟨_, rfl⟩
        rw [← hWF] at YR YD YC
        have HF := Lib.hid hWF
        clear hWF hz HRt HPt HXt HDt HZt
        go_wp2_with (fail)
        rw [← HF.out]
        obtain ⟨⟨r0, r1, r2, r3, r4, r5⟩, _⟩ := PBox.c YC.out
        clear a0 a1 a2 a3 a4 a5 b0 b1 b2 b3 b4 b5 f0 f1 f2 f3 f4 f5
        refine bodyPost_ret (v := .agg #[.string ⟨#[114, 105, 100, 101]⟩, .slice A13 (1 + i) c13, .slice A14 j c14, .slice A15 (1 + o) c15, .string ⟨#[]⟩, .slice AL q cL]) (by simp [results, Tryz.results86, go_sem, r0, r1, r2, r3, r4, r5]) rfl (YR.out.prog YZ.out (HFt.out _) YD.out)
end Go.Proofs.YteengjcplmjakaaGreatDoor
