/- The source of drawn numbers. Condition: at most 4096 bytes of code. -/
import Derived.Test.YtndihacmlkgkbaaDgXf
/-! The source of drawn numbers: its box, and the contract of the next number. Condition: at most 4096 bytes of code. -/
namespace Go.Proofs.Ytndihacmlkgkbaa
open Go.RowKit

theorem own_three {w : World} (x y z : Value) : (w.alloc (.cells #[x, y, z] 108)).ownsRow w.heap.size 108 1 (.slice (some ⟨w.heap.size, 0, none⟩) 3 3) 3 [x, y, z] := by
  have h := World.ownsRow_lit (e := 108) (size := 1) (base := w.heap.size) w #[x, y, z] 3 (by simp) (by decide) (by simp)
  simpa using h
theorem three_cells {w : World} {base b : Nat} {x y z : Value} (h : w.ownsRow base 108 1 (.slice (some ⟨b, 0, none⟩) 3 3) 3 [x, y, z]) : w.cell? ⟨b, 0, none⟩ = some x ∧ w.cell? ⟨b, 1, none⟩ = some y ∧ w.cell? ⟨b, 2, none⟩ = some z ∧ w.frozen? ⟨b, 0, none⟩ = false ∧ w.frozen? ⟨b, 1, none⟩ = false ∧ w.frozen? ⟨b, 2, none⟩ = false ∧ base ≤ b ∧ b < w.heap.size := by
  have h0 := h.cellAt 0 (by decide)
  have h1 := h.cellAt 1 (by decide)
  have h2 := h.cellAt 2 (by decide)
  exact ⟨h0, h1, h2, h.frozenAt 0, h.frozenAt 1, h.frozenAt 2, own_ge h⟩
/-- The slice holds n bytes, in a block below B. -/
def Bytes (w : World) (B : Nat) (A : Option Addr) (n : Nat) : Prop := ∀ j, j < n → ∃ (b off : Nat) (u : Nat), A = some ⟨b, off, none⟩ ∧ b < B ∧ u < 256 ∧ w.cell? ⟨b, off + j, none⟩ = some (.int .u8 u)
theorem Bytes.keep {w w' : World} {B : Nat} {A : Option Addr} {n : Nat} (h : Bytes w B A n) (hg : w.grownBy w' (some B)) (hB : B ≤ w.heap.size) : Bytes w' B A n := by
  intro j hj
  obtain ⟨b, off, u, e, hb, hu, hc⟩ := h j hj
  refine ⟨b, off, u, e, hb, hu, ?_⟩
  rw [← hc]
  exact hg.cell_far ⟨b, off + j, none⟩ (by simp; omega) (by simp; omega)
structure SrcF (w : World) (B : Nat) (A : Option Addr) (n c : Nat) (at' seed : Int) : Prop where
  own : w.ownsRow B 108 1 (.slice (some ⟨B, 0, none⟩) 3 3) 3 [.slice A n c, .int .i64 at', .int .i64 seed]
  a0 : 0 ≤ at'
  a1 : at' ≤ n
  s0 : 0 ≤ seed
  s1 : seed < 2147483647
  n1 : n ≤ 4096
  by_ : Bytes w B A n
def Src (w : World) (B : Nat) : Prop := ∃ A n c at' seed, SrcF w B A n c at' seed
def NextP (B : Nat) (n : Int) (w : World) (e : Ending) (w' : World) : Prop := ∃ r : Int, e = .returned (.int .i64 r) ∧ 0 ≤ r ∧ (1 < n → r < n) ∧ (n ≤ 1 → r = 0) ∧ Src w' B ∧ w.grownBy w' (some B)
theorem grown_refl (w : World) (row : Option Nat) : w.grownBy w row := grown_of_below (Below.refl _ _) row
theorem SrcF.set_seed {w : World} {B : Nat} {A : Option Addr} {n c : Nat} {at' seed s : Int} (h : SrcF w B A n c at' seed) (h0 : 0 ≤ s) (h1 : s < 2147483647) : SrcF (w.setCell ⟨B, 2, none⟩ (.int .i64 s)) B A n c at' s ∧ w.grownBy (w.setCell ⟨B, 2, none⟩ (.int .i64 s)) (some B) := by
  have hst := h.own.stored 2 (.int .i64 s)
  exact ⟨⟨by simpa using hst.1, h.a0, h.a1, h0, h1, h.n1, h.by_.keep (by simpa using hst.2) (by have := (own_ge h.own).2; omega)⟩, by simpa using hst.2⟩
theorem SrcF.set_at {w : World} {B : Nat} {A : Option Addr} {n c : Nat} {at' seed a : Int} (h : SrcF w B A n c at' seed) (h0 : 0 ≤ a) (h1 : a ≤ n) : SrcF (w.setCell ⟨B, 1, none⟩ (.int .i64 a)) B A n c a seed ∧ w.grownBy (w.setCell ⟨B, 1, none⟩ (.int .i64 a)) (some B) := by
  have hst := h.own.stored 1 (.int .i64 a)
  exact ⟨⟨by simpa using hst.1, h0, h1, h.s0, h.s1, h.n1, h.by_.keep (by simpa using hst.2) (by have := (own_ge h.own).2; omega)⟩, by simpa using hst.2⟩
theorem SrcF.drewN {w : World} {B : Nat} {A : Option Addr} {n c : Nat} {at' seed : Int} (h : SrcF w B A n c at' seed) (k : Nat) : SrcF (w.drewN k) B A n c at' seed :=
  ⟨own_below h.own (below_drewN (Below.refl _ _) k), h.a0, h.a1, h.s0, h.s1, h.n1, h.by_⟩
set_option maxHeartbeats 2000000 in
set_option maxRecDepth 100000 in
theorem c_Next (B : Nat) (n : Int) (w : World) (h : Src w B) (hn : n ≤ 9223372036854775807) : Calls Try.prog 67 #[.pointer (some ⟨B, 0, none⟩), .int .i64 n] w (NextP B n w) := by
  obtain ⟨A, m, c, a, seed, hf⟩ := h
  rcases Int.lt_or_le 1 n with hn1 | hn1
  · obtain ⟨v0, v1, v2, f0, f1, f2, _, hlt⟩ := three_cells hf.own
    have hs0 := hf.s0
    have hs1 := hf.s1
    have hn1m := hf.n1
    have ha0 := hf.a0
    have ha1 := hf.a1
    have hr0 := Int.emod_nonneg (seed * 48271 + 29) (b := 2147483647) (by decide)
    have hr1 := Int.emod_lt_of_pos (seed * 48271 + 29) (b := 2147483647) (by decide)
    have HS := Lib.hid (hf.set_seed hr0 hr1)
    clear hf
    go_enter Try.func67, Try.ntmps67
    go_wp2_with (fail)
    generalize (seed * 48271 + 29) % 2147483647 = s at hr0 hr1 HS ⊢
    have hf := HS.out.1
    have HG := Lib.hid HS.out.2
    generalize w.setCell ⟨B, 2, none⟩ (.int .i64 s) = W at hf HG ⊢
    clear v0 v1 v2 f0 f1 f2 HS hlt
    obtain ⟨v0, v1, v2, f0, f1, f2, _, hlt⟩ := three_cells hf.own
    obtain ⟨k, rfl⟩ : ∃ k : Nat, a = k := ⟨a.toNat, by omega⟩
    have hx0 : 0 ≤ s / 31 := Int.ediv_nonneg hr0 (by decide)
    have hx1 : s / 31 ≤ 2147483647 := by omega
    generalize s / 31 = x at hx0 hx1 ⊢
    by_cases ham : k < m
    · obtain ⟨b, off, u, rfl, hbB, hu, hc⟩ := hf.by_ k ham
      have HF := Lib.hid hf
      have hd : decide ((k : Int) < m) = true := by simp; omega
      clear hf
      go_region_held3 (fun w' => w'.cell? ⟨B, 0, none⟩ = some (.slice (some ⟨b, off, none⟩) m c) ∧ w'.cell? ⟨B, 1, none⟩ = some (.int .i64 k)) (exact ⟨v0, v1⟩) (fail)
      go_wp2_with (fail)
      have hw1 : IntKind.i64.wrap (x + (u : Int)) = x + u := IntWalk.i64_in _ (by omega)
      have hw2 : IntKind.i64.wrap (u : Int) = u := IntWalk.i64_in _ (by omega)
      have hk0 : (0 : Int) ≤ (k : Int) := by omega
      have hk1 : (k : Int) < m := by omega
      go_region_held3 (fun w' => w'.cell? ⟨B, 0, none⟩ = some (.slice (some ⟨b, off, none⟩) m c) ∧ w'.cell? ⟨B, 1, none⟩ = some (.int .i64 k) ∧ w'.cell? ⟨b, off + k, none⟩ = some (.int .u8 u)) (exact ⟨v0, v1, hc⟩) (fail)
      go_wp2_with (fail)
      clear hw1 hw2
      all_goals
        have HS := Lib.hid (HF.out.set_at (a := (k : Int) + 1) (by omega) (by omega))
        have hlt2 : b < W.heap.size := by omega
        have hne : ¬ b = B := by omega
        have hw3 : IntKind.i64.wrap ((k : Int) + 1 - 1) = k := by rw [show (k : Int) + 1 - 1 = k by omega]; exact IntWalk.i64_in _ (by omega)
        have hw5 : IntKind.i64.wrap (k : Int) = k := IntWalk.i64_in _ (by omega)
        have j0 : ((W.setCell ⟨B, 1, none⟩ (.int .i64 ((k : Int) + 1))).drew.drew).cell? ⟨B, 0, none⟩ = some (.slice (some ⟨b, off, none⟩) m c) := by go_simp
        have j1 : ((W.setCell ⟨B, 1, none⟩ (.int .i64 ((k : Int) + 1))).drew.drew).cell? ⟨B, 1, none⟩ = some (.int .i64 ((k : Int) + 1)) := by go_simp
        have j2 : ((W.setCell ⟨B, 1, none⟩ (.int .i64 ((k : Int) + 1))).drew.drew).cell? ⟨b, off + k, none⟩ = some (.int .u8 u) := by go_simp
        have HQ : Hid (Src ((W.setCell ⟨B, 1, none⟩ (.int .i64 ((k : Int) + 1))).drew.drew) B ∧ w.grownBy ((W.setCell ⟨B, 1, none⟩ (.int .i64 ((k : Int) + 1))).drew.drew) (some B)) := Lib.hid ⟨⟨_, _, _, _, _, HS.out.1.drewN 2⟩, grown_trans (grown_trans HG.out HS.out.2) (grown_of_below (Below.refl _ _).drew.drew _)⟩
        generalize ((W.setCell ⟨B, 1, none⟩ (.int .i64 ((k : Int) + 1))).drew.drew) = W2 at j0 j1 j2 HQ ⊢
        clear HS HF hc v0 v1 v2 f0 f1 f2
        have HR := Lib.hid (fun (y : Int) (hy : 0 ≤ y) => (show 0 ≤ y % n ∧ y % n < n from ⟨Int.emod_nonneg y (by omega), Int.emod_lt_of_pos y (by omega)⟩))
      all_goals try
        (go_region_held3 (fun w' => w'.cell? ⟨B, 0, none⟩ = some (.slice (some ⟨b, off, none⟩) m c) ∧ w'.cell? ⟨B, 1, none⟩ = some (.int .i64 ((k : Int) + 1)) ∧ w'.cell? ⟨b, off + k, none⟩ = some (.int .u8 u)) (exact ⟨j0, j1, j2⟩) (fail)
         go_wp2_with (fail)
         go_ret
         exact ⟨(u : Int) % n, rfl, (HR.out _ (by omega)).1, fun _ => (HR.out _ (by omega)).2, fun h => by omega, (let ⟨A, m, c, a, s, h⟩ := HQ.out.1; ⟨A, m, c, a, s, h.drewN 1⟩), grown_trans HQ.out.2 (grown_of_below (Below.refl _ _).drew _)⟩)
      all_goals
        go_ret
        exact ⟨(x + u) % n, rfl, (HR.out _ (by omega)).1, fun _ => (HR.out _ (by omega)).2, fun h => by omega, HQ.out.1, HQ.out.2⟩
    · have hd : decide ((k : Int) < m) = false := by simp; omega
      have HSR := Lib.hid (show Src W B from ⟨A, m, c, k, s, hf⟩)
      have HSD := Lib.hid (show Src W.drew B from ⟨A, m, c, k, s, hf.drewN 1⟩)
      have hq0 := Int.emod_nonneg x (b := n) (by omega)
      have hq1 := Int.emod_lt_of_pos x (b := n) (by omega)
      clear hf
      go_region_held3 (fun w' => w'.cell? ⟨B, 0, none⟩ = some (.slice A m c) ∧ w'.cell? ⟨B, 1, none⟩ = some (.int .i64 k)) (exact ⟨v0, v1⟩) (fail)
      go_wp2_with (fail)
      go_ret
      refine ⟨x % n, rfl, hq0, fun _ => hq1, fun h => by omega, HSD.out, ?_⟩
      exact grown_trans HG.out (grown_of_below (Below.refl _ _).drew _)
  · have HS := Lib.hid (show Src w B from ⟨A, m, c, a, seed, hf⟩)
    go_enter Try.func67, Try.ntmps67
    go_wp2
    go_ret
    exact ⟨0, rfl, by omega, fun h => by omega, fun _ => rfl, HS.out, grown_refl _ _⟩
end Go.Proofs.Ytndihacmlkgkbaa

/-! The kit's still tail, with the world behind the draw folded. -/
namespace Go.Proofs.Ytndihacmlkgkbaa
open Go.RowKit

theorem wp_still_drew {P : Program} {id : Nat} {Q : Exit → Act → World → Prop} {a : Act} {w : World} {l : List Oper} (n : Nat) (hm : P.follows .mixedOrders = true) (hB : Region.lexTailB .any l.toArray n = true)
    (h : wpStill P l.toArray w.drew (fun a' => wpList P l.toArray Q (l.drop n) a' w.drew) (l.take n) a) : (Code.region id l.toArray true).wp P Q a w := wp_region_still_tail n hm hB h
end Go.Proofs.Ytndihacmlkgkbaa

/-! Contracts of l01From, l01Pick: the source at its start, one of some numbers. Condition: at most 4096 bytes of code; lists that are not empty. -/
namespace Go.Proofs.Ytndihacmlkgkbaa
open Go.RowKit

theorem Src.drew {w : World} {B : Nat} (h : Src w B) : Src w.drew B := let ⟨A, m, c, a, s, h⟩ := h; ⟨A, m, c, a, s, h.drewN 1⟩
theorem Src.lt {w : World} {B : Nat} (h : Src w B) : B < w.heap.size := let ⟨_, _, _, _, _, h⟩ := h; (own_ge h.own).2
theorem Src.far {w w' : World} {B : Nat} {row : Option Nat} (h : Src w B) (hg : w.grownBy w' row) (hr : ∀ q, row = some q → B < q) : Src w' B := by
  have hlt := h.lt
  obtain ⟨A, m, c, a, s, h⟩ := h
  refine ⟨A, m, c, a, s, h.own.kept hg (.inr ?_), h.a0, h.a1, h.s0, h.s1, h.n1, ?_⟩
  · intro e
    have := hr B (by rw [← e]; rfl)
    omega
  · intro j hj
    obtain ⟨b, off, u, e, hb, hu, hc⟩ := h.by_ j hj
    refine ⟨b, off, u, e, hb, hu, ?_⟩
    rw [← hc]
    exact hg.cell_far ⟨b, off + j, none⟩ (by simp; omega) (fun e => by have := hr _ e.symm; simp at this; omega)
theorem Src.below {w w' : World} {B : Nat} (h : Src w B) (hb : Below w.heap.size w w') : Src w' B := h.far (grown_of_below hb none) (by simp)
theorem Src.alloc {w : World} {B : Nat} (h : Src w B) (o : Obj) : Src (w.alloc o) B := h.below (below_alloc (Below.refl _ _) o)
set_option maxRecDepth 100000 in
theorem c_From (A : Option Addr) (c n : Nat) (w : World) (hn : n ≤ 4096) (hb : Bytes w w.heap.size A n) :
    Calls Try.prog 66 #[.slice A n c] w fun e w' => e = .returned (.pointer (some ⟨w.heap.size, 0, none⟩)) ∧ Src w' w.heap.size ∧ Below w.heap.size w w' := by
  have hown := own_three (w := w) (.slice A n c) (.int .i64 0) (.int .i64 52021)
  have hf : SrcF (w.alloc (.cells #[.slice A n c, .int .i64 0, .int .i64 52021] 108)) w.heap.size A n c 0 52021 :=
    ⟨hown, by omega, by omega, by omega, by omega, hn, hb.keep (grown_of_below (below_alloc (Below.refl _ _) _) _) (Nat.le_refl _)⟩
  have HF := Lib.hid hf
  clear hf hown hb
  go_enter Try.func66, Try.ntmps66
  go_wp2
  go_loopw [4] (fun v wr => ∃ (k : Nat) (s : Int), k ≤ 64 ∧ k ≤ n ∧ v = .int .i64 k ∧ SrcF wr w.heap.size A n c 0 s ∧ Below w.heap.size w wr) (fun v _ => n - (intOf v).toNat)
  case atStart => exact ⟨0, 52021, by omega, Nat.zero_le _, rfl, HF.out, by (repeat (first | exact Below.refl _ _ | assumption | refine below_alloc ?_ _ | refine below_drewN ?_ _ | refine below_set ?_ _ (by simp; try omega) | refine Below.drew ?_))⟩
  case round =>
    obtain ⟨k, s, hk, hkn, rfl, hf, hb⟩ := hrel
    clear HF
    by_cases hlt : k < n ∧ k < 64
    · obtain ⟨hlt, hlt64⟩ := hlt
      obtain ⟨b, off, u, rfl, hbB, hu, hc⟩ := hf.by_ k hlt
      obtain ⟨v0, v1, v2, f0, f1, f2, _, hltw⟩ := three_cells hf.own
      have hs0 := hf.s0
      have hs1 := hf.s1
      have hr0 := Int.emod_nonneg (s * 59 + (u : Int)) (b := 2147483647) (by decide)
      have hr1 := Int.emod_lt_of_pos (s * 59 + (u : Int)) (b := 2147483647) (by decide)
      have hw1 : IntKind.i64.wrap (s * 59) = s * 59 := IntWalk.i64_in _ (by omega)
      have hw2 : IntKind.i64.wrap (u : Int) = u := IntWalk.i64_in _ (by omega)
      have hw3 : IntKind.i64.wrap (s * 59 + (u : Int)) = s * 59 + u := IntWalk.i64_in _ (by omega)
      have hw4 : (s * 59 + (u : Int)).tmod 2147483647 = (s * 59 + (u : Int)) % 2147483647 := Int.tmod_eq_emod_of_nonneg (by omega)
      have hk0 : (0 : Int) ≤ (k : Int) := by omega
      have hk1 : (k : Int) < n := by omega
      have HS := Lib.hid (hf.set_seed hr0 hr1)
      have HB := Lib.hid hb
      clear hf hb
      go_wp2_with (fail)
      refine wp_still_drew 15 (by kernel_rfl) (by kernel_rfl) ?_
      simp only [List.take_succ_cons, List.take_zero, List.drop_succ_cons, List.drop_zero]
      repeat still_step
      try refine wpStill_nil ?_
      clear hw1 hw2 hw3 hw4
      go_wp2
      have HD : Hid (SrcF ((wr.setCell ⟨w.heap.size, 2, none⟩ (.int .i64 ((s * 59 + (u : Int)) % 2147483647))).drew) w.heap.size (some ⟨b, off, none⟩) n c 0 ((s * 59 + (u : Int)) % 2147483647) ∧ Below w.heap.size w ((wr.setCell ⟨w.heap.size, 2, none⟩ (.int .i64 ((s * 59 + (u : Int)) % 2147483647))).drew)) :=
        Lib.hid ⟨HS.out.1.drewN 1, (below_of_grown HB.out HS.out.2 (by simp)).drew⟩
      go_roundw
      case rel => exact ⟨k + 1, _, by omega, by omega, by go_num, HD.out.1, HD.out.2⟩
      case measure => simp [intOf]; omega
    · have HFF := Lib.hid hf
      have HB := Lib.hid hb
      have hd : (decide ((k : Int) < n) && decide ((k : Int) < 64)) = false := by simp; omega
      clear hf hb
      rcases Nat.lt_or_ge k n with h1 | h1
      · have h2 : ¬ k < 64 := by omega
        go_wp2
        go_ret
        exact ⟨rfl, ⟨_, _, _, _, _, HFF.out⟩, HB.out⟩
      · go_wp2
        go_ret
        exact ⟨rfl, ⟨_, _, _, _, _, HFF.out⟩, HB.out⟩
end Go.Proofs.Ytndihacmlkgkbaa

/-! The source beside a growing world; draws of numbers and of one of a list. No condition but the sizes. -/
namespace Go.Proofs.Ytndihacmlkgkbaa
open Go.RowKit

/-- The source goes on, and nothing else of before has turned. -/
structure DW (B : Nat) (w wr : World) : Prop where
  s : Src wr B
  g : w.grownBy wr (some B)
theorem DW.start {B : Nat} {w : World} (h : Src w B) : DW B w w := ⟨h, grown_refl _ _⟩
theorem gb_far {w a b : World} {row r2 : Option Nat} (h : w.grownBy a row) (hg : a.grownBy b r2) (hr : ∀ q, r2 = some q → w.heap.size ≤ q) : w.grownBy b row :=
  ⟨hg.os.trans h.os, hg.tape.trans h.tape, hg.output.trans h.output, Nat.le_trans h.size hg.size, fun k hk hne => (hg.block k (Nat.lt_of_lt_of_le hk h.size) (fun e => by have := hr k e.symm; omega)).trans (h.block k hk hne)⟩
theorem DW.far {B : Nat} {w a b : World} {r2 : Option Nat} (h : DW B w a) (hB : B < w.heap.size) (hg : a.grownBy b r2) (hr : ∀ q, r2 = some q → w.heap.size ≤ q) : DW B w b :=
  ⟨h.s.far hg (fun q hq => Nat.lt_of_lt_of_le hB (hr q hq)), gb_far h.g hg hr⟩
theorem DW.below {B : Nat} {w a b : World} (h : DW B w a) (hB : B < w.heap.size) (hb : Below a.heap.size a b) : DW B w b := h.far hB (grown_of_below hb none) (by simp)
theorem DW.alloc {B : Nat} {w a : World} (h : DW B w a) (hB : B < w.heap.size) (o : Obj) : DW B w (a.alloc o) := h.below hB (below_alloc (Below.refl _ _) o)
theorem DW.drew {B : Nat} {w a : World} (h : DW B w a) (hB : B < w.heap.size) : DW B w a.drew := h.below hB (Below.refl _ _).drew
theorem DW.then_ {B : Nat} {w a b : World} (h : DW B w a) (h2 : DW B a b) : DW B w b := ⟨h2.s, grown_trans h.g h2.g⟩
theorem DW.set {B : Nat} {w a : World} (h : DW B w a) (hB : B < w.heap.size) {p : Addr} (v : Value) (hp : w.heap.size ≤ p.block) : DW B w (a.setCell p v) := by
  have hb : Below w.heap.size a (a.setCell p v) := (Below.refl _ _).setCell hp v
  refine ⟨h.s.far (row := some p.block) ⟨hb.os, hb.tape, hb.output, hb.size, fun k hk hne => ?_⟩ (by intro q hq; simp at hq; omega), ?_⟩
  · unfold World.setCell
    simp only
    rw [Array.getElem?_modify, if_neg (by intro e; exact hne (by rw [e]))]
  · exact ⟨hb.os.trans h.g.os, hb.tape.trans h.g.tape, hb.output.trans h.g.output, Nat.le_trans h.g.size hb.size, fun k hk hne => (hb.block k hk).trans (h.g.block k hk hne)⟩
theorem DW.own {B : Nat} {w wr : World} (h : DW B w wr) {base : Nat} {e : TypeId} {size n : Nat} {v : Value} {xs : List Value} (ho : w.ownsRow base e size v n xs) (hB : B < base) : wr.ownsRow base e size v n xs :=
  kept_far ho h.g (fun q hq => by simp at hq; omega)
theorem DW.cell {B : Nat} {w wr : World} (h : DW B w wr) {b j : Nat} {v : Value} (hc : w.cell? ⟨b, j, none⟩ = some v) (hB : B ≠ b) : wr.cell? ⟨b, j, none⟩ = some v :=
  cell_mark hc h.g (fun q hq => by simp at hq; simp; omega)
/-- One of some numbers, and the source goes on. -/
def PickP (B : Nat) (zs : List Int) (w : World) (e : Ending) (w' : World) : Prop := ∃ z : Int, z ∈ zs ∧ e = .returned (.int .i64 z) ∧ DW B w w'
set_option maxRecDepth 100000 in
theorem c_PickIn (B g c n : Nat) (zs : List Int) (w : World) (h : Src w B) (hg : g ≠ B) (hn : n = zs.length) (hn0 : 0 < n) (hn1 : n ≤ 100) (hr : Rd w (some ⟨g, 0, none⟩) (ints zs)) :
    Calls Try.prog 80 #[.pointer (some ⟨B, 0, none⟩), .slice (some ⟨g, 0, none⟩) n c] w (PickP B zs w) := by
  have HN := Lib.hid hn
  clear hn
  go_enter Try.func80, Try.ntmps80
  go_wp2_with (fail)
  refine (c_Next B n w h (by omega)).mono ?_
  rintro e w1 ⟨r, rfl, hr0, hr1, hr2, hs, hgr⟩
  have hrn : r < n := by
    rcases Int.lt_or_le 1 n with h1 | h1
    · exact hr1 h1
    · have := hr2 h1; omega
  obtain ⟨k, rfl⟩ : ∃ k : Nat, r = k := ⟨r.toNat, by omega⟩
  obtain ⟨z, hz⟩ : ∃ z, zs[k]? = some z := ⟨_, List.getElem?_eq_getElem (by have := HN.out; omega)⟩
  have HZ := Lib.hid (List.mem_of_getElem? hz)
  obtain ⟨b, off, e, hb, hc⟩ := hr.int hz
  simp only [Option.some.injEq, Addr.mk.injEq, and_true] at e
  obtain ⟨rfl, rfl⟩ := e
  have hc1 : w1.cell? ⟨g, 0 + k, none⟩ = some (.int .i64 z) := cell_mark hc hgr (fun q hq => by simp at hq; simp; omega)
  have HS := Lib.hid hs
  have HG := Lib.hid hgr
  clear hr hz hc hr1 hr2 hs hgr h
  simp only [Nat.zero_add] at hc1
  go_wp2_with (fail)
  go_ret
  exact ⟨z, HZ.out, rfl, HS.out, HG.out⟩
theorem c_NextD (B : Nat) (n : Int) (w : World) (h : Src w B) (hn : n ≤ 9223372036854775807) : Calls Try.prog 67 #[.pointer (some ⟨B, 0, none⟩), .int .i64 n] w fun e w' => ∃ r : Int, e = .returned (.int .i64 r) ∧ 0 ≤ r ∧ (1 ≤ n → r < n) ∧ (n ≤ 1 → r = 0) ∧ DW B w w' :=
  (c_Next B n w h hn).mono fun e w' ⟨r, he, h0, h1, h2, hs, hg⟩ => ⟨r, he, h0, fun hn1 => by
    rcases Int.lt_or_le 1 n with h3 | h3
    · exact h1 h3
    · have := h2 h3; omega, h2, hs, hg⟩
theorem DW.fr {B : Nat} {w a b : World} {P : Nat → Obj → Prop} (h : DW B w a) (hB : B < w.heap.size) (hf : Fr P a b) (hp : ∀ k o, P k o → w.heap.size ≤ k) : DW B w b := by
  obtain ⟨hs, hg⟩ := h
  refine ⟨?_, hf.os.trans hg.os, hf.tape.trans hg.tape, hf.output.trans hg.output, Nat.le_trans hg.size hf.size, fun k hk hne => ?_⟩
  · obtain ⟨A, m, c, at', s, h⟩ := hs
    refine ⟨A, m, c, at', s, hf.own h.own (fun g _ _ _ hgv hpp => ?_), h.a0, h.a1, h.s0, h.s1, h.n1, fun j hj => ?_⟩
    · have e : B = g := by simpa [Value.ownBlock] using hgv
      have := hp _ _ hpp
      omega
    · obtain ⟨b1, off, u, e, hb, hu, hc⟩ := h.by_ j hj
      exact ⟨b1, off, u, e, hb, hu, hf.cell hc (fun o _ hpp => by have := hp _ _ hpp; dsimp only at this; omega)⟩
  · have h1 := hg.block k hk hne
    rw [← h1]
    have hka : k < a.heap.size := Nat.lt_of_lt_of_le hk hg.size
    have h2 : a.heap[k]? = some a.heap[k] := Array.getElem?_eq_getElem hka
    rw [h2]
    rcases hf.blk k _ h2 with h3 | h3
    · exact h3
    · have := hp _ _ h3
      omega
theorem rd_lit3 (w : World) (z0 z1 z2 : Int) : Rd (w.alloc (.cells #[.int .i64 z0, .int .i64 z1, .int .i64 z2] 2)) (some ⟨w.heap.size, 0, none⟩) (ints [z0, z1, z2]) := by
  have h := World.ownsRow_lit (e := 2) (size := 1) (base := w.heap.size) w #[.int .i64 z0, .int .i64 z1, .int .i64 z2] 3 (by simp) (by decide) (by simp)
  have h2 := Rd.own h
  simpa [ints] using h2
theorem rd_lit5 (w : World) (z0 z1 z2 z3 z4 : Int) : Rd (w.alloc (.cells #[.int .i64 z0, .int .i64 z1, .int .i64 z2, .int .i64 z3, .int .i64 z4] 2)) (some ⟨w.heap.size, 0, none⟩) (ints [z0, z1, z2, z3, z4]) := by
  have h := World.ownsRow_lit (e := 2) (size := 1) (base := w.heap.size) w #[.int .i64 z0, .int .i64 z1, .int .i64 z2, .int .i64 z3, .int .i64 z4] 5 (by simp) (by decide) (by simp)
  have h2 := Rd.own h
  simpa [ints] using h2
end Go.Proofs.Ytndihacmlkgkbaa
