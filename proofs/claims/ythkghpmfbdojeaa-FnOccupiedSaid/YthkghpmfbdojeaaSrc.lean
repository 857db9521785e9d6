/- The source of drawn numbers: its box, and the contract of the next number. Condition: at most 4096 bytes of code. -/
import Derived.Test.YthkghpmfbdojeaaLoadP
namespace Go.Proofs.Ythkghpmfbdojeaa
open Go.RowKit

theorem own_three {w : World} (x y z : Value) : (w.alloc (.cells #[x, y, z] 54)).ownsRow w.heap.size 54 1 (.slice (some ⟨w.heap.size, 0, none⟩) 3 3) 3 [x, y, z] := by
  have h := World.ownsRow_lit (e := 54) (size := 1) (base := w.heap.size) w #[x, y, z] 3 (by simp) (by decide) (by simp)
  simpa using h
theorem three_cells {w : World} {base b : Nat} {x y z : Value} (h : w.ownsRow base 54 1 (.slice (some ⟨b, 0, none⟩) 3 3) 3 [x, y, z]) : w.cell? ⟨b, 0, none⟩ = some x ∧ w.cell? ⟨b, 1, none⟩ = some y ∧ w.cell? ⟨b, 2, none⟩ = some z ∧ w.frozen? ⟨b, 0, none⟩ = false ∧ w.frozen? ⟨b, 1, none⟩ = false ∧ w.frozen? ⟨b, 2, none⟩ = false ∧ base ≤ b ∧ b < w.heap.size := by
  have h0 := h.cellAt 0 (by decide)
  have h1 := h.cellAt 1 (by decide)
  have h2 := h.cellAt 2 (by decide)
  exact ⟨h0, h1, h2, h.frozenAt 0, h.frozenAt 1, h.frozenAt 2, own_ge h⟩
/-- The slice holds n bytes, in a block below B. -/
def Bytes (w : World) (B : Nat) (A : Option Addr) (n : Nat) : Prop := ∀ j, j < n → ∃ (b off : Nat) (u : Nat), A = some ⟨b, off, none⟩ ∧ b < B ∧ u < 256 ∧ w.cell? ⟨b, off + j, none⟩ = some (.int .u8 u)
theorem Bytes.keep {w w' : World} {B : Nat} {A : Option Addr} {n : Nat} (h : Bytes w B A n) (hg : w.grownBy w' (some B)) (hB : B ≤ w.heap.size) : Bytes w' B A n := by
  intro j hj
  obtain ⟨b, off, u, e, hb, hu, hc⟩ := h j hj
  refine ⟨b, off, u, e, hb, hu, ?_⟩
  rw [← hc]
  exact hg.cell_far ⟨b, off + j, none⟩ (by simp; omega) (by simp; omega)
structure SrcF (w : World) (B : Nat) (A : Option Addr) (n c : Nat) (at' seed : Int) : Prop where
  own : w.ownsRow B 54 1 (.slice (some ⟨B, 0, none⟩) 3 3) 3 [.slice A n c, .int .i64 at', .int .i64 seed]
  a0 : 0 ≤ at'
  a1 : at' ≤ n
  s0 : 0 ≤ seed
  s1 : seed < 2147483647
  n1 : n ≤ 4096
  by_ : Bytes w B A n
def Src (w : World) (B : Nat) : Prop := ∃ A n c at' seed, SrcF w B A n c at' seed
def NextP (B : Nat) (n : Int) (w : World) (e : Ending) (w' : World) : Prop := ∃ r : Int, e = .returned (.int .i64 r) ∧ 0 ≤ r ∧ (1 < n → r < n) ∧ (n ≤ 1 → r = 0) ∧ Src w' B ∧ w.grownBy w' (some B)
theorem grown_refl (w : World) (row : Option Nat) : w.grownBy w row := grown_of_below (Below.refl _ _) row
theorem SrcF.set_seed {w : World} {B : Nat} {A : Option Addr} {n c : Nat} {at' seed s : Int} (h : SrcF w B A n c at' seed) (h0 : 0 ≤ s) (h1 : s < 2147483647) : SrcF (w.setCell ⟨B, 2, none⟩ (.int .i64 s)) B A n c at' s ∧ w.grownBy (w.setCell ⟨B, 2, none⟩ (.int .i64 s)) (some B) := by
  have hst := h.own.stored 2 (.int .i64 s)
  exact ⟨⟨by simpa using hst.1, h.a0, h.a1, h0, h1, h.n1, h.by_.keep (by simpa using hst.2) (by have := (own_ge h.own).2; omega)⟩, by simpa using hst.2⟩
theorem SrcF.set_at {w : World} {B : Nat} {A : Option Addr} {n c : Nat} {at' seed a : Int} (h : SrcF w B A n c at' seed) (h0 : 0 ≤ a) (h1 : a ≤ n) : SrcF (w.setCell ⟨B, 1, none⟩ (.int .i64 a)) B A n c a seed ∧ w.grownBy (w.setCell ⟨B, 1, none⟩ (.int .i64 a)) (some B) := by
  have hst := h.own.stored 1 (.int .i64 a)
  exact ⟨⟨by simpa using hst.1, h0, h1, h.s0, h.s1, h.n1, h.by_.keep (by simpa using hst.2) (by have := (own_ge h.own).2; omega)⟩, by simpa using hst.2⟩
theorem SrcF.drewN {w : World} {B : Nat} {A : Option Addr} {n c : Nat} {at' seed : Int} (h : SrcF w B A n c at' seed) (k : Nat) : SrcF (w.drewN k) B A n c at' seed :=
  ⟨own_below h.own (below_drewN (Below.refl _ _) k), h.a0, h.a1, h.s0, h.s1, h.n1, h.by_⟩
set_option maxHeartbeats 2000000 in
set_option maxRecDepth 100000 in
theorem c_Next (B : Nat) (n : Int) (w : World) (h : Src w B) (hn : n ≤ 9223372036854775807) : Calls Try.prog 30 #[.pointer (some ⟨B, 0, none⟩), .int .i64 n] w (NextP B n w) := by
  obtain ⟨A, m, c, a, seed, hf⟩ := h
  rcases Int.lt_or_le 1 n with hn1 | hn1
  · obtain ⟨v0, v1, v2, f0, f1, f2, _, hlt⟩ := three_cells hf.own
    have hs0 := hf.s0
    have hs1 := hf.s1
    have hn1m := hf.n1
    have ha0 := hf.a0
    have ha1 := hf.a1
    have hr0 := Int.emod_nonneg (seed * 48271 + 29) (b := 2147483647) (by decide)
    have hr1 := Int.emod_lt_of_pos (seed * 48271 + 29) (b := 2147483647) (by decide)
    have HS := Lib.hid (hf.set_seed hr0 hr1)
    clear hf
    go_enter Try.func30, Try.ntmps30
    go_wp2_with (fail)
    generalize (seed * 48271 + 29) % 2147483647 = s at hr0 hr1 HS ⊢
    have hf := HS.out.1
    have HG := Lib.hid HS.out.2
    generalize w.setCell ⟨B, 2, none⟩ (.int .i64 s) = W at hf HG ⊢
    clear v0 v1 v2 f0 f1 f2 HS hlt
    obtain ⟨v0, v1, v2, f0, f1, f2, _, hlt⟩ := three_cells hf.own
    obtain ⟨k, rfl⟩ : ∃ k : Nat, a = k := ⟨a.toNat, by omega⟩
    have hx0 : 0 ≤ s / 31 := Int.ediv_nonneg hr0 (by decide)
    have hx1 : s / 31 ≤ 2147483647 := by omega
    generalize s / 31 = x at hx0 hx1 ⊢
    by_cases ham : k < m
    · obtain ⟨b, off, u, rfl, hbB, hu, hc⟩ := hf.by_ k ham
      have HF := Lib.hid hf
      have hd : decide ((k : Int) < m) = true := by simp; omega
      clear hf
      go_region_held3 (fun w' => w'.cell? ⟨B, 0, none⟩ = some (.slice (some ⟨b, off, none⟩) m c) ∧ w'.cell? ⟨B, 1, none⟩ = some (.int .i64 k)) (exact ⟨v0, v1⟩) (fail)
      go_wp2_with (fail)
      have hw1 : IntKind.i64.wrap (x + (u : Int)) = x + u := IntWalk.i64_in _ (by omega)
      have hw2 : IntKind.i64.wrap (u : Int) = u := IntWalk.i64_in _ (by omega)
      have hk0 : (0 : Int) ≤ (k : Int) := by omega
      have hk1 : (k : Int) < m := by omega
      go_region_held3 (fun w' => w'.cell? ⟨B, 0, none⟩ = some (.slice (some ⟨b, off, none⟩) m c) ∧ w'.cell? ⟨B, 1, none⟩ = some (.int .i64 k) ∧ w'.cell? ⟨b, off + k, none⟩ = some (.int .u8 u)) (exact ⟨v0, v1, hc⟩) (fail)
      go_wp2_with (fail)
      clear hw1 hw2
      all_goals
        have HS := Lib.hid (HF.out.set_at (a := (k : Int) + 1) (by omega) (by omega))
        have hlt2 : b < W.heap.size := by omega
        have hne : ¬ b = B := by omega
        have hw3 : IntKind.i64.wrap ((k : Int) + 1 - 1) = k := by rw [show (k : Int) + 1 - 1 = k by omega]; exact IntWalk.i64_in _ (by omega)
        have hw5 : IntKind.i64.wrap (k : Int) = k := IntWalk.i64_in _ (by omega)
        have j0 : ((W.setCell ⟨B, 1, none⟩ (.int .i64 ((k : Int) + 1))).drew.drew).cell? ⟨B, 0, none⟩ = some (.slice (some ⟨b, off, none⟩) m c) := by go_simp
        have j1 : ((W.setCell ⟨B, 1, none⟩ (.int .i64 ((k : Int) + 1))).drew.drew).cell? ⟨B, 1, none⟩ = some (.int .i64 ((k : Int) + 1)) := by go_simp
        have j2 : ((W.setCell ⟨B, 1, none⟩ (.int .i64 ((k : Int) + 1))).drew.drew).cell? ⟨b, off + k, none⟩ = some (.int .u8 u) := by go_simp
        have HQ : Hid (Src ((W.setCell ⟨B, 1, none⟩ (.int .i64 ((k : Int) + 1))).drew.drew) B ∧ w.grownBy ((W.setCell ⟨B, 1, none⟩ (.int .i64 ((k : Int) + 1))).drew.drew) (some B)) := Lib.hid ⟨⟨_, _, _, _, _, HS.out.1.drewN 2⟩, grown_trans (grown_trans HG.out HS.out.2) (grown_of_below (Below.refl _ _).drew.drew _)⟩
        generalize ((W.setCell ⟨B, 1, none⟩ (.int .i64 ((k : Int) + 1))).drew.drew) = W2 at j0 j1 j2 HQ ⊢
        clear HS HF hc v0 v1 v2 f0 f1 f2
        have HR := Lib.hid (fun (y : Int) (hy : 0 ≤ y) => (show 0 ≤ y % n ∧ y % n < n from ⟨Int.emod_nonneg y (by omega), Int.emod_lt_of_pos y (by omega)⟩))
      all_goals try
        (go_region_held3 (fun w' => w'.cell? ⟨B, 0, none⟩ = some (.slice (some ⟨b, off, none⟩) m c) ∧ w'.cell? ⟨B, 1, none⟩ = some (.int .i64 ((k : Int) + 1)) ∧ w'.cell? ⟨b, off + k, none⟩ = some (.int .u8 u)) (exact ⟨j0, j1, j2⟩) (fail)
         go_wp2_with (fail)
         go_ret
         exact ⟨(u : Int) % n, rfl, (HR.out _ (by omega)).1, fun _ => (HR.out _ (by omega)).2, fun h => by omega, (let ⟨A, m, c, a, s, h⟩ := HQ.out.1; ⟨A, m, c, a, s, h.drewN 1⟩), grown_trans HQ.out.2 (grown_of_below (Below.refl _ _).drew _)⟩)
      all_goals
        go_ret
        exact ⟨(x + u) % n, rfl, (HR.out _ (by omega)).1, fun _ => (HR.out _ (by omega)).2, fun h => by omega, HQ.out.1, HQ.out.2⟩
    · have hd : decide ((k : Int) < m) = false := by simp; omega
      have HSR := Lib.hid (show Src W B from ⟨A, m, c, k, s, hf⟩)
      have HSD := Lib.hid (show Src W.drew B from ⟨A, m, c, k, s, hf.drewN 1⟩)
      have hq0 := Int.emod_nonneg x (b := n) (by omega)
      have hq1 := Int.emod_lt_of_pos x (b := n) (by omega)
      clear hf
      go_region_held3 (fun w' => w'.cell? ⟨B, 0, none⟩ = some (.slice A m c) ∧ w'.cell? ⟨B, 1, none⟩ = some (.int .i64 k)) (exact ⟨v0, v1⟩) (fail)
      go_wp2_with (fail)
      go_ret
      refine ⟨x % n, rfl, hq0, fun _ => hq1, fun h => by omega, HSD.out, ?_⟩
      exact grown_trans HG.out (grown_of_below (Below.refl _ _).drew _)
  · have HS := Lib.hid (show Src w B from ⟨A, m, c, a, seed, hf⟩)
    go_enter Try.func30, Try.ntmps30
    go_wp2
    go_ret
    exact ⟨0, rfl, by omega, fun h => by omega, fun _ => rfl, HS.out, grown_refl _ _⟩
end Go.Proofs.Ythkghpmfbdojeaa
