/- Contracts of l01From, l01Pick: the source at its start, one of some numbers. Condition: at most 4096 bytes of code; lists that are not empty. -/
import Derived.Test.YthkghpmfbdojeaaSrc
import Derived.Test.YthkghpmfbdojeaaStillD
namespace Go.Proofs.Ythkghpmfbdojeaa
open Go.RowKit

theorem Src.drew {w : World} {B : Nat} (h : Src w B) : Src w.drew B := let ⟨A, m, c, a, s, h⟩ := h; ⟨A, m, c, a, s, h.drewN 1⟩
theorem Src.lt {w : World} {B : Nat} (h : Src w B) : B < w.heap.size := let ⟨_, _, _, _, _, h⟩ := h; (own_ge h.own).2
theorem Src.far {w w' : World} {B : Nat} {row : Option Nat} (h : Src w B) (hg : w.grownBy w' row) (hr : ∀ q, row = some q → B < q) : Src w' B := by
  have hlt := h.lt
  obtain ⟨A, m, c, a, s, h⟩ := h
  refine ⟨A, m, c, a, s, h.own.kept hg (.inr ?_), h.a0, h.a1, h.s0, h.s1, h.n1, ?_⟩
  · intro e
    have := hr B (by rw [← e]; rfl)
    omega
  · intro j hj
    obtain ⟨b, off, u, e, hb, hu, hc⟩ := h.by_ j hj
    refine ⟨b, off, u, e, hb, hu, ?_⟩
    rw [← hc]
    exact hg.cell_far ⟨b, off + j, none⟩ (by simp; omega) (fun e => by have := hr _ e.symm; simp at this; omega)
theorem Src.below {w w' : World} {B : Nat} (h : Src w B) (hb : Below w.heap.size w w') : Src w' B := h.far (grown_of_below hb none) (by simp)
theorem Src.alloc {w : World} {B : Nat} (h : Src w B) (o : Obj) : Src (w.alloc o) B := h.below (below_alloc (Below.refl _ _) o)
set_option maxRecDepth 100000 in
theorem c_From (A : Option Addr) (c n : Nat) (w : World) (hn : n ≤ 4096) (hb : Bytes w w.heap.size A n) :
    Calls Try.prog 13 #[.slice A n c] w fun e w' => e = .returned (.pointer (some ⟨w.heap.size, 0, none⟩)) ∧ Src w' w.heap.size ∧ Below w.heap.size w w' := by
  have hown := own_three (w := w) (.slice A n c) (.int .i64 0) (.int .i64 52021)
  have hf : SrcF (w.alloc (.cells #[.slice A n c, .int .i64 0, .int .i64 52021] 54)) w.heap.size A n c 0 52021 :=
    ⟨hown, by omega, by omega, by omega, by omega, hn, hb.keep (grown_of_below (below_alloc (Below.refl _ _) _) _) (Nat.le_refl _)⟩
  have HF := Lib.hid hf
  clear hf hown hb
  go_enter Try.func13, Try.ntmps13
  go_wp2
  go_loopw [4] (fun v wr => ∃ (k : Nat) (s : Int), k ≤ 64 ∧ k ≤ n ∧ v = .int .i64 k ∧ SrcF wr w.heap.size A n c 0 s ∧ Below w.heap.size w wr) (fun v _ => n - (intOf v).toNat)
  case atStart => exact ⟨0, 52021, by omega, Nat.zero_le _, rfl, HF.out, by (repeat (first | exact Below.refl _ _ | assumption | refine below_alloc ?_ _ | refine below_drewN ?_ _ | refine below_set ?_ _ (by simp; try omega) | refine Below.drew ?_))⟩
  case round =>
    obtain ⟨k, s, hk, hkn, rfl, hf, hb⟩ := hrel
    clear HF
    by_cases hlt : k < n ∧ k < 64
    · obtain ⟨hlt, hlt64⟩ := hlt
      obtain ⟨b, off, u, rfl, hbB, hu, hc⟩ := hf.by_ k hlt
      obtain ⟨v0, v1, v2, f0, f1, f2, _, hltw⟩ := three_cells hf.own
      have hs0 := hf.s0
      have hs1 := hf.s1
      have hr0 := Int.emod_nonneg (s * 59 + (u : Int)) (b := 2147483647) (by decide)
      have hr1 := Int.emod_lt_of_pos (s * 59 + (u : Int)) (b := 2147483647) (by decide)
      have hw1 : IntKind.i64.wrap (s * 59) = s * 59 := IntWalk.i64_in _ (by omega)
      have hw2 : IntKind.i64.wrap (u : Int) = u := IntWalk.i64_in _ (by omega)
      have hw3 : IntKind.i64.wrap (s * 59 + (u : Int)) = s * 59 + u := IntWalk.i64_in _ (by omega)
      have hw4 : (s * 59 + (u : Int)).tmod 2147483647 = (s * 59 + (u : Int)) % 2147483647 := Int.tmod_eq_emod_of_nonneg (by omega)
      have hk0 : (0 : Int) ≤ (k : Int) := by omega
      have hk1 : (k : Int) < n := by omega
      have HS := Lib.hid (hf.set_seed hr0 hr1)
      have HB := Lib.hid hb
      clear hf hb
      go_wp2_with (fail)
      refine wp_still_drew 15 (by kernel_rfl) (by kernel_rfl) ?_
      simp only [List.take_succ_cons, List.take_zero, List.drop_succ_cons, List.drop_zero]
      repeat still_step
      try refine wpStill_nil ?_
      clear hw1 hw2 hw3 hw4
      go_wp2
      have HD : Hid (SrcF ((wr.setCell ⟨w.heap.size, 2, none⟩ (.int .i64 ((s * 59 + (u : Int)) % 2147483647))).drew) w.heap.size (some ⟨b, off, none⟩) n c 0 ((s * 59 + (u : Int)) % 2147483647) ∧ Below w.heap.size w ((wr.setCell ⟨w.heap.size, 2, none⟩ (.int .i64 ((s * 59 + (u : Int)) % 2147483647))).drew)) :=
        Lib.hid ⟨HS.out.1.drewN 1, (below_of_grown HB.out HS.out.2 (by simp)).drew⟩
      go_roundw
      case rel => exact ⟨k + 1, _, by omega, by omega, by go_num, HD.out.1, HD.out.2⟩
      case measure => simp [intOf]; omega
    · have HFF := Lib.hid hf
      have HB := Lib.hid hb
      have hd : (decide ((k : Int) < n) && decide ((k : Int) < 64)) = false := by simp; omega
      clear hf hb
      rcases Nat.lt_or_ge k n with h1 | h1
      · have h2 : ¬ k < 64 := by omega
        go_wp2
        go_ret
        exact ⟨rfl, ⟨_, _, _, _, _, HFF.out⟩, HB.out⟩
      · go_wp2
        go_ret
        exact ⟨rfl, ⟨_, _, _, _, _, HFF.out⟩, HB.out⟩
end Go.Proofs.Ythkghpmfbdojeaa
