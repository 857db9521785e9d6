/- The walk of the law FnExactCountOnes. No condition but the lengths. -/
import Derived.Test.YtndihacmlkgkbaaDgKt
namespace Go.Proofs.Ytndihacmlkgkbaa
open Go.RowKit

theorem sz_big {n : Nat} (h : 1048576 < n) : szI 1048576 n = -1 := by unfold szI; rw [if_pos (by omega)]
theorem sz_ok {n : Nat} (h : n ≤ 1048576) : szI 1048576 n = 1048576 - n := by unfold szI; rw [if_neg (by omega)]
set_option maxHeartbeats 1000000 in
set_option maxRecDepth 100000 in
theorem law_CountOnes (x r : Int) (A : Option Addr) (c n : Nat) (l : List Nd) (w : World) (hn : n = l.length) (hm : n ≤ 9223372036854775807) (hr : Rd w A (ndCells l)) :
    Calls Try.prog 4 #[.agg #[.int .i64 x, .slice A n c, .int .i64 r]] w fun e w' => e = .returned (.bool true) ∧ Below w.heap.size w w' := by
  have HN := Lib.hid hn
  clear hn
  have H := Lib.hid hr
  clear hr
  have HZ := Lib.hid (fun w => c_szDiagram x r A c n 1048576 w hm (by omega) (by omega))
  rcases Nat.lt_or_ge 1048576 n with hs | hs
  · rw [sz_big hs] at HZ
    go_enter Try.func4, Try.ntmps4
    go_wp2_with (fail)
    refine (HZ.out _).mono ?_
    rintro e w1 ⟨rfl, hb⟩
    have B : Below w.heap.size w w1 := below_chain (by (repeat (first | exact Below.refl _ _ | assumption | refine below_alloc ?_ _ | refine below_drewN ?_ _ | refine below_set ?_ _ (by simp; try omega) | refine Below.drew ?_))) hb
    clear hb
    go_wp2_with (fail)
    go_ret
    exact ⟨rfl, B⟩
  rw [sz_ok hs] at HZ
  have HT := Lib.hid (fun w' h => c_toDiagram x r A c n l w' HN.out hs h)
  have HSI := Lib.hid (fun a q w' h => c_sCountOnes x r a q l.length l w' rfl (by have := HN.out; omega) h)
  have HI := Lib.hid (fun a q w' h => c_CountOnes x r a q l.length l w' rfl (by have := HN.out; omega) h)
  have HE := Lib.hid (fun a q a' q' w' h h' => c_eqDiagram x r a a' q q' l.length l.length l w' rfl rfl (by have := HN.out; omega) h h')
  generalize onesV x l r = V at HSI HI
  generalize errD x l r = E at HSI HI
  go_enter Try.func4, Try.ntmps4
  go_wp2_with (fail)
  refine (HZ.out _).mono ?_
  rintro e w1 ⟨rfl, hb⟩
  have a0 : w1.cell? ⟨w.heap.size, 0, none⟩ = some (.int .i64 x) := cell_later hb (by go_simp)
  have a1 : w1.cell? ⟨w.heap.size, 1, none⟩ = some (.slice A n c) := cell_later hb (by go_simp)
  have a2 : w1.cell? ⟨w.heap.size, 2, none⟩ = some (.int .i64 r) := cell_later hb (by go_simp)
  have B : Below w.heap.size w w1 := below_chain (by (repeat (first | exact Below.refl _ _ | assumption | refine below_alloc ?_ _ | refine below_drewN ?_ _ | refine below_set ?_ _ (by simp; try omega) | refine Below.drew ?_))) hb
  clear hb
  go_wp2_with (fail)
  refine (HT.out _ (H.out.below B)).mono ?_
  rintro e w2 ⟨A2, c2, rfl, ho, hb⟩
  have m2 := Rd.own ho
  replace a0 := cell_later hb a0
  replace a1 := cell_later hb a1
  replace a2 := cell_later hb a2
  replace B := below_chain B hb
  clear hb ho
  go_wp2_with (fail)
  refine (HSI.out _ _ _ m2).mono ?_
  rintro e w3 ⟨rfl, hb⟩
  replace a0 := cell_later hb a0
  replace a1 := cell_later hb a1
  replace a2 := cell_later hb a2
  replace B := below_chain B hb
  clear hb m2
  go_wp2_with (fail)
  refine (HT.out _ (H.out.below B)).mono ?_
  rintro e w4 ⟨A4, c4, rfl, ho, hb⟩
  have m4 := Rd.own ho
  replace a0 := cell_later hb a0
  replace a1 := cell_later hb a1
  replace a2 := cell_later hb a2
  replace B := below_chain B hb
  clear hb ho
  have hz4 := World.block_lt_of_cell? _ _ a0
  go_wp2_with (fail)
  refine (HI.out _ _ _ (m4.alloc _)).mono ?_
  rintro e w5 ⟨rfl, hb⟩
  have x0 : w5.cell? ⟨w4.heap.size, 0, none⟩ = some (.int .i64 x) := cell_later hb (by go_simp)
  have x1 : w5.cell? ⟨w4.heap.size, 1, none⟩ = some (.slice A4 l.length c4) := cell_later hb (by go_simp)
  have x2 : w5.cell? ⟨w4.heap.size, 2, none⟩ = some (.int .i64 r) := cell_later hb (by go_simp)
  have hstep : Below w4.heap.size w4 w5 := below_chain (by (repeat (first | exact Below.refl _ _ | assumption | refine below_alloc ?_ _ | refine below_drewN ?_ _ | refine below_set ?_ _ (by simp; try omega) | refine Below.drew ?_))) hb
  replace a0 := cell_later hstep a0
  replace a1 := cell_later hstep a1
  replace a2 := cell_later hstep a2
  replace B := below_chain B hstep
  have m5 := Lib.hid (m4.below hstep)
  clear hb hstep m4
  go_wp2_with (fail)
  have HB := Lib.hid B
  clear B
  refine wp_region_held_drew (S := (fun w' => (w'.cell? ⟨w4.heap.size, 0, none⟩ = some (.int .i64 x) ∧ w'.cell? ⟨w4.heap.size, 1, none⟩ = some (.slice A4 l.length c4) ∧ w'.cell? ⟨w4.heap.size, 2, none⟩ = some (.int .i64 r)) ∧ w'.cell? ⟨w.heap.size, 0, none⟩ = some (.int .i64 x) ∧ w'.cell? ⟨w.heap.size, 1, none⟩ = some (.slice A n c) ∧ w'.cell? ⟨w.heap.size, 2, none⟩ = some (.int .i64 r))) (by kernel_rfl) ?_ (fun hHeld => ?_)
  · exact ⟨⟨x0, x1, x2⟩, a0, a1, a2⟩
  refine rg_take (v := ?_) 0 rfl (by kernel_rfl) (by kernel_rfl) (by kernel_rfl) (fun _ _ _ h => h) (by kernel_rfl) ?_ (by assumption) ?_
  rotate_left
  · (intro w' hSw; (try dsimp only at hSw); go_simp; first | done | with_reducible rfl)
  simp only [Act.put, List.setIfInBounds_toArray, List.set_cons_zero, List.set_cons_succ]
  refine rg_take (v := ?_) 1 rfl (by kernel_rfl) (by kernel_rfl) (by kernel_rfl) (fun _ _ _ h => h) (by kernel_rfl) ?_ (by assumption) ?_
  rotate_left
  · (intro w' hSw; (try dsimp only at hSw); go_simp; first | done | with_reducible rfl)
  simp only [Act.put, List.setIfInBounds_toArray, List.set_cons_zero, List.set_cons_succ]
  refine rg_run 2 rfl (by kernel_rfl) (by kernel_rfl) (fun K hK => ?_)
  go_simp
  refine (HT.out _ (H.out.below (by exact HB.out.drew))).mono ?_
  rintro e w6 ⟨A6, c6, rfl, ho, hb⟩
  replace x0 := cell_later hb (by exact x0)
  replace x1 := cell_later hb (by exact x1)
  replace x2 := cell_later hb (by exact x2)
  replace a0 := cell_later hb (by exact a0)
  replace a1 := cell_later hb (by exact a1)
  replace a2 := cell_later hb (by exact a2)
  have HB6 := Lib.hid (below_chain (by exact HB.out.drew) hb)
  have m6 := Lib.hid (Rd.below (by exact m5.out) (show Below w5.heap.size w5 w6 from below_chain (by exact (Below.refl _ _).drew) hb))
  have m7 := Lib.hid (Rd.own ho)
  clear hb ho m5
  go_wp2
  clear hHeld
  refine hK.out _ _ ⟨⟨x0, x1, x2⟩, a0, a1, a2⟩ (fun hHeld => ?_)
  clear hK K
  try simp only [Act.put, List.setIfInBounds_toArray, List.set_cons_zero, List.set_cons_succ]
  refine rg_run 3 rfl (by kernel_rfl) (by kernel_rfl) (fun K hK => ?_)
  go_simp
  refine (HE.out _ _ _ _ _ m6.out m7.out).mono ?_
  rintro e w7 ⟨rfl, hb⟩
  replace x0 := cell_later hb (by exact x0)
  replace x1 := cell_later hb (by exact x1)
  replace x2 := cell_later hb (by exact x2)
  replace a0 := cell_later hb (by exact a0)
  replace a1 := cell_later hb (by exact a1)
  replace a2 := cell_later hb (by exact a2)
  have HB7 := Lib.hid (below_chain HB6.out hb)
  clear hb
  go_wp2
  clear hHeld
  refine hK.out _ _ ⟨⟨x0, x1, x2⟩, a0, a1, a2⟩ (fun hHeld => ?_)
  clear hK K
  try simp only [Act.put, List.setIfInBounds_toArray, List.set_cons_zero, List.set_cons_succ]
  refine rg_take (v := ?_) 4 rfl (by kernel_rfl) (by kernel_rfl) (by kernel_rfl) (fun _ _ _ h => h) (by kernel_rfl) ?_ (by assumption) ?_
  rotate_left
  · (intro w' hSw; (try dsimp only at hSw); go_simp; first | done | with_reducible rfl)
  simp only [Act.put, List.setIfInBounds_toArray, List.set_cons_zero, List.set_cons_succ]
  refine wpAnyH_done (by kernel_rfl) ?_ _
  clear hHeld
  go_wp2
  go_ret
  exact ⟨rfl, HB7.out⟩
end Go.Proofs.Ytndihacmlkgkbaa
