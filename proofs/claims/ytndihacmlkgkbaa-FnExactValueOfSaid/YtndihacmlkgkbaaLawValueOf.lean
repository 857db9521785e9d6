/- The walk of the law FnExactValueOf. No condition but the lengths. -/
import Derived.Test.YtndihacmlkgkbaaDgQv
namespace Go.Proofs.Ytndihacmlkgkbaa
open Go.RowKit

theorem sz_big {n : Nat} (h : 1048576 < n) : szI 1048576 n = -1 := by unfold szI; rw [if_pos (by omega)]
theorem sz_ok {n : Nat} (h : n ≤ 1048576) : szI 1048576 n = 1048576 - n := by unfold szI; rw [if_neg (by omega)]
set_option maxHeartbeats 1000000 in
set_option maxRecDepth 100000 in
theorem law_ValueOf (x r : Int) (A : Option Addr) (c n : Nat) (l : List Nd) (A' : Option Addr) (c' n' : Nat) (bs : List Int) (w : World) (hn : n = l.length) (hm : n ≤ 9223372036854775807) (hr : Rd w A (ndCells l)) (hn' : n' = bs.length) (hm' : n' ≤ 9223372036854775807) (hr' : Rd w A' (ints bs)) :
    Calls Try.prog 7 #[.agg #[.int .i64 x, .slice A n c, .int .i64 r], .slice A' n' c'] w fun e w' => e = .returned (.bool true) ∧ Below w.heap.size w w' := by
  have HN := Lib.hid hn
  have HN' := Lib.hid hn'
  have H := Lib.hid hr
  have H' := Lib.hid hr'
  clear hn hr hn' hr'
  rcases Nat.lt_or_ge 1048576 n' with hs' | hs'
  · skip
    go_enter Try.func7, Try.ntmps7
    go_wp2
    go_ret
    exact ⟨rfl, by (repeat (first | exact Below.refl _ _ | assumption | refine below_alloc ?_ _ | refine below_drewN ?_ _ | refine below_set ?_ _ (by simp; try omega) | refine Below.drew ?_))⟩
  have HZ := Lib.hid (fun w => c_szDiagram x r A c n 1048576 w hm (by omega) (by omega))
  rcases Nat.lt_or_ge 1048576 n with hs | hs
  · rw [sz_big hs] at HZ
    go_enter Try.func7, Try.ntmps7
    go_wp2_with (fail)
    refine (HZ.out _).mono ?_
    rintro e w1 ⟨rfl, hb⟩
    have B : Below w.heap.size w w1 := below_chain (by (repeat (first | exact Below.refl _ _ | assumption | refine below_alloc ?_ _ | refine below_drewN ?_ _ | refine below_set ?_ _ (by simp; try omega) | refine Below.drew ?_))) hb
    clear hb
    go_wp2_with (fail)
    go_ret
    exact ⟨rfl, B⟩
  rw [sz_ok hs] at HZ
  have HT := Lib.hid (fun w' h => c_toDiagram x r A c n l w' HN.out hs h)
  have HTI := Lib.hid (fun w' h => c_toInt64S A' c' n' bs w' HN'.out hs' h)
  have HSI := Lib.hid (fun a q a' q' w' h h' => c_sValueOf x r a q l.length l a' q' bs.length bs w' rfl (by have := HN.out; omega) h rfl (by have := HN'.out; omega) h')
  have HI := Lib.hid (fun a q a' q' w' h h' => c_ValueOf x r a q l.length l a' q' bs.length bs w' rfl (by have := HN.out; omega) h rfl (by have := HN'.out; omega) h')
  have HE := Lib.hid (fun a q a' q' w' h h' => c_eqDiagram x r a a' q q' l.length l.length l w' rfl rfl (by have := HN.out; omega) h h')
  have HEI := Lib.hid (fun a q a' q' w' h h' => c_eqInt64S a a' q q' bs.length bs.length bs w' rfl rfl (by have := HN'.out; omega) h h')
  generalize valV x l r bs = V at HSI HI
  generalize valC x l r bs = E at HSI HI
  go_enter Try.func7, Try.ntmps7
  go_wp2_with (fail)
  refine (HZ.out _).mono ?_
  rintro e w1 ⟨rfl, hb⟩
  have a0 : w1.cell? ⟨w.heap.size, 0, none⟩ = some (.int .i64 x) := cell_later hb (by go_simp)
  have a1 : w1.cell? ⟨w.heap.size, 1, none⟩ = some (.slice A n c) := cell_later hb (by go_simp)
  have a2 : w1.cell? ⟨w.heap.size, 2, none⟩ = some (.int .i64 r) := cell_later hb (by go_simp)
  have B : Below w.heap.size w w1 := below_chain (by (repeat (first | exact Below.refl _ _ | assumption | refine below_alloc ?_ _ | refine below_drewN ?_ _ | refine below_set ?_ _ (by simp; try omega) | refine Below.drew ?_))) hb
  clear hb
  go_wp2_with (fail)
  refine (HT.out _ (H.out.below B)).mono ?_
  rintro e w2 ⟨A2, c2, rfl, ho, hb⟩
  have hstep : Below w1.heap.size w1 w2 := below_chain (by (repeat (first | exact Below.refl _ _ | assumption | refine below_alloc ?_ _ | refine below_drewN ?_ _ | refine below_set ?_ _ (by simp; try omega) | refine Below.drew ?_))) hb
  replace a0 := cell_later hstep a0
  replace a1 := cell_later hstep a1
  replace a2 := cell_later hstep a2
  replace B := below_chain B hstep
  have m2 := Rd.own ho
  clear ho
  clear hb hstep
  go_wp2_with (fail)
  refine (HTI.out _ (H'.out.below B)).mono ?_
  rintro e w3 ⟨A3, c3, rfl, ho, hb⟩
  have hstep : Below w2.heap.size w2 w3 := below_chain (by (repeat (first | exact Below.refl _ _ | assumption | refine below_alloc ?_ _ | refine below_drewN ?_ _ | refine below_set ?_ _ (by simp; try omega) | refine Below.drew ?_))) hb
  replace m2 := m2.below hstep
  replace a0 := cell_later hstep a0
  replace a1 := cell_later hstep a1
  replace a2 := cell_later hstep a2
  replace B := below_chain B hstep
  have i3 := Rd.own ho
  clear ho
  clear hb hstep
  go_wp2_with (fail)
  refine (HSI.out _ _ _ _ _ m2 i3).mono ?_
  rintro e w4 ⟨rfl, hb⟩
  have hstep : Below w3.heap.size w3 w4 := below_chain (by (repeat (first | exact Below.refl _ _ | assumption | refine below_alloc ?_ _ | refine below_drewN ?_ _ | refine below_set ?_ _ (by simp; try omega) | refine Below.drew ?_))) hb
  replace m2 := m2.below hstep
  replace i3 := i3.below hstep
  replace a0 := cell_later hstep a0
  replace a1 := cell_later hstep a1
  replace a2 := cell_later hstep a2
  replace B := below_chain B hstep
  clear hb hstep
  clear m2 i3
  go_wp2_with (fail)
  refine (HT.out _ (H.out.below B)).mono ?_
  rintro e w5 ⟨A5, c5, rfl, ho, hb⟩
  have hstep : Below w4.heap.size w4 w5 := below_chain (by (repeat (first | exact Below.refl _ _ | assumption | refine below_alloc ?_ _ | refine below_drewN ?_ _ | refine below_set ?_ _ (by simp; try omega) | refine Below.drew ?_))) hb
  replace a0 := cell_later hstep a0
  replace a1 := cell_later hstep a1
  replace a2 := cell_later hstep a2
  replace B := below_chain B hstep
  have m5 := Rd.own ho
  clear ho
  clear hb hstep
  have hz5 := World.block_lt_of_cell? _ _ a0
  go_wp2_with (fail)
  refine (HTI.out _ ((H'.out.below B).alloc _)).mono ?_
  rintro e w6 ⟨A6, c6, rfl, ho, hb⟩
  have hstep : Below w5.heap.size w5 w6 := below_chain (by (repeat (first | exact Below.refl _ _ | assumption | refine below_alloc ?_ _ | refine below_drewN ?_ _ | refine below_set ?_ _ (by simp; try omega) | refine Below.drew ?_))) hb
  replace m5 := m5.below hstep
  replace a0 := cell_later hstep a0
  replace a1 := cell_later hstep a1
  replace a2 := cell_later hstep a2
  replace B := below_chain B hstep
  have i6 := Rd.own ho
  clear ho
  have x0 : w6.cell? ⟨w5.heap.size, 0, none⟩ = some (.int .i64 x) := cell_later hb (by go_simp)
  have x1 : w6.cell? ⟨w5.heap.size, 1, none⟩ = some (.slice A5 l.length c5) := cell_later hb (by go_simp)
  have x2 : w6.cell? ⟨w5.heap.size, 2, none⟩ = some (.int .i64 r) := cell_later hb (by go_simp)
  clear hb hstep
  go_wp2_with (fail)
  refine (HI.out _ _ _ _ _ m5 i6).mono ?_
  rintro e w7 ⟨rfl, hb⟩
  have hstep : Below w6.heap.size w6 w7 := below_chain (by (repeat (first | exact Below.refl _ _ | assumption | refine below_alloc ?_ _ | refine below_drewN ?_ _ | refine below_set ?_ _ (by simp; try omega) | refine Below.drew ?_))) hb
  replace m5 := m5.below hstep
  replace i6 := i6.below hstep
  replace a0 := cell_later hstep a0
  replace a1 := cell_later hstep a1
  replace a2 := cell_later hstep a2
  replace x0 := cell_later hstep x0
  replace x1 := cell_later hstep x1
  replace x2 := cell_later hstep x2
  replace B := below_chain B hstep
  clear hb hstep
  go_wp2_with (fail)
  have HB := Lib.hid B
  have M5 := Lib.hid m5
  have I6 := Lib.hid i6
  clear B m5 i6
  refine wp_region_held_drew (S := (fun w' => (w'.cell? ⟨w5.heap.size, 0, none⟩ = some (.int .i64 x) ∧ w'.cell? ⟨w5.heap.size, 1, none⟩ = some (.slice A5 l.length c5) ∧ w'.cell? ⟨w5.heap.size, 2, none⟩ = some (.int .i64 r)) ∧ w'.cell? ⟨w.heap.size, 0, none⟩ = some (.int .i64 x) ∧ w'.cell? ⟨w.heap.size, 1, none⟩ = some (.slice A n c) ∧ w'.cell? ⟨w.heap.size, 2, none⟩ = some (.int .i64 r))) (by kernel_rfl) ?_ (fun hHeld => ?_)
  · exact ⟨⟨x0, x1, x2⟩, a0, a1, a2⟩
  refine rg_take (v := ?_) 0 rfl (by kernel_rfl) (by kernel_rfl) (by kernel_rfl) (fun _ _ _ h => h) (by kernel_rfl) ?_ (by assumption) ?_
  rotate_left
  · (intro w' hSw; (try dsimp only at hSw); go_simp; first | done | with_reducible rfl)
  simp only [Act.put, List.setIfInBounds_toArray, List.set_cons_zero, List.set_cons_succ]
  refine rg_take (v := ?_) 1 rfl (by kernel_rfl) (by kernel_rfl) (by kernel_rfl) (fun _ _ _ h => h) (by kernel_rfl) ?_ (by assumption) ?_
  rotate_left
  · (intro w' hSw; (try dsimp only at hSw); go_simp; first | done | with_reducible rfl)
  simp only [Act.put, List.setIfInBounds_toArray, List.set_cons_zero, List.set_cons_succ]
  refine rg_run 2 rfl (by kernel_rfl) (by kernel_rfl) (fun K hK => ?_)
  go_simp
  refine (HT.out _ (H.out.below (by exact HB.out.drew))).mono ?_
  rintro e w8 ⟨A8, c8, rfl, ho, hb⟩
  replace x0 := cell_later hb (by exact x0)
  replace x1 := cell_later hb (by exact x1)
  replace x2 := cell_later hb (by exact x2)
  replace a0 := cell_later hb (by exact a0)
  replace a1 := cell_later hb (by exact a1)
  replace a2 := cell_later hb (by exact a2)
  have HB8 := Lib.hid (show Below w7.heap.size w7 w8 from below_chain (by exact (Below.refl _ _).drew) hb)
  have m8 := Lib.hid (Rd.own ho)
  clear hb ho
  go_wp2
  clear hHeld
  refine hK.out _ _ ⟨⟨x0, x1, x2⟩, a0, a1, a2⟩ (fun hHeld => ?_)
  clear hK K
  try simp only [Act.put, List.setIfInBounds_toArray, List.set_cons_zero, List.set_cons_succ]
  refine rg_run 3 rfl (by kernel_rfl) (by kernel_rfl) (fun K hK => ?_)
  go_simp
  refine (HE.out _ _ _ _ _ (M5.out.below HB8.out) m8.out).mono ?_
  rintro e w9 ⟨rfl, hb⟩
  replace x0 := cell_later hb (by exact x0)
  replace x1 := cell_later hb (by exact x1)
  replace x2 := cell_later hb (by exact x2)
  replace a0 := cell_later hb (by exact a0)
  replace a1 := cell_later hb (by exact a1)
  replace a2 := cell_later hb (by exact a2)
  have HB9 := Lib.hid (below_chain HB8.out hb)
  clear hb
  go_wp2
  clear hHeld
  refine hK.out _ _ ⟨⟨x0, x1, x2⟩, a0, a1, a2⟩ (fun hHeld => ?_)
  clear hK K
  try simp only [Act.put, List.setIfInBounds_toArray, List.set_cons_zero, List.set_cons_succ]
  refine rg_take (v := ?_) 4 rfl (by kernel_rfl) (by kernel_rfl) (by kernel_rfl) (fun _ _ _ h => h) (by kernel_rfl) ?_ (by assumption) ?_
  rotate_left
  · (intro w' hSw; (try dsimp only at hSw); go_simp; first | done | with_reducible rfl)
  simp only [Act.put, List.setIfInBounds_toArray, List.set_cons_zero, List.set_cons_succ]
  refine wpAnyH_done (by kernel_rfl) ?_ _
  clear hHeld
  have B := below_chain HB.out HB9.out
  have i9 := I6.out.below HB9.out
  clear HB HB8 HB9 M5 I6 m8 a0 a1 a2 x0 x1 x2
  go_wp2_with (fail)
  refine (HTI.out _ (H'.out.below B)).mono ?_
  rintro e w10 ⟨A10, c10, rfl, ho, hb⟩
  have hstep : Below w9.heap.size w9 w10 := below_chain (by (repeat (first | exact Below.refl _ _ | assumption | refine below_alloc ?_ _ | refine below_drewN ?_ _ | refine below_set ?_ _ (by simp; try omega) | refine Below.drew ?_))) hb
  replace i9 := i9.below hstep
  replace B := below_chain B hstep
  have i10 := Rd.own ho
  clear ho
  clear hb hstep
  go_wp2_with (fail)
  refine (HEI.out _ _ _ _ _ i9 i10).mono ?_
  rintro e w11 ⟨rfl, hb⟩
  have hstep : Below w10.heap.size w10 w11 := below_chain (by (repeat (first | exact Below.refl _ _ | assumption | refine below_alloc ?_ _ | refine below_drewN ?_ _ | refine below_set ?_ _ (by simp; try omega) | refine Below.drew ?_))) hb
  replace i9 := i9.below hstep
  replace B := below_chain B hstep
  clear hb hstep
  go_wp2_with (fail)
  go_ret
  exact ⟨rfl, B⟩
end Go.Proofs.Ytndihacmlkgkbaa
