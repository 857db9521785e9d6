/- The walk of the law FnExactFixInput. No condition but the lengths. -/
import Derived.Test.YtndihacmlkgkbaaDgXi
namespace Go.Proofs.Ytndihacmlkgkbaa
open Go.RowKit

theorem sz_big {n : Nat} (h : 1048576 < n) : szI 1048576 n = -1 := by unfold szI; rw [if_pos (by omega)]
theorem sz_ok {n : Nat} (h : n ≤ 1048576) : szI 1048576 n = 1048576 - n := by unfold szI; rw [if_neg (by omega)]
set_option maxHeartbeats 1000000 in
set_option maxRecDepth 100000 in
theorem law_FixInput (x r : Int) (A : Option Addr) (c n : Nat) (l : List Nd) (inp bit : Int) (w : World) (hn : n = l.length) (hm : n ≤ 9223372036854775807) (hr : Rd w A (ndCells l)) :
    Calls Try.prog 8 #[.agg #[.int .i64 x, .slice A n c, .int .i64 r], .int .i64 inp, .int .i64 bit] w fun e w' => e = .returned (.bool true) ∧ Below w.heap.size w w' := by
  have HN := Lib.hid hn
  clear hn
  have H := Lib.hid hr
  clear hr
  have HZ := Lib.hid (fun w => c_szDiagram x r A c n 1048576 w hm (by omega) (by omega))
  rcases Nat.lt_or_ge 1048576 n with hs | hs
  · rw [sz_big hs] at HZ
    go_enter Try.func8, Try.ntmps8
    go_wp2_with (fail)
    refine (HZ.out _).mono ?_
    rintro e w1 ⟨rfl, hb⟩
    have B : Below w.heap.size w w1 := below_chain (by (repeat (first | exact Below.refl _ _ | assumption | refine below_alloc ?_ _ | refine below_drewN ?_ _ | refine below_set ?_ _ (by simp; try omega) | refine Below.drew ?_))) hb
    clear hb
    go_wp2_with (fail)
    go_ret
    exact ⟨rfl, B⟩
  rw [sz_ok hs] at HZ
  have HT := Lib.hid (fun w' h => c_toDiagram x r A c n l w' HN.out hs h)
  have HSI := Lib.hid (fun a q w' h => c_sFixInput x r a q l.length l inp bit w' rfl (by have := HN.out; omega) h)
  have HI := Lib.hid (fun a q w' h => c_FixInput x r a q l.length l inp bit w' rfl (by have := HN.out; omega) h)
  have HE := Lib.hid (fun a q a' q' w' h h' => c_eqDiagram x r a a' q q' l.length l.length l w' rfl rfl (by have := HN.out; omega) h h')
  have HD : Hid ((fixL x l r inp bit).length ≤ 1048576) := Lib.hid (fixL_len x r inp bit l)
  generalize fixX x l r inp bit = X2 at HSI HI
  generalize fixR x l r inp bit = R2 at HSI HI
  generalize fixL x l r inp bit = L2 at HSI HI HD
  generalize fixC x l r inp bit = E at HSI HI
  have HQ := Lib.hid (fun a q a' q' w' h h' => c_eqDiagram X2 R2 a a' q q' L2.length L2.length L2 w' rfl rfl (by have := HD.out; omega) h h')
  go_enter Try.func8, Try.ntmps8
  go_wp2_with (fail)
  refine (HZ.out _).mono ?_
  rintro e w1 ⟨rfl, hb⟩
  have a0 : w1.cell? ⟨w.heap.size, 0, none⟩ = some (.int .i64 x) := cell_later hb (by go_simp)
  have a1 : w1.cell? ⟨w.heap.size, 1, none⟩ = some (.slice A n c) := cell_later hb (by go_simp)
  have a2 : w1.cell? ⟨w.heap.size, 2, none⟩ = some (.int .i64 r) := cell_later hb (by go_simp)
  have B : Below w.heap.size w w1 := below_chain (by (repeat (first | exact Below.refl _ _ | assumption | refine below_alloc ?_ _ | refine below_drewN ?_ _ | refine below_set ?_ _ (by simp; try omega) | refine Below.drew ?_))) hb
  have hz0 := World.block_lt_of_cell? _ _ a0
  dsimp only at hz0
  clear hb
  have F_w1 : Below w1.heap.size w1 w1 := Below.refl _ _
  have S_w_w1 : w.heap.size ≤ w1.heap.size := B.size
  go_wp2_with (fail)
  refine (HT.out _ (by exact H.out.below B)).mono ?_
  rintro e w2 ⟨A1, c1, rfl, ho1, hb⟩
  have hstep : Below w1.heap.size w1 w2 := below_chain (by (repeat (first | exact Below.refl _ _ | assumption | refine below_alloc ?_ _ | refine below_drewN ?_ _ | refine below_set ?_ _ (by simp; try omega) | refine Below.drew ?_))) hb
  replace a0 := cell_later hstep a0
  replace a1 := cell_later hstep a1
  replace a2 := cell_later hstep a2
  replace B := below_chain B hstep
  replace F_w1 := below_chain F_w1 hstep
  have r1 := Rd.own ho1
  clear hb hstep
  have F_w2 : Below w2.heap.size w2 w2 := Below.refl _ _
  have S_w1_w2 : w1.heap.size ≤ w2.heap.size := F_w1.size
  have S_w_w2 : w.heap.size ≤ w2.heap.size := B.size
  go_wp2_with (fail)
  refine (HSI.out _ _ _ r1).mono ?_
  rintro e w3 ⟨Aw, cw, rfl, how, hb⟩
  have hstep : Below w2.heap.size w2 w3 := below_chain (by (repeat (first | exact Below.refl _ _ | assumption | refine below_alloc ?_ _ | refine below_drewN ?_ _ | refine below_set ?_ _ (by simp; try omega) | refine Below.drew ?_))) hb
  replace a0 := cell_later hstep a0
  replace a1 := cell_later hstep a1
  replace a2 := cell_later hstep a2
  replace B := below_chain B hstep
  replace F_w1 := below_chain F_w1 hstep
  replace F_w2 := below_chain F_w2 hstep
  have rw3 := Rd.own how
  clear hb hstep
  clear how r1 ho1
  have F_w3 : Below w3.heap.size w3 w3 := Below.refl _ _
  have S_w1_w3 : w1.heap.size ≤ w3.heap.size := F_w1.size
  have S_w2_w3 : w2.heap.size ≤ w3.heap.size := F_w2.size
  have S_w_w3 : w.heap.size ≤ w3.heap.size := B.size
  have hz3 := World.block_lt_of_cell? _ _ a0
  dsimp only at hz3
  go_wp2_with (fail)
  refine (HT.out _ (by exact (H.out.below B).alloc _)).mono ?_
  rintro e w4 ⟨Ax, cx, rfl, hox, hb⟩
  have hstep : Below w3.heap.size w3 w4 := below_chain (by (repeat (first | exact Below.refl _ _ | assumption | refine below_alloc ?_ _ | refine below_drewN ?_ _ | refine below_set ?_ _ (by simp; try omega) | refine Below.drew ?_))) hb
  replace a0 := cell_later hstep a0
  replace a1 := cell_later hstep a1
  replace a2 := cell_later hstep a2
  replace B := below_chain B hstep
  replace F_w1 := below_chain F_w1 hstep
  replace F_w2 := below_chain F_w2 hstep
  replace F_w3 := below_chain F_w3 hstep
  have rx := Rd.own hox
  have j0 : w4.cell? ⟨w3.heap.size, 0, none⟩ = some (.int .i64 X2) := cell_later hb (by go_simp)
  have j1 : w4.cell? ⟨w3.heap.size, 1, none⟩ = some (.slice Aw L2.length cw) := cell_later hb (by go_simp)
  have j2 : w4.cell? ⟨w3.heap.size, 2, none⟩ = some (.int .i64 R2) := cell_later hb (by go_simp)
  clear hb hstep
  have hx : Hid (∀ q, (Value.slice Ax l.length cx).ownBlock = some q → w3.heap.size < q ∧ q < w4.heap.size) := Lib.hid (fun q hq => by have := hox.lt q hq; simp at this; omega)
  have F_w4 : Below w4.heap.size w4 w4 := Below.refl _ _
  have S_w1_w4 : w1.heap.size ≤ w4.heap.size := F_w1.size
  have S_w2_w4 : w2.heap.size ≤ w4.heap.size := F_w2.size
  have S_w3_w4 : w3.heap.size ≤ w4.heap.size := F_w3.size
  have S_w_w4 : w.heap.size ≤ w4.heap.size := B.size
  have hz4 := World.block_lt_of_cell? _ _ a0
  dsimp only at hz4
  go_wp2_with (fail)
  refine (HI.out _ _ _ (by exact rx.alloc _)).mono ?_
  rintro e w5 ⟨Ag, cg, rfl, hog, hb⟩
  have hstep : Below w4.heap.size w4 w5 := below_chain (by (repeat (first | exact Below.refl _ _ | assumption | refine below_alloc ?_ _ | refine below_drewN ?_ _ | refine below_set ?_ _ (by simp; try omega) | refine Below.drew ?_))) hb
  replace a0 := cell_later hstep a0
  replace a1 := cell_later hstep a1
  replace a2 := cell_later hstep a2
  replace j0 := cell_later hstep j0
  replace j1 := cell_later hstep j1
  replace j2 := cell_later hstep j2
  replace B := below_chain B hstep
  replace F_w1 := below_chain F_w1 hstep
  replace F_w2 := below_chain F_w2 hstep
  replace F_w3 := below_chain F_w3 hstep
  replace F_w4 := below_chain F_w4 hstep
  have x0 : w5.cell? ⟨w4.heap.size, 0, none⟩ = some (.int .i64 x) := cell_later hb (by go_simp)
  have x1 : w5.cell? ⟨w4.heap.size, 1, none⟩ = some (.slice Ax l.length cx) := cell_later hb (by go_simp)
  have x2 : w5.cell? ⟨w4.heap.size, 2, none⟩ = some (.int .i64 r) := cell_later hb (by go_simp)
  clear hb hstep
  have F_w5 : Below w5.heap.size w5 w5 := Below.refl _ _
  have S_w1_w5 : w1.heap.size ≤ w5.heap.size := F_w1.size
  have S_w2_w5 : w2.heap.size ≤ w5.heap.size := F_w2.size
  have S_w3_w5 : w3.heap.size ≤ w5.heap.size := F_w3.size
  have S_w4_w5 : w4.heap.size ≤ w5.heap.size := F_w4.size
  have S_w_w5 : w.heap.size ≤ w5.heap.size := B.size
  have hzx := World.block_lt_of_cell? _ _ x0
  dsimp only at hzx
  have hgl := Lib.hid (fun q (hq : (Value.slice Ag L2.length cg).ownBlock = some q) => show w4.heap.size < q ∧ q < w5.heap.size by have := hog.lt q hq; simp at this; omega)
  have hz5 := World.block_lt_of_cell? _ _ a0
  dsimp only at hz5
  have hz5j := World.block_lt_of_cell? _ _ j0
  dsimp only at hz5j
  go_wp2_with (fail)
  refine (HQ.out _ _ _ _ _ (by exact ((Rd.own hog).below F_w5).alloc _) (by exact (rw3.below F_w3).alloc _)).mono ?_
  rintro e w6 ⟨rfl, hb⟩
  have hstep : Below w5.heap.size w5 w6 := below_chain (by (repeat (first | exact Below.refl _ _ | assumption | refine below_alloc ?_ _ | refine below_drewN ?_ _ | refine below_set ?_ _ (by simp; try omega) | refine Below.drew ?_))) hb
  replace a0 := cell_later hstep a0
  replace a1 := cell_later hstep a1
  replace a2 := cell_later hstep a2
  replace j0 := cell_later hstep j0
  replace j1 := cell_later hstep j1
  replace j2 := cell_later hstep j2
  replace x0 := cell_later hstep x0
  replace x1 := cell_later hstep x1
  replace x2 := cell_later hstep x2
  replace B := below_chain B hstep
  replace F_w1 := below_chain F_w1 hstep
  replace F_w2 := below_chain F_w2 hstep
  replace F_w3 := below_chain F_w3 hstep
  replace F_w4 := below_chain F_w4 hstep
  replace F_w5 := below_chain F_w5 hstep
  have g0 : w6.cell? ⟨w5.heap.size, 0, none⟩ = some (.int .i64 X2) := cell_later hb (by go_simp)
  have g1 : w6.cell? ⟨w5.heap.size, 1, none⟩ = some (.slice Ag L2.length cg) := cell_later hb (by go_simp)
  have g2 : w6.cell? ⟨w5.heap.size, 2, none⟩ = some (.int .i64 R2) := cell_later hb (by go_simp)
  clear hb hstep
  go_wp2_with (fail)
  have HB := Lib.hid B
  have RX := Lib.hid (rx.below F_w4)
  clear B
  refine wp_region_held_drew (S := (fun w' => w'.cell? ⟨w4.heap.size, 0, none⟩ = some (.int .i64 x) ∧ w'.cell? ⟨w4.heap.size, 1, none⟩ = some (.slice Ax l.length cx) ∧ w'.cell? ⟨w4.heap.size, 2, none⟩ = some (.int .i64 r) ∧ w'.cell? ⟨w.heap.size, 0, none⟩ = some (.int .i64 x) ∧ w'.cell? ⟨w.heap.size, 1, none⟩ = some (.slice A n c) ∧ w'.cell? ⟨w.heap.size, 2, none⟩ = some (.int .i64 r) ∧ w'.cell? ⟨w3.heap.size, 0, none⟩ = some (.int .i64 X2) ∧ w'.cell? ⟨w3.heap.size, 1, none⟩ = some (.slice Aw L2.length cw) ∧ w'.cell? ⟨w3.heap.size, 2, none⟩ = some (.int .i64 R2) ∧ w'.cell? ⟨w5.heap.size, 0, none⟩ = some (.int .i64 X2) ∧ w'.cell? ⟨w5.heap.size, 1, none⟩ = some (.slice Ag L2.length cg) ∧ w'.cell? ⟨w5.heap.size, 2, none⟩ = some (.int .i64 R2))) (by kernel_rfl) ?_ (fun hHeld => ?_)
  · exact ⟨x0, x1, x2, a0, a1, a2, j0, j1, j2, g0, g1, g2⟩
  refine rg_take (v := ?_) 0 rfl (by kernel_rfl) (by kernel_rfl) (by kernel_rfl) (fun _ _ _ h => h) (by kernel_rfl) ?_ (by assumption) ?_
  rotate_left
  · (intro w' hSw; (try dsimp only at hSw); go_simp; first | done | with_reducible rfl)
  simp only [Act.put, List.setIfInBounds_toArray, List.set_cons_zero, List.set_cons_succ]
  refine rg_take (v := ?_) 1 rfl (by kernel_rfl) (by kernel_rfl) (by kernel_rfl) (fun _ _ _ h => h) (by kernel_rfl) ?_ (by assumption) ?_
  rotate_left
  · (intro w' hSw; (try dsimp only at hSw); go_simp; first | done | with_reducible rfl)
  simp only [Act.put, List.setIfInBounds_toArray, List.set_cons_zero, List.set_cons_succ]
  refine rg_run 2 rfl (by kernel_rfl) (by kernel_rfl) (fun K hK => ?_)
  go_simp
  refine (HT.out _ (H.out.below (by exact HB.out.drew))).mono ?_
  rintro e w7 ⟨A7, c7, rfl, ho, hb⟩
  replace x0 := cell_later hb (by exact x0)
  replace x1 := cell_later hb (by exact x1)
  replace x2 := cell_later hb (by exact x2)
  replace a0 := cell_later hb (by exact a0)
  replace a1 := cell_later hb (by exact a1)
  replace a2 := cell_later hb (by exact a2)
  replace j0 := cell_later hb (by exact j0)
  replace j1 := cell_later hb (by exact j1)
  replace j2 := cell_later hb (by exact j2)
  replace g0 := cell_later hb (by exact g0)
  replace g1 := cell_later hb (by exact g1)
  replace g2 := cell_later hb (by exact g2)
  have HB7 := Lib.hid (show Below w6.heap.size w6 w7 from below_chain (by exact (Below.refl _ _).drew) hb)
  have m7 := Lib.hid (Rd.own ho)
  clear hb ho
  go_wp2
  clear hHeld
  refine hK.out _ _ ⟨x0, x1, x2, a0, a1, a2, j0, j1, j2, g0, g1, g2⟩ (fun hHeld => ?_)
  clear hK K
  try simp only [Act.put, List.setIfInBounds_toArray, List.set_cons_zero, List.set_cons_succ]
  refine rg_run 3 rfl (by kernel_rfl) (by kernel_rfl) (fun K hK => ?_)
  go_simp
  refine (HE.out _ _ _ _ _ (RX.out.below HB7.out) m7.out).mono ?_
  rintro e w8 ⟨rfl, hb⟩
  replace x0 := cell_later hb (by exact x0)
  replace x1 := cell_later hb (by exact x1)
  replace x2 := cell_later hb (by exact x2)
  replace a0 := cell_later hb (by exact a0)
  replace a1 := cell_later hb (by exact a1)
  replace a2 := cell_later hb (by exact a2)
  replace j0 := cell_later hb (by exact j0)
  replace j1 := cell_later hb (by exact j1)
  replace j2 := cell_later hb (by exact j2)
  replace g0 := cell_later hb (by exact g0)
  replace g1 := cell_later hb (by exact g1)
  replace g2 := cell_later hb (by exact g2)
  have HB8 := Lib.hid (below_chain HB7.out hb)
  clear hb
  go_wp2
  clear hHeld
  refine hK.out _ _ ⟨x0, x1, x2, a0, a1, a2, j0, j1, j2, g0, g1, g2⟩ (fun hHeld => ?_)
  clear hK K
  try simp only [Act.put, List.setIfInBounds_toArray, List.set_cons_zero, List.set_cons_succ]
  refine rg_take (v := ?_) 4 rfl (by kernel_rfl) (by kernel_rfl) (by kernel_rfl) (fun _ _ _ h => h) (by kernel_rfl) ?_ (by assumption) ?_
  rotate_left
  · (intro w' hSw; (try dsimp only at hSw); go_simp; first | done | with_reducible rfl)
  simp only [Act.put, List.setIfInBounds_toArray, List.set_cons_zero, List.set_cons_succ]
  refine wpAnyH_done (by kernel_rfl) ?_ _
  clear hHeld
  have hstep := HB8.out
  have B := below_chain HB.out hstep
  replace F_w1 := below_chain F_w1 hstep
  replace F_w2 := below_chain F_w2 hstep
  replace F_w3 := below_chain F_w3 hstep
  replace F_w4 := below_chain F_w4 hstep
  replace F_w5 := below_chain F_w5 hstep
  clear HB HB7 HB8 RX m7 hstep
  have hrow : ∀ q, (Value.slice Ax l.length cx).ownBlock = some q → w3.heap.size ≤ q := fun q hq => Nat.le_of_lt (hx.out q hq).1
  have hrow2 := fun q hq => (hx.out q hq)
  go_wp2_with (fail)
  refine (c_markDiagram x r _ _ _ _ _ 1 _ (by omega) (by have := HN.out; omega) (by exact own_below hox F_w4)).mono ?_
  rintro e w9 ⟨rfl, _, hg⟩
  replace hg := grown_trans (grown_of_below (show Below w8.heap.size w8 _ from (by (repeat (first | exact Below.refl _ _ | assumption | refine below_alloc ?_ _ | refine below_drewN ?_ _ | refine below_set ?_ _ (by simp; try omega) | refine Below.drew ?_)))) _) hg
  replace F_w1 := below_of_grown F_w1 hg (fun q hq => Nat.le_trans S_w1_w3 (hrow q hq))
  replace F_w2 := below_of_grown F_w2 hg (fun q hq => Nat.le_trans S_w2_w3 (hrow q hq))
  replace F_w3 := below_of_grown F_w3 hg hrow
  replace B := below_of_grown B hg (fun q hq => Nat.le_trans S_w_w3 (hrow q hq))
  replace a0 := cell_mark a0 hg (by intro q hq; have := hrow q hq; have := hrow2 q hq; (try simp); omega)
  replace a1 := cell_mark a1 hg (by intro q hq; have := hrow q hq; have := hrow2 q hq; (try simp); omega)
  replace a2 := cell_mark a2 hg (by intro q hq; have := hrow q hq; have := hrow2 q hq; (try simp); omega)
  replace j0 := cell_mark j0 hg (by intro q hq; have := hrow q hq; have := hrow2 q hq; (try simp); omega)
  replace j1 := cell_mark j1 hg (by intro q hq; have := hrow q hq; have := hrow2 q hq; (try simp); omega)
  replace j2 := cell_mark j2 hg (by intro q hq; have := hrow q hq; have := hrow2 q hq; (try simp); omega)
  replace x0 := cell_mark x0 hg (by intro q hq; have := hrow q hq; have := hrow2 q hq; (try simp); omega)
  replace x1 := cell_mark x1 hg (by intro q hq; have := hrow q hq; have := hrow2 q hq; (try simp); omega)
  replace x2 := cell_mark x2 hg (by intro q hq; have := hrow q hq; have := hrow2 q hq; (try simp); omega)
  replace g0 := cell_mark g0 hg (by intro q hq; have := hrow q hq; have := hrow2 q hq; (try simp); omega)
  replace g1 := cell_mark g1 hg (by intro q hq; have := hrow q hq; have := hrow2 q hq; (try simp); omega)
  replace g2 := cell_mark g2 hg (by intro q hq; have := hrow q hq; have := hrow2 q hq; (try simp); omega)
  have hog9 := kept_far (own_below hog F_w5) hg (fun q hq => by have := hrow2 q hq; simp; omega)
  clear hg hrow hrow2 F_w4 F_w5
  clear hox hog rx
  have F_w9 : Below w9.heap.size w9 w9 := Below.refl _ _
  have S_w1_w9 : w1.heap.size ≤ w9.heap.size := F_w1.size
  have S_w2_w9 : w2.heap.size ≤ w9.heap.size := F_w2.size
  have S_w3_w9 : w3.heap.size ≤ w9.heap.size := F_w3.size
  have S_w_w9 : w.heap.size ≤ w9.heap.size := B.size
  have hz9 := World.block_lt_of_cell? _ _ g0
  dsimp only at hz9
  go_wp2_with (fail)
  refine (HQ.out _ _ _ _ _ (by exact (Rd.own hog9).below F_w9) (by exact rw3.below F_w3)).mono ?_
  rintro e w10 ⟨rfl, hb⟩
  have hstep : Below w9.heap.size w9 w10 := below_chain (by (repeat (first | exact Below.refl _ _ | assumption | refine below_alloc ?_ _ | refine below_drewN ?_ _ | refine below_set ?_ _ (by simp; try omega) | refine Below.drew ?_))) hb
  replace a0 := cell_later hstep a0
  replace a1 := cell_later hstep a1
  replace a2 := cell_later hstep a2
  replace j0 := cell_later hstep j0
  replace j1 := cell_later hstep j1
  replace j2 := cell_later hstep j2
  replace x0 := cell_later hstep x0
  replace x1 := cell_later hstep x1
  replace x2 := cell_later hstep x2
  replace g0 := cell_later hstep g0
  replace g1 := cell_later hstep g1
  replace g2 := cell_later hstep g2
  replace B := below_chain B hstep
  replace F_w1 := below_chain F_w1 hstep
  replace F_w2 := below_chain F_w2 hstep
  replace F_w3 := below_chain F_w3 hstep
  replace F_w9 := below_chain F_w9 hstep
  clear hb hstep
  have hrow : ∀ q, (Value.slice Ag L2.length cg).ownBlock = some q → w3.heap.size ≤ q := fun q hq => by have := hgl.out q hq; omega
  have hrow2 := hgl.out
  go_wp2_with (fail)
  refine (c_markDiagram X2 R2 _ _ _ _ _ 1 _ (by omega) (by have := HD.out; omega) (by exact own_below hog9 F_w9)).mono ?_
  rintro e w11 ⟨rfl, hmk, hg⟩
  replace hg := grown_trans (grown_of_below (show Below w10.heap.size w10 _ from (by (repeat (first | exact Below.refl _ _ | assumption | refine below_alloc ?_ _ | refine below_drewN ?_ _ | refine below_set ?_ _ (by simp; try omega) | refine Below.drew ?_)))) _) hg
  replace F_w1 := below_of_grown F_w1 hg (fun q hq => Nat.le_trans S_w1_w3 (hrow q hq))
  replace F_w2 := below_of_grown F_w2 hg (fun q hq => Nat.le_trans S_w2_w3 (hrow q hq))
  replace F_w3 := below_of_grown F_w3 hg hrow
  replace B := below_of_grown B hg (fun q hq => Nat.le_trans S_w_w3 (hrow q hq))
  replace a0 := cell_mark a0 hg (by intro q hq; have := hrow q hq; have := hrow2 q hq; (try simp); omega)
  replace a1 := cell_mark a1 hg (by intro q hq; have := hrow q hq; have := hrow2 q hq; (try simp); omega)
  replace a2 := cell_mark a2 hg (by intro q hq; have := hrow q hq; have := hrow2 q hq; (try simp); omega)
  replace j0 := cell_mark j0 hg (by intro q hq; have := hrow q hq; have := hrow2 q hq; (try simp); omega)
  replace j1 := cell_mark j1 hg (by intro q hq; have := hrow q hq; have := hrow2 q hq; (try simp); omega)
  replace j2 := cell_mark j2 hg (by intro q hq; have := hrow q hq; have := hrow2 q hq; (try simp); omega)
  replace x0 := cell_mark x0 hg (by intro q hq; have := hrow q hq; have := hrow2 q hq; (try simp); omega)
  replace x1 := cell_mark x1 hg (by intro q hq; have := hrow q hq; have := hrow2 q hq; (try simp); omega)
  replace x2 := cell_mark x2 hg (by intro q hq; have := hrow q hq; have := hrow2 q hq; (try simp); omega)
  replace g0 := cell_mark g0 hg (by intro q hq; have := hrow q hq; have := hrow2 q hq; (try simp); omega)
  replace g1 := cell_mark g1 hg (by intro q hq; have := hrow q hq; have := hrow2 q hq; (try simp); omega)
  replace g2 := cell_mark g2 hg (by intro q hq; have := hrow q hq; have := hrow2 q hq; (try simp); omega)
  clear hg hrow hrow2 F_w9
  clear hog9
  have F_w11 : Below w11.heap.size w11 w11 := Below.refl _ _
  have S_w1_w11 : w1.heap.size ≤ w11.heap.size := F_w1.size
  have S_w2_w11 : w2.heap.size ≤ w11.heap.size := F_w2.size
  have S_w3_w11 : w3.heap.size ≤ w11.heap.size := F_w3.size
  have S_w_w11 : w.heap.size ≤ w11.heap.size := B.size
  have rm := Rd.own hmk
  clear hmk
  go_wp2_with (fail)
  refine (c_heldDiagram X2 R2 _ _ _ 1 _ (by omega) (by have := HD.out; omega) (by exact rm.below F_w11)).mono ?_
  rintro e w12 ⟨rfl, hb⟩
  have hstep : Below w11.heap.size w11 w12 := below_chain (by (repeat (first | exact Below.refl _ _ | assumption | refine below_alloc ?_ _ | refine below_drewN ?_ _ | refine below_set ?_ _ (by simp; try omega) | refine Below.drew ?_))) hb
  replace a0 := cell_later hstep a0
  replace a1 := cell_later hstep a1
  replace a2 := cell_later hstep a2
  replace j0 := cell_later hstep j0
  replace j1 := cell_later hstep j1
  replace j2 := cell_later hstep j2
  replace x0 := cell_later hstep x0
  replace x1 := cell_later hstep x1
  replace x2 := cell_later hstep x2
  replace g0 := cell_later hstep g0
  replace g1 := cell_later hstep g1
  replace g2 := cell_later hstep g2
  replace B := below_chain B hstep
  replace F_w1 := below_chain F_w1 hstep
  replace F_w2 := below_chain F_w2 hstep
  replace F_w3 := below_chain F_w3 hstep
  replace F_w11 := below_chain F_w11 hstep
  clear hb hstep
  go_wp2_with (fail)
  refine (HT.out _ (by exact H.out.below B)).mono ?_
  rintro e w13 ⟨A3, c3, rfl, ho3, hb⟩
  have hstep : Below w12.heap.size w12 w13 := below_chain (by (repeat (first | exact Below.refl _ _ | assumption | refine below_alloc ?_ _ | refine below_drewN ?_ _ | refine below_set ?_ _ (by simp; try omega) | refine Below.drew ?_))) hb
  replace a0 := cell_later hstep a0
  replace a1 := cell_later hstep a1
  replace a2 := cell_later hstep a2
  replace j0 := cell_later hstep j0
  replace j1 := cell_later hstep j1
  replace j2 := cell_later hstep j2
  replace x0 := cell_later hstep x0
  replace x1 := cell_later hstep x1
  replace x2 := cell_later hstep x2
  replace g0 := cell_later hstep g0
  replace g1 := cell_later hstep g1
  replace g2 := cell_later hstep g2
  replace B := below_chain B hstep
  replace F_w1 := below_chain F_w1 hstep
  replace F_w2 := below_chain F_w2 hstep
  replace F_w3 := below_chain F_w3 hstep
  replace F_w11 := below_chain F_w11 hstep
  have r3 := Rd.own ho3
  clear ho3
  clear hb hstep
  go_wp2_with (fail)
  refine (HI.out _ _ _ r3).mono ?_
  rintro e w14 ⟨Ah, ch, rfl, hoh, hb⟩
  have hstep : Below w13.heap.size w13 w14 := below_chain (by (repeat (first | exact Below.refl _ _ | assumption | refine below_alloc ?_ _ | refine below_drewN ?_ _ | refine below_set ?_ _ (by simp; try omega) | refine Below.drew ?_))) hb
  replace a0 := cell_later hstep a0
  replace a1 := cell_later hstep a1
  replace a2 := cell_later hstep a2
  replace j0 := cell_later hstep j0
  replace j1 := cell_later hstep j1
  replace j2 := cell_later hstep j2
  replace x0 := cell_later hstep x0
  replace x1 := cell_later hstep x1
  replace x2 := cell_later hstep x2
  replace g0 := cell_later hstep g0
  replace g1 := cell_later hstep g1
  replace g2 := cell_later hstep g2
  replace B := below_chain B hstep
  replace F_w1 := below_chain F_w1 hstep
  replace F_w2 := below_chain F_w2 hstep
  replace F_w3 := below_chain F_w3 hstep
  replace F_w11 := below_chain F_w11 hstep
  have rh := Rd.own hoh
  clear hb hstep
  clear hoh r3
  have F_w14 : Below w14.heap.size w14 w14 := Below.refl _ _
  have S_w1_w14 : w1.heap.size ≤ w14.heap.size := F_w1.size
  have S_w2_w14 : w2.heap.size ≤ w14.heap.size := F_w2.size
  have S_w3_w14 : w3.heap.size ≤ w14.heap.size := F_w3.size
  have S_w11_w14 : w11.heap.size ≤ w14.heap.size := F_w11.size
  have S_w_w14 : w.heap.size ≤ w14.heap.size := B.size
  have hz14 := World.block_lt_of_cell? _ _ g0
  dsimp only at hz14
  have hz14j := World.block_lt_of_cell? _ _ j0
  dsimp only at hz14j
  go_wp2_with (fail)
  refine (HQ.out _ _ _ _ _ (by exact (rh.below F_w14).alloc _) (by exact (rw3.below F_w3).alloc _)).mono ?_
  rintro e w15 ⟨rfl, hb⟩
  have hstep : Below w14.heap.size w14 w15 := below_chain (by (repeat (first | exact Below.refl _ _ | assumption | refine below_alloc ?_ _ | refine below_drewN ?_ _ | refine below_set ?_ _ (by simp; try omega) | refine Below.drew ?_))) hb
  replace a0 := cell_later hstep a0
  replace a1 := cell_later hstep a1
  replace a2 := cell_later hstep a2
  replace j0 := cell_later hstep j0
  replace j1 := cell_later hstep j1
  replace j2 := cell_later hstep j2
  replace x0 := cell_later hstep x0
  replace x1 := cell_later hstep x1
  replace x2 := cell_later hstep x2
  replace g0 := cell_later hstep g0
  replace g1 := cell_later hstep g1
  replace g2 := cell_later hstep g2
  replace B := below_chain B hstep
  replace F_w1 := below_chain F_w1 hstep
  replace F_w2 := below_chain F_w2 hstep
  replace F_w3 := below_chain F_w3 hstep
  replace F_w11 := below_chain F_w11 hstep
  replace F_w14 := below_chain F_w14 hstep
  clear hb hstep
  go_wp2_with (fail)
  refine (c_heldDiagram X2 R2 _ _ _ 1 _ (by omega) (by have := HD.out; omega) (by exact rm.below F_w11)).mono ?_
  rintro e w16 ⟨rfl, hb⟩
  have hstep : Below w15.heap.size w15 w16 := below_chain (by (repeat (first | exact Below.refl _ _ | assumption | refine below_alloc ?_ _ | refine below_drewN ?_ _ | refine below_set ?_ _ (by simp; try omega) | refine Below.drew ?_))) hb
  replace a0 := cell_later hstep a0
  replace a1 := cell_later hstep a1
  replace a2 := cell_later hstep a2
  replace j0 := cell_later hstep j0
  replace j1 := cell_later hstep j1
  replace j2 := cell_later hstep j2
  replace x0 := cell_later hstep x0
  replace x1 := cell_later hstep x1
  replace x2 := cell_later hstep x2
  replace g0 := cell_later hstep g0
  replace g1 := cell_later hstep g1
  replace g2 := cell_later hstep g2
  replace B := below_chain B hstep
  replace F_w1 := below_chain F_w1 hstep
  replace F_w2 := below_chain F_w2 hstep
  replace F_w3 := below_chain F_w3 hstep
  replace F_w11 := below_chain F_w11 hstep
  replace F_w14 := below_chain F_w14 hstep
  clear hb hstep
  go_wp2_with (fail)
  go_ret
  exact ⟨rfl, B⟩
end Go.Proofs.Ytndihacmlkgkbaa
