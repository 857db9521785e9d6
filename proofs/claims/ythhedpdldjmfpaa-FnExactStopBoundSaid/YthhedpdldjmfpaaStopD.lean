/- Contracts of division that rounds (program and reference), of stopping on a brake. Condition: the divisor is positive. -/
import Derived.Test.YthhedpdldjmfpaaEntry
namespace Go.Proofs.Ythhedpdldjmfpaa
open Go.RowKit

theorem tdiv_neg {a b : Int} (ha : a < 0) (hb : 1 ≤ b) : (a.tmod b = 0 → a.tdiv b = a / b) ∧ (a.tmod b ≠ 0 → a.tdiv b - 1 = a / b) := by
  obtain ⟨k, rfl⟩ : ∃ k : Int, a = -k := ⟨-a, by omega⟩
  have hk : 0 ≤ k := by omega
  have e1 : (-k).tdiv b = -(k / b) := by rw [Int.neg_tdiv, Int.tdiv_eq_ediv_of_nonneg hk]
  have e2 : (-k).tmod b = -(k % b) := by rw [Int.neg_tmod, Int.tmod_eq_emod_of_nonneg hk]
  rw [e1, e2]
  have h1 := Int.emod_nonneg k (b := b) (by omega)
  have h2 := Int.emod_lt_of_pos k (b := b) (by omega)
  have h3 := Int.mul_ediv_add_emod k b
  have e4 : b * (-(k / b)) = -(b * (k / b)) := by rw [Int.mul_neg]
  have e5 : b * (-(k / b) - 1) = -(b * (k / b)) - b := by rw [Int.mul_sub, Int.mul_neg, Int.mul_one]
  constructor
  · intro h
    refine (((Int.ediv_emod_unique (a := -k) (b := b) (r := 0) (q := -(k / b)) (by omega)).2 ⟨?_, by omega, by omega⟩).1).symm
    omega
  · intro h
    refine (((Int.ediv_emod_unique (a := -k) (b := b) (r := b - k % b) (q := -(k / b) - 1) (by omega)).2 ⟨?_, by omega, by omega⟩).1).symm
    omega
def fdiv (a b : Int) : Int := a / b
theorem fdiv_bd {a b : Int} (hb : 1 ≤ b) : (0 ≤ a → 0 ≤ fdiv a b ∧ fdiv a b ≤ a) ∧ (a < 0 → a ≤ fdiv a b ∧ fdiv a b < 0) := by
  have h1 := Int.emod_nonneg a (b := b) (by omega)
  have h2 := Int.emod_lt_of_pos a (b := b) (by omega)
  have h3 := Int.mul_ediv_add_emod a b
  unfold fdiv
  constructor
  · intro h
    exact ⟨Int.ediv_nonneg h (by omega), Int.ediv_le_self b h⟩
  · intro h
    have h4 : a / b < 0 := Int.ediv_neg_of_neg_of_pos h (by omega)
    refine ⟨?_, h4⟩
    have h5 : (b - 1) * (a / b) ≤ (b - 1) * (-1) := Int.mul_le_mul_of_nonneg_left (by omega) (by omega)
    rw [Int.sub_mul] at h5
    omega
def Dn (a : Int) : Prop := -4000000000000000000 ≤ a ∧ a ≤ 4000000000000000000
theorem c_down (a b : Int) (w : World) (hb : 1 ≤ b) (ha : Dn a) (hb2 : b ≤ 4000000000000000000) : Calls Try.prog 153 #[.int .i64 a, .int .i64 b] w fun e w' => e = .returned (.int .i64 (fdiv a b)) ∧ w = w' := by
  have hq := fdiv_bd (a := a) hb
  obtain ⟨h0, h1⟩ := ha
  rcases Int.lt_or_le a 0 with ha | ha
  · obtain ⟨t1, t2⟩ := tdiv_neg ha hb
    have T1 := Lib.hid t1
    have T2 := Lib.hid t2
    have hq2 := hq.2 ha
    clear t1 t2 hq
    go_enter Try.func153, Try.ntmps153
    go_wp2
    all_goals go_ret
    all_goals (refine ⟨ret_int ?_, rfl⟩)
    all_goals first
      | exact T1.out (by assumption)
      | (rw [T2.out (by assumption)]; exact IntWalk.wrap64_in _ ⟨by unfold fdiv at hq2; omega, by unfold fdiv at hq2; omega⟩)
      | (exfalso; simp_all; omega)
  · have hF := Lib.hid (show fdiv a b = a / b from rfl)
    clear hq
    go_enter Try.func153, Try.ntmps153
    go_wp2
    all_goals go_ret
    all_goals (refine ⟨ret_int ?_, rfl⟩)
    all_goals first
      | exact hF.out.symm
      | (exfalso; simp_all; omega)
theorem c_l01Floor (a b : Int) (w : World) (hb : 1 ≤ b) (ha : Dn a) (hb2 : b ≤ 4000000000000000000) : Calls Try.prog 152 #[.int .i64 a, .int .i64 b] w fun e w' => e = .returned (.int .i64 (fdiv a b)) ∧ w = w' := by
  have hq := fdiv_bd (a := a) hb
  obtain ⟨h0, h1⟩ := ha
  rcases Int.lt_or_le a 0 with ha | ha
  · obtain ⟨t1, t2⟩ := tdiv_neg ha hb
    have T1 := Lib.hid t1
    have T2 := Lib.hid t2
    have hq2 := hq.2 ha
    clear t1 t2 hq
    go_enter Try.func152, Try.ntmps152
    go_wp2
    all_goals go_ret
    all_goals (refine ⟨ret_int ?_, rfl⟩)
    all_goals first
      | exact T1.out (by assumption)
      | (rw [T2.out (by assumption)]; exact IntWalk.wrap64_in _ ⟨by unfold fdiv at hq2; omega, by unfold fdiv at hq2; omega⟩)
      | (exfalso; simp_all; omega)
  · have hF := Lib.hid (show fdiv a b = a / b from rfl)
    clear hq
    go_enter Try.func152, Try.ntmps152
    go_wp2
    all_goals go_ret
    all_goals (refine ⟨ret_int ?_, rfl⟩)
    all_goals first
      | exact hF.out.symm
      | (exfalso; simp_all; omega)
def cdiv (a b : Int) : Int := -(fdiv (-a) b)
theorem c_up (a b : Int) (w : World) (hb : 1 ≤ b) (h0 : 0 ≤ a) (h1 : a ≤ 4000000000000000000) (hb2 : b ≤ 4000000000000000000) : Calls Try.prog 154 #[.int .i64 a, .int .i64 b] w fun e w' => e = .returned (.int .i64 (cdiv a b)) ∧ w = w' := by
  have hq := fdiv_bd (a := -a) hb
  have hq2 : -a ≤ fdiv (-a) b ∧ fdiv (-a) b ≤ 0 := by
    rcases Int.lt_or_le 0 a with h | h
    · have := hq.2 (by omega); omega
    · obtain rfl : a = 0 := by omega
      have := hq.1 (by omega); omega
  have hC := Lib.hid (show cdiv a b = -(fdiv (-a) b) from rfl)
  clear hq
  go_enter Try.func154, Try.ntmps154
  go_wp2_with (first
    | (go_at_call 153
       refine (c_down _ _ _ hb ⟨by omega, by omega⟩ hb2).mono ?_
       rintro e w' ⟨rfl, rfl⟩)
    )
  go_ret
  exact ⟨ret_int hC.out.symm, rfl⟩
theorem c_l01Ceil (a b : Int) (w : World) (hb : 1 ≤ b) (h0 : 0 ≤ a) (h1 : a ≤ 4000000000000000000) (hb2 : b ≤ 4000000000000000000) : Calls Try.prog 117 #[.int .i64 a, .int .i64 b] w fun e w' => e = .returned (.int .i64 (cdiv a b)) ∧ w = w' := by
  have hq := fdiv_bd (a := -a) hb
  have hq2 : -a ≤ fdiv (-a) b ∧ fdiv (-a) b ≤ 0 := by
    rcases Int.lt_or_le 0 a with h | h
    · have := hq.2 (by omega); omega
    · obtain rfl : a = 0 := by omega
      have := hq.1 (by omega); omega
  have hC := Lib.hid (show cdiv a b = -(fdiv (-a) b) from rfl)
  clear hq
  go_enter Try.func117, Try.ntmps117
  go_wp2_with (first
    | (go_at_call 152
       refine (c_l01Floor _ _ _ hb ⟨by omega, by omega⟩ hb2).mono ?_
       rintro e w' ⟨rfl, rfl⟩)
    )
  go_ret
  exact ⟨ret_int hC.out.symm, rfl⟩
theorem cdiv_bd {a b : Int} (ha : 0 ≤ a) (hb : 1 ≤ b) : 0 ≤ cdiv a b ∧ cdiv a b ≤ a := by
  have h := fdiv_bd (a := -a) hb
  unfold cdiv
  rcases Int.lt_or_le 0 a with h1 | h1
  · have := h.2 (by omega); omega
  · obtain rfl : a = 0 := by omega
    have := h.1 (by omega); omega
theorem w_le {s : Seg} (h : SegBd s) : wLo s ≤ wHi s := by
  have h1 : (s.c + s.a) * s.l ≤ (s.d + s.b) * s.l := Int.mul_le_mul_of_nonneg_right (by have := h.cd; have := h.ab; omega) (by have := h.l0; omega)
  unfold wLo wHi
  omega
theorem big_bd {x y : Int} (h0 : 0 ≤ x) (h1 : x ≤ 1000000000000) (h2 : 1 ≤ y) (h3 : y ≤ 200000) : 0 ≤ x * y ∧ x * y ≤ 200000000000000000 := by
  refine ⟨Int.mul_nonneg h0 (by omega), ?_⟩
  calc x * y ≤ 1000000000000 * 200000 := Int.mul_le_mul h1 h3 (by omega) (by omega)
    _ = 200000000000000000 := by decide
set_option maxHeartbeats 2000000 in
set_option maxRecDepth 100000 in
theorem c_stops (s : Seg) (x y : Int) (w : World) (h : segOk s = true) (hw : 1 ≤ wLo s) (hx0 : 0 ≤ x) (hx1 : x ≤ 1000000000000) (hy0 : 0 ≤ y) (hy1 : y ≤ 1000000000000) :
    Calls Try.prog 122 #[s.val, .agg #[.int .i64 x, .int .i64 y]] w fun e w' => e = .returned (.agg #[.int .i64 (fdiv (x * s.l) (wHi s)), .int .i64 (cdiv (y * s.l) (wLo s))]) ∧ Below w.heap.size w w' := by
  have hb := segBd h
  have e1 := big_bd hx0 hx1 hb.l0 hb.l1
  have e2 := big_bd hy0 hy1 hb.l0 hb.l1
  have HW := c_work s
  have HSG := Lib.hid h
  unfold Seg.val at HW ⊢
  have hwl := wLo_bd hb
  have hwh := wHi_bd hb
  have hle := w_le hb
  have HC1 : Hid (∀ w, Calls Try.prog 153 #[.int .i64 (x * s.l), .int .i64 (wHi s)] w fun e w' => e = .returned (.int .i64 (fdiv (x * s.l) (wHi s))) ∧ w' = w) := Lib.hid fun w => (c_down _ _ w (by omega) ⟨by omega, by omega⟩ (by omega)).mono fun _ _ h => ⟨h.1, h.2.symm⟩
  have HC2 : Hid (∀ w, Calls Try.prog 154 #[.int .i64 (y * s.l), .int .i64 (wLo s)] w fun e w' => e = .returned (.int .i64 (cdiv (y * s.l) (wLo s))) ∧ w' = w) := Lib.hid fun w => (c_up _ _ w (by omega) (by omega) (by omega) (by omega)).mono fun _ _ h => ⟨h.1, h.2.symm⟩
  clear hb h hle
  have hor : (((w.alloc (.cells #[.int .i64 s.k, .int .i64 s.l, .int .i64 s.r, .int .i64 s.a, .int .i64 s.b, .int .i64 s.c, .int .i64 s.d] 29)).alloc (.cells #[.int .i64 x, .int .i64 y] 27)).alloc (.cells #[.int .i64 0, .int .i64 0] 27)).ownsRow (w.heap.size + 1 + 1) 27 1 (.slice (some ⟨w.heap.size + 1 + 1, 0, none⟩) 2 2) 2 [.int .i64 0, .int .i64 0] := by
    have := own_two (w := (w.alloc (.cells #[.int .i64 s.k, .int .i64 s.l, .int .i64 s.r, .int .i64 s.a, .int .i64 s.b, .int .i64 s.c, .int .i64 s.d] 29)).alloc (.cells #[.int .i64 x, .int .i64 y] 27)) 0 0
    simpa using this
  go_enter Try.func122, Try.ntmps122
  go_wp2_with (fail)
  refine (HW _ HSG.out).mono ?_
  rintro e w1 ⟨rfl, hb⟩
  have k0 : w1.cell? ⟨w.heap.size, 1, none⟩ = some (.int .i64 s.l) := cell_later hb (by go_simp)
  have k1 : w1.cell? ⟨w.heap.size + 1, 0, none⟩ = some (.int .i64 x) := cell_later hb (by go_simp)
  have k2 : w1.cell? ⟨w.heap.size + 1, 1, none⟩ = some (.int .i64 y) := cell_later hb (by go_simp)
  have B : Below w.heap.size w w1 := below_chain (by (repeat (first | exact Below.refl _ _ | assumption | refine below_alloc ?_ _ | refine below_drewN ?_ _ | refine below_set ?_ _ (by simp; try omega) | refine Below.drew ?_))) hb
  have ho := own_below hor hb
  have hz := (own_ge ho).2
  clear hb hor
  go_wp2_with (fail)
  have j0 : (w1.alloc (.cells #[.int .i64 (wLo s), .int .i64 (wHi s)] 27)).cell? ⟨w.heap.size, 1, none⟩ = some (.int .i64 s.l) := cell_later (below_alloc (Below.refl _ _) _) k0
  have j1 : (w1.alloc (.cells #[.int .i64 (wLo s), .int .i64 (wHi s)] 27)).cell? ⟨w.heap.size + 1, 0, none⟩ = some (.int .i64 x) := cell_later (below_alloc (Below.refl _ _) _) k1
  have j2 : (w1.alloc (.cells #[.int .i64 (wLo s), .int .i64 (wHi s)] 27)).cell? ⟨w.heap.size + 1, 1, none⟩ = some (.int .i64 y) := cell_later (below_alloc (Below.refl _ _) _) k2
  have j3 : (w1.alloc (.cells #[.int .i64 (wLo s), .int .i64 (wHi s)] 27)).cell? ⟨w1.heap.size, 0, none⟩ = some (.int .i64 (wLo s)) := by go_simp
  have j4 : (w1.alloc (.cells #[.int .i64 (wLo s), .int .i64 (wHi s)] 27)).cell? ⟨w1.heap.size, 1, none⟩ = some (.int .i64 (wHi s)) := by go_simp
  have ho2 := own_below ho (below_alloc (Below.refl _ _) (.cells #[.int .i64 (wLo s), .int .i64 (wHi s)] 27))
  have B2 := below_alloc B (.cells #[.int .i64 (wLo s), .int .i64 (wHi s)] 27)
  clear k0 k1 k2 B ho
  generalize w1.alloc (.cells #[.int .i64 (wLo s), .int .i64 (wHi s)] 27) = W at j0 j1 j2 j3 j4 ho2 B2 ⊢
  have hst := ((ho2.stored 0 (.int .i64 (fdiv (x * s.l) (wHi s)))).1.stored 1 (.int .i64 (cdiv (y * s.l) (wLo s)))).1
  have HST := Lib.hid hst
  have HB4 := Lib.hid (below_set (below_set B2 (p := ⟨w.heap.size + 1 + 1, 0, none⟩) (.int .i64 (fdiv (x * s.l) (wHi s))) (by show w.heap.size ≤ w.heap.size + 1 + 1; omega)) (p := ⟨w.heap.size + 1 + 1, 1, none⟩) (.int .i64 (cdiv (y * s.l) (wLo s))) (by show w.heap.size ≤ w.heap.size + 1 + 1; omega))
  obtain ⟨v0, v1, v2, v3, _, _⟩ := two_cells ho2
  clear hst ho2 B2
  have hw1 : IntKind.i64.wrap (x * s.l) = x * s.l := IntWalk.i64_in _ (by omega)
  have hw2 : IntKind.i64.wrap (y * s.l) = y * s.l := IntWalk.i64_in _ (by omega)
  refine wp_still_drew 17 (by kernel_rfl) (by kernel_rfl) ?_
  simp only [List.take_succ_cons, List.take_zero, List.drop_succ_cons, List.drop_zero]
  repeat (first | still_step | still_call (HC1.out _) | still_call (HC2.out _))
  refine wpStill_nil ?_
  clear j0 j1 j2 j3 j4
  go_wp2
  have hst := HST.out
  have hb9 := HB4.out
  simp only [List.set_cons_zero, List.set_cons_succ] at hst
  clear v0 v1 v2 v3
  obtain ⟨r0, r1, _, _, _, _⟩ := two_cells hst
  refine bodyPost_ret (v := .agg #[.int .i64 _, .int .i64 _]) (by simp [results, Try.results122, go_sem, r0, r1]) rfl ⟨rfl, hb9.drew⟩
end Go.Proofs.Ythhedpdldjmfpaa
