/- Contracts of l22Ones and of the program's ones. Condition: the nodes are valid. -/
import Derived.Test.YtndihacmlkgkbaaDgZ
namespace Go.Proofs.Ytndihacmlkgkbaa
open Go.RowKit

theorem own_at {w : World} {base n c : Nat} {A : Option Addr} {zs : List Int} (h : w.ownsRow base 2 1 (.slice A n c) n (ints zs)) {r : Nat} (hr : r < n) : ∃ g, A = some ⟨g, 0, none⟩ ∧ w.cell? ⟨g, r, none⟩ = some (.int .i64 (zs.getD r 0)) ∧ r < zs.length := by
  obtain ⟨g, cap, hv, _⟩ := h.form (by omega)
  simp only [Value.slice.injEq, true_and] at hv
  obtain ⟨rfl, rfl⟩ := hv
  have hl := h.1
  rw [ints_length] at hl
  refine ⟨g, rfl, ?_, by omega⟩
  rw [h.cellAt r (by omega)]
  have : zs[r]? = some (zs.getD r 0) := by rw [List.getD_eq_getElem?_getD, List.getElem?_eq_getElem (by omega)]; rfl
  unfold ints
  rw [List.getElem?_map, this]
  rfl
set_option maxHeartbeats 1000000 in
set_option maxRecDepth 100000 in
theorem c_l22Ones (X R : Int) (A : Option Addr) (c n : Nat) (l : List Nd) (w : World) (hn : n = l.length) (hd : isD X l R = true) (hr : Rd w A (ndCells l)) :
    Calls Try.prog 51 #[.agg #[.int .i64 X, .slice A n c, .int .i64 R]] w fun e w' => e = .returned (.int .i64 (onesV X l R)) ∧ Below w.heap.size w w' := by
  have HN := Lib.hid hn
  have HR0 := Lib.hid hr
  obtain ⟨hv, hR0, hR1, _, _⟩ := isD_VN hd
  have HVN := Lib.hid hv
  have hln := hv.n
  rw [← hn] at hln hR1
  have HR := Lib.hid (hr.alloc (.cells #[.int .i64 X, .slice A n c, .int .i64 R] 29))
  have HB := Lib.hid (below_alloc (Below.refl w.heap.size w) (.cells #[.int .i64 X, .slice A n c, .int .i64 R] 29))
  have HO : Hid (((w.alloc (.cells #[.int .i64 X, .slice A n c, .int .i64 R] 29)).alloc (.cells #[.int .i64 0, .int .i64 1] 2)).ownsRow (w.heap.size + 1) 2 1 (.slice (some ⟨w.heap.size + 1, 0, none⟩) 2 2) 2 (ints [0, 1])) := Lib.hid (by
    have h := World.ownsRow_lit (e := 2) (size := 1) (base := w.heap.size + 1) (w.alloc (.cells #[.int .i64 X, .slice A n c, .int .i64 R] 29)) #[.int .i64 0, .int .i64 1] 2 (by simp) (by decide) (by simp)
    simpa [ints] using h)
  have a0 : ((w.alloc (.cells #[.int .i64 X, .slice A n c, .int .i64 R] 29)).alloc (.cells #[.int .i64 0, .int .i64 1] 2)).cell? ⟨w.heap.size, 0, none⟩ = some (.int .i64 X) := by go_simp
  have a1 : ((w.alloc (.cells #[.int .i64 X, .slice A n c, .int .i64 R] 29)).alloc (.cells #[.int .i64 0, .int .i64 1] 2)).cell? ⟨w.heap.size, 1, none⟩ = some (.slice A n c) := by go_simp
  have a2 : ((w.alloc (.cells #[.int .i64 X, .slice A n c, .int .i64 R] 29)).alloc (.cells #[.int .i64 0, .int .i64 1] 2)).cell? ⟨w.heap.size, 2, none⟩ = some (.int .i64 R) := by go_simp
  have HB2 := Lib.hid (below_alloc HB.out (.cells #[.int .i64 0, .int .i64 1] 2))
  have HR2 := Lib.hid (HR.out.alloc (.cells #[.int .i64 0, .int .i64 1] 2))
  have hsz : ((w.alloc (.cells #[.int .i64 X, .slice A n c, .int .i64 R] 29)).alloc (.cells #[.int .i64 0, .int .i64 1] 2)).heap.size = w.heap.size + 1 + 1 := by simp
  have HV : Hid (onesV X l R = sh ((onesL X l n).getD R.toNat 0) (lvl X l R.toNat)) := Lib.hid (by unfold onesV; rw [if_pos hd, hn])
  clear hn hr hv hd HR HB
  go_enter Try.func51, Try.ntmps51
  go_wp2_with (fail)
  generalize (w.alloc (.cells #[.int .i64 X, .slice A n c, .int .i64 R] 29)).alloc (.cells #[.int .i64 0, .int .i64 1] 2) = W at *
  go_loopw [3, 4, 5, 6, 7] (fun s u _ _ _ wr => ∃ k A3 c3, k ≤ n ∧ u = .int .i64 (k : Nat) ∧ s = .slice A3 (k + 2) c3 ∧ Hid (wr.ownsRow (w.heap.size + 1) 2 1 (.slice A3 (k + 2) c3) (k + 2) (ints (onesL X l k))) ∧ Below (w.heap.size + 1) W wr) (fun _ u _ _ _ _ => n - (intOf u).toNat)
  case atStart => exact ⟨0, _, _, Nat.zero_le _, rfl, rfl, HO, Below.refl _ _⟩
  case round =>
    obtain ⟨k, A3, c3, hk, rfl, rfl, ho, hb⟩ := hrel
    clear HO
    replace a0 := (hb.cell (p := ⟨w.heap.size, 0, none⟩) (Nat.lt_succ_self _)).trans a0
    replace a1 := (hb.cell (p := ⟨w.heap.size, 1, none⟩) (Nat.lt_succ_self _)).trans a1
    replace a2 := (hb.cell (p := ⟨w.heap.size, 2, none⟩) (Nat.lt_succ_self _)).trans a2
    have hszr := hb.size
    by_cases hlt : k < n
    · obtain ⟨x, hx⟩ : ∃ x, l[k]? = some x := ⟨_, List.getElem?_eq_getElem (by have := HN.out; omega)⟩
      have hv := HVN.out.lv k x hx
      have hgd := HVN.out.good k x hx
      have hx20 := HVN.out.x1
      have hkl : k ≤ l.length := by have := HN.out; omega
      have o1 := ones_sh HVN.out (k := k) (r := x.lo.toNat) hkl (by omega) (s := lvl X l x.lo.toNat - x.i - 1) (by omega)
      have o2 := ones_sh HVN.out (k := k) (r := x.hi.toNat) hkl (by omega) (s := lvl X l x.hi.toNat - x.i - 1) (by omega)
      have v1 := HVN.out.lvl (r := x.lo.toNat) (by omega)
      have v2 := HVN.out.lvl (r := x.hi.toNat) (by omega)
      have HS : Hid (onesL X l (k + 1) = onesL X l k ++ [sh ((onesL X l k).getD x.lo.toNat 0) (lvl X l x.lo.toNat - x.i - 1) + sh ((onesL X l k).getD x.hi.toNat 0) (lvl X l x.hi.toNat - x.i - 1)]) := Lib.hid (by
        rw [onesL, getD_nd hx]; rfl)
      have HBW := Lib.hid (HB2.out.trans (hb.mono (Nat.le_succ _)))
      obtain ⟨b1, off, rfl, hb1, g0, g1, g2⟩ := (HR0.out.below HBW.out).nd hx
      obtain ⟨xi, xa, xb⟩ := x
      dsimp only at hv hgd o1 o2 v1 v2 HS g0 g1 g2
      obtain ⟨a, rfl⟩ : ∃ a : Nat, xa = a := ⟨xa.toNat, by omega⟩
      obtain ⟨b, rfl⟩ : ∃ b : Nat, xb = b := ⟨xb.toNat, by omega⟩
      simp only [Int.toNat_natCast] at hv o1 o2 v1 v2 HS
      obtain ⟨g, rfl, hg1, c1⟩ := own_at ho.out (r := a) (by omega)
      obtain ⟨g', e', hg2, c2⟩ := own_at ho.out (r := b) (by omega)
      simp only [Option.some.injEq, Addr.mk.injEq, and_true] at e'
      subst e'
      have HL1 := Lib.hid (fun w1 h => c_l22Level X R (some ⟨b1, off, none⟩) c n l a w1 HN.out (by omega) (by have := HN.out; omega) h)
      have HL2 := Lib.hid (fun w1 h => c_l22Level X R (some ⟨b1, off, none⟩) c n l b w1 HN.out (by omega) (by have := HN.out; omega) h)
      generalize hL1 : lvl X l a = L1 at *
      generalize hL2 : lvl X l b = L2 at *
      generalize hC1 : (onesL X l k).getD a 0 = C1 at *
      generalize hC2 : (onesL X l k).getD b 0 = C2 at *
      have HO := Lib.hid ho.out
      have hkn : (k : Int) < n := by omega
      have hak : (a : Int) < k + 2 := by omega
      have hbk : (b : Int) < k + 2 := by omega
      have hl1 : (lvl X l a : Int) = L1 := hL1
      unfold sh at o1 o2 HS
      have w1 : IntKind.i64.wrap (L1 - xi) = L1 - xi := IntWalk.i64_in _ (by omega)
      have w2 : IntKind.i64.wrap (L2 - xi) = L2 - xi := IntWalk.i64_in _ (by omega)
      have w3 : IntKind.i64.wrap (L1 - xi - 1) = L1 - xi - 1 := IntWalk.i64_in _ (by omega)
      have w4 : IntKind.i64.wrap (L2 - xi - 1) = L2 - xi - 1 := IntWalk.i64_in _ (by omega)
      have w5 : IntKind.u64.wrap (L1 - xi - 1) = L1 - xi - 1 := IntWalk.u64_in _ (by omega)
      have w6 : IntKind.u64.wrap (L2 - xi - 1) = L2 - xi - 1 := IntWalk.u64_in _ (by omega)
      obtain ⟨S1, hS1⟩ : ∃ S1 : Int, S1 = C1 * 2 ^ (L1 - xi - 1).toNat := ⟨_, rfl⟩
      obtain ⟨S2, hS2⟩ : ∃ S2 : Int, S2 = C2 * 2 ^ (L2 - xi - 1).toNat := ⟨_, rfl⟩
      rw [← hS1] at o1 HS
      rw [← hS2] at o2 HS
      have e1 : (L1 - xi - 1).toNat = (L1 - xi).toNat - 1 := by omega
      have e2 : (L2 - xi - 1).toNat = (L2 - xi).toNat - 1 := by omega
      rw [e1] at hS1
      rw [e2] at hS2
      have w7 : IntKind.i64.wrap (C1 * 2 ^ ((L1 - xi).toNat - 1)) = S1 := by rw [← hS1]; exact IntWalk.i64_in _ (by omega)
      have w8 : IntKind.i64.wrap (C2 * 2 ^ ((L2 - xi).toNat - 1)) = S2 := by rw [← hS2]; exact IntWalk.i64_in _ (by omega)
      clear e1 e2 hS1 hS2
      have p1 : 0 ≤ xi := by omega
      have p2 : xi < L1 := by omega
      have p3 : xi < L2 := by omega
      have hal := below_alloc (Below.refl wr.heap.size wr) (.cells #[.int .i64 xi, .int .i64 a, .int .i64 b] 57)
      have y0 : (wr.alloc (.cells #[.int .i64 xi, .int .i64 a, .int .i64 b] 57)).cell? ⟨wr.heap.size, 0, none⟩ = some (.int .i64 xi) := by go_simp
      have y1 : (wr.alloc (.cells #[.int .i64 xi, .int .i64 a, .int .i64 b] 57)).cell? ⟨wr.heap.size, 1, none⟩ = some (.int .i64 a) := by go_simp
      have y2 : (wr.alloc (.cells #[.int .i64 xi, .int .i64 a, .int .i64 b] 57)).cell? ⟨wr.heap.size, 2, none⟩ = some (.int .i64 b) := by go_simp
      have b0 := cell_later hal a0
      have b1' := cell_later hal a1
      have b2 := cell_later hal a2
      have q1 := cell_later hal hg1
      have q2 := cell_later hal hg2
      have HRW := Lib.hid ((HR0.out.below HBW.out).below hal)
      have HOW := Lib.hid (own_below HO.out hal)
      have HBX := Lib.hid (show Below (w.heap.size + 1) W _ from hb.trans (hal.mono (by omega)))
      have hszx : w.heap.size + 1 + 1 ≤ (wr.alloc (.cells #[.int .i64 xi, .int .i64 a, .int .i64 b] 57)).heap.size := by simp; omega
      clear ho hb hx hv hgd hC1 hC2 hL1 hL2 hl1 hal hsz HO HBW HVN HB2 HR2 c1 c2 hkl
      go_wp2_with (fail)
      clear a0 a1 a2 g0 g1 g2 hg1 hg2
      generalize wr.alloc (.cells #[.int .i64 xi, .int .i64 a, .int .i64 b] 57) = W5 at *
      generalize wr.heap.size = gx at *
      refine wp_region_held_drew (S := (fun w' => (w'.cell? ⟨w.heap.size, 0, none⟩ = some (.int .i64 X) ∧ w'.cell? ⟨w.heap.size, 1, none⟩ = some (.slice (some ⟨b1, off, none⟩) n c) ∧ w'.cell? ⟨w.heap.size, 2, none⟩ = some (.int .i64 R)) ∧ (w'.cell? ⟨gx, 0, none⟩ = some (.int .i64 xi) ∧ w'.cell? ⟨gx, 1, none⟩ = some (.int .i64 a) ∧ w'.cell? ⟨gx, 2, none⟩ = some (.int .i64 b)) ∧ w'.cell? ⟨g, a, none⟩ = some (.int .i64 C1) ∧ w'.cell? ⟨g, b, none⟩ = some (.int .i64 C2))) (by kernel_rfl) ?_ (fun hHeld => ?_)
      · exact ⟨⟨b0, b1', b2⟩, ⟨y0, y1, y2⟩, q1, q2⟩
      refine rg_take (v := ?_) 0 rfl (by kernel_rfl) (by kernel_rfl) (by kernel_rfl) (fun _ _ _ h => h) (by kernel_rfl) ?_ (by assumption) ?_
      rotate_left
      · (intro w' hSw; (try dsimp only at hSw); go_simp; first | done | with_reducible rfl)
      simp only [Act.put, List.setIfInBounds_toArray, List.set_cons_zero, List.set_cons_succ]
      refine rg_take (v := ?_) 1 rfl (by kernel_rfl) (by kernel_rfl) (by kernel_rfl) (fun _ _ _ h => h) (by kernel_rfl) ?_ (by assumption) ?_
      rotate_left
      · (intro w' hSw; (try dsimp only at hSw); go_simp; first | done | with_reducible rfl)
      simp only [Act.put, List.setIfInBounds_toArray, List.set_cons_zero, List.set_cons_succ]
      refine rg_take (v := ?_) 2 rfl (by kernel_rfl) (by kernel_rfl) (by kernel_rfl) (fun _ _ _ h => h) (by kernel_rfl) ?_ (by assumption) ?_
      rotate_left
      · (intro w' hSw; (try dsimp only at hSw); go_simp; first | done | with_reducible rfl)
      simp only [Act.put, List.setIfInBounds_toArray, List.set_cons_zero, List.set_cons_succ]
      refine rg_take (v := ?_) 3 rfl (by kernel_rfl) (by kernel_rfl) (by kernel_rfl) (fun _ _ _ h => h) (by kernel_rfl) ?_ (by assumption) ?_
      rotate_left
      · (intro w' hSw; (try dsimp only at hSw); go_simp; first | done | with_reducible rfl)
      simp only [Act.put, List.setIfInBounds_toArray, List.set_cons_zero, List.set_cons_succ]
      refine rg_take (v := ?_) 4 rfl (by kernel_rfl) (by kernel_rfl) (by kernel_rfl) (fun _ _ _ h => h) (by kernel_rfl) ?_ (by assumption) ?_
      rotate_left
      · (intro w' hSw; (try dsimp only at hSw); go_simp; first | done | with_reducible rfl)
      simp only [Act.put, List.setIfInBounds_toArray, List.set_cons_zero, List.set_cons_succ]
      refine rg_take (v := ?_) 5 rfl (by kernel_rfl) (by kernel_rfl) (by kernel_rfl) (fun _ _ _ h => h) (by kernel_rfl) ?_ (by assumption) ?_
      rotate_left
      · (intro w' hSw; (try dsimp only at hSw); go_simp; first | done | with_reducible rfl)
      simp only [Act.put, List.setIfInBounds_toArray, List.set_cons_zero, List.set_cons_succ]
      refine rg_take (v := ?_) 6 rfl (by kernel_rfl) (by kernel_rfl) (by kernel_rfl) (fun _ _ _ h => h) (by kernel_rfl) ?_ (by assumption) ?_
      rotate_left
      · (intro w' hSw; (try dsimp only at hSw); go_simp; first | done | with_reducible rfl)
      simp only [Act.put, List.setIfInBounds_toArray, List.set_cons_zero, List.set_cons_succ]
      refine rg_take (v := ?_) 7 rfl (by kernel_rfl) (by kernel_rfl) (by kernel_rfl) (fun _ _ _ h => h) (by kernel_rfl) ?_ (by assumption) ?_
      rotate_left
      · (intro w' hSw; (try dsimp only at hSw); go_simp; first | done | with_reducible rfl)
      simp only [Act.put, List.setIfInBounds_toArray, List.set_cons_zero, List.set_cons_succ]
      refine rg_take (v := ?_) 9 rfl (by kernel_rfl) (by kernel_rfl) (by kernel_rfl) (fun _ _ _ h => h) (by kernel_rfl) ?_ (by assumption) ?_
      rotate_left
      · (intro w' hSw; (try dsimp only at hSw); go_simp; first | done | with_reducible rfl)
      simp only [Act.put, List.setIfInBounds_toArray, List.set_cons_zero, List.set_cons_succ]
      refine rg_take (v := ?_) 10 rfl (by kernel_rfl) (by kernel_rfl) (by kernel_rfl) (fun _ _ _ h => h) (by kernel_rfl) ?_ (by assumption) ?_
      rotate_left
      · (intro w' hSw; (try dsimp only at hSw); go_simp; first | done | with_reducible rfl)
      simp only [Act.put, List.setIfInBounds_toArray, List.set_cons_zero, List.set_cons_succ]
      refine rg_run 8 rfl (by kernel_rfl) (by kernel_rfl) (fun K hK => ?_)
      go_simp
      refine (HL1.out _ (by exact HRW.out.drew)).mono ?_
      rintro e w9 ⟨rfl, hb⟩
      replace b0 := cell_later hb (by exact b0)
      replace b1' := cell_later hb (by exact b1')
      replace b2 := cell_later hb (by exact b2)
      replace y0 := cell_later hb (by exact y0)
      replace y1 := cell_later hb (by exact y1)
      replace y2 := cell_later hb (by exact y2)
      replace q1 := cell_later hb (by exact q1)
      replace q2 := cell_later hb (by exact q2)
      have HRW9 := Lib.hid (Rd.below (by exact HRW.out) hb)
      have HOW9 := Lib.hid (own_below (by exact HOW.out) hb)
      have HBX9 := Lib.hid ((show Below (w.heap.size + 1) W _ from HBX.out.drew).trans (hb.mono (by exact Nat.le_trans (Nat.le_succ _) hszx)))
      replace hszx := Nat.le_trans (by exact hszx) hb.size
      clear hb HRW HOW HBX
      go_wp2
      clear hHeld
      refine hK.out _ _ ⟨⟨b0, b1', b2⟩, ⟨y0, y1, y2⟩, q1, q2⟩ (fun hHeld => ?_)
      clear hK K
      try simp only [Act.put, List.setIfInBounds_toArray, List.set_cons_zero, List.set_cons_succ]
      refine rg_take (v := ?_) 11 rfl (by kernel_rfl) (by kernel_rfl) (by kernel_rfl) (fun _ _ _ h => h) (by kernel_rfl) ?_ (by assumption) ?_
      rotate_left
      · (intro w' hSw; (try dsimp only at hSw); go_simp; first | done | with_reducible rfl)
      simp only [Act.put, List.setIfInBounds_toArray, List.set_cons_zero, List.set_cons_succ]
      refine rg_take (v := ?_) 12 rfl (by kernel_rfl) (by kernel_rfl) (by kernel_rfl) (fun _ _ _ h => h) (by kernel_rfl) ?_ (by assumption) ?_
      rotate_left
      · (intro w' hSw; (try dsimp only at hSw); go_simp; first | done | with_reducible rfl)
      simp only [Act.put, List.setIfInBounds_toArray, List.set_cons_zero, List.set_cons_succ]
      refine rg_take (v := ?_) 13 rfl (by kernel_rfl) (by kernel_rfl) (by kernel_rfl) (fun _ _ _ h => h) (by kernel_rfl) ?_ (by assumption) ?_
      rotate_left
      · (intro w' hSw; (try dsimp only at hSw); go_simp; first | done | with_reducible rfl)
      simp only [Act.put, List.setIfInBounds_toArray, List.set_cons_zero, List.set_cons_succ]
      refine rg_take (v := ?_) 14 rfl (by kernel_rfl) (by kernel_rfl) (by kernel_rfl) (fun _ _ _ h => h) (by kernel_rfl) ?_ (by assumption) ?_
      rotate_left
      · (intro w' hSw; (try dsimp only at hSw); go_simp; first | done | with_reducible rfl)
      simp only [Act.put, List.setIfInBounds_toArray, List.set_cons_zero, List.set_cons_succ]
      refine rg_take (v := ?_) 15 rfl (by kernel_rfl) (by kernel_rfl) (by kernel_rfl) (fun _ _ _ h => h) (by kernel_rfl) ?_ (by assumption) ?_
      rotate_left
      · (intro w' hSw; (try dsimp only at hSw); go_simp; first | done | with_reducible rfl)
      simp only [Act.put, List.setIfInBounds_toArray, List.set_cons_zero, List.set_cons_succ]
      refine wpAnyH_done (by kernel_rfl) ?_ _
      clear hHeld
      go_wp2_with (fail)
      refine wp_region_held_drew (S := (fun w' => (w'.cell? ⟨w.heap.size, 0, none⟩ = some (.int .i64 X) ∧ w'.cell? ⟨w.heap.size, 1, none⟩ = some (.slice (some ⟨b1, off, none⟩) n c) ∧ w'.cell? ⟨w.heap.size, 2, none⟩ = some (.int .i64 R)) ∧ (w'.cell? ⟨gx, 0, none⟩ = some (.int .i64 xi) ∧ w'.cell? ⟨gx, 1, none⟩ = some (.int .i64 a) ∧ w'.cell? ⟨gx, 2, none⟩ = some (.int .i64 b)) ∧ w'.cell? ⟨g, a, none⟩ = some (.int .i64 C1) ∧ w'.cell? ⟨g, b, none⟩ = some (.int .i64 C2))) (by kernel_rfl) ?_ (fun hHeld => ?_)
      · exact ⟨⟨b0, b1', b2⟩, ⟨y0, y1, y2⟩, q1, q2⟩
      refine rg_take (v := ?_) 0 rfl (by kernel_rfl) (by kernel_rfl) (by kernel_rfl) (fun _ _ _ h => h) (by kernel_rfl) ?_ (by assumption) ?_
      rotate_left
      · (intro w' hSw; (try dsimp only at hSw); go_simp; first | done | with_reducible rfl)
      simp only [Act.put, List.setIfInBounds_toArray, List.set_cons_zero, List.set_cons_succ]
      refine rg_take (v := ?_) 1 rfl (by kernel_rfl) (by kernel_rfl) (by kernel_rfl) (fun _ _ _ h => h) (by kernel_rfl) ?_ (by assumption) ?_
      rotate_left
      · (intro w' hSw; (try dsimp only at hSw); go_simp; first | done | with_reducible rfl)
      simp only [Act.put, List.setIfInBounds_toArray, List.set_cons_zero, List.set_cons_succ]
      refine rg_take (v := ?_) 2 rfl (by kernel_rfl) (by kernel_rfl) (by kernel_rfl) (fun _ _ _ h => h) (by kernel_rfl) ?_ (by assumption) ?_
      rotate_left
      · (intro w' hSw; (try dsimp only at hSw); go_simp; first | done | with_reducible rfl)
      simp only [Act.put, List.setIfInBounds_toArray, List.set_cons_zero, List.set_cons_succ]
      refine rg_take (v := ?_) 3 rfl (by kernel_rfl) (by kernel_rfl) (by kernel_rfl) (fun _ _ _ h => h) (by kernel_rfl) ?_ (by assumption) ?_
      rotate_left
      · (intro w' hSw; (try dsimp only at hSw); go_simp; first | done | with_reducible rfl)
      simp only [Act.put, List.setIfInBounds_toArray, List.set_cons_zero, List.set_cons_succ]
      refine rg_take (v := ?_) 4 rfl (by kernel_rfl) (by kernel_rfl) (by kernel_rfl) (fun _ _ _ h => h) (by kernel_rfl) ?_ (by assumption) ?_
      rotate_left
      · (intro w' hSw; (try dsimp only at hSw); go_simp; first | done | with_reducible rfl)
      simp only [Act.put, List.setIfInBounds_toArray, List.set_cons_zero, List.set_cons_succ]
      refine rg_take (v := ?_) 5 rfl (by kernel_rfl) (by kernel_rfl) (by kernel_rfl) (fun _ _ _ h => h) (by kernel_rfl) ?_ (by assumption) ?_
      rotate_left
      · (intro w' hSw; (try dsimp only at hSw); go_simp; first | done | with_reducible rfl)
      simp only [Act.put, List.setIfInBounds_toArray, List.set_cons_zero, List.set_cons_succ]
      refine rg_take (v := ?_) 6 rfl (by kernel_rfl) (by kernel_rfl) (by kernel_rfl) (fun _ _ _ h => h) (by kernel_rfl) ?_ (by assumption) ?_
      rotate_left
      · (intro w' hSw; (try dsimp only at hSw); go_simp; first | done | with_reducible rfl)
      simp only [Act.put, List.setIfInBounds_toArray, List.set_cons_zero, List.set_cons_succ]
      refine rg_take (v := ?_) 7 rfl (by kernel_rfl) (by kernel_rfl) (by kernel_rfl) (fun _ _ _ h => h) (by kernel_rfl) ?_ (by assumption) ?_
      rotate_left
      · (intro w' hSw; (try dsimp only at hSw); go_simp; first | done | with_reducible rfl)
      simp only [Act.put, List.setIfInBounds_toArray, List.set_cons_zero, List.set_cons_succ]
      refine rg_take (v := ?_) 9 rfl (by kernel_rfl) (by kernel_rfl) (by kernel_rfl) (fun _ _ _ h => h) (by kernel_rfl) ?_ (by assumption) ?_
      rotate_left
      · (intro w' hSw; (try dsimp only at hSw); go_simp; first | done | with_reducible rfl)
      simp only [Act.put, List.setIfInBounds_toArray, List.set_cons_zero, List.set_cons_succ]
      refine rg_take (v := ?_) 10 rfl (by kernel_rfl) (by kernel_rfl) (by kernel_rfl) (fun _ _ _ h => h) (by kernel_rfl) ?_ (by assumption) ?_
      rotate_left
      · (intro w' hSw; (try dsimp only at hSw); go_simp; first | done | with_reducible rfl)
      simp only [Act.put, List.setIfInBounds_toArray, List.set_cons_zero, List.set_cons_succ]
      refine rg_run 8 rfl (by kernel_rfl) (by kernel_rfl) (fun K hK => ?_)
      go_simp
      refine (HL2.out _ (by exact HRW9.out.drew)).mono ?_
      rintro e w10 ⟨rfl, hb⟩
      replace b0 := cell_later hb (by exact b0)
      replace b1' := cell_later hb (by exact b1')
      replace b2 := cell_later hb (by exact b2)
      replace y0 := cell_later hb (by exact y0)
      replace y1 := cell_later hb (by exact y1)
      replace y2 := cell_later hb (by exact y2)
      replace q1 := cell_later hb (by exact q1)
      replace q2 := cell_later hb (by exact q2)
      have HOW10 := Lib.hid (own_below (by exact HOW9.out) hb)
      have HBX10 := Lib.hid ((show Below (w.heap.size + 1) W _ from HBX9.out.drew).trans (hb.mono (by exact Nat.le_trans (Nat.le_succ _) hszx)))
      replace hszx := Nat.le_trans (by exact hszx) hb.size
      clear hb HRW9 HOW9 HBX9
      go_wp2
      clear hHeld
      refine hK.out _ _ ⟨⟨b0, b1', b2⟩, ⟨y0, y1, y2⟩, q1, q2⟩ (fun hHeld => ?_)
      clear hK K
      try simp only [Act.put, List.setIfInBounds_toArray, List.set_cons_zero, List.set_cons_succ]
      refine rg_take (v := ?_) 11 rfl (by kernel_rfl) (by kernel_rfl) (by kernel_rfl) (fun _ _ _ h => h) (by kernel_rfl) ?_ (by assumption) ?_
      rotate_left
      · (intro w' hSw; (try dsimp only at hSw); go_simp; first | done | with_reducible rfl)
      simp only [Act.put, List.setIfInBounds_toArray, List.set_cons_zero, List.set_cons_succ]
      refine rg_take (v := ?_) 12 rfl (by kernel_rfl) (by kernel_rfl) (by kernel_rfl) (fun _ _ _ h => h) (by kernel_rfl) ?_ (by assumption) ?_
      rotate_left
      · (intro w' hSw; (try dsimp only at hSw); go_simp; first | done | with_reducible rfl)
      simp only [Act.put, List.setIfInBounds_toArray, List.set_cons_zero, List.set_cons_succ]
      refine rg_take (v := ?_) 13 rfl (by kernel_rfl) (by kernel_rfl) (by kernel_rfl) (fun _ _ _ h => h) (by kernel_rfl) ?_ (by assumption) ?_
      rotate_left
      · (intro w' hSw; (try dsimp only at hSw); go_simp; first | done | with_reducible rfl)
      simp only [Act.put, List.setIfInBounds_toArray, List.set_cons_zero, List.set_cons_succ]
      refine rg_take (v := ?_) 14 rfl (by kernel_rfl) (by kernel_rfl) (by kernel_rfl) (fun _ _ _ h => h) (by kernel_rfl) ?_ (by assumption) ?_
      rotate_left
      · (intro w' hSw; (try dsimp only at hSw); go_simp; first | done | with_reducible rfl)
      simp only [Act.put, List.setIfInBounds_toArray, List.set_cons_zero, List.set_cons_succ]
      refine rg_take (v := ?_) 15 rfl (by kernel_rfl) (by kernel_rfl) (by kernel_rfl) (fun _ _ _ h => h) (by kernel_rfl) ?_ (by assumption) ?_
      rotate_left
      · (intro w' hSw; (try dsimp only at hSw); go_simp; first | done | with_reducible rfl)
      simp only [Act.put, List.setIfInBounds_toArray, List.set_cons_zero, List.set_cons_succ]
      refine wpAnyH_done (by kernel_rfl) ?_ _
      clear hHeld
      go_wp2_with (first
        | (at_builtin
           refine wpList_push_int _ rfl (.tmp 51) (.tmp 55) rfl (w.heap.size + 1) _ (k + 2) (onesL X l k) (S1 + S2) w10.heap.size 1 rfl (own_below HOW10.out (below_alloc (Below.refl _ _) _)) rfl (by go_simp) (by omega) (by simp; omega) ?_
           intro v11 w11 hown hgrow _ _
           have HB11 := Lib.hid (show Below (w.heap.size + 1) W w11 from (HBX10.out.alloc (by omega) _).grown hgrow (by simp; omega) (fun q hq => (HOW10.out.lt q hq).1))
           have HO11 := Lib.hid hown
           clear hown hgrow)
        )
      obtain ⟨A11, c11, rfl⟩ := own_shape HO11.out
      go_roundw
      case rel => exact ⟨k + 1, A11, c11, by omega, by go_num, rfl, Lib.hid (by rw [HS.out]; exact HO11.out), HB11.out⟩
      case measure => simp [intOf]; omega
    · obtain rfl : k = n := by omega
      obtain ⟨r, rfl⟩ : ∃ r : Nat, R = r := ⟨R.toNat, by omega⟩
      have hr2 : r < k + 2 := by omega
      have v0 := HVN.out.lvl (r := r) (by have := HN.out; omega)
      have o0 := ones_sh HVN.out (k := k) (r := r) (by have := HN.out; omega) (by omega) (s := lvl X l r) (Int.le_refl _)
      have hx20 := HVN.out.x1
      obtain ⟨g, rfl, hg1, _⟩ := own_at ho.out (r := r) hr2
      have HRW := Lib.hid (HR0.out.below (HB2.out.trans (hb.mono (Nat.le_succ _))))
      have HL1 := Lib.hid (fun w1 h => c_l22Level X r A c k l r w1 HN.out (by omega) hr2 h)
      rw [Int.toNat_natCast] at HV
      unfold sh at o0 HV
      generalize lvl X l r = L1 at *
      generalize (onesL X l k).getD r 0 = C1 at *
      have hrn : (r : Int) < k + 2 := by omega
      obtain ⟨S1, hS1⟩ : ∃ S1 : Int, S1 = C1 * 2 ^ L1.toNat := ⟨_, rfl⟩
      rw [← hS1] at o0 HV
      have w5 : IntKind.u64.wrap L1 = L1 := IntWalk.u64_in _ (by omega)
      have w7 : IntKind.i64.wrap (C1 * 2 ^ L1.toNat) = S1 := by rw [← hS1]; exact IntWalk.i64_in _ (by omega)
      have HBX := Lib.hid (HB2.out.trans (hb.mono (Nat.le_succ _)))
      clear hS1 hb ho HB2 HR2 HVN hsz
      go_wp2_with (fail)
      refine wp_region_held_drew (S := (fun w' => (w'.cell? ⟨w.heap.size, 0, none⟩ = some (.int .i64 X) ∧ w'.cell? ⟨w.heap.size, 1, none⟩ = some (.slice A k c) ∧ w'.cell? ⟨w.heap.size, 2, none⟩ = some (.int .i64 r)) ∧ w'.cell? ⟨g, r, none⟩ = some (.int .i64 C1))) (by kernel_rfl) ?_ (fun hHeld => ?_)
      · exact ⟨⟨a0, a1, a2⟩, hg1⟩
      refine rg_take (v := ?_) 0 rfl (by kernel_rfl) (by kernel_rfl) (by kernel_rfl) (fun _ _ _ h => h) (by kernel_rfl) ?_ (by assumption) ?_
      rotate_left
      · (intro w' hSw; (try dsimp only at hSw); go_simp; first | done | with_reducible rfl)
      simp only [Act.put, List.setIfInBounds_toArray, List.set_cons_zero, List.set_cons_succ]
      refine rg_take (v := ?_) 1 rfl (by kernel_rfl) (by kernel_rfl) (by kernel_rfl) (fun _ _ _ h => h) (by kernel_rfl) ?_ (by assumption) ?_
      rotate_left
      · (intro w' hSw; (try dsimp only at hSw); go_simp; first | done | with_reducible rfl)
      simp only [Act.put, List.setIfInBounds_toArray, List.set_cons_zero, List.set_cons_succ]
      refine rg_take (v := ?_) 2 rfl (by kernel_rfl) (by kernel_rfl) (by kernel_rfl) (fun _ _ _ h => h) (by kernel_rfl) ?_ (by assumption) ?_
      rotate_left
      · (intro w' hSw; (try dsimp only at hSw); go_simp; first | done | with_reducible rfl)
      simp only [Act.put, List.setIfInBounds_toArray, List.set_cons_zero, List.set_cons_succ]
      refine rg_take (v := ?_) 3 rfl (by kernel_rfl) (by kernel_rfl) (by kernel_rfl) (fun _ _ _ h => h) (by kernel_rfl) ?_ (by assumption) ?_
      rotate_left
      · (intro w' hSw; (try dsimp only at hSw); go_simp; first | done | with_reducible rfl)
      simp only [Act.put, List.setIfInBounds_toArray, List.set_cons_zero, List.set_cons_succ]
      refine rg_take (v := ?_) 4 rfl (by kernel_rfl) (by kernel_rfl) (by kernel_rfl) (fun _ _ _ h => h) (by kernel_rfl) ?_ (by assumption) ?_
      rotate_left
      · (intro w' hSw; (try dsimp only at hSw); go_simp; first | done | with_reducible rfl)
      simp only [Act.put, List.setIfInBounds_toArray, List.set_cons_zero, List.set_cons_succ]
      refine rg_take (v := ?_) 5 rfl (by kernel_rfl) (by kernel_rfl) (by kernel_rfl) (fun _ _ _ h => h) (by kernel_rfl) ?_ (by assumption) ?_
      rotate_left
      · (intro w' hSw; (try dsimp only at hSw); go_simp; first | done | with_reducible rfl)
      simp only [Act.put, List.setIfInBounds_toArray, List.set_cons_zero, List.set_cons_succ]
      refine rg_take (v := ?_) 6 rfl (by kernel_rfl) (by kernel_rfl) (by kernel_rfl) (fun _ _ _ h => h) (by kernel_rfl) ?_ (by assumption) ?_
      rotate_left
      · (intro w' hSw; (try dsimp only at hSw); go_simp; first | done | with_reducible rfl)
      simp only [Act.put, List.setIfInBounds_toArray, List.set_cons_zero, List.set_cons_succ]
      refine rg_take (v := ?_) 7 rfl (by kernel_rfl) (by kernel_rfl) (by kernel_rfl) (fun _ _ _ h => h) (by kernel_rfl) ?_ (by assumption) ?_
      rotate_left
      · (intro w' hSw; (try dsimp only at hSw); go_simp; first | done | with_reducible rfl)
      simp only [Act.put, List.setIfInBounds_toArray, List.set_cons_zero, List.set_cons_succ]
      refine rg_run 8 rfl (by kernel_rfl) (by kernel_rfl) (fun K hK => ?_)
      go_simp
      refine (HL1.out _ (by exact HRW.out.drew)).mono ?_
      rintro e w9 ⟨rfl, hb⟩
      replace a0 := cell_later hb (by exact a0)
      replace a1 := cell_later hb (by exact a1)
      replace a2 := cell_later hb (by exact a2)
      replace hg1 := cell_later hb (by exact hg1)
      have HBX9 := Lib.hid (below_chain (by exact HBX.out.drew) hb)
      clear hb HRW HBX
      go_wp2
      clear hHeld
      refine hK.out _ _ ⟨⟨a0, a1, a2⟩, hg1⟩ (fun hHeld => ?_)
      clear hK K
      try simp only [Act.put, List.setIfInBounds_toArray, List.set_cons_zero, List.set_cons_succ]
      refine rg_take (v := ?_) 9 rfl (by kernel_rfl) (by kernel_rfl) (by kernel_rfl) (fun _ _ _ h => h) (by kernel_rfl) ?_ (by assumption) ?_
      rotate_left
      · (intro w' hSw; (try dsimp only at hSw); go_simp; first | done | with_reducible rfl)
      simp only [Act.put, List.setIfInBounds_toArray, List.set_cons_zero, List.set_cons_succ]
      refine rg_take (v := ?_) 10 rfl (by kernel_rfl) (by kernel_rfl) (by kernel_rfl) (fun _ _ _ h => h) (by kernel_rfl) ?_ (by assumption) ?_
      rotate_left
      · (intro w' hSw; (try dsimp only at hSw); go_simp; first | done | with_reducible rfl)
      simp only [Act.put, List.setIfInBounds_toArray, List.set_cons_zero, List.set_cons_succ]
      refine rg_take (v := ?_) 11 rfl (by kernel_rfl) (by kernel_rfl) (by kernel_rfl) (fun _ _ _ h => h) (by kernel_rfl) ?_ (by assumption) ?_
      rotate_left
      · (intro w' hSw; (try dsimp only at hSw); go_simp; first | done | with_reducible rfl)
      simp only [Act.put, List.setIfInBounds_toArray, List.set_cons_zero, List.set_cons_succ]
      refine wpAnyH_done (by kernel_rfl) ?_ _
      clear hHeld
      go_wp2_with (fail)
      go_ret
      exact ⟨by rw [HV.out]; rfl, HBX9.out⟩
end Go.Proofs.Ytndihacmlkgkbaa
