/- Contract of the program's ones. Condition: the nodes are valid. -/
import Derived.Test.YtndihacmlkgkbaaDgKs
namespace Go.Proofs.Ytndihacmlkgkbaa
open Go.RowKit

set_option maxRecDepth 100000 in
theorem c_below (bc bd g n3 c3 : Nat) (X R : Int) (A : Option Addr) (c n : Nat) (l : List Nd) (r : Nat) (y C1 : Int) (w : World) (hn : n = l.length) (hs : n ≤ 1099511627776) (hr : r < n + 2) (h : Rd w A (ndCells l)) (hr3 : r < n3)
    (k0 : w.cell? ⟨bc, 0, none⟩ = some (.slice (some ⟨g, 0, none⟩) n3 c3)) (a0 : w.cell? ⟨bd, 0, none⟩ = some (.int .i64 X)) (a1 : w.cell? ⟨bd, 1, none⟩ = some (.slice A n c)) (a2 : w.cell? ⟨bd, 2, none⟩ = some (.int .i64 R)) (hg1 : w.cell? ⟨g, r, none⟩ = some (.int .i64 C1))
    (hy : y ≤ lvl X l r) (hy0 : 0 ≤ y) (hy1 : lvl X l r ≤ 20) (hS : 0 ≤ sh C1 (lvl X l r - y) ∧ sh C1 (lvl X l r - y) ≤ 1048576) :
    Calls Try.prog 73 #[.int .i64 r, .int .i64 y, .pointer (some ⟨bc, 0, none⟩), .pointer (some ⟨bd, 0, none⟩)] w fun e w' => e = .returned (.int .i64 (sh C1 (lvl X l r - y))) ∧ Below w.heap.size w w' := by
  have H := Lib.hid h
  have HL1 := Lib.hid (fun w1 h => c_inputOf X R A c n l r w1 hn hs hr h)
  clear hn h
  obtain ⟨S1, hS1⟩ : ∃ S1 : Int, S1 = sh C1 (lvl X l r - y) := ⟨_, rfl⟩
  rw [← hS1] at hS ⊢
  unfold sh at hS1
  generalize lvl X l r = L1 at *
  have w1 : IntKind.i64.wrap (L1 - y) = L1 - y := IntWalk.i64_in _ (by omega)
  have w7 : IntKind.i64.wrap (C1 * 2 ^ (L1 - y).toNat) = S1 := by rw [← hS1]; exact IntWalk.i64_in _ (by omega)
  have hrn : (r : Int) < n3 := by omega
  clear hS1
  go_enter Try.func73, Try.ntmps73
  go_wp2_with (fail)
  refine wp_region_held_drew (S := (fun w' => (w'.cell? ⟨bd, 0, none⟩ = some (.int .i64 X) ∧ w'.cell? ⟨bd, 1, none⟩ = some (.slice A n c) ∧ w'.cell? ⟨bd, 2, none⟩ = some (.int .i64 R)) ∧ w'.cell? ⟨bc, 0, none⟩ = some (.slice (some ⟨g, 0, none⟩) n3 c3) ∧ w'.cell? ⟨g, r, none⟩ = some (.int .i64 C1))) (by kernel_rfl) ?_ (fun hHeld => ?_)
  · exact ⟨⟨a0, a1, a2⟩, k0, hg1⟩
  refine rg_take (v := ?_) 0 rfl (by kernel_rfl) (by kernel_rfl) (by kernel_rfl) (fun _ _ _ h => h) (by kernel_rfl) ?_ (by assumption) ?_
  rotate_left
  · (intro w' hSw; (try dsimp only at hSw); go_simp; first | done | with_reducible rfl)
  simp only [Act.put, List.setIfInBounds_toArray, List.set_cons_zero, List.set_cons_succ]
  refine rg_take (v := ?_) 1 rfl (by kernel_rfl) (by kernel_rfl) (by kernel_rfl) (fun _ _ _ h => h) (by kernel_rfl) ?_ (by assumption) ?_
  rotate_left
  · (intro w' hSw; (try dsimp only at hSw); go_simp; first | done | with_reducible rfl)
  simp only [Act.put, List.setIfInBounds_toArray, List.set_cons_zero, List.set_cons_succ]
  refine rg_take (v := ?_) 2 rfl (by kernel_rfl) (by kernel_rfl) (by kernel_rfl) (fun _ _ _ h => h) (by kernel_rfl) ?_ (by assumption) ?_
  rotate_left
  · (intro w' hSw; (try dsimp only at hSw); go_simp; first | done | with_reducible rfl)
  simp only [Act.put, List.setIfInBounds_toArray, List.set_cons_zero, List.set_cons_succ]
  refine rg_take (v := ?_) 3 rfl (by kernel_rfl) (by kernel_rfl) (by kernel_rfl) (fun _ _ _ h => h) (by kernel_rfl) ?_ (by assumption) ?_
  rotate_left
  · (intro w' hSw; (try dsimp only at hSw); go_simp; first | done | with_reducible rfl)
  simp only [Act.put, List.setIfInBounds_toArray, List.set_cons_zero, List.set_cons_succ]
  refine rg_take (v := ?_) 4 rfl (by kernel_rfl) (by kernel_rfl) (by kernel_rfl) (fun _ _ _ h => h) (by kernel_rfl) ?_ (by assumption) ?_
  rotate_left
  · (intro w' hSw; (try dsimp only at hSw); go_simp; first | done | with_reducible rfl)
  simp only [Act.put, List.setIfInBounds_toArray, List.set_cons_zero, List.set_cons_succ]
  refine rg_take (v := ?_) 5 rfl (by kernel_rfl) (by kernel_rfl) (by kernel_rfl) (fun _ _ _ h => h) (by kernel_rfl) ?_ (by assumption) ?_
  rotate_left
  · (intro w' hSw; (try dsimp only at hSw); go_simp; first | done | with_reducible rfl)
  simp only [Act.put, List.setIfInBounds_toArray, List.set_cons_zero, List.set_cons_succ]
  refine rg_take (v := ?_) 7 rfl (by kernel_rfl) (by kernel_rfl) (by kernel_rfl) (fun _ _ _ h => h) (by kernel_rfl) ?_ (by assumption) ?_
  rotate_left
  · (intro w' hSw; (try dsimp only at hSw); go_simp; first | done | with_reducible rfl)
  simp only [Act.put, List.setIfInBounds_toArray, List.set_cons_zero, List.set_cons_succ]
  refine rg_run 6 rfl (by kernel_rfl) (by kernel_rfl) (fun K hK => ?_)
  go_simp
  refine (HL1.out _ (by exact H.out.drew)).mono ?_
  rintro e w9 ⟨rfl, hb⟩
  replace a0 := cell_later hb (by exact a0)
  replace a1 := cell_later hb (by exact a1)
  replace a2 := cell_later hb (by exact a2)
  replace k0 := cell_later hb (by exact k0)
  replace hg1 := cell_later hb (by exact hg1)
  have HB9 := Lib.hid (show Below w.heap.size w w9 from below_chain (by exact (Below.refl _ _).drew) hb)
  clear hb
  go_wp2
  clear hHeld
  refine hK.out _ _ ⟨⟨a0, a1, a2⟩, k0, hg1⟩ (fun hHeld => ?_)
  clear hK K
  try simp only [Act.put, List.setIfInBounds_toArray, List.set_cons_zero, List.set_cons_succ]
  refine rg_take (v := ?_) 8 rfl (by kernel_rfl) (by kernel_rfl) (by kernel_rfl) (fun _ _ _ h => h) (by kernel_rfl) ?_ (by assumption) ?_
  rotate_left
  · (intro w' hSw; (try dsimp only at hSw); go_simp; first | done | with_reducible rfl)
  simp only [Act.put, List.setIfInBounds_toArray, List.set_cons_zero, List.set_cons_succ]
  refine rg_take (v := ?_) 9 rfl (by kernel_rfl) (by kernel_rfl) (by kernel_rfl) (fun _ _ _ h => h) (by kernel_rfl) ?_ (by assumption) ?_
  rotate_left
  · (intro w' hSw; (try dsimp only at hSw); go_simp; first | done | with_reducible rfl)
  simp only [Act.put, List.setIfInBounds_toArray, List.set_cons_zero, List.set_cons_succ]
  refine rg_take (v := ?_) 10 rfl (by kernel_rfl) (by kernel_rfl) (by kernel_rfl) (fun _ _ _ h => h) (by kernel_rfl) ?_ (by assumption) ?_
  rotate_left
  · (intro w' hSw; (try dsimp only at hSw); go_simp; first | done | with_reducible rfl)
  simp only [Act.put, List.setIfInBounds_toArray, List.set_cons_zero, List.set_cons_succ]
  refine wpAnyH_done (by kernel_rfl) ?_ _
  clear hHeld
  go_wp2_with (fail)
  go_ret
  exact ⟨rfl, HB9.out⟩
theorem wp_push_int2 (w : World) {o : Oper} {a : Act} {K : Act → World → Prop} {Q : Exit → Act → World → Prop} (s x : Operand)
    (ho : o.op = .call { callee := .builtin .append, args := #[s, x], argTypes := #[35, 35] })
    (base : Nat) (v : Value) (n : Nat) (l : List Int) (z : Int) (g c : Nat) (hs : a.eval s = v) (hown : w.ownsRow base 2 1 v n (ints l))
    (hx : a.eval x = .slice (some ⟨g, 0, none⟩) 1 c) (h0 : w.cell? ⟨g, 0, none⟩ = some (.int .i64 z)) (hn : n ≤ 1099511627776) (hbase : base ≤ w.heap.size)
    (h : ∀ v' w', w'.ownsRow base 2 1 v' (n + 1) (ints (l ++ [z])) → w.grownBy w' v.ownBlock → (∀ g, v.ownBlock = some g → ∀ j, j < n * 1 → w'.cell? ⟨g, j, none⟩ = w.cell? ⟨g, j, none⟩) → K (a.put o.dst v') w') : o.wp Try.prog a w K Q := by
  obtain ⟨i0, hi, hz0, hz1, hz2⟩ := info_parts info_int64
  refine wp_push w s x 35 ho base 2 i0 (.int .i64 0) 1 8 Try.underlying35 hi hz0 hz1 hz2 rfl (by decide) v n (ints l) hs hown ⟨g, 0, none⟩ c [.int .i64 z] hx rfl ?_ ?_ (by unfold maxLen; omega) (by omega) hbase ?_
  · intro j u hu
    match j, hu with
    | 0, hu =>
      simp only [List.getElem?_cons_zero, Option.some.injEq] at hu
      rw [← hu]
      simpa [Addr.add] using h0
  · intro u hu
    simp only [List.mem_singleton] at hu
    subst hu; rfl
  · intro v' w' h1 h2 h3 _
    exact h v' w' (by simpa [ints] using h1) h2 h3
set_option maxHeartbeats 1000000 in
set_option maxRecDepth 100000 in
theorem c_ones (X R : Int) (A : Option Addr) (c n : Nat) (l : List Nd) (w : World) (hn : n = l.length) (hd : isD X l R = true) (hr : Rd w A (ndCells l)) :
    Calls Try.prog 52 #[.agg #[.int .i64 X, .slice A n c, .int .i64 R]] w fun e w' => e = .returned (.int .i64 (onesV X l R)) ∧ Below w.heap.size w w' := by
  have hmf : ∀ (fn : Fn) (first cap : Array Value) (w : World), (Instr.makeFunc fn first cap).run Try.prog w = .ok (.func fn first cap) w := fun _ _ _ _ => rfl
  have HN := Lib.hid hn
  have HR0 := Lib.hid hr
  obtain ⟨hv, hR0, hR1, _, _⟩ := isD_VN hd
  have HVN := Lib.hid hv
  have hln := hv.n
  rw [← hn] at hln hR1
  have HV : Hid (onesV X l R = sh ((onesL X l n).getD R.toNat 0) (lvl X l R.toNat)) := Lib.hid (by unfold onesV; rw [if_pos hd, hn])
  clear hn hr hv hd
  have HO : Hid ((((w.alloc (.cells #[.int .i64 X, .slice A n c, .int .i64 R] 29)).alloc (.cells #[.int .i64 0, .int .i64 1] 2)).alloc (.cells #[.slice (some ⟨w.heap.size + 1, 0, none⟩) 2 2] 35)).ownsRow (w.heap.size + 1) 2 1 (.slice (some ⟨w.heap.size + 1, 0, none⟩) 2 2) 2 (ints [0, 1])) := Lib.hid (by
    have h := World.ownsRow_lit (e := 2) (size := 1) (base := w.heap.size + 1) (w.alloc (.cells #[.int .i64 X, .slice A n c, .int .i64 R] 29)) #[.int .i64 0, .int .i64 1] 2 (by simp) (by decide) (by simp)
    refine own_below ?_ (below_alloc (Below.refl _ _) _)
    simpa [ints] using h)
  have HX : Hid ((((w.alloc (.cells #[.int .i64 X, .slice A n c, .int .i64 R] 29)).alloc (.cells #[.int .i64 0, .int .i64 1] 2)).alloc (.cells #[.slice (some ⟨w.heap.size + 1, 0, none⟩) 2 2] 35)).ownsRow (w.heap.size + 1) 35 1 (.slice (some ⟨w.heap.size + 1 + 1, 0, none⟩) 1 1) 1 [.slice (some ⟨w.heap.size + 1, 0, none⟩) 2 2]) := Lib.hid (by
    have h := own_box ((w.alloc (.cells #[.int .i64 X, .slice A n c, .int .i64 R] 29)).alloc (.cells #[.int .i64 0, .int .i64 1] 2)) (w.heap.size + 1) 35 [.slice (some ⟨w.heap.size + 1, 0, none⟩) 2 2] 1 rfl (by simp)
    have e : ((w.alloc (.cells #[.int .i64 X, .slice A n c, .int .i64 R] 29)).alloc (.cells #[.int .i64 0, .int .i64 1] 2)).heap.size = w.heap.size + 1 + 1 := by simp
    rw [e] at h
    exact h)
  have a0 : (((w.alloc (.cells #[.int .i64 X, .slice A n c, .int .i64 R] 29)).alloc (.cells #[.int .i64 0, .int .i64 1] 2)).alloc (.cells #[.slice (some ⟨w.heap.size + 1, 0, none⟩) 2 2] 35)).cell? ⟨w.heap.size, 0, none⟩ = some (.int .i64 X) := by go_simp
  have a1 : (((w.alloc (.cells #[.int .i64 X, .slice A n c, .int .i64 R] 29)).alloc (.cells #[.int .i64 0, .int .i64 1] 2)).alloc (.cells #[.slice (some ⟨w.heap.size + 1, 0, none⟩) 2 2] 35)).cell? ⟨w.heap.size, 1, none⟩ = some (.slice A n c) := by go_simp
  have a2 : (((w.alloc (.cells #[.int .i64 X, .slice A n c, .int .i64 R] 29)).alloc (.cells #[.int .i64 0, .int .i64 1] 2)).alloc (.cells #[.slice (some ⟨w.heap.size + 1, 0, none⟩) 2 2] 35)).cell? ⟨w.heap.size, 2, none⟩ = some (.int .i64 R) := by go_simp
  have HB2 := Lib.hid (below_alloc (below_alloc (below_alloc (Below.refl w.heap.size w) (.cells #[.int .i64 X, .slice A n c, .int .i64 R] 29)) (.cells #[.int .i64 0, .int .i64 1] 2)) (.cells #[.slice (some ⟨w.heap.size + 1, 0, none⟩) 2 2] 35))
  have hsz : (((w.alloc (.cells #[.int .i64 X, .slice A n c, .int .i64 R] 29)).alloc (.cells #[.int .i64 0, .int .i64 1] 2)).alloc (.cells #[.slice (some ⟨w.heap.size + 1, 0, none⟩) 2 2] 35)).heap.size = w.heap.size + 1 + 1 + 1 := by simp
  go_enter Try.func52, Try.ntmps52
  go_wp2_with (fail)
  clear hmf
  generalize (((w.alloc (.cells #[.int .i64 X, .slice A n c, .int .i64 R] 29)).alloc (.cells #[.int .i64 0, .int .i64 1] 2)).alloc (.cells #[.slice (some ⟨w.heap.size + 1, 0, none⟩) 2 2] 35)) = W at *
  go_loopw [6, 12] (fun _ u wr => ∃ k A3 c3, k ≤ n ∧ u = .int .i64 (k : Nat) ∧ Hid (wr.ownsRow (w.heap.size + 1) 35 1 (.slice (some ⟨w.heap.size + 1 + 1, 0, none⟩) 1 1) 1 [.slice A3 (k + 2) c3]) ∧ Hid (wr.ownsRow (w.heap.size + 1) 2 1 (.slice A3 (k + 2) c3) (k + 2) (ints (onesL X l k))) ∧ Below (w.heap.size + 1) W wr) (fun _ u _ => n - (intOf u).toNat)
  case atStart => exact ⟨0, _, _, Nat.zero_le _, rfl, HX, HO, Below.refl _ _⟩
  case round =>
    obtain ⟨k, A3, c3, hk, rfl, hbx, ho, hb⟩ := hrel
    clear HO HX
    replace a0 := (hb.cell (p := ⟨w.heap.size, 0, none⟩) (Nat.lt_succ_self _)).trans a0
    replace a1 := (hb.cell (p := ⟨w.heap.size, 1, none⟩) (Nat.lt_succ_self _)).trans a1
    replace a2 := (hb.cell (p := ⟨w.heap.size, 2, none⟩) (Nat.lt_succ_self _)).trans a2
    have hszr := hb.size
    have HBW := Lib.hid (HB2.out.trans (hb.mono (Nat.le_succ _)))
    have k0 := hbx.out.cellAt 0 (by decide)
    simp only [List.getElem?_cons_zero] at k0
    by_cases hlt : k < n
    · obtain ⟨x, hx⟩ : ∃ x, l[k]? = some x := ⟨_, List.getElem?_eq_getElem (by have := HN.out; omega)⟩
      have hv := HVN.out.lv k x hx
      have hgd := HVN.out.good k x hx
      have hx20 := HVN.out.x1
      have hkl : k ≤ l.length := by have := HN.out; omega
      have o1 := ones_sh HVN.out (k := k) (r := x.lo.toNat) hkl (by omega) (s := lvl X l x.lo.toNat - (x.i + 1)) (by omega)
      have o2 := ones_sh HVN.out (k := k) (r := x.hi.toNat) hkl (by omega) (s := lvl X l x.hi.toNat - (x.i + 1)) (by omega)
      have v1 := HVN.out.lvl (r := x.lo.toNat) (by omega)
      have v2 := HVN.out.lvl (r := x.hi.toNat) (by omega)
      have HS : Hid (onesL X l (k + 1) = onesL X l k ++ [sh ((onesL X l k).getD x.lo.toNat 0) (lvl X l x.lo.toNat - (x.i + 1)) + sh ((onesL X l k).getD x.hi.toNat 0) (lvl X l x.hi.toNat - (x.i + 1))]) := Lib.hid (by
        rw [onesL, getD_nd hx]
        unfold onesAt
        rw [Int.sub_sub, Int.sub_sub])
      obtain ⟨b1, off, rfl, hb1, g0, g1, g2⟩ := (HR0.out.below HBW.out).nd hx
      obtain ⟨xi, xa, xb⟩ := x
      dsimp only at hv hgd o1 o2 v1 v2 HS g0 g1 g2
      obtain ⟨a, rfl⟩ : ∃ a : Nat, xa = a := ⟨xa.toNat, by omega⟩
      obtain ⟨b, rfl⟩ : ∃ b : Nat, xb = b := ⟨xb.toNat, by omega⟩
      simp only [Int.toNat_natCast] at hv o1 o2 v1 v2 HS
      obtain ⟨g, rfl, hg1, c1⟩ := own_at ho.out (r := a) (by omega)
      obtain ⟨g', e', hg2, c2⟩ := own_at ho.out (r := b) (by omega)
      simp only [Option.some.injEq, Addr.mk.injEq, and_true] at e'
      subst e'
      have HL1 := Lib.hid (fun (C1 : Int) w1 h h0 a0 a1 a2 h1 => c_below (w.heap.size + 1 + 1) w.heap.size g (k + 2) c3 X R (some ⟨b1, off, none⟩) c n l a (xi + 1) C1 w1 HN.out (by omega) (by have := HN.out; omega) h (by omega) h0 a0 a1 a2 h1 (by omega) (by omega) (by omega))
      have HL2 := Lib.hid (fun (C2 : Int) w1 h h0 a0 a1 a2 h1 => c_below (w.heap.size + 1 + 1) w.heap.size g (k + 2) c3 X R (some ⟨b1, off, none⟩) c n l b (xi + 1) C2 w1 HN.out (by omega) (by have := HN.out; omega) h (by omega) h0 a0 a1 a2 h1 (by omega) (by omega) (by omega))
      generalize (onesL X l k).getD a 0 = C1 at *
      generalize (onesL X l k).getD b 0 = C2 at *
      have HL1 := Lib.hid (HL1.out C1)
      have HL2 := Lib.hid (HL2.out C2)
      generalize sh C1 (lvl X l a - (xi + 1)) = S1 at *
      generalize sh C2 (lvl X l b - (xi + 1)) = S2 at *
      have hkn : (k : Int) < n := by omega
      have hak : a < k + 2 := by omega
      have hbk : b < k + 2 := by omega
      have p1 : 0 ≤ xi := by omega
      have p2 : xi < 20 := by omega
      have hw1 : IntKind.i64.wrap (xi + 1) = xi + 1 := IntWalk.i64_in _ (by omega)
      have hw2 : IntKind.i64.wrap (S1 + S2) = S1 + S2 := IntWalk.i64_in _ (by omega)
      have hgg := (ho.out.lt g rfl).2
      have hal := below_alloc (Below.refl wr.heap.size wr) (.cells #[.int .i64 xi, .int .i64 a, .int .i64 b] 57)
      have y0 : (wr.alloc (.cells #[.int .i64 xi, .int .i64 a, .int .i64 b] 57)).cell? ⟨wr.heap.size, 0, none⟩ = some (.int .i64 xi) := by go_simp
      have y1 : (wr.alloc (.cells #[.int .i64 xi, .int .i64 a, .int .i64 b] 57)).cell? ⟨wr.heap.size, 1, none⟩ = some (.int .i64 a) := by go_simp
      have y2 : (wr.alloc (.cells #[.int .i64 xi, .int .i64 a, .int .i64 b] 57)).cell? ⟨wr.heap.size, 2, none⟩ = some (.int .i64 b) := by go_simp
      have b0 := cell_later hal a0
      have b1' := cell_later hal a1
      have b2 := cell_later hal a2
      have q0 := cell_later hal k0
      have q1 := cell_later hal hg1
      have q2 := cell_later hal hg2
      have HRW := Lib.hid ((HR0.out.below HBW.out).below hal)
      have HOW := Lib.hid (own_below ho.out hal)
      have HXW := Lib.hid (own_below hbx.out hal)
      have HBX := Lib.hid (show Below (w.heap.size + 1) W _ from hb.trans (hal.mono (by omega)))
      have hszx : w.heap.size + 1 + 1 + 1 ≤ (wr.alloc (.cells #[.int .i64 xi, .int .i64 a, .int .i64 b] 57)).heap.size := by simp; omega
      clear ho hb hbx hx hv hgd hal hsz HBW HVN HB2 c1 c2 hkl v1 v2 hszr
      go_wp2_with (fail)
      clear a0 a1 a2 k0 g0 g1 g2 hg1 hg2
      generalize wr.alloc (.cells #[.int .i64 xi, .int .i64 a, .int .i64 b] 57) = W5 at *
      generalize wr.heap.size = gx at *
      refine wp_region_heldE 18 (S := (fun w' => (w'.cell? ⟨w.heap.size, 0, none⟩ = some (.int .i64 X) ∧ w'.cell? ⟨w.heap.size, 1, none⟩ = some (.slice (some ⟨b1, off, none⟩) n c) ∧ w'.cell? ⟨w.heap.size, 2, none⟩ = some (.int .i64 R)) ∧ (w'.cell? ⟨gx, 0, none⟩ = some (.int .i64 xi) ∧ w'.cell? ⟨gx, 1, none⟩ = some (.int .i64 a) ∧ w'.cell? ⟨gx, 2, none⟩ = some (.int .i64 b)) ∧ w'.cell? ⟨w.heap.size + 1 + 1, 0, none⟩ = some (.slice (some ⟨g, 0, none⟩) (k + 2) c3) ∧ w'.cell? ⟨g, a, none⟩ = some (.int .i64 C1) ∧ w'.cell? ⟨g, b, none⟩ = some (.int .i64 C2))) (by kernel_rfl) ?_ (fun hHeld => ?_)
      · exact ⟨⟨b0, b1', b2⟩, ⟨y0, y1, y2⟩, q0, q1, q2⟩
      refine rgE_take (v := ?_) 0 12 rfl (by kernel_rfl) (by kernel_rfl) (by kernel_rfl) (by kernel_rfl) (by kernel_rfl) (fun _ _ _ h => h) (by kernel_rfl) ?_ (by assumption) ?_
      rotate_left
      · (intro w' hSw; (try dsimp only at hSw); go_simp; first | done | with_reducible rfl)
      simp only [Act.put, List.setIfInBounds_toArray, List.set_cons_zero, List.set_cons_succ]
      refine rgE_take (v := ?_) 1 12 rfl (by kernel_rfl) (by kernel_rfl) (by kernel_rfl) (by kernel_rfl) (by kernel_rfl) (fun _ _ _ h => h) (by kernel_rfl) ?_ (by assumption) ?_
      rotate_left
      · (intro w' hSw; (try dsimp only at hSw); go_simp; first | done | with_reducible rfl)
      simp only [Act.put, List.setIfInBounds_toArray, List.set_cons_zero, List.set_cons_succ]
      refine rgE_take (v := ?_) 2 12 rfl (by kernel_rfl) (by kernel_rfl) (by kernel_rfl) (by kernel_rfl) (by kernel_rfl) (fun _ _ _ h => h) (by kernel_rfl) ?_ (by assumption) ?_
      rotate_left
      · (intro w' hSw; (try dsimp only at hSw); go_simp; first | done | with_reducible rfl)
      simp only [Act.put, List.setIfInBounds_toArray, List.set_cons_zero, List.set_cons_succ]
      refine rgE_take (v := ?_) 3 12 rfl (by kernel_rfl) (by kernel_rfl) (by kernel_rfl) (by kernel_rfl) (by kernel_rfl) (fun _ _ _ h => h) (by kernel_rfl) ?_ (by assumption) ?_
      rotate_left
      · (intro w' hSw; (try dsimp only at hSw); go_simp; first | done | with_reducible rfl)
      simp only [Act.put, List.setIfInBounds_toArray, List.set_cons_zero, List.set_cons_succ]
      refine rgE_take (v := ?_) 4 12 rfl (by kernel_rfl) (by kernel_rfl) (by kernel_rfl) (by kernel_rfl) (by kernel_rfl) (fun _ _ _ h => h) (by kernel_rfl) ?_ (by assumption) ?_
      rotate_left
      · (intro w' hSw; (try dsimp only at hSw); go_simp; first | done | with_reducible rfl)
      simp only [Act.put, List.setIfInBounds_toArray, List.set_cons_zero, List.set_cons_succ]
      refine rgE_take (v := ?_) 5 12 rfl (by kernel_rfl) (by kernel_rfl) (by kernel_rfl) (by kernel_rfl) (by kernel_rfl) (fun _ _ _ h => h) (by kernel_rfl) ?_ (by assumption) ?_
      rotate_left
      · (intro w' hSw; (try dsimp only at hSw); go_simp; first | done | with_reducible rfl)
      simp only [Act.put, List.setIfInBounds_toArray, List.set_cons_zero, List.set_cons_succ]
      refine rgE_take (v := ?_) 6 12 rfl (by kernel_rfl) (by kernel_rfl) (by kernel_rfl) (by kernel_rfl) (by kernel_rfl) (fun _ _ _ h => h) (by kernel_rfl) ?_ (by assumption) ?_
      rotate_left
      · (intro w' hSw; (try dsimp only at hSw); go_simp; first | done | with_reducible rfl)
      simp only [Act.put, List.setIfInBounds_toArray, List.set_cons_zero, List.set_cons_succ]
      refine rgE_take (v := ?_) 8 12 rfl (by kernel_rfl) (by kernel_rfl) (by kernel_rfl) (by kernel_rfl) (by kernel_rfl) (fun _ _ _ h => h) (by kernel_rfl) ?_ (by assumption) ?_
      rotate_left
      · (intro w' hSw; (try dsimp only at hSw); go_simp; first | done | with_reducible rfl)
      simp only [Act.put, List.setIfInBounds_toArray, List.set_cons_zero, List.set_cons_succ]
      refine rgE_take (v := ?_) 9 12 rfl (by kernel_rfl) (by kernel_rfl) (by kernel_rfl) (by kernel_rfl) (by kernel_rfl) (fun _ _ _ h => h) (by kernel_rfl) ?_ (by assumption) ?_
      rotate_left
      · (intro w' hSw; (try dsimp only at hSw); go_simp; first | done | with_reducible rfl)
      simp only [Act.put, List.setIfInBounds_toArray, List.set_cons_zero, List.set_cons_succ]
      refine rgE_take (v := ?_) 10 12 rfl (by kernel_rfl) (by kernel_rfl) (by kernel_rfl) (by kernel_rfl) (by kernel_rfl) (fun _ _ _ h => h) (by kernel_rfl) ?_ (by assumption) ?_
      rotate_left
      · (intro w' hSw; (try dsimp only at hSw); go_simp; first | done | with_reducible rfl)
      simp only [Act.put, List.setIfInBounds_toArray, List.set_cons_zero, List.set_cons_succ]
      refine rgE_take (v := ?_) 11 12 rfl (by kernel_rfl) (by kernel_rfl) (by kernel_rfl) (by kernel_rfl) (by kernel_rfl) (fun _ _ _ h => h) (by kernel_rfl) ?_ (by assumption) ?_
      rotate_left
      · (intro w' hSw; (try dsimp only at hSw); go_simp; first | done | with_reducible rfl)
      simp only [Act.put, List.setIfInBounds_toArray, List.set_cons_zero, List.set_cons_succ]
      refine rgE_take (v := ?_) 12 12 rfl (by kernel_rfl) (by kernel_rfl) (by kernel_rfl) (by kernel_rfl) (by kernel_rfl) (fun _ _ _ h => h) (by kernel_rfl) ?_ (by assumption) ?_
      rotate_left
      · (intro w' hSw; (try dsimp only at hSw); go_simp; first | done | with_reducible rfl)
      simp only [Act.put, List.setIfInBounds_toArray, List.set_cons_zero, List.set_cons_succ]
      refine rgE_take (v := ?_) 13 12 rfl (by kernel_rfl) (by kernel_rfl) (by kernel_rfl) (by kernel_rfl) (by kernel_rfl) (fun _ _ _ h => h) (by kernel_rfl) ?_ (by assumption) ?_
      rotate_left
      · (intro w' hSw; (try dsimp only at hSw); go_simp; first | done | with_reducible rfl)
      simp only [Act.put, List.setIfInBounds_toArray, List.set_cons_zero, List.set_cons_succ]
      refine rgE_run 7 rfl (by kernel_rfl) (by kernel_rfl) (by decide) (fun K hK => ?_)
      go_simp
      refine (HL1.out _ (by exact HRW.out.drew) (by exact q0) (by exact b0) (by exact b1') (by exact b2) (by exact q1) o1).mono ?_
      rintro e w9 ⟨rfl, hb⟩
      replace b0 := cell_later hb (by exact b0)
      replace b1' := cell_later hb (by exact b1')
      replace b2 := cell_later hb (by exact b2)
      replace y0 := cell_later hb (by exact y0)
      replace y1 := cell_later hb (by exact y1)
      replace y2 := cell_later hb (by exact y2)
      replace q0 := cell_later hb (by exact q0)
      replace q1 := cell_later hb (by exact q1)
      replace q2 := cell_later hb (by exact q2)
      have HRW9 := Lib.hid (Rd.below (by exact HRW.out) hb)
      have HOW9 := Lib.hid (own_below (by exact HOW.out) hb)
      have HXW9 := Lib.hid (own_below (by exact HXW.out) hb)
      have HBX9 := Lib.hid ((show Below (w.heap.size + 1) W _ from HBX.out.drew).trans (hb.mono (by exact Nat.le_trans (by omega) hszx)))
      replace hszx := Nat.le_trans (by exact hszx) hb.size
      clear hb HRW HOW HXW HBX HL1
      go_wp2
      clear hHeld
      refine hK.out _ _ (.inr (by exact ⟨⟨b0, b1', b2⟩, ⟨y0, y1, y2⟩, q0, q1, q2⟩)) (fun hHeld => ?_)
      clear hK K
      try simp only [Act.put, List.setIfInBounds_toArray, List.set_cons_zero, List.set_cons_succ]
      refine rgE_run 14 rfl (by kernel_rfl) (by kernel_rfl) (by decide) (fun K hK => ?_)
      go_simp
      refine (HL2.out _ (by exact HRW9.out) (by exact q0) (by exact b0) (by exact b1') (by exact b2) (by exact q2) o2).mono ?_
      rintro e w10 ⟨rfl, hb⟩
      replace b0 := cell_later hb (by exact b0)
      replace b1' := cell_later hb (by exact b1')
      replace b2 := cell_later hb (by exact b2)
      replace y0 := cell_later hb (by exact y0)
      replace y1 := cell_later hb (by exact y1)
      replace y2 := cell_later hb (by exact y2)
      replace q0 := cell_later hb (by exact q0)
      replace q1 := cell_later hb (by exact q1)
      replace q2 := cell_later hb (by exact q2)
      have HOW10 := Lib.hid (own_below (by exact HOW9.out) hb)
      have HXW10 := Lib.hid (own_below (by exact HXW9.out) hb)
      have HBX10 := Lib.hid ((show Below (w.heap.size + 1) W _ from HBX9.out).trans (hb.mono (by exact Nat.le_trans (by omega) hszx)))
      replace hszx := Nat.le_trans (by exact hszx) hb.size
      clear hb HRW9 HOW9 HXW9 HBX9 HL2
      go_wp2
      clear hHeld
      refine hK.out _ _ (.inr (by exact ⟨⟨b0, b1', b2⟩, ⟨y0, y1, y2⟩, q0, q1, q2⟩)) (fun hHeld => ?_)
      clear hK K
      try simp only [Act.put, List.setIfInBounds_toArray, List.set_cons_zero, List.set_cons_succ]
      refine rgE_take (v := ?_) 15 12 rfl (by kernel_rfl) (by kernel_rfl) (by kernel_rfl) (by kernel_rfl) (by kernel_rfl) (fun _ _ _ h => h) (by kernel_rfl) ?_ (by assumption) ?_
      rotate_left
      · (intro w' hSw; (try dsimp only at hSw); go_simp; first | done | with_reducible rfl)
      simp only [Act.put, List.setIfInBounds_toArray, List.set_cons_zero, List.set_cons_succ]
      refine rgE_run 16 rfl (by kernel_rfl) (by kernel_rfl) (by decide) (fun K hK => ?_)
      go_simp
      go_wp2
      have hal := below_alloc (Below.refl w10.heap.size w10) (.cells #[.int .i64 (S1 + S2)] 2)
      replace b0 := cell_later hal (by exact b0)
      replace b1' := cell_later hal (by exact b1')
      replace b2 := cell_later hal (by exact b2)
      replace y0 := cell_later hal (by exact y0)
      replace y1 := cell_later hal (by exact y1)
      replace y2 := cell_later hal (by exact y2)
      replace q0 := cell_later hal (by exact q0)
      replace q1 := cell_later hal (by exact q1)
      replace q2 := cell_later hal (by exact q2)
      have HOW11 := Lib.hid (own_below (by exact HOW10.out) hal)
      have HXW11 := Lib.hid (own_below (by exact HXW10.out) hal)
      have HBX11 := Lib.hid ((show Below (w.heap.size + 1) W _ from HBX10.out).trans (hal.mono (by exact Nat.le_trans (by omega) hszx)))
      replace hszx := Nat.le_trans (by exact hszx) hal.size
      have z0 : (w10.alloc (.cells #[.int .i64 (S1 + S2)] 2)).cell? ⟨w10.heap.size, 0, none⟩ = some (.int .i64 (S1 + S2)) := by go_simp
      clear hal HOW10 HXW10 HBX10
      generalize w10.alloc (.cells #[.int .i64 (S1 + S2)] 2) = W11 at *
      generalize w10.heap.size = g11 at *
      clear hHeld
      refine hK.out _ _ (.inr (by exact ⟨⟨b0, b1', b2⟩, ⟨y0, y1, y2⟩, q0, q1, q2⟩)) (fun hHeld => ?_)
      clear hK K
      try simp only [Act.put, List.setIfInBounds_toArray, List.set_cons_zero, List.set_cons_succ]
      refine rgE_run 17 rfl (by kernel_rfl) (by kernel_rfl) (by decide) (fun K hK => ?_)
      refine wp_push_int2 W11 (.tmp 16) (.tmp 32) rfl (w.heap.size + 1) (.slice (some ⟨g, 0, none⟩) (k + 2) c3) (k + 2) (onesL X l k) (S1 + S2) g11 1 rfl HOW11.out rfl z0 (by omega) (by omega) ?_
      intro v12 w12 ho hg hkp
      have hsz12 : W11.heap.size ≤ w12.heap.size := hg.size
      have hlo := HOW11.out.lt g rfl
      have hgb : ∀ q, (Value.slice (some ⟨g, 0, none⟩) (k + 2) c3).ownBlock = some q → q = g := fun q hq => by simp [Value.ownBlock] at hq; exact hq.symm
      have hnb : g ≠ w.heap.size + 1 + 1 := fun e => own_ne HXW11.out HOW11.out (by decide) g (congrArg some e.symm) rfl
      have HX12 := Lib.hid (HXW11.out.kept hg (.inr (fun e => hnb (hgb _ e.symm).symm)))
      have HO12 := Lib.hid ho
      have HB12 := Lib.hid (HBX11.out.grown hg (by omega) (fun q hq => by rw [hgb q hq]; exact hlo.1))
      obtain ⟨A12, c12, rfl⟩ := own_shape ho
      have m0 := HX12.out.cellAt 0 (by decide)
      simp only [List.getElem?_cons_zero] at m0
      replace b0 := cell_mark (by exact b0) hg (fun q hq => by rw [hgb q hq]; dsimp only; omega)
      replace b1' := cell_mark (by exact b1') hg (fun q hq => by rw [hgb q hq]; dsimp only; omega)
      replace b2 := cell_mark (by exact b2) hg (fun q hq => by rw [hgb q hq]; dsimp only; omega)
      replace y0 := cell_mark (by exact y0) hg (fun q hq => by rw [hgb q hq]; dsimp only; omega)
      replace y1 := cell_mark (by exact y1) hg (fun q hq => by rw [hgb q hq]; dsimp only; omega)
      replace y2 := cell_mark (by exact y2) hg (fun q hq => by rw [hgb q hq]; dsimp only; omega)
      replace q1 := (hkp g rfl a (by omega)).trans (by exact q1)
      replace q2 := (hkp g rfl b (by omega)).trans (by exact q2)
      clear ho hkp hg q0 hgb
      clear hHeld
      refine hK.out _ _ (.inr (by exact ⟨⟨b0, b1', b2⟩, ⟨y0, y1, y2⟩, m0, q1, q2⟩)) (fun hHeld => ?_)
      clear hK K
      try simp only [Act.put, List.setIfInBounds_toArray, List.set_cons_zero, List.set_cons_succ]
      have f0 := HX12.out.frozenAt 0
      have hst := HX12.out.stored 0 (.slice A12 (k + 2 + 1) c12)
      have HST := Lib.hid hst.1
      have HR9 := Lib.hid (HO12.out.kept hst.2 (.inr (fun e => own_ne HX12.out HO12.out (by decide) _ rfl e)))
      have HBZ := Lib.hid (HB12.out.grown hst.2 (by omega) (fun q hq => by simp at hq; omega))
      clear hst
      refine rgE_last rfl (by kernel_rfl) (by kernel_rfl) (by kernel_rfl) (fun K hK => ?_)
      go_simp
      go_simp
      clear hHeld
      refine hK.out _ _ ?_
      clear hK K
      try simp only [Act.put, List.setIfInBounds_toArray, List.set_cons_zero, List.set_cons_succ]
      have r0 := HST.out
      have r1 := HR9.out
      have r2 := HBZ.out
      simp only [List.set_cons_zero] at r0
      generalize w12.setCell ⟨w.heap.size + 1 + 1, 0, none⟩ (.slice A12 (k + 2 + 1) c12) = WF at r0 r1 r2 ⊢
      have R0 := Lib.hid r0
      have R1 := Lib.hid r1
      clear HST HR9 HBZ HX12 HO12 HB12 f0 m0 b0 b1' b2 y0 y1 y2 q1 q2 r0 r1 HOW11 HXW11 HBX11
      go_wp2_with (fail)
      go_roundw
      case rel => exact ⟨k + 1, A12, c12, by omega, by go_num, Lib.hid R0.out, Lib.hid (by rw [HS.out]; exact R1.out), r2⟩
      case measure => simp [intOf]; omega
    · obtain rfl : k = n := by omega
      obtain ⟨r, rfl⟩ : ∃ r : Nat, R = r := ⟨R.toNat, by omega⟩
      have hr2 : r < k + 2 := by omega
      have v0 := HVN.out.lvl (r := r) (by have := HN.out; omega)
      have o0 := ones_sh HVN.out (k := k) (r := r) (by have := HN.out; omega) (by omega) (s := lvl X l r) (Int.le_refl _)
      have hx20 := HVN.out.x1
      obtain ⟨g, rfl, hg1, _⟩ := own_at ho.out (r := r) hr2
      have HRW := Lib.hid (HR0.out.below (HB2.out.trans (hb.mono (Nat.le_succ _))))
      have HL1 := Lib.hid (fun w1 h h0 a0 a1 a2 h1 => c_below (w.heap.size + 1 + 1) w.heap.size g (k + 2) c3 X r A c k l r 0 ((onesL X l k).getD r 0) w1 HN.out (by omega) hr2 h hr2 h0 a0 a1 a2 h1 (by omega) (by omega) (by omega) (by rw [Int.sub_zero]; exact o0))
      rw [Int.toNat_natCast] at HV
      rw [Int.sub_zero] at HL1
      generalize (onesL X l k).getD r 0 = C1 at *
      generalize sh C1 (lvl X l r) = S1 at *
      clear hb ho hbx HB2 HVN hsz v0
      go_wp2_with (fail)
      refine (HL1.out _ (by exact HRW.out) (by exact k0) (by exact a0) (by exact a1) (by exact a2) (by exact hg1)).mono ?_
      rintro e w9 ⟨rfl, hb⟩
      have HB9 := Lib.hid (below_chain HBW.out hb)
      clear hb
      go_wp2_with (fail)
      go_ret
      exact ⟨by rw [HV.out]; rfl, HB9.out⟩
end Go.Proofs.Ytndihacmlkgkbaa
