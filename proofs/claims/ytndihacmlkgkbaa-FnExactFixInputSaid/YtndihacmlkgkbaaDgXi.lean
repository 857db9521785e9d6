/- Contract of the program's FixInput. Condition: the size. -/
import Derived.Test.YtndihacmlkgkbaaDgXf
import Derived.Test.YtndihacmlkgkbaaDgLm
import Derived.Deep.Cut
import Derived.Deep.CutRange
import Derived.Deep.CutBlock
namespace Go.Proofs.Ytndihacmlkgkbaa
open Go.RowKit Go.Maps Go.WideMaps

theorem fixL_len (X R inp bit : Int) (l : List Nd) : (fixL X l R inp bit).length ≤ 1048576 := by
  unfold fixL resL
  split
  · rename_i h
    have hd : isD X l R = true := by
      unfold fixC at h
      split at h
      · assumption
      · simp at h
    obtain ⟨hv, hR0, hR1, _, _⟩ := isD_VN hd
    have hFI := fix_inv hv.good inp bit l.length (Nat.le_refl _)
    have hnm := hFI.nm R.toNat (by omega)
    have := canS_le hFI.good (r := ((fixF l inp bit l.length).1.getD R.toNat 0).toNat) (by omega)
    have := hFI.out
    have := hv.n
    show (canS _ _).1.length ≤ _
    omega
  · simp
theorem FO.push {lo bf bm : Nat} {X : Int} {v : Value} {w w' : World} {out : List Nd} (h : FO lo w bf bm X v out) {base n : Nat} {v2 : Value} {xs : List Value} (ho : w.ownsRow base 2 1 v2 n xs) (hg : w.grownBy w' v2.ownBlock) : FO lo w' bf bm X v out :=
  h.fr (P := fun _ o => ∃ c fz, o = .cells c 2 fz) (Fr.of_grown hg (fun q o hq hoo => by
    obtain ⟨_, cur, h2⟩ := own_kind ho hq hoo
    exact ⟨cur, _, h2⟩)) (fun k c fz h => by obtain ⟨c', fz', h⟩ := h; simp at h) (fun k c fz _ h => by obtain ⟨c', fz', h⟩ := h; simp at h) (fun es c h => by obtain ⟨c', fz', h⟩ := h; simp at h)
set_option maxHeartbeats 2000000 in
set_option maxRecDepth 100000 in
theorem c_FixInput (X R : Int) (A : Option Addr) (c n : Nat) (l : List Nd) (inp bit : Int) (w : World) (hn : n = l.length) (hs : n ≤ 1099511627000) (hr : Rd w A (ndCells l)) :
    Calls Try.prog 31 #[.agg #[.int .i64 X, .slice A n c, .int .i64 R], .int .i64 inp, .int .i64 bit] w (RetDC (fixX X l R inp bit) (fixL X l R inp bit) (fixR X l R inp bit) (fixC X l R inp bit) w) := by
  have a0 : ((w.alloc (.cells #[.int .i64 X, .slice A n c, .int .i64 R] 29)).alloc (.cells #[.int .i64 0, .slice none 0 0, .int .i64 0] 29)).cell? ⟨w.heap.size, 0, none⟩ = some (.int .i64 X) := by go_simp
  have a1 : ((w.alloc (.cells #[.int .i64 X, .slice A n c, .int .i64 R] 29)).alloc (.cells #[.int .i64 0, .slice none 0 0, .int .i64 0] 29)).cell? ⟨w.heap.size, 1, none⟩ = some (.slice A n c) := by go_simp
  have a2 : ((w.alloc (.cells #[.int .i64 X, .slice A n c, .int .i64 R] 29)).alloc (.cells #[.int .i64 0, .slice none 0 0, .int .i64 0] 29)).cell? ⟨w.heap.size, 2, none⟩ = some (.int .i64 R) := by go_simp
  have HX : Hid (((w.alloc (.cells #[.int .i64 X, .slice A n c, .int .i64 R] 29)).alloc (.cells #[.int .i64 0, .slice none 0 0, .int .i64 0] 29)).ownsRow w.heap.size 29 3 (.slice (some ⟨w.heap.size + 1, 0, none⟩) 1 1) 1 [.int .i64 0, .slice none 0 0, .int .i64 0]) := Lib.hid (by
    have h := own_box (w.alloc (.cells #[.int .i64 X, .slice A n c, .int .i64 R] 29)) w.heap.size 29 [.int .i64 0, .slice none 0 0, .int .i64 0] 3 rfl (by simp)
    simpa using h)
  have HB := Lib.hid (below_alloc (below_alloc (Below.refl w.heap.size w) (.cells #[.int .i64 X, .slice A n c, .int .i64 R] 29)) (.cells #[.int .i64 0, .slice none 0 0, .int .i64 0] 29))
  have HI := Lib.hid (fun w1 h => c_IsDiagram X R A c n l w1 hn hs h)
  have H := Lib.hid hr
  have HN := Lib.hid hn
  clear hn hr
  go_enter Try.func31, Try.ntmps31
  go_wp2_with (fail)
  refine (HI.out _ (H.out.below HB.out)).mono ?_
  rintro e w1 ⟨rfl, hb⟩
  replace a0 := cell_later hb a0
  replace a1 := cell_later hb a1
  replace a2 := cell_later hb a2
  have HB1 := Lib.hid (below_chain HB.out hb)
  have HX1 := Lib.hid (own_below HX.out hb)
  clear hb HI HB HX
  have p0 := HX1.out.cellAt 0 (by decide)
  have p1 := HX1.out.cellAt 1 (by decide)
  have p2 := HX1.out.cellAt 2 (by decide)
  simp only [List.getElem?_cons_zero, List.getElem?_cons_succ] at p0 p1 p2
  have f0 := HX1.out.frozenAt 0
  have f1 := HX1.out.frozenAt 1
  have f2 := HX1.out.frozenAt 2
  obtain ⟨WF, hWF, r0, r1, r2, r3⟩ := set3_ret HX1.out HB1.out (l := []) (own_nil _ _ _ _) 0 0
  have HF := Lib.hid (show (((w1.setCell ⟨w.heap.size + 1, 0, none⟩ (.int .i64 0)).setCell ⟨w.heap.size + 1, 1, none⟩ (.slice none 0 0)).setCell ⟨w.heap.size + 1, 2, none⟩ (.int .i64 0)) = WF from hWF.symm)
  have R3 := Lib.hid r3
  have R012 := Lib.hid (show WF.cell? ⟨w.heap.size + 1, 0, none⟩ = some (.int .i64 0) ∧ WF.cell? ⟨w.heap.size + 1, 1, none⟩ = some (.slice none 0 0) ∧ WF.cell? ⟨w.heap.size + 1, 2, none⟩ = some (.int .i64 0) from ⟨r0, r1, r2⟩)
  clear hWF r3 r0 r1 r2
  rcases hd : isD X l R with _ | _
  · have HV : Hid (fixC X l R inp bit = 1) := Lib.hid (by unfold fixC; rw [hd]; rfl)
    clear hd
    go_wp2_with (fail)
    clear p0 p1 p2 f0 f1 f2
    rw [HF.out]
    obtain ⟨r0, r1, r2⟩ := R012.out
    refine bodyPost_ret (v := .tuple #[.agg #[.int .i64 0, .slice none 0 0, .int .i64 0], .int .i64 1]) (by simp [results, Try.results31, go_sem, r0, r1, r2]) rfl (by obtain ⟨v1, v2, v3⟩ := fix_bad HV.out (by decide); rw [v1, v2, v3, HV.out]; exact R3.out 1)
  · have HD := Lib.hid hd
    obtain ⟨hv, hR0, hR1, _, _⟩ := isD_VN HD.out
    have HVN := Lib.hid hv
    rw [← HN.out] at hR1
    have hln := hv.n
    rw [← HN.out] at hln
    have hx0 := hv.x0
    have hx1 := hv.x1
    have HC : Hid (fixC X l R inp bit = if inB inp 0 (X - 1) = true ∧ inB bit 0 1 = true then 0 else 2) := Lib.hid (by unfold fixC; rw [hd]; rfl)
    clear hd hv
    rcases h1 : inB inp 0 (X - 1) with _ | _
    · have HV : Hid (fixC X l R inp bit = 2) := Lib.hid (by rw [HC.out, h1]; exact if_neg (by simp))
      go_wp2_with (first
        | (go_at_call 43
           refine (c_within _ _ _ _).mono ?_
           rintro e w' ⟨rfl, rfl⟩)
        )
      clear p0 p1 p2 f0 f1 f2
      rw [HF.out]
      obtain ⟨r0, r1, r2⟩ := R012.out
      refine bodyPost_ret (v := .tuple #[.agg #[.int .i64 0, .slice none 0 0, .int .i64 0], .int .i64 2]) (by simp [results, Try.results31, go_sem, r0, r1, r2]) rfl (by obtain ⟨v1, v2, v3⟩ := fix_bad HV.out (by decide); rw [v1, v2, v3, HV.out]; exact R3.out 2)
    rcases h2 : inB bit 0 1 with _ | _
    · have HV : Hid (fixC X l R inp bit = 2) := Lib.hid (by rw [HC.out, h2]; exact if_neg (by simp))
      go_wp2_with (first
        | (go_at_call 43
           refine (c_within _ _ _ _).mono ?_
           rintro e w' ⟨rfl, rfl⟩)
        )
      clear p0 p1 p2 f0 f1 f2
      rw [HF.out]
      obtain ⟨r0, r1, r2⟩ := R012.out
      refine bodyPost_ret (v := .tuple #[.agg #[.int .i64 0, .slice none 0 0, .int .i64 0], .int .i64 2]) (by simp [results, Try.results31, go_sem, r0, r1, r2]) rfl (by obtain ⟨v1, v2, v3⟩ := fix_bad HV.out (by decide); rw [v1, v2, v3, HV.out]; exact R3.out 2)
    have HV : Hid (fixC X l R inp bit = 0) := Lib.hid (by rw [HC.out, h1, h2]; exact if_pos ⟨rfl, rfl⟩)
    have hbl1 : w.heap.size + 1 < w1.heap.size := (HX1.out.lt _ rfl).2
    have A0 := Lib.hid a0
    have A1 := Lib.hid a1
    have A2 := Lib.hid a2
    clear p0 p1 p2 f0 f1 f2 HF R3 R012
    go_wp2_with (first
      | (go_at_call 43
         refine (c_within _ _ _ _).mono ?_
         rintro e w' ⟨rfl, rfl⟩)
      )
    refine (c_newForest X w1).mono ?_
    rintro e w2 ⟨rfl, hfo, hb2⟩
    have B0 := cell_later hb2 A0.out
    have B1 := cell_later hb2 A1.out
    have B2 := cell_later hb2 A2.out
    have hsz2 : w1.heap.size + 1 < w2.heap.size := (own_ge hfo.1).2
    have hzz : w.heap.size < w2.heap.size := by omega
    have HO : Hid ((w2.alloc (.cells #[.int .i64 0, .int .i64 1] 2)).ownsRow w1.heap.size 2 1 (.slice (some ⟨w2.heap.size, 0, none⟩) 2 2) 2 (ints [0, 1])) := Lib.hid (by
      have h := World.ownsRow_lit (e := 2) (size := 1) (base := w1.heap.size) w2 #[.int .i64 0, .int .i64 1] 2 (by omega) (by decide) (by simp)
      simpa [ints] using h)
    have HFO : Hid (FO w1.heap.size (w2.alloc (.cells #[.int .i64 0, .int .i64 1] 2)) (w1.heap.size + 1) w1.heap.size X (.slice none 0 0) []) := Lib.hid (hfo.below (below_alloc (Below.refl _ _) _))
    have HB2 := Lib.hid (below_alloc hb2 (.cells #[.int .i64 0, .int .i64 1] 2))
    clear hfo hb2
    have b0 := B0
    have b1 := B1
    have b2 := B2
    clear a0 a1 a2 B0 B1 B2
    go_wp2_with (fail)
    generalize w2.alloc (.cells #[.int .i64 0, .int .i64 1] 2) = W at *
    clear b0 b1 b2
    go_loopw [9, 11, 12, 13, 39] (fun s _ _ _ u wr => ∃ k A3 c3 v, k ≤ n ∧ u = .int .i64 (k : Nat) ∧ s = .slice A3 (k + 2) c3 ∧ Hid (FO w1.heap.size wr (w1.heap.size + 1) w1.heap.size X v (fixF l inp bit k).2) ∧ Hid (wr.ownsRow w1.heap.size 2 1 (.slice A3 (k + 2) c3) (k + 2) (ints (fixF l inp bit k).1)) ∧ Hid (Below w1.heap.size w1 wr)) (fun _ _ _ _ u _ => n - (intOf u).toNat)
    case atStart => exact ⟨0, _, _, _, Nat.zero_le _, rfl, rfl, HFO, HO, HB2⟩
    case round =>
      obtain ⟨k, A3, c3, v, hk, rfl, rfl, hfo, ho, hb⟩ := hrel
      clear HO HFO HB2
      have a0 := cell_later hb.out A0.out
      have a1 := cell_later hb.out A1.out
      have a2 := cell_later hb.out A2.out
      have HBW := Lib.hid (below_chain HB1.out hb.out)
      have hFI := Lib.hid (fix_inv HVN.out.good inp bit k (by have := HN.out; omega))
      have hszr : w1.heap.size ≤ wr.heap.size := hb.out.size
      by_cases hlt : k < n
      · obtain ⟨x, hx⟩ : ∃ x, l[k]? = some x := ⟨_, List.getElem?_eq_getElem (by have := HN.out; omega)⟩
        have hgd := HVN.out.good k x hx
        have hlv := HVN.out.lv k x hx
        have hn1 := hFI.out.nm x.lo.toNat (by omega)
        have hn2 := hFI.out.nm x.hi.toNat (by omega)
        have HXX := Lib.hid hx
        obtain ⟨b1, off, rfl, hb1, g0, g1, g2⟩ := H.out.nd hx
        replace g0 := cell_later HBW.out g0
        replace g1 := cell_later HBW.out g1
        replace g2 := cell_later HBW.out g2
        obtain ⟨xi, xa, xb⟩ := x
        dsimp only at hgd g0 g1 g2 hlv hn1 hn2
        obtain ⟨a, rfl⟩ : ∃ a : Nat, xa = a := ⟨xa.toNat, by omega⟩
        obtain ⟨b, rfl⟩ : ∃ b : Nat, xb = b := ⟨xb.toNat, by omega⟩
        rw [Int.toNat_natCast] at hn1 hn2
        have hak : a < k + 2 := by omega
        have hbk : b < k + 2 := by omega
        have hak2 : (a : Int) < k + 2 := by omega
        have hbk2 : (b : Int) < k + 2 := by omega
        have hkn : (k : Int) < n := by omega
        obtain ⟨g, rfl, hg1, c1⟩ := own_at ho.out (r := a) hak
        obtain ⟨g', e', hg2, c2⟩ := own_at ho.out (r := b) hbk
        simp only [Option.some.injEq, Addr.mk.injEq, and_true] at e'
        subst e'
        have hFO := hFI.out.out
        have hwi : wfI xi := by unfold wfI; exact WalkArith.wf_i64 ⟨by omega, by omega⟩
        have hw1 : wfI ((fixF l inp bit k).1.getD a 0) := by unfold wfI; exact WalkArith.wf_i64 ⟨by omega, by omega⟩
        have hw2 : wfI ((fixF l inp bit k).1.getD b 0) := by unfold wfI; exact WalkArith.wf_i64 ⟨by omega, by omega⟩
        have HWF := Lib.hid (And.intro hwi (And.intro hw1 hw2))
        have hal := below_alloc (Below.refl wr.heap.size wr) (.cells #[.int .i64 xi, .int .i64 a, .int .i64 b] 57)
        have y0 : (wr.alloc (.cells #[.int .i64 xi, .int .i64 a, .int .i64 b] 57)).cell? ⟨wr.heap.size, 0, none⟩ = some (.int .i64 xi) := by go_simp
        have y1 : (wr.alloc (.cells #[.int .i64 xi, .int .i64 a, .int .i64 b] 57)).cell? ⟨wr.heap.size, 1, none⟩ = some (.int .i64 a) := by go_simp
        have y2 : (wr.alloc (.cells #[.int .i64 xi, .int .i64 a, .int .i64 b] 57)).cell? ⟨wr.heap.size, 2, none⟩ = some (.int .i64 b) := by go_simp
        have q1 := cell_later hal hg1
        have q2 := cell_later hal hg2
        have HFW := Lib.hid (hfo.out.below hal)
        have HOW := Lib.hid (own_below ho.out hal)
        have HBX := Lib.hid (below_chain hb.out hal)
        have hszx : w1.heap.size ≤ (wr.alloc (.cells #[.int .i64 xi, .int .i64 a, .int .i64 b] 57)).heap.size := by simp; omega
        clear hgd hx hal hb hfo ho c1 c2 hlv hn1 hn2 hwi hw1 hw2
        go_upto_region 10 with (fail)
        clear g0 g1 g2 hg1 hg2
        generalize wr.alloc (.cells #[.int .i64 xi, .int .i64 a, .int .i64 b] 57) = W5 at *
        generalize wr.heap.size = gx at *
        obtain ⟨z1, hz1⟩ : ∃ z, z = (fixF l inp bit k).1.getD a 0 := ⟨_, rfl⟩
        obtain ⟨z2, hz2⟩ : ∃ z, z = (fixF l inp bit k).1.getD b 0 := ⟨_, rfl⟩
        rw [← hz1] at q1 HWF
        rw [← hz2] at q2 HWF
        have HZ := Lib.hid (And.intro hz1 hz2)
        clear hz1 hz2
        refine wp_region_held_drew (S := (fun w' => (w'.cell? ⟨gx, 0, none⟩ = some (.int .i64 xi) ∧ w'.cell? ⟨gx, 1, none⟩ = some (.int .i64 a) ∧ w'.cell? ⟨gx, 2, none⟩ = some (.int .i64 b)) ∧ w'.cell? ⟨g, a, none⟩ = some (.int .i64 z1) ∧ w'.cell? ⟨g, b, none⟩ = some (.int .i64 z2))) (by kernel_rfl) ?_ (fun hHeld => ?_)
        · exact ⟨⟨y0, y1, y2⟩, q1, q2⟩
        refine rg_take (v := ?_) 0 rfl (by kernel_rfl) (by kernel_rfl) (by kernel_rfl) (fun _ _ _ h => h) (by kernel_rfl) ?_ (by assumption) ?_
        rotate_left
        · (intro w' hSw; (try dsimp only at hSw); go_simp; first | done | with_reducible rfl)
        simp only [Act.put, List.setIfInBounds_toArray, List.set_cons_zero, List.set_cons_succ]
        refine rg_take (v := ?_) 1 rfl (by kernel_rfl) (by kernel_rfl) (by kernel_rfl) (fun _ _ _ h => h) (by kernel_rfl) ?_ (by assumption) ?_
        rotate_left
        · (intro w' hSw; (try dsimp only at hSw); go_simp; first | done | with_reducible rfl)
        simp only [Act.put, List.setIfInBounds_toArray, List.set_cons_zero, List.set_cons_succ]
        refine rg_take (v := ?_) 2 rfl (by kernel_rfl) (by kernel_rfl) (by kernel_rfl) (fun _ _ _ h => h) (by kernel_rfl) ?_ (by assumption) ?_
        rotate_left
        · (intro w' hSw; (try dsimp only at hSw); go_simp; first | done | with_reducible rfl)
        simp only [Act.put, List.setIfInBounds_toArray, List.set_cons_zero, List.set_cons_succ]
        refine rg_take (v := ?_) 3 rfl (by kernel_rfl) (by kernel_rfl) (by kernel_rfl) (fun _ _ _ h => h) (by kernel_rfl) ?_ (by assumption) ?_
        rotate_left
        · (intro w' hSw; (try dsimp only at hSw); go_simp; first | done | with_reducible rfl)
        simp only [Act.put, List.setIfInBounds_toArray, List.set_cons_zero, List.set_cons_succ]
        refine rg_take (v := ?_) 4 rfl (by kernel_rfl) (by kernel_rfl) (by kernel_rfl) (fun _ _ _ h => h) (by kernel_rfl) ?_ (by assumption) ?_
        rotate_left
        · (intro w' hSw; (try dsimp only at hSw); go_simp; first | done | with_reducible rfl)
        simp only [Act.put, List.setIfInBounds_toArray, List.set_cons_zero, List.set_cons_succ]
        refine rg_take (v := ?_) 5 rfl (by kernel_rfl) (by kernel_rfl) (by kernel_rfl) (fun _ _ _ h => h) (by kernel_rfl) ?_ (by assumption) ?_
        rotate_left
        · (intro w' hSw; (try dsimp only at hSw); go_simp; first | done | with_reducible rfl)
        simp only [Act.put, List.setIfInBounds_toArray, List.set_cons_zero, List.set_cons_succ]
        refine rg_take (v := ?_) 6 rfl (by kernel_rfl) (by kernel_rfl) (by kernel_rfl) (fun _ _ _ h => h) (by kernel_rfl) ?_ (by assumption) ?_
        rotate_left
        · (intro w' hSw; (try dsimp only at hSw); go_simp; first | done | with_reducible rfl)
        simp only [Act.put, List.setIfInBounds_toArray, List.set_cons_zero, List.set_cons_succ]
        refine rg_take (v := ?_) 7 rfl (by kernel_rfl) (by kernel_rfl) (by kernel_rfl) (fun _ _ _ h => h) (by kernel_rfl) ?_ (by assumption) ?_
        rotate_left
        · (intro w' hSw; (try dsimp only at hSw); go_simp; first | done | with_reducible rfl)
        simp only [Act.put, List.setIfInBounds_toArray, List.set_cons_zero, List.set_cons_succ]
        refine rg_take (v := ?_) 8 rfl (by kernel_rfl) (by kernel_rfl) (by kernel_rfl) (fun _ _ _ h => h) (by kernel_rfl) ?_ (by assumption) ?_
        rotate_left
        · (intro w' hSw; (try dsimp only at hSw); go_simp; first | done | with_reducible rfl)
        simp only [Act.put, List.setIfInBounds_toArray, List.set_cons_zero, List.set_cons_succ]
        refine rg_take (v := ?_) 9 rfl (by kernel_rfl) (by kernel_rfl) (by kernel_rfl) (fun _ _ _ h => h) (by kernel_rfl) ?_ (by assumption) ?_
        rotate_left
        · (intro w' hSw; (try dsimp only at hSw); go_simp; first | done | with_reducible rfl)
        simp only [Act.put, List.setIfInBounds_toArray, List.set_cons_zero, List.set_cons_succ]
        refine rg_take (v := ?_) 10 rfl (by kernel_rfl) (by kernel_rfl) (by kernel_rfl) (fun _ _ _ h => h) (by kernel_rfl) ?_ (by assumption) ?_
        rotate_left
        · (intro w' hSw; (try dsimp only at hSw); go_simp; first | done | with_reducible rfl)
        simp only [Act.put, List.setIfInBounds_toArray, List.set_cons_zero, List.set_cons_succ]
        refine rg_take (v := ?_) 11 rfl (by kernel_rfl) (by kernel_rfl) (by kernel_rfl) (fun _ _ _ h => h) (by kernel_rfl) ?_ (by assumption) ?_
        rotate_left
        · (intro w' hSw; (try dsimp only at hSw); go_simp; first | done | with_reducible rfl)
        simp only [Act.put, List.setIfInBounds_toArray, List.set_cons_zero, List.set_cons_succ]
        refine wpAnyH_done (by kernel_rfl) ?_ _
        clear hHeld
        have HFW := Lib.hid (show FO w1.heap.size W5.drew (w1.heap.size + 1) w1.heap.size X v (fixF l inp bit k).2 from HFW.out.below (Below.refl _ _).drew)
        have HOW := Lib.hid (own_drew HOW.out)
        have HBX := Lib.hid (show Below w1.heap.size w1 W5.drew from HBX.out.drew)
        have z0 : W5.drew.cell? ⟨gx, 0, none⟩ = some (.int .i64 xi) := y0
        replace hszx : w1.heap.size ≤ W5.drew.heap.size := hszx
        clear y0 y1 y2 q1 q2
        generalize W5.drew = W6 at *
        rcases Decidable.em (xi = inp) with he | he
        · have heb : (xi != inp) = false := by simp [he]
          have HE := Lib.hid he
          clear he
          rcases Decidable.em (bit = 0) with h0 | h0
          · have HS : Hid (fixF l inp bit (k + 1) = ((fixF l inp bit k).1 ++ [z1], (fixF l inp bit k).2)) := Lib.hid (by rw [fix_lo HXX.out HE.out h0, HZ.out.1]; rfl)
            subst h0
            clear HZ
            go_wp2_with (first
              | (at_builtin
                 refine wpList_push_int _ rfl (.tmp 74) (.tmp 76) rfl w1.heap.size _ (k + 2) (fixF l inp 0 k).1 z1 W6.heap.size 1 rfl (own_below HOW.out (below_alloc (Below.refl _ _) (.cells #[.int .i64 z1] 2))) rfl (by go_simp) (by omega) (by simp; omega) ?_
                 intro v11 w11 hown hgrow _ _
                 have HB11 := Lib.hid (below_of_grown (below_chain HBX.out (below_alloc (Below.refl _ _) (.cells #[.int .i64 z1] 2))) hgrow (fun q hq => (HOW.out.lt q hq).1))
                 have HF11 := Lib.hid (FO.push (HFW.out.below (below_alloc (Below.refl _ _) (.cells #[.int .i64 z1] 2))) (own_below HOW.out (below_alloc (Below.refl _ _) (.cells #[.int .i64 z1] 2))) hgrow)
                 have HO11 := Lib.hid hown
                 clear hown hgrow)
              )
            obtain ⟨A11, c11, rfl⟩ := own_shape HO11.out
            go_roundw
            case rel => exact ⟨k + 1, A11, c11, _, by omega, by go_num, rfl, Lib.hid (by rw [HS.out]; exact HF11.out), Lib.hid (by rw [HS.out]; exact HO11.out), HB11⟩
            case measure => simp [intOf]; omega

          · have h0b : (bit == 0) = false := by simpa using h0
            have HS : Hid (fixF l inp bit (k + 1) = ((fixF l inp bit k).1 ++ [z2], (fixF l inp bit k).2)) := Lib.hid (by rw [fix_hi HXX.out HE.out h0, HZ.out.2]; rfl)
            clear HZ
            go_wp2_with (first
              | (at_builtin
                 refine wpList_push_int _ rfl (.tmp 53) (.tmp 55) rfl w1.heap.size _ (k + 2) (fixF l inp bit k).1 z2 W6.heap.size 1 rfl (own_below HOW.out (below_alloc (Below.refl _ _) (.cells #[.int .i64 z2] 2))) rfl (by go_simp) (by omega) (by simp; omega) ?_
                 intro v11 w11 hown hgrow _ _
                 have HB11 := Lib.hid (below_of_grown (below_chain HBX.out (below_alloc (Below.refl _ _) (.cells #[.int .i64 z2] 2))) hgrow (fun q hq => (HOW.out.lt q hq).1))
                 have HF11 := Lib.hid (FO.push (HFW.out.below (below_alloc (Below.refl _ _) (.cells #[.int .i64 z2] 2))) (own_below HOW.out (below_alloc (Below.refl _ _) (.cells #[.int .i64 z2] 2))) hgrow)
                 have HO11 := Lib.hid hown
                 clear hown hgrow)
              )
            obtain ⟨A11, c11, rfl⟩ := own_shape HO11.out
            go_roundw
            case rel => exact ⟨k + 1, A11, c11, _, by omega, by go_num, rfl, Lib.hid (by rw [HS.out]; exact HF11.out), Lib.hid (by rw [HS.out]; exact HO11.out), HB11⟩
            case measure => simp [intOf]; omega

        · have heb : (xi != inp) = true := by simpa using he
          have HS : Hid (fixF l inp bit (k + 1) = ((fixF l inp bit k).1 ++ [(mkN (fixF l inp bit k).2 ⟨xi, z1, z2⟩).2], (mkN (fixF l inp bit k).2 ⟨xi, z1, z2⟩).1)) := Lib.hid (by rw [fix_ne HXX.out he, HZ.out.1, HZ.out.2]; rfl)
          clear HZ he
          go_wp2_with (fail)
          refine (c_node w1.heap.size (w1.heap.size + 1) w1.heap.size X xi z1 z2 v (fixF l inp bit k).2 W6 (by omega) hszx HWF.out.1 HWF.out.2.1 HWF.out.2.2 HFW.out).mono ?_
          rintro e w7 ⟨rfl, v7, hF7, hfr, _⟩
          have HO7 := Lib.hid (PR.own hfr HOW.out (fun g cur fz _ h => by rcases h with ⟨c, fz', h⟩ | ⟨_, es, c, h⟩ <;> simp at h) (fun q hq e => own_ne HOW.out HFW.out.2.1 (by decide) q hq e))
          have HB7 := Lib.hid (HBX.out.trans (PR.below hfr hszx))
          have HF7 := Lib.hid hF7
          have hsz7 : w1.heap.size ≤ w7.heap.size := Nat.le_trans hszx hfr.size
          clear hF7 hfr HFW HOW HBX z0
          generalize mkN (fixF l inp bit k).2 ⟨xi, z1, z2⟩ = M at *
          go_wp2_with (first
            | (at_builtin
               refine wpList_push_int _ rfl (.tmp 62) (.tmp 69) rfl w1.heap.size _ (k + 2) (fixF l inp bit k).1 M.2 w7.heap.size 1 rfl (own_below HO7.out (below_alloc (Below.refl _ _) (.cells #[.int .i64 M.2] 2))) rfl (by go_simp) (by omega) (by simp; omega) ?_
               intro v11 w11 hown hgrow _ _
               have HB11 := Lib.hid (below_of_grown (below_chain HB7.out (below_alloc (Below.refl _ _) (.cells #[.int .i64 M.2] 2))) hgrow (fun q hq => (HO7.out.lt q hq).1))
               have HF11 := Lib.hid (FO.push (HF7.out.below (below_alloc (Below.refl _ _) (.cells #[.int .i64 M.2] 2))) (own_below HO7.out (below_alloc (Below.refl _ _) (.cells #[.int .i64 M.2] 2))) hgrow)
               have HO11 := Lib.hid hown
               clear hown hgrow)
            )
          obtain ⟨A11, c11, rfl⟩ := own_shape HO11.out
          go_roundw
          case rel => exact ⟨k + 1, A11, c11, _, by omega, by go_num, rfl, Lib.hid (by rw [HS.out]; exact HF11.out), Lib.hid (by rw [HS.out]; exact HO11.out), HB11⟩
          case measure => simp [intOf]; omega
      · obtain rfl : k = n := by omega
        obtain ⟨r, rfl⟩ : ∃ r : Nat, R = r := ⟨R.toNat, by omega⟩
        have hr2 : r < k + 2 := by omega
        have hr3 : (r : Int) < k + 2 := by omega
        obtain ⟨g, rfl, hg1, _⟩ := own_at ho.out (r := r) hr2
        have hnm := hFI.out.nm r hr2
        have HD2 : Hid (fixD l (r : Int) inp bit = canS (fixF l inp bit k).2 ((fixF l inp bit k).1.getD r 0).toNat) := Lib.hid (by unfold fixD; rw [← HN.out, Int.toNat_natCast])
        obtain ⟨z, hz⟩ : ∃ z : Nat, (fixF l inp bit k).1.getD r 0 = z := ⟨((fixF l inp bit k).1.getD r 0).toNat, by omega⟩
        rw [hz] at hg1 hnm HD2
        rw [Int.toNat_natCast] at HD2
        obtain ⟨Av, cv, rfl⟩ := own_shape hfo.out.2.1
        have s0 := hfo.out.1.cellAt 0 (by decide)
        have s1 := hfo.out.1.cellAt 1 (by decide)
        simp only [List.getElem?_cons_zero, List.getElem?_cons_succ] at s0 s1
        have hfl := hFI.out.out
        have hcl := canS_le hFI.out.good (r := z) (by omega)
        have HCA := Lib.hid (c_limited (w1.heap.size + 1) X Av cv (fixF l inp bit k).2.length (fixF l inp bit k).2 z wr rfl (by omega) hFI.out.good hFI.out.nodup (by omega) s0 s1 (Rd.own hfo.out.2.1))
        have hlc : limC (canS (fixF l inp bit k).2 z) = 0 := by unfold limC; exact if_neg (by omega)
        rw [hlc] at HCA
        have HXW := Lib.hid (own_below HX1.out hb.out)
        have hbz := World.block_lt_of_cell? _ _ a0
        dsimp only at hbz
        have HRX : Hid (∀ C : List Nd × Int, resX 0 X = X ∧ resL 0 C = C.1 ∧ resR 0 C = C.2) := Lib.hid (fun C => ⟨if_pos rfl, if_pos rfl, if_pos rfl⟩)
        generalize canS (fixF l inp bit k).2 z = C at *
        rw [(HRX.out C).1, (HRX.out C).2.1, (HRX.out C).2.2] at HCA
        clear hz hnm hfo ho hb hcl hlc HRX s0 s1
        go_wp2_with (fail)
        refine HCA.out.mono ?_
        rintro e w9 ⟨A9, c9, rfl, ho9, hb9⟩
        have HX9 := Lib.hid (own_below (by exact HXW.out) hb9)
        have HB9 := Lib.hid (below_chain (by exact HBW.out) hb9)
        have hso2 := own_mono ho9 (base' := w.heap.size) (by exact Nat.le_of_lt hbz)
        obtain ⟨WF, hWF, r0, r1, r2, r3⟩ := set3_ret HX9.out HB9.out hso2 X C.2
        have HF := Lib.hid hWF
        have R3 := Lib.hid r3
        have p0 := HX9.out.cellAt 0 (by decide)
        have p1 := HX9.out.cellAt 1 (by decide)
        have p2 := HX9.out.cellAt 2 (by decide)
        simp only [List.getElem?_cons_zero, List.getElem?_cons_succ] at p0 p1 p2
        have f0 := HX9.out.frozenAt 0
        have f1 := HX9.out.frozenAt 1
        have f2 := HX9.out.frozenAt 2
        clear hso2 r3 ho9 hb9 HXW hWF a0 a1 a2
        go_wp2_with (fail)
        clear p0 p1 p2 f0 f1 f2
        rw [← HF.out]
        refine bodyPost_ret (v := .tuple #[.agg #[.int .i64 X, .slice A9 C.1.length c9, .int .i64 C.2], .int .i64 0]) (by simp [results, Try.results31, go_sem, r0, r1, r2]) rfl (by obtain ⟨v1, v2, v3⟩ := fix_ok HV.out; rw [v1, v2, v3, HV.out, HD2.out]; exact R3.out 0)
end Go.Proofs.Ytndihacmlkgkbaa
