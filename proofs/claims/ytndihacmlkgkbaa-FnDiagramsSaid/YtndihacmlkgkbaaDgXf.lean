/- Contract of the reference's FixInput. Condition: the size. -/
import Derived.Test.YtndihacmlkgkbaaDgA
import Derived.Test.YtndihacmlkgkbaaDgSv
import Derived.Test.YtndihacmlkgkbaaDgKo
namespace Go.Proofs.Ytndihacmlkgkbaa
open Go.RowKit

def fixX (X : Int) (l : List Nd) (R inp bit : Int) : Int := resX (fixC X l R inp bit) X
def fixL (X : Int) (l : List Nd) (R inp bit : Int) : List Nd := resL (fixC X l R inp bit) (fixD l R inp bit)
def fixR (X : Int) (l : List Nd) (R inp bit : Int) : Int := resR (fixC X l R inp bit) (fixD l R inp bit)
theorem fix_bad {X R inp bit : Int} {l : List Nd} {c : Int} (h : fixC X l R inp bit = c) (hc : c ≠ 0) : fixX X l R inp bit = 0 ∧ fixL X l R inp bit = [] ∧ fixR X l R inp bit = 0 := by
  unfold fixX fixL fixR resX resL resR
  rw [h, if_neg hc, if_neg hc, if_neg hc]
  exact ⟨rfl, rfl, rfl⟩
theorem fix_ok {X R inp bit : Int} {l : List Nd} (h : fixC X l R inp bit = 0) : fixX X l R inp bit = X ∧ fixL X l R inp bit = (fixD l R inp bit).1 ∧ fixR X l R inp bit = (fixD l R inp bit).2 := by
  unfold fixX fixL fixR resX resL resR
  rw [h, if_pos rfl, if_pos rfl, if_pos rfl]
  exact ⟨rfl, rfl, rfl⟩
theorem fix_ne {l : List Nd} {inp bit : Int} {k : Nat} {x : Nd} (hx : l[k]? = some x) (h : x.i ≠ inp) :
    fixF l inp bit (k + 1) = ((fixF l inp bit k).1 ++ [(mkN (fixF l inp bit k).2 ⟨x.i, (fixF l inp bit k).1.getD x.lo.toNat 0, (fixF l inp bit k).1.getD x.hi.toNat 0⟩).2], (mkN (fixF l inp bit k).2 ⟨x.i, (fixF l inp bit k).1.getD x.lo.toNat 0, (fixF l inp bit k).1.getD x.hi.toNat 0⟩).1) := by
  rw [fixF, getD_nd hx]
  rw [if_neg h]
theorem fix_lo {l : List Nd} {inp bit : Int} {k : Nat} {x : Nd} (hx : l[k]? = some x) (h : x.i = inp) (hb : bit = 0) : fixF l inp bit (k + 1) = ((fixF l inp bit k).1 ++ [(fixF l inp bit k).1.getD x.lo.toNat 0], (fixF l inp bit k).2) := by
  rw [fixF, getD_nd hx]
  rw [if_pos h, if_pos hb]
theorem fix_hi {l : List Nd} {inp bit : Int} {k : Nat} {x : Nd} (hx : l[k]? = some x) (h : x.i = inp) (hb : bit ≠ 0) : fixF l inp bit (k + 1) = ((fixF l inp bit k).1 ++ [(fixF l inp bit k).1.getD x.hi.toNat 0], (fixF l inp bit k).2) := by
  rw [fixF, getD_nd hx]
  rw [if_pos h, if_neg hb]
set_option maxHeartbeats 2000000 in
set_option maxRecDepth 100000 in
theorem c_sFixInput (X R : Int) (A : Option Addr) (c n : Nat) (l : List Nd) (inp bit : Int) (w : World) (hn : n = l.length) (hs : n ≤ 1099511627000) (hr : Rd w A (ndCells l)) :
    Calls Try.prog 30 #[.agg #[.int .i64 X, .slice A n c, .int .i64 R], .int .i64 inp, .int .i64 bit] w (RetDC (fixX X l R inp bit) (fixL X l R inp bit) (fixR X l R inp bit) (fixC X l R inp bit) w) := by
  have a0 : ((w.alloc (.cells #[.int .i64 X, .slice A n c, .int .i64 R] 29)).alloc (.cells #[.int .i64 0, .slice none 0 0, .int .i64 0] 29)).cell? ⟨w.heap.size, 0, none⟩ = some (.int .i64 X) := by go_simp
  have a1 : ((w.alloc (.cells #[.int .i64 X, .slice A n c, .int .i64 R] 29)).alloc (.cells #[.int .i64 0, .slice none 0 0, .int .i64 0] 29)).cell? ⟨w.heap.size, 1, none⟩ = some (.slice A n c) := by go_simp
  have a2 : ((w.alloc (.cells #[.int .i64 X, .slice A n c, .int .i64 R] 29)).alloc (.cells #[.int .i64 0, .slice none 0 0, .int .i64 0] 29)).cell? ⟨w.heap.size, 2, none⟩ = some (.int .i64 R) := by go_simp
  have HX : Hid (((w.alloc (.cells #[.int .i64 X, .slice A n c, .int .i64 R] 29)).alloc (.cells #[.int .i64 0, .slice none 0 0, .int .i64 0] 29)).ownsRow w.heap.size 29 3 (.slice (some ⟨w.heap.size + 1, 0, none⟩) 1 1) 1 [.int .i64 0, .slice none 0 0, .int .i64 0]) := Lib.hid (by
    have h := own_box (w.alloc (.cells #[.int .i64 X, .slice A n c, .int .i64 R] 29)) w.heap.size 29 [.int .i64 0, .slice none 0 0, .int .i64 0] 3 rfl (by simp)
    simpa using h)
  have HB := Lib.hid (below_alloc (below_alloc (Below.refl w.heap.size w) (.cells #[.int .i64 X, .slice A n c, .int .i64 R] 29)) (.cells #[.int .i64 0, .slice none 0 0, .int .i64 0] 29))
  have HI := Lib.hid (fun w1 h => c_sIsDiagram X R A c n l w1 hn hs h)
  have H := Lib.hid hr
  have HN := Lib.hid hn
  clear hn hr
  go_enter Try.func30, Try.ntmps30
  go_wp2_with (fail)
  refine (HI.out _ (H.out.below HB.out)).mono ?_
  rintro e w1 ⟨rfl, hb⟩
  replace a0 := cell_later hb a0
  replace a1 := cell_later hb a1
  replace a2 := cell_later hb a2
  have HB1 := Lib.hid (below_chain HB.out hb)
  have HX1 := Lib.hid (own_below HX.out hb)
  clear hb HI HB HX
  have p0 := HX1.out.cellAt 0 (by decide)
  have p1 := HX1.out.cellAt 1 (by decide)
  have p2 := HX1.out.cellAt 2 (by decide)
  simp only [List.getElem?_cons_zero, List.getElem?_cons_succ] at p0 p1 p2
  have f0 := HX1.out.frozenAt 0
  have f1 := HX1.out.frozenAt 1
  have f2 := HX1.out.frozenAt 2
  obtain ⟨WF, hWF, r0, r1, r2, r3⟩ := set3_ret HX1.out HB1.out (l := []) (own_nil _ _ _ _) 0 0
  have HF := Lib.hid (show (((w1.setCell ⟨w.heap.size + 1, 0, none⟩ (.int .i64 0)).setCell ⟨w.heap.size + 1, 1, none⟩ (.slice none 0 0)).setCell ⟨w.heap.size + 1, 2, none⟩ (.int .i64 0)) = WF from hWF.symm)
  have R3 := Lib.hid r3
  have R012 := Lib.hid (show WF.cell? ⟨w.heap.size + 1, 0, none⟩ = some (.int .i64 0) ∧ WF.cell? ⟨w.heap.size + 1, 1, none⟩ = some (.slice none 0 0) ∧ WF.cell? ⟨w.heap.size + 1, 2, none⟩ = some (.int .i64 0) from ⟨r0, r1, r2⟩)
  clear hWF r3 r0 r1 r2
  rcases hd : isD X l R with _ | _
  · have HV : Hid (fixC X l R inp bit = 1) := Lib.hid (by unfold fixC; rw [hd]; rfl)
    clear hd
    go_wp2_with (fail)
    clear p0 p1 p2 f0 f1 f2
    rw [HF.out]
    obtain ⟨r0, r1, r2⟩ := R012.out
    refine bodyPost_ret (v := .tuple #[.agg #[.int .i64 0, .slice none 0 0, .int .i64 0], .int .i64 1]) (by simp [results, Try.results30, go_sem, r0, r1, r2]) rfl (by obtain ⟨v1, v2, v3⟩ := fix_bad HV.out (by decide); rw [v1, v2, v3, HV.out]; exact R3.out 1)
  · have HD := Lib.hid hd
    obtain ⟨hv, hR0, hR1, _, _⟩ := isD_VN HD.out
    have HVN := Lib.hid hv
    rw [← HN.out] at hR1
    have hln := hv.n
    rw [← HN.out] at hln
    have hx0 := hv.x0
    have hx1 := hv.x1
    have HC : Hid (fixC X l R inp bit = if inB inp 0 (X - 1) = true ∧ inB bit 0 1 = true then 0 else 2) := Lib.hid (by unfold fixC; rw [hd]; rfl)
    clear hd hv
    rcases h1 : inB inp 0 (X - 1) with _ | _
    · have HV : Hid (fixC X l R inp bit = 2) := Lib.hid (by rw [HC.out, h1]; exact if_neg (by simp))
      go_wp2_with (first
        | (go_at_call 38
           refine (c_l01In _ _ _ _).mono ?_
           rintro e w' ⟨rfl, rfl⟩)
        )
      clear p0 p1 p2 f0 f1 f2
      rw [HF.out]
      obtain ⟨r0, r1, r2⟩ := R012.out
      refine bodyPost_ret (v := .tuple #[.agg #[.int .i64 0, .slice none 0 0, .int .i64 0], .int .i64 2]) (by simp [results, Try.results30, go_sem, r0, r1, r2]) rfl (by obtain ⟨v1, v2, v3⟩ := fix_bad HV.out (by decide); rw [v1, v2, v3, HV.out]; exact R3.out 2)
    rcases h2 : inB bit 0 1 with _ | _
    · have HV : Hid (fixC X l R inp bit = 2) := Lib.hid (by rw [HC.out, h2]; exact if_neg (by simp))
      go_wp2_with (first
        | (go_at_call 38
           refine (c_l01In _ _ _ _).mono ?_
           rintro e w' ⟨rfl, rfl⟩)
        )
      clear p0 p1 p2 f0 f1 f2
      rw [HF.out]
      obtain ⟨r0, r1, r2⟩ := R012.out
      refine bodyPost_ret (v := .tuple #[.agg #[.int .i64 0, .slice none 0 0, .int .i64 0], .int .i64 2]) (by simp [results, Try.results30, go_sem, r0, r1, r2]) rfl (by obtain ⟨v1, v2, v3⟩ := fix_bad HV.out (by decide); rw [v1, v2, v3, HV.out]; exact R3.out 2)
    have HV : Hid (fixC X l R inp bit = 0) := Lib.hid (by rw [HC.out, h1, h2]; exact if_pos ⟨rfl, rfl⟩)
    have hbl1 : w.heap.size + 1 < w1.heap.size := (HX1.out.lt _ rfl).2
    have HO : Hid (((w1.alloc (.cells #[.slice none 0 0] 77)).alloc (.cells #[.int .i64 0, .int .i64 1] 2)).ownsRow w1.heap.size 2 1 (.slice (some ⟨w1.heap.size + 1, 0, none⟩) 2 2) 2 (ints [0, 1])) := Lib.hid (by
      have h := World.ownsRow_lit (e := 2) (size := 1) (base := w1.heap.size) (w1.alloc (.cells #[.slice none 0 0] 77)) #[.int .i64 0, .int .i64 1] 2 (by simp) (by decide) (by simp)
      simpa [ints] using h)
    have HSV : Hid (SV w1.heap.size ((w1.alloc (.cells #[.slice none 0 0] 77)).alloc (.cells #[.int .i64 0, .int .i64 1] 2)) w1.heap.size (.slice none 0 0) []) := Lib.hid (by
      refine SV.below ⟨?_, own_nil _ _ _ _⟩ (below_alloc (Below.refl _ _) _)
      exact own_box w1 w1.heap.size 77 [.slice none 0 0] 1 rfl (Nat.le_refl _))
    have HB2 := Lib.hid (below_alloc (below_alloc (Below.refl w1.heap.size w1) (.cells #[.slice none 0 0] 77)) (.cells #[.int .i64 0, .int .i64 1] 2))
    have A0 := Lib.hid a0
    have A1 := Lib.hid a1
    have A2 := Lib.hid a2
    clear p0 p1 p2 f0 f1 f2 HF R3 R012
    go_wp2_with (first
      | (go_at_call 38
         refine (c_l01In _ _ _ _).mono ?_
         rintro e w' ⟨rfl, rfl⟩)
      )
    generalize (w1.alloc (.cells #[.slice none 0 0] 77)).alloc (.cells #[.int .i64 0, .int .i64 1] 2) = W at *
    go_loopw [9, 10, 11] (fun s u _ wr => ∃ k A3 c3 v, k ≤ n ∧ u = .int .i64 (k : Nat) ∧ s = .slice A3 (k + 2) c3 ∧ Hid (SV w1.heap.size wr w1.heap.size v (fixF l inp bit k).2) ∧ Hid (wr.ownsRow w1.heap.size 2 1 (.slice A3 (k + 2) c3) (k + 2) (ints (fixF l inp bit k).1)) ∧ Hid (Below w1.heap.size w1 wr)) (fun _ u _ _ => n - (intOf u).toNat)
    case atStart => exact ⟨0, _, _, _, Nat.zero_le _, rfl, rfl, HSV, HO, HB2⟩
    case round =>
      obtain ⟨k, A3, c3, v, hk, rfl, rfl, hsv, ho, hb⟩ := hrel
      clear HO HSV HB2 a0 a1 a2
      have a0 := cell_later hb.out A0.out
      have a1 := cell_later hb.out A1.out
      have a2 := cell_later hb.out A2.out
      have HBW := Lib.hid (below_chain HB1.out hb.out)
      have hFI := Lib.hid (fix_inv HVN.out.good inp bit k (by have := HN.out; omega))
      have hszr : w1.heap.size ≤ wr.heap.size := hb.out.size
      by_cases hlt : k < n
      · obtain ⟨x, hx⟩ : ∃ x, l[k]? = some x := ⟨_, List.getElem?_eq_getElem (by have := HN.out; omega)⟩
        have hgd := HVN.out.good k x hx
        have HXX := Lib.hid hx
        obtain ⟨b1, off, rfl, hb1, g0, g1, g2⟩ := H.out.nd hx
        replace g0 := cell_later HBW.out g0
        replace g1 := cell_later HBW.out g1
        replace g2 := cell_later HBW.out g2
        obtain ⟨xi, xa, xb⟩ := x
        dsimp only at hgd g0 g1 g2
        obtain ⟨a, rfl⟩ : ∃ a : Nat, xa = a := ⟨xa.toNat, by omega⟩
        obtain ⟨b, rfl⟩ : ∃ b : Nat, xb = b := ⟨xb.toNat, by omega⟩
        have hak : a < k + 2 := by omega
        have hbk : b < k + 2 := by omega
        have hak2 : (a : Int) < k + 2 := by omega
        have hbk2 : (b : Int) < k + 2 := by omega
        have hkn : (k : Int) < n := by omega
        obtain ⟨g, rfl, hg1, c1⟩ := own_at ho.out (r := a) hak
        obtain ⟨g', e', hg2, c2⟩ := own_at ho.out (r := b) hbk
        simp only [Option.some.injEq, Addr.mk.injEq, and_true] at e'
        subst e'
        have hgg := (ho.out.lt g rfl).2
        have hal := below_alloc (Below.refl wr.heap.size wr) (.cells #[.int .i64 xi, .int .i64 a, .int .i64 b] 57)
        have y0 : (wr.alloc (.cells #[.int .i64 xi, .int .i64 a, .int .i64 b] 57)).cell? ⟨wr.heap.size, 0, none⟩ = some (.int .i64 xi) := by go_simp
        have y1 : (wr.alloc (.cells #[.int .i64 xi, .int .i64 a, .int .i64 b] 57)).cell? ⟨wr.heap.size, 1, none⟩ = some (.int .i64 a) := by go_simp
        have y2 : (wr.alloc (.cells #[.int .i64 xi, .int .i64 a, .int .i64 b] 57)).cell? ⟨wr.heap.size, 2, none⟩ = some (.int .i64 b) := by go_simp
        have q1 := cell_later hal hg1
        have q2 := cell_later hal hg2
        have HSW := Lib.hid (hsv.out.below hal)
        have HOW := Lib.hid (own_below ho.out hal)
        have HBX := Lib.hid (below_chain hb.out hal)
        have hszx : wr.heap.size < (wr.alloc (.cells #[.int .i64 xi, .int .i64 a, .int .i64 b] 57)).heap.size := by simp
        have HGX := Lib.hid (show wr.heap.size ≠ w1.heap.size ∧ ∀ q, v.ownBlock = some q → q ≠ wr.heap.size from ⟨fun e => by have h := (own_ge hsv.out.1).2; omega, fun q hq e => by have h := (hsv.out.2.lt q hq).2; omega⟩)
        clear hgd hx hal hb hsv ho c1 c2
        rcases Decidable.em (xi = inp) with he | he
        · have heb : (xi != inp) = false := by simp [he]
          have HE := Lib.hid he
          clear he
          rcases Decidable.em (bit = 0) with h0 | h0
          · have HS := Lib.hid (fix_lo HXX.out HE.out h0)
            subst h0
            simp only [Int.toNat_natCast] at HS
            generalize (fixF l inp 0 k).1.getD a 0 = z at *
            generalize (fixF l inp 0 k).1.getD b 0 = z2 at *
            go_wp2_with (first
              | (at_builtin
                 refine wpList_push_int _ rfl (.tmp 76) (.tmp 82) rfl w1.heap.size _ (k + 2) (fixF l inp 0 k).1 z (wr.heap.size + 1) 1 rfl (own_below HOW.out (below_alloc (Below.refl _ _) (.cells #[.int .i64 z] 2))) rfl (by go_simp) (by omega) (by simp; omega) ?_
                 intro v11 w11 hown hgrow _ _
                 have HB11 := Lib.hid (below_of_grown (below_chain HBX.out (below_alloc (Below.refl _ _) (.cells #[.int .i64 z] 2))) hgrow (fun q hq => (HOW.out.lt q hq).1))
                 have HS11 := Lib.hid ((HSW.out.below (below_alloc (Below.refl _ _) (.cells #[.int .i64 z] 2))).other (own_below HOW.out (below_alloc (Below.refl _ _) (.cells #[.int .i64 z] 2))) (by decide) (by decide) hgrow)
                 have HO11 := Lib.hid hown
                 clear hown hgrow)
              )
            obtain ⟨A11, c11, rfl⟩ := own_shape HO11.out
            go_roundw
            case rel => exact ⟨k + 1, A11, c11, _, by omega, by go_num, rfl, Lib.hid (by rw [HS.out]; exact HS11.out), Lib.hid (by rw [HS.out]; exact HO11.out), HB11⟩
            case measure => simp [intOf]; omega
          · have h0b : (bit == 0) = false := by simpa using h0
            have HS := Lib.hid (fix_hi HXX.out HE.out h0)
            simp only [Int.toNat_natCast] at HS
            generalize (fixF l inp bit k).1.getD a 0 = z2 at *
            generalize (fixF l inp bit k).1.getD b 0 = z at *
            go_wp2_with (first
              | (at_builtin
                 refine wpList_push_int _ rfl (.tmp 43) (.tmp 49) rfl w1.heap.size _ (k + 2) (fixF l inp bit k).1 z (wr.heap.size + 1) 1 rfl (own_below HOW.out (below_alloc (Below.refl _ _) (.cells #[.int .i64 z] 2))) rfl (by go_simp) (by omega) (by simp; omega) ?_
                 intro v11 w11 hown hgrow _ _
                 have HB11 := Lib.hid (below_of_grown (below_chain HBX.out (below_alloc (Below.refl _ _) (.cells #[.int .i64 z] 2))) hgrow (fun q hq => (HOW.out.lt q hq).1))
                 have HS11 := Lib.hid ((HSW.out.below (below_alloc (Below.refl _ _) (.cells #[.int .i64 z] 2))).other (own_below HOW.out (below_alloc (Below.refl _ _) (.cells #[.int .i64 z] 2))) (by decide) (by decide) hgrow)
                 have HO11 := Lib.hid hown
                 clear hown hgrow)
              )
            obtain ⟨A11, c11, rfl⟩ := own_shape HO11.out
            go_roundw
            case rel => exact ⟨k + 1, A11, c11, _, by omega, by go_num, rfl, Lib.hid (by rw [HS.out]; exact HS11.out), Lib.hid (by rw [HS.out]; exact HO11.out), HB11⟩
            case measure => simp [intOf]; omega
        · have heb : (xi != inp) = true := by simpa using he
          have HS := Lib.hid (fix_ne (bit := bit) HXX.out he)
          simp only [Int.toNat_natCast] at HS
          have hFO := hFI.out.out
          generalize (fixF l inp bit k).1.getD a 0 = z1 at *
          generalize (fixF l inp bit k).1.getD b 0 = z2 at *
          clear he
          go_wp2_with (fail)
          clear g0 g1 g2 hg1 hg2
          generalize wr.alloc (.cells #[.int .i64 xi, .int .i64 a, .int .i64 b] 57) = W5 at *
          generalize wr.heap.size = gx at *
          refine wp_region_held_drew (S := (fun w' => (w'.cell? ⟨gx, 0, none⟩ = some (.int .i64 xi) ∧ w'.cell? ⟨gx, 1, none⟩ = some (.int .i64 a) ∧ w'.cell? ⟨gx, 2, none⟩ = some (.int .i64 b)) ∧ w'.cell? ⟨g, a, none⟩ = some (.int .i64 z1) ∧ w'.cell? ⟨g, b, none⟩ = some (.int .i64 z2))) (by kernel_rfl) ?_ (fun hHeld => ?_)
          · exact ⟨⟨y0, y1, y2⟩, q1, q2⟩
          refine rg_take (v := ?_) 0 rfl (by kernel_rfl) (by kernel_rfl) (by kernel_rfl) (fun _ _ _ h => h) (by kernel_rfl) ?_ (by assumption) ?_
          rotate_left
          · (intro w' hSw; (try dsimp only at hSw); go_simp; first | done | with_reducible rfl)
          simp only [Act.put, List.setIfInBounds_toArray, List.set_cons_zero, List.set_cons_succ]
          refine rg_take (v := ?_) 1 rfl (by kernel_rfl) (by kernel_rfl) (by kernel_rfl) (fun _ _ _ h => h) (by kernel_rfl) ?_ (by assumption) ?_
          rotate_left
          · (intro w' hSw; (try dsimp only at hSw); go_simp; first | done | with_reducible rfl)
          simp only [Act.put, List.setIfInBounds_toArray, List.set_cons_zero, List.set_cons_succ]
          refine rg_take (v := ?_) 2 rfl (by kernel_rfl) (by kernel_rfl) (by kernel_rfl) (fun _ _ _ h => h) (by kernel_rfl) ?_ (by assumption) ?_
          rotate_left
          · (intro w' hSw; (try dsimp only at hSw); go_simp; first | done | with_reducible rfl)
          simp only [Act.put, List.setIfInBounds_toArray, List.set_cons_zero, List.set_cons_succ]
          refine rg_take (v := ?_) 3 rfl (by kernel_rfl) (by kernel_rfl) (by kernel_rfl) (fun _ _ _ h => h) (by kernel_rfl) ?_ (by assumption) ?_
          rotate_left
          · (intro w' hSw; (try dsimp only at hSw); go_simp; first | done | with_reducible rfl)
          simp only [Act.put, List.setIfInBounds_toArray, List.set_cons_zero, List.set_cons_succ]
          refine rg_take (v := ?_) 4 rfl (by kernel_rfl) (by kernel_rfl) (by kernel_rfl) (fun _ _ _ h => h) (by kernel_rfl) ?_ (by assumption) ?_
          rotate_left
          · (intro w' hSw; (try dsimp only at hSw); go_simp; first | done | with_reducible rfl)
          simp only [Act.put, List.setIfInBounds_toArray, List.set_cons_zero, List.set_cons_succ]
          refine rg_take (v := ?_) 5 rfl (by kernel_rfl) (by kernel_rfl) (by kernel_rfl) (fun _ _ _ h => h) (by kernel_rfl) ?_ (by assumption) ?_
          rotate_left
          · (intro w' hSw; (try dsimp only at hSw); go_simp; first | done | with_reducible rfl)
          simp only [Act.put, List.setIfInBounds_toArray, List.set_cons_zero, List.set_cons_succ]
          refine rg_take (v := ?_) 6 rfl (by kernel_rfl) (by kernel_rfl) (by kernel_rfl) (fun _ _ _ h => h) (by kernel_rfl) ?_ (by assumption) ?_
          rotate_left
          · (intro w' hSw; (try dsimp only at hSw); go_simp; first | done | with_reducible rfl)
          simp only [Act.put, List.setIfInBounds_toArray, List.set_cons_zero, List.set_cons_succ]
          refine rg_take (v := ?_) 7 rfl (by kernel_rfl) (by kernel_rfl) (by kernel_rfl) (fun _ _ _ h => h) (by kernel_rfl) ?_ (by assumption) ?_
          rotate_left
          · (intro w' hSw; (try dsimp only at hSw); go_simp; first | done | with_reducible rfl)
          simp only [Act.put, List.setIfInBounds_toArray, List.set_cons_zero, List.set_cons_succ]
          refine rg_take (v := ?_) 8 rfl (by kernel_rfl) (by kernel_rfl) (by kernel_rfl) (fun _ _ _ h => h) (by kernel_rfl) ?_ (by assumption) ?_
          rotate_left
          · (intro w' hSw; (try dsimp only at hSw); go_simp; first | done | with_reducible rfl)
          simp only [Act.put, List.setIfInBounds_toArray, List.set_cons_zero, List.set_cons_succ]
          refine rg_take (v := ?_) 9 rfl (by kernel_rfl) (by kernel_rfl) (by kernel_rfl) (fun _ _ _ h => h) (by kernel_rfl) ?_ (by assumption) ?_
          rotate_left
          · (intro w' hSw; (try dsimp only at hSw); go_simp; first | done | with_reducible rfl)
          simp only [Act.put, List.setIfInBounds_toArray, List.set_cons_zero, List.set_cons_succ]
          refine rg_take (v := ?_) 10 rfl (by kernel_rfl) (by kernel_rfl) (by kernel_rfl) (fun _ _ _ h => h) (by kernel_rfl) ?_ (by assumption) ?_
          rotate_left
          · (intro w' hSw; (try dsimp only at hSw); go_simp; first | done | with_reducible rfl)
          simp only [Act.put, List.setIfInBounds_toArray, List.set_cons_zero, List.set_cons_succ]
          refine rg_take (v := ?_) 11 rfl (by kernel_rfl) (by kernel_rfl) (by kernel_rfl) (fun _ _ _ h => h) (by kernel_rfl) ?_ (by assumption) ?_
          rotate_left
          · (intro w' hSw; (try dsimp only at hSw); go_simp; first | done | with_reducible rfl)
          simp only [Act.put, List.setIfInBounds_toArray, List.set_cons_zero, List.set_cons_succ]
          refine rg_take (v := ?_) 12 rfl (by kernel_rfl) (by kernel_rfl) (by kernel_rfl) (fun _ _ _ h => h) (by kernel_rfl) ?_ (by assumption) ?_
          rotate_left
          · (intro w' hSw; (try dsimp only at hSw); go_simp; first | done | with_reducible rfl)
          simp only [Act.put, List.setIfInBounds_toArray, List.set_cons_zero, List.set_cons_succ]
          refine rg_take (v := ?_) 13 rfl (by kernel_rfl) (by kernel_rfl) (by kernel_rfl) (fun _ _ _ h => h) (by kernel_rfl) ?_ (by assumption) ?_
          rotate_left
          · (intro w' hSw; (try dsimp only at hSw); go_simp; first | done | with_reducible rfl)
          simp only [Act.put, List.setIfInBounds_toArray, List.set_cons_zero, List.set_cons_succ]
          refine rg_run 14 rfl (by kernel_rfl) (by kernel_rfl) (fun K hK => ?_)
          go_simp
          refine (c_l22NodeV w1.heap.size w1.heap.size xi z1 z2 v (fixF l inp bit k).2 W5.drew (by omega) (by exact (by omega : w1.heap.size ≤ W5.heap.size)) (by exact HSW.out)).mono ?_
          rintro e w7 ⟨rfl, v7, hS7, hF7, _⟩
          have hvg : ∀ q, v.ownBlock = some q → q ≠ g := fun q hq e => own_ne HOW.out HSW.out.2 (by decide) g rfl (e ▸ hq)
          have hbg : g ≠ w1.heap.size := fun e => own_ne HOW.out HSW.out.1 (by decide) g rfl (congrArg some e.symm)
          replace y0 := PX.cell hF7 (by exact y0) HGX.out.1 (fun e => HGX.out.2 gx e rfl)
          replace y1 := PX.cell hF7 (by exact y1) HGX.out.1 (fun e => HGX.out.2 gx e rfl)
          replace y2 := PX.cell hF7 (by exact y2) HGX.out.1 (fun e => HGX.out.2 gx e rfl)
          replace q1 := PX.cell hF7 (by exact q1) hbg (fun e => hvg g e rfl)
          replace q2 := PX.cell hF7 (by exact q2) hbg (fun e => hvg g e rfl)
          have HO7 := Lib.hid (PX.own hF7 (own_drew HOW.out) (fun e => hbg (by simpa [Value.ownBlock] using e)) (fun q hq e => hvg q hq (by simpa [Value.ownBlock] using e.symm)))
          have HS7 := Lib.hid hS7
          have HB7 := Lib.hid ((show Below w1.heap.size w1 _ from HBX.out.drew).trans (PX.below hF7 (by exact (by omega : w1.heap.size ≤ W5.heap.size))))
          have hsz7 : W5.heap.size ≤ w7.heap.size := hF7.size
          clear hS7 hF7 hvg HSW HOW HBX
          go_wp2
          clear hHeld
          refine hK.out _ _ (by exact ⟨⟨y0, y1, y2⟩, q1, q2⟩) (fun hHeld => ?_)
          clear hK K
          try simp only [Act.put, List.setIfInBounds_toArray, List.set_cons_zero, List.set_cons_succ]
          generalize mkN (fixF l inp bit k).2 ⟨xi, z1, z2⟩ = M at *
          refine rg_run 15 rfl (by kernel_rfl) (by kernel_rfl) (fun K hK => ?_)
          go_simp
          go_wp2
          have hal := below_alloc (Below.refl w7.heap.size w7) (.cells #[.int .i64 M.2] 2)
          replace y0 := cell_later hal (by exact y0)
          replace y1 := cell_later hal (by exact y1)
          replace y2 := cell_later hal (by exact y2)
          replace q1 := cell_later hal (by exact q1)
          replace q2 := cell_later hal (by exact q2)
          have HO8 := Lib.hid (own_below (by exact HO7.out) hal)
          have HS8 := Lib.hid (SV.below (by exact HS7.out) hal)
          have HB8 := Lib.hid (below_chain (by exact HB7.out) hal)
          have z0 : (w7.alloc (.cells #[.int .i64 M.2] 2)).cell? ⟨w7.heap.size, 0, none⟩ = some (.int .i64 M.2) := by go_simp
          have hsz8 : w1.heap.size ≤ (w7.alloc (.cells #[.int .i64 M.2] 2)).heap.size := by simp; omega
          clear hal HO7 HS7 HB7
          generalize w7.alloc (.cells #[.int .i64 M.2] 2) = W8 at *
          generalize w7.heap.size = g8 at *
          clear hHeld
          refine hK.out _ _ (by exact ⟨⟨y0, y1, y2⟩, q1, q2⟩) (fun hHeld => ?_)
          clear hK K
          try simp only [Act.put, List.setIfInBounds_toArray, List.set_cons_zero, List.set_cons_succ]
          refine rg_run 16 rfl (by kernel_rfl) (by kernel_rfl) (fun K hK => ?_)
          refine wp_push_int2 _ (.tmp 56) (.tmp 71) rfl w1.heap.size (.slice (some ⟨g, 0, none⟩) (k + 2) c3) (k + 2) (fixF l inp bit k).1 M.2 g8 1 rfl (by exact HO8.out) rfl (by exact z0) (by omega) (by exact hsz8) ?_
          intro v9 w9 ho hg hkp
          have hgb : ∀ q, (Value.slice (some ⟨g, 0, none⟩) (k + 2) c3).ownBlock = some q → q = g := fun q hq => by simp [Value.ownBlock] at hq; exact hq.symm
          have HS9 := Lib.hid (SV.other (by exact HS8.out) (by exact HO8.out) (by decide) (by decide) hg)
          have HO9 := Lib.hid ho
          have HB9 := Lib.hid (below_of_grown (by first | exact HB8.out | exact HB8.out.drew) hg (fun q hq => (HO8.out.lt q hq).1))
          obtain ⟨A9, c9, rfl⟩ := own_shape ho
          replace y0 := cell_mark (by exact y0) hg (fun q hq => by rw [hgb q hq]; dsimp only; omega)
          replace y1 := cell_mark (by exact y1) hg (fun q hq => by rw [hgb q hq]; dsimp only; omega)
          replace y2 := cell_mark (by exact y2) hg (fun q hq => by rw [hgb q hq]; dsimp only; omega)
          replace q1 := (hkp g rfl a (by omega)).trans (by exact q1)
          replace q2 := (hkp g rfl b (by omega)).trans (by exact q2)
          clear ho hkp hg hgb z0
          clear hHeld
          refine hK.out _ _ (by exact ⟨⟨y0, y1, y2⟩, q1, q2⟩) (fun hHeld => ?_)
          clear hK K
          try simp only [Act.put, List.setIfInBounds_toArray, List.set_cons_zero, List.set_cons_succ]
          refine rg_take (v := ?_) 17 rfl (by kernel_rfl) (by kernel_rfl) (by kernel_rfl) (fun _ _ _ h => h) (by kernel_rfl) ?_ (by assumption) ?_
          rotate_left
          · (intro w' hSw; (try dsimp only at hSw); go_simp; first | done | with_reducible rfl)
          simp only [Act.put, List.setIfInBounds_toArray, List.set_cons_zero, List.set_cons_succ]
          refine wpAnyH_done (by kernel_rfl) ?_ _
          clear hHeld
          clear y0 y1 y2 q1 q2
          go_wp2_with (fail)
          go_roundw
          case rel => exact ⟨k + 1, A9, c9, _, by omega, by go_num, rfl, Lib.hid (by rw [HS.out]; exact HS9.out), Lib.hid (by rw [HS.out]; exact HO9.out), HB9⟩
          case measure => simp [intOf]; omega
      · obtain rfl : k = n := by omega
        obtain ⟨r, rfl⟩ : ∃ r : Nat, R = r := ⟨R.toNat, by omega⟩
        have hr2 : r < k + 2 := by omega
        have hr3 : (r : Int) < k + 2 := by omega
        obtain ⟨g, rfl, hg1, _⟩ := own_at ho.out (r := r) hr2
        have hnm := hFI.out.nm r hr2
        have hgl := (ho.out.lt g rfl).1
        have HD2 : Hid (fixD l (r : Int) inp bit = canS (fixF l inp bit k).2 ((fixF l inp bit k).1.getD r 0).toNat) := Lib.hid (by unfold fixD; rw [← HN.out, Int.toNat_natCast])
        obtain ⟨z, hz⟩ : ∃ z : Nat, (fixF l inp bit k).1.getD r 0 = z := ⟨((fixF l inp bit k).1.getD r 0).toNat, by omega⟩
        rw [hz] at hg1 hnm HD2
        rw [Int.toNat_natCast] at HD2
        obtain ⟨Av, cv, rfl⟩ := own_shape hsv.out.2
        have s0 := hsv.out.1.cellAt 0 (by decide)
        simp only [List.getElem?_cons_zero] at s0
        have hfl := hFI.out.out
        have HCA := Lib.hid (fun w' h => c_l22Canonical X Av cv (fixF l inp bit k).2.length (fixF l inp bit k).2 z w' rfl (by omega) hFI.out.good (by omega) h)
        have HRV := Lib.hid (Rd.own hsv.out.2)
        have HXW := Lib.hid (own_below HX1.out hb.out)
        have hbz := World.block_lt_of_cell? _ _ a0
        dsimp only at hbz
        generalize canS (fixF l inp bit k).2 z = C at *
        generalize (fixF l inp bit k).2.length = nf at *
        have hw1z := World.block_lt_of_cell? _ _ s0
        dsimp only at hw1z
        have hw1n : (⟨w1.heap.size, 0, none⟩ : Addr).block < wr.heap.size := hw1z
        clear hz hnm hsv ho hb
        go_wp2_with (fail)
        refine wp_region_held_drew (S := (fun w' => (w'.cell? ⟨w.heap.size, 0, none⟩ = some (.int .i64 X) ∧ w'.cell? ⟨w.heap.size, 2, none⟩ = some (.int .i64 (r : Int))) ∧ w'.cell? ⟨w1.heap.size, 0, none⟩ = some (.slice Av nf cv) ∧ w'.cell? ⟨g, r, none⟩ = some (.int .i64 (z : Int)))) (by kernel_rfl) ?_ (fun hHeld => ?_)
        · exact ⟨⟨a0, a2⟩, s0, hg1⟩
        refine rg_take (v := ?_) 0 rfl (by kernel_rfl) (by kernel_rfl) (by kernel_rfl) (fun _ _ _ h => h) (by kernel_rfl) ?_ (by assumption) ?_
        rotate_left
        · (intro w' hSw; (try dsimp only at hSw); go_simp; first | done | with_reducible rfl)
        simp only [Act.put, List.setIfInBounds_toArray, List.set_cons_zero, List.set_cons_succ]
        refine rg_take (v := ?_) 1 rfl (by kernel_rfl) (by kernel_rfl) (by kernel_rfl) (fun _ _ _ h => h) (by kernel_rfl) ?_ (by assumption) ?_
        rotate_left
        · (intro w' hSw; (try dsimp only at hSw); go_simp; first | done | with_reducible rfl)
        simp only [Act.put, List.setIfInBounds_toArray, List.set_cons_zero, List.set_cons_succ]
        refine rg_take (v := ?_) 2 rfl (by kernel_rfl) (by kernel_rfl) (by kernel_rfl) (fun _ _ _ h => h) (by kernel_rfl) ?_ (by assumption) ?_
        rotate_left
        · (intro w' hSw; (try dsimp only at hSw); go_simp; first | done | with_reducible rfl)
        simp only [Act.put, List.setIfInBounds_toArray, List.set_cons_zero, List.set_cons_succ]
        refine rg_take (v := ?_) 3 rfl (by kernel_rfl) (by kernel_rfl) (by kernel_rfl) (fun _ _ _ h => h) (by kernel_rfl) ?_ (by assumption) ?_
        rotate_left
        · (intro w' hSw; (try dsimp only at hSw); go_simp; first | done | with_reducible rfl)
        simp only [Act.put, List.setIfInBounds_toArray, List.set_cons_zero, List.set_cons_succ]
        refine rg_take (v := ?_) 4 rfl (by kernel_rfl) (by kernel_rfl) (by kernel_rfl) (fun _ _ _ h => h) (by kernel_rfl) ?_ (by assumption) ?_
        rotate_left
        · (intro w' hSw; (try dsimp only at hSw); go_simp; first | done | with_reducible rfl)
        simp only [Act.put, List.setIfInBounds_toArray, List.set_cons_zero, List.set_cons_succ]
        refine rg_take (v := ?_) 5 rfl (by kernel_rfl) (by kernel_rfl) (by kernel_rfl) (fun _ _ _ h => h) (by kernel_rfl) ?_ (by assumption) ?_
        rotate_left
        · (intro w' hSw; (try dsimp only at hSw); go_simp; first | done | with_reducible rfl)
        simp only [Act.put, List.setIfInBounds_toArray, List.set_cons_zero, List.set_cons_succ]
        refine rg_take (v := ?_) 6 rfl (by kernel_rfl) (by kernel_rfl) (by kernel_rfl) (fun _ _ _ h => h) (by kernel_rfl) ?_ (by assumption) ?_
        rotate_left
        · (intro w' hSw; (try dsimp only at hSw); go_simp; first | done | with_reducible rfl)
        simp only [Act.put, List.setIfInBounds_toArray, List.set_cons_zero, List.set_cons_succ]
        refine rg_take (v := ?_) 7 rfl (by kernel_rfl) (by kernel_rfl) (by kernel_rfl) (fun _ _ _ h => h) (by kernel_rfl) ?_ (by assumption) ?_
        rotate_left
        · (intro w' hSw; (try dsimp only at hSw); go_simp; first | done | with_reducible rfl)
        simp only [Act.put, List.setIfInBounds_toArray, List.set_cons_zero, List.set_cons_succ]
        refine rg_take (v := ?_) 8 rfl (by kernel_rfl) (by kernel_rfl) (by kernel_rfl) (fun _ _ _ h => h) (by kernel_rfl) ?_ (by assumption) ?_
        rotate_left
        · (intro w' hSw; (try dsimp only at hSw); go_simp; first | done | with_reducible rfl)
        simp only [Act.put, List.setIfInBounds_toArray, List.set_cons_zero, List.set_cons_succ]
        refine rg_take (v := ?_) 9 rfl (by kernel_rfl) (by kernel_rfl) (by kernel_rfl) (fun _ _ _ h => h) (by kernel_rfl) ?_ (by assumption) ?_
        rotate_left
        · (intro w' hSw; (try dsimp only at hSw); go_simp; first | done | with_reducible rfl)
        simp only [Act.put, List.setIfInBounds_toArray, List.set_cons_zero, List.set_cons_succ]
        refine rg_take (v := ?_) 10 rfl (by kernel_rfl) (by kernel_rfl) (by kernel_rfl) (fun _ _ _ h => h) (by kernel_rfl) ?_ (by assumption) ?_
        rotate_left
        · (intro w' hSw; (try dsimp only at hSw); go_simp; first | done | with_reducible rfl)
        simp only [Act.put, List.setIfInBounds_toArray, List.set_cons_zero, List.set_cons_succ]
        refine rg_run 11 rfl (by kernel_rfl) (by kernel_rfl) (fun K hK => ?_)
        go_simp
        refine (HCA.out _ (by exact HRV.out.drew)).mono ?_
        rintro e w9 ⟨A9, c9, rfl, ho9, hb9⟩
        replace a0 := cell_later hb9 (by exact a0)
        replace a2 := cell_later hb9 (by exact a2)
        replace s0 := cell_later hb9 (by exact s0)
        replace hg1 := cell_later hb9 (by exact hg1)
        have HX9 := Lib.hid (own_below (by exact HXW.out) hb9)
        have HB9 := Lib.hid (below_chain (by first | exact HBW.out.drew | exact HBW.out) hb9)
        have hso2 := own_mono ho9 (base' := w.heap.size) (by exact Nat.le_of_lt hbz)
        obtain ⟨WF, hWF, r0, r1, r2, r3⟩ := set3_ret HX9.out HB9.out hso2 X C.2
        have HF := Lib.hid hWF
        have R3 := Lib.hid r3
        have p0 := HX9.out.cellAt 0 (by decide)
        have p1 := HX9.out.cellAt 1 (by decide)
        have p2 := HX9.out.cellAt 2 (by decide)
        simp only [List.getElem?_cons_zero, List.getElem?_cons_succ] at p0 p1 p2
        have f0 := HX9.out.frozenAt 0
        have f1 := HX9.out.frozenAt 1
        have f2 := HX9.out.frozenAt 2
        have hbz9 := World.block_lt_of_cell? _ _ a0
        dsimp only at hbz9
        clear hso2 r3 ho9 hb9 HXW
        go_wp2
        clear hHeld
        refine hK.out _ _ (by exact ⟨⟨a0, a2⟩, s0, hg1⟩) (fun hHeld => ?_)
        clear hK K
        try simp only [Act.put, List.setIfInBounds_toArray, List.set_cons_zero, List.set_cons_succ]
        have hgg : g ≠ w.heap.size + 1 := by omega
        have s0' : WF.cell? ⟨w.heap.size, 0, none⟩ = some (.int .i64 X) := by rw [hWF]; go_simp
        have s2' : WF.cell? ⟨w.heap.size, 2, none⟩ = some (.int .i64 (r : Int)) := by rw [hWF]; go_simp
        have s3' : WF.cell? ⟨w1.heap.size, 0, none⟩ = some (.slice Av nf cv) := by rw [hWF]; go_simp
        have s4' : WF.cell? ⟨g, r, none⟩ = some (.int .i64 (z : Int)) := by rw [hWF]; go_simp
        clear hWF
        refine rg_run 12 rfl (by kernel_rfl) (by kernel_rfl) (fun K hK => ?_)
        go_simp
        rw [← HF.out]
        clear hHeld
        refine hK.out _ _ (by exact ⟨⟨s0', s2'⟩, s3', s4'⟩) (fun hHeld => ?_)
        clear hK K
        try simp only [Act.put, List.setIfInBounds_toArray, List.set_cons_zero, List.set_cons_succ]
        refine rg_take (v := ?_) 13 rfl (by kernel_rfl) (by kernel_rfl) (by kernel_rfl) (fun _ _ _ h => h) (by kernel_rfl) ?_ (by assumption) ?_
        rotate_left
        · (intro w' hSw; (try dsimp only at hSw); go_simp; first | done | with_reducible rfl)
        simp only [Act.put, List.setIfInBounds_toArray, List.set_cons_zero, List.set_cons_succ]
        refine wpAnyH_done (by kernel_rfl) ?_ _
        clear hHeld
        clear a0 a1 a2 p0 p1 p2 f0 f1 f2 s0' s2' s3' s4' s0 hg1
        go_wp2_with (fail)
        refine bodyPost_ret (v := .tuple #[.agg #[.int .i64 X, .slice A9 C.1.length c9, .int .i64 C.2], .int .i64 0]) (by simp [results, Try.results30, go_sem, r0, r1, r2]) rfl (by obtain ⟨v1, v2, v3⟩ := fix_ok HV.out; rw [v1, v2, v3, HV.out, HD2.out]; exact R3.out 0)
end Go.Proofs.Ytndihacmlkgkbaa
