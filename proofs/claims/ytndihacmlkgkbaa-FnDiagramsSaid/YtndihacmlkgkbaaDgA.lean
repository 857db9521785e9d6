/- Contract of the reference's NotDiagram. Condition: the size. -/
import Derived.Test.YtndihacmlkgkbaaDgZ
import Derived.Test.YtndihacmlkgkbaaDgL
namespace Go.Proofs.Ytndihacmlkgkbaa
open Go.RowKit

def RetDC (x : Int) (l : List Nd) (r code : Int) (w : World) (e : Ending) (w' : World) : Prop :=
  ∃ A c, e = .returned (.tuple #[.agg #[.int .i64 x, .slice A l.length c, .int .i64 r], .int .i64 code]) ∧ w'.ownsRow w.heap.size 57 3 (.slice A l.length c) l.length (ndCells l) ∧ Below w.heap.size w w'
theorem RetDC.drew {x : Int} {l : List Nd} {r code : Int} {w w' : World} {e : Ending} (h : RetDC x l r code w e w') : RetDC x l r code w e w'.drew := by
  obtain ⟨A, c, h1, h2, h3⟩ := h
  exact ⟨A, c, h1, own_drew h2, h3.drew⟩
def notX (X : Int) (l : List Nd) (R : Int) : Int := if isD X l R then X else 0
def notL (X : Int) (l : List Nd) (R : Int) : List Nd := if isD X l R then l.map flipN else []
def notR (X : Int) (l : List Nd) (R : Int) : Int := if isD X l R then flipI R else 0
theorem c_l22Swap (r : Int) (w : World) (h0 : 0 ≤ r) (h1 : r ≤ 9223372036854775807) : Calls Try.prog 54 #[.int .i64 r] w fun e w' => e = .returned (.int .i64 (flipI r)) ∧ w = w' := by
  by_cases h : r < 2
  · have HV : Hid (flipI r = 1 - r) := Lib.hid (by unfold flipI; rw [if_pos h])
    rw [HV.out]
    go_enter Try.func54, Try.ntmps54
    go_wp2
    go_ret
    exact ⟨rfl, rfl⟩
  · have HV : Hid (flipI r = r) := Lib.hid (by unfold flipI; rw [if_neg h])
    rw [HV.out]
    go_enter Try.func54, Try.ntmps54
    go_wp2
    go_ret
    exact ⟨rfl, rfl⟩
theorem c_flipped (r : Int) (w : World) (h0 : 0 ≤ r) (h1 : r ≤ 9223372036854775807) : Calls Try.prog 56 #[.int .i64 r] w fun e w' => e = .returned (.int .i64 (flipI r)) ∧ w = w' := by
  by_cases h : r < 2
  · have HV : Hid (flipI r = 1 - r) := Lib.hid (by unfold flipI; rw [if_pos h])
    rw [HV.out]
    go_enter Try.func56, Try.ntmps56
    go_wp2
    go_ret
    exact ⟨rfl, rfl⟩
  · have HV : Hid (flipI r = r) := Lib.hid (by unfold flipI; rw [if_neg h])
    rw [HV.out]
    go_enter Try.func56, Try.ntmps56
    go_wp2
    go_ret
    exact ⟨rfl, rfl⟩
theorem nd_nil (C : World) (g : Nat) (hg : g = C.heap.size) (base : Nat) (hb : base ≤ C.heap.size) : (C.alloc (Obj.cells #[] 57)).ownsRow base 57 3 (.slice (some ⟨g, 0, none⟩) 0 0) 0 (ndCells []) := by
  subst hg
  have := World.ownsRow_made (e := 57) (size := 3) (base := base) C #[] 0 hb (Nat.zero_le _) rfl
  simpa [ndCells] using this
theorem take_map {l : List Nd} {f : Nd → Nd} {k : Nat} {x : Nd} (hx : l[k]? = some x) : (l.map f).take k ++ [f x] = (l.map f).take (k + 1) := by
  rw [List.take_add_one, List.getElem?_map, hx]
  rfl
theorem set3_ret {w W : World} {bd : Nat} {xs : List Value} (hD : W.ownsRow w.heap.size 29 3 (.slice (some ⟨bd, 0, none⟩) 1 1) 1 xs) (hB : Below w.heap.size w W) {l : List Nd} {A : Option Addr} {c : Nat} (hR : W.ownsRow w.heap.size 57 3 (.slice A l.length c) l.length (ndCells l)) (X R : Int) :
    ∃ WF, WF = (((W.setCell ⟨bd, 0, none⟩ (.int .i64 X)).setCell ⟨bd, 1, none⟩ (.slice A l.length c)).setCell ⟨bd, 2, none⟩ (.int .i64 R)) ∧ WF.cell? ⟨bd, 0, none⟩ = some (.int .i64 X) ∧ WF.cell? ⟨bd, 1, none⟩ = some (.slice A l.length c) ∧ WF.cell? ⟨bd, 2, none⟩ = some (.int .i64 R) ∧ ∀ code, RetDC X l R code w (.returned (.tuple #[.agg #[.int .i64 X, .slice A l.length c, .int .i64 R], .int .i64 code])) WF := by
  obtain ⟨r0, r1, r2, r3, r4⟩ := dg_box hD hR hB (.int .i64 X) (.slice A l.length c) (.int .i64 R)
  exact ⟨_, rfl, r0, r1, r2, fun code => ⟨A, c, rfl, r3, r4⟩⟩
theorem wp_push_nd2 (w : World) {o : Oper} {a : Act} {K : Act → World → Prop} {Q : Exit → Act → World → Prop} (s x : Operand)
    (ho : o.op = .call { callee := .builtin .append, args := #[s, x], argTypes := #[27, 27] })
    (base : Nat) (v : Value) (n : Nat) (l : List Nd) (y : Nd) (g c : Nat) (hs : a.eval s = v) (hown : w.ownsRow base 57 3 v n (ndCells l))
    (hx : a.eval x = .slice (some ⟨g, 0, none⟩) 1 c) (h0 : w.cell? ⟨g, 0, none⟩ = some (.int .i64 y.i)) (h1 : w.cell? ⟨g, 1, none⟩ = some (.int .i64 y.lo)) (h2 : w.cell? ⟨g, 2, none⟩ = some (.int .i64 y.hi)) (hn : n ≤ 1099511627776) (hbase : base ≤ w.heap.size)
    (h : ∀ v' w', w'.ownsRow base 57 3 v' (n + 1) (ndCells (l ++ [y])) → w.grownBy w' v.ownBlock → K (a.put o.dst v') w') : o.wp Try.prog a w K Q := by
  have hl : l.length = n := by have := hown.1; rw [ndCells_length] at this; omega
  subst hl
  exact wp_push_nd w s x ho base v l y g c hs hown hx h0 h1 h2 hn hbase (fun v' w' h3 h4 _ => h v' w' (by simpa using h3) h4)
set_option maxHeartbeats 1000000 in
set_option maxRecDepth 100000 in
theorem c_sNotDiagram (X R : Int) (A : Option Addr) (c n : Nat) (l : List Nd) (w : World) (hn : n = l.length) (hs : n ≤ 1099511627000) (hr : Rd w A (ndCells l)) :
    Calls Try.prog 24 #[.agg #[.int .i64 X, .slice A n c, .int .i64 R]] w (RetDC (notX X l R) (notL X l R) (notR X l R) (errD X l R) w) := by
  have a0 : ((w.alloc (.cells #[.int .i64 X, .slice A n c, .int .i64 R] 29)).alloc (.cells #[.int .i64 0, .slice none 0 0, .int .i64 0] 29)).cell? ⟨w.heap.size, 0, none⟩ = some (.int .i64 X) := by go_simp
  have a1 : ((w.alloc (.cells #[.int .i64 X, .slice A n c, .int .i64 R] 29)).alloc (.cells #[.int .i64 0, .slice none 0 0, .int .i64 0] 29)).cell? ⟨w.heap.size, 1, none⟩ = some (.slice A n c) := by go_simp
  have a2 : ((w.alloc (.cells #[.int .i64 X, .slice A n c, .int .i64 R] 29)).alloc (.cells #[.int .i64 0, .slice none 0 0, .int .i64 0] 29)).cell? ⟨w.heap.size, 2, none⟩ = some (.int .i64 R) := by go_simp
  have HX : Hid (((w.alloc (.cells #[.int .i64 X, .slice A n c, .int .i64 R] 29)).alloc (.cells #[.int .i64 0, .slice none 0 0, .int .i64 0] 29)).ownsRow w.heap.size 29 3 (.slice (some ⟨w.heap.size + 1, 0, none⟩) 1 1) 1 [.int .i64 0, .slice none 0 0, .int .i64 0]) := Lib.hid (by
    have h := own_box (w.alloc (.cells #[.int .i64 X, .slice A n c, .int .i64 R] 29)) w.heap.size 29 [.int .i64 0, .slice none 0 0, .int .i64 0] 3 rfl (by simp)
    simpa using h)
  have HB := Lib.hid (below_alloc (below_alloc (Below.refl w.heap.size w) (.cells #[.int .i64 X, .slice A n c, .int .i64 R] 29)) (.cells #[.int .i64 0, .slice none 0 0, .int .i64 0] 29))
  have HI := Lib.hid (fun w1 h => c_sIsDiagram X R A c n l w1 hn hs h)
  have H := Lib.hid hr
  have HN := Lib.hid hn
  clear hn hr
  go_enter Try.func24, Try.ntmps24
  go_wp2_with (fail)
  refine (HI.out _ (H.out.below HB.out)).mono ?_
  rintro e w1 ⟨rfl, hb⟩
  replace a0 := cell_later hb a0
  replace a1 := cell_later hb a1
  replace a2 := cell_later hb a2
  have HB1 := Lib.hid (below_chain HB.out hb)
  have HX1 := Lib.hid (own_below HX.out hb)
  clear hb HI HB HX
  rcases hd : isD X l R with _ | _
  · have HV : Hid (notX X l R = 0 ∧ notL X l R = [] ∧ notR X l R = 0 ∧ errD X l R = 1) := Lib.hid (by unfold notX notL notR errD; rw [hd]; exact ⟨rfl, rfl, rfl, rfl⟩)
    have p0 := HX1.out.cellAt 0 (by decide)
    have p1 := HX1.out.cellAt 1 (by decide)
    have p2 := HX1.out.cellAt 2 (by decide)
    simp only [List.getElem?_cons_zero, List.getElem?_cons_succ] at p0 p1 p2
    have f0 := HX1.out.frozenAt 0
    have f1 := HX1.out.frozenAt 1
    have f2 := HX1.out.frozenAt 2
    obtain ⟨WF, hWF, r0, r1, r2, r3⟩ := set3_ret HX1.out HB1.out (l := []) (own_nil _ _ _ _) 0 0
    have HF := Lib.hid hWF
    have R3 := Lib.hid r3
    clear hd hWF r3
    go_wp2_with (fail)
    clear p0 p1 p2 f0 f1 f2
    have e := HF.out
    simp only [List.length_nil] at e
    rw [← e]
    clear e
    refine bodyPost_ret (v := .tuple #[.agg #[.int .i64 0, .slice none 0 0, .int .i64 0], .int .i64 1]) (by simp [results, Try.results24, go_sem, r0, r1, r2]) rfl (by obtain ⟨v1, v2, v3, v4⟩ := HV.out; rw [v1, v2, v3, v4]; exact R3.out 1)
  · have HD := Lib.hid hd
    clear hd
    have HV : Hid (notX X l R = X ∧ notL X l R = l.map flipN ∧ notR X l R = flipI R ∧ errD X l R = 0) := Lib.hid (by unfold notX notL notR errD; rw [HD.out]; exact ⟨rfl, rfl, rfl, rfl⟩)
    obtain ⟨hv, hR0, hR1, _, _⟩ := isD_VN HD.out
    have HVN := Lib.hid hv
    rw [← HN.out] at hR1
    have hln := hv.n
    rw [← HN.out] at hln
    have hbl1 := (HX1.out.lt _ rfl).2
    have HO := Lib.hid (nd_nil w1 w1.heap.size rfl (w.heap.size + 1) (by have h : w.heap.size + 1 < w1.heap.size := hbl1; omega))
    have hal := below_alloc (Below.refl w1.heap.size w1) (Obj.cells #[] 57)
    have A0 := Lib.hid (cell_later hal a0)
    have A1 := Lib.hid (cell_later hal a1)
    have A2 := Lib.hid (cell_later hal a2)
    have HX2 := Lib.hid (own_below HX1.out hal)
    have HB2 := Lib.hid (below_chain HB1.out hal)
    have hbl := World.block_lt_of_cell? _ _ A0.out
    dsimp only at hbl
    clear hv hal HX1
    go_wp2_with (fail)
    generalize w1.alloc (.cells #[] 57) = W at *
    clear a0 a1 a2
    go_loopw [4, 5] (fun s u wr => ∃ k A3 c3, k ≤ n ∧ u = .int .i64 (k : Nat) ∧ s = .slice A3 k c3 ∧ Hid (wr.ownsRow (w.heap.size + 1) 57 3 (.slice A3 k c3) k (ndCells ((l.map flipN).take k))) ∧ Hid (wr.ownsRow w.heap.size 29 3 (.slice (some ⟨w.heap.size + 1, 0, none⟩) 1 1) 1 [.int .i64 0, .slice none 0 0, .int .i64 0]) ∧ Hid (wr.cell? ⟨w.heap.size, 0, none⟩ = some (.int .i64 X) ∧ wr.cell? ⟨w.heap.size, 1, none⟩ = some (.slice A n c) ∧ wr.cell? ⟨w.heap.size, 2, none⟩ = some (.int .i64 R)) ∧ Hid (Below w.heap.size w wr)) (fun _ u _ => n - (intOf u).toNat)
    case atStart => exact ⟨0, _, _, Nat.zero_le _, rfl, rfl, HO, HX2, Lib.hid ⟨A0.out, A1.out, A2.out⟩, HB2⟩
    case round =>
      obtain ⟨k, A3, c3, hk, rfl, rfl, ho, hbx, ha, hb⟩ := hrel
      obtain ⟨a0, a1, a2⟩ := ha.out
      clear HO HX2 A0 A1 A2 HB2
      by_cases hlt : k < n
      · obtain ⟨x, hx⟩ : ∃ x, l[k]? = some x := ⟨_, List.getElem?_eq_getElem (by have := HN.out; omega)⟩
        have hat := HVN.out.good.at hx
        have hgd := HVN.out.good k x hx
        have HS : Hid ((l.map flipN).take k ++ [(⟨x.i, flipI x.lo, flipI x.hi⟩ : Nd)] = (l.map flipN).take (k + 1)) := Lib.hid (take_map (f := flipN) hx)
        obtain ⟨b1, off, rfl, hb1, g0, g1, g2⟩ := H.out.nd hx
        replace g0 := cell_later hb.out g0
        replace g1 := cell_later hb.out g1
        replace g2 := cell_later hb.out g2
        obtain ⟨xi, xa, xb⟩ := x
        dsimp only at hat hgd g0 g1 g2 HS
        have HS1 := Lib.hid (fun w1 => c_l22Swap xa w1 (by omega) (by omega))
        have HS2 := Lib.hid (fun w1 => c_l22Swap xb w1 (by omega) (by omega))
        have hkn : (k : Int) < n := by omega
        have hlo := ho.out.lt
        have HLO := Lib.hid hlo
        have hbz := World.block_lt_of_cell? _ _ a0
        dsimp only at hbz
        have HLT : Hid (((l.map flipN).take k).length = k) := Lib.hid (by rw [List.length_take, List.length_map]; have := HN.out; omega)
        clear hat hgd hx ha hlo
        go_wp2_with (fail)
        generalize flipI xa = fa at *
        generalize flipI xb = fb at *
        refine wp_region_held_drew (S := (fun w' => w'.cell? ⟨w.heap.size, 1, none⟩ = some (.slice (some ⟨b1, off, none⟩) n c) ∧ (w'.cell? ⟨w.heap.size, 0, none⟩ = some (.int .i64 X) ∧ w'.cell? ⟨w.heap.size, 2, none⟩ = some (.int .i64 R)) ∧ w'.cell? ⟨b1, off + k * 3, none⟩ = some (.int .i64 xi) ∧ w'.cell? ⟨b1, off + k * 3 + 1, none⟩ = some (.int .i64 xa) ∧ w'.cell? ⟨b1, off + k * 3 + 2, none⟩ = some (.int .i64 xb))) (by kernel_rfl) ?_ (fun hHeld => ?_)
        · exact ⟨a1, ⟨a0, a2⟩, g0, g1, g2⟩
        refine rg_take (v := ?_) 0 rfl (by kernel_rfl) (by kernel_rfl) (by kernel_rfl) (fun _ _ _ h => h) (by kernel_rfl) ?_ (by assumption) ?_
        rotate_left
        · (intro w' hSw; (try dsimp only at hSw); go_simp; first | done | with_reducible rfl)
        simp only [Act.put, List.setIfInBounds_toArray, List.set_cons_zero, List.set_cons_succ]
        refine rg_take (v := ?_) 1 rfl (by kernel_rfl) (by kernel_rfl) (by kernel_rfl) (fun _ _ _ h => h) (by kernel_rfl) ?_ (by assumption) ?_
        rotate_left
        · (intro w' hSw; (try dsimp only at hSw); go_simp; first | done | with_reducible rfl)
        simp only [Act.put, List.setIfInBounds_toArray, List.set_cons_zero, List.set_cons_succ]
        refine rg_take (v := ?_) 2 rfl (by kernel_rfl) (by kernel_rfl) (by kernel_rfl) (fun _ _ _ h => h) (by kernel_rfl) ?_ (by assumption) ?_
        rotate_left
        · (intro w' hSw; (try dsimp only at hSw); go_simp; first | done | with_reducible rfl)
        simp only [Act.put, List.setIfInBounds_toArray, List.set_cons_zero, List.set_cons_succ]
        refine rg_take (v := ?_) 3 rfl (by kernel_rfl) (by kernel_rfl) (by kernel_rfl) (fun _ _ _ h => h) (by kernel_rfl) ?_ (by assumption) ?_
        rotate_left
        · (intro w' hSw; (try dsimp only at hSw); go_simp; first | done | with_reducible rfl)
        simp only [Act.put, List.setIfInBounds_toArray, List.set_cons_zero, List.set_cons_succ]
        refine rg_take (v := ?_) 4 rfl (by kernel_rfl) (by kernel_rfl) (by kernel_rfl) (fun _ _ _ h => h) (by kernel_rfl) ?_ (by assumption) ?_
        rotate_left
        · (intro w' hSw; (try dsimp only at hSw); go_simp; first | done | with_reducible rfl)
        simp only [Act.put, List.setIfInBounds_toArray, List.set_cons_zero, List.set_cons_succ]
        refine rg_take (v := ?_) 5 rfl (by kernel_rfl) (by kernel_rfl) (by kernel_rfl) (fun _ _ _ h => h) (by kernel_rfl) ?_ (by assumption) ?_
        rotate_left
        · (intro w' hSw; (try dsimp only at hSw); go_simp; first | done | with_reducible rfl)
        simp only [Act.put, List.setIfInBounds_toArray, List.set_cons_zero, List.set_cons_succ]
        refine rg_take (v := ?_) 6 rfl (by kernel_rfl) (by kernel_rfl) (by kernel_rfl) (fun _ _ _ h => h) (by kernel_rfl) ?_ (by assumption) ?_
        rotate_left
        · (intro w' hSw; (try dsimp only at hSw); go_simp; first | done | with_reducible rfl)
        simp only [Act.put, List.setIfInBounds_toArray, List.set_cons_zero, List.set_cons_succ]
        refine rg_take (v := ?_) 7 rfl (by kernel_rfl) (by kernel_rfl) (by kernel_rfl) (fun _ _ _ h => h) (by kernel_rfl) ?_ (by assumption) ?_
        rotate_left
        · (intro w' hSw; (try dsimp only at hSw); go_simp; first | done | with_reducible rfl)
        simp only [Act.put, List.setIfInBounds_toArray, List.set_cons_zero, List.set_cons_succ]
        refine rg_take (v := ?_) 8 rfl (by kernel_rfl) (by kernel_rfl) (by kernel_rfl) (fun _ _ _ h => h) (by kernel_rfl) ?_ (by assumption) ?_
        rotate_left
        · (intro w' hSw; (try dsimp only at hSw); go_simp; first | done | with_reducible rfl)
        simp only [Act.put, List.setIfInBounds_toArray, List.set_cons_zero, List.set_cons_succ]
        refine rg_take (v := ?_) 9 rfl (by kernel_rfl) (by kernel_rfl) (by kernel_rfl) (fun _ _ _ h => h) (by kernel_rfl) ?_ (by assumption) ?_
        rotate_left
        · (intro w' hSw; (try dsimp only at hSw); go_simp; first | done | with_reducible rfl)
        simp only [Act.put, List.setIfInBounds_toArray, List.set_cons_zero, List.set_cons_succ]
        refine rg_take (v := ?_) 10 rfl (by kernel_rfl) (by kernel_rfl) (by kernel_rfl) (fun _ _ _ h => h) (by kernel_rfl) ?_ (by assumption) ?_
        rotate_left
        · (intro w' hSw; (try dsimp only at hSw); go_simp; first | done | with_reducible rfl)
        simp only [Act.put, List.setIfInBounds_toArray, List.set_cons_zero, List.set_cons_succ]
        refine rg_take (v := ?_) 11 rfl (by kernel_rfl) (by kernel_rfl) (by kernel_rfl) (fun _ _ _ h => h) (by kernel_rfl) ?_ (by assumption) ?_
        rotate_left
        · (intro w' hSw; (try dsimp only at hSw); go_simp; first | done | with_reducible rfl)
        simp only [Act.put, List.setIfInBounds_toArray, List.set_cons_zero, List.set_cons_succ]
        refine rg_take (v := ?_) 12 rfl (by kernel_rfl) (by kernel_rfl) (by kernel_rfl) (fun _ _ _ h => h) (by kernel_rfl) ?_ (by assumption) ?_
        rotate_left
        · (intro w' hSw; (try dsimp only at hSw); go_simp; first | done | with_reducible rfl)
        simp only [Act.put, List.setIfInBounds_toArray, List.set_cons_zero, List.set_cons_succ]
        refine rg_take (v := ?_) 14 rfl (by kernel_rfl) (by kernel_rfl) (by kernel_rfl) (fun _ _ _ h => h) (by kernel_rfl) ?_ (by assumption) ?_
        rotate_left
        · (intro w' hSw; (try dsimp only at hSw); go_simp; first | done | with_reducible rfl)
        simp only [Act.put, List.setIfInBounds_toArray, List.set_cons_zero, List.set_cons_succ]
        refine rg_take (v := ?_) 15 rfl (by kernel_rfl) (by kernel_rfl) (by kernel_rfl) (fun _ _ _ h => h) (by kernel_rfl) ?_ (by assumption) ?_
        rotate_left
        · (intro w' hSw; (try dsimp only at hSw); go_simp; first | done | with_reducible rfl)
        simp only [Act.put, List.setIfInBounds_toArray, List.set_cons_zero, List.set_cons_succ]
        refine rg_take (v := ?_) 16 rfl (by kernel_rfl) (by kernel_rfl) (by kernel_rfl) (fun _ _ _ h => h) (by kernel_rfl) ?_ (by assumption) ?_
        rotate_left
        · (intro w' hSw; (try dsimp only at hSw); go_simp; first | done | with_reducible rfl)
        simp only [Act.put, List.setIfInBounds_toArray, List.set_cons_zero, List.set_cons_succ]
        refine rg_take (v := ?_) 17 rfl (by kernel_rfl) (by kernel_rfl) (by kernel_rfl) (fun _ _ _ h => h) (by kernel_rfl) ?_ (by assumption) ?_
        rotate_left
        · (intro w' hSw; (try dsimp only at hSw); go_simp; first | done | with_reducible rfl)
        simp only [Act.put, List.setIfInBounds_toArray, List.set_cons_zero, List.set_cons_succ]
        refine rg_take (v := ?_) 18 rfl (by kernel_rfl) (by kernel_rfl) (by kernel_rfl) (fun _ _ _ h => h) (by kernel_rfl) ?_ (by assumption) ?_
        rotate_left
        · (intro w' hSw; (try dsimp only at hSw); go_simp; first | done | with_reducible rfl)
        simp only [Act.put, List.setIfInBounds_toArray, List.set_cons_zero, List.set_cons_succ]
        refine rg_take (v := ?_) 19 rfl (by kernel_rfl) (by kernel_rfl) (by kernel_rfl) (fun _ _ _ h => h) (by kernel_rfl) ?_ (by assumption) ?_
        rotate_left
        · (intro w' hSw; (try dsimp only at hSw); go_simp; first | done | with_reducible rfl)
        simp only [Act.put, List.setIfInBounds_toArray, List.set_cons_zero, List.set_cons_succ]
        refine rg_run 13 rfl (by kernel_rfl) (by kernel_rfl) (fun K hK => ?_)
        go_simp
        refine (HS1.out _).mono ?_
        rintro e w2 ⟨rfl, rfl⟩
        go_wp2
        clear hHeld
        refine hK.out _ _ (by exact ⟨a1, ⟨a0, a2⟩, g0, g1, g2⟩) (fun hHeld => ?_)
        clear hK K
        try simp only [Act.put, List.setIfInBounds_toArray, List.set_cons_zero, List.set_cons_succ]
        refine rg_run 20 rfl (by kernel_rfl) (by kernel_rfl) (fun K hK => ?_)
        go_simp
        refine (HS2.out _).mono ?_
        rintro e w2 ⟨rfl, rfl⟩
        go_wp2
        clear hHeld
        refine hK.out _ _ (by exact ⟨a1, ⟨a0, a2⟩, g0, g1, g2⟩) (fun hHeld => ?_)
        clear hK K
        try simp only [Act.put, List.setIfInBounds_toArray, List.set_cons_zero, List.set_cons_succ]
        refine rg_take (v := ?_) 21 rfl (by kernel_rfl) (by kernel_rfl) (by kernel_rfl) (fun _ _ _ h => h) (by kernel_rfl) ?_ (by assumption) ?_
        rotate_left
        · (intro w' hSw; (try dsimp only at hSw); go_simp; first | done | with_reducible rfl)
        simp only [Act.put, List.setIfInBounds_toArray, List.set_cons_zero, List.set_cons_succ]
        refine rg_run 22 rfl (by kernel_rfl) (by kernel_rfl) (fun K hK => ?_)
        go_simp
        go_wp2
        have hal := below_alloc (Below.refl wr.heap.size wr) (.cells #[.int .i64 xi, .int .i64 fa, .int .i64 fb] 57)
        replace a1 := cell_later hal (by exact a1)
        replace a0 := cell_later hal (by exact a0)
        replace a2 := cell_later hal (by exact a2)
        replace g0 := cell_later hal (by exact g0)
        replace g1 := cell_later hal (by exact g1)
        replace g2 := cell_later hal (by exact g2)
        have HOW := Lib.hid (own_below (by exact ho.out) hal)
        have HXW := Lib.hid (own_below (by exact hbx.out) hal)
        have HBW := Lib.hid (below_chain (by exact hb.out) hal)
        have z0 : (wr.alloc (.cells #[.int .i64 xi, .int .i64 fa, .int .i64 fb] 57)).cell? ⟨wr.heap.size, 0, none⟩ = some (.int .i64 xi) := by go_simp
        have z1 : (wr.alloc (.cells #[.int .i64 xi, .int .i64 fa, .int .i64 fb] 57)).cell? ⟨wr.heap.size, 1, none⟩ = some (.int .i64 fa) := by go_simp
        have z2 : (wr.alloc (.cells #[.int .i64 xi, .int .i64 fa, .int .i64 fb] 57)).cell? ⟨wr.heap.size, 2, none⟩ = some (.int .i64 fb) := by go_simp
        have hbs : w.heap.size + 1 ≤ (wr.alloc (.cells #[.int .i64 xi, .int .i64 fa, .int .i64 fb] 57)).heap.size := by simp; omega
        clear hal ho hbx hb
        generalize wr.alloc (.cells #[.int .i64 xi, .int .i64 fa, .int .i64 fb] 57) = W5 at *
        generalize wr.heap.size = gx at *
        clear hHeld
        refine hK.out _ _ (by exact ⟨a1, ⟨a0, a2⟩, g0, g1, g2⟩) (fun hHeld => ?_)
        clear hK K
        try simp only [Act.put, List.setIfInBounds_toArray, List.set_cons_zero, List.set_cons_succ]
        refine rg_run 23 rfl (by kernel_rfl) (by kernel_rfl) (fun K hK => ?_)
        refine wp_push_nd2 W5.drew (.tmp 18) (.tmp 40) rfl (w.heap.size + 1) (.slice A3 k c3) k ((l.map flipN).take k) ⟨xi, fa, fb⟩ gx 1 rfl (by exact HOW.out) rfl z0 z1 z2 (by omega) hbs ?_
        intro v6 w6 ho hg
        have hlo := HOW.out.lt
        have HX6 := Lib.hid ((own_drew HXW.out).kept hg (.inr (fun e => own_ne HXW.out HOW.out (by decide) _ rfl e.symm)))
        have HO6 := Lib.hid ho
        have HB6 := Lib.hid (below_of_grown (show Below w.heap.size w W5.drew from HBW.out.drew) hg (fun q hq => by have := hlo q hq; omega))
        obtain ⟨A6, c6, rfl⟩ := own_shape ho
        replace a1 := cell_mark (by exact a1) hg (fun q hq => by have := hlo q hq; dsimp only; omega)
        replace a0 := cell_mark (by exact a0) hg (fun q hq => by have := hlo q hq; dsimp only; omega)
        replace a2 := cell_mark (by exact a2) hg (fun q hq => by have := hlo q hq; dsimp only; omega)
        replace g0 := cell_mark (by exact g0) hg (fun q hq => by have := hlo q hq; dsimp only; omega)
        replace g1 := cell_mark (by exact g1) hg (fun q hq => by have := hlo q hq; dsimp only; omega)
        replace g2 := cell_mark (by exact g2) hg (fun q hq => by have := hlo q hq; dsimp only; omega)
        clear ho hg hlo HOW HXW HBW
        clear hHeld
        refine hK.out _ _ (by exact ⟨a1, ⟨a0, a2⟩, g0, g1, g2⟩) (fun hHeld => ?_)
        clear hK K
        try simp only [Act.put, List.setIfInBounds_toArray, List.set_cons_zero, List.set_cons_succ]
        refine rg_take (v := ?_) 24 rfl (by kernel_rfl) (by kernel_rfl) (by kernel_rfl) (fun _ _ _ h => h) (by kernel_rfl) ?_ (by assumption) ?_
        rotate_left
        · (intro w' hSw; (try dsimp only at hSw); go_simp; first | done | with_reducible rfl)
        simp only [Act.put, List.setIfInBounds_toArray, List.set_cons_zero, List.set_cons_succ]
        refine wpAnyH_done (by kernel_rfl) ?_ _
        clear hHeld
        go_wp2_with (fail)
        go_roundw
        case rel => exact ⟨k + 1, A6, c6, by omega, by go_num, rfl, Lib.hid (by rw [← HS.out]; exact HO6.out), HX6, Lib.hid ⟨a0, a1, a2⟩, HB6⟩
        case measure => simp [intOf]; omega
      · obtain rfl : k = n := by omega
        have HL : Hid ((l.map flipN).take k = l.map flipN) := Lib.hid (List.take_of_length_le (by rw [List.length_map]; have := HN.out; omega))
        have hso := ho.out
        rw [HL.out] at hso
        have hlk : (l.map flipN).length = k := by rw [List.length_map]; exact HN.out.symm
        have hso2 := own_mono hso (base' := w.heap.size) (by omega)
        rw [← hlk] at hso2
        obtain ⟨WF, hWF, r0, r1, r2, r3⟩ := set3_ret hbx.out hb.out hso2 X (flipI R)
        rw [hlk] at hWF r1 r3
        have HF := Lib.hid hWF
        have R3 := Lib.hid r3
        have p0 := hbx.out.cellAt 0 (by decide)
        have p1 := hbx.out.cellAt 1 (by decide)
        have p2 := hbx.out.cellAt 2 (by decide)
        simp only [List.getElem?_cons_zero, List.getElem?_cons_succ] at p0 p1 p2
        have f0 := hbx.out.frozenAt 0
        have f1 := hbx.out.frozenAt 1
        have f2 := hbx.out.frozenAt 2
        have HS1 := Lib.hid (fun w1 => c_l22Swap R w1 (by omega) (by omega))
        have hbz := World.block_lt_of_cell? _ _ a0
        dsimp only at hbz
        have s0 : WF.cell? ⟨w.heap.size, 0, none⟩ = some (.int .i64 X) := by rw [hWF]; go_simp
        have s2 : WF.cell? ⟨w.heap.size, 2, none⟩ = some (.int .i64 R) := by rw [hWF]; go_simp
        clear hso hlk hso2 hWF r3 HL ha
        go_wp2_with (fail)
        generalize flipI R = fR at *
        refine wp_region_held_drew (S := (fun w' => (w'.cell? ⟨w.heap.size, 0, none⟩ = some (.int .i64 X) ∧ w'.cell? ⟨w.heap.size, 2, none⟩ = some (.int .i64 R)))) (by kernel_rfl) ?_ (fun hHeld => ?_)
        · exact ⟨a0, a2⟩
        refine rg_take (v := ?_) 0 rfl (by kernel_rfl) (by kernel_rfl) (by kernel_rfl) (fun _ _ _ h => h) (by kernel_rfl) ?_ (by assumption) ?_
        rotate_left
        · (intro w' hSw; (try dsimp only at hSw); go_simp; first | done | with_reducible rfl)
        simp only [Act.put, List.setIfInBounds_toArray, List.set_cons_zero, List.set_cons_succ]
        refine rg_take (v := ?_) 1 rfl (by kernel_rfl) (by kernel_rfl) (by kernel_rfl) (fun _ _ _ h => h) (by kernel_rfl) ?_ (by assumption) ?_
        rotate_left
        · (intro w' hSw; (try dsimp only at hSw); go_simp; first | done | with_reducible rfl)
        simp only [Act.put, List.setIfInBounds_toArray, List.set_cons_zero, List.set_cons_succ]
        refine rg_take (v := ?_) 2 rfl (by kernel_rfl) (by kernel_rfl) (by kernel_rfl) (fun _ _ _ h => h) (by kernel_rfl) ?_ (by assumption) ?_
        rotate_left
        · (intro w' hSw; (try dsimp only at hSw); go_simp; first | done | with_reducible rfl)
        simp only [Act.put, List.setIfInBounds_toArray, List.set_cons_zero, List.set_cons_succ]
        refine rg_take (v := ?_) 3 rfl (by kernel_rfl) (by kernel_rfl) (by kernel_rfl) (fun _ _ _ h => h) (by kernel_rfl) ?_ (by assumption) ?_
        rotate_left
        · (intro w' hSw; (try dsimp only at hSw); go_simp; first | done | with_reducible rfl)
        simp only [Act.put, List.setIfInBounds_toArray, List.set_cons_zero, List.set_cons_succ]
        refine rg_take (v := ?_) 4 rfl (by kernel_rfl) (by kernel_rfl) (by kernel_rfl) (fun _ _ _ h => h) (by kernel_rfl) ?_ (by assumption) ?_
        rotate_left
        · (intro w' hSw; (try dsimp only at hSw); go_simp; first | done | with_reducible rfl)
        simp only [Act.put, List.setIfInBounds_toArray, List.set_cons_zero, List.set_cons_succ]
        refine rg_run 5 rfl (by kernel_rfl) (by kernel_rfl) (fun K hK => ?_)
        go_simp
        refine (HS1.out _).mono ?_
        rintro e w2 ⟨rfl, rfl⟩
        go_wp2
        clear hHeld
        refine hK.out _ _ (by exact ⟨a0, a2⟩) (fun hHeld => ?_)
        clear hK K
        try simp only [Act.put, List.setIfInBounds_toArray, List.set_cons_zero, List.set_cons_succ]
        refine rg_take (v := ?_) 6 rfl (by kernel_rfl) (by kernel_rfl) (by kernel_rfl) (fun _ _ _ h => h) (by kernel_rfl) ?_ (by assumption) ?_
        rotate_left
        · (intro w' hSw; (try dsimp only at hSw); go_simp; first | done | with_reducible rfl)
        simp only [Act.put, List.setIfInBounds_toArray, List.set_cons_zero, List.set_cons_succ]
        refine rg_run 7 rfl (by kernel_rfl) (by kernel_rfl) (fun K hK => ?_)
        go_simp
        rw [← HF.out]
        clear hHeld
        refine hK.out _ _ (by exact ⟨s0, s2⟩) (fun hHeld => ?_)
        clear hK K
        try simp only [Act.put, List.setIfInBounds_toArray, List.set_cons_zero, List.set_cons_succ]
        refine rg_take (v := ?_) 8 rfl (by kernel_rfl) (by kernel_rfl) (by kernel_rfl) (fun _ _ _ h => h) (by kernel_rfl) ?_ (by assumption) ?_
        rotate_left
        · (intro w' hSw; (try dsimp only at hSw); go_simp; first | done | with_reducible rfl)
        simp only [Act.put, List.setIfInBounds_toArray, List.set_cons_zero, List.set_cons_succ]
        refine wpAnyH_done (by kernel_rfl) ?_ _
        clear hHeld
        clear a0 a1 a2 p0 p1 p2 f0 f1 f2 s0 s2
        go_wp2_with (fail)
        refine bodyPost_ret (v := .tuple #[.agg #[.int .i64 X, .slice A3 k c3, .int .i64 fR], .int .i64 0]) (by simp [results, Try.results24, go_sem, r0, r1, r2]) rfl (by obtain ⟨v1, v2, v3, v4⟩ := HV.out; rw [v1, v2, v3, v4]; exact (R3.out 0).drew)
end Go.Proofs.Ytndihacmlkgkbaa
