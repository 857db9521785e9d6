/- Contract of the program's NotDiagram. Condition: the size; a nil list has no room. -/
import Derived.Test.YtndihacmlkgkbaaDgAp
namespace Go.Proofs.Ytndihacmlkgkbaa
open Go.RowKit

theorem own_none {w : World} {base : Nat} {e : TypeId} {size n c : Nat} {A : Option Addr} {xs : List Value} (h : w.ownsRow base e size (.slice A n c) n xs) (hA : A = none) : n = 0 ∧ c = 0 := by
  subst hA
  rcases h.2 with ⟨hv, hn⟩ | ⟨g, cap, cur, hv, _⟩
  · simp only [Value.slice.injEq, true_and] at hv
    exact hv
  · simp at hv
theorem notL_len (X R : Int) (l : List Nd) : (notL X l R).length ≤ 1048576 := by
  unfold notL
  split
  · rename_i h
    have := (isD_VN h).1.n
    rw [List.length_map]
    omega
  · simp
def NotB (w wx : World) (base n : Nat) (l : List Nd) (X R : Int) (bx : Nat) (A1 : Option Addr) (c1 : Nat) : Prop :=
  wx.ownsRow base 29 3 (.slice (some ⟨bx, 0, none⟩) 1 1) 1 [.int .i64 X, .slice A1 n c1, .int .i64 R] ∧ wx.ownsRow base 57 3 (.slice A1 n c1) n (ndCells l) ∧
  wx.ownsRow w.heap.size 29 3 (.slice (some ⟨w.heap.size + 1, 0, none⟩) 1 1) 1 [.int .i64 0, .slice none 0 0, .int .i64 0] ∧ Below w.heap.size w wx
def NotZ (w wx : World) (base n : Nat) (l : List Nd) (bx : Nat) (A1 : Option Addr) (c1 : Nat) : Prop :=
  wx.ownsRow base 29 3 (.slice (some ⟨bx, 0, none⟩) 1 1) 1 [.int .i64 0, .slice none 0 0, .int .i64 0] ∧ wx.ownsRow base 57 3 (.slice A1 n c1) n (ndCells l) ∧
  wx.ownsRow w.heap.size 29 3 (.slice (some ⟨w.heap.size + 1, 0, none⟩) 1 1) 1 [.int .i64 0, .slice none 0 0, .int .i64 0] ∧ Below w.heap.size w wx ∧ w.heap.size + 1 < base
theorem NotZ.set {w W : World} {base n bx c1 : Nat} {l : List Nd} {A1 : Option Addr} (h : NotZ w W base n l bx A1 c1) (X R : Int) :
    NotB w (((W.setCell ⟨bx, 0, none⟩ (.int .i64 X)).setCell ⟨bx, 1, none⟩ (.slice A1 n c1)).setCell ⟨bx, 2, none⟩ (.int .i64 R)) base n l X R bx A1 c1 := by
  obtain ⟨hD, hR, hX, hB, hb⟩ := h
  have h0 := hD.stored 0 (.int .i64 X)
  have h1 := h0.1.stored 1 (.slice A1 n c1)
  have h2 := h1.1.stored 2 (.int .i64 R)
  have hbx : base ≤ bx := (own_ge hD).1
  have r0 := hR.kept h0.2 (.inr (fun e => own_ne hD hR (by decide) bx rfl e))
  have r1 := r0.kept h1.2 (.inr (fun e => own_ne h0.1 r0 (by decide) bx rfl e))
  have r2 := r1.kept h2.2 (.inr (fun e => own_ne h1.1 r1 (by decide) bx rfl e))
  have hne : (Value.slice (some ⟨w.heap.size + 1, 0, none⟩) 1 1).ownBlock ≠ some bx := by
    intro e
    simp [Value.ownBlock] at e
    omega
  have x0 := hX.kept h0.2 (.inr hne)
  have x1 := x0.kept h1.2 (.inr hne)
  have x2 := x1.kept h2.2 (.inr hne)
  exact ⟨h2.1, r2, x2, below_set (below_set (below_set hB _ (by dsimp only; omega)) _ (by dsimp only; omega)) _ (by dsimp only; omega)⟩
theorem NotZ.cells {w W : World} {base n bx c1 : Nat} {l : List Nd} {A1 : Option Addr} (h : NotZ w W base n l bx A1 c1) :
    W.cell? ⟨bx, 0, none⟩ = some (.int .i64 0) ∧ W.cell? ⟨bx, 1, none⟩ = some (.slice none 0 0) ∧ W.cell? ⟨bx, 2, none⟩ = some (.int .i64 0) ∧ W.frozen? ⟨bx, 0, none⟩ = false ∧ W.frozen? ⟨bx, 1, none⟩ = false ∧ W.frozen? ⟨bx, 2, none⟩ = false := by
  have p0 := h.1.cellAt 0 (by decide)
  have p1 := h.1.cellAt 1 (by decide)
  have p2 := h.1.cellAt 2 (by decide)
  simp only [List.getElem?_cons_zero, List.getElem?_cons_succ] at p0 p1 p2
  exact ⟨p0, p1, p2, h.1.frozenAt 0, h.1.frozenAt 1, h.1.frozenAt 2⟩
theorem NotB.drew {w W : World} {base n bx c1 : Nat} {l : List Nd} {X R : Int} {A1 : Option Addr} (h : NotB w W base n l X R bx A1 c1) : NotB w W.drew base n l X R bx A1 c1 := ⟨own_drew h.1, own_drew h.2.1, own_drew h.2.2.1, h.2.2.2.drew⟩
theorem NotB.below {w W W' : World} {base n bx c1 : Nat} {l : List Nd} {X R : Int} {A1 : Option Addr} (h : NotB w W base n l X R bx A1 c1) (hb : Below W.heap.size W W') : NotB w W' base n l X R bx A1 c1 :=
  ⟨own_below h.1 hb, own_below h.2.1 hb, own_below h.2.2.1 hb, below_chain h.2.2.2 hb⟩
theorem NotB.put {w W : World} {base n bx c1 g k : Nat} {l : List Nd} {X R fa fb : Int} {l' : List Nd} (h : NotB w W base n l X R bx (some ⟨g, 0, none⟩) c1) (hbs : w.heap.size + 1 < base) (hst : ((ndCells l).set (k * 3 + 1) (.int .i64 fa)).set (k * 3 + 2) (.int .i64 fb) = ndCells l') :
    NotB w ((W.setCell ⟨g, k * 3 + 1, none⟩ (.int .i64 fa)).setCell ⟨g, k * 3 + 2, none⟩ (.int .i64 fb)) base n l' X R bx (some ⟨g, 0, none⟩) c1 := by
  obtain ⟨hD, hR, hX, hB⟩ := h
  have hg := (own_ge hR).1
  have h0 := hR.stored (k * 3 + 1) (.int .i64 fa)
  have h1 := h0.1.stored (k * 3 + 2) (.int .i64 fb)
  have d0 := hD.kept h0.2 (.inr (fun e => own_ne hD hR (by decide) g e rfl))
  have d1 := d0.kept h1.2 (.inr (fun e => own_ne d0 h0.1 (by decide) g e rfl))
  have x0 := hX.kept h0.2 (.inr (fun e => own_ne hX hR (by decide) g e rfl))
  have x1 := x0.kept h1.2 (.inr (fun e => own_ne x0 h0.1 (by decide) g e rfl))
  exact ⟨d1, by rw [← hst]; exact h1.1, x1, below_set (below_set hB _ (by dsimp only; omega)) _ (by dsimp only; omega)⟩
set_option maxHeartbeats 1000000 in
set_option maxRecDepth 100000 in
theorem c_NotDiagram (X R : Int) (A : Option Addr) (c n : Nat) (l : List Nd) (w : World) (hn : n = l.length) (hs : n ≤ 1099511627000) (hr : Rd w A (ndCells l)) (hA : A = none → n = 0 ∧ c = 0) :
    Calls Try.prog 25 #[.agg #[.int .i64 X, .slice A n c, .int .i64 R]] w (RetDC (notX X l R) (notL X l R) (notR X l R) (errD X l R) w) := by
  have a0 : ((w.alloc (.cells #[.int .i64 X, .slice A n c, .int .i64 R] 29)).alloc (.cells #[.int .i64 0, .slice none 0 0, .int .i64 0] 29)).cell? ⟨w.heap.size, 0, none⟩ = some (.int .i64 X) := by go_simp
  have a1 : ((w.alloc (.cells #[.int .i64 X, .slice A n c, .int .i64 R] 29)).alloc (.cells #[.int .i64 0, .slice none 0 0, .int .i64 0] 29)).cell? ⟨w.heap.size, 1, none⟩ = some (.slice A n c) := by go_simp
  have a2 : ((w.alloc (.cells #[.int .i64 X, .slice A n c, .int .i64 R] 29)).alloc (.cells #[.int .i64 0, .slice none 0 0, .int .i64 0] 29)).cell? ⟨w.heap.size, 2, none⟩ = some (.int .i64 R) := by go_simp
  have HX : Hid (((w.alloc (.cells #[.int .i64 X, .slice A n c, .int .i64 R] 29)).alloc (.cells #[.int .i64 0, .slice none 0 0, .int .i64 0] 29)).ownsRow w.heap.size 29 3 (.slice (some ⟨w.heap.size + 1, 0, none⟩) 1 1) 1 [.int .i64 0, .slice none 0 0, .int .i64 0]) := Lib.hid (by
    have h := own_box (w.alloc (.cells #[.int .i64 X, .slice A n c, .int .i64 R] 29)) w.heap.size 29 [.int .i64 0, .slice none 0 0, .int .i64 0] 3 rfl (by simp)
    simpa using h)
  have HB := Lib.hid (below_alloc (below_alloc (Below.refl w.heap.size w) (.cells #[.int .i64 X, .slice A n c, .int .i64 R] 29)) (.cells #[.int .i64 0, .slice none 0 0, .int .i64 0] 29))
  have HI := Lib.hid (fun w1 h => c_IsDiagram X R A c n l w1 hn hs h)
  have H := Lib.hid hr
  have HN := Lib.hid hn
  have HA := Lib.hid hA
  clear hn hr hA
  go_enter Try.func25, Try.ntmps25
  go_wp2_with (fail)
  refine (HI.out _ (H.out.below HB.out)).mono ?_
  rintro e w1 ⟨rfl, hb⟩
  replace a0 := cell_later hb a0
  replace a1 := cell_later hb a1
  replace a2 := cell_later hb a2
  have HB1 := Lib.hid (below_chain HB.out hb)
  have HX1 := Lib.hid (own_below HX.out hb)
  clear hb HI HB HX
  rcases hd : isD X l R with _ | _
  · have HV : Hid (notX X l R = 0 ∧ notL X l R = [] ∧ notR X l R = 0 ∧ errD X l R = 1) := Lib.hid (by unfold notX notL notR errD; rw [hd]; exact ⟨rfl, rfl, rfl, rfl⟩)
    have p0 := HX1.out.cellAt 0 (by decide)
    have p1 := HX1.out.cellAt 1 (by decide)
    have p2 := HX1.out.cellAt 2 (by decide)
    simp only [List.getElem?_cons_zero, List.getElem?_cons_succ] at p0 p1 p2
    have f0 := HX1.out.frozenAt 0
    have f1 := HX1.out.frozenAt 1
    have f2 := HX1.out.frozenAt 2
    obtain ⟨WF, hWF, r0, r1, r2, r3⟩ := set3_ret HX1.out HB1.out (l := []) (own_nil _ _ _ _) 0 0
    have HF := Lib.hid hWF
    have R3 := Lib.hid r3
    clear hd hWF r3
    go_wp2_with (fail)
    clear p0 p1 p2 f0 f1 f2
    have e := HF.out
    simp only [List.length_nil] at e
    rw [← e]
    clear e
    refine bodyPost_ret (v := .tuple #[.agg #[.int .i64 0, .slice none 0 0, .int .i64 0], .int .i64 1]) (by simp [results, Try.results25, go_sem, r0, r1, r2]) rfl (by obtain ⟨v1, v2, v3, v4⟩ := HV.out; rw [v1, v2, v3, v4]; exact R3.out 1)
  · have HD := Lib.hid hd
    clear hd
    have HV : Hid (notX X l R = X ∧ notL X l R = l.map flipN ∧ notR X l R = flipI R ∧ errD X l R = 0) := Lib.hid (by unfold notX notL notR errD; rw [HD.out]; exact ⟨rfl, rfl, rfl, rfl⟩)
    obtain ⟨hv, hR0, hR1, _, _⟩ := isD_VN HD.out
    have HVN := Lib.hid hv
    rw [← HN.out] at hR1
    have hln := hv.n
    rw [← HN.out] at hln
    have HS1 := Lib.hid (fun w1 => c_flipped R w1 (by omega) (by omega))
    have HCL := Lib.hid (fun w1 h => c_CloneNd A c n l w1 HN.out (by omega) h HA.out)
    have hbl1 : w.heap.size + 1 < w1.heap.size := (HX1.out.lt _ rfl).2
    clear hv
    go_upto_region 3 with (fail)
    go_cut [4] from 11 to 19 (fun v wx => ∃ bx A1 c1, v = .pointer (some ⟨bx, 0, none⟩) ∧ Hid (NotB w wx w1.heap.size n l X (flipI R) bx A1 c1))
    case first =>
      generalize flipI R = fR at *
      refine wp_region_heldE 10 (S := (fun w' => w'.cell? ⟨w.heap.size, 0, none⟩ = some (.int .i64 X) ∧ w'.cell? ⟨w.heap.size, 1, none⟩ = some (.slice A n c) ∧ w'.cell? ⟨w.heap.size, 2, none⟩ = some (.int .i64 R))) (by kernel_rfl) ?_ (fun hHeld => ?_)
      · exact ⟨a0, a1, a2⟩
      refine rgE_take (v := ?_) 0 12 rfl (by kernel_rfl) (by kernel_rfl) (by kernel_rfl) (by kernel_rfl) (by kernel_rfl) (fun _ _ _ h => h) (by kernel_rfl) ?_ (by assumption) ?_
      rotate_left
      · (intro w' hSw; (try dsimp only at hSw); go_simp; first | done | with_reducible rfl)
      simp only [Act.put, List.setIfInBounds_toArray, List.set_cons_zero, List.set_cons_succ]
      refine rgE_take (v := ?_) 1 12 rfl (by kernel_rfl) (by kernel_rfl) (by kernel_rfl) (by kernel_rfl) (by kernel_rfl) (fun _ _ _ h => h) (by kernel_rfl) ?_ (by assumption) ?_
      rotate_left
      · (intro w' hSw; (try dsimp only at hSw); go_simp; first | done | with_reducible rfl)
      simp only [Act.put, List.setIfInBounds_toArray, List.set_cons_zero, List.set_cons_succ]
      refine rgE_take (v := ?_) 2 12 rfl (by kernel_rfl) (by kernel_rfl) (by kernel_rfl) (by kernel_rfl) (by kernel_rfl) (fun _ _ _ h => h) (by kernel_rfl) ?_ (by assumption) ?_
      rotate_left
      · (intro w' hSw; (try dsimp only at hSw); go_simp; first | done | with_reducible rfl)
      simp only [Act.put, List.setIfInBounds_toArray, List.set_cons_zero, List.set_cons_succ]
      refine rgE_take (v := ?_) 3 12 rfl (by kernel_rfl) (by kernel_rfl) (by kernel_rfl) (by kernel_rfl) (by kernel_rfl) (fun _ _ _ h => h) (by kernel_rfl) ?_ (by assumption) ?_
      rotate_left
      · (intro w' hSw; (try dsimp only at hSw); go_simp; first | done | with_reducible rfl)
      simp only [Act.put, List.setIfInBounds_toArray, List.set_cons_zero, List.set_cons_succ]
      refine rgE_take (v := ?_) 5 12 rfl (by kernel_rfl) (by kernel_rfl) (by kernel_rfl) (by kernel_rfl) (by kernel_rfl) (fun _ _ _ h => h) (by kernel_rfl) ?_ (by assumption) ?_
      rotate_left
      · (intro w' hSw; (try dsimp only at hSw); go_simp; first | done | with_reducible rfl)
      simp only [Act.put, List.setIfInBounds_toArray, List.set_cons_zero, List.set_cons_succ]
      refine rgE_take (v := ?_) 6 12 rfl (by kernel_rfl) (by kernel_rfl) (by kernel_rfl) (by kernel_rfl) (by kernel_rfl) (fun _ _ _ h => h) (by kernel_rfl) ?_ (by assumption) ?_
      rotate_left
      · (intro w' hSw; (try dsimp only at hSw); go_simp; first | done | with_reducible rfl)
      simp only [Act.put, List.setIfInBounds_toArray, List.set_cons_zero, List.set_cons_succ]
      refine rgE_two 4 9 rfl rfl (by kernel_rfl) (by kernel_rfl) (by kernel_rfl) (by decide) (by decide) (fun K hK => ?_) (fun K hK => ?_)
      · go_simp
        refine (HCL.out _ (H.out.below (by exact HB1.out.drew))).mono ?_
        rintro e w2 ⟨A2, c2, rfl, ho, hb⟩
        replace a0 := cell_later hb (by exact a0)
        replace a1 := cell_later hb (by exact a1)
        replace a2 := cell_later hb (by exact a2)
        have HO2 := Lib.hid ho
        have HB2 := Lib.hid (below_chain (by exact HB1.out.drew) hb)
        have HX2 := Lib.hid (own_below (by exact HX1.out) hb)
        have hsz2 : w1.heap.size ≤ w2.heap.size := hb.size
        clear ho hb HB1 HX1
        go_wp2
        clear hHeld
        refine hK.out _ _ (.inr (by exact ⟨a0, a1, a2⟩)) (fun hHeld => ?_)
        clear hK K
        try simp only [Act.put, List.setIfInBounds_toArray, List.set_cons_zero, List.set_cons_succ]
        refine rgE_two 7 9 rfl rfl (by kernel_rfl) (by kernel_rfl) (by kernel_rfl) (by decide) (by decide) (fun K hK => ?_) (fun K hK => ?_)
        · go_simp
          refine (HS1.out _).mono ?_
          rintro e w3 ⟨rfl, rfl⟩
          go_wp2
          clear hHeld
          refine hK.out _ _ (.inr (by exact ⟨a0, a1, a2⟩)) (fun hHeld => ?_)
          clear hK K
          try simp only [Act.put, List.setIfInBounds_toArray, List.set_cons_zero, List.set_cons_succ]
          refine rgE_take (v := ?_) 8 12 rfl (by kernel_rfl) (by kernel_rfl) (by kernel_rfl) (by kernel_rfl) (by kernel_rfl) (fun _ _ _ h => h) (by kernel_rfl) ?_ (by assumption) ?_
          rotate_left
          · (intro w' hSw; (try dsimp only at hSw); go_simp; first | done | with_reducible rfl)
          simp only [Act.put, List.setIfInBounds_toArray, List.set_cons_zero, List.set_cons_succ]
          refine rgE_run 9 rfl (by kernel_rfl) (by kernel_rfl) (by decide) (fun K hK => ?_)
          go_simp
          have hal := below_alloc (Below.refl w2.heap.size w2) (.cells #[.int .i64 0, .slice none 0 0, .int .i64 0] 29)
          replace a0 := cell_later hal (by exact a0)
          replace a1 := cell_later hal (by exact a1)
          replace a2 := cell_later hal (by exact a2)
          have HZ : Hid (NotZ w (w2.alloc (.cells #[.int .i64 0, .slice none 0 0, .int .i64 0] 29)) w1.heap.size n l w2.heap.size A2 c2) := Lib.hid ⟨own_box w2 w1.heap.size 29 [.int .i64 0, .slice none 0 0, .int .i64 0] 3 rfl hsz2, own_below HO2.out hal, own_below HX2.out hal, below_chain HB2.out hal, hbl1⟩
          clear hal
          generalize w2.alloc (.cells #[.int .i64 0, .slice none 0 0, .int .i64 0] 29) = W9 at *
          generalize w2.heap.size = g9 at *
          clear hHeld
          refine hK.out _ _ (.inr (by exact ⟨a0, a1, a2⟩)) (fun hHeld => ?_)
          clear hK K
          try simp only [Act.put, List.setIfInBounds_toArray, List.set_cons_zero, List.set_cons_succ]
          obtain ⟨p0, p1, p2, f0, f1, f2⟩ := HZ.out.cells
          refine rgE_last rfl (by kernel_rfl) (by kernel_rfl) (by kernel_rfl) (fun K hK => ?_)
          go_simp
          go_simp
          clear hHeld
          refine hK.out _ _ ?_
          clear hK K
          try simp only [Act.put, List.setIfInBounds_toArray, List.set_cons_zero, List.set_cons_succ]
          go_wp2
          go_meet
          case rel => exact ⟨_, _, _, rfl, Lib.hid (by first | exact HZ.out.set X fR | exact (HZ.out.set X fR).drew)⟩
        · go_simp
          have hal := below_alloc (Below.refl w2.heap.size w2) (.cells #[.int .i64 0, .slice none 0 0, .int .i64 0] 29)
          replace a0 := cell_later hal (by exact a0)
          replace a1 := cell_later hal (by exact a1)
          replace a2 := cell_later hal (by exact a2)
          have HZ : Hid (NotZ w (w2.alloc (.cells #[.int .i64 0, .slice none 0 0, .int .i64 0] 29)) w1.heap.size n l w2.heap.size A2 c2) := Lib.hid ⟨own_box w2 w1.heap.size 29 [.int .i64 0, .slice none 0 0, .int .i64 0] 3 rfl hsz2, own_below HO2.out hal, own_below HX2.out hal, below_chain HB2.out hal, hbl1⟩
          clear hal
          generalize w2.alloc (.cells #[.int .i64 0, .slice none 0 0, .int .i64 0] 29) = W9 at *
          generalize w2.heap.size = g9 at *
          clear hHeld
          refine hK.out _ _ (.inr (by exact ⟨a0, a1, a2⟩)) (fun hHeld => ?_)
          clear hK K
          try simp only [Act.put, List.setIfInBounds_toArray, List.set_cons_zero, List.set_cons_succ]
          refine rgE_run 7 rfl (by kernel_rfl) (by kernel_rfl) (by decide) (fun K hK => ?_)
          go_simp
          refine (HS1.out _).mono ?_
          rintro e w3 ⟨rfl, rfl⟩
          go_wp2
          clear hHeld
          refine hK.out _ _ (.inr (by exact ⟨a0, a1, a2⟩)) (fun hHeld => ?_)
          clear hK K
          try simp only [Act.put, List.setIfInBounds_toArray, List.set_cons_zero, List.set_cons_succ]
          refine rgE_take (v := ?_) 8 12 rfl (by kernel_rfl) (by kernel_rfl) (by kernel_rfl) (by kernel_rfl) (by kernel_rfl) (fun _ _ _ h => h) (by kernel_rfl) ?_ (by assumption) ?_
          rotate_left
          · (intro w' hSw; (try dsimp only at hSw); go_simp; first | done | with_reducible rfl)
          simp only [Act.put, List.setIfInBounds_toArray, List.set_cons_zero, List.set_cons_succ]
          obtain ⟨p0, p1, p2, f0, f1, f2⟩ := HZ.out.cells
          refine rgE_last rfl (by kernel_rfl) (by kernel_rfl) (by kernel_rfl) (fun K hK => ?_)
          go_simp
          go_simp
          clear hHeld
          refine hK.out _ _ ?_
          clear hK K
          try simp only [Act.put, List.setIfInBounds_toArray, List.set_cons_zero, List.set_cons_succ]
          go_wp2
          go_meet
          case rel => exact ⟨_, _, _, rfl, Lib.hid (by first | exact HZ.out.set X fR | exact (HZ.out.set X fR).drew)⟩
      · go_simp
        have hal := below_alloc (Below.refl w1.heap.size w1) (.cells #[.int .i64 0, .slice none 0 0, .int .i64 0] 29)
        replace a0 := cell_later hal (by exact a0)
        replace a1 := cell_later hal (by exact a1)
        replace a2 := cell_later hal (by exact a2)
        have HD9 := Lib.hid (own_box w1 w1.heap.size 29 [.int .i64 0, .slice none 0 0, .int .i64 0] 3 rfl (Nat.le_refl _))
        have HX9 := Lib.hid (own_below HX1.out hal)
        have HB9 := Lib.hid (below_chain HB1.out hal)
        have hsz9 : w1.heap.size ≤ (w1.alloc (.cells #[.int .i64 0, .slice none 0 0, .int .i64 0] 29)).heap.size := by simp
        clear hal HB1 HX1
        dsimp only [List.toArray] at HD9
        generalize w1.alloc (.cells #[.int .i64 0, .slice none 0 0, .int .i64 0] 29) = W9 at *
        generalize w1.heap.size = g9 at *
        clear hHeld
        refine hK.out _ _ (.inr (by exact ⟨a0, a1, a2⟩)) (fun hHeld => ?_)
        clear hK K
        try simp only [Act.put, List.setIfInBounds_toArray, List.set_cons_zero, List.set_cons_succ]
        refine rgE_run 4 rfl (by kernel_rfl) (by kernel_rfl) (by decide) (fun K hK => ?_)
        go_simp
        refine (HCL.out _ (H.out.below (by first | exact HB9.out | exact HB9.out.drew))).mono ?_
        rintro e w2 ⟨A2, c2, rfl, ho, hb⟩
        replace a0 := cell_later hb (by exact a0)
        replace a1 := cell_later hb (by exact a1)
        replace a2 := cell_later hb (by exact a2)
        have HZ : Hid (NotZ w w2 g9 n l g9 A2 c2) := Lib.hid ⟨own_below (own_drew HD9.out) hb, own_mono ho hsz9, own_below (own_drew HX9.out) hb, below_chain (by first | exact HB9.out | exact HB9.out.drew) hb, hbl1⟩
        clear ho hb
        go_wp2
        clear hHeld
        refine hK.out _ _ (.inr (by exact ⟨a0, a1, a2⟩)) (fun hHeld => ?_)
        clear hK K
        try simp only [Act.put, List.setIfInBounds_toArray, List.set_cons_zero, List.set_cons_succ]
        refine rgE_run 7 rfl (by kernel_rfl) (by kernel_rfl) (by decide) (fun K hK => ?_)
        go_simp
        refine (HS1.out _).mono ?_
        rintro e w3 ⟨rfl, rfl⟩
        go_wp2
        clear hHeld
        refine hK.out _ _ (.inr (by exact ⟨a0, a1, a2⟩)) (fun hHeld => ?_)
        clear hK K
        try simp only [Act.put, List.setIfInBounds_toArray, List.set_cons_zero, List.set_cons_succ]
        refine rgE_take (v := ?_) 8 12 rfl (by kernel_rfl) (by kernel_rfl) (by kernel_rfl) (by kernel_rfl) (by kernel_rfl) (fun _ _ _ h => h) (by kernel_rfl) ?_ (by assumption) ?_
        rotate_left
        · (intro w' hSw; (try dsimp only at hSw); go_simp; first | done | with_reducible rfl)
        simp only [Act.put, List.setIfInBounds_toArray, List.set_cons_zero, List.set_cons_succ]
        obtain ⟨p0, p1, p2, f0, f1, f2⟩ := HZ.out.cells
        refine rgE_last rfl (by kernel_rfl) (by kernel_rfl) (by kernel_rfl) (fun K hK => ?_)
        go_simp
        go_simp
        clear hHeld
        refine hK.out _ _ ?_
        clear hK K
        try simp only [Act.put, List.setIfInBounds_toArray, List.set_cons_zero, List.set_cons_succ]
        go_wp2
        go_meet
        case rel => exact ⟨_, _, _, rfl, Lib.hid (by first | exact HZ.out.set X fR | exact (HZ.out.set X fR).drew)⟩
    case rest =>
      obtain ⟨bx, A1, c1, rfl, hnb⟩ := hcut
      have HNB := Lib.hid hnb.out
      have k0 := hnb.out.1.cellAt 0 (by decide)
      have k1 := hnb.out.1.cellAt 1 (by decide)
      have k2 := hnb.out.1.cellAt 2 (by decide)
      simp only [List.getElem?_cons_zero, List.getElem?_cons_succ] at k0 k1 k2
      clear hnb HX1 HB1 a0 a1 a2 HCL HS1
      go_wp2_with (fail)
      clear k0 k1 k2
      go_loopw [5, 6, 23] (fun _ _ u wr => ∃ k, k ≤ n ∧ u = .int .i64 (k : Nat) ∧ Hid (NotB w wr w1.heap.size n (notK l k) X (flipI R) bx A1 c1)) (fun _ _ u _ => n - (intOf u).toNat)
      case atStart => exact ⟨0, Nat.zero_le _, rfl, by rw [notK_zero]; exact HNB⟩
      case round =>
        obtain ⟨k, hk, rfl, hnb⟩ := hrel
        have k0 := hnb.out.1.cellAt 0 (by decide)
        have k1 := hnb.out.1.cellAt 1 (by decide)
        have k2 := hnb.out.1.cellAt 2 (by decide)
        simp only [List.getElem?_cons_zero, List.getElem?_cons_succ] at k0 k1 k2
        clear HNB
        by_cases hlt : k < n
        · obtain ⟨x, hx⟩ : ∃ x, l[k]? = some x := ⟨_, List.getElem?_eq_getElem (by have := HN.out; omega)⟩
          have hgd := HVN.out.good k x hx
          have hxk := notK_get hx
          have hst := notK_step hx
          obtain ⟨g, cap, hv, _⟩ := hnb.out.2.1.form (by omega)
          simp only [Value.slice.injEq, true_and] at hv
          obtain ⟨rfl, rfl⟩ := hv
          have g0 := (hnb.out.2.1.cellAt (k * 3) (by omega)).trans (ndCells_get (i := 0) (by omega) hxk)
          have g1 := (hnb.out.2.1.cellAt (k * 3 + 1) (by omega)).trans (ndCells_get (i := 1) (by omega) hxk)
          have g2 := (hnb.out.2.1.cellAt (k * 3 + 2) (by omega)).trans (ndCells_get (i := 2) (by omega) hxk)
          simp only [Nd.cells, List.getElem?_cons_zero, List.getElem?_cons_succ] at g0 g1 g2
          obtain ⟨xi, xa, xb⟩ := x
          dsimp only at hgd g0 g1 g2 hst
          have HS1 := Lib.hid (fun w1 => c_flipped xa w1 (by omega) (by omega))
          have HS2 := Lib.hid (fun w1 => c_flipped xb w1 (by omega) (by omega))
          have hkn : (k : Int) < n := by omega
          have HST := Lib.hid hst
          have hal := below_alloc (Below.refl wr.heap.size wr) (.cells #[.int .i64 xi, .int .i64 xa, .int .i64 xb] 57)
          have y1 : (wr.alloc (.cells #[.int .i64 xi, .int .i64 xa, .int .i64 xb] 57)).cell? ⟨wr.heap.size, 1, none⟩ = some (.int .i64 xa) := by go_simp
          have y2 : (wr.alloc (.cells #[.int .i64 xi, .int .i64 xa, .int .i64 xb] 57)).cell? ⟨wr.heap.size, 2, none⟩ = some (.int .i64 xb) := by go_simp
          have m1 := cell_later hal k1
          have v1 := cell_later hal g1
          have v2 := cell_later hal g2
          have HW := Lib.hid (hnb.out.below hal)
          have q1 := HW.out.2.1.frozenAt (k * 3 + 1)
          have q2 := HW.out.2.1.frozenAt (k * 3 + 2)
          have hgx := (own_ge hnb.out.2.1).2
          have hbg := fun e => own_ne hnb.out.1 hnb.out.2.1 (by decide) bx rfl (e : (Value.slice (some ⟨g, 0, none⟩) n c1).ownBlock = some bx)
          have hbg2 : g ≠ bx := fun e => hbg (by rw [e]; rfl)
          clear hgd hx hxk hst hal hnb k0 k2 hbg
          go_wp2_with (fail)
          clear g0 g1 g2 k1
          generalize wr.alloc (.cells #[.int .i64 xi, .int .i64 xa, .int .i64 xb] 57) = W5 at *
          generalize wr.heap.size = gx at *
          generalize flipI xa = fa at *
          generalize flipI xb = fb at *
          refine wp_region_held_drew (S := (fun w' => w'.cell? ⟨bx, 1, none⟩ = some (.slice (some ⟨g, 0, none⟩) n c1) ∧ w'.cell? ⟨gx, 1, none⟩ = some (.int .i64 xa) ∧ w'.cell? ⟨gx, 2, none⟩ = some (.int .i64 xb))) (by kernel_rfl) ?_ (fun hHeld => ?_)
          · exact ⟨m1, y1, y2⟩
          refine rg_take (v := ?_) 0 rfl (by kernel_rfl) (by kernel_rfl) (by kernel_rfl) (fun _ _ _ h => h) (by kernel_rfl) ?_ (by assumption) ?_
          rotate_left
          · (intro w' hSw; (try dsimp only at hSw); go_simp; first | done | with_reducible rfl)
          simp only [Act.put, List.setIfInBounds_toArray, List.set_cons_zero, List.set_cons_succ]
          refine rg_take (v := ?_) 1 rfl (by kernel_rfl) (by kernel_rfl) (by kernel_rfl) (fun _ _ _ h => h) (by kernel_rfl) ?_ (by assumption) ?_
          rotate_left
          · (intro w' hSw; (try dsimp only at hSw); go_simp; first | done | with_reducible rfl)
          simp only [Act.put, List.setIfInBounds_toArray, List.set_cons_zero, List.set_cons_succ]
          refine rg_take (v := ?_) 2 rfl (by kernel_rfl) (by kernel_rfl) (by kernel_rfl) (fun _ _ _ h => h) (by kernel_rfl) ?_ (by assumption) ?_
          rotate_left
          · (intro w' hSw; (try dsimp only at hSw); go_simp; first | done | with_reducible rfl)
          simp only [Act.put, List.setIfInBounds_toArray, List.set_cons_zero, List.set_cons_succ]
          refine rg_take (v := ?_) 3 rfl (by kernel_rfl) (by kernel_rfl) (by kernel_rfl) (fun _ _ _ h => h) (by kernel_rfl) ?_ (by assumption) ?_
          rotate_left
          · (intro w' hSw; (try dsimp only at hSw); go_simp; first | done | with_reducible rfl)
          simp only [Act.put, List.setIfInBounds_toArray, List.set_cons_zero, List.set_cons_succ]
          refine rg_take (v := ?_) 4 rfl (by kernel_rfl) (by kernel_rfl) (by kernel_rfl) (fun _ _ _ h => h) (by kernel_rfl) ?_ (by assumption) ?_
          rotate_left
          · (intro w' hSw; (try dsimp only at hSw); go_simp; first | done | with_reducible rfl)
          simp only [Act.put, List.setIfInBounds_toArray, List.set_cons_zero, List.set_cons_succ]
          refine rg_take (v := ?_) 5 rfl (by kernel_rfl) (by kernel_rfl) (by kernel_rfl) (fun _ _ _ h => h) (by kernel_rfl) ?_ (by assumption) ?_
          rotate_left
          · (intro w' hSw; (try dsimp only at hSw); go_simp; first | done | with_reducible rfl)
          simp only [Act.put, List.setIfInBounds_toArray, List.set_cons_zero, List.set_cons_succ]
          refine rg_take (v := ?_) 6 rfl (by kernel_rfl) (by kernel_rfl) (by kernel_rfl) (fun _ _ _ h => h) (by kernel_rfl) ?_ (by assumption) ?_
          rotate_left
          · (intro w' hSw; (try dsimp only at hSw); go_simp; first | done | with_reducible rfl)
          simp only [Act.put, List.setIfInBounds_toArray, List.set_cons_zero, List.set_cons_succ]
          refine rg_take (v := ?_) 7 rfl (by kernel_rfl) (by kernel_rfl) (by kernel_rfl) (fun _ _ _ h => h) (by kernel_rfl) ?_ (by assumption) ?_
          rotate_left
          · (intro w' hSw; (try dsimp only at hSw); go_simp; first | done | with_reducible rfl)
          simp only [Act.put, List.setIfInBounds_toArray, List.set_cons_zero, List.set_cons_succ]
          refine rg_take (v := ?_) 9 rfl (by kernel_rfl) (by kernel_rfl) (by kernel_rfl) (fun _ _ _ h => h) (by kernel_rfl) ?_ (by assumption) ?_
          rotate_left
          · (intro w' hSw; (try dsimp only at hSw); go_simp; first | done | with_reducible rfl)
          simp only [Act.put, List.setIfInBounds_toArray, List.set_cons_zero, List.set_cons_succ]
          refine rg_take (v := ?_) 10 rfl (by kernel_rfl) (by kernel_rfl) (by kernel_rfl) (fun _ _ _ h => h) (by kernel_rfl) ?_ (by assumption) ?_
          rotate_left
          · (intro w' hSw; (try dsimp only at hSw); go_simp; first | done | with_reducible rfl)
          simp only [Act.put, List.setIfInBounds_toArray, List.set_cons_zero, List.set_cons_succ]
          refine rg_run 8 rfl (by kernel_rfl) (by kernel_rfl) (fun K hK => ?_)
          go_simp
          refine (HS1.out _).mono ?_
          rintro e w3 ⟨rfl, rfl⟩
          go_wp2
          clear hHeld
          refine hK.out _ _ (by exact ⟨m1, y1, y2⟩) (fun hHeld => ?_)
          clear hK K
          try simp only [Act.put, List.setIfInBounds_toArray, List.set_cons_zero, List.set_cons_succ]
          refine rg_run 11 rfl (by kernel_rfl) (by kernel_rfl) (fun K hK => ?_)
          go_simp
          refine (HS2.out _).mono ?_
          rintro e w3 ⟨rfl, rfl⟩
          go_wp2
          clear hHeld
          refine hK.out _ _ (by exact ⟨m1, y1, y2⟩) (fun hHeld => ?_)
          clear hK K
          try simp only [Act.put, List.setIfInBounds_toArray, List.set_cons_zero, List.set_cons_succ]
          refine rg_take (v := ?_) 12 rfl (by kernel_rfl) (by kernel_rfl) (by kernel_rfl) (fun _ _ _ h => h) (by kernel_rfl) ?_ (by assumption) ?_
          rotate_left
          · (intro w' hSw; (try dsimp only at hSw); go_simp; first | done | with_reducible rfl)
          simp only [Act.put, List.setIfInBounds_toArray, List.set_cons_zero, List.set_cons_succ]
          refine rg_take (v := ?_) 13 rfl (by kernel_rfl) (by kernel_rfl) (by kernel_rfl) (fun _ _ _ h => h) (by kernel_rfl) ?_ (by assumption) ?_
          rotate_left
          · (intro w' hSw; (try dsimp only at hSw); go_simp; first | done | with_reducible rfl)
          simp only [Act.put, List.setIfInBounds_toArray, List.set_cons_zero, List.set_cons_succ]
          have m1s : (W5.setCell ⟨g, k * 3 + 1, none⟩ (.int .i64 fa)).cell? ⟨bx, 1, none⟩ = some (.slice (some ⟨g, 0, none⟩) n c1) := by go_simp
          have y1s : (W5.setCell ⟨g, k * 3 + 1, none⟩ (.int .i64 fa)).cell? ⟨gx, 1, none⟩ = some (.int .i64 xa) := by go_simp
          have y2s : (W5.setCell ⟨g, k * 3 + 1, none⟩ (.int .i64 fa)).cell? ⟨gx, 2, none⟩ = some (.int .i64 xb) := by go_simp
          have v2s : (W5.setCell ⟨g, k * 3 + 1, none⟩ (.int .i64 fa)).cell? ⟨g, k * 3 + 2, none⟩ = some (.int .i64 xb) := by go_simp
          have q2s : (W5.setCell ⟨g, k * 3 + 1, none⟩ (.int .i64 fa)).frozen? ⟨g, k * 3 + 2, none⟩ = false := by go_simp
          have HZ := Lib.hid (HW.out.put (by omega) HST.out)
          refine rg_run 14 rfl (by kernel_rfl) (by kernel_rfl) (fun K hK => ?_)
          go_simp
          clear v1 v2 q1 q2
          generalize W5.setCell ⟨g, k * 3 + 1, none⟩ (.int .i64 fa) = W6 at *
          clear hHeld
          refine hK.out _ _ (by exact ⟨m1s, y1s, y2s⟩) (fun hHeld => ?_)
          clear hK K
          try simp only [Act.put, List.setIfInBounds_toArray, List.set_cons_zero, List.set_cons_succ]
          refine rg_take (v := ?_) 15 rfl (by kernel_rfl) (by kernel_rfl) (by kernel_rfl) (fun _ _ _ h => h) (by kernel_rfl) ?_ (by assumption) ?_
          rotate_left
          · (intro w' hSw; (try dsimp only at hSw); go_simp; first | done | with_reducible rfl)
          simp only [Act.put, List.setIfInBounds_toArray, List.set_cons_zero, List.set_cons_succ]
          refine rg_take (v := ?_) 16 rfl (by kernel_rfl) (by kernel_rfl) (by kernel_rfl) (fun _ _ _ h => h) (by kernel_rfl) ?_ (by assumption) ?_
          rotate_left
          · (intro w' hSw; (try dsimp only at hSw); go_simp; first | done | with_reducible rfl)
          simp only [Act.put, List.setIfInBounds_toArray, List.set_cons_zero, List.set_cons_succ]
          have m1t : (W6.setCell ⟨g, k * 3 + 2, none⟩ (.int .i64 fb)).cell? ⟨bx, 1, none⟩ = some (.slice (some ⟨g, 0, none⟩) n c1) := by go_simp
          have y1t : (W6.setCell ⟨g, k * 3 + 2, none⟩ (.int .i64 fb)).cell? ⟨gx, 1, none⟩ = some (.int .i64 xa) := by go_simp
          have y2t : (W6.setCell ⟨g, k * 3 + 2, none⟩ (.int .i64 fb)).cell? ⟨gx, 2, none⟩ = some (.int .i64 xb) := by go_simp
          refine rg_run 17 rfl (by kernel_rfl) (by kernel_rfl) (fun K hK => ?_)
          go_simp
          clear m1s y1s y2s v2s q2s
          generalize W6.setCell ⟨g, k * 3 + 2, none⟩ (.int .i64 fb) = W7 at *
          clear hHeld
          refine hK.out _ _ (by exact ⟨m1t, y1t, y2t⟩) (fun hHeld => ?_)
          clear hK K
          try simp only [Act.put, List.setIfInBounds_toArray, List.set_cons_zero, List.set_cons_succ]
          refine wpAnyH_done (by kernel_rfl) ?_ _
          clear hHeld
          clear m1 y1 y2 m1t y1t y2t HW
          go_wp2_with (fail)
          go_roundw
          case rel => exact ⟨k + 1, by omega, by go_num, Lib.hid (by first | exact HZ.out | exact HZ.out.drew)⟩
          case measure => simp [intOf]; omega
        · obtain rfl : k = n := by omega
          have HL : Hid (notK l k = l.map flipN) := Lib.hid (notK_all (by rw [← HN.out]; exact Nat.le_refl _))
          obtain ⟨hD, hR, hX, hB⟩ := hnb.out
          rw [HL.out] at hR
          have hlk : (l.map flipN).length = k := by rw [List.length_map]; exact HN.out.symm
          have hso2 := own_mono hR (base' := w.heap.size) (by omega)
          rw [← hlk] at hso2
          obtain ⟨WF, hWF, r0, r1, r2, r3⟩ := set3_ret hX hB hso2 X (flipI R)
          rw [hlk] at hWF r1 r3
          have HF := Lib.hid hWF
          have R3 := Lib.hid r3
          have p0 := hX.cellAt 0 (by decide)
          have p1 := hX.cellAt 1 (by decide)
          have p2 := hX.cellAt 2 (by decide)
          simp only [List.getElem?_cons_zero, List.getElem?_cons_succ] at p0 p1 p2
          have f0 := hX.frozenAt 0
          have f1 := hX.frozenAt 1
          have f2 := hX.frozenAt 2
          clear hD hR hX hB hlk hso2 hWF r3 HL hnb
          generalize flipI R = fR at *
          go_wp2_with (fail)
          clear p0 p1 p2 f0 f1 f2 k0 k1 k2
          rw [← HF.out]
          refine bodyPost_ret (v := .tuple #[.agg #[.int .i64 X, .slice A1 k c1, .int .i64 fR], .int .i64 0]) (by simp [results, Try.results25, go_sem, r0, r1, r2]) rfl (by obtain ⟨v1, v2, v3, v4⟩ := HV.out; rw [v1, v2, v3, v4]; exact R3.out 0)
end Go.Proofs.Ytndihacmlkgkbaa
