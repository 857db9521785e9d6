/- Contracts of l22Level, inputOf, l22Node. Condition: the reference leads to a node; the sizes. -/
import Derived.Test.YtndihacmlkgkbaaFrm
import Derived.Test.YtndihacmlkgkbaaPush
import Derived.Test.YtndihacmlkgkbaaRgE
namespace Go.Proofs.Ytndihacmlkgkbaa
open Go.RowKit

def lvl (X : Int) (l : List Nd) (r : Nat) : Int := if r < 2 then X else (l.getD (r - 2) nd0).i
theorem getD_nd {l : List Nd} {k : Nat} {x : Nd} (h : l[k]? = some x) : l.getD k nd0 = x := by simp [List.getD_eq_getElem?_getD, h]
set_option maxRecDepth 100000 in
theorem c_l22Level (X R : Int) (A : Option Addr) (c n : Nat) (l : List Nd) (r : Nat) (w : World) (hn : n = l.length) (hs : n ≤ 1099511627776) (hr : r < n + 2) (h : Rd w A (ndCells l)) :
    Calls Try.prog 39 #[.agg #[.int .i64 X, .slice A n c, .int .i64 R], .int .i64 r] w fun e w' => e = .returned (.int .i64 (lvl X l r)) ∧ Below w.heap.size w w' := by
  have HN := Lib.hid hn
  clear hn
  by_cases h2 : r < 2
  · have HL : Hid (lvl X l r = X) := Lib.hid (by unfold lvl; rw [if_pos h2])
    rw [HL.out]
    go_enter Try.func39, Try.ntmps39
    go_wp2
    go_ret
    exact ⟨rfl, by (repeat (first | exact Below.refl _ _ | assumption | refine below_alloc ?_ _ | refine below_drewN ?_ _ | refine below_set ?_ _ (by simp; try omega) | refine Below.drew ?_))⟩
  · obtain ⟨x, hx⟩ : ∃ x, l[r - 2]? = some x := ⟨_, List.getElem?_eq_getElem (by have := HN.out; omega)⟩
    have HL : Hid (lvl X l r = x.i) := Lib.hid (by unfold lvl; rw [if_neg h2, getD_nd hx])
    rw [HL.out]
    obtain ⟨k, rfl⟩ : ∃ k, r = k + 2 := ⟨r - 2, by omega⟩
    simp only [Nat.add_sub_cancel] at hx
    obtain ⟨b, off, rfl, _, g0, g1, g2⟩ := (h.alloc (.cells #[.int .i64 X, .slice A n c, .int .i64 R] 29)).nd hx
    clear h hx
    have hk : (k : Int) < n := by omega
    have hk2 : ((k + 2 : Nat) : Int) = (k : Int) + 2 := by omega
    rw [hk2]
    go_enter Try.func39, Try.ntmps39
    go_wp2
    go_ret
    exact ⟨rfl, by (repeat (first | exact Below.refl _ _ | assumption | refine below_alloc ?_ _ | refine below_drewN ?_ _ | refine below_set ?_ _ (by simp; try omega) | refine Below.drew ?_))⟩
set_option maxRecDepth 100000 in
theorem c_inputOf (X R : Int) (A : Option Addr) (c n : Nat) (l : List Nd) (r : Nat) (w : World) (hn : n = l.length) (hs : n ≤ 1099511627776) (hr : r < n + 2) (h : Rd w A (ndCells l)) :
    Calls Try.prog 46 #[.agg #[.int .i64 X, .slice A n c, .int .i64 R], .int .i64 r] w fun e w' => e = .returned (.int .i64 (lvl X l r)) ∧ Below w.heap.size w w' := by
  have HN := Lib.hid hn
  clear hn
  by_cases h2 : r < 2
  · have HL : Hid (lvl X l r = X) := Lib.hid (by unfold lvl; rw [if_pos h2])
    rw [HL.out]
    go_enter Try.func46, Try.ntmps46
    go_wp2
    go_ret
    exact ⟨rfl, by (repeat (first | exact Below.refl _ _ | assumption | refine below_alloc ?_ _ | refine below_drewN ?_ _ | refine below_set ?_ _ (by simp; try omega) | refine Below.drew ?_))⟩
  · obtain ⟨x, hx⟩ : ∃ x, l[r - 2]? = some x := ⟨_, List.getElem?_eq_getElem (by have := HN.out; omega)⟩
    have HL : Hid (lvl X l r = x.i) := Lib.hid (by unfold lvl; rw [if_neg h2, getD_nd hx])
    rw [HL.out]
    obtain ⟨k, rfl⟩ : ∃ k, r = k + 2 := ⟨r - 2, by omega⟩
    simp only [Nat.add_sub_cancel] at hx
    obtain ⟨b, off, rfl, _, g0, g1, g2⟩ := (h.alloc (.cells #[.int .i64 X, .slice A n c, .int .i64 R] 29)).nd hx
    clear h hx
    have hk : (k : Int) < n := by omega
    have hk2 : ((k + 2 : Nat) : Int) = (k : Int) + 2 := by omega
    rw [hk2]
    go_enter Try.func46, Try.ntmps46
    go_wp2
    go_ret
    exact ⟨rfl, by (repeat (first | exact Below.refl _ _ | assumption | refine below_alloc ?_ _ | refine below_drewN ?_ _ | refine below_set ?_ _ (by simp; try omega) | refine Below.drew ?_))⟩
/-- A box with the nodes of a diagram that is built, at block bo. -/
def SB (lo : Nat) (w : World) (bo : Nat) (out : List Nd) : Prop :=
  ∃ v, w.ownsRow lo 77 1 (.slice (some ⟨bo, 0, none⟩) 1 1) 1 [v] ∧ w.ownsRow lo 57 3 v out.length (ndCells out)
def PS (lo k : Nat) (o : Obj) : Prop := lo ≤ k ∧ ∃ c fz, o = .cells c 77 fz ∨ o = .cells c 57 fz
theorem idxN_snoc {out : List Nd} {x y : Nd} : idxN (out ++ [y]) x = (idxN out x).or (if y = x then some out.length else none) := by
  unfold idxN
  rw [List.findIdx?_append]
  by_cases e : y = x <;> simp [List.findIdx?_cons, e]
theorem idxN_go {out : List Nd} {x : Nd} {k : Nat} (h : ∀ (j : Nat) (y : Nd), j < k → out[j]? = some y → y ≠ x) (hk : out[k]? = some x) : idxN out x = some k := by
  obtain ⟨hk1, e⟩ := List.getElem?_eq_some_iff.1 hk
  unfold idxN
  rw [List.findIdx?_eq_some_iff_getElem]
  refine ⟨hk1, by simp [e], fun j hj => ?_⟩
  simp only [decide_eq_true_eq]
  intro e2
  exact h j _ hj (List.getElem?_eq_getElem (by omega)) e2
theorem idxN_go0 {out : List Nd} {x : Nd} (h : ∀ (j : Nat) (y : Nd), j < out.length → out[j]? = some y → y ≠ x) : idxN out x = none :=
  idxN_not fun hm => by
    obtain ⟨j, hj, e⟩ := List.getElem_of_mem hm
    exact h j _ hj (List.getElem?_eq_getElem hj) e
theorem wp_push_nd (w : World) {o : Oper} {a : Act} {K : Act → World → Prop} {Q : Exit → Act → World → Prop} (s x : Operand)
    (ho : o.op = .call { callee := .builtin .append, args := #[s, x], argTypes := #[27, 27] })
    (base : Nat) (v : Value) (l : List Nd) (y : Nd) (g c : Nat) (hs : a.eval s = v) (hown : w.ownsRow base 57 3 v l.length (ndCells l))
    (hx : a.eval x = .slice (some ⟨g, 0, none⟩) 1 c) (h0 : w.cell? ⟨g, 0, none⟩ = some (.int .i64 y.i)) (h1 : w.cell? ⟨g, 1, none⟩ = some (.int .i64 y.lo)) (h2 : w.cell? ⟨g, 2, none⟩ = some (.int .i64 y.hi)) (hn : l.length ≤ 1099511627776) (hbase : base ≤ w.heap.size)
    (h : ∀ v' w', w'.ownsRow base 57 3 v' (l ++ [y]).length (ndCells (l ++ [y])) → w.grownBy w' v.ownBlock → (v'.ownBlock = v.ownBlock ∨ v'.ownBlock = some w.heap.size) → K (a.put o.dst v') w') : o.wp Try.prog a w K Q := by
  obtain ⟨i0, hi, hz0, hz1, hz2⟩ := info_parts info_iNode
  refine wp_push w s x 27 ho base 57 i0 (.agg #[.int .i64 0, .int .i64 0, .int .i64 0]) 3 24 Try.underlying27 hi hz0 hz1 hz2 rfl (by decide) v l.length (ndCells l) hs hown ⟨g, 0, none⟩ c y.cells hx rfl ?_ ?_ (by unfold maxLen; omega) (by omega) hbase ?_
  · intro j u hu
    match j, hu with
    | 0, hu => simp only [Nd.cells, List.getElem?_cons_zero, Option.some.injEq] at hu; subst hu; simpa [Addr.add] using h0
    | 1, hu => simp only [Nd.cells, List.getElem?_cons_succ, List.getElem?_cons_zero, Option.some.injEq] at hu; subst hu; simpa [Addr.add] using h1
    | 2, hu => simp only [Nd.cells, List.getElem?_cons_succ, List.getElem?_cons_zero, Option.some.injEq] at hu; subst hu; simpa [Addr.add] using h2
    | j + 3, hu => simp [Nd.cells] at hu
  · intro u hu
    simp only [Nd.cells, List.mem_cons, List.not_mem_nil, or_false] at hu
    rcases hu with rfl | rfl | rfl <;> rfl
  · intro v' w' h3 h4 _ h5
    exact h v' w' (by simpa [ndCells] using h3) h4 h5
theorem own_shape {w : World} {base : Nat} {e : TypeId} {size n : Nat} {v : Value} {xs : List Value} (h : w.ownsRow base e size v n xs) : ∃ A c, v = .slice A n c := by
  rcases h.2 with ⟨h1, h2⟩ | ⟨g, cap, cur, hv, _⟩
  · exact ⟨none, 0, by rw [h1, h2]⟩
  · exact ⟨_, _, hv⟩
theorem SB.lt {lo bo : Nat} {w : World} {out : List Nd} (h : SB lo w bo out) : lo ≤ bo ∧ bo < w.heap.size := by
  obtain ⟨v, h1, _⟩ := h
  exact own_ge h1
theorem SB.fr {lo bo : Nat} {P : Nat → Obj → Prop} {w w' : World} {out : List Nd} (h : SB lo w bo out) (hf : Fr P w w') (hp : ∀ k c fz, ¬ P k (.cells c 77 fz) ∧ ¬ P k (.cells c 57 fz)) : SB lo w' bo out := by
  obtain ⟨v, h1, h2⟩ := h
  exact ⟨v, hf.own h1 (fun g c fz _ _ => (hp g c fz).1), hf.own h2 (fun g c fz _ _ => (hp g c fz).2)⟩
theorem SB.below {lo bo : Nat} {w w' : World} {out : List Nd} (h : SB lo w bo out) (hb : Below w.heap.size w w') : SB lo w' bo out := by
  obtain ⟨v, h1, h2⟩ := h
  exact ⟨v, own_below h1 hb, own_below h2 hb⟩
theorem mkN_some {out : List Nd} {i a b : Int} {k : Nat} (hab : ¬ a = b) (h : idxN out ⟨i, a, b⟩ = some k) : mkN out ⟨i, a, b⟩ = (out, (k : Int) + 2) := by unfold mkN; rw [if_neg hab, h]
theorem mkN_none {out : List Nd} {i a b : Int} (hab : ¬ a = b) (h : idxN out ⟨i, a, b⟩ = none) : mkN out ⟨i, a, b⟩ = (out ++ [⟨i, a, b⟩], (out.length : Int) + 2) := by unfold mkN; rw [if_neg hab, h]
set_option maxRecDepth 100000 in
theorem c_l22Node (lo bo : Nat) (i a b : Int) (out : List Nd) (w : World) (hs : out.length ≤ 1099511627775) (hlo : lo ≤ w.heap.size) (h : SB lo w bo out) :
    Calls Try.prog 61 #[.pointer (some ⟨bo, 0, none⟩), .int .i64 i, .int .i64 a, .int .i64 b] w fun e w' => e = .returned (.int .i64 (mkN out ⟨i, a, b⟩).2) ∧ SB lo w' bo (mkN out ⟨i, a, b⟩).1 ∧ Fr (PS lo) w w' := by
  by_cases hab : a = b
  · subst hab
    have hm : mkN out ⟨i, a, a⟩ = (out, a) := by unfold mkN; rw [if_pos rfl]
    rw [hm]
    have H := Lib.hid h
    clear h
    go_enter Try.func61, Try.ntmps61
    go_wp2
    go_ret
    exact ⟨rfl, H.out, Fr.refl _ _⟩
  · have hne : (a == b) = false := by simpa using hab
    obtain ⟨v, hbox, hrow⟩ := h
    have hblt := (own_ge hbox)
    have hal := below_alloc (Below.refl w.heap.size w) (.cells #[.int .i64 i, .int .i64 a, .int .i64 b] 57)
    have HB := Lib.hid (own_below hbox hal)
    have HR := Lib.hid (own_below hrow hal)
    have x0 : (w.alloc (.cells #[.int .i64 i, .int .i64 a, .int .i64 b] 57)).cell? ⟨w.heap.size, 0, none⟩ = some (.int .i64 i) := by go_simp
    have x1 : (w.alloc (.cells #[.int .i64 i, .int .i64 a, .int .i64 b] 57)).cell? ⟨w.heap.size, 1, none⟩ = some (.int .i64 a) := by go_simp
    have x2 : (w.alloc (.cells #[.int .i64 i, .int .i64 a, .int .i64 b] 57)).cell? ⟨w.heap.size, 2, none⟩ = some (.int .i64 b) := by go_simp
    have HA := Lib.hid hal
    have HV := Lib.hid (fun q hq => (hrow.lt q hq).2)
    clear hal hbox hrow
    go_enter Try.func61, Try.ntmps61
    go_wp2
    generalize w.alloc (.cells #[.int .i64 i, .int .i64 a, .int .i64 b] 57) = W at *
    have k0 := HB.out.cellAt 0 (by decide)
    simp only [List.getElem?_cons_zero] at k0
    obtain ⟨A, c, rfl⟩ := own_shape HR.out
    have HRD := Lib.hid (Rd.own HR.out)
    go_loopw [10] (fun u wr => ∃ k : Nat, k ≤ out.length ∧ u = .int .i64 k ∧ Below W.heap.size W wr ∧ Hid (∀ (j : Nat) (y : Nd), j < k → out[j]? = some y → y ≠ ⟨i, a, b⟩)) (fun u _ => out.length - (intOf u).toNat)
    case atStart => exact ⟨0, Nat.zero_le _, rfl, Below.refl _ _, Lib.hid (fun j y hj => absurd hj (by omega))⟩
    case round =>
      obtain ⟨k, hk, rfl, hb, hall⟩ := hrel
      replace k0 := cell_later hb k0
      replace x0 := cell_later hb x0
      replace x1 := cell_later hb x1
      replace x2 := cell_later hb x2
      by_cases hlt : k < out.length
      · obtain ⟨y, hy⟩ : ∃ y, out[k]? = some y := ⟨_, List.getElem?_eq_getElem hlt⟩
        clear HV
        obtain ⟨b1, o1, rfl, _, g0, g1, g2⟩ := (HRD.out.below hb).nd hy
        have HY := Lib.hid hy
        have HBB := Lib.hid hb
        have hk0 : (0 : Int) ≤ (k : Int) := by omega
        have hk1 : (k : Int) < out.length := by omega
        clear hy hb
        obtain ⟨yi, ya, yb⟩ := y
        dsimp only at g0 g1 g2
        go_wp2_with (fail)
        refine wp_region_held_drew (S := (fun w' => w'.cell? ⟨bo, 0, none⟩ = some (.slice (some ⟨b1, o1, none⟩) out.length c) ∧ (w'.cell? ⟨w.heap.size, 0, none⟩ = some (.int .i64 i) ∧ w'.cell? ⟨w.heap.size, 1, none⟩ = some (.int .i64 a) ∧ w'.cell? ⟨w.heap.size, 2, none⟩ = some (.int .i64 b)) ∧ w'.cell? ⟨b1, o1 + k * 3, none⟩ = some (.int .i64 yi) ∧ w'.cell? ⟨b1, o1 + k * 3 + 1, none⟩ = some (.int .i64 ya) ∧ w'.cell? ⟨b1, o1 + k * 3 + 2, none⟩ = some (.int .i64 yb))) (by kernel_rfl) ?_ (fun hHeld => ?_)
        · exact ⟨k0, ⟨x0, x1, x2⟩, g0, g1, g2⟩
        refine rg_take (v := ?_) 0 rfl (by kernel_rfl) (by kernel_rfl) (by kernel_rfl) (fun _ _ _ h => h) (by kernel_rfl) ?_ (by assumption) ?_
        rotate_left
        · (intro w' hSw; (try dsimp only at hSw); go_simp; first | done | with_reducible rfl)
        simp only [Act.put, List.setIfInBounds_toArray, List.set_cons_zero, List.set_cons_succ]
        refine rg_take (v := ?_) 1 rfl (by kernel_rfl) (by kernel_rfl) (by kernel_rfl) (fun _ _ _ h => h) (by kernel_rfl) ?_ (by assumption) ?_
        rotate_left
        · (intro w' hSw; (try dsimp only at hSw); go_simp; first | done | with_reducible rfl)
        simp only [Act.put, List.setIfInBounds_toArray, List.set_cons_zero, List.set_cons_succ]
        refine rg_take (v := ?_) 2 rfl (by kernel_rfl) (by kernel_rfl) (by kernel_rfl) (fun _ _ _ h => h) (by kernel_rfl) ?_ (by assumption) ?_
        rotate_left
        · (intro w' hSw; (try dsimp only at hSw); go_simp; first | done | with_reducible rfl)
        simp only [Act.put, List.setIfInBounds_toArray, List.set_cons_zero, List.set_cons_succ]
        refine rg_take (v := ?_) 3 rfl (by kernel_rfl) (by kernel_rfl) (by kernel_rfl) (fun _ _ _ h => h) (by kernel_rfl) ?_ (by assumption) ?_
        rotate_left
        · (intro w' hSw; (try dsimp only at hSw); go_simp; first | done | with_reducible rfl)
        simp only [Act.put, List.setIfInBounds_toArray, List.set_cons_zero, List.set_cons_succ]
        refine rg_take (v := ?_) 4 rfl (by kernel_rfl) (by kernel_rfl) (by kernel_rfl) (fun _ _ _ h => h) (by kernel_rfl) ?_ (by assumption) ?_
        rotate_left
        · (intro w' hSw; (try dsimp only at hSw); go_simp; first | done | with_reducible rfl)
        simp only [Act.put, List.setIfInBounds_toArray, List.set_cons_zero, List.set_cons_succ]
        refine rg_take (v := ?_) 5 rfl (by kernel_rfl) (by kernel_rfl) (by kernel_rfl) (fun _ _ _ h => h) (by kernel_rfl) ?_ (by assumption) ?_
        rotate_left
        · (intro w' hSw; (try dsimp only at hSw); go_simp; first | done | with_reducible rfl)
        simp only [Act.put, List.setIfInBounds_toArray, List.set_cons_zero, List.set_cons_succ]
        refine rg_take (v := ?_) 6 rfl (by kernel_rfl) (by kernel_rfl) (by kernel_rfl) (fun _ _ _ h => h) (by kernel_rfl) ?_ (by assumption) ?_
        rotate_left
        · (intro w' hSw; (try dsimp only at hSw); go_simp; first | done | with_reducible rfl)
        simp only [Act.put, List.setIfInBounds_toArray, List.set_cons_zero, List.set_cons_succ]
        refine rg_take (v := ?_) 7 rfl (by kernel_rfl) (by kernel_rfl) (by kernel_rfl) (fun _ _ _ h => h) (by kernel_rfl) ?_ (by assumption) ?_
        rotate_left
        · (intro w' hSw; (try dsimp only at hSw); go_simp; first | done | with_reducible rfl)
        simp only [Act.put, List.setIfInBounds_toArray, List.set_cons_zero, List.set_cons_succ]
        obtain ⟨E, hE⟩ : ∃ E : Bool, E = decide (yi = i ∧ ya = a ∧ yb = b) := ⟨_, rfl⟩
        refine rg_take (v := .bool E) 8 rfl (by kernel_rfl) (by kernel_rfl) (by kernel_rfl) (fun _ _ _ h => h) (by kernel_rfl) ?_ (by assumption) ?_
        · intro w' hSw
          subst hE
          go_simp
          by_cases e0 : yi = i <;> by_cases e1 : ya = a <;> by_cases e2 : yb = b <;> simp [e0, e1, e2]
        simp only [Act.put, List.setIfInBounds_toArray, List.set_cons_zero, List.set_cons_succ]
        refine wpAnyH_done (by kernel_rfl) ?_ _
        clear hHeld
        have HBd := Lib.hid (HBB.out.drew)
        rcases hEE : E with _ | _
        · subst hEE
          have hEn := of_decide_eq_false hE.symm
          go_wp2_with (fail)
          go_roundw
          case rel => exact ⟨k + 1, by omega, by go_num, HBd.out, Lib.hid (fun j z hj hz => by
            rcases Nat.lt_or_ge j k with h | h
            · exact hall.out j z h hz
            · obtain rfl : j = k := by omega
              rw [HY.out] at hz
              simp only [Option.some.injEq] at hz
              subst hz
              intro e
              simp only [Nd.mk.injEq] at e
              exact hEn e)⟩
          case measure => simp [intOf]; omega
        · subst hEE
          obtain ⟨rfl, rfl, rfl⟩ := of_decide_eq_true hE.symm
          have HM := Lib.hid (mkN_some hab (idxN_go hall.out HY.out))
          go_wp2_with (fail)
          go_ret
          exact ⟨by rw [HM.out]; rfl, by rw [HM.out]; exact SB.below ⟨_, HB.out, HR.out⟩ HBd.out, Fr.of_below (below_chain HA.out HBd.out)⟩
      · obtain rfl : k = out.length := by omega
        have HM := Lib.hid (mkN_none hab (idxN_go0 hall.out))
        have HBX := Lib.hid (own_below HB.out hb)
        have HRX := Lib.hid (own_below HR.out hb)
        have HAX := Lib.hid (below_chain HA.out hb)
        have hszr := HAX.out.size
        have hW := HA.out.size
        have hblt3 := own_ge HBX.out
        clear HB HR HRD HA hb
        go_wp2_with (fail)
        refine wp_region_heldE 10 (S := (fun w' => w'.cell? ⟨bo, 0, none⟩ = some (.slice A out.length c) ∧ (w'.cell? ⟨w.heap.size, 0, none⟩ = some (.int .i64 i) ∧ w'.cell? ⟨w.heap.size, 1, none⟩ = some (.int .i64 a) ∧ w'.cell? ⟨w.heap.size, 2, none⟩ = some (.int .i64 b)))) (by kernel_rfl) ?_ (fun hHeld => ?_)
        · exact ⟨k0, x0, x1, x2⟩
        refine rgE_take (v := ?_) 0 12 rfl (by kernel_rfl) (by kernel_rfl) (by kernel_rfl) (by kernel_rfl) (by kernel_rfl) (fun _ _ _ h => h) (by kernel_rfl) ?_ (by assumption) ?_
        rotate_left
        · (intro w' hSw; (try dsimp only at hSw); go_simp; first | done | with_reducible rfl)
        simp only [Act.put, List.setIfInBounds_toArray, List.set_cons_zero, List.set_cons_succ]
        refine rgE_take (v := ?_) 1 12 rfl (by kernel_rfl) (by kernel_rfl) (by kernel_rfl) (by kernel_rfl) (by kernel_rfl) (fun _ _ _ h => h) (by kernel_rfl) ?_ (by assumption) ?_
        rotate_left
        · (intro w' hSw; (try dsimp only at hSw); go_simp; first | done | with_reducible rfl)
        simp only [Act.put, List.setIfInBounds_toArray, List.set_cons_zero, List.set_cons_succ]
        refine rgE_take (v := ?_) 2 12 rfl (by kernel_rfl) (by kernel_rfl) (by kernel_rfl) (by kernel_rfl) (by kernel_rfl) (fun _ _ _ h => h) (by kernel_rfl) ?_ (by assumption) ?_
        rotate_left
        · (intro w' hSw; (try dsimp only at hSw); go_simp; first | done | with_reducible rfl)
        simp only [Act.put, List.setIfInBounds_toArray, List.set_cons_zero, List.set_cons_succ]
        refine rgE_take (v := ?_) 3 12 rfl (by kernel_rfl) (by kernel_rfl) (by kernel_rfl) (by kernel_rfl) (by kernel_rfl) (fun _ _ _ h => h) (by kernel_rfl) ?_ (by assumption) ?_
        rotate_left
        · (intro w' hSw; (try dsimp only at hSw); go_simp; first | done | with_reducible rfl)
        simp only [Act.put, List.setIfInBounds_toArray, List.set_cons_zero, List.set_cons_succ]
        refine rgE_take (v := ?_) 4 12 rfl (by kernel_rfl) (by kernel_rfl) (by kernel_rfl) (by kernel_rfl) (by kernel_rfl) (fun _ _ _ h => h) (by kernel_rfl) ?_ (by assumption) ?_
        rotate_left
        · (intro w' hSw; (try dsimp only at hSw); go_simp; first | done | with_reducible rfl)
        simp only [Act.put, List.setIfInBounds_toArray, List.set_cons_zero, List.set_cons_succ]
        refine rgE_take (v := ?_) 5 12 rfl (by kernel_rfl) (by kernel_rfl) (by kernel_rfl) (by kernel_rfl) (by kernel_rfl) (fun _ _ _ h => h) (by kernel_rfl) ?_ (by assumption) ?_
        rotate_left
        · (intro w' hSw; (try dsimp only at hSw); go_simp; first | done | with_reducible rfl)
        simp only [Act.put, List.setIfInBounds_toArray, List.set_cons_zero, List.set_cons_succ]
        refine rgE_run 6 rfl (by kernel_rfl) (by kernel_rfl) (by decide) (fun K hK => ?_)
        go_simp
        go_wp2
        have y0 : (wr.alloc (.cells #[.int .i64 i, .int .i64 a, .int .i64 b] 57)).cell? ⟨bo, 0, none⟩ = some (.slice A out.length c) := by rw [World.cell?_alloc_lt _ _ _ (show bo < wr.heap.size from hblt3.2)]; exact k0
        have hwl := World.block_lt_of_cell? _ _ x0
        dsimp only at hwl
        have y1 : (wr.alloc (.cells #[.int .i64 i, .int .i64 a, .int .i64 b] 57)).cell? ⟨w.heap.size, 0, none⟩ = some (.int .i64 i) := by rw [World.cell?_alloc_lt _ _ _ (show w.heap.size < wr.heap.size from hwl)]; exact x0
        have y2 : (wr.alloc (.cells #[.int .i64 i, .int .i64 a, .int .i64 b] 57)).cell? ⟨w.heap.size, 1, none⟩ = some (.int .i64 a) := by rw [World.cell?_alloc_lt _ _ _ (show w.heap.size < wr.heap.size from hwl)]; exact x1
        have y3 : (wr.alloc (.cells #[.int .i64 i, .int .i64 a, .int .i64 b] 57)).cell? ⟨w.heap.size, 2, none⟩ = some (.int .i64 b) := by rw [World.cell?_alloc_lt _ _ _ (show w.heap.size < wr.heap.size from hwl)]; exact x2
        clear hHeld
        refine hK.out _ _ (.inr (by exact ⟨y0, y1, y2, y3⟩)) (fun hHeld => ?_)
        clear hK K
        try simp only [Act.put, List.setIfInBounds_toArray, List.set_cons_zero, List.set_cons_succ]
        have HBY := Lib.hid (own_below (by exact HBX.out) (below_alloc (Below.refl wr.heap.size wr) (.cells #[.int .i64 i, .int .i64 a, .int .i64 b] 57)))
        have HRY := Lib.hid (own_below (by exact HRX.out) (below_alloc (Below.refl wr.heap.size wr) (.cells #[.int .i64 i, .int .i64 a, .int .i64 b] 57)))
        have HAY := Lib.hid (below_alloc (by exact HAX.out) (.cells #[.int .i64 i, .int .i64 a, .int .i64 b] 57))
        have z0 : (wr.alloc (.cells #[.int .i64 i, .int .i64 a, .int .i64 b] 57)).cell? ⟨wr.heap.size, 0, none⟩ = some (.int .i64 i) := by go_simp
        have z1 : (wr.alloc (.cells #[.int .i64 i, .int .i64 a, .int .i64 b] 57)).cell? ⟨wr.heap.size, 1, none⟩ = some (.int .i64 a) := by go_simp
        have z2 : (wr.alloc (.cells #[.int .i64 i, .int .i64 a, .int .i64 b] 57)).cell? ⟨wr.heap.size, 2, none⟩ = some (.int .i64 b) := by go_simp
        have hszY : lo ≤ (wr.alloc (.cells #[.int .i64 i, .int .i64 a, .int .i64 b] 57)).heap.size := by simp; omega
        generalize hgY : wr.heap.size = gY at *
        generalize wr.alloc (.cells #[.int .i64 i, .int .i64 a, .int .i64 b] 57) = WY at *
        refine rgE_run 7 rfl (by kernel_rfl) (by kernel_rfl) (by decide) (fun K hK => ?_)
        refine wp_push_nd WY.drew (.tmp 43) (.tmp 45) rfl lo (.slice A out.length c) out ⟨i, a, b⟩ gY 1 rfl HRY.out rfl z0 z1 z2 (by omega) hszY ?_
        intro v9 w9 ho9 hg9 hv9
        have hnb : ∀ q, (Value.slice A out.length c).ownBlock = some q → q ≠ bo := fun q hq e => own_ne HBY.out HRY.out (by decide) bo rfl (e ▸ hq)
        have m0 := cell_mark (by exact y0) hg9 hnb
        have m1 := cell_mark (by exact y1) hg9 (fun q hq => by have := HV.out q hq; show q ≠ w.heap.size; omega)
        have m2 := cell_mark (by exact y2) hg9 (fun q hq => by have := HV.out q hq; show q ≠ w.heap.size; omega)
        have m3 := cell_mark (by exact y3) hg9 (fun q hq => by have := HV.out q hq; show q ≠ w.heap.size; omega)
        have HB9 := Lib.hid ((own_drew HBY.out).kept hg9 (.inr (fun e => own_ne HBY.out HRY.out (by decide) bo rfl e.symm)))
        have HO9 := Lib.hid ho9
        have hsz9 : WY.heap.size ≤ w9.heap.size := hg9.size
        have HF9 := Lib.hid (show Fr (PS lo) w w9 from (Fr.of_below (show Below w.heap.size w WY.drew from HAY.out.drew)).trans (Fr.of_grown hg9 (fun q o hq ho => by
          obtain ⟨h1, cur, h2⟩ := own_kind HRY.out hq ho
          exact ⟨h1, cur, _, .inr h2⟩)))
        clear hg9 ho9 hv9 HBY HRY HAY y0 y1 y2 y3
        obtain ⟨A9, c9, rfl⟩ := own_shape HO9.out
        generalize hN9 : (out ++ [(⟨i, a, b⟩ : Nd)]).length = n9 at *
        rw [List.length_append, List.length_singleton] at hN9
        clear hHeld
        refine hK.out _ _ (.inr ⟨m0, m1, m2, m3⟩) (fun hHeld => ?_)
        clear hK K
        try simp only [Act.put, List.setIfInBounds_toArray, List.set_cons_zero, List.set_cons_succ]
        refine rgE_take (v := ?_) 8 12 rfl (by kernel_rfl) (by kernel_rfl) (by kernel_rfl) (by kernel_rfl) (by kernel_rfl) (fun _ _ _ h => h) (by kernel_rfl) ?_ (by assumption) ?_
        rotate_left
        · (intro w' hSw; (try dsimp only at hSw); go_simp; first | done | with_reducible rfl)
        simp only [Act.put, List.setIfInBounds_toArray, List.set_cons_zero, List.set_cons_succ]
        refine rgE_take (v := ?_) 9 12 rfl (by kernel_rfl) (by kernel_rfl) (by kernel_rfl) (by kernel_rfl) (by kernel_rfl) (fun _ _ _ h => h) (by kernel_rfl) ?_ (by assumption) ?_
        rotate_left
        · (intro w' hSw; (try dsimp only at hSw); go_simp; first | done | with_reducible rfl)
        simp only [Act.put, List.setIfInBounds_toArray, List.set_cons_zero, List.set_cons_succ]
        have f0 := HB9.out.frozenAt 0
        have hst := HB9.out.stored 0 (.slice A9 n9 c9)
        have HST := Lib.hid hst.1
        have HR9 := Lib.hid (HO9.out.kept hst.2 (.inr (fun e => own_ne HB9.out HO9.out (by decide) bo rfl e)))
        have HFZ := Lib.hid (HF9.out.trans (Fr.of_grown hst.2 (fun q o hq ho => by
          obtain ⟨h1, cur, h2⟩ := own_kind HB9.out hq ho
          exact ⟨h1, cur, _, .inl h2⟩)))
        clear hst
        refine rgE_last rfl (by kernel_rfl) (by kernel_rfl) (by kernel_rfl) (fun K hK => ?_)
        go_simp
        go_simp
        clear hHeld
        refine hK.out _ _ ?_
        clear hK K
        try simp only [Act.put, List.setIfInBounds_toArray, List.set_cons_zero, List.set_cons_succ]
        have r0 := HST.out
        have r1 := HR9.out
        have r2 := HFZ.out
        have r3 := r0.cellAt 0 (by decide)
        simp only [List.set_cons_zero, List.getElem?_cons_zero] at r0 r3
        generalize w9.setCell ⟨bo, 0, none⟩ (.slice A9 n9 c9) = WF at r0 r1 r2 r3 ⊢
        clear HST HR9 HFZ HB9 HO9 HF9 f0 m0 m1 m2 m3 k0 x0 x1 x2
        go_wp2_with (fail)
        go_ret
        exact ⟨by rw [HM.out]; go_num, by rw [HM.out]; exact ⟨_, r0, by rw [List.length_append, List.length_singleton, hN9]; exact r1⟩, r2⟩
end Go.Proofs.Ytndihacmlkgkbaa
