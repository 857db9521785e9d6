/- Contract of joinAll's closure, which calls itself. Condition: the nodes are valid; the sizes. -/
import Derived.Test.YtndihacmlkgkbaaDgJk
import Derived.Deep.Cut
import Derived.Deep.CutRange
import Derived.Deep.CutBlock
namespace Go.Proofs.Ytndihacmlkgkbaa
open Go.RowKit Go.Maps Go.WideMaps

def KJ (bmf bm k : Nat) (o : Obj) : Prop := KF bmf k o ∨ (k = bm ∧ ∃ es c, o = .map es c)
def jvF (bJ bM bA bB bF bV : Nat) : Value := .func (.func 76) #[] #[.pointer (some ⟨bJ, 0, none⟩), .pointer (some ⟨bM, 0, none⟩), .pointer (some ⟨bA, 0, none⟩), .pointer (some ⟨bB, 0, none⟩), .pointer (some ⟨bF, 0, none⟩), .pointer (some ⟨bV, 0, none⟩)]
/-- The boxes that the closure has captured, the forest and the map. -/
structure JB (lo bJ bM bA bB bF bV bm bf bmf : Nat) (j X : Int) (va vb : List Value) (w : World) (v : Value) (st : Js) : Prop where
  j : w.ownsRow lo 2 1 (.slice (some ⟨bJ, 0, none⟩) 1 1) 1 [.int .i64 j]
  m : w.ownsRow lo 104 1 (.slice (some ⟨bM, 0, none⟩) 1 1) 1 [.map (some bm)]
  a : w.ownsRow lo 29 3 (.slice (some ⟨bA, 0, none⟩) 1 1) 1 va
  b : w.ownsRow lo 29 3 (.slice (some ⟨bB, 0, none⟩) 1 1) 1 vb
  q : w.ownsRow lo 62 1 (.slice (some ⟨bF, 0, none⟩) 1 1) 1 [.pointer (some ⟨bf, 0, none⟩)]
  fn : w.ownsRow lo 99 1 (.slice (some ⟨bV, 0, none⟩) 1 1) 1 [jvF bJ bM bA bB bF bV]
  fo : FO lo w bf bmf X v st.2
  mp : MapI 105 w bm st.1.length (prF st.1)
  l : lo ≤ bm
  ne : bm ≠ bmf
section
variable {lo bJ bM bA bB bF bV bm bf bmf : Nat} {j X : Int} {va vb : List Value} {w w' : World} {v v' : Value} {st st' : Js}
theorem JB.below (h : JB lo bJ bM bA bB bF bV bm bf bmf j X va vb w v st) (hb : Below w.heap.size w w') : JB lo bJ bM bA bB bF bV bm bf bmf j X va vb w' v st :=
  ⟨own_below h.j hb, own_below h.m hb, own_below h.a hb, own_below h.b hb, own_below h.q hb, own_below h.fn hb, h.fo.below hb, h.mp.below hb, h.l, h.ne⟩
theorem JB.drew (h : JB lo bJ bM bA bB bF bV bm bf bmf j X va vb w v st) : JB lo bJ bM bA bB bF bV bm bf bmf j X va vb w.drew v st := h.below (Below.refl _ _).drew
/-- A row of another kind stays behind a call of node. -/
theorem JB.keep {base size n : Nat} {e : TypeId} {u : Value} {xs : List Value} (h : JB lo bJ bM bA bB bF bV bm bf bmf j X va vb w v st) (hf : Fr (PR lo (KF bmf) v.ownBlock) w w') (ho : w.ownsRow base e size u n xs) (h1 : e ≠ 94) (h2 : e ≠ 57) : w'.ownsRow base e size u n xs :=
  PR.own hf ho (fun g cur fz _ hk => by
    rcases hk with ⟨c, fz', hk⟩ | ⟨_, es, c, hk⟩
    · simp only [Obj.cells.injEq] at hk
      exact h1 hk.2.1
    · simp at hk) (fun q hq e => own_ne ho h.fo.2.1 h2 q hq e)
theorem JB.node {out : List Nd} (h : JB lo bJ bM bA bB bF bV bm bf bmf j X va vb w v st) (hf : Fr (PR lo (KF bmf) v.ownBlock) w w') (hfo : FO lo w' bf bmf X v' out) : JB lo bJ bM bA bB bF bV bm bf bmf j X va vb w' v' (st.1, out) :=
  ⟨h.keep hf h.j (by decide) (by decide), h.keep hf h.m (by decide) (by decide), h.keep hf h.a (by decide) (by decide), h.keep hf h.b (by decide) (by decide), h.keep hf h.q (by decide) (by decide), h.keep hf h.fn (by decide) (by decide), hfo,
    h.mp.fr hf (fun es c hp => by
      rcases hp with ⟨_, (⟨c', fz', hk⟩ | ⟨hk, _⟩) | hk⟩
      · simp at hk
      · exact h.ne hk
      · exact h.mp.ne h.fo.2.1 bm hk rfl), h.l, h.ne⟩
theorem JB.put {ps : List Jp} (h : JB lo bJ bM bA bB bF bV bm bf bmf j X va vb w v st) (hm : MapI 105 w' bm ps.length (prF ps)) (hg : w.grownBy w' (some bm)) : JB lo bJ bM bA bB bF bV bm bf bmf j X va vb w' v (ps, st.2) :=
  ⟨h.j.kept hg (.inr fun e => h.mp.ne h.j bm e rfl), h.m.kept hg (.inr fun e => h.mp.ne h.m bm e rfl), h.a.kept hg (.inr fun e => h.mp.ne h.a bm e rfl), h.b.kept hg (.inr fun e => h.mp.ne h.b bm e rfl), h.q.kept hg (.inr fun e => h.mp.ne h.q bm e rfl), h.fn.kept hg (.inr fun e => h.mp.ne h.fn bm e rfl),
    h.fo.fr (P := fun k o => k = bm ∧ ∃ es c, o = .map es c) (Fr.of_grown hg (fun q o hq ho => by
      simp only [Option.some.injEq] at hq
      subst hq
      exact ⟨rfl, h.mp.at_ ho⟩)) (fun k c fz hp => by obtain ⟨_, es, c', hp⟩ := hp; simp at hp) (fun k c fz _ hp => by obtain ⟨_, es, c', hp⟩ := hp; simp at hp) (fun es c hp => h.ne hp.1.symm), hm, h.l, h.ne⟩
theorem KJ.of_KF {row : Option Nat} (h : Fr (PR lo (KF bmf) row) w w') : Fr (PR lo (KJ bmf bm) row) w w' := h.mono fun _ _ hp => ⟨hp.1, hp.2.imp .inl id⟩
end
theorem JB.cA {lo bJ bM bA bB bF bV bm bf bmf : Nat} {j X : Int} {x y z : Value} {vb : List Value} {w : World} {v : Value} {st : Js} (h : JB lo bJ bM bA bB bF bV bm bf bmf j X [x, y, z] vb w v st) : w.cell? ⟨bA, 0, none⟩ = some x ∧ w.cell? ⟨bA, 1, none⟩ = some y ∧ w.cell? ⟨bA, 2, none⟩ = some z := by
  have p0 := h.a.cellAt 0 (by decide)
  have p1 := h.a.cellAt 1 (by decide)
  have p2 := h.a.cellAt 2 (by decide)
  simp only [List.getElem?_cons_zero, List.getElem?_cons_succ] at p0 p1 p2
  exact ⟨p0, p1, p2⟩
theorem JB.cB {lo bJ bM bA bB bF bV bm bf bmf : Nat} {j X : Int} {x y z : Value} {va : List Value} {w : World} {v : Value} {st : Js} (h : JB lo bJ bM bA bB bF bV bm bf bmf j X va [x, y, z] w v st) : w.cell? ⟨bB, 0, none⟩ = some x ∧ w.cell? ⟨bB, 1, none⟩ = some y ∧ w.cell? ⟨bB, 2, none⟩ = some z := by
  have p0 := h.b.cellAt 0 (by decide)
  have p1 := h.b.cellAt 1 (by decide)
  have p2 := h.b.cellAt 2 (by decide)
  simp only [List.getElem?_cons_zero, List.getElem?_cons_succ] at p0 p1 p2
  exact ⟨p0, p1, p2⟩
theorem JB.cS {lo bJ bM bA bB bF bV bm bf bmf : Nat} {j X : Int} {va vb : List Value} {w : World} {v : Value} {st : Js} (h : JB lo bJ bM bA bB bF bV bm bf bmf j X va vb w v st) : w.cell? ⟨bJ, 0, none⟩ = some (.int .i64 j) ∧ w.cell? ⟨bM, 0, none⟩ = some (.map (some bm)) ∧ w.cell? ⟨bF, 0, none⟩ = some (.pointer (some ⟨bf, 0, none⟩)) ∧ w.cell? ⟨bV, 0, none⟩ = some (jvF bJ bM bA bB bF bV) := by
  have p0 := h.j.cellAt 0 (by decide)
  have p1 := h.m.cellAt 0 (by decide)
  have p2 := h.q.cellAt 0 (by decide)
  have p3 := h.fn.cellAt 0 (by decide)
  simp only [List.getElem?_cons_zero] at p0 p1 p2 p3
  exact ⟨p0, p1, p2, p3⟩
theorem jlv_ne {X : Int} {la lb : List Nd} (ha : VN X la) (hb : VN X lb) {x y : Nat} (hxy : ¬ (x < 2 ∧ y < 2)) (hx : x < la.length + 2) (hy : y < lb.length + 2) : jlv X la lb x y < X ∧ 0 ≤ jlv X la lb x y := by
  have v1 := ha.lvl hx
  have v2 := hb.lvl hy
  unfold jlv
  by_cases h2 : x < 2
  · have h3 : ¬ y < 2 := fun h => hxy ⟨h2, h⟩
    have := lvl_hi hb h3 hy
    omega
  · have := lvl_hi ha h2 hx
    omega
set_option maxHeartbeats 4000000 in
set_option maxRecDepth 100000 in
theorem c_jvisit (lo bJ bM bA bB bF bV bm bf bmf : Nat) (j X RA RB : Int) (A : Option Addr) (c n : Nat) (la : List Nd) (A' : Option Addr) (c' n' : Nat) (lb : List Nd) (W0 : World) (hn : n = la.length) (hn' : n' = lb.length) (ha : VN X la) (hb : VN X lb) (hra : Rd W0 A (ndCells la)) (hrb : Rd W0 A' (ndCells lb)) (hlo : W0.heap.size ≤ lo) :
    ∀ (f : Nat) (st : Js) (x y : Nat) (v : Value) (w : World), x + y < f → x < n + 2 → y < n' + 2 → JInv la.length lb.length st → Below W0.heap.size W0 w → lo ≤ w.heap.size → JB lo bJ bM bA bB bF bV bm bf bmf j X [.int .i64 X, .slice A n c, .int .i64 RA] [.int .i64 X, .slice A' n' c', .int .i64 RB] w v st →
    Calls Try.prog 76 #[.int .i64 x, .int .i64 y, .pointer (some ⟨bJ, 0, none⟩), .pointer (some ⟨bM, 0, none⟩), .pointer (some ⟨bA, 0, none⟩), .pointer (some ⟨bB, 0, none⟩), .pointer (some ⟨bF, 0, none⟩), .pointer (some ⟨bV, 0, none⟩)] w fun e w' => e = .returned (.int .i64 (jwk j X la lb f st x y).2) ∧ ∃ v', JB lo bJ bM bA bB bF bV bm bf bmf j X [.int .i64 X, .slice A n c, .int .i64 RA] [.int .i64 X, .slice A' n' c', .int .i64 RB] w' v' (jwk j X la lb f st x y).1 ∧ Fr (PR lo (KJ bmf bm) v.ownBlock) w w' ∧ RC w v v'
  | 0, _, _, _, _, _, h, _, _, _, _, _, _ => by omega
  | f + 1, st, x, y, v, w, hf, hx, hy, hI, hbw, hlw, hJ => by
    have HJB := Lib.hid hJ
    obtain ⟨s0, s1, s2, s3⟩ := hJ.cS
    by_cases h2 : x < 2 ∧ y < 2
    · have HV : Hid (jwk j X la lb (f + 1) st x y = (st, jn j x y)) := Lib.hid (by unfold jwk; rw [if_pos h2])
      have hx2 : (x : Int) < 2 := by omega
      have hy2 : (y : Int) < 2 := by omega
      have HC := Lib.hid (c_joined j x y w h2.1 h2.2)
      clear h2 hJ hI hra hrb ha hb
      rw [HV.out]
      unfold jvF at s3
      go_enter Try.func76, Try.ntmps76
      go_wp2_with (fail)
      refine HC.out.mono ?_
      rintro e w' ⟨rfl, rfl⟩
      go_wp2_with (fail)
      go_ret
      exact ⟨rfl, v, HJB.out, Fr.refl _ _, RC.refl _ _⟩
    · have hln := ha.n
      have hln' := hb.n
      rw [← hn] at hln
      rw [← hn'] at hln'
      obtain ⟨kl, hkl⟩ := keyPair (wfI_nat (show x ≤ 9223372036854775807 by omega)) (wfI_nat (show y ≤ 9223372036854775807 by omega))
      have hlk := hJ.mp.look lawPair Try.underlying104 hkl
      rw [prF_at] at hlk
      have HNA := Lib.hid hn
      have HNB := Lib.hid hn'
      rcases hl : lk st.1 x y with _ | r
      · rw [hl] at hlk
        have HL := Lib.hid hl
        have dj0 := jdec ha hb h2 (by omega) (by omega) 0
        have dj1 := jdec ha hb h2 (by omega) (by omega) 1
        have xb0 := brn_bd (X := X) ha.good (r := x) (by omega) (jlv X la lb x y) 0
        have yb0 := brn_bd (X := X) hb.good (r := y) (by omega) (jlv X la lb x y) 0
        have xb1 := brn_bd (X := X) ha.good (r := x) (by omega) (jlv X la lb x y) 1
        have yb1 := brn_bd (X := X) hb.good (r := y) (by omega) (jlv X la lb x y) 1
        have hjl := jlv_ne ha hb h2 (by omega) (by omega)
        have hx20 := ha.x1
        obtain ⟨xl, hxl⟩ : ∃ q : Nat, brn X la x (jlv X la lb x y) 0 = q := ⟨(brn X la x (jlv X la lb x y) 0).toNat, by omega⟩
        obtain ⟨yl, hyl⟩ : ∃ q : Nat, brn X lb y (jlv X la lb x y) 0 = q := ⟨(brn X lb y (jlv X la lb x y) 0).toNat, by omega⟩
        obtain ⟨xh, hxh⟩ : ∃ q : Nat, brn X la x (jlv X la lb x y) 1 = q := ⟨(brn X la x (jlv X la lb x y) 1).toNat, by omega⟩
        obtain ⟨yh, hyh⟩ : ∃ q : Nat, brn X lb y (jlv X la lb x y) 1 = q := ⟨(brn X lb y (jlv X la lb x y) 1).toNat, by omega⟩
        rw [hxl, hyl, Int.toNat_natCast, Int.toNat_natCast] at dj0
        rw [hxh, hyh, Int.toNat_natCast, Int.toNat_natCast] at dj1
        have oa := jwk_out (j := j) ha hb f st xl yl (by omega) dj0.2.1 dj0.2.2 hI
        have ob := jwk_out (j := j) ha hb f (jwk j X la lb f st xl yl).1 xh yh (by omega) dj1.2.1 dj1.2.2 oa.inv
        have HL2 : Hid (lk (jwk j X la lb f (jwk j X la lb f st xl yl).1 xh yh).1.1 x y = none) := Lib.hid (by rw [ob.hi x y (by omega), oa.hi x y (by omega), hl])
        have HOA := Lib.hid oa
        have HOB := Lib.hid ob
        have HV : Hid (jwk j X la lb (f + 1) st x y = (((jwk j X la lb f (jwk j X la lb f st xl yl).1 xh yh).1.1 ++ [⟨x, y, (mkN (jwk j X la lb f (jwk j X la lb f st xl yl).1 xh yh).1.2 ⟨jlv X la lb x y, (jwk j X la lb f st xl yl).2, (jwk j X la lb f (jwk j X la lb f st xl yl).1 xh yh).2⟩).2⟩], (mkN (jwk j X la lb f (jwk j X la lb f st xl yl).1 xh yh).1.2 ⟨jlv X la lb x y, (jwk j X la lb f st xl yl).2, (jwk j X la lb f (jwk j X la lb f st xl yl).1 xh yh).2⟩).1), (mkN (jwk j X la lb f (jwk j X la lb f st xl yl).1 xh yh).1.2 ⟨jlv X la lb x y, (jwk j X la lb f st xl yl).2, (jwk j X la lb f (jwk j X la lb f st xl yl).1 xh yh).2⟩).2)) := Lib.hid (by
          rw [jwk, if_neg h2, hl]
          dsimp only
          rw [hxl, hyl, hxh, hyh]
          simp only [Int.toNat_natCast])
        have HIA := Lib.hid (fun v1 w1 => c_jvisit lo bJ bM bA bB bF bV bm bf bmf j X RA RB A c n la A' c' n' lb W0 hn hn' ha hb hra hrb hlo f st xl yl v1 w1 (by omega) (by omega) (by omega) hI)
        have HIB := Lib.hid (fun v1 w1 => c_jvisit lo bJ bM bA bB bF bV bm bf bmf j X RA RB A c n la A' c' n' lb W0 hn hn' ha hb hra hrb hlo f (jwk j X la lb f st xl yl).1 xh yh v1 w1 (by omega) (by omega) (by omega) oa.inv)
        have HRA := Lib.hid (fun w1 h => Rd.below hra (show Below W0.heap.size W0 w1 from h))
        have HRB := Lib.hid (fun w1 h => Rd.below hrb (show Below W0.heap.size W0 w1 from h))
        have HLA := Lib.hid (fun w1 h => c_inputOf X RA A c n la x w1 hn (by omega) hx h)
        have HLB := Lib.hid (fun w1 h => c_inputOf X RB A' c' n' lb y w1 hn' (by omega) hy h)
        have HCA := Lib.hid (fun w1 h => c_children X RA A c n la x (jlv X la lb x y) w1 hn (by omega) hx (fun h2 => by rw [lvl_lo X la h2]; omega) h)
        have HCB := Lib.hid (fun w1 h => c_children X RB A' c' n' lb y (jlv X la lb x y) w1 hn' (by omega) hy (fun h2 => by rw [lvl_lo X lb h2]; omega) h)
        rw [hxl, hxh] at HCA
        rw [hyl, hyh] at HCB
        have HMIN : Hid (min (lvl X la x) (lvl X lb y) = jlv X la lb x y) := Lib.hid rfl
        have hbm : (lb.length + 2) * (la.length + 2) ≤ 4008004 := by
          have h4 := Nat.mul_le_mul (show lb.length + 2 ≤ 2002 by omega) (show la.length + 2 ≤ 2002 by omega)
          omega
        have hbl := ob.inv.lt
        have oav := oa.v1
        have oav0 := oa.v0
        have obv := ob.v1
        have obv0 := ob.v0
        have obl := ob.len
        generalize jwk j X la lb f st xl yl = A1 at *
        generalize jwk j X la lb f A1.1 xh yh = B1 at *
        generalize jlv X la lb x y = lv at *
        generalize lvl X la x = l1 at *
        generalize lvl X lb y = l2 at *
        have HWI := Lib.hid (show wfI lv from by unfold wfI; exact WalkArith.wf_i64 ⟨by omega, by omega⟩)
        have HWA := Lib.hid (show wfI A1.2 from by unfold wfI; exact WalkArith.wf_i64 ⟨by omega, by omega⟩)
        have HWB := Lib.hid (show wfI B1.2 from by unfold wfI; exact WalkArith.wf_i64 ⟨by omega, by omega⟩)
        have hob : B1.1.2.length ≤ 4008004 ∧ B1.1.1.length ≤ 4008004 := by omega
        have HBW := Lib.hid hbw
        have HKL := Lib.hid hkl
        have HLK := Lib.hid hlk
        obtain ⟨d0, d1, d2⟩ := hJ.cA
        obtain ⟨e0, e1, e2⟩ := hJ.cB
        have hrv := fun q hq => (hJ.fo.2.1.lt q hq).2
        have HRVL := Lib.hid hrv
        clear hJ hI hra hrb ha hb hl hlk hn hn' oa ob dj0 dj1 xb0 yb0 xb1 yb1 hxl hyl hxh hyh hbl oav oav0 obv obv0 obl hbm hkl hbw hrv
        unfold jvF at s3
        go_enter Try.func76, Try.ntmps76
        go_upto_region 1 with (fail)
        go_cut [24] from 19 to 23 (fun u wx => u = .bool false ∧ wx = w)
        case first =>
          by_cases hx2 : x < 2
          · have hy2 : ¬ y < 2 := fun h => h2 ⟨hx2, h⟩
            have hx2i : (x : Int) < 2 := by omega
            have hy2i : ¬ (y : Int) < 2 := by omega
            clear h2
            go_wp2_with (fail)
            go_meet
            case rel => exact ⟨rfl, rfl⟩
          · have hx2i : ¬ (x : Int) < 2 := by omega
            clear h2
            go_wp2_with (fail)
            go_meet
            case rel => exact ⟨rfl, rfl⟩
        case rest =>
          obtain ⟨rfl, rfl⟩ := hcut
          obtain ⟨wq, rfl⟩ : ∃ wq, wq = wc := ⟨_, rfl⟩
          go_upto_region 6 with (first
            | (at_lookup
               refine wpList_lookI _ rfl (.tmp 30) (.tmp 33) rfl rfl (.agg #[.int .i64 x, .int .i64 y]) rfl _ HLK.out ?_))
          go_cut [13] from 39 to 45 (fun u wx => u = .int .i64 lv ∧ Hid (Below wq.heap.size wq wx))
          case first =>
            refine wp_region_held_drew (S := (fun w' => (w'.cell? ⟨bA, 0, none⟩ = some (.int .i64 X) ∧ w'.cell? ⟨bA, 1, none⟩ = some (.slice A n c) ∧ w'.cell? ⟨bA, 2, none⟩ = some (.int .i64 RA)) ∧ w'.cell? ⟨bB, 0, none⟩ = some (.int .i64 X) ∧ w'.cell? ⟨bB, 1, none⟩ = some (.slice A' n' c') ∧ w'.cell? ⟨bB, 2, none⟩ = some (.int .i64 RB))) (by kernel_rfl) ?_ (fun hHeld => ?_)
            · exact (by exact ⟨⟨d0, d1, d2⟩, e0, e1, e2⟩)
            refine rg_take (v := ?_) 0 rfl (by kernel_rfl) (by kernel_rfl) (by kernel_rfl) (fun _ _ _ h => h) (by kernel_rfl) ?_ (by assumption) ?_
            rotate_left
            · (intro w' hSw; (try dsimp only at hSw); go_simp; first | done | with_reducible rfl)
            simp only [Act.put, List.setIfInBounds_toArray, List.set_cons_zero, List.set_cons_succ]
            refine rg_take (v := ?_) 1 rfl (by kernel_rfl) (by kernel_rfl) (by kernel_rfl) (fun _ _ _ h => h) (by kernel_rfl) ?_ (by assumption) ?_
            rotate_left
            · (intro w' hSw; (try dsimp only at hSw); go_simp; first | done | with_reducible rfl)
            simp only [Act.put, List.setIfInBounds_toArray, List.set_cons_zero, List.set_cons_succ]
            refine rg_take (v := ?_) 3 rfl (by kernel_rfl) (by kernel_rfl) (by kernel_rfl) (fun _ _ _ h => h) (by kernel_rfl) ?_ (by assumption) ?_
            rotate_left
            · (intro w' hSw; (try dsimp only at hSw); go_simp; first | done | with_reducible rfl)
            simp only [Act.put, List.setIfInBounds_toArray, List.set_cons_zero, List.set_cons_succ]
            refine rg_take (v := ?_) 4 rfl (by kernel_rfl) (by kernel_rfl) (by kernel_rfl) (fun _ _ _ h => h) (by kernel_rfl) ?_ (by assumption) ?_
            rotate_left
            · (intro w' hSw; (try dsimp only at hSw); go_simp; first | done | with_reducible rfl)
            simp only [Act.put, List.setIfInBounds_toArray, List.set_cons_zero, List.set_cons_succ]
            refine rg_run 2 rfl (by kernel_rfl) (by kernel_rfl) (fun K hK => ?_)
            go_simp
            refine (HLA.out _ (HRA.out _ (by first | exact HBW.out | exact HBW.out.drew))).mono ?_
            rintro e w1 ⟨rfl, hb⟩
            replace d0 := cell_later hb (by exact d0)
            replace d1 := cell_later hb (by exact d1)
            replace d2 := cell_later hb (by exact d2)
            replace e0 := cell_later hb (by exact e0)
            replace e1 := cell_later hb (by exact e1)
            replace e2 := cell_later hb (by exact e2)
            have HS1 := Lib.hid (show Below wq.heap.size wq w1 from below_chain (by exact (Below.refl _ _).drew) hb)
            clear hb
            go_wp2
            clear hHeld
            refine hK.out _ _ (by exact ⟨⟨d0, d1, d2⟩, e0, e1, e2⟩) (fun hHeld => ?_)
            clear hK K
            try simp only [Act.put, List.setIfInBounds_toArray, List.set_cons_zero, List.set_cons_succ]
            refine rg_run 5 rfl (by kernel_rfl) (by kernel_rfl) (fun K hK => ?_)
            go_simp
            refine (HLB.out _ (HRB.out _ (below_chain HBW.out HS1.out))).mono ?_
            rintro e w2 ⟨rfl, hb⟩
            replace d0 := cell_later hb (by exact d0)
            replace d1 := cell_later hb (by exact d1)
            replace d2 := cell_later hb (by exact d2)
            replace e0 := cell_later hb (by exact e0)
            replace e1 := cell_later hb (by exact e1)
            replace e2 := cell_later hb (by exact e2)
            have HS2 := Lib.hid (below_chain HS1.out hb)
            clear hb
            go_wp2
            clear hHeld
            refine hK.out _ _ (by exact ⟨⟨d0, d1, d2⟩, e0, e1, e2⟩) (fun hHeld => ?_)
            clear hK K
            try simp only [Act.put, List.setIfInBounds_toArray, List.set_cons_zero, List.set_cons_succ]
            refine rg_take (v := ?_) 6 rfl (by kernel_rfl) (by kernel_rfl) (by kernel_rfl) (fun _ _ _ h => h) (by kernel_rfl) ?_ (by assumption) ?_
            rotate_left
            · (intro w' hSw; (try dsimp only at hSw); go_simp; first | done | with_reducible rfl)
            simp only [Act.put, List.setIfInBounds_toArray, List.set_cons_zero, List.set_cons_succ]
            refine rg_take (v := ?_) 7 rfl (by kernel_rfl) (by kernel_rfl) (by kernel_rfl) (fun _ _ _ h => h) (by kernel_rfl) ?_ (by assumption) ?_
            rotate_left
            · (intro w' hSw; (try dsimp only at hSw); go_simp; first | done | with_reducible rfl)
            simp only [Act.put, List.setIfInBounds_toArray, List.set_cons_zero, List.set_cons_succ]
            refine wpAnyH_done (by kernel_rfl) ?_ _
            clear hHeld
            clear d0 d1 d2 e0 e1 e2
            go_wp2_with (fail)
            all_goals go_meet
            all_goals exact ⟨congrArg (Value.int .i64) (by have := HMIN.out; omega), HS2⟩
          case rest =>
            obtain ⟨rfl, HBD⟩ := hcut
            have J1 := Lib.hid (HJB.out.below HBD.out)
            have HB1 := Lib.hid (below_chain HBW.out HBD.out)
            have HF1 := Lib.hid (show Fr (PR lo (KJ bmf bm) v.ownBlock) wq wc from Fr.of_below HBD.out)
            clear s0 s1 s2 s3 d0 d1 d2 e0 e1 e2 HLA HLB HLK HBD HJB HBW
            obtain ⟨d0, d1, d2⟩ := J1.out.cA
            obtain ⟨e0, e1, e2⟩ := J1.out.cB
            have hl1 : lo ≤ wc.heap.size := Nat.le_trans hlw HF1.out.size
            go_wp2_with (fail)
            refine (HCA.out _ (HRA.out _ HB1.out)).mono ?_
            rintro e w3 ⟨rfl, hb⟩
            have J3 := Lib.hid (J1.out.below hb)
            have HB3 := Lib.hid (below_chain HB1.out hb)
            have HF3 := Lib.hid (HF1.out.trans (Fr.of_below hb))
            replace e0 := cell_later hb e0
            replace e1 := cell_later hb e1
            replace e2 := cell_later hb e2
            have hl3 : lo ≤ w3.heap.size := Nat.le_trans hl1 hb.size
            clear hb J1 HB1 HF1 d0 d1 d2 HCA
            go_wp2_with (fail)
            refine (HCB.out _ (HRB.out _ HB3.out)).mono ?_
            rintro e w4 ⟨rfl, hb⟩
            have J4 := Lib.hid (J3.out.below hb)
            have HB4 := Lib.hid (below_chain HB3.out hb)
            have HF4 := Lib.hid (HF3.out.trans (Fr.of_below hb))
            have hl4 : lo ≤ w4.heap.size := Nat.le_trans hl3 hb.size
            clear hb J3 HB3 HF3 e0 e1 e2 HCB
            obtain ⟨s0, s1, s2, s3⟩ := J4.out.cS
            unfold jvF at s3
            go_wp2_with (fail)
            refine wp_region_held_drew (S := (fun w' => w'.cell? ⟨bF, 0, none⟩ = some (.pointer (some ⟨bf, 0, none⟩)) ∧ w'.cell? ⟨bV, 0, none⟩ = some (.func (.func 76) #[] #[.pointer (some ⟨bJ, 0, none⟩), .pointer (some ⟨bM, 0, none⟩), .pointer (some ⟨bA, 0, none⟩), .pointer (some ⟨bB, 0, none⟩), .pointer (some ⟨bF, 0, none⟩), .pointer (some ⟨bV, 0, none⟩)]))) (by kernel_rfl) ?_ (fun hHeld => ?_)
            · exact (by exact ⟨s2, s3⟩)
            refine rg_take (v := ?_) 0 rfl (by kernel_rfl) (by kernel_rfl) (by kernel_rfl) (fun _ _ _ h => h) (by kernel_rfl) ?_ (by assumption) ?_
            rotate_left
            · (intro w' hSw; (try dsimp only at hSw); go_simp; first | done | with_reducible rfl)
            simp only [Act.put, List.setIfInBounds_toArray, List.set_cons_zero, List.set_cons_succ]
            refine rg_take (v := ?_) 1 rfl (by kernel_rfl) (by kernel_rfl) (by kernel_rfl) (fun _ _ _ h => h) (by kernel_rfl) ?_ (by assumption) ?_
            rotate_left
            · (intro w' hSw; (try dsimp only at hSw); go_simp; first | done | with_reducible rfl)
            simp only [Act.put, List.setIfInBounds_toArray, List.set_cons_zero, List.set_cons_succ]
            refine rg_take (v := ?_) 2 rfl (by kernel_rfl) (by kernel_rfl) (by kernel_rfl) (fun _ _ _ h => h) (by kernel_rfl) ?_ (by assumption) ?_
            rotate_left
            · (intro w' hSw; (try dsimp only at hSw); go_simp; first | done | with_reducible rfl)
            simp only [Act.put, List.setIfInBounds_toArray, List.set_cons_zero, List.set_cons_succ]
            refine rg_take (v := ?_) 3 rfl (by kernel_rfl) (by kernel_rfl) (by kernel_rfl) (fun _ _ _ h => h) (by kernel_rfl) ?_ (by assumption) ?_
            rotate_left
            · (intro w' hSw; (try dsimp only at hSw); go_simp; first | done | with_reducible rfl)
            simp only [Act.put, List.setIfInBounds_toArray, List.set_cons_zero, List.set_cons_succ]
            refine rg_take (v := ?_) 4 rfl (by kernel_rfl) (by kernel_rfl) (by kernel_rfl) (fun _ _ _ h => h) (by kernel_rfl) ?_ (by assumption) ?_
            rotate_left
            · (intro w' hSw; (try dsimp only at hSw); go_simp; first | done | with_reducible rfl)
            simp only [Act.put, List.setIfInBounds_toArray, List.set_cons_zero, List.set_cons_succ]
            refine rg_take (v := ?_) 6 rfl (by kernel_rfl) (by kernel_rfl) (by kernel_rfl) (fun _ _ _ h => h) (by kernel_rfl) ?_ (by assumption) ?_
            rotate_left
            · (intro w' hSw; (try dsimp only at hSw); go_simp; first | done | with_reducible rfl)
            simp only [Act.put, List.setIfInBounds_toArray, List.set_cons_zero, List.set_cons_succ]
            refine rg_take (v := ?_) 7 rfl (by kernel_rfl) (by kernel_rfl) (by kernel_rfl) (fun _ _ _ h => h) (by kernel_rfl) ?_ (by assumption) ?_
            rotate_left
            · (intro w' hSw; (try dsimp only at hSw); go_simp; first | done | with_reducible rfl)
            simp only [Act.put, List.setIfInBounds_toArray, List.set_cons_zero, List.set_cons_succ]
            refine rg_take (v := ?_) 8 rfl (by kernel_rfl) (by kernel_rfl) (by kernel_rfl) (fun _ _ _ h => h) (by kernel_rfl) ?_ (by assumption) ?_
            rotate_left
            · (intro w' hSw; (try dsimp only at hSw); go_simp; first | done | with_reducible rfl)
            simp only [Act.put, List.setIfInBounds_toArray, List.set_cons_zero, List.set_cons_succ]
            refine rg_run 5 rfl (by kernel_rfl) (by kernel_rfl) (fun K hK => ?_)
            go_simp
            refine (HIA.out v _ (by first | exact HB4.out | exact HB4.out.drew) (by exact hl4) (by first | exact J4.out | exact J4.out.drew)).mono ?_
            rintro e w5 ⟨rfl, v5, hJ5, hF5, hR5⟩
            have J5 := Lib.hid hJ5
            have HF5 := Lib.hid (HF4.out.trans ((show Fr (PR lo (KJ bmf bm) v.ownBlock) w4 _ from (Fr.of_below (Below.refl _ _).drew)).trans hF5))
            have HR5 := Lib.hid (show RC wq v v5 from (RC.refl wq v).trans hR5 (by have := HF4.out.size; exact this))
            have HB5 := Lib.hid ((show Below W0.heap.size W0 w4.drew from HB4.out.drew).trans ((PR.below hF5 (by exact hl4)).mono hlo))
            have hl5 : lo ≤ w5.heap.size := Nat.le_trans hl4 hF5.size
            clear hJ5 hF5 hR5 J4 HB4 HF4 HIA s0 s1 s2 s3
            obtain ⟨s0, s1, s2, s3⟩ := J5.out.cS
            unfold jvF at s3
            go_wp2
            clear hHeld
            refine hK.out _ _ (by exact ⟨s2, s3⟩) (fun hHeld => ?_)
            clear hK K
            try simp only [Act.put, List.setIfInBounds_toArray, List.set_cons_zero, List.set_cons_succ]
            refine rg_run 9 rfl (by kernel_rfl) (by kernel_rfl) (fun K hK => ?_)
            go_simp
            refine (HIB.out v5 _ (by exact HB5.out) (by exact hl5) (by exact J5.out)).mono ?_
            rintro e w6 ⟨rfl, v6, hJ6, hF6, hR6⟩
            have J6 := Lib.hid hJ6
            have HF6 := Lib.hid (HF5.out.rows HR5.out hF6)
            have HR6 := Lib.hid (HR5.out.trans hR6 HF5.out.size)
            have HB6 := Lib.hid (HB5.out.trans ((PR.below hF6 (by exact hl5)).mono hlo))
            have hl6 : lo ≤ w6.heap.size := Nat.le_trans hl5 hF6.size
            clear hJ6 hF6 hR6 J5 HB5 HF5 HR5 HIB s0 s1 s2 s3
            obtain ⟨s0, s1, s2, s3⟩ := J6.out.cS
            unfold jvF at s3
            go_wp2
            clear hHeld
            refine hK.out _ _ (by exact ⟨s2, s3⟩) (fun hHeld => ?_)
            clear hK K
            try simp only [Act.put, List.setIfInBounds_toArray, List.set_cons_zero, List.set_cons_succ]
            refine rg_run 10 rfl (by kernel_rfl) (by kernel_rfl) (fun K hK => ?_)
            go_simp
            refine (c_node lo bf bmf X lv A1.2 B1.2 v6 B1.1.2 _ (by omega) (by exact hl6) HWI.out HWA.out HWB.out (by exact J6.out.fo)).mono ?_
            rintro e w7 ⟨rfl, v7, hO7, hF7, hR7⟩
            have J7 := Lib.hid (J6.out.node hF7 hO7)
            have HF7 := Lib.hid (HF6.out.rows HR6.out (KJ.of_KF hF7))
            have HR7 := Lib.hid (HR6.out.trans hR7 HF6.out.size)
            clear hO7 hF7 hR7 J6 HB6 HF6 HR6 s0 s1 s2 s3 hl6 hl5 hl4 hl3 hl1
            obtain ⟨s0, s1, s2, s3⟩ := J7.out.cS
            unfold jvF at s3
            go_wp2
            clear hHeld
            refine hK.out _ _ (by exact ⟨s2, s3⟩) (fun hHeld => ?_)
            clear hK K
            try simp only [Act.put, List.setIfInBounds_toArray, List.set_cons_zero, List.set_cons_succ]
            refine rg_take (v := ?_) 11 rfl (by kernel_rfl) (by kernel_rfl) (by kernel_rfl) (fun _ _ _ h => h) (by kernel_rfl) ?_ (by assumption) ?_
            rotate_left
            · (intro w' hSw; (try dsimp only at hSw); go_simp; first | done | with_reducible rfl)
            simp only [Act.put, List.setIfInBounds_toArray, List.set_cons_zero, List.set_cons_succ]
            refine wpAnyH_done (by kernel_rfl) ?_ _
            clear hHeld
            have hmg := mkN_good (i := lv) HOB.out.inv.good HOA.out.v0 (by have := HOA.out.v1; have := HOB.out.len; omega) HOB.out.v0 HOB.out.v1
            have hml := mkN_len B1.1.2 ⟨lv, A1.2, B1.2⟩
            generalize mkN B1.1.2 ⟨lv, A1.2, B1.2⟩ = M at *
            have hwz : (Lit.int .i64 M.2).wf = true := WalkArith.wf_i64 ⟨by omega, by omega⟩
            obtain ⟨w8, hz1, hz2, hz3⟩ := J7.out.mp.put lawPair Try.underlying104 HKL.out hwz (by dsimp only; omega) (prF_put (r := M.2) HL2.out)
            have hz2' : MapI 105 w8 bm (B1.1.1 ++ [(⟨x, y, M.2⟩ : Jp)]).length (prF (B1.1.1 ++ [(⟨x, y, M.2⟩ : Jp)])) := by rw [List.length_append, List.length_singleton]; exact hz2
            have J8 := Lib.hid (J7.out.put hz2' hz3)
            have HF8 := Lib.hid (HF7.out.rows HR7.out (show Fr (PR lo (KJ bmf bm) v7.ownBlock) w7 w8 from Fr.of_grown hz3 (fun q o hq ho => by
              simp only [Option.some.injEq] at hq
              subst hq
              exact ⟨J7.out.l, .inl (.inr ⟨rfl, J7.out.mp.at_ ho⟩)⟩)))
            clear hmg hml hwz hz2 hz2' hz3 s0 s2 s3 J7
            have HZ1 := Lib.hid hz1
            clear hz1
            go_wp2_with (first
              | (refine wpList_updI _ w8 rfl (.tmp 71) (.tmp 74) (.tmp 75) rfl rfl (.agg #[.int .i64 x, .int .i64 y]) (.int .i64 M.2) rfl rfl HZ1.out ?_))
            go_ret
            exact ⟨by rw [HV.out]; rfl, v7, by rw [HV.out]; exact J8.out, HF8.out, HR7.out⟩
      · rw [hl] at hlk
        have HV : Hid (jwk j X la lb (f + 1) st x y = (st, r)) := Lib.hid (by unfold jwk; rw [if_neg h2, hl])
        have HLK := Lib.hid hlk
        clear hJ hI hra hrb ha hb hl hlk hn hn'
        rw [HV.out]
        unfold jvF at s3
        go_enter Try.func76, Try.ntmps76
        go_upto_region 1 with (fail)
        go_cut [24] from 19 to 23 (fun u wx => u = .bool false ∧ wx = w)
        case first =>
          by_cases hx2 : x < 2
          · have hy2 : ¬ y < 2 := fun h => h2 ⟨hx2, h⟩
            have hx2i : (x : Int) < 2 := by omega
            have hy2i : ¬ (y : Int) < 2 := by omega
            clear h2
            go_wp2_with (fail)
            go_meet
            case rel => exact ⟨rfl, rfl⟩
          · have hx2i : ¬ (x : Int) < 2 := by omega
            clear h2
            go_wp2_with (fail)
            go_meet
            case rel => exact ⟨rfl, rfl⟩
        case rest =>
          obtain ⟨rfl, rfl⟩ := hcut
          go_wp2_with (first
            | (at_lookup
               refine wpList_lookI _ rfl (.tmp 30) (.tmp 33) rfl rfl (.agg #[.int .i64 x, .int .i64 y]) rfl _ HLK.out ?_))
          go_ret
          exact ⟨rfl, v, HJB.out, Fr.refl _ _, RC.refl _ _⟩
end Go.Proofs.Ytndihacmlkgkbaa
