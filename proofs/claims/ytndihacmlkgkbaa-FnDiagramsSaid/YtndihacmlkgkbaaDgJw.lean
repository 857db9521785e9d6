/- Contract of l22Join. Condition: the nodes are valid; the sizes. -/
import Derived.Test.YtndihacmlkgkbaaDgJt
import Derived.Deep.Cut
import Derived.Deep.CutRange
import Derived.Deep.CutBlock
namespace Go.Proofs.Ytndihacmlkgkbaa
open Go.RowKit

theorem lk_go {ps : List Jp} {x y k : Nat} {p : Jp} (hp : ps[k]? = some p) (hj : jb p x y = true) (ha : ∀ (q : Nat) (u : Jp), q < k → ps[q]? = some u → jb u x y = false) : lk ps x y = some p.hi := by
  have : ps.find? (fun p => jb p x y) = some p := by
    rw [List.find?_eq_some_iff_getElem]
    obtain ⟨hk, e⟩ := List.getElem?_eq_some_iff.1 hp
    exact ⟨hj, k, hk, e, fun q hq => by rw [ha q _ hq (List.getElem?_eq_getElem (by omega))]; rfl⟩
  unfold lk
  rw [this]
  rfl
theorem lk_no {ps : List Jp} {x y : Nat} (ha : ∀ (q : Nat) (u : Jp), q < ps.length → ps[q]? = some u → jb u x y = false) : lk ps x y = none := by
  have : ps.find? (fun p => jb p x y) = none := by
    rw [List.find?_eq_none]
    intro u hu
    obtain ⟨q, hq, rfl⟩ := List.getElem_of_mem hu
    rw [ha q _ hq (List.getElem?_eq_getElem hq)]
    decide
  unfold lk
  rw [this]
  rfl
/-- The world in the midst of a join. -/
structure JW (lo bo bp b1 b2 : Nat) (va vb : List Value) (W0 w wx : World) (st : Js) : Prop where
  d1 : wx.ownsRow lo 29 3 (.slice (some ⟨b1, 0, none⟩) 1 1) 1 va
  d2 : wx.ownsRow lo 29 3 (.slice (some ⟨b2, 0, none⟩) 1 1) 1 vb
  s : SB lo wx bo st.2
  p : PB lo wx bp st.1
  b : Below W0.heap.size W0 wx
  f : Fr (PJ lo) w wx
  l : lo ≤ wx.heap.size
section
variable {lo bo bp b1 b2 : Nat} {va vb : List Value} {W0 w wx wy : World} {st st' : Js}
theorem JW.below (h : JW lo bo bp b1 b2 va vb W0 w wx st) (hb : Below wx.heap.size wx wy) : JW lo bo bp b1 b2 va vb W0 w wy st :=
  ⟨own_below h.d1 hb, own_below h.d2 hb, h.s.below hb, h.p.below hb, below_chain h.b hb, h.f.trans (Fr.of_below hb), Nat.le_trans h.l hb.size⟩
theorem JW.drew (h : JW lo bo bp b1 b2 va vb W0 w wx st) : JW lo bo bp b1 b2 va vb W0 w wx.drew st := h.below (Below.refl _ _).drew
theorem JW.join (h : JW lo bo bp b1 b2 va vb W0 w wx st) (hl : W0.heap.size ≤ lo) (hf : Fr (PJ lo) wx wy) (hs : SB lo wy bo st'.2) (hp : PB lo wy bp st'.1) : JW lo bo bp b1 b2 va vb W0 w wy st' :=
  ⟨PJ.own hf h.d1, PJ.own hf h.d2, hs, hp, h.b.trans ((PJ.below hf h.l).mono hl), h.f.trans hf, Nat.le_trans h.l hf.size⟩
theorem JW.node {out : List Nd} (h : JW lo bo bp b1 b2 va vb W0 w wx st) (hl : W0.heap.size ≤ lo) (hf : Fr (PS lo) wx wy) (hs : SB lo wy bo out) : JW lo bo bp b1 b2 va vb W0 w wy (st.1, out) :=
  h.join hl (PJ.of_PS hf) hs (h.p.fr hf)
theorem JW.push {y : Jp} {vo : Value} {gv : Value} (h : JW lo bo bp b1 b2 va vb W0 w wx st) (hl : W0.heap.size ≤ lo) (hbx : wx.ownsRow lo 80 1 (.slice (some ⟨bp, 0, none⟩) 1 1) 1 [vo]) (hro : wx.ownsRow lo 103 3 vo st.1.length (ndCells st.1))
    (hg : wx.grownBy wy vo.ownBlock) (hr : wy.ownsRow lo 103 3 gv (st.1 ++ [y]).length (ndCells (st.1 ++ [y]))) :
    JW lo bo bp b1 b2 va vb W0 w (wy.setCell ⟨bp, 0, none⟩ gv) (st.1 ++ [y], st.2) ∧ wy.ownsRow lo 80 1 (.slice (some ⟨bp, 0, none⟩) 1 1) 1 [vo] := by
  have hb2 := hbx.kept hg (.inr (fun e => own_ne hbx hro (by decide) bp rfl e.symm))
  have hst := hb2.stored 0 gv
  simp only [List.set_cons_zero] at hst
  have hr2 := hr.kept hst.2 (by
    rcases hv : gv.ownBlock with _ | q
    · exact .inl rfl
    · exact .inr (fun e => own_ne hb2 hr (by decide) bp rfl (by rw [hv, e])))
  have hf1 : Fr (PJ lo) wx wy := Fr.of_grown hg (fun q o hq ho => by
    obtain ⟨h1, cur, h2⟩ := own_kind hro hq ho
    exact ⟨h1, cur, _, .inr (.inr (.inl h2))⟩)
  have hf2 : Fr (PJ lo) wy (wy.setCell ⟨bp, 0, none⟩ gv) := Fr.of_grown hst.2 (fun q o hq ho => by
    obtain ⟨h1, cur, h2⟩ := own_kind hb2 hq ho
    exact ⟨h1, cur, _, .inr (.inr (.inr h2))⟩)
  refine ⟨h.join hl (hf1.trans hf2) ?_ ⟨gv, hst.1, hr2⟩, hb2⟩
  exact (h.s.other hro (by decide) (by decide) hg).grown hb2 (by decide) (by decide) rfl hst.2
end
theorem JW.cells1 {lo bo bp b1 b2 : Nat} {x y z : Value} {vb : List Value} {W0 w wx : World} {st : Js} (h : JW lo bo bp b1 b2 [x, y, z] vb W0 w wx st) : wx.cell? ⟨b1, 0, none⟩ = some x ∧ wx.cell? ⟨b1, 1, none⟩ = some y ∧ wx.cell? ⟨b1, 2, none⟩ = some z := by
  have p0 := h.d1.cellAt 0 (by decide)
  have p1 := h.d1.cellAt 1 (by decide)
  have p2 := h.d1.cellAt 2 (by decide)
  simp only [List.getElem?_cons_zero, List.getElem?_cons_succ] at p0 p1 p2
  exact ⟨p0, p1, p2⟩
theorem JW.cells2 {lo bo bp b1 b2 : Nat} {x y z : Value} {va : List Value} {W0 w wx : World} {st : Js} (h : JW lo bo bp b1 b2 va [x, y, z] W0 w wx st) : wx.cell? ⟨b2, 0, none⟩ = some x ∧ wx.cell? ⟨b2, 1, none⟩ = some y ∧ wx.cell? ⟨b2, 2, none⟩ = some z := by
  have p0 := h.d2.cellAt 0 (by decide)
  have p1 := h.d2.cellAt 1 (by decide)
  have p2 := h.d2.cellAt 2 (by decide)
  simp only [List.getElem?_cons_zero, List.getElem?_cons_succ] at p0 p1 p2
  exact ⟨p0, p1, p2⟩
set_option maxHeartbeats 4000000 in
set_option maxRecDepth 100000 in
theorem c_l22Join (lo bo bp : Nat) (j X RA RB : Int) (A : Option Addr) (c n : Nat) (la : List Nd) (A' : Option Addr) (c' n' : Nat) (lb : List Nd) (W0 : World) (hn : n = la.length) (hn' : n' = lb.length) (ha : VN X la) (hb : VN X lb) (hra : Rd W0 A (ndCells la)) (hrb : Rd W0 A' (ndCells lb)) (hlo : W0.heap.size ≤ lo) :
    ∀ (f : Nat) (st : Js) (x y : Nat) (w : World), x + y < f → x < n + 2 → y < n' + 2 → JInv la.length lb.length st → Below W0.heap.size W0 w → lo ≤ w.heap.size → SB lo w bo st.2 → PB lo w bp st.1 →
    Calls Try.prog 63 #[.pointer (some ⟨bo, 0, none⟩), .pointer (some ⟨bp, 0, none⟩), .int .i64 j, .agg #[.int .i64 X, .slice A n c, .int .i64 RA], .agg #[.int .i64 X, .slice A' n' c', .int .i64 RB], .int .i64 x, .int .i64 y] w fun e w' => e = .returned (.int .i64 (jwk j X la lb f st x y).2) ∧ SB lo w' bo (jwk j X la lb f st x y).1.2 ∧ PB lo w' bp (jwk j X la lb f st x y).1.1 ∧ Fr (PJ lo) w w'
  | 0, _, _, _, _, h, _, _, _, _, _, _, _ => by omega
  | f + 1, st, x, y, w, hf, hx, hy, hI, hbw, hlw, hS, hP => by
    have HS := Lib.hid hS
    have HP := Lib.hid hP
    by_cases h2 : x < 2 ∧ y < 2
    · have HV : Hid (jwk j X la lb (f + 1) st x y = (st, jn j x y)) := Lib.hid (by unfold jwk; rw [if_pos h2])
      rw [HV.out]
      refine (c_l22JoinT ⟨bo, 0, none⟩ ⟨bp, 0, none⟩ j _ _ x y w h2.1 h2.2).mono ?_
      rintro e w' ⟨rfl, hbb⟩
      exact ⟨rfl, HS.out.below hbb, HP.out.below hbb, Fr.of_below hbb⟩
    · have HBW := Lib.hid hbw
      have hraA := hra
      have hrbB := hrb
      have HRA := Lib.hid (fun w1 h => Rd.below hra (show Below W0.heap.size W0 w1 from h))
      have HRB := Lib.hid (fun w1 h => Rd.below hrb (show Below W0.heap.size W0 w1 from h))
      have hln := ha.n
      have hln' := hb.n
      rw [← hn] at hln
      rw [← hn'] at hln'
      have HVA := Lib.hid ha
      have HVB := Lib.hid hb
      have HI := Lib.hid hI
      have HNA := Lib.hid hn
      have HNB := Lib.hid hn'
      obtain ⟨v, hbx, hrow⟩ := hP
      obtain ⟨Av, cv, rfl⟩ := own_shape hrow
      have hal1 := below_alloc (Below.refl w.heap.size w) (.cells #[.int .i64 X, .slice A n c, .int .i64 RA] 29)
      have hal2 := below_alloc (Below.refl (w.alloc (.cells #[.int .i64 X, .slice A n c, .int .i64 RA] 29)).heap.size (w.alloc (.cells #[.int .i64 X, .slice A n c, .int .i64 RA] 29))) (.cells #[.int .i64 X, .slice A' n' c', .int .i64 RB] 29)
      have HD1 : Hid (((w.alloc (.cells #[.int .i64 X, .slice A n c, .int .i64 RA] 29)).alloc (.cells #[.int .i64 X, .slice A' n' c', .int .i64 RB] 29)).ownsRow lo 29 3 (.slice (some ⟨w.heap.size, 0, none⟩) 1 1) 1 [.int .i64 X, .slice A n c, .int .i64 RA]) := Lib.hid (own_below (own_box w lo 29 [.int .i64 X, .slice A n c, .int .i64 RA] 3 rfl hlw) hal2)
      have HD2 : Hid (((w.alloc (.cells #[.int .i64 X, .slice A n c, .int .i64 RA] 29)).alloc (.cells #[.int .i64 X, .slice A' n' c', .int .i64 RB] 29)).ownsRow lo 29 3 (.slice (some ⟨w.heap.size + 1, 0, none⟩) 1 1) 1 [.int .i64 X, .slice A' n' c', .int .i64 RB]) := Lib.hid (by
        have h := own_box (w.alloc (.cells #[.int .i64 X, .slice A n c, .int .i64 RA] 29)) lo 29 [.int .i64 X, .slice A' n' c', .int .i64 RB] 3 rfl (by simp; omega)
        simpa using h)
      have HBV := Lib.hid (own_below (own_below hbx hal1) hal2)
      have HRV := Lib.hid (own_below (own_below hrow hal1) hal2)
      have HS2 := Lib.hid ((HS.out.below hal1).below hal2)
      have HB2 := Lib.hid (below_chain hal1 hal2)
      have hsz2 : ((w.alloc (.cells #[.int .i64 X, .slice A n c, .int .i64 RA] 29)).alloc (.cells #[.int .i64 X, .slice A' n' c', .int .i64 RB] 29)).heap.size = w.heap.size + 1 + 1 := by simp
      clear hS hra hrb hbx hrow hal1 hal2 ha hb hI hn hn' hbw HS HP
      go_enter Try.func63, Try.ntmps63
      go_upto_region 1 with (fail)
      generalize (w.alloc (.cells #[.int .i64 X, .slice A n c, .int .i64 RA] 29)).alloc (.cells #[.int .i64 X, .slice A' n' c', .int .i64 RB] 29) = W at *
      go_cut [26] from 21 to 25 (fun v wx => v = .bool false ∧ wx = W)
      case first =>
        by_cases hx2 : x < 2
        · have hy2 : ¬ y < 2 := fun h => h2 ⟨hx2, h⟩
          have hx2i : (x : Int) < 2 := by omega
          have hy2i : ¬ (y : Int) < 2 := by omega
          clear h2
          go_wp2_with (fail)
          go_meet
          case rel => exact ⟨rfl, rfl⟩
        · have hx2i : ¬ (x : Int) < 2 := by omega
          clear h2
          go_wp2_with (fail)
          go_meet
          case rel => exact ⟨rfl, rfl⟩
      case rest =>
        obtain ⟨rfl, rfl⟩ := hcut
        have q0 := HBV.out.cellAt 0 (by decide)
        simp only [List.getElem?_cons_zero] at q0
        obtain ⟨m, hm⟩ : ∃ m, m = st.1.length := ⟨_, rfl⟩
        rw [← hm] at HBV HRV q0
        have HM := Lib.hid hm
        have hml : m ≤ 4008004 := by
          have h3 := HI.out.lt.2
          have h4 := Nat.mul_le_mul (show lb.length + 2 ≤ 2002 by have := HNB.out; omega) (show la.length + 2 ≤ 2002 by have := HNA.out; omega)
          omega
        clear hm
        go_wp2_with (fail)
        go_loopw [15, 16] (fun u _ wr => ∃ k : Nat, k ≤ m ∧ u = .int .i64 k ∧ Hid (∀ (q : Nat) (u : Jp), q < k → st.1[q]? = some u → jb u x y = false) ∧ Below wc.heap.size wc wr) (fun u _ _ => m - (intOf u).toNat)
        case atStart => exact ⟨0, Nat.zero_le _, rfl, Lib.hid (fun q u h => absurd h (by omega)), Below.refl _ _⟩
        case round =>
          obtain ⟨k, hk, rfl, hall, hb⟩ := hrel
          replace q0 := cell_later hb q0
          have hszr := hb.size
          by_cases hlt : k < m
          · obtain ⟨p, hp⟩ : ∃ p, st.1[k]? = some p := ⟨_, List.getElem?_eq_getElem (by have := HM.out; omega)⟩
            obtain ⟨b1, o1, rfl, _, g0, g1, g2⟩ := ((Rd.own HRV.out).below hb).nd hp
            have HPP := Lib.hid hp
            obtain ⟨pa, pb, pr⟩ := p
            dsimp only at g0 g1 g2
            have hkm : (k : Int) < m := by omega
            have HBB := Lib.hid hb
            clear hp hb
            by_cases e1 : pa = x
            · have e1b : (pa == (x : Int)) = true := by simpa using e1
              by_cases e2 : pb = y
              · have e2b : (pb == (y : Int)) = true := by simpa using e2
                have HL : Hid (lk st.1 x y = some pr) := Lib.hid (lk_go HPP.out (by unfold jb; simp [e1, e2]) hall.out)
                have HV : Hid (jwk j X la lb (f + 1) st x y = (st, pr)) := Lib.hid (by unfold jwk; rw [if_neg h2, HL.out])
                clear e1 e2 h2
                go_wp2_with (fail)
                go_ret
                have hbl := HBB.out.trans (below_alloc (Below.refl _ _) (.cells #[.int .i64 pa, .int .i64 pb, .int .i64 pr] 103) |>.mono hszr)
                exact ⟨by rw [HV.out]; rfl, by rw [HV.out]; exact HS2.out.below hbl, by rw [HV.out]; exact PB.below ⟨_, HBV.out, by rw [← HM.out]; exact HRV.out⟩ hbl, Fr.of_below (below_chain HB2.out hbl)⟩
              · have e2b : (pb == (y : Int)) = false := by simpa using e2
                have HNJ : Hid (jb ⟨pa, pb, pr⟩ x y = false) := Lib.hid (by unfold jb; simp [e2])
                have HBZ := Lib.hid (HBB.out.trans (below_alloc (Below.refl wr.heap.size wr) (.cells #[.int .i64 pa, .int .i64 pb, .int .i64 pr] 103) |>.mono hszr))
                clear e1 e2
                go_wp2_with (fail)
                go_roundw
                case rel => exact ⟨k + 1, by omega, by go_num, Lib.hid (fun q u hq hu => by
                  rcases Nat.lt_or_ge q k with h | h
                  · exact hall.out q u h hu
                  · obtain rfl : q = k := by omega
                    rw [HPP.out] at hu
                    simp only [Option.some.injEq] at hu
                    subst hu
                    exact HNJ.out), HBZ.out⟩
                case measure => simp [intOf]; omega
            · have e1b : (pa == (x : Int)) = false := by simpa using e1
              have HNJ : Hid (jb ⟨pa, pb, pr⟩ x y = false) := Lib.hid (by unfold jb; simp [e1])
              have HBZ := Lib.hid (HBB.out.trans (below_alloc (Below.refl wr.heap.size wr) (.cells #[.int .i64 pa, .int .i64 pb, .int .i64 pr] 103) |>.mono hszr))
              clear e1
              go_wp2_with (fail)
              go_roundw
              case rel => exact ⟨k + 1, by omega, by go_num, Lib.hid (fun q u hq hu => by
                rcases Nat.lt_or_ge q k with h | h
                · exact hall.out q u h hu
                · obtain rfl : q = k := by omega
                  rw [HPP.out] at hu
                  simp only [Option.some.injEq] at hu
                  subst hu
                  exact HNJ.out), HBZ.out⟩
              case measure => simp [intOf]; omega
          · obtain rfl : k = m := by omega
            have HL : Hid (lk st.1 x y = none) := Lib.hid (lk_no (by rw [← HM.out]; exact hall.out))
            have dj0 := jdec HVA.out HVB.out h2 (by have := HNA.out; omega) (by have := HNB.out; omega) 0
            have dj1 := jdec HVA.out HVB.out h2 (by have := HNA.out; omega) (by have := HNB.out; omega) 1
            have xb0 := brn_bd (X := X) HVA.out.good (r := x) (by have := HNA.out; omega) (jlv X la lb x y) 0
            have yb0 := brn_bd (X := X) HVB.out.good (r := y) (by have := HNB.out; omega) (jlv X la lb x y) 0
            have xb1 := brn_bd (X := X) HVA.out.good (r := x) (by have := HNA.out; omega) (jlv X la lb x y) 1
            have yb1 := brn_bd (X := X) HVB.out.good (r := y) (by have := HNB.out; omega) (jlv X la lb x y) 1
            obtain ⟨xl, hxl⟩ : ∃ q : Nat, brn X la x (jlv X la lb x y) 0 = q := ⟨(brn X la x (jlv X la lb x y) 0).toNat, by omega⟩
            obtain ⟨yl, hyl⟩ : ∃ q : Nat, brn X lb y (jlv X la lb x y) 0 = q := ⟨(brn X lb y (jlv X la lb x y) 0).toNat, by omega⟩
            obtain ⟨xh, hxh⟩ : ∃ q : Nat, brn X la x (jlv X la lb x y) 1 = q := ⟨(brn X la x (jlv X la lb x y) 1).toNat, by omega⟩
            obtain ⟨yh, hyh⟩ : ∃ q : Nat, brn X lb y (jlv X la lb x y) 1 = q := ⟨(brn X lb y (jlv X la lb x y) 1).toNat, by omega⟩
            rw [hxl, hyl, Int.toNat_natCast, Int.toNat_natCast] at dj0
            rw [hxh, hyh, Int.toNat_natCast, Int.toNat_natCast] at dj1
            have oa := jwk_out (j := j) HVA.out HVB.out f st xl yl (by omega) dj0.2.1 dj0.2.2 HI.out
            have ob := jwk_out (j := j) HVA.out HVB.out f (jwk j X la lb f st xl yl).1 xh yh (by omega) dj1.2.1 dj1.2.2 oa.inv
            have HOA := Lib.hid oa
            have HOB := Lib.hid ob
            have HV : Hid (jwk j X la lb (f + 1) st x y = (((jwk j X la lb f (jwk j X la lb f st xl yl).1 xh yh).1.1 ++ [⟨x, y, (mkN (jwk j X la lb f (jwk j X la lb f st xl yl).1 xh yh).1.2 ⟨jlv X la lb x y, (jwk j X la lb f st xl yl).2, (jwk j X la lb f (jwk j X la lb f st xl yl).1 xh yh).2⟩).2⟩], (mkN (jwk j X la lb f (jwk j X la lb f st xl yl).1 xh yh).1.2 ⟨jlv X la lb x y, (jwk j X la lb f st xl yl).2, (jwk j X la lb f (jwk j X la lb f st xl yl).1 xh yh).2⟩).1), (mkN (jwk j X la lb f (jwk j X la lb f st xl yl).1 xh yh).1.2 ⟨jlv X la lb x y, (jwk j X la lb f st xl yl).2, (jwk j X la lb f (jwk j X la lb f st xl yl).1 xh yh).2⟩).2)) := Lib.hid (by
              rw [jwk, if_neg h2, HL.out]
              dsimp only
              rw [hxl, hyl, hxh, hyh]
              simp only [Int.toNat_natCast])
            have HIA := Lib.hid (fun w1 => c_l22Join lo bo bp j X RA RB A c n la A' c' n' lb W0 HNA.out HNB.out HVA.out HVB.out hraA hrbB hlo f st xl yl w1 (by omega) (by have := HNA.out; omega) (by have := HNB.out; omega) HI.out)
            have HIB := Lib.hid (fun w1 => c_l22Join lo bo bp j X RA RB A c n la A' c' n' lb W0 HNA.out HNB.out HVA.out HVB.out hraA hrbB hlo f (jwk j X la lb f st xl yl).1 xh yh w1 (by omega) (by have := HNA.out; omega) (by have := HNB.out; omega) oa.inv)
            have HLA := Lib.hid (fun w1 h => c_l22Level X RA A c n la x w1 HNA.out (by omega) hx h)
            have HLB := Lib.hid (fun w1 h => c_l22Level X RB A' c' n' lb y w1 HNB.out (by omega) hy h)
            have HBA0 := Lib.hid (fun w1 h => c_l22Branch X RA A c n la x (jlv X la lb x y) 0 w1 HNA.out (by omega) hx h)
            have HBB0 := Lib.hid (fun w1 h => c_l22Branch X RB A' c' n' lb y (jlv X la lb x y) 0 w1 HNB.out (by omega) hy h)
            have HBA1 := Lib.hid (fun w1 h => c_l22Branch X RA A c n la x (jlv X la lb x y) 1 w1 HNA.out (by omega) hx h)
            have HBB1 := Lib.hid (fun w1 h => c_l22Branch X RB A' c' n' lb y (jlv X la lb x y) 1 w1 HNB.out (by omega) hy h)
            rw [hxl] at HBA0
            rw [hyl] at HBB0
            rw [hxh] at HBA1
            rw [hyh] at HBB1
            have hmin : min (lvl X la x) (lvl X lb y) = jlv X la lb x y := rfl
            have HMIN := Lib.hid hmin
            generalize jwk j X la lb f st xl yl = A1 at *
            generalize jwk j X la lb f A1.1 xh yh = B1 at *
            generalize jlv X la lb x y = lv at *
            generalize lvl X la x = l1 at *
            generalize lvl X lb y = l2 at *
            have J0 := Lib.hid (show JW lo bo bp w.heap.size (w.heap.size + 1) [.int .i64 X, .slice A n c, .int .i64 RA] [.int .i64 X, .slice A' n' c', .int .i64 RB] W0 w wr st from ⟨own_below HD1.out hb, own_below HD2.out hb, HS2.out.below hb, PB.below ⟨_, HBV.out, by rw [← HM.out]; exact HRV.out⟩ hb, below_chain (below_chain HBW.out HB2.out) hb, Fr.of_below (below_chain HB2.out hb), by omega⟩)
            obtain ⟨d0, d1, d2⟩ := J0.out.cells1
            obtain ⟨e0, e1, e2⟩ := J0.out.cells2
            clear HD1 HD2 HS2 HBV HRV HB2 HBW hb hall HM HL oa ob dj0 dj1 xb0 yb0 xb1 yb1 hxl hyl hxh hyh hmin h2 hraA hrbB
            go_upto_region 14 with (fail)
            go_cut [17] from 67 to 73 (fun v wx => v = .int .i64 lv ∧ Hid (JW lo bo bp w.heap.size (w.heap.size + 1) [.int .i64 X, .slice A n c, .int .i64 RA] [.int .i64 X, .slice A' n' c', .int .i64 RB] W0 w wx st))
            case first =>
              refine wp_region_held_drew (S := (fun w' => (w'.cell? ⟨w.heap.size, 0, none⟩ = some (.int .i64 X) ∧ w'.cell? ⟨w.heap.size, 1, none⟩ = some (.slice A n c) ∧ w'.cell? ⟨w.heap.size, 2, none⟩ = some (.int .i64 RA)) ∧ w'.cell? ⟨w.heap.size + 1, 0, none⟩ = some (.int .i64 X) ∧ w'.cell? ⟨w.heap.size + 1, 1, none⟩ = some (.slice A' n' c') ∧ w'.cell? ⟨w.heap.size + 1, 2, none⟩ = some (.int .i64 RB))) (by kernel_rfl) ?_ (fun hHeld => ?_)
              · exact (by exact ⟨⟨d0, d1, d2⟩, e0, e1, e2⟩)
              refine rg_take (v := ?_) 0 rfl (by kernel_rfl) (by kernel_rfl) (by kernel_rfl) (fun _ _ _ h => h) (by kernel_rfl) ?_ (by assumption) ?_
              rotate_left
              · (intro w' hSw; (try dsimp only at hSw); go_simp; first | done | with_reducible rfl)
              simp only [Act.put, List.setIfInBounds_toArray, List.set_cons_zero, List.set_cons_succ]
              refine rg_take (v := ?_) 1 rfl (by kernel_rfl) (by kernel_rfl) (by kernel_rfl) (fun _ _ _ h => h) (by kernel_rfl) ?_ (by assumption) ?_
              rotate_left
              · (intro w' hSw; (try dsimp only at hSw); go_simp; first | done | with_reducible rfl)
              simp only [Act.put, List.setIfInBounds_toArray, List.set_cons_zero, List.set_cons_succ]
              refine rg_take (v := ?_) 3 rfl (by kernel_rfl) (by kernel_rfl) (by kernel_rfl) (fun _ _ _ h => h) (by kernel_rfl) ?_ (by assumption) ?_
              rotate_left
              · (intro w' hSw; (try dsimp only at hSw); go_simp; first | done | with_reducible rfl)
              simp only [Act.put, List.setIfInBounds_toArray, List.set_cons_zero, List.set_cons_succ]
              refine rg_take (v := ?_) 4 rfl (by kernel_rfl) (by kernel_rfl) (by kernel_rfl) (fun _ _ _ h => h) (by kernel_rfl) ?_ (by assumption) ?_
              rotate_left
              · (intro w' hSw; (try dsimp only at hSw); go_simp; first | done | with_reducible rfl)
              simp only [Act.put, List.setIfInBounds_toArray, List.set_cons_zero, List.set_cons_succ]
              refine rg_run 2 rfl (by kernel_rfl) (by kernel_rfl) (fun K hK => ?_)
              go_simp
              refine (HLA.out _ (HRA.out _ (by first | exact J0.out.b | exact J0.out.b.drew))).mono ?_
              rintro e wx1 ⟨rfl, hb⟩
              have J1 := Lib.hid (JW.below (by first | exact J0.out | exact J0.out.drew) hb)
              clear hb J0 d0 d1 d2 e0 e1 e2
              obtain ⟨d0, d1, d2⟩ := J1.out.cells1
              obtain ⟨e0, e1, e2⟩ := J1.out.cells2
              go_wp2
              clear hHeld
              refine hK.out _ _ (by exact ⟨⟨d0, d1, d2⟩, e0, e1, e2⟩) (fun hHeld => ?_)
              clear hK K
              try simp only [Act.put, List.setIfInBounds_toArray, List.set_cons_zero, List.set_cons_succ]
              refine rg_run 5 rfl (by kernel_rfl) (by kernel_rfl) (fun K hK => ?_)
              go_simp
              refine (HLB.out _ (HRB.out _ (by first | exact J1.out.b | exact J1.out.b.drew))).mono ?_
              rintro e wx2 ⟨rfl, hb⟩
              have J2 := Lib.hid (JW.below (by first | exact J1.out | exact J1.out.drew) hb)
              clear hb J1 d0 d1 d2 e0 e1 e2
              obtain ⟨d0, d1, d2⟩ := J2.out.cells1
              obtain ⟨e0, e1, e2⟩ := J2.out.cells2
              go_wp2
              clear hHeld
              refine hK.out _ _ (by exact ⟨⟨d0, d1, d2⟩, e0, e1, e2⟩) (fun hHeld => ?_)
              clear hK K
              try simp only [Act.put, List.setIfInBounds_toArray, List.set_cons_zero, List.set_cons_succ]
              refine rg_take (v := ?_) 6 rfl (by kernel_rfl) (by kernel_rfl) (by kernel_rfl) (fun _ _ _ h => h) (by kernel_rfl) ?_ (by assumption) ?_
              rotate_left
              · (intro w' hSw; (try dsimp only at hSw); go_simp; first | done | with_reducible rfl)
              simp only [Act.put, List.setIfInBounds_toArray, List.set_cons_zero, List.set_cons_succ]
              refine rg_take (v := ?_) 7 rfl (by kernel_rfl) (by kernel_rfl) (by kernel_rfl) (fun _ _ _ h => h) (by kernel_rfl) ?_ (by assumption) ?_
              rotate_left
              · (intro w' hSw; (try dsimp only at hSw); go_simp; first | done | with_reducible rfl)
              simp only [Act.put, List.setIfInBounds_toArray, List.set_cons_zero, List.set_cons_succ]
              refine wpAnyH_done (by kernel_rfl) ?_ _
              clear hHeld
              clear d0 d1 d2 e0 e1 e2
              go_wp2_with (fail)
              all_goals go_meet
              all_goals exact ⟨congrArg (Value.int .i64) (by have := HMIN.out; omega), by first | exact J2 | exact Lib.hid J2.out.drew⟩
            case rest =>
              obtain ⟨rfl, HJ2⟩ := hcut
              have J2 := Lib.hid HJ2.out
              clear HJ2 J0 d0 d1 d2 e0 e1 e2 HLA HLB
              obtain ⟨d0, d1, d2⟩ := J2.out.cells1
              obtain ⟨e0, e1, e2⟩ := J2.out.cells2
              go_wp2_with (fail)
              refine wp_region_held_drew (S := (fun w' => (w'.cell? ⟨w.heap.size, 0, none⟩ = some (.int .i64 X) ∧ w'.cell? ⟨w.heap.size, 1, none⟩ = some (.slice A n c) ∧ w'.cell? ⟨w.heap.size, 2, none⟩ = some (.int .i64 RA)) ∧ w'.cell? ⟨w.heap.size + 1, 0, none⟩ = some (.int .i64 X) ∧ w'.cell? ⟨w.heap.size + 1, 1, none⟩ = some (.slice A' n' c') ∧ w'.cell? ⟨w.heap.size + 1, 2, none⟩ = some (.int .i64 RB))) (by kernel_rfl) ?_ (fun hHeld => ?_)
              · exact (by exact ⟨⟨d0, d1, d2⟩, e0, e1, e2⟩)
              refine rg_take (v := ?_) 0 rfl (by kernel_rfl) (by kernel_rfl) (by kernel_rfl) (fun _ _ _ h => h) (by kernel_rfl) ?_ (by assumption) ?_
              rotate_left
              · (intro w' hSw; (try dsimp only at hSw); go_simp; first | done | with_reducible rfl)
              simp only [Act.put, List.setIfInBounds_toArray, List.set_cons_zero, List.set_cons_succ]
              refine rg_take (v := ?_) 1 rfl (by kernel_rfl) (by kernel_rfl) (by kernel_rfl) (fun _ _ _ h => h) (by kernel_rfl) ?_ (by assumption) ?_
              rotate_left
              · (intro w' hSw; (try dsimp only at hSw); go_simp; first | done | with_reducible rfl)
              simp only [Act.put, List.setIfInBounds_toArray, List.set_cons_zero, List.set_cons_succ]
              refine rg_take (v := ?_) 2 rfl (by kernel_rfl) (by kernel_rfl) (by kernel_rfl) (fun _ _ _ h => h) (by kernel_rfl) ?_ (by assumption) ?_
              rotate_left
              · (intro w' hSw; (try dsimp only at hSw); go_simp; first | done | with_reducible rfl)
              simp only [Act.put, List.setIfInBounds_toArray, List.set_cons_zero, List.set_cons_succ]
              refine rg_take (v := ?_) 3 rfl (by kernel_rfl) (by kernel_rfl) (by kernel_rfl) (fun _ _ _ h => h) (by kernel_rfl) ?_ (by assumption) ?_
              rotate_left
              · (intro w' hSw; (try dsimp only at hSw); go_simp; first | done | with_reducible rfl)
              simp only [Act.put, List.setIfInBounds_toArray, List.set_cons_zero, List.set_cons_succ]
              refine rg_take (v := ?_) 4 rfl (by kernel_rfl) (by kernel_rfl) (by kernel_rfl) (fun _ _ _ h => h) (by kernel_rfl) ?_ (by assumption) ?_
              rotate_left
              · (intro w' hSw; (try dsimp only at hSw); go_simp; first | done | with_reducible rfl)
              simp only [Act.put, List.setIfInBounds_toArray, List.set_cons_zero, List.set_cons_succ]
              refine rg_take (v := ?_) 5 rfl (by kernel_rfl) (by kernel_rfl) (by kernel_rfl) (fun _ _ _ h => h) (by kernel_rfl) ?_ (by assumption) ?_
              rotate_left
              · (intro w' hSw; (try dsimp only at hSw); go_simp; first | done | with_reducible rfl)
              simp only [Act.put, List.setIfInBounds_toArray, List.set_cons_zero, List.set_cons_succ]
              refine rg_take (v := ?_) 6 rfl (by kernel_rfl) (by kernel_rfl) (by kernel_rfl) (fun _ _ _ h => h) (by kernel_rfl) ?_ (by assumption) ?_
              rotate_left
              · (intro w' hSw; (try dsimp only at hSw); go_simp; first | done | with_reducible rfl)
              simp only [Act.put, List.setIfInBounds_toArray, List.set_cons_zero, List.set_cons_succ]
              refine rg_take (v := ?_) 7 rfl (by kernel_rfl) (by kernel_rfl) (by kernel_rfl) (fun _ _ _ h => h) (by kernel_rfl) ?_ (by assumption) ?_
              rotate_left
              · (intro w' hSw; (try dsimp only at hSw); go_simp; first | done | with_reducible rfl)
              simp only [Act.put, List.setIfInBounds_toArray, List.set_cons_zero, List.set_cons_succ]
              refine rg_take (v := ?_) 9 rfl (by kernel_rfl) (by kernel_rfl) (by kernel_rfl) (fun _ _ _ h => h) (by kernel_rfl) ?_ (by assumption) ?_
              rotate_left
              · (intro w' hSw; (try dsimp only at hSw); go_simp; first | done | with_reducible rfl)
              simp only [Act.put, List.setIfInBounds_toArray, List.set_cons_zero, List.set_cons_succ]
              refine rg_take (v := ?_) 10 rfl (by kernel_rfl) (by kernel_rfl) (by kernel_rfl) (fun _ _ _ h => h) (by kernel_rfl) ?_ (by assumption) ?_
              rotate_left
              · (intro w' hSw; (try dsimp only at hSw); go_simp; first | done | with_reducible rfl)
              simp only [Act.put, List.setIfInBounds_toArray, List.set_cons_zero, List.set_cons_succ]
              refine rg_take (v := ?_) 11 rfl (by kernel_rfl) (by kernel_rfl) (by kernel_rfl) (fun _ _ _ h => h) (by kernel_rfl) ?_ (by assumption) ?_
              rotate_left
              · (intro w' hSw; (try dsimp only at hSw); go_simp; first | done | with_reducible rfl)
              simp only [Act.put, List.setIfInBounds_toArray, List.set_cons_zero, List.set_cons_succ]
              refine rg_run 8 rfl (by kernel_rfl) (by kernel_rfl) (fun K hK => ?_)
              go_simp
              refine (HBA0.out _ (HRA.out _ (by first | exact J2.out.b | exact J2.out.b.drew))).mono ?_
              rintro e wx3a ⟨rfl, hb⟩
              have J3a := Lib.hid (JW.below (by first | exact J2.out | exact J2.out.drew) hb)
              clear hb J2 d0 d1 d2 e0 e1 e2
              obtain ⟨d0, d1, d2⟩ := J3a.out.cells1
              obtain ⟨e0, e1, e2⟩ := J3a.out.cells2
              go_wp2
              clear hHeld
              refine hK.out _ _ (by exact ⟨⟨d0, d1, d2⟩, e0, e1, e2⟩) (fun hHeld => ?_)
              clear hK K
              try simp only [Act.put, List.setIfInBounds_toArray, List.set_cons_zero, List.set_cons_succ]
              refine rg_run 12 rfl (by kernel_rfl) (by kernel_rfl) (fun K hK => ?_)
              go_simp
              refine (HBB0.out _ (HRB.out _ (by first | exact J3a.out.b | exact J3a.out.b.drew))).mono ?_
              rintro e wx3b ⟨rfl, hb⟩
              have J3b := Lib.hid (JW.below (by first | exact J3a.out | exact J3a.out.drew) hb)
              clear hb J3a d0 d1 d2 e0 e1 e2
              obtain ⟨d0, d1, d2⟩ := J3b.out.cells1
              obtain ⟨e0, e1, e2⟩ := J3b.out.cells2
              go_wp2
              clear hHeld
              refine hK.out _ _ (by exact ⟨⟨d0, d1, d2⟩, e0, e1, e2⟩) (fun hHeld => ?_)
              clear hK K
              try simp only [Act.put, List.setIfInBounds_toArray, List.set_cons_zero, List.set_cons_succ]
              refine rg_run 13 rfl (by kernel_rfl) (by kernel_rfl) (fun K hK => ?_)
              go_simp
              refine (HIA.out _ (by exact J3b.out.b) (by exact J3b.out.l) (by exact J3b.out.s) (by exact J3b.out.p)).mono ?_
              rintro e wx3c ⟨rfl, hs7, hp7, hf7⟩
              have J3c := Lib.hid (JW.join (by exact J3b.out) hlo hf7 hs7 hp7)
              clear hs7 hp7 hf7 J3b HIA d0 d1 d2 e0 e1 e2
              obtain ⟨d0, d1, d2⟩ := J3c.out.cells1
              obtain ⟨e0, e1, e2⟩ := J3c.out.cells2
              go_wp2
              clear hHeld
              refine hK.out _ _ (by exact ⟨⟨d0, d1, d2⟩, e0, e1, e2⟩) (fun hHeld => ?_)
              clear hK K
              try simp only [Act.put, List.setIfInBounds_toArray, List.set_cons_zero, List.set_cons_succ]
              refine rg_take (v := ?_) 14 rfl (by kernel_rfl) (by kernel_rfl) (by kernel_rfl) (fun _ _ _ h => h) (by kernel_rfl) ?_ (by assumption) ?_
              rotate_left
              · (intro w' hSw; (try dsimp only at hSw); go_simp; first | done | with_reducible rfl)
              simp only [Act.put, List.setIfInBounds_toArray, List.set_cons_zero, List.set_cons_succ]
              refine wpAnyH_done (by kernel_rfl) ?_ _
              clear hHeld
              go_wp2_with (fail)
              refine wp_region_held_drew (S := (fun w' => (w'.cell? ⟨w.heap.size, 0, none⟩ = some (.int .i64 X) ∧ w'.cell? ⟨w.heap.size, 1, none⟩ = some (.slice A n c) ∧ w'.cell? ⟨w.heap.size, 2, none⟩ = some (.int .i64 RA)) ∧ w'.cell? ⟨w.heap.size + 1, 0, none⟩ = some (.int .i64 X) ∧ w'.cell? ⟨w.heap.size + 1, 1, none⟩ = some (.slice A' n' c') ∧ w'.cell? ⟨w.heap.size + 1, 2, none⟩ = some (.int .i64 RB))) (by kernel_rfl) ?_ (fun hHeld => ?_)
              · exact (by exact ⟨⟨d0, d1, d2⟩, e0, e1, e2⟩)
              refine rg_take (v := ?_) 0 rfl (by kernel_rfl) (by kernel_rfl) (by kernel_rfl) (fun _ _ _ h => h) (by kernel_rfl) ?_ (by assumption) ?_
              rotate_left
              · (intro w' hSw; (try dsimp only at hSw); go_simp; first | done | with_reducible rfl)
              simp only [Act.put, List.setIfInBounds_toArray, List.set_cons_zero, List.set_cons_succ]
              refine rg_take (v := ?_) 1 rfl (by kernel_rfl) (by kernel_rfl) (by kernel_rfl) (fun _ _ _ h => h) (by kernel_rfl) ?_ (by assumption) ?_
              rotate_left
              · (intro w' hSw; (try dsimp only at hSw); go_simp; first | done | with_reducible rfl)
              simp only [Act.put, List.setIfInBounds_toArray, List.set_cons_zero, List.set_cons_succ]
              refine rg_take (v := ?_) 2 rfl (by kernel_rfl) (by kernel_rfl) (by kernel_rfl) (fun _ _ _ h => h) (by kernel_rfl) ?_ (by assumption) ?_
              rotate_left
              · (intro w' hSw; (try dsimp only at hSw); go_simp; first | done | with_reducible rfl)
              simp only [Act.put, List.setIfInBounds_toArray, List.set_cons_zero, List.set_cons_succ]
              refine rg_take (v := ?_) 3 rfl (by kernel_rfl) (by kernel_rfl) (by kernel_rfl) (fun _ _ _ h => h) (by kernel_rfl) ?_ (by assumption) ?_
              rotate_left
              · (intro w' hSw; (try dsimp only at hSw); go_simp; first | done | with_reducible rfl)
              simp only [Act.put, List.setIfInBounds_toArray, List.set_cons_zero, List.set_cons_succ]
              refine rg_take (v := ?_) 4 rfl (by kernel_rfl) (by kernel_rfl) (by kernel_rfl) (fun _ _ _ h => h) (by kernel_rfl) ?_ (by assumption) ?_
              rotate_left
              · (intro w' hSw; (try dsimp only at hSw); go_simp; first | done | with_reducible rfl)
              simp only [Act.put, List.setIfInBounds_toArray, List.set_cons_zero, List.set_cons_succ]
              refine rg_take (v := ?_) 5 rfl (by kernel_rfl) (by kernel_rfl) (by kernel_rfl) (fun _ _ _ h => h) (by kernel_rfl) ?_ (by assumption) ?_
              rotate_left
              · (intro w' hSw; (try dsimp only at hSw); go_simp; first | done | with_reducible rfl)
              simp only [Act.put, List.setIfInBounds_toArray, List.set_cons_zero, List.set_cons_succ]
              refine rg_take (v := ?_) 6 rfl (by kernel_rfl) (by kernel_rfl) (by kernel_rfl) (fun _ _ _ h => h) (by kernel_rfl) ?_ (by assumption) ?_
              rotate_left
              · (intro w' hSw; (try dsimp only at hSw); go_simp; first | done | with_reducible rfl)
              simp only [Act.put, List.setIfInBounds_toArray, List.set_cons_zero, List.set_cons_succ]
              refine rg_take (v := ?_) 7 rfl (by kernel_rfl) (by kernel_rfl) (by kernel_rfl) (fun _ _ _ h => h) (by kernel_rfl) ?_ (by assumption) ?_
              rotate_left
              · (intro w' hSw; (try dsimp only at hSw); go_simp; first | done | with_reducible rfl)
              simp only [Act.put, List.setIfInBounds_toArray, List.set_cons_zero, List.set_cons_succ]
              refine rg_take (v := ?_) 9 rfl (by kernel_rfl) (by kernel_rfl) (by kernel_rfl) (fun _ _ _ h => h) (by kernel_rfl) ?_ (by assumption) ?_
              rotate_left
              · (intro w' hSw; (try dsimp only at hSw); go_simp; first | done | with_reducible rfl)
              simp only [Act.put, List.setIfInBounds_toArray, List.set_cons_zero, List.set_cons_succ]
              refine rg_take (v := ?_) 10 rfl (by kernel_rfl) (by kernel_rfl) (by kernel_rfl) (fun _ _ _ h => h) (by kernel_rfl) ?_ (by assumption) ?_
              rotate_left
              · (intro w' hSw; (try dsimp only at hSw); go_simp; first | done | with_reducible rfl)
              simp only [Act.put, List.setIfInBounds_toArray, List.set_cons_zero, List.set_cons_succ]
              refine rg_take (v := ?_) 11 rfl (by kernel_rfl) (by kernel_rfl) (by kernel_rfl) (fun _ _ _ h => h) (by kernel_rfl) ?_ (by assumption) ?_
              rotate_left
              · (intro w' hSw; (try dsimp only at hSw); go_simp; first | done | with_reducible rfl)
              simp only [Act.put, List.setIfInBounds_toArray, List.set_cons_zero, List.set_cons_succ]
              refine rg_run 8 rfl (by kernel_rfl) (by kernel_rfl) (fun K hK => ?_)
              go_simp
              refine (HBA1.out _ (HRA.out _ (by first | exact J3c.out.b | exact J3c.out.b.drew))).mono ?_
              rintro e wx4a ⟨rfl, hb⟩
              have J4a := Lib.hid (JW.below (by first | exact J3c.out | exact J3c.out.drew) hb)
              clear hb J3c d0 d1 d2 e0 e1 e2
              obtain ⟨d0, d1, d2⟩ := J4a.out.cells1
              obtain ⟨e0, e1, e2⟩ := J4a.out.cells2
              go_wp2
              clear hHeld
              refine hK.out _ _ (by exact ⟨⟨d0, d1, d2⟩, e0, e1, e2⟩) (fun hHeld => ?_)
              clear hK K
              try simp only [Act.put, List.setIfInBounds_toArray, List.set_cons_zero, List.set_cons_succ]
              refine rg_run 12 rfl (by kernel_rfl) (by kernel_rfl) (fun K hK => ?_)
              go_simp
              refine (HBB1.out _ (HRB.out _ (by first | exact J4a.out.b | exact J4a.out.b.drew))).mono ?_
              rintro e wx4b ⟨rfl, hb⟩
              have J4b := Lib.hid (JW.below (by first | exact J4a.out | exact J4a.out.drew) hb)
              clear hb J4a d0 d1 d2 e0 e1 e2
              obtain ⟨d0, d1, d2⟩ := J4b.out.cells1
              obtain ⟨e0, e1, e2⟩ := J4b.out.cells2
              go_wp2
              clear hHeld
              refine hK.out _ _ (by exact ⟨⟨d0, d1, d2⟩, e0, e1, e2⟩) (fun hHeld => ?_)
              clear hK K
              try simp only [Act.put, List.setIfInBounds_toArray, List.set_cons_zero, List.set_cons_succ]
              refine rg_run 13 rfl (by kernel_rfl) (by kernel_rfl) (fun K hK => ?_)
              go_simp
              refine (HIB.out _ (by exact J4b.out.b) (by exact J4b.out.l) (by exact J4b.out.s) (by exact J4b.out.p)).mono ?_
              rintro e wx4c ⟨rfl, hs7, hp7, hf7⟩
              have J4c := Lib.hid (JW.join (by exact J4b.out) hlo hf7 hs7 hp7)
              clear hs7 hp7 hf7 J4b HIB d0 d1 d2 e0 e1 e2
              obtain ⟨d0, d1, d2⟩ := J4c.out.cells1
              obtain ⟨e0, e1, e2⟩ := J4c.out.cells2
              go_wp2
              clear hHeld
              refine hK.out _ _ (by exact ⟨⟨d0, d1, d2⟩, e0, e1, e2⟩) (fun hHeld => ?_)
              clear hK K
              try simp only [Act.put, List.setIfInBounds_toArray, List.set_cons_zero, List.set_cons_succ]
              refine rg_take (v := ?_) 14 rfl (by kernel_rfl) (by kernel_rfl) (by kernel_rfl) (fun _ _ _ h => h) (by kernel_rfl) ?_ (by assumption) ?_
              rotate_left
              · (intro w' hSw; (try dsimp only at hSw); go_simp; first | done | with_reducible rfl)
              simp only [Act.put, List.setIfInBounds_toArray, List.set_cons_zero, List.set_cons_succ]
              refine wpAnyH_done (by kernel_rfl) ?_ _
              clear hHeld
              go_wp2_with (fail)
              have hbl := HOB.out.inv.lt
              have hbm : (lb.length + 2) * (la.length + 2) ≤ 4008004 := by
                have h4 := Nat.mul_le_mul (show lb.length + 2 ≤ 2002 by have := HNB.out; omega) (show la.length + 2 ≤ 2002 by have := HNA.out; omega)
                omega
              refine (c_l22Node lo bo lv A1.2 B1.2 B1.1.2 _ (by omega) (by exact J4c.out.l) (by exact J4c.out.s)).mono ?_
              rintro e wx5 ⟨rfl, hs5, hf5⟩
              have J5 := Lib.hid (J4c.out.node hlo hf5 hs5)
              clear hs5 hf5 J4c d0 d1 d2 e0 e1 e2
              generalize mkN B1.1.2 ⟨lv, A1.2, B1.2⟩ = M at *
              obtain ⟨vo, hbx, hro⟩ := J5.out.p
              obtain ⟨Ao, co, rfl⟩ := own_shape hro
              obtain ⟨m1, hm1⟩ : ∃ m1, m1 = B1.1.1.length := ⟨_, rfl⟩
              dsimp only at hbx hro
              rw [← hm1] at hbx hro
              have hml1 : m1 ≤ 4008004 := by omega
              have HM1 := Lib.hid hm1
              have HBX := Lib.hid hbx
              have HRO := Lib.hid hro
              have k0 := hbx.cellAt 0 (by decide)
              simp only [List.getElem?_cons_zero] at k0
              have hl5 := J5.out.l
              have hblt5 : bp < wx5.heap.size := (own_ge hbx).2
              clear hbl hbm hm1 hbx hro
              go_wp2_with (first
                | (at_builtin
                   refine wpList_push_pair _ rfl (.tmp 110) (.tmp 115) rfl lo (.slice Ao m1 co) m1 B1.1.1 ⟨x, y, M.2⟩ wx5.heap.size 1 rfl (own_below HRO.out (below_alloc (Below.refl _ _) (.cells #[.int .i64 x, .int .i64 y, .int .i64 M.2] 103))) rfl (by go_simp) (by go_simp) (by go_simp) (by omega) (by simp; omega) ?_
                   intro v6 wx6 ho6 hg6
                   obtain ⟨A6, c6, rfl⟩ := own_shape ho6
                   have hjb := JW.push (y := ⟨x, y, M.2⟩) (J5.out.below (below_alloc (Below.refl _ _) (.cells #[.int .i64 x, .int .i64 y, .int .i64 M.2] 103))) hlo (own_below HBX.out (below_alloc (Below.refl _ _) (.cells #[.int .i64 x, .int .i64 y, .int .i64 M.2] 103))) (by have h := own_below HRO.out (below_alloc (Below.refl _ _) (.cells #[.int .i64 x, .int .i64 y, .int .i64 M.2] 103)); rw [HM1.out] at h; rw [HM1.out]; exact h) hg6 (by rw [List.length_append, List.length_singleton, ← HM1.out]; exact ho6)
                   have HJZ := Lib.hid hjb.1
                   have k6 := hjb.2.cellAt 0 (by decide)
                   simp only [List.getElem?_cons_zero] at k6
                   have f6 := hjb.2.frozenAt 0
                   clear hjb ho6 hg6)
                )
              generalize wx6.setCell ⟨bp, 0, none⟩ (.slice A6 (m1 + 1) c6) = WF at *
              go_ret
              exact ⟨by rw [HV.out]; rfl, by rw [HV.out]; exact HJZ.out.s, by rw [HV.out]; exact HJZ.out.p, HJZ.out.f⟩
end Go.Proofs.Ytndihacmlkgkbaa
