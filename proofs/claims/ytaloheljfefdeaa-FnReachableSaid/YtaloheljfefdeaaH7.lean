/- Contracts and helpers (joined texts, part 7). The conditions stand at each theorem. -/
import Derived.Test.YtaloheljfefdeaaH6
import Derived.Laws.AppendOwnNone
import Derived.Test.YtaloheljfefdeaaH1
/- l20Place (reference): the place of a list in an ascending one, by halves. Condition: all lists are of one length. -/
namespace Go.Proofs.Ytaloheljfefdeaa
open Go.RowKit

theorem lb_cases {L : List (List Int)} {x y : List Int} {i : Nat} (ha : Asc L) (hy : L[i]? = some y) : (i < lbL L x ∧ cmpL y x < 0) ∨ (lbL L x ≤ i ∧ ¬ cmpL y x < 0) := by
  rcases Nat.lt_or_ge i (lbL L x) with h | h
  · exact .inl ⟨h, by have := lb_lt h hy; simpa [ltL] using this⟩
  · exact .inr ⟨h, by have := lb_ge ha h hy; simpa [ltL] using this⟩
theorem lb_in {L : List (List Int)} {x y : List Int} (ha : Asc L) (hy : L[lbL L x]? = some y) : decide (x ∈ L) = decide (cmpL y x = 0) := by
  rw [decide_eq_decide]
  refine ⟨fun h => ?_, fun h => ?_⟩
  · rw [(lb_mem ha).1 h] at hy
    simp only [Option.some.injEq] at hy
    rw [hy]
    exact cmpL_self _
  · rw [← cmpL_zero h]
    exact List.mem_of_getElem? hy
theorem lb_out {L : List (List Int)} {x : List Int} (ha : Asc L) (h : L.length ≤ lbL L x) : decide (x ∈ L) = false := by
  rw [decide_eq_false_iff_not]
  intro hx
  have := (List.getElem?_eq_some_iff.1 ((lb_mem ha).1 hx)).1
  omega
/-- What l20Place hands back. -/
def RetPl (p : Nat) (b : Bool) (w : World) (e : Ending) (w' : World) : Prop := e = .returned (.tuple #[.int .i64 p, .bool b]) ∧ Below w.heap.size w w'
set_option maxHeartbeats 1000000 in
set_option maxRecDepth 100000 in
theorem c_l20Place (A A' : Option Addr) (c c' N n : Nat) (L : List (List Int)) (x : List Int) (w : World) (hN : L.length = N) (hNl : N ≤ 1048576) (hn : ∀ l ∈ L, l.length = n) (hx : x.length = n) (hl : n ≤ 1048576) (hasc : Asc L) (ha : RdS w A L) (hb : Rd w A' (ints x)) :
    Calls Try.prog 114 #[.slice A N c, .slice A' n c'] w (RetPl (lbL L x) (decide (x ∈ L)) w) := by
  have HN := Lib.hid hN
  have HA := Lib.hid ha
  have HX := Lib.hid hb
  have HLB := Lib.hid (lb_le L x)
  have HCS := Lib.hid (fun i y hy => lb_cases (x := x) (i := i) (y := y) hasc hy)
  have HIN := Lib.hid (fun y hy => lb_in (x := x) (y := y) hasc hy)
  have HOUT := Lib.hid (fun h => lb_out (x := x) hasc h)
  have HCP := Lib.hid (fun y (hy : y ∈ L) a c w' h => c_l20Compare a A' c c' n y x w' (hn y hy) hx hl h)
  have HLL := Lib.hid (fun (i : Nat) y (hy : L[i]? = some y) => hn y (List.mem_of_getElem? hy))
  have hlb := HLB.out
  rw [hN] at hlb
  generalize lbL L x = P at *
  generalize decide (x ∈ L) = D at *
  clear hN hn hx hasc ha hb
  go_enter Try.func114, Try.ntmps114
  go_wp2
  go_loopw [6, 7] (fun lo hi wr => ∃ a b : Nat, a ≤ P ∧ P ≤ b ∧ b ≤ N ∧ lo = .int .i64 a ∧ hi = .int .i64 b ∧ Below w.heap.size w wr) (fun lo hi _ => (intOf hi - intOf lo).toNat)
  case atStart => exact ⟨0, N, Nat.zero_le _, hlb, Nat.le_refl _, rfl, rfl, Below.refl _ _⟩
  case round =>
    obtain ⟨a, b, h1, h2, h3, rfl, rfl, hb⟩ := hrel
    by_cases hlt : a < b
    · obtain ⟨md, hmd⟩ : ∃ md, md = (a + b) / 2 := ⟨_, rfl⟩
      have hmdi : ((a : Int) + (b : Int)) / 2 = (md : Int) := by omega
      have hm1 : a ≤ md := by omega
      have hm2 : md < b := by omega
      clear hmd
      obtain ⟨y, hy⟩ : ∃ z, L[md]? = some z := ⟨_, List.getElem?_eq_getElem (by have := HN.out; omega)⟩
      obtain ⟨b1, o1, a1, c1, rfl, _, g0, hyv⟩ := (HA.out.below hb).at hy
      rw [HLL.out _ y hy] at g0
      have HB := Lib.hid hb
      have HY := Lib.hid hyv
      have HC := Lib.hid (fun w' h => HCP.out y (List.mem_of_getElem? hy) a1 c1 w' h)
      have hcs := HCS.out md y hy
      clear hb hyv hy
      have HMI := Lib.hid hmdi
      have q0 : (0 : Int) ≤ (md : Int) := by omega
      have q1 : (md : Int) < (N : Int) := by omega
      rcases hcs with ⟨h4, h5⟩ | ⟨h4, h5⟩
      · go_wp2_with (fail)
        try rw [HMI.out]
        refine (HC.out _ (by exact HY.out) (by exact HX.out.below HB.out)).mono ?_
        rintro e w1 ⟨rfl, hb⟩
        have HB1 := Lib.hid (below_chain HB.out hb)
        clear hb hmdi
        go_wp2
        go_roundw
        case rel => exact ⟨md + 1, b, by omega, h2, h3, by go_num, rfl, HB1.out⟩
        case measure => simp [intOf]; omega
      · go_wp2_with (fail)
        refine (HC.out _ (by exact HY.out) (by exact HX.out.below HB.out)).mono ?_
        rintro e w1 ⟨rfl, hb⟩
        have HB1 := Lib.hid (below_chain HB.out hb)
        clear hb hmdi
        go_wp2
        go_roundw
        case rel => exact ⟨a, md, h1, h4, by omega, rfl, by rw [HMI.out], HB1.out⟩
        case measure => simp [intOf]; omega
    · obtain rfl : a = P := by omega
      have HB := Lib.hid hb
      clear hb h2
      by_cases hPN : a < N
      · obtain ⟨y, hy⟩ : ∃ z, L[a]? = some z := ⟨_, List.getElem?_eq_getElem (by have := HN.out; omega)⟩
        obtain ⟨b1, o1, a1, c1, rfl, _, g0, hyv⟩ := (HA.out.below HB.out).at hy
        rw [HLL.out _ y hy] at g0
        have HY := Lib.hid hyv
        have HC := Lib.hid (fun w' h => HCP.out y (List.mem_of_getElem? hy) a1 c1 w' h)
        have HD := Lib.hid (HIN.out y hy)
        clear hyv hy
        go_wp2_with (fail)
        refine (HC.out _ (by exact HY.out) (by exact HX.out.below HB.out)).mono ?_
        rintro e w1 ⟨rfl, hb⟩
        have HB1 := Lib.hid (below_chain HB.out hb)
        clear hb
        go_wp2
        go_ret2
        have e := HD.out
        subst e
        exact ⟨rfl, HB1.out⟩
      · have HD := Lib.hid (HOUT.out (by rw [HN.out]; omega))
        go_wp2
        go_ret2
        have e := HD.out
        subst e
        exact ⟨rfl, HB.out⟩
end Go.Proofs.Ytaloheljfefdeaa

/- l20Insert (reference): an ascending list of states with one more. Condition: all lists are of one length. -/
namespace Go.Proofs.Ytaloheljfefdeaa
open Go.RowKit

/-- Lists of the call's own (rows may be shared with other lists). -/
def OwnQ (w : World) (base : Nat) (v : Value) (L : List (List Int)) : Prop :=
  ∃ ds : List IvD, ds.map IvD.l = L ∧ w.ownsRow base 24 1 v L.length (rowsC ds) ∧ ∀ d ∈ ds, w.ownsRow base 2 1 d.v d.l.length (ints d.l)
theorem OwnQ.below {w w1 : World} {base : Nat} {v : Value} {L : List (List Int)} (h : OwnQ w base v L) (hb : Below w.heap.size w w1) : OwnQ w1 base v L := by
  obtain ⟨ds, e, h1, h2⟩ := h
  exact ⟨ds, e, own_below h1 hb, fun d hd => own_below (h2 d hd) hb⟩
theorem OwnQ.mono {w : World} {base base' : Nat} {v : Value} {L : List (List Int)} (h : OwnQ w base v L) (hb : base' ≤ base) : OwnQ w base' v L := by
  obtain ⟨ds, e, h1, h2⟩ := h
  exact ⟨ds, e, own_mono h1 hb, fun d hd => own_mono (h2 d hd) hb⟩
theorem OwnQ.rd {w : World} {base n c : Nat} {A : Option Addr} {L : List (List Int)} (h : OwnQ w base (.slice A n c) L) (hn : n = L.length) : RdS w A L := by
  obtain ⟨ds, e, h1, h2⟩ := h
  subst hn
  exact ⟨ds, e, Rd.own h1, fun d hd => Rd.own (h2 d hd)⟩
theorem OwnQ.form {w : World} {base : Nat} {v : Value} {L : List (List Int)} (h : OwnQ w base v L) : (v = .slice none 0 0 ∧ L = []) ∨ ∃ g c, v = .slice (some ⟨g, 0, none⟩) L.length c := by
  obtain ⟨ds, e0, h1, _⟩ := h
  rcases h1.2 with ⟨e, e2⟩ | ⟨g, cap, cur, e, _⟩
  · exact .inl ⟨e, List.eq_nil_of_length_eq_zero e2⟩
  · exact .inr ⟨_, _, e⟩
theorem OwnQ.ge {w : World} {base : Nat} {v : Value} {L : List (List Int)} (h : OwnQ w base v L) : ∀ q, v.ownBlock = some q → base ≤ q ∧ q < w.heap.size := by
  obtain ⟨ds, _, h1, _⟩ := h
  exact fun q hq => h1.lt q hq
/-- What l20Insert hands back. -/
def RetIn (base : Nat) (v0 : Value) (n : Nat) (L : List (List Int)) (w : World) (e : Ending) (w' : World) : Prop :=
  ∃ A c, e = .returned (.slice A n c) ∧ OwnQ w' base (.slice A n c) L ∧ (Value.slice A n c = v0 ∨ ∀ q, (Value.slice A n c).ownBlock = some q → w.heap.size ≤ q) ∧ Below w.heap.size w w'
theorem news_rd {w : World} {A : Option Addr} {xs : List Value} {ad : Addr} (hr : Rd w A xs) (hA : A = some ad) : ∀ j u, xs[j]? = some u → w.cell? (ad.add j) = some u := by
  intro j u hu
  rcases hr with h | ⟨b, off, e, _, hc⟩
  · rw [h] at hu; simp at hu
  · rw [hA] at e
    simp only [Option.some.injEq] at e
    subst e
    rw [Addr.add_lit]
    exact hc j u hu
/-- append of rows to a row of slices of the call's own. -/
theorem wp_append_rows (w : World) {o : Oper} {a : Act} {K : Act → World → Prop} {Q : Exit → Act → World → Prop} (s x : Operand)
    (ho : o.op = .call { callee := .builtin .append, args := #[s, x], argTypes := #[39, 39] })
    (base : Nat) (v : Value) (n : Nat) (xs : List Value) (hs : a.eval s = v) (hown : w.ownsRow base 24 1 v n xs)
    (ad : Addr) (m c : Nat) (news : List Value) (hx : a.eval x = .slice (some ad) m c) (hr : Rd w (some ad) news) (hm : news.length = m) (h1 : ∀ u ∈ news, u.oneCell' = true) (hn : n + m ≤ 1000000000) (hbase : base ≤ w.heap.size)
    (h : ∀ v' w', w'.ownsRow base 24 1 v' (n + m) (xs ++ news) → w.grownBy w' v.ownBlock → (v' = .slice none 0 0 ↔ v = .slice none 0 0 ∧ m = 0) → K (a.put o.dst v') w') : o.wp Try.prog a w K Q := by
  obtain ⟨i0, hi, hz0, hz1, hz2⟩ := info_parts info_intS
  exact wp_append_own w s x 39 ho base 24 i0 (.slice none 0 0) 1 24 Try.underlying39 hi hz0 hz1 hz2 rfl (by decide) v n xs hs hown ad m c news hx (by omega) (news_rd hr rfl) h1 (by unfold maxLen; omega) (by omega) hbase h
theorem rg_two {P : Program} {l : List Oper} {Q : Exit → Act → World → Prop} {md : Region.Mode} {S : World → Prop} {fuel : Nat} {listed : Array Bool} {a : Act} {w : World} {oi oj : Oper} (i j : Nat) (hi : nthO l i = some oi) (hj : nthO l j = some oj) (hr : Region.ready md l.toArray listed = [i, j])
    (hwi : Region.wanted oi (yielded l.toArray a.tmps) = true) (hwj : Region.wanted oj (yielded l.toArray a.tmps) = true)
    (h : ∀ K' : Act → World → Prop, Shut (∀ a w, S w → (S w → wpAnyH P md l.toArray Q S fuel (listed.setIfInBounds i true) a w) → K' a w) → Oper.wp P oi a w K' Q)
    (h' : ∀ K' : Act → World → Prop, Shut (∀ a w, S w → (S w → wpAnyH P md l.toArray Q S fuel (listed.setIfInBounds j true) a w) → K' a w) → Oper.wp P oj a w K' Q) : wpAnyH P md l.toArray Q S (fuel + 1) listed a w :=
  wpAnyH_ready hr (by simp) (AllReadyH.cons (nthO_get hi) (fun K hK => by rw [if_pos hwi]; exact h K hK) (AllReadyH.cons (nthO_get hj) (fun K hK => by rw [if_pos hwj]; exact h' K hK) AllReadyH.nil))
theorem one_at {w : World} {g : Nat} {u : Value} (h : w.cell? ⟨g, 0, none⟩ = some u) : ∀ j x, [u][j]? = some x → w.cell? ⟨g, 0 + j, none⟩ = some x := by
  intro j x hx
  match j, hx with
  | 0, hx =>
    simp only [List.getElem?_cons_zero, Option.some.injEq] at hx
    rw [← hx]
    exact h
  | j + 1, hx => simp at hx
theorem rows_one (ds : List IvD) : ∀ u ∈ rowsC ds, u.oneCell' = true := by
  intro u hu
  obtain ⟨d, _, rfl⟩ := List.mem_map.1 hu
  rfl
set_option maxHeartbeats 2000000 in
set_option maxRecDepth 100000 in
theorem c_l20Insert (g c N n base : Nat) (L : List (List Int)) (d : IvD) (w : World) (hN : L.length = N) (hNl : N ≤ 1048576) (hn : ∀ l ∈ L, l.length = n) (hx : d.l.length = n) (hl : n ≤ 1048576) (hasc : Asc L) (ha : OwnQ w base (.slice (some ⟨g, 0, none⟩) N c) L) (hb : w.ownsRow base 2 1 d.v d.l.length (ints d.l)) (hbase : base ≤ w.heap.size) :
    Calls Try.prog 76 #[.slice (some ⟨g, 0, none⟩) N c, .slice d.a n d.c] w (RetIn base (.slice (some ⟨g, 0, none⟩) N c) (insQ L d.l).length (insQ L d.l) w) := by
  have HP := Lib.hid (fun w' h h' => c_l20Place (some ⟨g, 0, none⟩) d.a c d.c N n L d.l w' hN hNl hn hx hl hasc h h')
  have HA := Lib.hid ha
  have HX := Lib.hid hb
  have HN := Lib.hid hN
  have hlb := lb_le L d.l
  rw [hN] at hlb
  by_cases hmem : d.l ∈ L
  · rw [show insQ L d.l = L by unfold insQ; rw [if_pos hmem], hN]
    rw [decide_eq_true hmem] at HP
    clear hmem hN hn hx hasc ha hb
    generalize lbL L d.l = P at *
    go_enter Try.func76, Try.ntmps76
    go_wp2_with (fail)
    refine (HP.out _ (HA.out.rd HN.out.symm) (Rd.own HX.out)).mono ?_
    rintro e w1 ⟨rfl, hb⟩
    have HB1 := Lib.hid hb
    clear hb
    go_wp2
    go_ret
    exact ⟨_, _, rfl, HA.out.below HB1.out, .inl rfl, HB1.out⟩
  · have HQ := Lib.hid (show insQ L d.l = L.take (lbL L d.l) ++ d.l :: L.drop (lbL L d.l) by unfold insQ; rw [if_neg hmem])
    rw [decide_eq_false hmem] at HP
    generalize insQ L d.l = R at *
    obtain ⟨ds, hds, hrow, hrs⟩ := ha
    rw [hN] at hrow
    have hdl : ds.length = N := by rw [← hN, ← hds, List.length_map]
    have hcap := own_cap hrow
    unfold maxLen at hcap
    have HXL := Lib.hid hx
    have HRW := Lib.hid hrow
    have HRS := Lib.hid hrs
    have HDS := Lib.hid hds
    have HDL := Lib.hid hdl
    clear hmem hn hx hasc hb hrow hrs hds hdl
    clear hN
    generalize lbL L d.l = P at *
    obtain ⟨ad, had, hrd⟩ : ∃ ad : Addr, (if c = P then some (⟨g, 0, none⟩ : Addr) else some ⟨g, P, none⟩) = some ad ∧ Hid (Rd w (some ad) (rowsC (ds.drop P))) := by
      by_cases h : c = P
      · refine ⟨⟨g, 0, none⟩, by simp [h], Lib.hid (.inl ?_)⟩
        rw [List.drop_eq_nil_of_le (by have := HDL.out; omega)]
        rfl
      · refine ⟨⟨g, P, none⟩, by simp [h], Lib.hid ?_⟩
        have := (Rd.own HRW.out).cut P
        rw [Nat.zero_add] at this
        unfold rowsC at this ⊢
        rwa [← List.map_drop] at this
    have hP0 : (0 : Int) ≤ (P : Int) := by omega
    have hP1 : P ≤ c := by omega
    go_enter Try.func76, Try.ntmps76
    go_wp2_with (fail)
    refine (HP.out _ (HA.out.rd HN.out.symm) (Rd.own HX.out)).mono ?_
    rintro e w1 ⟨rfl, hb⟩
    have HB1 := Lib.hid hb
    have HA1 := Lib.hid (HA.out.below hb)
    have HX1 := Lib.hid (own_below HX.out hb)
    have HRW1 := Lib.hid (own_below HRW.out hb)
    have HRD1 := Lib.hid (hrd.out.below hb)
    have hs1 := hb.size
    have HX0 := Lib.hid HX.out
    clear hb HA HX HP hrd
    have hRL : R.length = P + 1 + (N - P) := by
      have e := HQ.out
      rw [e, List.length_append, List.length_cons, List.length_take, List.length_drop, HN.out]
      omega
    have HF := Lib.hid (fun (v : Value) (w' : World) (h : w'.ownsRow w1.heap.size 24 1 v (P + 1 + (N - P)) (rowsC (ds.take P) ++ [d.v] ++ rowsC (ds.drop P))) => show ∃ A c', v = .slice A R.length c' by
      rw [hRL]
      rcases h.2 with ⟨h1, h2⟩ | ⟨g, cap, cur, h1, _⟩
      · omega
      · exact ⟨_, _, h1⟩)
    have HEND := Lib.hid (fun (A : Option Addr) (c' : Nat) (w' : World) (h : w'.ownsRow w1.heap.size 24 1 (.slice A R.length c') (P + 1 + (N - P)) (rowsC (ds.take P) ++ [d.v] ++ rowsC (ds.drop P))) (hb : Below w1.heap.size w1 w') => show RetIn base (.slice (some ⟨g, 0, none⟩) N c) R.length R w (.returned (.slice A R.length c')) w' from
      ⟨A, c', rfl, ⟨ds.take P ++ d :: ds.drop P, by rw [List.map_append, List.map_cons, List.map_take, List.map_drop, HDS.out, HQ.out], by
        have e : rowsC (ds.take P ++ d :: ds.drop P) = rowsC (ds.take P) ++ [d.v] ++ rowsC (ds.drop P) := by simp [rowsC]
        rw [e, hRL]
        rw [hRL] at h
        exact own_mono h (by omega), fun d' hd' => by
        have hbw := below_chain HB1.out hb
        rcases List.mem_append.1 hd' with h1 | h1
        · exact own_below (HRS.out d' (List.mem_of_mem_take h1)) hbw
        · rcases List.mem_cons.1 h1 with rfl | h1
          · exact own_below HX0.out hbw
          · exact own_below (HRS.out d' (List.mem_of_mem_drop h1)) hbw⟩, .inr fun q hq => by have := (h.lt q hq).1; omega, below_chain HB1.out hb⟩)
    have HRLN := Lib.hid hRL
    clear hRL
    generalize R.length = rl at *
    have HRT := Lib.hid (show Rd w1 (some ⟨g, 0, none⟩) (rowsC (ds.take P)) by
      have := own_prefix HRW1.out hlb
      rw [Nat.mul_one] at this
      have h2 := Rd.own this
      unfold rowsC at h2 ⊢
      rwa [← List.map_take] at h2)
    have HDV := Lib.hid (show d.v = .slice d.a n d.c by unfold IvD.v; rw [HXL.out])
    go_wp2
    refine wp_region_held_drew (S := (fun w' => True)) (by kernel_rfl) ?_ (fun hHeld => ?_)
    · exact trivial
    refine rg_take (v := ?_) 1 rfl (by kernel_rfl) (by kernel_rfl) (by kernel_rfl) (fun _ _ _ h => h) (by kernel_rfl) ?_ (by assumption) ?_
    rotate_left
    · (intro w' hSw; (try dsimp only at hSw); go_simp; first | done | with_reducible rfl)
    simp only [Act.put, List.setIfInBounds_toArray, List.set_cons_zero, List.set_cons_succ]
    refine rg_take (v := ?_) 2 rfl (by kernel_rfl) (by kernel_rfl) (by kernel_rfl) (fun _ _ _ h => h) (by kernel_rfl) ?_ (by assumption) ?_
    rotate_left
    · (intro w' hSw; (try dsimp only at hSw); go_simp; first | done | with_reducible rfl)
    simp only [Act.put, List.setIfInBounds_toArray, List.set_cons_zero, List.set_cons_succ]
    refine rg_take (v := ?_) 3 rfl (by kernel_rfl) (by kernel_rfl) (by kernel_rfl) (fun _ _ _ h => h) (by kernel_rfl) ?_ (by assumption) ?_
    rotate_left
    · (intro w' hSw; (try dsimp only at hSw); go_simp; first | done | with_reducible rfl)
    simp only [Act.put, List.setIfInBounds_toArray, List.set_cons_zero, List.set_cons_succ]
    refine rg_take (v := ?_) 5 rfl (by kernel_rfl) (by kernel_rfl) (by kernel_rfl) (fun _ _ _ h => h) (by kernel_rfl) ?_ (by assumption) ?_
    rotate_left
    · (intro w' hSw; (try dsimp only at hSw); go_simp; first | done | with_reducible rfl)
    simp only [Act.put, List.setIfInBounds_toArray, List.set_cons_zero, List.set_cons_succ]
    refine rg_take (v := ?_) 8 rfl (by kernel_rfl) (by kernel_rfl) (by kernel_rfl) (fun _ _ _ h => h) (by kernel_rfl) ?_ (by assumption) ?_
    rotate_left
    · (intro w' hSw; (try dsimp only at hSw); go_simp; first | done | with_reducible rfl)
    simp only [Act.put, List.setIfInBounds_toArray, List.set_cons_zero, List.set_cons_succ]
    refine rg_take (v := ?_) 9 rfl (by kernel_rfl) (by kernel_rfl) (by kernel_rfl) (fun _ _ _ h => h) (by kernel_rfl) ?_ (by assumption) ?_
    rotate_left
    · (intro w' hSw; (try dsimp only at hSw); go_simp; first | done | with_reducible rfl)
    simp only [Act.put, List.setIfInBounds_toArray, List.set_cons_zero, List.set_cons_succ]
    refine rg_take (v := ?_) 10 rfl (by kernel_rfl) (by kernel_rfl) (by kernel_rfl) (fun _ _ _ h => h) (by kernel_rfl) ?_ (by assumption) ?_
    rotate_left
    · (intro w' hSw; (try dsimp only at hSw); go_simp; first | done | with_reducible rfl)
    simp only [Act.put, List.setIfInBounds_toArray, List.set_cons_zero, List.set_cons_succ]
    refine rg_two 0 6 rfl rfl (by kernel_rfl) (by kernel_rfl) (by kernel_rfl) (fun K hK => ?_) (fun K hK => ?_)
    · go_simp
      clear hHeld
      refine hK.out _ _ trivial (fun hHeld => ?_)
      clear hK K
      try simp only [Act.put, List.setIfInBounds_toArray, List.set_cons_zero, List.set_cons_succ]
      refine rg_two 4 6 rfl rfl (by kernel_rfl) (by kernel_rfl) (by kernel_rfl) (fun K hK => ?_) (fun K hK => ?_)
      · skip
        refine wp_append_rows _ (.tmp 15) (.tmp 18) rfl w1.heap.size (.slice (some ⟨w1.heap.size, 0, none⟩) 0 0) 0 [] rfl (World.ownsRow_made w1.drew #[] 0 (Nat.le_refl _) (Nat.zero_le _) rfl) ⟨g, 0, none⟩ P c (rowsC (ds.take P)) rfl (HRT.out.below (below_alloc (Below.refl _ _).drew _)) (by rw [rowsC_length, List.length_take, HDL.out]; omega) (rows_one _) (by omega) (by simp <;> omega) ?_
        intro v4 w4 ho4 hg4 hn4
        rw [Nat.zero_add, List.nil_append] at ho4
        clear hHeld
        refine hK.out _ _ trivial (fun hHeld => ?_)
        clear hK K
        try simp only [Act.put, List.setIfInBounds_toArray, List.set_cons_zero, List.set_cons_succ]
        refine rg_run 6 rfl (by kernel_rfl) (by kernel_rfl) (fun K hK => ?_)
        go_simp
        clear hHeld
        refine hK.out _ _ trivial (fun hHeld => ?_)
        clear hK K
        try simp only [Act.put, List.setIfInBounds_toArray, List.set_cons_zero, List.set_cons_succ]
        have HO4 := Lib.hid (own_below ho4 (below_alloc (Below.refl _ _) (Obj.cells #[Value.slice d.a n d.c] 24)))
        have HBZ := Lib.hid (below_alloc (show Below w1.heap.size w1 w4 from (below_alloc (Below.refl _ _).drew _).grown hg4 (by simp) (fun q hq => by simp [Value.ownBlock] at hq; omega)) (Obj.cells #[Value.slice d.a n d.c] 24))
        have HC4 := Lib.hid (show (w4.alloc (Obj.cells #[Value.slice d.a n d.c] 24)).cell? ⟨w4.heap.size, 0, none⟩ = some d.v by rw [HDV.out]; go_simp)
        clear ho4 hg4 hn4
        refine rg_run 7 rfl (by kernel_rfl) (by kernel_rfl) (fun K hK => ?_)
        refine wp_append_rows _ (.tmp 19) (.tmp 21) rfl w1.heap.size v4 P (rowsC (ds.take P)) rfl HO4.out ⟨w4.heap.size, 0, none⟩ 1 1 [d.v] rfl (.inr ⟨_, 0, rfl, World.block_lt_of_cell? _ _ HC4.out, one_at HC4.out⟩) rfl (by intro u hu; simp only [List.mem_singleton] at hu; subst hu; rfl) (by omega) HBZ.out.size ?_
        intro v7 w7 ho7 hg7 hn7
        have HO7 := Lib.hid ho7
        have HB7 := Lib.hid (HBZ.out.grown hg7 HBZ.out.size (fun q hq => (HO4.out.lt q hq).1))
        clear ho7 hg7 hn7 HO4 HBZ HC4
        clear hHeld
        refine hK.out _ _ trivial (fun hHeld => ?_)
        clear hK K
        try simp only [Act.put, List.setIfInBounds_toArray, List.set_cons_zero, List.set_cons_succ]
        refine rg_run 11 rfl (by kernel_rfl) (by kernel_rfl) (fun K hK => ?_)
        refine wp_append_rows _ (.tmp 22) (.tmp 25) rfl w1.heap.size v7 (P + 1) (rowsC (ds.take P) ++ [d.v]) rfl HO7.out ad (N - P) (c - P) (rowsC (ds.drop P)) rfl (HRD1.out.below HB7.out) (by rw [rowsC_length, List.length_drop, HDL.out]) (rows_one _) (by omega) HB7.out.size ?_
        intro v11 w11 ho11 hg11 hn11
        have HO11 := Lib.hid ho11
        have HB11 := Lib.hid (HB7.out.grown hg11 HB7.out.size (fun q hq => (HO7.out.lt q hq).1))
        clear ho11 hg11 hn11 HO7 HB7
        clear hHeld
        refine hK.out _ _ trivial (fun hHeld => ?_)
        clear hK K
        try simp only [Act.put, List.setIfInBounds_toArray, List.set_cons_zero, List.set_cons_succ]
        refine rg_take (v := ?_) 12 rfl (by kernel_rfl) (by kernel_rfl) (by kernel_rfl) (fun _ _ _ h => h) (by kernel_rfl) ?_ (by assumption) ?_
        rotate_left
        · (intro w' hSw; (try dsimp only at hSw); go_simp; first | done | with_reducible rfl)
        simp only [Act.put, List.setIfInBounds_toArray, List.set_cons_zero, List.set_cons_succ]
        refine wpAnyH_done (by kernel_rfl) ?_ _
        clear hHeld
        obtain ⟨A11, c11, hv11⟩ := HF.out v11 w11 HO11.out
        subst hv11
        go_wp2
        go_ret
        exact HEND.out _ _ _ HO11.out HB11.out
      · skip
        go_simp
        clear hHeld
        refine hK.out _ _ trivial (fun hHeld => ?_)
        clear hK K
        try simp only [Act.put, List.setIfInBounds_toArray, List.set_cons_zero, List.set_cons_succ]
        refine rg_run 4 rfl (by kernel_rfl) (by kernel_rfl) (fun K hK => ?_)
        refine wp_append_rows _ (.tmp 15) (.tmp 18) rfl w1.heap.size (.slice (some ⟨w1.heap.size, 0, none⟩) 0 0) 0 [] rfl ((World.ownsRow_made w1.drew #[] 0 (Nat.le_refl _) (Nat.zero_le _) rfl).alloc _) ⟨g, 0, none⟩ P c (rowsC (ds.take P)) rfl (HRT.out.below (below_alloc (below_alloc (Below.refl _ _).drew _) _)) (by rw [rowsC_length, List.length_take, HDL.out]; omega) (rows_one _) (by omega) (by simp <;> omega) ?_
        intro v4 w4 ho4 hg4 hn4
        rw [Nat.zero_add, List.nil_append] at ho4
        clear hHeld
        refine hK.out _ _ trivial (fun hHeld => ?_)
        clear hK K
        try simp only [Act.put, List.setIfInBounds_toArray, List.set_cons_zero, List.set_cons_succ]
        have HO4 := Lib.hid (ho4)
        have HBZ := Lib.hid ((below_alloc (below_alloc (Below.refl _ _).drew _) _).grown hg4 (by simp; omega) (fun q hq => by simp [Value.ownBlock] at hq; omega))
        have HC4 := Lib.hid (show w4.cell? ⟨w1.heap.size + 1, 0, none⟩ = some d.v from hg4.cell (show ((w1.drew.alloc (Obj.cells #[] 24)).alloc (Obj.cells #[Value.slice d.a n d.c] 24)).cell? ⟨w1.heap.size + 1, 0, none⟩ = some d.v by rw [HDV.out]; go_simp) (by simp [Value.ownBlock] <;> omega))
        clear ho4 hg4 hn4
        refine rg_run 7 rfl (by kernel_rfl) (by kernel_rfl) (fun K hK => ?_)
        refine wp_append_rows _ (.tmp 19) (.tmp 21) rfl w1.heap.size v4 P (rowsC (ds.take P)) rfl HO4.out ⟨w1.heap.size + 1, 0, none⟩ 1 1 [d.v] rfl (.inr ⟨_, 0, rfl, World.block_lt_of_cell? _ _ HC4.out, one_at HC4.out⟩) rfl (by intro u hu; simp only [List.mem_singleton] at hu; subst hu; rfl) (by omega) HBZ.out.size ?_
        intro v7 w7 ho7 hg7 hn7
        have HO7 := Lib.hid ho7
        have HB7 := Lib.hid (HBZ.out.grown hg7 HBZ.out.size (fun q hq => (HO4.out.lt q hq).1))
        clear ho7 hg7 hn7 HO4 HBZ HC4
        clear hHeld
        refine hK.out _ _ trivial (fun hHeld => ?_)
        clear hK K
        try simp only [Act.put, List.setIfInBounds_toArray, List.set_cons_zero, List.set_cons_succ]
        refine rg_run 11 rfl (by kernel_rfl) (by kernel_rfl) (fun K hK => ?_)
        refine wp_append_rows _ (.tmp 22) (.tmp 25) rfl w1.heap.size v7 (P + 1) (rowsC (ds.take P) ++ [d.v]) rfl HO7.out ad (N - P) (c - P) (rowsC (ds.drop P)) rfl (HRD1.out.below HB7.out) (by rw [rowsC_length, List.length_drop, HDL.out]) (rows_one _) (by omega) HB7.out.size ?_
        intro v11 w11 ho11 hg11 hn11
        have HO11 := Lib.hid ho11
        have HB11 := Lib.hid (HB7.out.grown hg11 HB7.out.size (fun q hq => (HO7.out.lt q hq).1))
        clear ho11 hg11 hn11 HO7 HB7
        clear hHeld
        refine hK.out _ _ trivial (fun hHeld => ?_)
        clear hK K
        try simp only [Act.put, List.setIfInBounds_toArray, List.set_cons_zero, List.set_cons_succ]
        refine rg_take (v := ?_) 12 rfl (by kernel_rfl) (by kernel_rfl) (by kernel_rfl) (fun _ _ _ h => h) (by kernel_rfl) ?_ (by assumption) ?_
        rotate_left
        · (intro w' hSw; (try dsimp only at hSw); go_simp; first | done | with_reducible rfl)
        simp only [Act.put, List.setIfInBounds_toArray, List.set_cons_zero, List.set_cons_succ]
        refine wpAnyH_done (by kernel_rfl) ?_ _
        clear hHeld
        obtain ⟨A11, c11, hv11⟩ := HF.out v11 w11 HO11.out
        subst hv11
        go_wp2
        go_ret
        exact HEND.out _ _ _ HO11.out HB11.out
    · skip
      go_simp
      clear hHeld
      refine hK.out _ _ trivial (fun hHeld => ?_)
      clear hK K
      try simp only [Act.put, List.setIfInBounds_toArray, List.set_cons_zero, List.set_cons_succ]
      refine rg_run 0 rfl (by kernel_rfl) (by kernel_rfl) (fun K hK => ?_)
      go_simp
      clear hHeld
      refine hK.out _ _ trivial (fun hHeld => ?_)
      clear hK K
      try simp only [Act.put, List.setIfInBounds_toArray, List.set_cons_zero, List.set_cons_succ]
      refine rg_run 4 rfl (by kernel_rfl) (by kernel_rfl) (fun K hK => ?_)
      refine wp_append_rows _ (.tmp 15) (.tmp 18) rfl w1.heap.size (.slice (some ⟨w1.heap.size + 1, 0, none⟩) 0 0) 0 [] rfl (by have h := World.ownsRow_made (e := 24) (size := 1) (base := w1.heap.size) (w1.drew.alloc (Obj.cells #[Value.slice d.a n d.c] 24)) #[] 0 (by simp) (Nat.zero_le _) rfl; rw [World.size_alloc] at h; exact h) ⟨g, 0, none⟩ P c (rowsC (ds.take P)) rfl (HRT.out.below (below_alloc (below_alloc (Below.refl _ _).drew _) _)) (by rw [rowsC_length, List.length_take, HDL.out]; omega) (rows_one _) (by omega) (by simp <;> omega) ?_
      intro v4 w4 ho4 hg4 hn4
      rw [Nat.zero_add, List.nil_append] at ho4
      clear hHeld
      refine hK.out _ _ trivial (fun hHeld => ?_)
      clear hK K
      try simp only [Act.put, List.setIfInBounds_toArray, List.set_cons_zero, List.set_cons_succ]
      have HO4 := Lib.hid (ho4)
      have HBZ := Lib.hid ((below_alloc (below_alloc (Below.refl _ _).drew _) _).grown hg4 (by simp; omega) (fun q hq => by simp [Value.ownBlock] at hq; omega))
      have HC4 := Lib.hid (show w4.cell? ⟨w1.heap.size, 0, none⟩ = some d.v from hg4.cell (show ((w1.drew.alloc (Obj.cells #[Value.slice d.a n d.c] 24)).alloc (Obj.cells #[] 24)).cell? ⟨w1.heap.size, 0, none⟩ = some d.v by rw [HDV.out]; go_simp) (by simp [Value.ownBlock] <;> omega))
      clear ho4 hg4 hn4
      refine rg_run 7 rfl (by kernel_rfl) (by kernel_rfl) (fun K hK => ?_)
      refine wp_append_rows _ (.tmp 19) (.tmp 21) rfl w1.heap.size v4 P (rowsC (ds.take P)) rfl HO4.out ⟨w1.heap.size, 0, none⟩ 1 1 [d.v] rfl (.inr ⟨_, 0, rfl, World.block_lt_of_cell? _ _ HC4.out, one_at HC4.out⟩) rfl (by intro u hu; simp only [List.mem_singleton] at hu; subst hu; rfl) (by omega) HBZ.out.size ?_
      intro v7 w7 ho7 hg7 hn7
      have HO7 := Lib.hid ho7
      have HB7 := Lib.hid (HBZ.out.grown hg7 HBZ.out.size (fun q hq => (HO4.out.lt q hq).1))
      clear ho7 hg7 hn7 HO4 HBZ HC4
      clear hHeld
      refine hK.out _ _ trivial (fun hHeld => ?_)
      clear hK K
      try simp only [Act.put, List.setIfInBounds_toArray, List.set_cons_zero, List.set_cons_succ]
      refine rg_run 11 rfl (by kernel_rfl) (by kernel_rfl) (fun K hK => ?_)
      refine wp_append_rows _ (.tmp 22) (.tmp 25) rfl w1.heap.size v7 (P + 1) (rowsC (ds.take P) ++ [d.v]) rfl HO7.out ad (N - P) (c - P) (rowsC (ds.drop P)) rfl (HRD1.out.below HB7.out) (by rw [rowsC_length, List.length_drop, HDL.out]) (rows_one _) (by omega) HB7.out.size ?_
      intro v11 w11 ho11 hg11 hn11
      have HO11 := Lib.hid ho11
      have HB11 := Lib.hid (HB7.out.grown hg11 HB7.out.size (fun q hq => (HO7.out.lt q hq).1))
      clear ho11 hg11 hn11 HO7 HB7
      clear hHeld
      refine hK.out _ _ trivial (fun hHeld => ?_)
      clear hK K
      try simp only [Act.put, List.setIfInBounds_toArray, List.set_cons_zero, List.set_cons_succ]
      refine rg_take (v := ?_) 12 rfl (by kernel_rfl) (by kernel_rfl) (by kernel_rfl) (fun _ _ _ h => h) (by kernel_rfl) ?_ (by assumption) ?_
      rotate_left
      · (intro w' hSw; (try dsimp only at hSw); go_simp; first | done | with_reducible rfl)
      simp only [Act.put, List.setIfInBounds_toArray, List.set_cons_zero, List.set_cons_succ]
      refine wpAnyH_done (by kernel_rfl) ?_ _
      clear hHeld
      obtain ⟨A11, c11, hv11⟩ := HF.out v11 w11 HO11.out
      subst hv11
      go_wp2
      go_ret
      exact HEND.out _ _ _ HO11.out HB11.out
end Go.Proofs.Ytaloheljfefdeaa

/- l20Insert (reference) at no state: the first one. Condition: the lengths are bounded. -/
namespace Go.Proofs.Ytaloheljfefdeaa
open Go.RowKit

theorem wp_append_none (w : World) {o : Oper} {a : Act} {K : Act → World → Prop} {Q : Exit → Act → World → Prop} (s x : Operand)
    (ho : o.op = .call { callee := .builtin .append, args := #[s, x], argTypes := #[39, 39] })
    (base : Nat) (v : Value) (n : Nat) (xs : List Value) (hs : a.eval s = v) (hown : w.ownsRow base 24 1 v n xs) (hx : a.eval x = .slice none 0 0)
    (h : K (a.put o.dst v) w) : o.wp Try.prog a w K Q := by
  obtain ⟨i0, hi, hz0, hz1, hz2⟩ := info_parts info_intS
  have hrun := run_append_owned_none (P := Try.prog) (w := w) base 39 o.type 24 i0 1 Try.underlying39 hi v n xs hown
  unfold Oper.wp
  simp [execOp, ho, resolve, invoke, builtin, hs, hx, hrun, Result.andThen]
  exact h
set_option maxHeartbeats 2000000 in
set_option maxRecDepth 100000 in
theorem c_l20InsertN (n base : Nat) (d : IvD) (w : World) (hx : d.l.length = n) (hl : n ≤ 1048576) (hb : w.ownsRow base 2 1 d.v d.l.length (ints d.l)) (hbase : base ≤ w.heap.size) :
    Calls Try.prog 76 #[.slice none 0 0, .slice d.a n d.c] w (RetIn base (.slice none 0 0) 1 [d.l] w) := by
  have HP := Lib.hid (fun w' h' => c_l20Place none d.a 0 d.c 0 n [] d.l w' rfl (by omega) (by simp) hx hl List.Pairwise.nil ⟨[], rfl, .inl rfl, by simp⟩ h')
  have HX := Lib.hid hb
  have HDV := Lib.hid (show d.v = .slice d.a n d.c by unfold IvD.v; rw [hx])
  have HXL := Lib.hid hx
  clear hb hx
  rw [show lbL [] d.l = 0 from rfl, show decide (d.l ∈ ([] : List (List Int))) = false by simp] at HP
  go_enter Try.func76, Try.ntmps76
  go_wp2_with (fail)
  refine (HP.out _ (Rd.own HX.out)).mono ?_
  rintro e w1 ⟨rfl, hb⟩
  have HB1 := Lib.hid hb
  have HX0 := Lib.hid HX.out
  have hs1 := hb.size
  clear hb HX HP
  go_wp2
  refine wp_region_held_drew (S := (fun w' => True)) (by kernel_rfl) ?_ (fun hHeld => ?_)
  · exact trivial
  refine rg_take (v := ?_) 1 rfl (by kernel_rfl) (by kernel_rfl) (by kernel_rfl) (fun _ _ _ h => h) (by kernel_rfl) ?_ (by assumption) ?_
  rotate_left
  · (intro w' hSw; (try dsimp only at hSw); go_simp; first | done | with_reducible rfl)
  simp only [Act.put, List.setIfInBounds_toArray, List.set_cons_zero, List.set_cons_succ]
  refine rg_take (v := ?_) 2 rfl (by kernel_rfl) (by kernel_rfl) (by kernel_rfl) (fun _ _ _ h => h) (by kernel_rfl) ?_ (by assumption) ?_
  rotate_left
  · (intro w' hSw; (try dsimp only at hSw); go_simp; first | done | with_reducible rfl)
  simp only [Act.put, List.setIfInBounds_toArray, List.set_cons_zero, List.set_cons_succ]
  refine rg_take (v := ?_) 3 rfl (by kernel_rfl) (by kernel_rfl) (by kernel_rfl) (fun _ _ _ h => h) (by kernel_rfl) ?_ (by assumption) ?_
  rotate_left
  · (intro w' hSw; (try dsimp only at hSw); go_simp; first | done | with_reducible rfl)
  simp only [Act.put, List.setIfInBounds_toArray, List.set_cons_zero, List.set_cons_succ]
  refine rg_take (v := ?_) 5 rfl (by kernel_rfl) (by kernel_rfl) (by kernel_rfl) (fun _ _ _ h => h) (by kernel_rfl) ?_ (by assumption) ?_
  rotate_left
  · (intro w' hSw; (try dsimp only at hSw); go_simp; first | done | with_reducible rfl)
  simp only [Act.put, List.setIfInBounds_toArray, List.set_cons_zero, List.set_cons_succ]
  refine rg_take (v := ?_) 8 rfl (by kernel_rfl) (by kernel_rfl) (by kernel_rfl) (fun _ _ _ h => h) (by kernel_rfl) ?_ (by assumption) ?_
  rotate_left
  · (intro w' hSw; (try dsimp only at hSw); go_simp; first | done | with_reducible rfl)
  simp only [Act.put, List.setIfInBounds_toArray, List.set_cons_zero, List.set_cons_succ]
  refine rg_take (v := ?_) 9 rfl (by kernel_rfl) (by kernel_rfl) (by kernel_rfl) (fun _ _ _ h => h) (by kernel_rfl) ?_ (by assumption) ?_
  rotate_left
  · (intro w' hSw; (try dsimp only at hSw); go_simp; first | done | with_reducible rfl)
  simp only [Act.put, List.setIfInBounds_toArray, List.set_cons_zero, List.set_cons_succ]
  refine rg_take (v := ?_) 10 rfl (by kernel_rfl) (by kernel_rfl) (by kernel_rfl) (fun _ _ _ h => h) (by kernel_rfl) ?_ (by assumption) ?_
  rotate_left
  · (intro w' hSw; (try dsimp only at hSw); go_simp; first | done | with_reducible rfl)
  simp only [Act.put, List.setIfInBounds_toArray, List.set_cons_zero, List.set_cons_succ]
  refine rg_two 0 6 rfl rfl (by kernel_rfl) (by kernel_rfl) (by kernel_rfl) (fun K hK => ?_) (fun K hK => ?_)
  · go_simp
    clear hHeld
    refine hK.out _ _ trivial (fun hHeld => ?_)
    clear hK K
    try simp only [Act.put, List.setIfInBounds_toArray, List.set_cons_zero, List.set_cons_succ]
    refine rg_two 4 6 rfl rfl (by kernel_rfl) (by kernel_rfl) (by kernel_rfl) (fun K hK => ?_) (fun K hK => ?_)
    · skip
      refine wp_append_none _ (.tmp 15) (.tmp 18) rfl w1.heap.size (.slice (some ⟨w1.heap.size, 0, none⟩) 0 0) 0 [] rfl (World.ownsRow_made w1.drew #[] 0 (Nat.le_refl _) (Nat.zero_le _) rfl) rfl ?_
      clear hHeld
      refine hK.out _ _ trivial (fun hHeld => ?_)
      clear hK K
      try simp only [Act.put, List.setIfInBounds_toArray, List.set_cons_zero, List.set_cons_succ]
      refine rg_run 6 rfl (by kernel_rfl) (by kernel_rfl) (fun K hK => ?_)
      go_simp
      clear hHeld
      refine hK.out _ _ trivial (fun hHeld => ?_)
      clear hK K
      try simp only [Act.put, List.setIfInBounds_toArray, List.set_cons_zero, List.set_cons_succ]
      refine rg_run 7 rfl (by kernel_rfl) (by kernel_rfl) (fun K hK => ?_)
      refine wp_append_rows _ (.tmp 19) (.tmp 21) rfl w1.heap.size (.slice (some ⟨w1.heap.size, 0, none⟩) 0 0) 0 [] rfl ((World.ownsRow_made w1.drew #[] 0 (Nat.le_refl _) (Nat.zero_le _) rfl).alloc _) ⟨w1.heap.size + 1, 0, none⟩ 1 1 [d.v] rfl (.inr ⟨_, 0, rfl, World.block_lt_of_cell? _ _ (show ((w1.drew.alloc (Obj.cells #[] 24)).alloc (Obj.cells #[Value.slice d.a n d.c] 24)).cell? ⟨w1.heap.size + 1, 0, none⟩ = some d.v by rw [HDV.out]; go_simp), one_at (show ((w1.drew.alloc (Obj.cells #[] 24)).alloc (Obj.cells #[Value.slice d.a n d.c] 24)).cell? ⟨w1.heap.size + 1, 0, none⟩ = some d.v by rw [HDV.out]; go_simp)⟩) rfl (by intro u hu; simp only [List.mem_singleton] at hu; subst hu; rfl) (by omega) (by simp <;> omega) ?_
      intro v7 w7 ho7 hg7 hn7
      rw [Nat.zero_add, List.nil_append] at ho7
      have HO7 := Lib.hid ho7
      have HB7 := Lib.hid (show Below w1.heap.size w1 w7 from (below_alloc (below_alloc (Below.refl _ _).drew (Obj.cells #[] 24)) (Obj.cells #[Value.slice d.a n d.c] 24)).grown hg7 (by simp <;> omega) (fun q hq => by simp [Value.ownBlock] at hq; omega))
      clear ho7 hg7 hn7
      clear hHeld
      refine hK.out _ _ trivial (fun hHeld => ?_)
      clear hK K
      try simp only [Act.put, List.setIfInBounds_toArray, List.set_cons_zero, List.set_cons_succ]
      refine rg_run 11 rfl (by kernel_rfl) (by kernel_rfl) (fun K hK => ?_)
      refine wp_append_none _ (.tmp 22) (.tmp 25) rfl w1.heap.size v7 1 [d.v] rfl HO7.out rfl ?_
      clear hHeld
      refine hK.out _ _ trivial (fun hHeld => ?_)
      clear hK K
      try simp only [Act.put, List.setIfInBounds_toArray, List.set_cons_zero, List.set_cons_succ]
      refine rg_take (v := ?_) 12 rfl (by kernel_rfl) (by kernel_rfl) (by kernel_rfl) (fun _ _ _ h => h) (by kernel_rfl) ?_ (by assumption) ?_
      rotate_left
      · (intro w' hSw; (try dsimp only at hSw); go_simp; first | done | with_reducible rfl)
      simp only [Act.put, List.setIfInBounds_toArray, List.set_cons_zero, List.set_cons_succ]
      refine wpAnyH_done (by kernel_rfl) ?_ _
      clear hHeld
      obtain ⟨g7, c7, hv7⟩ := own_form HO7.out
      subst hv7
      go_wp2
      go_ret
      exact ⟨_, _, rfl, ⟨[d], rfl, own_mono HO7.out (by omega), fun d' hd' => by simp only [List.mem_singleton] at hd'; subst hd'; exact own_below HX0.out (below_chain HB1.out HB7.out)⟩, .inr fun q hq => by have := (HO7.out.lt q hq).1; omega, below_chain HB1.out HB7.out⟩
    · go_simp
      clear hHeld
      refine hK.out _ _ trivial (fun hHeld => ?_)
      clear hK K
      try simp only [Act.put, List.setIfInBounds_toArray, List.set_cons_zero, List.set_cons_succ]
      refine rg_run 4 rfl (by kernel_rfl) (by kernel_rfl) (fun K hK => ?_)
      refine wp_append_none _ (.tmp 15) (.tmp 18) rfl w1.heap.size (.slice (some ⟨w1.heap.size, 0, none⟩) 0 0) 0 [] rfl ((World.ownsRow_made w1.drew #[] 0 (Nat.le_refl _) (Nat.zero_le _) rfl).alloc _) rfl ?_
      clear hHeld
      refine hK.out _ _ trivial (fun hHeld => ?_)
      clear hK K
      try simp only [Act.put, List.setIfInBounds_toArray, List.set_cons_zero, List.set_cons_succ]
      refine rg_run 7 rfl (by kernel_rfl) (by kernel_rfl) (fun K hK => ?_)
      refine wp_append_rows _ (.tmp 19) (.tmp 21) rfl w1.heap.size (.slice (some ⟨w1.heap.size, 0, none⟩) 0 0) 0 [] rfl ((World.ownsRow_made w1.drew #[] 0 (Nat.le_refl _) (Nat.zero_le _) rfl).alloc _) ⟨w1.heap.size + 1, 0, none⟩ 1 1 [d.v] rfl (.inr ⟨_, 0, rfl, World.block_lt_of_cell? _ _ (show ((w1.drew.alloc (Obj.cells #[] 24)).alloc (Obj.cells #[Value.slice d.a n d.c] 24)).cell? ⟨w1.heap.size + 1, 0, none⟩ = some d.v by rw [HDV.out]; go_simp), one_at (show ((w1.drew.alloc (Obj.cells #[] 24)).alloc (Obj.cells #[Value.slice d.a n d.c] 24)).cell? ⟨w1.heap.size + 1, 0, none⟩ = some d.v by rw [HDV.out]; go_simp)⟩) rfl (by intro u hu; simp only [List.mem_singleton] at hu; subst hu; rfl) (by omega) (by simp <;> omega) ?_
      intro v7 w7 ho7 hg7 hn7
      rw [Nat.zero_add, List.nil_append] at ho7
      have HO7 := Lib.hid ho7
      have HB7 := Lib.hid (show Below w1.heap.size w1 w7 from (below_alloc (below_alloc (Below.refl _ _).drew (Obj.cells #[] 24)) (Obj.cells #[Value.slice d.a n d.c] 24)).grown hg7 (by simp <;> omega) (fun q hq => by simp [Value.ownBlock] at hq; omega))
      clear ho7 hg7 hn7
      clear hHeld
      refine hK.out _ _ trivial (fun hHeld => ?_)
      clear hK K
      try simp only [Act.put, List.setIfInBounds_toArray, List.set_cons_zero, List.set_cons_succ]
      refine rg_run 11 rfl (by kernel_rfl) (by kernel_rfl) (fun K hK => ?_)
      refine wp_append_none _ (.tmp 22) (.tmp 25) rfl w1.heap.size v7 1 [d.v] rfl HO7.out rfl ?_
      clear hHeld
      refine hK.out _ _ trivial (fun hHeld => ?_)
      clear hK K
      try simp only [Act.put, List.setIfInBounds_toArray, List.set_cons_zero, List.set_cons_succ]
      refine rg_take (v := ?_) 12 rfl (by kernel_rfl) (by kernel_rfl) (by kernel_rfl) (fun _ _ _ h => h) (by kernel_rfl) ?_ (by assumption) ?_
      rotate_left
      · (intro w' hSw; (try dsimp only at hSw); go_simp; first | done | with_reducible rfl)
      simp only [Act.put, List.setIfInBounds_toArray, List.set_cons_zero, List.set_cons_succ]
      refine wpAnyH_done (by kernel_rfl) ?_ _
      clear hHeld
      obtain ⟨g7, c7, hv7⟩ := own_form HO7.out
      subst hv7
      go_wp2
      go_ret
      exact ⟨_, _, rfl, ⟨[d], rfl, own_mono HO7.out (by omega), fun d' hd' => by simp only [List.mem_singleton] at hd'; subst hd'; exact own_below HX0.out (below_chain HB1.out HB7.out)⟩, .inr fun q hq => by have := (HO7.out.lt q hq).1; omega, below_chain HB1.out HB7.out⟩
  · go_simp
    clear hHeld
    refine hK.out _ _ trivial (fun hHeld => ?_)
    clear hK K
    try simp only [Act.put, List.setIfInBounds_toArray, List.set_cons_zero, List.set_cons_succ]
    refine rg_run 0 rfl (by kernel_rfl) (by kernel_rfl) (fun K hK => ?_)
    go_simp
    clear hHeld
    refine hK.out _ _ trivial (fun hHeld => ?_)
    clear hK K
    try simp only [Act.put, List.setIfInBounds_toArray, List.set_cons_zero, List.set_cons_succ]
    refine rg_run 4 rfl (by kernel_rfl) (by kernel_rfl) (fun K hK => ?_)
    refine wp_append_none _ (.tmp 15) (.tmp 18) rfl w1.heap.size (.slice (some ⟨w1.heap.size + 1, 0, none⟩) 0 0) 0 [] rfl (by have h := World.ownsRow_made (e := 24) (size := 1) (base := w1.heap.size) (w1.drew.alloc (Obj.cells #[Value.slice d.a n d.c] 24)) #[] 0 (by simp) (Nat.zero_le _) rfl; rw [World.size_alloc] at h; exact h) rfl ?_
    clear hHeld
    refine hK.out _ _ trivial (fun hHeld => ?_)
    clear hK K
    try simp only [Act.put, List.setIfInBounds_toArray, List.set_cons_zero, List.set_cons_succ]
    refine rg_run 7 rfl (by kernel_rfl) (by kernel_rfl) (fun K hK => ?_)
    refine wp_append_rows _ (.tmp 19) (.tmp 21) rfl w1.heap.size (.slice (some ⟨w1.heap.size + 1, 0, none⟩) 0 0) 0 [] rfl (by have h := World.ownsRow_made (e := 24) (size := 1) (base := w1.heap.size) (w1.drew.alloc (Obj.cells #[Value.slice d.a n d.c] 24)) #[] 0 (by simp) (Nat.zero_le _) rfl; rw [World.size_alloc] at h; exact h) ⟨w1.heap.size, 0, none⟩ 1 1 [d.v] rfl (.inr ⟨_, 0, rfl, World.block_lt_of_cell? _ _ (show ((w1.drew.alloc (Obj.cells #[Value.slice d.a n d.c] 24)).alloc (Obj.cells #[] 24)).cell? ⟨w1.heap.size, 0, none⟩ = some d.v by rw [HDV.out]; go_simp), one_at (show ((w1.drew.alloc (Obj.cells #[Value.slice d.a n d.c] 24)).alloc (Obj.cells #[] 24)).cell? ⟨w1.heap.size, 0, none⟩ = some d.v by rw [HDV.out]; go_simp)⟩) rfl (by intro u hu; simp only [List.mem_singleton] at hu; subst hu; rfl) (by omega) (by simp <;> omega) ?_
    intro v7 w7 ho7 hg7 hn7
    rw [Nat.zero_add, List.nil_append] at ho7
    have HO7 := Lib.hid ho7
    have HB7 := Lib.hid (show Below w1.heap.size w1 w7 from (below_alloc (below_alloc (Below.refl _ _).drew (Obj.cells #[Value.slice d.a n d.c] 24)) (Obj.cells #[] 24)).grown hg7 (by simp <;> omega) (fun q hq => by simp [Value.ownBlock] at hq; omega))
    clear ho7 hg7 hn7
    clear hHeld
    refine hK.out _ _ trivial (fun hHeld => ?_)
    clear hK K
    try simp only [Act.put, List.setIfInBounds_toArray, List.set_cons_zero, List.set_cons_succ]
    refine rg_run 11 rfl (by kernel_rfl) (by kernel_rfl) (fun K hK => ?_)
    refine wp_append_none _ (.tmp 22) (.tmp 25) rfl w1.heap.size v7 1 [d.v] rfl HO7.out rfl ?_
    clear hHeld
    refine hK.out _ _ trivial (fun hHeld => ?_)
    clear hK K
    try simp only [Act.put, List.setIfInBounds_toArray, List.set_cons_zero, List.set_cons_succ]
    refine rg_take (v := ?_) 12 rfl (by kernel_rfl) (by kernel_rfl) (by kernel_rfl) (fun _ _ _ h => h) (by kernel_rfl) ?_ (by assumption) ?_
    rotate_left
    · (intro w' hSw; (try dsimp only at hSw); go_simp; first | done | with_reducible rfl)
    simp only [Act.put, List.setIfInBounds_toArray, List.set_cons_zero, List.set_cons_succ]
    refine wpAnyH_done (by kernel_rfl) ?_ _
    clear hHeld
    obtain ⟨g7, c7, hv7⟩ := own_form HO7.out
    subst hv7
    go_wp2
    go_ret
    exact ⟨_, _, rfl, ⟨[d], rfl, own_mono HO7.out (by omega), fun d' hd' => by simp only [List.mem_singleton] at hd'; subst hd'; exact own_below HX0.out (below_chain HB1.out HB7.out)⟩, .inr fun q hq => by have := (HO7.out.lt q hq).1; omega, below_chain HB1.out HB7.out⟩
end Go.Proofs.Ytaloheljfefdeaa

/- l21Add (reference): a state is added to the search. Condition: all states are of one length. -/
namespace Go.Proofs.Ytaloheljfefdeaa
open Go.RowKit

theorem c_insQ (n base : Nat) (v : Value) (L : List (List Int)) (d : IvD) (w : World) (hNl : L.length ≤ 1048576) (hn : ∀ l ∈ L, l.length = n) (hx : d.l.length = n) (hl : n ≤ 1048576) (hasc : Asc L) (ha : OwnQ w base v L) (hb : w.ownsRow base 2 1 d.v d.l.length (ints d.l)) (hbase : base ≤ w.heap.size) :
    Calls Try.prog 76 #[v, .slice d.a n d.c] w (RetIn base v (insQ L d.l).length (insQ L d.l) w) := by
  rcases ha.form with ⟨rfl, rfl⟩ | ⟨g, c, rfl⟩
  · exact c_l20InsertN n base d w hx hl hb hbase
  · exact c_l20Insert g c L.length n base L d w rfl hNl hn hx hl hasc ha hb hbase
theorem OwnQ.slice {w : World} {base : Nat} {v : Value} {L : List (List Int)} (h : OwnQ w base v L) : ∃ A c, v = .slice A L.length c := by
  rcases h.form with ⟨rfl, rfl⟩ | ⟨g, c, rfl⟩
  · exact ⟨none, 0, rfl⟩
  · exact ⟨_, _, rfl⟩
theorem OwnQ.keptNe {w w' : World} {base : Nat} {v : Value} {L : List (List Int)} {base2 n2 : Nat} {v2 : Value} {xs : List Value} (h : OwnQ w base v L) (h2 : w.ownsRow base2 24 1 v2 n2 xs) (hg : w.grownBy w' v2.ownBlock) (hne : ∀ q, v.ownBlock = some q → v2.ownBlock ≠ some q) : OwnQ w' base v L := by
  obtain ⟨ds, e, h1, h3⟩ := h
  refine ⟨ds, e, h1.kept hg ?_, fun d hd => own_keep (h3 d hd) h2 (by decide) hg⟩
  rcases hv : v.ownBlock with _ | q
  · exact .inl rfl
  · exact .inr fun h' => hne q hv h'.symm
theorem OwnQ.setS {w : World} {base S i : Nat} {v u : Value} {L : List (List Int)} (h : OwnQ w base v L) (hS : S < base) : OwnQ (w.setCell ⟨S, i, none⟩ u) base v L := by
  obtain ⟨ds, e, h1, h3⟩ := h
  exact ⟨ds, e, ownsRow_setCell_below h1 hS u, fun d hd => ownsRow_setCell_below (h3 d hd) hS u⟩
/-- append of one list to lists of the call's own (rows may be shared). -/
theorem wpList_push_q (w : World) {ops : Array Oper} {rest : List Oper} {o : Oper} {a : Act} {Q : Exit → Act → World → Prop} (hgd : o.guard = none) (s x : Operand)
    (ho : o.op = .call { callee := .builtin .append, args := #[s, x], argTypes := #[39, 39] })
    (base : Nat) (v : Value) (n : Nat) (L : List (List Int)) (d : IvD) (g c : Nat) (hs : a.eval s = v) (hown : OwnQ w base v L)
    (hx : a.eval x = .slice (some ⟨g, 0, none⟩) 1 c) (hc : w.cell? ⟨g, 0, none⟩ = some d.v) (hd : w.ownsRow base 2 1 d.v d.l.length (ints d.l)) (hL : L.length = n) (hn : n ≤ 1048577) (hbase : base ≤ w.heap.size)
    (h : ∀ A' c' w', OwnQ w' base (.slice A' (n + 1) c') (L ++ [d.l]) → w.grownBy w' v.ownBlock → (∀ q, (Value.slice A' (n + 1) c').ownBlock = some q → v.ownBlock = some q ∨ w.heap.size ≤ q) → (∃ n xs, w.ownsRow base 24 1 v n xs) → wpList Try.prog ops Q rest (a.put o.dst (.slice A' (n + 1) c')) w') : wpList Try.prog ops Q (o :: rest) a w := by
  obtain ⟨i0, hi, hz0, hz1, hz2⟩ := info_parts info_intS
  obtain ⟨ds, rfl, h1, h2⟩ := hown
  rw [List.length_map] at h1 hL
  refine wpList_push w hgd s x 39 ho base 24 i0 (.slice none 0 0) 1 24 Try.underlying39 hi hz0 hz1 hz2 rfl (by decide) v ds.length (rowsC ds) hs h1 ⟨g, 0, none⟩ c [d.v] hx rfl (fun j u hu => by rw [Addr.add_lit]; exact one_at hc j u hu) (by intro u hu; simp only [List.mem_singleton] at hu; subst hu; rfl) (by unfold maxLen; omega) (by omega) hbase ?_
  intro v' w' hown1 hgrow _ hloc
  obtain ⟨g', c', rfl⟩ := own_form hown1
  subst hL
  refine h _ c' w' ⟨ds ++ [d], by simp, ?_, fun d' hd' => ?_⟩ hgrow (fun q hq => ?_) ⟨_, _, h1⟩
  · have e : rowsC (ds ++ [d]) = rowsC ds ++ [d.v] := by simp [rowsC]
    rw [e]
    simpa using hown1
  · rcases List.mem_append.1 hd' with hd' | hd'
    · exact own_keep (h2 d' hd') h1 (by decide) hgrow
    · simp only [List.mem_singleton] at hd'
      subst hd'
      exact own_keep hd h1 (by decide) hgrow
  · rcases hloc with e | e
    · exact .inl (e ▸ hq)
    · rw [e] at hq; simp only [Option.some.injEq] at hq; exact .inr (by omega)
/-- The blocks but S and the rows of slices from S on stay as they were. -/
structure Kp (S : Nat) (w w' : World) : Prop where
  os : w'.os = w.os
  tape : w'.tape = w.tape
  output : w'.output = w.output
  size : w.heap.size ≤ w'.heap.size
  block : ∀ (k : Nat), k < w.heap.size → k ≠ S → (k < S ∨ ∀ (cur : Array Value) (fz : Nat × Nat), w.heap[k]? ≠ some (Obj.cells cur 24 fz)) → w'.heap[k]? = w.heap[k]?
theorem Kp.refl (S : Nat) (w : World) : Kp S w w := ⟨rfl, rfl, rfl, Nat.le_refl _, fun _ _ _ _ => rfl⟩
theorem Kp.trans {S : Nat} {a b c : World} (h1 : Kp S a b) (h2 : Kp S b c) : Kp S a c :=
  ⟨h2.os.trans h1.os, h2.tape.trans h1.tape, h2.output.trans h1.output, Nat.le_trans h1.size h2.size, fun k hk hS ho => by
    have e := h1.block k hk hS ho
    exact (h2.block k (Nat.lt_of_lt_of_le hk h1.size) hS (ho.imp id fun h cur fz hc => h cur fz (e ▸ hc))).trans e⟩
theorem Kp.of_below {S : Nat} {a b : World} (h : Below a.heap.size a b) : Kp S a b := ⟨h.os, h.tape, h.output, h.size, fun k hk _ _ => h.block k hk⟩
theorem Kp.of_grown {S base n : Nat} {a b : World} {v : Value} {xs : List Value} (ho : a.ownsRow base 24 1 v n xs) (hS : S < base) (hg : a.grownBy b v.ownBlock) : Kp S a b :=
  ⟨hg.os, hg.tape, hg.output, hg.size, fun k hk _ h => by
    refine hg.block k hk fun e => ?_
    rcases h with h | h
    · have := (ho.lt k e.symm).1; omega
    · rcases ho.2 with ⟨e2, _⟩ | ⟨g, cap, cur, e2, _, hgg, _⟩
      · rw [e2] at e; cases e
      · rw [e2] at e
        simp only [Value.ownBlock, Option.some.injEq] at e
        subst e
        exact h _ _ hgg⟩
theorem Kp.setS (S i : Nat) (w : World) (u : Value) : Kp S w (w.setCell ⟨S, i, none⟩ u) :=
  ⟨rfl, rfl, rfl, by simp [World.setCell], fun k _ hS _ => Below.heap_setCell _ _ _ _ hS⟩
theorem Below.kp {S : Nat} {x a b : World} (hx : Below x.heap.size x a) (h : Kp S a b) (hS : x.heap.size ≤ S) : Below x.heap.size x b :=
  ⟨h.os.trans hx.os, h.tape.trans hx.tape, h.output.trans hx.output, Nat.le_trans hx.size h.size, fun k hk => (h.block k (Nat.lt_of_lt_of_le hk hx.size) (by omega) (.inl (by omega))).trans (hx.block k hk)⟩
theorem Kp.own {S : Nat} {a b : World} (h : Kp S a b) {base : Nat} {e : TypeId} {size n : Nat} {v : Value} {xs : List Value} (ho : a.ownsRow base e size v n xs) (hb : S < base) (he : e ≠ 24) : b.ownsRow base e size v n xs := by
  refine ⟨ho.1, ?_⟩
  rcases ho.2 with h2 | ⟨g, cap, cur, hv, hg, hgg, r⟩
  · exact .inl h2
  · refine .inr ⟨g, cap, cur, hv, hg, ?_, r⟩
    rw [h.block g (Array.getElem?_eq_some_iff.1 hgg).1 (by omega) (.inr fun cur' fz hc => by
      rw [hgg] at hc
      simp only [Option.some.injEq, Obj.cells.injEq] at hc
      exact he hc.2.1)]
    exact hgg
theorem Kp.cell {S : Nat} {a b : World} (h : Kp S a b) {p : Addr} {v : Value} (hc : a.cell? p = some v) (hp : p.block < S) : b.cell? p = some v :=
  (World.cell?_of_block (h.block p.block (World.block_lt_of_cell? a p hc) (by omega) (.inl hp))).trans hc
/-- The search at block S: its lists, its own. -/
structure StB (w : World) (S base : Nat) (vo vt vk : Value) (ov : Bool) (acc : List Rc) : Prop where
  blk : w.heap[S]? = some (Obj.cells #[vo, vt, vk, .bool ov] 80 (0, 0))
  lt : S < base
  sz : base ≤ w.heap.size
  o : OwnQ w base vo (acc.map Rc.v)
  t : OwnQ w base vt (acc.map Rc.t)
  k : OwnQ w base vk (ascL (acc.map Rc.v))
  ot : ∀ q, vo.ownBlock = some q → vt.ownBlock ≠ some q
  ok : ∀ q, vo.ownBlock = some q → vk.ownBlock ≠ some q
  tk : ∀ q, vt.ownBlock = some q → vk.ownBlock ≠ some q
def StS (w : World) (S base : Nat) (ov : Bool) (acc : List Rc) : Prop := ∃ vo vt vk, StB w S base vo vt vk ov acc
theorem StB.below {w w1 : World} {S base : Nat} {vo vt vk : Value} {ov : Bool} {acc : List Rc} (h : StB w S base vo vt vk ov acc) (hb : Below w.heap.size w w1) : StB w1 S base vo vt vk ov acc :=
  ⟨by rw [hb.block S (Array.getElem?_eq_some_iff.1 h.blk).1]; exact h.blk, h.lt, Nat.le_trans h.sz hb.size, h.o.below hb, h.t.below hb, h.k.below hb, h.ot, h.ok, h.tk⟩
theorem st_cells {w : World} {S : Nat} {vo vt vk vb : Value} (h : w.heap[S]? = some (Obj.cells #[vo, vt, vk, vb] 80 (0, 0))) :
    w.cell? ⟨S, 0, none⟩ = some vo ∧ w.cell? ⟨S, 1, none⟩ = some vt ∧ w.cell? ⟨S, 2, none⟩ = some vk ∧ w.cell? ⟨S, 3, none⟩ = some vb ∧ ∀ j, w.frozen? ⟨S, j, none⟩ = false :=
  ⟨cell_of_row w S 0 _ _ _ h, cell_of_row w S 1 _ _ _ h, cell_of_row w S 2 _ _ _ h, cell_of_row w S 3 _ _ _ h, fun j => frozen_of_row w S j _ _ h⟩
theorem stS_set {w : World} {S : Nat} {cur : Array Value} (h : w.heap[S]? = some (Obj.cells cur 80 (0, 0))) (i : Nat) (u : Value) : (w.setCell ⟨S, i, none⟩ u).heap[S]? = some (Obj.cells (cur.setIfInBounds i u) 80 (0, 0)) := by
  unfold World.setCell
  simp only
  rw [Array.getElem?_modify, if_pos rfl, h]
  rfl
theorem heap_kept {w w' : World} {S : Nat} {o : Obj} {row : Option Nat} (h : w.heap[S]? = some o) (hg : w.grownBy w' row) (hr : ∀ q, row = some q → S < q) : w'.heap[S]? = some o :=
  (hg.block S (Array.getElem?_eq_some_iff.1 h).1 (fun e => by have := hr S e.symm; omega)).trans h
theorem mem_asc_has {acc : List Rc} {v : List Int} : decide (v ∈ ascL (acc.map Rc.v)) = hasV acc v := by
  rcases h : hasV acc v with _ | _
  · rw [decide_eq_false_iff_not, mem_ascL]
    intro hm
    rw [hasV_iff.2 hm] at h
    cases h
  · rw [decide_eq_true_eq, mem_ascL]
    exact hasV_iff.1 h
end Go.Proofs.Ytaloheljfefdeaa

/- l21Add (reference): the walk. Condition: all states are of one length, and are at most 4000. -/
namespace Go.Proofs.Ytaloheljfefdeaa
open Go.RowKit

/-- The search with one more state, and whether there are too many. -/
def adS (acc : List Rc) (x : Rc) : List Rc := if hasV acc x.v then acc else if acc.length = 4000 then acc else acc ++ [x]
def adO (acc : List Rc) (x : Rc) : Bool := !hasV acc x.v && decide (acc.length = 4000)
/-- What l21Add leaves. -/
def RetAd (S base : Nat) (acc : List Rc) (x : Rc) (w : World) (e : Ending) (w' : World) : Prop := e = .returned (.tuple #[]) ∧ Kp S w w' ∧ StS w' S base (adO acc x) (adS acc x)
set_option maxHeartbeats 2000000 in
set_option maxRecDepth 100000 in
theorem c_l21Add (S base n tl : Nat) (acc : List Rc) (x : Rc) (va ta : Option Addr) (vc tc : Nat) (w : World) (hl : n ≤ 1048576) (hn : ∀ y ∈ acc, y.v.length = n) (hx : x.v.length = n) (ht : x.t.length = tl) (hnd : (acc.map Rc.v).Nodup) (hlen : acc.length ≤ 4000) (h : StS w S base false acc)
    (hb : w.ownsRow base 2 1 (.slice va n vc) n (ints x.v)) (hbt : w.ownsRow base 2 1 (.slice ta tl tc) tl (ints x.t)) :
    Calls Try.prog 119 #[.pointer (some ⟨S, 0, none⟩), .slice va n vc, .slice ta tl tc] w (RetAd S base acc x w) := by
  obtain ⟨vo, vt, vk, hst⟩ := h
  obtain ⟨Ao, co, rfl⟩ := hst.o.slice
  obtain ⟨At, ct, rfl⟩ := hst.t.slice
  obtain ⟨Ak, ck, rfl⟩ := hst.k.slice
  have hkl : (ascL (acc.map Rc.v)).length = acc.length := by rw [ascL_len hnd, List.length_map]
  have hdv : (⟨x.v, va, vc⟩ : IvD).v = .slice va n vc := by unfold IvD.v; rw [hx]
  have hdt : (⟨x.t, ta, tc⟩ : IvD).v = .slice ta tl tc := by unfold IvD.v; rw [ht]
  have HDV := Lib.hid hdv
  have HDT := Lib.hid hdt
  have HST := Lib.hid hst
  have HOV := Lib.hid (show w.ownsRow base 2 1 (⟨x.v, va, vc⟩ : IvD).v (⟨x.v, va, vc⟩ : IvD).l.length (ints (⟨x.v, va, vc⟩ : IvD).l) by rw [hdv]; show w.ownsRow base _ 1 _ x.v.length _; rw [hx]; exact hb)
  have HOT := Lib.hid (show w.ownsRow base 2 1 (⟨x.t, ta, tc⟩ : IvD).v (⟨x.t, ta, tc⟩ : IvD).l.length (ints (⟨x.t, ta, tc⟩ : IvD).l) by rw [hdt]; show w.ownsRow base _ 1 _ x.t.length _; rw [ht]; exact hbt)
  have hmn : ∀ l ∈ ascL (acc.map Rc.v), l.length = n := fun l hl' => by
    obtain ⟨y, hy, rfl⟩ := List.mem_map.1 (mem_ascL.1 hl')
    exact hn y hy
  have HP := Lib.hid (fun w' h h' => c_l20Place Ak va ck vc (ascL (acc.map Rc.v)).length n (ascL (acc.map Rc.v)) x.v w' rfl (by omega) hmn hx hl (asc_ascL _) h h')
  have HI := Lib.hid (fun v w' (h : OwnQ w' base v (ascL (acc.map Rc.v))) h' hbase => c_insQ n base v (ascL (acc.map Rc.v)) ⟨x.v, va, vc⟩ w' (by omega) hmn hx hl (asc_ascL _) h h' hbase)
  rw [mem_asc_has] at HP
  have HLO : Hid ((acc.map Rc.v).length = acc.length) := Lib.hid (List.length_map ..)
  have HLT : Hid ((acc.map Rc.t).length = acc.length) := Lib.hid (List.length_map ..)
  have HLK := Lib.hid hkl
  have HAS := Lib.hid (show ∀ a b, adS acc x = a → adO acc x = b → ∀ w', Kp S w w' → StS w' S base b a → RetAd S base acc x w (.returned (.tuple #[])) w' from fun a b h1 h2 w' h3 h4 => ⟨rfl, h3, by rw [h1, h2]; exact h4⟩)
  have HE1 := Lib.hid (show hasV acc x.v = true → adS acc x = acc ∧ adO acc x = false from fun h => by unfold adS adO; rw [h]; exact ⟨rfl, rfl⟩)
  have HE2 := Lib.hid (show hasV acc x.v = false → acc.length = 4000 → adS acc x = acc ∧ adO acc x = true from fun h h2 => by unfold adS adO; rw [h, h2]; exact ⟨rfl, rfl⟩)
  have HE3 := Lib.hid (show hasV acc x.v = false → ¬ acc.length = 4000 → adS acc x = acc ++ [x] ∧ adO acc x = false from fun h h2 => by unfold adS adO; rw [h, decide_eq_false h2]; exact ⟨by simp [h2], rfl⟩)
  have hlt := hst.lt
  clear hb hbt hn hx ht hnd hkl hdv hdt hmn hst
  obtain ⟨k0, k1, k2, k3, fz⟩ := st_cells HST.out.blk
  have f0 := fz 0
  have f1 := fz 1
  have f2 := fz 2
  have f3 := fz 3
  clear fz
  rw [HLO.out] at k0 HST
  rw [HLT.out] at k1 HST
  rw [HLK.out] at k2 HST HP
  have hSz : S < w.heap.size := (Array.getElem?_eq_some_iff.1 HST.out.blk).1
  generalize hacl : acc.length = N at *
  have HACL := Lib.hid hacl
  clear hacl
  rcases hhv : hasV acc x.v with _ | _
  · rw [hhv] at HP
    by_cases h4 : N = 4000
    · obtain ⟨e1, e2⟩ := HE2.out hhv h4
      have HRR := Lib.hid (HAS.out _ _ e1 e2)
      clear hhv e1 e2 HE1 HE2 HE3 HAS HI
      subst h4
      go_enter Try.func119, Try.ntmps119
      go_wp2_with (fail)
      refine (HP.out _ (HST.out.k.rd HLK.out.symm) (by have := Rd.own HOV.out; exact this)).mono ?_
      rintro e w1 ⟨rfl, hb⟩
      have HS1 := Lib.hid (HST.out.below hb)
      have HK1 := Lib.hid (Kp.of_below (S := S) hb)
      obtain ⟨j0, j1, j2, j3, fz⟩ := st_cells HS1.out.blk
      have g3 := fz 3
      clear fz hb k0 k1 k2 k3 f0 f1 f2 f3
      go_wp2
      go_end0
      refine HRR.out _ (HK1.out.trans (Kp.setS S 3 _ _)) ⟨_, _, _, ⟨by have := stS_set HS1.out.blk 3 (.bool true); simpa using this, hlt, (by simp; exact HS1.out.sz), HS1.out.o.setS hlt, HS1.out.t.setS hlt, HS1.out.k.setS hlt, HS1.out.ot, HS1.out.ok, HS1.out.tk⟩⟩
    · obtain ⟨e1, e2⟩ := HE3.out hhv h4
      have HRR := Lib.hid (HAS.out _ _ e1 e2)
      have HAV := Lib.hid (show (acc ++ [x]).map Rc.v = acc.map Rc.v ++ [x.v] by simp)
      have HAT := Lib.hid (show (acc ++ [x]).map Rc.t = acc.map Rc.t ++ [x.t] by simp)
      have HAK := Lib.hid (show ascL ((acc ++ [x]).map Rc.v) = insQ (ascL (acc.map Rc.v)) x.v by rw [HAV.out, ascL_snoc])
      have h4i : ((N : Int) == 4000) = false := by simp; omega
      have h4j : ¬ (N : Int) = 4000 := by omega
      clear hhv e1 e2 HE1 HE2 HE3 HAS
      go_enter Try.func119, Try.ntmps119
      go_wp2_with (fail)
      refine (HP.out _ (HST.out.k.rd HLK.out.symm) (by have := Rd.own HOV.out; exact this)).mono ?_
      rintro e w1 ⟨rfl, hb⟩
      have HS1 := Lib.hid (HST.out.below hb)
      have HK1 := Lib.hid (Kp.of_below (S := S) hb)
      have HOV1 := Lib.hid (own_below HOV.out hb)
      have HOT1 := Lib.hid (own_below HOT.out hb)
      have HBA := Lib.hid (below_alloc (Below.refl w1.heap.size w1) (Obj.cells #[Value.slice va n vc] 24))
      have HS2 := Lib.hid (HS1.out.below HBA.out)
      have hs1 := hb.size
      obtain ⟨j0, j1, j2, j3, fz⟩ := st_cells HS1.out.blk
      have hb1 := HS1.out.sz
      clear hb k0 k1 k2 k3 f0 f1 f2 f3
      go_wp2_with (first
        | (at_builtin
           refine wpList_push_q _ rfl (.tmp 31) (.tmp 33) rfl base (.slice Ao N co) N (acc.map Rc.v) ⟨x.v, va, vc⟩ w1.heap.size 1 rfl HS2.out.o rfl (by rw [HDV.out]; go_simp) (own_below HOV1.out HBA.out) HLO.out (by omega) (by simp; omega) ?_
           intro Ao' co' w2 ho2 hg2 hl2 hx2
           obtain ⟨q2, xs2, hx2⟩ := hx2
           have hs2 := hg2.size
           simp only [World.size_alloc] at hs2
           have HBK := Lib.hid (heap_kept HS2.out.blk hg2 (fun q hq => by have := (hx2.lt q hq).1; omega))
           have HK2 := Lib.hid (HK1.out.trans ((Kp.of_below HBA.out).trans (Kp.of_grown hx2 hlt hg2)))
           have HT2 := Lib.hid (HS2.out.t.keptNe hx2 hg2 (fun q hq e => HS2.out.ot q e hq))
           have HKK2 := Lib.hid (HS2.out.k.keptNe hx2 hg2 (fun q hq e => HS2.out.ok q e hq))
           have HOV2 := Lib.hid (own_keep (own_below HOV1.out HBA.out) hx2 (by decide) hg2)
           have HOT2 := Lib.hid (own_keep (own_below HOT1.out HBA.out) hx2 (by decide) hg2)
           have HOT' : Hid (∀ q, (Value.slice Ao' (N + 1) co').ownBlock = some q → (Value.slice At N ct).ownBlock ≠ some q) := Lib.hid fun q hq e => by
             rcases hl2 q hq with h | h
             · exact HS2.out.ot q h e
             · have := (HS1.out.t.ge q e).2; simp at h; omega
           have HOK' : Hid (∀ q, (Value.slice Ao' (N + 1) co').ownBlock = some q → (Value.slice Ak N ck).ownBlock ≠ some q) := Lib.hid fun q hq e => by
             rcases hl2 q hq with h | h
             · exact HS2.out.ok q h e
             · have := (HS1.out.k.ge q e).2; simp at h; omega
           obtain ⟨l0, l1, l2, l3, fz2⟩ := st_cells HBK.out
           have g0 := fz2 0
           have HB3 := Lib.hid (show (w2.setCell ⟨S, 0, none⟩ (.slice Ao' (N + 1) co')).heap[S]? = some (Obj.cells #[.slice Ao' (N + 1) co', .slice At N ct, .slice Ak N ck, .bool false] 80 (0, 0)) by have := stS_set HBK.out 0 (.slice Ao' (N + 1) co'); simpa using this)
           have HO3 := Lib.hid (ho2.setS (i := 0) (u := (.slice Ao' (N + 1) co')) hlt)
           have HT3 := Lib.hid (HT2.out.setS (i := 0) (u := (.slice Ao' (N + 1) co')) hlt)
           have HKK3 := Lib.hid (HKK2.out.setS (i := 0) (u := (.slice Ao' (N + 1) co')) hlt)
           have HOV3 := Lib.hid (ownsRow_setCell_below HOV2.out (a := ⟨S, 0, none⟩) hlt (.slice Ao' (N + 1) co'))
           have HOT3 := Lib.hid (ownsRow_setCell_below HOT2.out (a := ⟨S, 0, none⟩) hlt (.slice Ao' (N + 1) co'))
           have HK3 := Lib.hid (HK2.out.trans (Kp.setS S 0 w2 (.slice Ao' (N + 1) co')))
           have HBA3 := Lib.hid (below_alloc (Below.refl _ (w2.setCell ⟨S, 0, none⟩ (.slice Ao' (N + 1) co'))) (Obj.cells #[Value.slice ta tl tc] 24))
           clear ho2 hg2 hl2 hx2 fz2 HBK HK2 HT2 HKK2 HOV2 HOT2 l3)
        | (at_builtin
           refine wpList_push_q _ rfl (.tmp 41) (.tmp 43) rfl base (.slice At N ct) N (acc.map Rc.t) ⟨x.t, ta, tc⟩ w2.heap.size 1 rfl (HT3.out.below HBA3.out) rfl (by rw [HDT.out]; go_simp) (own_below HOT3.out HBA3.out) HLT.out (by omega) (by simp; omega) ?_
           intro At' ct' w4 ho4 hg4 hl4 hx4
           obtain ⟨q4, xs4, hx4⟩ := hx4
           have hs4 := hg4.size
           simp only [World.size_alloc, World.size_setCell] at hs4
           have HB4 := Lib.hid (heap_kept ((HBA3.out.block S (Array.getElem?_eq_some_iff.1 HB3.out).1).trans HB3.out) hg4 (fun q hq => by have := (hx4.lt q hq).1; omega))
           have HK4 := Lib.hid (HK3.out.trans ((Kp.of_below HBA3.out).trans (Kp.of_grown hx4 hlt hg4)))
           have HO4 := Lib.hid ((HO3.out.below HBA3.out).keptNe hx4 hg4 HOT'.out)
           have HKK4 := Lib.hid ((HKK3.out.below HBA3.out).keptNe hx4 hg4 (fun q hq e => HS2.out.tk q e hq))
           have HOV4 := Lib.hid (own_keep (own_below HOV3.out HBA3.out) hx4 (by decide) hg4)
           have HOT4 : Hid (∀ q, (Value.slice Ao' (N + 1) co').ownBlock = some q → (Value.slice At' (N + 1) ct').ownBlock ≠ some q) := Lib.hid fun q hq e => by
             rcases hl4 q e with h | h
             · exact HOT'.out q hq h
             · have := (HO3.out.ge q hq).2; simp at this h; omega
           have HTK4 : Hid (∀ q, (Value.slice At' (N + 1) ct').ownBlock = some q → (Value.slice Ak N ck).ownBlock ≠ some q) := Lib.hid fun q hq e => by
             rcases hl4 q hq with h | h
             · exact HS2.out.tk q h e
             · have := (HS1.out.k.ge q e).2; simp at h; omega
           obtain ⟨m0, m1, m2, m3, fz4⟩ := st_cells HB4.out
           have g1 := fz4 1
           have HB5 := Lib.hid (show (w4.setCell ⟨S, 1, none⟩ (Value.slice At' (N + 1) ct')).heap[S]? = some (Obj.cells #[.slice Ao' (N + 1) co', .slice At' (N + 1) ct', .slice Ak N ck, .bool false] 80 (0, 0)) by have := stS_set HB4.out 1 (Value.slice At' (N + 1) ct'); simpa using this)
           have HO5 := Lib.hid (HO4.out.setS (i := 1) (u := (Value.slice At' (N + 1) ct')) hlt)
           have HT5 := Lib.hid (ho4.setS (i := 1) (u := (Value.slice At' (N + 1) ct')) hlt)
           have HKK5 := Lib.hid (HKK4.out.setS (i := 1) (u := (Value.slice At' (N + 1) ct')) hlt)
           have HOV5 := Lib.hid (ownsRow_setCell_below HOV4.out (a := ⟨S, 1, none⟩) hlt (Value.slice At' (N + 1) ct'))
           have HK5 := Lib.hid (HK4.out.trans (Kp.setS S 1 w4 (Value.slice At' (N + 1) ct')))
           clear ho4 hg4 hl4 hx4 fz4 HB4 HK4 HO4 HKK4 HOV4 HO3 HT3 HKK3 HOV3 HOT3 HK3 HBA3 HB3 m0 m3))
      go_wp2_with (fail)
      refine (HI.out (.slice Ak N ck) _ HKK5.out HOV5.out (by simp; omega)).mono ?_
      rintro e w6 ⟨Ak', ck', rfl, hok, hloc, hb⟩
      have HK6 := Lib.hid (HK5.out.trans (Kp.of_below hb))
      have HB6 := Lib.hid ((hb.block S (Array.getElem?_eq_some_iff.1 HB5.out).1).trans HB5.out)
      have HO6 := Lib.hid (HO5.out.below hb)
      have HT6 := Lib.hid (HT5.out.below hb)
      have HKK6 := Lib.hid hok
      have hs6 := hb.size
      simp only [World.size_setCell] at hs6
      have HOK6 : Hid (∀ q, (Value.slice Ao' (N + 1) co').ownBlock = some q → (Value.slice Ak' (insQ (ascL (acc.map Rc.v)) x.v).length ck').ownBlock ≠ some q) := Lib.hid fun q hq e => by
        rcases hloc with h | h
        · rw [h] at e; exact HOK'.out q hq e
        · have h1 := h q e; have := (HO5.out.ge q hq).2; simp at this h1; omega
      have HTK6 : Hid (∀ q, (Value.slice At' (N + 1) ct').ownBlock = some q → (Value.slice Ak' (insQ (ascL (acc.map Rc.v)) x.v).length ck').ownBlock ≠ some q) := Lib.hid fun q hq e => by
        rcases hloc with h | h
        · rw [h] at e; exact HTK4.out q hq e
        · have h1 := h q e; have := (HT5.out.ge q hq).2; simp at this h1; omega
      obtain ⟨p0, p1, p2, p3, fz6⟩ := st_cells HB6.out
      have g2 := fz6 2
      clear hok hloc hb fz6 HK5 HB5 HO5 HT5 HKK5 HOV5 HI HP
      generalize hR : insQ (ascL (acc.map Rc.v)) x.v = R at *
      have HRE := Lib.hid hR
      clear hR
      generalize R.length = rl at *
      go_wp2
      go_end0
      refine HRR.out _ (HK6.out.trans (Kp.setS S 2 _ _)) ⟨.slice Ao' (N + 1) co', .slice At' (N + 1) ct', .slice Ak' rl ck', ⟨by have := stS_set HB6.out 2 (.slice Ak' rl ck'); simpa using this, hlt, (by simp; omega), ?_, ?_, ?_, HOT4.out, HOK6.out, HTK6.out⟩⟩
      · rw [HAV.out]; exact HO6.out.setS hlt
      · rw [HAT.out]; exact HT6.out.setS hlt
      · rw [HAK.out]; exact HKK6.out.setS hlt
  · rw [hhv] at HP
    obtain ⟨e1, e2⟩ := HE1.out hhv
    have HRR := Lib.hid (HAS.out _ _ e1 e2)
    clear hhv e1 e2 HE1 HE2 HE3 HAS HI
    go_enter Try.func119, Try.ntmps119
    go_wp2_with (fail)
    refine (HP.out _ (HST.out.k.rd HLK.out.symm) (by have := Rd.own HOV.out; exact this)).mono ?_
    rintro e w1 ⟨rfl, hb⟩
    have HS1 := Lib.hid (HST.out.below hb)
    have HK1 := Lib.hid (Kp.of_below (S := S) hb)
    clear hb k0 k1 k2 k3 f0 f1 f2 f3
    go_wp2
    go_end0
    exact HRR.out _ HK1.out ⟨_, _, _, HS1.out⟩
end Go.Proofs.Ytaloheljfefdeaa

/- l21Run (reference): what it is made of. Condition: the lengths are those that the laws let by. -/
namespace Go.Proofs.Ytaloheljfefdeaa
open Go.RowKit

theorem wpList_append_int_none (w : World) {ops : Array Oper} {rest : List Oper} {o : Oper} {a : Act} {Q : Exit → Act → World → Prop} (hgd : o.guard = none) (s x : Operand)
    (ho : o.op = .call { callee := .builtin .append, args := #[s, x], argTypes := #[24, 24] })
    (base : Nat) (v : Value) (n : Nat) (xs : List Value) (hs : a.eval s = v) (hown : w.ownsRow base 2 1 v n xs) (hx : a.eval x = .slice none 0 0)
    (h : wpList Try.prog ops Q rest (a.put o.dst v) w) : wpList Try.prog ops Q (o :: rest) a w := by
  obtain ⟨i0, hi, hz0, hz1, hz2⟩ := info_parts info_int64
  exact wpList_append_own_none hgd s x 24 ho base 2 i0 1 Try.underlying24 hi v n xs hs hown hx h
set_option maxRecDepth 100000 in
theorem c_l01OwnN (w : World) : Calls Try.prog 55 #[.slice none 0 0] w fun e w' => ∃ g c', e = .returned (.slice (some ⟨g, 0, none⟩) 0 c') ∧ w'.ownsRow w.heap.size 2 1 (.slice (some ⟨g, 0, none⟩) 0 c') 0 (ints []) ∧ Below w.heap.size w w' := by
  go_enter Try.func55, Try.ntmps55
  go_wp2_with (first
    | (at_builtin
       refine wpList_append_int_none _ (by rfl) (.tmp 3) (.tmp 4) (by rfl) w.heap.size (.slice (some ⟨w.heap.size, 0, none⟩) 0 0) 0 [] (by rfl) (World.ownsRow_made w #[] 0 (Nat.le_refl _) (Nat.zero_le _) rfl) (by rfl) ?_)
    )
  go_ret
  exact ⟨_, _, rfl, World.ownsRow_made w #[] 0 (Nat.le_refl _) (Nat.zero_le _) rfl, below_alloc (Below.refl _ _) _⟩
theorem c_l01OwnQ (base n c : Nat) (A : Option Addr) (zs : List Int) (w : World) (hn : n = zs.length) (hs : n ≤ 100000000) (hr : w.ownsRow base 2 1 (.slice A n c) n (ints zs)) :
    Calls Try.prog 55 #[.slice A n c] w fun e w' => ∃ g c', e = .returned (.slice (some ⟨g, 0, none⟩) n c') ∧ w'.ownsRow w.heap.size 2 1 (.slice (some ⟨g, 0, none⟩) n c') n (ints zs) ∧ Below w.heap.size w w' := by
  rcases hr.2 with ⟨h1, h2⟩ | ⟨g, cap, cur, h1, _⟩
  · simp only [Value.slice.injEq] at h1
    obtain ⟨rfl, rfl, rfl⟩ := h1
    obtain rfl : zs = [] := List.eq_nil_of_length_eq_zero hn.symm
    exact c_l01OwnN w
  · simp only [Value.slice.injEq, true_and] at h1
    obtain ⟨rfl, rfl⟩ := h1
    exact c_l01Own g 0 c n zs w hn hs (Rd.own hr)
theorem OwnQ.at {w : World} {base n c k : Nat} {A : Option Addr} {L : List (List Int)} {l : List Int} (h : OwnQ w base (.slice A n c) L) (hk : L[k]? = some l) : ∃ g a c', A = some ⟨g, 0, none⟩ ∧ base ≤ g ∧ w.cell? ⟨g, k, none⟩ = some (.slice a l.length c') ∧ w.ownsRow base 2 1 (.slice a l.length c') l.length (ints l) := by
  obtain ⟨ds, rfl, h1, h2⟩ := h
  rw [List.getElem?_map, Option.map_eq_some_iff] at hk
  obtain ⟨d, hd, rfl⟩ := hk
  rcases h1.2 with ⟨_, e2⟩ | ⟨g, cap, cur, e, hb, _⟩
  · rw [List.length_map] at e2
    have := List.eq_nil_of_length_eq_zero e2
    subst this
    simp at hd
  · simp only [Value.slice.injEq] at e
    obtain ⟨rfl, _, rfl⟩ := e
    have hc := h1.cells (g := g) rfl k d.v (by simp [rowsC, hd])
    rw [Addr.add_lit, Nat.zero_add] at hc
    exact ⟨g, d.a, d.c, rfl, hb, hc, h2 d (List.mem_of_getElem? hd)⟩
theorem ad_false {acc : List Rc} {x : Rc} (h : adO acc x = false) (hl : acc.length ≤ 4000) : adS acc x = addR acc x ∧ (adS acc x).length ≤ 4000 := by
  unfold adO at h
  unfold adS addR
  rcases hv : hasV acc x.v with _ | _
  · rw [hv] at h
    have h4 : ¬ acc.length = 4000 := by simpa using h
    rw [if_neg (by simp), if_neg h4, if_neg (by simp)]
    exact ⟨rfl, by rw [List.length_append]; simp; omega⟩
  · rw [if_pos rfl, if_pos rfl]
    exact ⟨rfl, hl⟩
theorem ad_true {acc : List Rc} {x : Rc} (h : adO acc x = true) : 4000 < (addR acc x).length ∧ (adS acc x).length = 4000 := by
  unfold adO at h
  simp only [Bool.and_eq_true, Bool.not_eq_true', decide_eq_true_eq] at h
  unfold adS addR
  rw [h.1, if_neg (by simp), if_pos h.2, if_neg (by simp), List.length_append, h.2]
  exact ⟨by simp, rfl⟩
/-- append of one number, as one operation; where the new list lies. -/
theorem wp_push_int (w : World) {o : Oper} {a : Act} {K : Act → World → Prop} {Q : Exit → Act → World → Prop} (s x : Operand)
    (ho : o.op = .call { callee := .builtin .append, args := #[s, x], argTypes := #[24, 24] })
    (base : Nat) (v : Value) (n : Nat) (zs : List Int) (z : Int) (g c : Nat) (hs : a.eval s = v) (hown : w.ownsRow base 2 1 v n (ints zs))
    (hx : a.eval x = .slice (some ⟨g, 0, none⟩) 1 c) (hc : w.cell? ⟨g, 0, none⟩ = some (.int .i64 z)) (hn : n ≤ 1048577) (hbase : base ≤ w.heap.size)
    (h : ∀ g' c' w', w'.ownsRow base 2 1 (.slice (some ⟨g', 0, none⟩) (n + 1) c') (n + 1) (ints (zs ++ [z])) → w.grownBy w' v.ownBlock → K (a.put o.dst (.slice (some ⟨g', 0, none⟩) (n + 1) c')) w') : o.wp Try.prog a w K Q := by
  obtain ⟨i0, hi, hz0, hz1, hz2⟩ := info_parts info_int64
  refine wp_push w s x 24 ho base 2 i0 (.int .i64 0) 1 8 Try.underlying24 hi hz0 hz1 hz2 rfl (by decide) v n (ints zs) hs hown ⟨g, 0, none⟩ c [.int .i64 z] hx rfl (fun j u hu => by rw [Addr.add_lit]; exact one_at hc j u hu) (by intro u hu; simp only [List.mem_singleton] at hu; subst hu; rfl) (by unfold maxLen; omega) (by omega) hbase ?_
  intro v' w' h1 h2 _ _
  obtain ⟨g', c', rfl⟩ := own_form h1
  exact h g' c' w' (by simpa [ints] using h1) h2
theorem StB.c {w : World} {S base : Nat} {vo vt vk : Value} {ov : Bool} {acc : List Rc} (h : StB w S base vo vt vk ov acc) : w.cell? ⟨S, 0, none⟩ = some vo ∧ w.cell? ⟨S, 1, none⟩ = some vt ∧ w.cell? ⟨S, 2, none⟩ = some vk ∧ w.cell? ⟨S, 3, none⟩ = some (.bool ov) := by
  obtain ⟨k0, k1, k2, k3, _⟩ := st_cells h.blk
  exact ⟨k0, k1, k2, k3⟩
theorem StS.forms {w : World} {S base : Nat} {ov : Bool} {acc : List Rc} (h : StS w S base ov acc) : ∃ Ao co At ct Ak ck, StB w S base (.slice Ao acc.length co) (.slice At acc.length ct) (.slice Ak (ascL (acc.map Rc.v)).length ck) ov acc := by
  obtain ⟨vo, vt, vk, hst⟩ := h
  obtain ⟨Ao, co, rfl⟩ := hst.o.slice
  obtain ⟨At, ct, rfl⟩ := hst.t.slice
  obtain ⟨Ak, ck, rfl⟩ := hst.k.slice
  rw [List.length_map] at hst
  rw [List.length_map] at hst
  exact ⟨Ao, co, At, ct, Ak, ck, hst⟩
end Go.Proofs.Ytaloheljfefdeaa

/- A region that draws its order, walked by hand, whose last operation may change what the others read: the condition on the world is asked behind every operation but that one. No condition. -/
namespace Go.Proofs.Ytaloheljfefdeaa

section
variable {P : Program} {ops : Array Oper} {Q : Exit → Act → World → Prop} {md : Region.Mode} {S : World → Prop} {last : Nat}
def wpAnyE (P : Program) (md : Region.Mode) (ops : Array Oper) (Q : Exit → Act → World → Prop) (S : World → Prop) (last : Nat) : Nat → Array Bool → Act → World → Prop
  | 0, listed, a, w => Region.ready md ops listed = [] ∧ Q .normal a w
  | fuel + 1, listed, a, w =>
    (Region.ready md ops listed = [] → Q .normal a w) ∧
    ∀ i ∈ Region.ready md ops listed, wpOp P ops Q i (fun a' w' => (i = last ∨ S w') ∧ wpAnyE P md ops Q S last fuel (listed.setIfInBounds i true) a' w') a w
theorem wpAny_of_heldE : ∀ (fuel : Nat) (listed : Array Bool) (a : Act) (w : World), wpAnyE P md ops Q S last fuel listed a w → wpAny P md ops Q fuel listed a w
  | 0, _, _, _, h => h
  | fuel + 1, _, _, _, h => ⟨h.1, fun i hi => wpOp_mono (fun a' w' h' => wpAny_of_heldE fuel _ a' w' h'.2) (h.2 i hi)⟩
/-- What has come up is closed: whatever an operation waits for has come up before it. -/
def Cl (md : Region.Mode) (ops : Array Oper) (listed : Array Bool) : Prop := ∀ (j : Nat) (oj : Oper), ops[j]? = some oj → listed.getD j false = true → ∀ e ∈ oj.after, Region.binds md e = true → listed.getD e.on false = true
theorem Cl.set {listed : Array Bool} {j : Nat} (h : Cl md ops listed) (hj : j ∈ Region.ready md ops listed) : Cl md ops (listed.setIfInBounds j true) := by
  intro k ok hk hl e he hb
  by_cases e1 : j = k
  · subst e1
    obtain ⟨_, oj, hoj, hall⟩ := mem_ready.1 hj
    rw [hk] at hoj
    simp only [Option.some.injEq] at hoj
    subst hoj
    exact getD_set_true (hall e he hb)
  · rw [getD_set_ne false e1] at hl
    exact getD_set_true (h k ok hk hl e he hb)
/-- Operation l waits for operation i, directly or through others. -/
def depB (md : Region.Mode) (ops : Array Oper) : Nat → Nat → Nat → Bool
  | 0, _, _ => false
  | n + 1, l, i => match ops[l]? with
    | none => false
    | some o => o.after.toList.any fun e => Region.binds md e && (e.on == i || depB md ops n e.on i)
theorem dep_listed {listed : Array Bool} (hc : Cl md ops listed) {i : Nat} : ∀ {n l : Nat}, depB md ops n l i = true → (listed.getD l false = true ∨ l ∈ Region.ready md ops listed) → listed.getD i false = true
  | 0, _, h, _ => by cases h
  | n + 1, l, h, hl => by
    unfold depB at h
    split at h
    · cases h
    · rename_i o ho
      obtain ⟨e, he, h2⟩ := List.any_eq_true.1 h
      rw [Bool.and_eq_true] at h2
      have hem : e ∈ o.after := by simpa using he
      have hon : listed.getD e.on false = true := by
        rcases hl with hl | hl
        · exact hc l o ho hl e hem h2.1
        · obtain ⟨_, o', ho', hall⟩ := mem_ready.1 hl
          rw [ho] at ho'
          simp only [Option.some.injEq] at ho'
          subst ho'
          exact hall e hem h2.1
      have h3 := h2.2
      rw [Bool.or_eq_true] at h3
      rcases h3 with h3 | h3
      · rw [beq_iff_eq] at h3
        exact h3 ▸ hon
      · exact dep_listed hc h3 (.inl hon)
theorem wpAnyE_first {i n : Nat} {oi : Oper} {v : Value} (hi : ops[i]? = some oi) (hsel : ∀ (j : Nat) (o : Oper) cs b, ops[j]? = some o → o.op ≠ .select cs b)
    (hQ : ∀ c a w, Q (.panic c) (a.put oi.dst v) w → Q (.panic c) a w) (hdep : depB md ops n last i = true) :
    ∀ (fuel : Nat) (listed : Array Bool) (a : Act) (w : World), Cl md ops listed →
      (∀ j oj, ops[j]? = some oj → j ≠ i → listed.getD j true = false → (∀ e ∈ oj.after, Region.binds md e = true → e.on ≠ i) → oi.apart ops oj = true) →
      i ∈ Region.ready md ops listed → YieldsIf P ops S oi v a → S w →
      wpAnyE P md ops Q S last fuel (listed.setIfInBounds i true) (a.put oi.dst v) w → wpAnyE P md ops Q S last (fuel + 1) listed a w := by
  intro fuel
  induction fuel with
  | zero =>
    intro listed a w _ _ hr hy hS H
    refine ⟨fun h => (by rw [h] at hr; cases hr), fun j hj => ?_⟩
    by_cases hji : j = i
    · subst hji; exact hy.wpOp hi hS ⟨.inr hS, H⟩
    · have := ready_mono hj hji
      rw [H.1] at this
      cases this
  | succ fuel ih =>
    intro listed a w hc hfree hr hy hS H
    refine ⟨fun h => (by rw [h] at hr; cases hr), fun j hj => ?_⟩
    by_cases hji : j = i
    · subst hji; exact hy.wpOp hi hS ⟨.inr hS, H⟩
    · have h1 := H.2 j (ready_mono hj hji)
      obtain ⟨hjun, oj, hoj, hall⟩ := mem_ready.1 hj
      have hi0 := (mem_ready.1 hr).1
      have hnof : ¬ listed.getD i false = true := fun h => by
        rcases Nat.lt_or_ge i listed.size with h' | h'
        · simp [h'] at h hi0; rw [hi0] at h; cases h
        · simp [Array.getElem?_eq_none h'] at hi0
      have hnot : ∀ e ∈ oj.after, Region.binds md e = true → e.on ≠ i := fun e he hb heq => hnof (heq ▸ hall e he hb)
      have hjl : j ≠ last := fun e => hnof (dep_listed hc hdep (.inr (e ▸ hj)))
      have h2 := wpOp_putIf hoj (hfree j oj hoj hji hjun hnot) (fun cs b => hsel i oi cs b hi) (fun cs b => hsel j oj cs b hoj) hQ hy h1
      have hfree' : ∀ k ok, ops[k]? = some ok → k ≠ i → (listed.setIfInBounds j true).getD k true = false →
          (∀ e ∈ ok.after, Region.binds md e = true → e.on ≠ i) → oi.apart ops ok = true := fun k ok hk hki hun hno => by
        refine hfree k ok hk hki ?_ hno
        by_cases hjk : j = k
        · subst hjk; exact hjun
        · rw [getD_set_ne true hjk] at hun; exact hun
      refine wpOp_mono (fun a' w' h3 => ?_) h2
      have hSw : S w' := h3.2.1.resolve_left hjl
      refine ⟨.inr hSw, ih (listed.setIfInBounds j true) a' w' (hc.set hj) hfree' (ready_mono hr (Ne.symm hji)) h3.1 hSw ?_⟩
      rw [Array.setIfInBounds_comm _ _ hji]
      exact h3.2.2
def clB (md : Region.Mode) (ops : Array Oper) (listed : Array Bool) : Bool := (List.range ops.size).all fun j => match ops[j]? with
  | none => true
  | some o => !listed.getD j false || o.after.toList.all fun e => !Region.binds md e || listed.getD e.on false
theorem cl_of {listed : Array Bool} (h : clB md ops listed = true) : Cl md ops listed := by
  intro j oj hj hl e he hb
  have h1 := List.all_eq_true.1 h j (List.mem_range.2 (Array.getElem?_eq_some_iff.1 hj).1)
  rw [hj] at h1
  simp only [hl, Bool.not_true, Bool.false_or, List.all_eq_true] at h1
  have := h1 e (by simpa using he)
  simpa [hb] using this
end
section
variable {P : Program} {l : List Oper} {Q : Exit → Act → World → Prop} {md : Region.Mode} {S : World → Prop} {last fuel : Nat} {listed : Array Bool} {a : Act} {w : World}
theorem wp_region_heldE {id : Nat} {ops : Array Oper} (last : Nat) (hm : P.follows .mixedOrders = true) (hS : S w.drew)
    (h : S w.drew → wpAnyE P .any ops Q S last ops.size (Array.replicate ops.size false) a w.drew) : (Code.region id ops true).wp P Q a w :=
  wp_region_any hm (wpAny_of_heldE _ _ _ _ (h hS))
theorem rgE_take {oi : Oper} {v : Value} (i n : Nat) (hi : nthO l i = some oi)
    (hs : Region.noSelect l.toArray = true) (hf : Region.free md l.toArray listed i = true) (hr : (Region.ready md l.toArray listed).contains i = true)
    (hc : clB md l.toArray listed = true) (hd : depB md l.toArray n last i = true)
    (hQ : ∀ c a w, Q (.panic c) (a.put oi.dst v) w → Q (.panic c) a w) (hw : Region.wanted oi (yielded l.toArray a.tmps) = true) (hy : ∀ w, S w → (execOp a.eval oi).run P w = .ok (.value v) w) (hS : S w)
    (h : wpAnyE P md l.toArray Q S last fuel (listed.setIfInBounds i true) (a.put oi.dst v) w) : wpAnyE P md l.toArray Q S last (fuel + 1) listed a w :=
  wpAnyE_first (nthO_get hi) (Region.noSelect_spec hs) hQ hd fuel listed a w (cl_of hc) (Region.free_spec (nthO_get hi) hf) (by simpa using hr) (.inl ⟨hw, hy⟩) hS h
theorem rgE_skip {oi : Oper} (i n : Nat) (hi : nthO l i = some oi)
    (hs : Region.noSelect l.toArray = true) (hf : Region.free md l.toArray listed i = true) (hr : (Region.ready md l.toArray listed).contains i = true)
    (hc : clB md l.toArray listed = true) (hd : depB md l.toArray n last i = true)
    (hQ : ∀ c a w, Q (.panic c) (a.put oi.dst undef) w → Q (.panic c) a w) (hw : Region.wanted oi (yielded l.toArray a.tmps) = false) (hS : S w)
    (h : wpAnyE P md l.toArray Q S last fuel (listed.setIfInBounds i true) (a.put oi.dst undef) w) : wpAnyE P md l.toArray Q S last (fuel + 1) listed a w :=
  wpAnyE_first (nthO_get hi) (Region.noSelect_spec hs) hQ hd fuel listed a w (cl_of hc) (Region.free_spec (nthO_get hi) hf) (by simpa using hr) (.inr ⟨hw, rfl⟩) hS h
theorem rgE_one {oi : Oper} {i : Nat} (hi : nthO l i = some oi) (hw : Region.wanted oi (yielded l.toArray a.tmps) = true)
    (h : ∀ K' : Act → World → Prop, Shut (∀ a w, (i = last ∨ S w) → (S w → wpAnyE P md l.toArray Q S last fuel (listed.setIfInBounds i true) a w) → K' a w) → Oper.wp P oi a w K' Q)
    (hlast : i ≠ last) : wpOp P l.toArray Q i (fun a' w' => (i = last ∨ S w') ∧ wpAnyE P md l.toArray Q S last fuel (listed.setIfInBounds i true) a' w') a w :=
  wpOp_step (nthO_get hi) fun K' hK => by
    rw [if_pos hw]
    exact h K' fun a w hS hW => hK a w ⟨hS, hW (hS.resolve_left hlast)⟩
theorem rgE_run {oi : Oper} (i : Nat) (hi : nthO l i = some oi) (hr : Region.ready md l.toArray listed = [i]) (hw : Region.wanted oi (yielded l.toArray a.tmps) = true) (hlast : i ≠ last)
    (h : ∀ K' : Act → World → Prop, Shut (∀ a w, (i = last ∨ S w) → (S w → wpAnyE P md l.toArray Q S last fuel (listed.setIfInBounds i true) a w) → K' a w) → Oper.wp P oi a w K' Q) : wpAnyE P md l.toArray Q S last (fuel + 1) listed a w :=
  ⟨fun h0 => absurd (hr ▸ h0) (by simp), fun j hj => by
    rw [hr, List.mem_singleton] at hj
    subst hj
    exact rgE_one hi hw h hlast⟩
theorem rgE_two {oi oj : Oper} (i j : Nat) (hi : nthO l i = some oi) (hj : nthO l j = some oj) (hr : Region.ready md l.toArray listed = [i, j]) (hwi : Region.wanted oi (yielded l.toArray a.tmps) = true) (hwj : Region.wanted oj (yielded l.toArray a.tmps) = true) (hli : i ≠ last) (hlj : j ≠ last)
    (h : ∀ K' : Act → World → Prop, Shut (∀ a w, (i = last ∨ S w) → (S w → wpAnyE P md l.toArray Q S last fuel (listed.setIfInBounds i true) a w) → K' a w) → Oper.wp P oi a w K' Q)
    (h' : ∀ K' : Act → World → Prop, Shut (∀ a w, (j = last ∨ S w) → (S w → wpAnyE P md l.toArray Q S last fuel (listed.setIfInBounds j true) a w) → K' a w) → Oper.wp P oj a w K' Q) : wpAnyE P md l.toArray Q S last (fuel + 1) listed a w :=
  ⟨fun h0 => absurd (hr ▸ h0) (by simp), fun k hk => by
    rw [hr] at hk
    simp only [List.mem_cons, List.not_mem_nil, or_false] at hk
    rcases hk with rfl | rfl
    · exact rgE_one hi hwi h hli
    · exact rgE_one hj hwj h' hlj⟩
/-- The last operation: what is left behind it is Q. -/
theorem rgE_last {oi : Oper} (hi : nthO l last = some oi) (hr : Region.ready md l.toArray listed = [last]) (hw : Region.wanted oi (yielded l.toArray a.tmps) = true) (hr2 : Region.ready md l.toArray (listed.setIfInBounds last true) = [])
    (h : ∀ K' : Act → World → Prop, Shut (∀ a w, Q .normal a w → K' a w) → Oper.wp P oi a w K' Q) : wpAnyE P md l.toArray Q S last (fuel + 1) listed a w :=
  ⟨fun h0 => absurd (hr ▸ h0) (by simp), fun j hj => by
    rw [hr, List.mem_singleton] at hj
    subst hj
    refine wpOp_step (nthO_get hi) fun K' hK => ?_
    rw [if_pos hw]
    refine h K' fun a w hQ => hK a w ⟨.inl rfl, ?_⟩
    cases fuel with
    | zero => exact ⟨hr2, hQ⟩
    | succ n => exact ⟨fun _ => hQ, fun k hk => by rw [hr2] at hk; cases hk⟩⟩
end
end Go.Proofs.Ytaloheljfefdeaa
