/- Contracts and helpers (joined texts, part 9). The conditions stand at each theorem. -/
import Derived.Test.YtaloheljfefdeaaH8
import Derived.BigQuiet
import Derived.Test.YtaloheljfefdeaaH7
import Derived.Test.YtaloheljfefdeaaH1
/- slices.Equal at lists of numbers. Condition: the lengths are bounded. -/
namespace Go.Proofs.Ytaloheljfefdeaa
open Go.RowKit

theorem eql_of {a b : List Int} {n : Nat} (ha : a.length = n) (hb : b.length = n) (h : ∀ j x y, j < n → a[j]? = some x → b[j]? = some y → x = y) : a = b := by
  apply List.ext_getElem (by omega)
  intro i h1 h2
  exact h i _ _ (by omega) (List.getElem?_eq_getElem h1) (List.getElem?_eq_getElem h2)
set_option maxHeartbeats 1000000 in
set_option maxRecDepth 100000 in
theorem c_Equal (A A' : Option Addr) (c c' n n' : Nat) (a b : List Int) (r : Bool) (w : World) (hr : r = decide (a = b)) (hn : a.length = n) (hn' : b.length = n') (hl : n ≤ 1048576) (hl' : n' ≤ 1048576) (ha : Rd w A (ints a)) (hb : Rd w A' (ints b)) :
    Calls Try.prog 112 #[.slice A n c, .slice A' n' c'] w fun e w' => e = .returned (.bool r) ∧ ∃ q, w' = w.drewN q := by
  have HN := Lib.hid hn
  have HN' := Lib.hid hn'
  have HA := Lib.hid ha
  have HB := Lib.hid hb
  have HR := Lib.hid hr
  clear hr hn hn' ha hb
  rcases Nat.lt_trichotomy n n' with hnn | hnn | hnn
  · have e := HR.out
    rw [decide_eq_false (fun h => by have := HN.out; rw [h, HN'.out] at this; omega)] at e
    subst e
    have hz : ((n : Int) == (n' : Int)) = false := by simp; omega
    have hz2 : ¬ (n : Int) = (n' : Int) := by omega
    have hz3 : ¬ n = n' := by omega
    clear HR HA HB
    go_enter Try.func112, Try.ntmps112
    go_wp2
    go_ret
    exact ⟨rfl, 0, rfl⟩
  rotate_left
  · have e := HR.out
    rw [decide_eq_false (fun h => by have := HN.out; rw [h, HN'.out] at this; omega)] at e
    subst e
    have hz : ((n : Int) == (n' : Int)) = false := by simp; omega
    have hz2 : ¬ (n : Int) = (n' : Int) := by omega
    have hz3 : ¬ n = n' := by omega
    clear HR HA HB
    go_enter Try.func112, Try.ntmps112
    go_wp2
    go_ret
    exact ⟨rfl, 0, rfl⟩
  subst hnn
  go_enter Try.func112, Try.ntmps112
  go_wp2
  go_loopw [5, 13] (fun _ i wr => ∃ k q : Nat, k ≤ n ∧ i = .int .i64 k ∧ wr = w.drewN q ∧ Hid (∀ j x y, j < k → a[j]? = some x → b[j]? = some y → x = y)) (fun _ i _ => n - (intOf i).toNat)
  case atStart => exact ⟨0, 0, Nat.zero_le _, rfl, rfl, Lib.hid fun j x y hj => absurd hj (by omega)⟩
  case round =>
    obtain ⟨k, q, hk, rfl, rfl, hc⟩ := hrel
    by_cases hlt : k < n
    · obtain ⟨x, hx⟩ : ∃ z, a[k]? = some z := ⟨_, List.getElem?_eq_getElem (by have := HN.out; omega)⟩
      obtain ⟨y, hy⟩ : ∃ z, b[k]? = some z := ⟨_, List.getElem?_eq_getElem (by have := HN'.out; omega)⟩
      obtain ⟨b1, o1, rfl, _, g0⟩ := (HA.out.below (below_drewN (Below.refl _ _) q)).int hx
      obtain ⟨b2, o2, rfl, _, g1⟩ := (HB.out.below (below_drewN (Below.refl _ _) q)).int hy
      have HX := Lib.hid hx
      have HY := Lib.hid hy
      clear hx hy HA HB
      obtain ⟨wq, hwq⟩ : ∃ wq, wq = w.drewN q := ⟨_, rfl⟩
      have HW := Lib.hid hwq
      rw [← hwq] at g0 g1
      rw [← hwq]
      clear hwq
      by_cases h : x = y
      · subst h
        go_wp2
        refine wp_region_quiet_lit (by kernel_rfl) (by kernel_rfl) ?_
        (repeat (any_goals (first | go_big_quiet_step (fail) | quiet_step (fail) | (refine wpQuiet_step (fun K hK => ?_); go_simp; split <;> (refine hK _ ?_; clear hK K)))))
        all_goals (refine wpQuiet_nil ?_; intro _ hw'; obtain ⟨nq, hw''⟩ := hw'; subst hw'')
        go_wp2
        go_roundw
        case rel => exact ⟨k + 1, _, by omega, by go_num, by rw [HW.out, World.drewN_drewN], Lib.hid fun j x' y' hj hx' hy' => by
          rcases Nat.lt_or_ge j k with h3 | h3
          · exact hc.out j x' y' h3 hx' hy'
          · have : j = k := by omega
            subst this
            rw [HX.out] at hx'
            rw [HY.out] at hy'
            rw [← Option.some.inj hx', ← Option.some.inj hy']⟩
        case measure => simp [intOf]; omega
      · have e := HR.out
        rw [decide_eq_false (fun h3 => by have h4 := HX.out; rw [h3, HY.out] at h4; exact h (Option.some.inj h4).symm)] at e
        subst e
        have h2 : (x == y) = false := by simpa using h
        clear HR
        go_wp2
        refine wp_region_quiet_lit (by kernel_rfl) (by kernel_rfl) ?_
        (repeat (any_goals (first | go_big_quiet_step (fail) | quiet_step (fail) | (refine wpQuiet_step (fun K hK => ?_); go_simp; split <;> (refine hK _ ?_; clear hK K)))))
        all_goals (refine wpQuiet_nil ?_; intro _ hw'; obtain ⟨nq, hw''⟩ := hw'; subst hw'')
        go_wp2
        go_ret
        exact ⟨rfl, _, by rw [HW.out, World.drewN_drewN]⟩
    · have hkn : k = n := by omega
      subst hkn
      have e := HR.out
      rw [decide_eq_true (eql_of HN.out HN'.out hc.out)] at e
      subst e
      clear HR HA HB hc
      go_wp2
      go_ret
      exact ⟨rfl, q, rfl⟩
end Go.Proofs.Ytaloheljfefdeaa

/- slices.CompactFunc over an ordered list of lists of the call's own: each list once. Condition: the lengths are bounded. -/
namespace Go.Proofs.Ytaloheljfefdeaa
open Go.RowKit

theorem own_setCells {base g n cap : Nat} {e : TypeId} : ∀ (vs : List Value) (o : Nat) (w : World) (xs : List Value), w.ownsRow base e 1 (.slice (some ⟨g, 0, none⟩) n cap) n xs →
    ∃ xs', (w.setCells g o vs).ownsRow base e 1 (.slice (some ⟨g, 0, none⟩) n cap) n xs' ∧ xs'.take o = xs.take o ∧ w.grownBy (w.setCells g o vs) (some g)
  | [], o, w, xs, h => ⟨xs, h, rfl, World.grownBy.refl _ _⟩
  | v :: vs, o, w, xs, h => by
    have h1 := h.stored o v
    obtain ⟨xs', h2, h3, h4⟩ := own_setCells vs (o + 1) _ _ h1.1
    refine ⟨xs', h2, ?_, grown_trans h1.2 h4⟩
    have e1 : xs'.take o = (xs'.take (o + 1)).take o := by rw [List.take_take, Nat.min_eq_left (by omega)]
    rw [e1, h3, List.take_take, Nat.min_eq_left (by omega)]
    apply List.ext_getElem?
    intro i
    rw [List.getElem?_take, List.getElem?_take]
    by_cases hi : i < o
    · rw [if_pos hi, if_pos hi, List.getElem?_set_ne (by omega)]
    · rw [if_neg hi, if_neg hi]
/-- What the first m lists leave: each once, in order. -/
def CInv (ds : List IvD) (m : Nat) (out : List IvD) : Prop := out.Sublist (ds.take m) ∧ Asc (out.map IvD.l) ∧ ∀ d ∈ ds.take m, d.l ∈ out.map IvD.l
theorem take_at {α : Type} {l : List α} {m : Nat} {y : α} (h : l[m]? = some y) : l.take (m + 1) = l.take m ++ [y] := by
  rw [List.take_add_one, h]; rfl
theorem cinv_one {ds : List IvD} {x : IvD} (h : ds[0]? = some x) : CInv ds 1 (ds.take 1) := by
  have e : ds.take 1 = [x] := by rw [take_at h]; rfl
  refine ⟨List.Sublist.refl _, ?_, fun d hd => List.mem_map_of_mem hd⟩
  rw [e]
  exact List.pairwise_singleton _ _
theorem cinv_skip {ds out : List IvD} {m : Nat} {x y : IvD} (hy : ds[m + 1]? = some y) (hx : ds[m]? = some x) (he : y.l = x.l) (h : CInv ds (m + 1) out) : CInv ds (m + 2) out := by
  obtain ⟨h1, h2, h3⟩ := h
  rw [CInv, take_at hy]
  refine ⟨h1.trans (List.sublist_append_left _ _), h2, fun d hd => ?_⟩
  rcases List.mem_append.1 hd with hd | hd
  · exact h3 d hd
  · rw [List.mem_singleton] at hd
    subst hd
    rw [he]
    exact h3 x (by rw [take_at hx]; simp)
theorem ascW_at {L : List (List Int)} (h : AscW L) {i j : Nat} {a b : List Int} (hij : i < j) (ha : L[i]? = some a) (hb : L[j]? = some b) : ltL b a = false := by
  obtain ⟨h1, rfl⟩ := List.getElem?_eq_some_iff.1 ha
  obtain ⟨h2, rfl⟩ := List.getElem?_eq_some_iff.1 hb
  exact (List.pairwise_iff_getElem.1 h) i j h1 h2 hij
theorem cinv_keep {ds out : List IvD} {m : Nat} {x y : IvD} (ha : AscW (ds.map IvD.l)) (hy : ds[m + 1]? = some y) (hx : ds[m]? = some x) (he : y.l ≠ x.l) (h : CInv ds (m + 1) out) : CInv ds (m + 2) (out ++ [y]) := by
  obtain ⟨h1, h2, h3⟩ := h
  rw [CInv, take_at hy]
  refine ⟨h1.append (List.Sublist.refl _), ?_, fun d hd => ?_⟩
  · unfold Asc at *
    rw [List.map_append, List.pairwise_append]
    refine ⟨h2, List.pairwise_singleton _ _, fun a hao b hb => ?_⟩
    simp only [List.map_cons, List.map_nil, List.mem_singleton] at hb
    subst hb
    obtain ⟨d, hd, rfl⟩ := List.mem_map.1 hao
    obtain ⟨i, hi⟩ := List.getElem?_of_mem (h1.subset hd)
    have him : i < m + 1 := by
      obtain ⟨h4, _⟩ := List.getElem?_eq_some_iff.1 hi
      rw [List.length_take] at h4
      omega
    rw [List.getElem?_take_of_lt him] at hi
    have ex : (ds.map IvD.l)[m]? = some x.l := by simp [hx]
    have ey : (ds.map IvD.l)[m + 1]? = some y.l := by simp [hy]
    have ed : (ds.map IvD.l)[i]? = some d.l := by simp [hi]
    have q1 := ascW_at ha (by omega) ex ey
    have q2 := ascW_at ha him ed ey
    have hxy : ltL x.l y.l = true := by
      rcases ltL_tri x.l y.l with g | g | g
      · exact g
      · exact absurd g.symm he
      · rw [g] at q1; cases q1
    rcases Nat.lt_or_ge i m with him2 | him2
    · have q3 := ascW_at ha him2 ed ex
      rcases ltL_tri d.l x.l with g | g | g
      · exact ltL_trans g hxy
      · rw [g]; exact hxy
      · rw [g] at q3; cases q3
    · have : i = m := by omega
      subst this
      rw [hx] at hi
      rw [← Option.some.inj hi]
      exact hxy
  · rw [List.map_append]
    rcases List.mem_append.1 hd with hd | hd
    · exact List.mem_append_left _ (h3 d hd)
    · rw [List.mem_singleton] at hd
      subst hd
      exact List.mem_append_right _ (by simp)
theorem take_sub {α : Type} {ds out : List α} {m : Nat} (h : out.Sublist (ds.take m)) : out.Sublist ds := h.trans (List.take_sublist _ _)
set_option maxHeartbeats 1000000 in
theorem compact_fin {base hi g n c : Nat} {ds : List IvD} {w : World} (hn : ds.length = n) (h1 : w.ownsRow base 24 1 (.slice (some ⟨g, 0, none⟩) n c) n (rowsC ds)) (h2 : ∀ d ∈ ds, w.ownsRow base 2 1 d.v d.l.length (ints d.l) ∧ ∀ q, d.v.ownBlock = some q → q < hi)
    (h3 : ds.Pairwise fun a b => ∀ q, a.v.ownBlock = some q → b.v.ownBlock ≠ some q) (out : List IvD) (w' : World) (hc : CInv ds n out) (ho : w'.ownsRow base 24 1 (.slice (some ⟨g, 0, none⟩) out.length c) out.length (rowsC out)) (hg : w.grownBy w' (some g)) :
    ∃ L', out.length = L'.length ∧ Asc L' ∧ (∀ x, x ∈ L' ↔ x ∈ ds.map IvD.l) ∧ OwnS w' base hi (.slice (some ⟨g, 0, none⟩) L'.length c) L' := by
  obtain ⟨c1, c2, c3⟩ := hc
  rw [List.take_of_length_le (by omega)] at c1 c3
  refine ⟨out.map IvD.l, by simp, c2, fun x => ⟨fun hx => ?_, fun hx => ?_⟩, out, rfl, by simpa using ho, fun d hd => ?_, h3.sublist c1⟩
  · exact (c1.map _).subset hx
  · obtain ⟨d, hd, rfl⟩ := List.mem_map.1 hx
    exact c3 d hd
  · have := h2 d (c1.subset hd)
    exact ⟨own_keep this.1 h1 (by decide) hg, this.2⟩
end Go.Proofs.Ytaloheljfefdeaa

/- slices.CompactFunc over an ordered list of lists of the call's own: the walk. Condition: the lengths are bounded. -/
namespace Go.Proofs.Ytaloheljfefdeaa
open Go.RowKit

set_option maxHeartbeats 4000000 in
set_option maxRecDepth 100000 in
theorem c_CompactS (base hi : Nat) (A : Option Addr) (n c : Nat) (L : List (List Int)) (w : World) (hn : n = L.length) (hs : n ≤ 1048577) (hl : ∀ l ∈ L, l.length ≤ 1048576) (ha : AscW L) (ho : OwnS w base hi (.slice A n c) L) :
    Calls Try.prog 111 #[.slice A n c, .func (.func 112) #[] #[]] w fun e w' => ∃ L', e = .returned (.slice A L'.length c) ∧ Asc L' ∧ (∀ x, x ∈ L' ↔ x ∈ L) ∧ OwnS w' base hi (.slice A L'.length c) L' ∧ w.grownBy w' (Value.slice A n c).ownBlock := by
  rcases Nat.lt_or_ge n 2 with h2 | h2
  · have HA : Hid (Asc L) := Lib.hid (by
      rcases L with _ | ⟨a, _ | ⟨b, t⟩⟩
      · exact List.Pairwise.nil
      · exact List.pairwise_singleton _ _
      · simp at hn; omega)
    subst hn
    have HO := Lib.hid ho
    clear ho ha hl
    have HX : Hid (∃ L', L.length = L'.length ∧ Asc L' ∧ (∀ x, x ∈ L' ↔ x ∈ L) ∧ OwnS w base hi (.slice A L'.length c) L') := Lib.hid ⟨L, rfl, HA.out, fun _ => Iff.rfl, HO.out⟩
    clear HA HO
    generalize L.length = n at *
    have h2' : (n : Int) < 2 := by omega
    go_enter Try.func111, Try.ntmps111
    go_wp2
    go_ret
    obtain ⟨L', e, r1, r2, r3⟩ := HX.out
    exact ⟨L', by subst e; rfl, r1, r2, r3, World.grownBy.refl _ _⟩
  obtain ⟨ds, hds, h1, hrow, h3⟩ := ho
  have hlen : ds.length = n := by rw [hn, ← hds]; simp
  rw [← hn] at h1
  obtain ⟨g, rfl⟩ : ∃ g, A = some ⟨g, 0, none⟩ := by
    rcases h1.2 with ⟨e, e2⟩ | ⟨g, cap, cur, e, _⟩
    · omega
    · injection e with e _ _
      exact ⟨g, e⟩
  have hcap := own_cap h1
  unfold maxLen at hcap
  have HFIN := Lib.hid (fun out w' a b d => compact_fin hlen h1 hrow h3 out w' a b d)
  rw [hds] at HFIN
  have HLE : Hid (∀ d ∈ ds, d.l.length ≤ 1048576) := Lib.hid fun d hd => hl d.l (by rw [← hds]; exact List.mem_map_of_mem hd)
  have HEQ : Hid (∀ x y, x ∈ ds → y ∈ ds → ∀ wr r, w.grownBy wr (some g) → r = decide (x.l = y.l) → ∀ q, Calls Try.prog 112 #[x.v, y.v] (wr.drewN q) fun e w' => e = .returned (.bool r) ∧ ∃ m, w' = (wr.drewN q).drewN m) := Lib.hid fun x y hx hy wr r hg hr q => by
    have k : ∀ d ∈ ds, Rd (wr.drewN q) d.a (ints d.l) := fun d hd => (Rd.own (own_keep (hrow d hd).1 h1 (by decide) hg)).below (below_drewN (Below.refl _ _) q)
    exact c_Equal x.a y.a x.c y.c _ _ x.l y.l r _ hr rfl rfl (HLE.out x hx) (HLE.out y hy) (k x hx) (k y hy)
  have HAW : Hid (AscW (ds.map IvD.l)) := Lib.hid (by rw [hds]; exact ha)
  have HLEN := Lib.hid hlen
  have H1 := Lib.hid h1
  have HAT : Hid (∀ k, k < n → ∃ d, ds[k]? = some d) := Lib.hid fun k hk => ⟨_, List.getElem?_eq_getElem (by omega)⟩
  clear hl ha hrow h3 hlen hds hn h1 HLE
  have h2' : ¬ (n : Int) < 2 := by omega
  have hn63 : (n : Int) < 9223372036854775807 := by omega
  go_enter Try.func111, Try.ntmps111
  go_wp2
  go_loopw [5] (fun i wr => ∃ kp q : Nat, kp + 1 ≤ n ∧ i = .int .i64 ((kp : Int) + 1) ∧ wr = w.drewN q ∧ Hid (CInv ds (kp + 1) (ds.take (kp + 1)))) (fun i _ => n - (intOf i).toNat)
  case atStart =>
    obtain ⟨d, hd⟩ := HAT.out 0 (by omega)
    exact ⟨0, 0, by omega, rfl, rfl, Lib.hid (cinv_one hd)⟩
  case round =>
    obtain ⟨k, q, hk, rfl, rfl, hc⟩ := hrel
    by_cases hlt : k + 1 < n
    · obtain ⟨x, hx⟩ := HAT.out k (by omega)
      obtain ⟨y, hy⟩ := HAT.out (k + 1) hlt
      have hgq : w.grownBy (w.drewN q) (some g) := grown_of_below (below_drewN (Below.refl _ _) q) _
      have h1q := own_below H1.out (below_drewN (Below.refl _ _) q)
      have g0 := h1q.cells (g := g) rfl k x.v (by simp [rowsC, hx])
      have g1 := h1q.cells (g := g) rfl (k + 1) y.v (by simp [rowsC, hy])
      rw [Addr.add_lit, Nat.zero_add] at g0 g1
      have hcall := HEQ.out y x (List.mem_of_getElem? hy) (List.mem_of_getElem? hx) (w.drewN q)
      obtain ⟨wq, hwq⟩ : ∃ wq, wq = w.drewN q := ⟨_, rfl⟩
      have HW := Lib.hid hwq
      rw [← hwq] at g0 g1 hcall hgq h1q
      rw [← hwq]
      clear hwq
      have HX := Lib.hid hx
      have HY := Lib.hid hy
      have HGQ := Lib.hid hgq
      have HOQ := Lib.hid h1q
      clear hx hy hgq h1q
      have hwp : IntKind.i64.wrap (k : Int) = (k : Int) := IntWalk.i64_in _ (by omega)
      have jz : (k : Int) + 1 < (n : Int) := by omega
      have jz1 : (k : Int) < (n : Int) := by omega
      have p0 : (0 : Int) ≤ (k : Int) + 1 := by omega
      have e0 : ((k : Int) + 1).toNat = k + 1 := by omega
      by_cases he : y.l = x.l
      · have HCALL := Lib.hid (fun q => hcall true HGQ.out (decide_eq_true he).symm q)
        have HC := Lib.hid (cinv_skip HY.out HX.out he hc.out)
        clear hcall he
        have hlk : ((ds.take (k + 1)).length = k + 1) := by rw [List.length_take, HLEN.out]; omega
        dsimp only [IvD.v] at g0 g1 HCALL
        go_wp2
        refine wp_region_quiet_lit (by kernel_rfl) (by kernel_rfl) ?_
        (repeat (any_goals (first | go_big_quiet_step (first | (go_at_call 112; refine Calls.quiet_of (HCALL.out _))) | quiet_step (first | (go_at_call 112; refine Calls.quiet_of (HCALL.out _))) | (refine wpQuiet_step (fun K hK => ?_); go_simp; split <;> (refine hK _ ?_; clear hK K)))))
        all_goals (refine wpQuiet_nil ?_; intro _ hw'; obtain ⟨nq, hw''⟩ := hw'; subst hw'')
        go_wp2
        have hW2 := Lib.hid (show w.grownBy (wq.drewN nq) (some g) from grown_trans HGQ.out (grown_of_below (below_drewN (Below.refl _ _) nq) _))
        have HO2 := Lib.hid (own_below HOQ.out (below_drewN (Below.refl _ _) nq))
        obtain ⟨w2, hw2⟩ : ∃ w2, w2 = wq.drewN nq := ⟨_, rfl⟩
        rw [← hw2] at hW2 HO2
        rw [← hw2]
        have hkn2 : k + 2 ≤ n := by omega
        clear g0 g1 HW HX HY HGQ HOQ hc HCALL jz jz1 p0 e0 hwp hlt hw2 hk
        go_loopw [5, 7] (fun v5 v7 wr => ∃ kk jp : Nat, kk ≤ k + jp + 1 ∧ k + jp + 2 ≤ n ∧ v5 = .int .i64 kk ∧ v7 = .int .i64 ((jp : Int) + 1) ∧ Hid (w.grownBy wr (some g)) ∧ Hid (∃ out, out.length = kk ∧ CInv ds (k + jp + 2) out ∧ wr.ownsRow base 24 1 (.slice (some ⟨g, 0, none⟩) n c) n (rowsC (out ++ ds.drop kk)))) (fun _ v7 _ => n - (intOf v7).toNat)
        case atStart => exact ⟨k + 1, 0, by omega, by omega, by go_num, rfl, hW2, Lib.hid ⟨_, hlk, HC.out, by rw [List.take_append_drop]; exact HO2.out⟩⟩
        case round =>
          obtain ⟨kk, jp, hkk, hjp, rfl, rfl, hg, hI⟩ := hrel
          obtain ⟨out, hol, hci, how⟩ := hI.out
          have HCI := Lib.hid hci
          have HOW := Lib.hid how
          have HOL := Lib.hid hol
          clear hI hci
          by_cases hlt : k + jp + 2 < n
          · obtain ⟨x, hx⟩ := HAT.out (k + jp + 1) (by omega)
            obtain ⟨y, hy⟩ := HAT.out (k + jp + 2) hlt
            have hat : ∀ i d, kk ≤ i → ds[i]? = some d → (rowsC (out ++ ds.drop kk))[i]? = some d.v := fun i d hi hd => by
              simp only [rowsC, List.getElem?_map]
              rw [List.getElem?_append_right (by omega), hol, List.getElem?_drop, show kk + (i - kk) = i by omega, hd]
              rfl
            have g0 := how.cells (g := g) rfl (k + jp + 1) x.v (hat _ _ (by omega) hx)
            have g1 := how.cells (g := g) rfl (k + jp + 2) y.v (hat _ _ (by omega) hy)
            rw [Addr.add_lit, Nat.zero_add] at g0 g1
            rw [show k + jp + 1 = k + 1 + jp by omega] at g0
            rw [show k + jp + 2 = k + 1 + (jp + 1) by omega] at g1
            have hcall := HEQ.out y x (List.mem_of_getElem? hy) (List.mem_of_getElem? hx) wr
            have HX := Lib.hid hx
            have HY := Lib.hid hy
            clear hx hy how hat hol
            have hwp : IntKind.i64.wrap (jp : Int) = (jp : Int) := IntWalk.i64_in _ (by omega)
            have jz : (jp : Int) + 1 < ((n - (k + 1) : Nat) : Int) := by omega
            have jz1 : (jp : Int) < ((n - (k + 1) : Nat) : Int) := by omega
            have p0 : (0 : Int) ≤ (jp : Int) + 1 := by omega
            have e0 : ((jp : Int) + 1).toNat = jp + 1 := by omega
            by_cases he : y.l = x.l
            · have HCALL := Lib.hid (fun q => hcall true hg.out (decide_eq_true he).symm q)
              have HC2 := Lib.hid (cinv_skip HY.out HX.out he HCI.out)
              clear hcall he
              dsimp only [IvD.v] at g0 g1 HCALL
              go_wp2
              refine wp_region_quiet_lit (by kernel_rfl) (by kernel_rfl) ?_
              (repeat (any_goals (first | go_big_quiet_step (first | (go_at_call 112; refine Calls.quiet_of (HCALL.out _))) | quiet_step (first | (go_at_call 112; refine Calls.quiet_of (HCALL.out _))) | (refine wpQuiet_step (fun K hK => ?_); go_simp; split <;> (refine hK _ ?_; clear hK K)))))
              all_goals (refine wpQuiet_nil ?_; intro _ hw'; obtain ⟨nq, hw''⟩ := hw'; subst hw'')
              go_wp2
              go_roundw
              case rel => exact ⟨kk, jp + 1, by omega, by omega, rfl, by go_num, Lib.hid (grown_trans hg.out (grown_of_below (below_drewN (Below.refl _ _) _) _)), Lib.hid ⟨out, HOL.out, HC2.out, own_below HOW.out (below_drewN (Below.refl _ _) _)⟩⟩
              case measure => simp [intOf]; omega
            · have HCALL := Lib.hid (fun q => hcall false hg.out (decide_eq_false he).symm q)
              have HC2 := Lib.hid (cinv_keep HAW.out HY.out HX.out he HCI.out)
              have hfr := HOW.out.frozenAt kk
              have hkn : (kk : Int) < (n : Int) := by omega
              have hkn0 : (0 : Int) ≤ (kk : Int) := by omega
              have hcc : (wr.cell? ⟨g, kk, none⟩).isSome = true := own_has HOW.out (by omega)
              obtain ⟨old, hold⟩ := Option.isSome_iff_exists.1 hcc
              have HST : Hid (∀ q, ((wr.drewN q).setCell ⟨g, kk, none⟩ y.v).ownsRow base 24 1 (.slice (some ⟨g, 0, none⟩) n c) n (rowsC ((out ++ [y]) ++ ds.drop (kk + 1))) ∧ w.grownBy ((wr.drewN q).setCell ⟨g, kk, none⟩ y.v) (some g)) := Lib.hid fun q => by
                have h5 := (own_below HOW.out (below_drewN (Below.refl _ _) q)).stored kk y.v
                refine ⟨?_, grown_trans hg.out (grown_trans (grown_of_below (below_drewN (Below.refl _ _) q) _) h5.2)⟩
                have e5 : (rowsC (out ++ ds.drop kk)).set kk y.v = rowsC ((out ++ [y]) ++ ds.drop (kk + 1)) := by
                  obtain ⟨z, hz⟩ := HAT.out kk (by omega)
                  obtain ⟨hz1, hz2⟩ := List.getElem?_eq_some_iff.1 hz
                  rw [List.drop_eq_getElem_cons hz1]
                  simp only [rowsC, List.map_append, List.map_cons, List.map_nil, List.append_assoc]
                  rw [List.set_append_right _ _ (by rw [List.length_map, HOL.out]; omega)]
                  rw [List.length_map, HOL.out, Nat.sub_self]
                  rfl
                rw [← e5]
                exact h5.1
              clear hcall he hcc
              dsimp only [IvD.v] at g0 g1 HCALL HST
              go_wp2
              refine wp_region_quiet_lit (by kernel_rfl) (by kernel_rfl) ?_
              (repeat (any_goals (first | go_big_quiet_step (first | (go_at_call 112; refine Calls.quiet_of (HCALL.out _))) | quiet_step (first | (go_at_call 112; refine Calls.quiet_of (HCALL.out _))) | (refine wpQuiet_step (fun K hK => ?_); go_simp; split <;> (refine hK _ ?_; clear hK K)))))
              all_goals (refine wpQuiet_nil ?_; intro _ hw'; obtain ⟨nq, hw''⟩ := hw'; subst hw'')
              go_wp2
              go_roundw
              case rel => exact ⟨kk + 1, jp + 1, by omega, by omega, by go_num, by go_num, Lib.hid (HST.out _).2, Lib.hid ⟨out ++ [y], by rw [List.length_append, HOL.out]; rfl, HC2.out, (HST.out _).1⟩⟩
              case measure => simp [intOf]; omega
          · have hend : k + jp + 2 = n := by omega
            have HE := Lib.hid hend
            have hlti : ¬ (jp : Int) + 1 < ((n - (k + 1) : Nat) : Int) := by omega
            have hkn : kk < n := by omega
            have hkc : kk < c := by omega
            have hcl : ∀ ty, (Builtin.clear_ #[39] ty #[.slice (some ⟨g, kk, none⟩) (n - kk) (c - kk)]).run Try.prog wr = .ok (.tuple #[]) (wr.setCells g kk (List.replicate (n - kk) (.slice none 0 0))) :=
              fun ty => Lib.run_clear_slice wr _ _ ty _ Try.underlying39 (fun w => by rfl) rfl rfl g kk _ _ (by omega) (fun t ht => own_has how (by omega)) (fun t ht => how.frozenAt _)
            have HF3 : Hid (∃ L', kk = L'.length ∧ Asc L' ∧ (∀ x, x ∈ L' ↔ x ∈ L) ∧ OwnS (wr.setCells g kk (List.replicate (n - kk) (.slice none 0 0))) base hi (.slice (some ⟨g, 0, none⟩) L'.length c) L' ∧ w.grownBy (wr.setCells g kk (List.replicate (n - kk) (.slice none 0 0))) (some g)) := Lib.hid (by
              obtain ⟨xs', o1, o2, o3⟩ := own_setCells (List.replicate (n - kk) (.slice none 0 0)) kk wr _ HOW.out
              have o4 := own_prefix o1 (i := kk) (by omega)
              rw [Nat.mul_one, o2] at o4
              have e6 : (rowsC (out ++ ds.drop kk)).take kk = rowsC out := by
                simp only [rowsC, List.map_append]
                rw [List.take_append_of_le_length (by rw [List.length_map, HOL.out]; omega), List.take_of_length_le (by rw [List.length_map, HOL.out]; omega)]
              rw [e6] at o4
              have hci := HCI.out
              rw [hend] at hci
              have o5 := HFIN.out out _ hci (by rw [HOL.out]; exact o4) (grown_trans hg.out o3)
              obtain ⟨L', q1, q2, q3, q4⟩ := o5
              exact ⟨L', by rw [← q1, HOL.out], q2, q3, q4, grown_trans hg.out o3⟩)
            clear how hend HFIN HEQ HAW HAT H1 HCI HOW HOL
            go_wp2
            go_ret
            obtain ⟨L', e, r1, r2, r3, r4⟩ := HF3.out
            exact ⟨L', by subst e; rfl, r1, r2, r3, r4⟩
      · have HCALL := Lib.hid (fun q => hcall false HGQ.out (decide_eq_false he).symm q)
        have HC := Lib.hid (cinv_keep HAW.out HY.out HX.out he hc.out)
        rw [← take_at HY.out] at HC
        clear hcall he
        dsimp only [IvD.v] at g0 g1 HCALL
        go_wp2
        refine wp_region_quiet_lit (by kernel_rfl) (by kernel_rfl) ?_
        (repeat (any_goals (first | go_big_quiet_step (first | (go_at_call 112; refine Calls.quiet_of (HCALL.out _))) | quiet_step (first | (go_at_call 112; refine Calls.quiet_of (HCALL.out _))) | (refine wpQuiet_step (fun K hK => ?_); go_simp; split <;> (refine hK _ ?_; clear hK K)))))
        all_goals (refine wpQuiet_nil ?_; intro _ hw'; obtain ⟨nq, hw''⟩ := hw'; subst hw'')
        go_wp2
        go_roundw
        case rel => exact ⟨k + 1, _, by omega, by go_num, by rw [HW.out, World.drewN_drewN], HC⟩
        case measure => simp [intOf]; omega
    · have hkn : k + 1 = n := by omega
      have hlti : ¬ (k : Int) + 1 < (n : Int) := by omega
      have HC := hc
      rw [hkn, List.take_of_length_le (by rw [HLEN.out]; omega)] at HC
      have HF2 := Lib.hid (HFIN.out ds (w.drewN q) HC.out (by rw [HLEN.out]; exact own_below H1.out (below_drewN (Below.refl _ _) q)) (grown_of_below (below_drewN (Below.refl _ _) q) _))
      have HLL := Lib.hid hkn
      clear hc HC HFIN HEQ HAW HAT H1 hkn
      go_wp2
      go_ret
      obtain ⟨L', e, r1, r2, r3⟩ := HF2.out
      rw [HLEN.out] at e
      exact ⟨L', by subst e; rfl, r1, r2, r3, grown_of_below (below_drewN (Below.refl _ _) q) _⟩
end Go.Proofs.Ytaloheljfefdeaa

/- sorted, nextStates, NextStates (program). Condition: the lengths are those that the laws let by. -/
namespace Go.Proofs.Ytaloheljfefdeaa
open Go.RowKit

set_option maxRecDepth 100000 in
theorem c_sorted (base hi : Nat) (A : Option Addr) (n c : Nat) (L : List (List Int)) (w : World) (hn : n = L.length) (hs : n ≤ 1048577) (hl : ∀ l ∈ L, l.length ≤ 1048576) (ho : OwnS w base hi (.slice A n c) L) (hb : base ≤ w.heap.size) :
    Calls Try.prog 72 #[.slice A n c] w fun e w' => e = .returned (.slice A (ascL L).length c) ∧ OwnS w' base hi (.slice A (ascL L).length c) (ascL L) ∧ w.grownBy w' (Value.slice A n c).ownBlock := by
  have HS := Lib.hid (c_SortS base hi A n c L w hn hs hl ho hb)
  have HCP := Lib.hid (fun (L' : List (List Int)) w' (hp : L'.Perm L) ha ho => c_CompactS base hi A n c L' w' (by rw [hn]; exact hp.length_eq.symm) hs (fun l h => hl l (hp.subset h)) ha ho)
  have HAS := Lib.hid (fun (L' L2 : List (List Int)) (hp : L'.Perm L) (h : Asc L2) (hm : ∀ x, x ∈ L2 ↔ x ∈ L') => ascL_of (L := L) h fun x => (hm x).trans hp.mem_iff)
  clear hn hl ho hs
  generalize ascL L = R at *
  go_enter Try.func72, Try.ntmps72
  go_wp2_with (fail)
  refine HS.out.mono ?_
  rintro e w1 ⟨rfl, L', hp, ha, ho, hg⟩
  have HP := Lib.hid hp
  have HA := Lib.hid ha
  have HO := Lib.hid ho
  have HG := Lib.hid hg
  clear hp ha ho hg
  go_wp2_with (fail)
  refine (HCP.out L' _ HP.out HA.out HO.out).mono ?_
  rintro e w2 ⟨L2, rfl, ha, hm, ho, hg⟩
  have HR := Lib.hid (HAS.out L' L2 HP.out ha hm)
  have HO2 := Lib.hid ho
  have HG2 := Lib.hid (grown_trans HG.out hg)
  clear ho hg ha hm
  go_wp2
  go_ret
  have e := HR.out
  subst e
  exact ⟨rfl, HO2.out, HG2.out⟩
def nsL (m : Mdl) (vs : List Int) : List (List Int) := (enL vs m.rs).map fun y => apL vs (arR m y).es
/-- Lists of lists of the call's own. -/
def RetS (n : Nat) (L : List (List Int)) (w : World) (e : Ending) (w' : World) : Prop :=
  ∃ A c, e = .returned (.slice A n c) ∧ OwnS w' w.heap.size w'.heap.size (.slice A n c) L ∧ Below w.heap.size w w'
theorem enL_mem {vs : List Int} {rs : List Rul} {y : Int} (h : y ∈ enL vs rs) : ∃ k : Nat, y = k ∧ k < rs.length := by
  unfold enL enK at h
  obtain ⟨k, hk, rfl⟩ := List.mem_map.1 h
  exact ⟨k, rfl, List.mem_range.1 (List.mem_filter.1 hk).1⟩
theorem nsL_len (m : Mdl) (vs : List Int) : (nsL m vs).length = (enL vs m.rs).length := by simp [nsL]
theorem nsL_all {m : Mdl} {vs : List Int} : ∀ l ∈ nsL m vs, l.length = vs.length := by
  intro l hl
  obtain ⟨y, _, rfl⟩ := List.mem_map.1 hl
  exact apL_len _ _
theorem nsL_at {m : Mdl} {vs : List Int} {k : Nat} {y : Int} (h : (enL vs m.rs)[k]? = some y) : (nsL m vs)[k]? = some (apL vs (arR m y).es) := by simp [nsL, h]
set_option maxHeartbeats 1000000 in
set_option maxRecDepth 100000 in
theorem c_nextStates (m : Mdl) (az ax ar : Option Addr) (cz cs cr : Nat) (A : Option Addr) (c : Nat) (vs : List Int) (w : World) (hok : MOk m) (hmd : mdB m = true) (hst : stB m.sz vs = true) (hl : vs.length ≤ 1048576) (h : Md w az ax ar m) (hv : Rd w A (ints vs)) :
    Calls Try.prog 73 #[mv m az ax ar cz cs cr, .slice A vs.length c] w (RetS (nsL m vs).length (nsL m vs) w) := by
  have HEN := Lib.hid (fun w' h hv => c_enabled m az ax ar cz cs cr A c vs w' hok.1.2.2.1 hl (gs_of hmd hst hok) h hv)
  have HVP := vs_pos hmd hst
  have hrl := hok.1.2.2.1
  obtain ⟨b, off, rfl, _, _⟩ := hv.some_ (by intro e; have h5 := ints_length vs; rw [e] at h5; simp at h5; omega)
  have HAP := Lib.hid (fun (r : Rul) (hr : r ∈ m.rs) nm ag ae gn cg ce w' hv he => c_apply nm ag ae gn cg r.es.length ce r.es b off c vs.length vs w' rfl hl rfl (hok.1.2.2.2 r hr).2 (es_of hmd hst hr) hv he)
  have hEl : (enL vs m.rs).length ≤ m.rs.length := enK_len vs m.rs _
  have HM := Lib.hid h
  have HV := Lib.hid hv
  have HR := Lib.hid h.r
  have HAT := Lib.hid (fun (k : Nat) (y : Int) (h : (enL vs m.rs)[k]? = some y) => show ∃ kk : Nat, ∃ r, y = kk ∧ kk < m.rs.length ∧ m.rs[kk]? = some r ∧ (nsL m vs)[k]? = some (apL vs r.es) from by
    obtain ⟨kk, rfl, hk⟩ := enL_mem (List.mem_of_getElem? h)
    obtain ⟨r, hr⟩ : ∃ r, m.rs[kk]? = some r := ⟨_, List.getElem?_eq_getElem hk⟩
    refine ⟨kk, r, rfl, hk, hr, ?_⟩
    rw [nsL_at h]
    unfold arR
    rw [Int.toNat_natCast, getDR hr])
  have HEL := Lib.hid (rfl : (enL vs m.rs).length = (enL vs m.rs).length)
  rw [nsL_len]
  have HNL := Lib.hid (nsL_len m vs)
  have HAL := Lib.hid (fun es => apL_len es vs)
  clear h hv hok hmd hst
  generalize nsL m vs = R at *
  generalize enL vs m.rs = E at *
  dsimp only [mv] at *
  generalize m.sz.length = sn at *
  generalize m.st.length = tn at *
  generalize m.rs.length = rn at *
  generalize vs.length = vn at *
  generalize hen : E.length = en at *
  replace HEL := Lib.hid hen
  clear hen
  go_enter Try.func73, Try.ntmps73
  go_wp2_with (fail)
  refine (HEN.out _ (HM.out.alloc _) (HV.out.alloc _)).mono ?_
  rintro e w1 ⟨A1, c1, rfl, ho, hb⟩
  have k2 : w1.cell? ⟨w.heap.size, 2, none⟩ = some (.slice ar rn cr) := cell_later hb (by go_simp)
  have HB := Lib.hid (below_chain (by (repeat (first | exact Below.refl _ _ | assumption | refine below_alloc ?_ _ | refine below_drewN ?_ _ | refine below_set ?_ _ (by simp; try omega) | refine Below.drew ?_)) : Below w.heap.size w _) hb)
  have HE1 := Lib.hid (Rd.own ho)
  have hsz1 := World.block_lt_of_cell? _ _ k2
  dsimp only at hsz1
  clear hb ho
  rw [HEL.out]
  go_wp2
  go_loopw [5, 12] (fun v i wr => ∃ k : Nat, k ≤ en ∧ i = .int .i64 k ∧ Hid (OwnS wr w1.heap.size wr.heap.size v (R.take k)) ∧ wr.cell? ⟨w.heap.size, 2, none⟩ = some (.slice ar rn cr) ∧ Below w.heap.size w wr ∧ Hid (Below w1.heap.size w1 wr)) (fun _ i _ => en - (intOf i).toNat)
  case atStart => exact ⟨0, Nat.zero_le _, rfl, Lib.hid (ownS_nil _ _ _), k2, HB.out, Lib.hid (Below.refl _ _)⟩
  case round =>
    clear k2
    obtain ⟨k, hk, rfl, ho, k2, hb, hb1⟩ := hrel
    by_cases hlt : k < en
    · obtain ⟨y, hz⟩ : ∃ z, E[k]? = some z := ⟨_, List.getElem?_eq_getElem (by have := HEL.out; omega)⟩
      obtain ⟨kk, r, rfl, hkk, hrz, hRk⟩ := HAT.out k y hz
      have HTK := Lib.hid (take_at hRk)
      have hmem := List.mem_of_getElem? hrz
      obtain ⟨bt, ot, rfl, _, t0⟩ := (HE1.out.below hb1.out).int hz
      obtain ⟨rb, ro, ag, cg, ae, ce, har, _, g0, g1, g2, hg, he⟩ := (HR.out.below hb).at hrz
      have HC2 := Lib.hid (fun nm gn w' hv he => HAP.out r hmem nm ag ae gn cg ce w' hv he)
      have HALr := Lib.hid (HAL.out r.es)
      have hTL : (R.take k).length ≤ 1048576 := by rw [List.length_take]; omega
      have HTL := Lib.hid hTL
      have hs1 := hb1.out.size
      have HBE := Lib.hid hb
      have HEE := Lib.hid he
      have HOW := Lib.hid ho.out
      have hszr := World.block_lt_of_cell? _ _ k2
      dsimp only at hszr
      subst har
      clear hb hg he hz hrz hRk ho hTL
      have hk0 : (0 : Int) ≤ (k : Int) := by omega
      have hk2 : (k : Int) < (en : Int) := by omega
      have hq0 : (0 : Int) ≤ (kk : Int) := by omega
      have hq1 : (kk : Int) < (rn : Int) := by omega
      generalize r.gs.length = gn at *
      generalize r.es.length = en1 at *
      go_wp2_with (fail)
      refine (HC2.out _ _ _ (HV.out.below HBE.out) HEE.out).mono ?_
      rintro e w5 ⟨g3, c3, rfl, hog, hb⟩
      have HB5 := Lib.hid (below_chain HBE.out hb)
      have HB6 := Lib.hid (below_chain hb1.out hb)
      have HST := Lib.hid hb
      have hs6 := hb.size
      have hg3 := hog.lt g3 rfl
      have HOG := Lib.hid hog
      replace k2 := cell_later hb k2
      clear hb hog
      go_wp2_with (first
        | (at_builtin
           refine wpList_push_row _ (by rfl) (.tmp 16) (.tmp 24) (by rfl) w1.heap.size wr.heap.size w5.heap.size _ (R.take k) ⟨apL vs r.es, some ⟨g3, 0, none⟩, c3⟩ w5.heap.size 1 (by rfl) ((HOW.out.below HST.out).below (below_alloc (Below.refl _ _) _)) (by rfl) (by dsimp only [IvD.v]; rw [HALr.out]; go_simp) (by dsimp only [IvD.v]; rw [HALr.out]; exact own_mono (own_below HOG.out (below_alloc (Below.refl _ _) _)) (by omega)) (fun q hq => by simp [IvD.v, Value.ownBlock] at hq; omega) (by omega) (by have := HTL.out; omega) (by simp; omega) ?_
           intro v1 w7 hown1 hgrow
           have HW1 := Lib.hid hown1
           have HG7 := Lib.hid hgrow
           have hs7 : w5.heap.size ≤ w7.heap.size := Nat.le_trans (by simp) hgrow.size
           clear hown1 hgrow)
        )
      go_roundw
      case rel =>
        have hge := fun q hq => (HOW.out.ge q hq).1
        refine ⟨k + 1, by omega, by go_num, Lib.hid (by rw [HTK.out]; exact HW1.out.mono (Nat.le_refl _) hs7), ?_, ?_, ?_⟩
        · exact HG7.out.cell (cell_later (below_alloc (Below.refl _ _) _) k2) (fun e => by have := hge _ e.symm; dsimp only at this; omega)
        · exact below_of_grown (below_alloc HB5.out _) HG7.out (fun q hq => by have := hge q hq; omega)
        · exact Lib.hid (below_of_grown (below_alloc HB6.out _) HG7.out hge)
      case measure => simp [intOf]; omega
    · have hkn : k = en := by omega
      subst hkn
      obtain ⟨A2, c2, hv2⟩ := ho.out.form
      have HO2 := ho
      rw [List.take_of_length_le (by rw [HNL.out]; omega)] at HO2 hv2
      rw [HNL.out] at hv2
      subst hv2
      have HB2 := Lib.hid hb
      clear ho hb k2
      go_wp2
      go_ret
      exact ⟨A2, c2, rfl, HO2.out.mono (by omega) (Nat.le_refl _), HB2.out⟩
end Go.Proofs.Ytaloheljfefdeaa

/- NextStates, on both sides. Condition: the lengths are those that the laws let by. -/
namespace Go.Proofs.Ytaloheljfefdeaa
open Go.RowKit

def nwL (m : Mdl) (vs : List Int) : List (List Int) := if mdB m && stB m.sz vs then ascL (nsL m vs) else []
theorem fold_len : ∀ (L : List (List Int)) (M : List (List Int)), (L.foldl insQ M).length ≤ M.length + L.length
  | [], _ => Nat.le_refl _
  | x :: L, M => by
    have h := fold_len L (insQ M x)
    have h2 : (insQ M x).length ≤ M.length + 1 := by
      by_cases hm : x ∈ M
      · unfold insQ; rw [if_pos hm]; omega
      · rw [insQ_len hm]; omega
    rw [List.foldl_cons, List.length_cons]
    omega
theorem ascL_le (L : List (List Int)) : (ascL L).length ≤ L.length := by
  have := fold_len L []
  simpa [ascL] using this
theorem nx_le {m : Mdl} {vs : List Int} (hok : MOk m) : (nwL m vs).length ≤ 1048576 := by
  unfold nwL
  split
  · refine Nat.le_trans (ascL_le _) ?_
    rw [nsL_len]
    exact Nat.le_trans (enK_len vs m.rs _) hok.1.2.2.1
  · simp
theorem nx_each {m : Mdl} {vs : List Int} : ∀ l ∈ nwL m vs, l.length = vs.length ∧ vs.length ≤ 16 := by
  intro l hl
  unfold nwL at hl
  split at hl
  · rename_i h
    rw [Bool.and_eq_true] at h
    exact ⟨nsL_all l (mem_ascL.1 hl), (vs_pos h.1 h.2).2⟩
  · simp at hl
/-- Lists of lists that can be read, and a code. -/
def RetSQ (n : Nat) (L : List (List Int)) (c : Int) (w : World) (e : Ending) (w' : World) : Prop :=
  ∃ A cap, e = .returned (.tuple #[.slice A n cap, .int .i64 c]) ∧ RdS w' A L ∧ Below w.heap.size w w'
theorem retSQ_nil {n : Nat} {L : List (List Int)} {c : Int} {w w' : World} (h : L = []) (hn : n = L.length) (hb : Below w.heap.size w w') : RetSQ n L c w (.returned (.tuple #[.slice none 0 0, .int .i64 c])) w' := by
  subst h
  subst hn
  exact ⟨none, 0, rfl, ⟨[], rfl, .inl rfl, by simp⟩, hb⟩
set_option maxHeartbeats 1000000 in
set_option maxRecDepth 100000 in
theorem c_NextStates (m : Mdl) (az ax ar : Option Addr) (cz cs cr : Nat) (A : Option Addr) (c : Nat) (vs : List Int) (w : World) (hok : MOk m) (hl : vs.length ≤ 1048576) (h : Md w az ax ar m) (hv : Rd w A (ints vs)) :
    Calls Try.prog 20 #[mv m az ax ar cz cs cr, .slice A vs.length c] w (RetSC (nwL m vs).length (nwL m vs) (stC m vs) w) := by
  have HC := Lib.hid (fun w' h hv => c_stateCode m az ax ar cz cs cr A c vs w' hok hl h hv)
  have HM := Lib.hid h
  have HV := Lib.hid hv
  rcases h1 : (mdB m && stB m.sz vs) with _ | _
  · have hC0 : stC m vs = 1 ∨ stC m vs = 2 := by
      unfold stC
      rcases hm : mdB m with _ | _
      · left; rfl
      · rw [hm, Bool.true_and] at h1
        rw [h1]
        right; rfl
    have hL : nwL m vs = [] := by unfold nwL; rw [h1]; rfl
    rw [hL]
    clear hL h1 h hv hok
    generalize stC m vs = C at *
    dsimp only [mv] at *
    generalize m.sz.length = sn at *
    generalize m.st.length = tn at *
    generalize m.rs.length = rn at *
    generalize vs.length = vn at *
    rcases hC0 with rfl | rfl
    all_goals
      go_enter Try.func20, Try.ntmps20
      go_wp2_with (fail)
      refine (HC.out _ (HM.out.alloc _) (HV.out.alloc _)).mono ?_
      rintro e w1 ⟨rfl, hb⟩
      have HB := Lib.hid (below_chain (by (repeat (first | exact Below.refl _ _ | assumption | refine below_alloc ?_ _ | refine below_drewN ?_ _ | refine below_set ?_ _ (by simp; try omega) | refine Below.drew ?_)) : Below w.heap.size w _) hb)
      clear hb
      go_wp2
      go_ret2
      exact retSC_nil rfl rfl HB.out
  · have h2 := h1
    rw [Bool.and_eq_true] at h2
    have e1 : stC m vs = 0 := by unfold stC; rw [h2.1, h2.2]; rfl
    have e2 : nwL m vs = ascL (nsL m vs) := by unfold nwL; rw [h1]; rfl
    have HN := Lib.hid (fun w' h hv => c_nextStates m az ax ar cz cs cr A c vs w' hok h2.1 h2.2 hl h hv)
    have hle : (nsL m vs).length ≤ 1048577 := by
      rw [nsL_len]
      exact Nat.le_trans (enK_len vs m.rs _) (Nat.le_trans hok.1.2.2.1 (by omega))
    have HSO := Lib.hid (fun base hi A' c' w' ho hb => c_sorted base hi A' (nsL m vs).length c' (nsL m vs) w' rfl hle (fun l hl2 => by rw [nsL_all l hl2]; exact hl) ho hb)
    rw [e1] at HC ⊢
    rw [e2]
    clear e1 e2 h1 h2 h hv hok hle
    generalize ascL (nsL m vs) = R at *
    generalize nsL m vs = R0 at *
    generalize R.length = Rn at *
    generalize R0.length = R0n at *
    dsimp only [mv] at *
    generalize m.sz.length = sn at *
    generalize m.st.length = tn at *
    generalize m.rs.length = rn at *
    generalize vs.length = vn at *
    go_enter Try.func20, Try.ntmps20
    go_wp2_with (fail)
    refine (HC.out _ (HM.out.alloc _) (HV.out.alloc _)).mono ?_
    rintro e w1 ⟨rfl, hb⟩
    have k0 : w1.cell? ⟨w.heap.size, 0, none⟩ = some (.slice az sn cz) := cell_later hb (by go_simp)
    have k1 : w1.cell? ⟨w.heap.size, 1, none⟩ = some (.slice ax tn cs) := cell_later hb (by go_simp)
    have k2 : w1.cell? ⟨w.heap.size, 2, none⟩ = some (.slice ar rn cr) := cell_later hb (by go_simp)
    have HB := Lib.hid (below_chain (by (repeat (first | exact Below.refl _ _ | assumption | refine below_alloc ?_ _ | refine below_drewN ?_ _ | refine below_set ?_ _ (by simp; try omega) | refine Below.drew ?_)) : Below w.heap.size w _) hb)
    clear hb
    go_wp2_with (fail)
    refine (HN.out _ (HM.out.below HB.out) (HV.out.below HB.out)).mono ?_
    rintro e w2 ⟨A1, c1, rfl, ho, hb⟩
    have hs1 := HB.out.size
    have hs2 := hb.size
    have HB2 := Lib.hid (below_chain HB.out hb)
    have HO := Lib.hid ho
    clear ho hb k0 k1 k2
    go_wp2_with (fail)
    refine (HSO.out _ _ _ _ _ HO.out hs2).mono ?_
    rintro e w3 ⟨rfl, ho, hg⟩
    have HO3 := Lib.hid ho
    have hs3 := hg.size
    have HB3 := Lib.hid (below_of_grown HB2.out hg (fun q hq => Nat.le_trans hs1 (HO.out.ge q hq).1))
    clear ho hg
    go_wp2
    go_ret2
    exact ⟨A1, c1, rfl, HO3.out.mono hs1 hs3, HB3.out⟩
set_option maxHeartbeats 2000000 in
set_option maxRecDepth 100000 in
theorem c_sNextStates (m : Mdl) (az ax ar : Option Addr) (cz cs cr : Nat) (A : Option Addr) (c : Nat) (vs : List Int) (w : World) (hok : MOk m) (hl : vs.length ≤ 1048576) (h : Md w az ax ar m) (hv : Rd w A (ints vs)) :
    Calls Try.prog 21 #[mv m az ax ar cz cs cr, .slice A vs.length c] w (RetSQ (nwL m vs).length (nwL m vs) (stC m vs) w) := by
  have HC := Lib.hid (fun w' h hv => c_l20Code m az ax ar cz cs cr A c vs w' hok hl h hv)
  have HM := Lib.hid h
  have HV := Lib.hid hv
  rcases h1 : (mdB m && stB m.sz vs) with _ | _
  · have hC0 : stC m vs = 1 ∨ stC m vs = 2 := by
      unfold stC
      rcases hm : mdB m with _ | _
      · left; rfl
      · rw [hm, Bool.true_and] at h1
        rw [h1]
        right; rfl
    have hL : nwL m vs = [] := by unfold nwL; rw [h1]; rfl
    rw [hL]
    clear hL h1 h hv hok
    generalize stC m vs = C at *
    dsimp only [mv] at *
    generalize m.sz.length = sn at *
    generalize m.st.length = tn at *
    generalize m.rs.length = rn at *
    generalize vs.length = vn at *
    rcases hC0 with rfl | rfl
    all_goals
      go_enter Try.func21, Try.ntmps21
      go_wp2_with (fail)
      refine (HC.out _ (HM.out.alloc _) (HV.out.alloc _)).mono ?_
      rintro e w1 ⟨rfl, hb⟩
      have HB := Lib.hid (below_chain (by (repeat (first | exact Below.refl _ _ | assumption | refine below_alloc ?_ _ | refine below_drewN ?_ _ | refine below_set ?_ _ (by simp; try omega) | refine Below.drew ?_)) : Below w.heap.size w _) hb)
      clear hb
      go_wp2
      go_ret2
      exact retSQ_nil rfl rfl HB.out
  have h2 := h1
  rw [Bool.and_eq_true] at h2
  have hmd := h2.1
  have hst := h2.2
  have e1 : stC m vs = 0 := by unfold stC; rw [hmd, hst]; rfl
  have e2 : nwL m vs = ascL (nsL m vs) := by unfold nwL; rw [h1]; rfl
  have HEN := Lib.hid (fun w' h hv => c_l20Enabled m az ax ar cz cs cr A c vs w' hok.1.2.2.1 hl (gs_of hmd hst hok) h hv)
  have HVP := vs_pos hmd hst
  have hrl := hok.1.2.2.1
  obtain ⟨b, off, rfl, _, _⟩ := hv.some_ (by intro e; have h5 := ints_length vs; rw [e] at h5; simp at h5; omega)
  have HAP := Lib.hid (fun (kk : Nat) (r : Rul) (hr : m.rs[kk]? = some r) w' hv he => c_l20Apply m az ax ar cz cs cr kk r b off c vs.length vs w' hr hrl rfl hl (hok.1.2.2.2 r (List.mem_of_getElem? hr)).2 (es_of hmd hst (List.mem_of_getElem? hr)) hv he)
  have hEl : (enL vs m.rs).length ≤ m.rs.length := enK_len vs m.rs _
  have HAT := Lib.hid (fun (k : Nat) (y : Int) (h : (enL vs m.rs)[k]? = some y) => show ∃ kk : Nat, ∃ r, y = kk ∧ kk < m.rs.length ∧ m.rs[kk]? = some r ∧ (nsL m vs)[k]? = some (apL vs r.es) from by
    obtain ⟨kk, rfl, hk⟩ := enL_mem (List.mem_of_getElem? h)
    obtain ⟨r, hr⟩ : ∃ r, m.rs[kk]? = some r := ⟨_, List.getElem?_eq_getElem hk⟩
    refine ⟨kk, r, rfl, hk, hr, ?_⟩
    rw [nsL_at h]
    unfold arR
    rw [Int.toNat_natCast, getDR hr])
  have HALL := Lib.hid (fun (k : Nat) => show ∀ l ∈ ascL ((nsL m vs).take k), l.length = vs.length from fun l hl => nsL_all l ((List.take_subset _ _) (mem_ascL.1 hl)))
  have HNL := Lib.hid (nsL_len m vs)
  have HAL := Lib.hid (fun es => apL_len es vs)
  rw [e1] at HC ⊢
  rw [e2]
  clear e1 e2 h1 h2 h hv hok hmd hst
  generalize nsL m vs = R at *
  generalize enL vs m.rs = E at *
  dsimp only [mv] at *
  generalize m.sz.length = sn at *
  generalize m.st.length = tn at *
  generalize hrn : m.rs.length = rn at *
  clear hrn
  generalize vs.length = vn at *
  generalize hen : E.length = en at *
  have HEL := Lib.hid hen
  clear hen
  have HR := Lib.hid HM.out.r
  go_enter Try.func21, Try.ntmps21
  go_wp2_with (fail)
  refine (HC.out _ (HM.out.alloc _) (HV.out.alloc _)).mono ?_
  rintro e w1 ⟨rfl, hb⟩
  have k0 : w1.cell? ⟨w.heap.size, 0, none⟩ = some (.slice az sn cz) := cell_later hb (by go_simp)
  have k1 : w1.cell? ⟨w.heap.size, 1, none⟩ = some (.slice ax tn cs) := cell_later hb (by go_simp)
  have k2 : w1.cell? ⟨w.heap.size, 2, none⟩ = some (.slice ar rn cr) := cell_later hb (by go_simp)
  have HB := Lib.hid (below_chain (by (repeat (first | exact Below.refl _ _ | assumption | refine below_alloc ?_ _ | refine below_drewN ?_ _ | refine below_set ?_ _ (by simp; try omega) | refine Below.drew ?_)) : Below w.heap.size w _) hb)
  clear hb
  have hs1 := HB.out.size
  have hsz1 := World.block_lt_of_cell? _ _ k2
  dsimp only at hsz1
  have hne1 : w.heap.size ≠ w1.heap.size := by omega
  go_wp2_with (fail)
  refine (HEN.out _ ((HM.out.below HB.out).alloc _) ((HV.out.below HB.out).alloc _)).mono ?_
  rintro e w2 ⟨A1, c1, rfl, ho, hb⟩
  have hst2 : Below w1.heap.size w1 w2 := below_chain (by (repeat (first | exact Below.refl _ _ | assumption | refine below_alloc ?_ _ | refine below_drewN ?_ _ | refine below_set ?_ _ (by simp; try omega) | refine Below.drew ?_))) hb
  replace k0 := cell_later hst2 k0
  replace k1 := cell_later hst2 k1
  replace k2 := cell_later hst2 k2
  have hs2 := hst2.size
  have HOQ : Hid (OwnQ w2 w.heap.size (.slice (some ⟨w1.heap.size, 0, none⟩) 0 0) []) := Lib.hid ⟨[], rfl, own_below (World.ownsRow_made w1 #[] 0 hs1 (Nat.zero_le _) rfl) hb, by simp⟩
  have HB2 := Lib.hid (below_chain HB.out hst2)
  have HE1 := Lib.hid (Rd.own ho)
  clear hb ho hst2
  rw [HEL.out]
  go_wp2
  go_loopw [7, 9] (fun v i wr => ∃ k N g cg : Nat, k ≤ en ∧ i = .int .i64 k ∧ v = .slice (some ⟨g, 0, none⟩) N cg ∧ Hid (N = (ascL (R.take k)).length) ∧ Hid (OwnQ wr w.heap.size (.slice (some ⟨g, 0, none⟩) N cg) (ascL (R.take k))) ∧ wr.cell? ⟨w.heap.size, 0, none⟩ = some (.slice az sn cz) ∧ wr.cell? ⟨w.heap.size, 1, none⟩ = some (.slice ax tn cs) ∧ wr.cell? ⟨w.heap.size, 2, none⟩ = some (.slice ar rn cr) ∧ Below w.heap.size w wr ∧ Hid (Below w2.heap.size w2 wr)) (fun _ i _ => en - (intOf i).toNat)
  case atStart => exact ⟨0, 0, _, 0, Nat.zero_le _, rfl, rfl, Lib.hid rfl, HOQ, k0, k1, k2, HB2.out, Lib.hid (Below.refl _ _)⟩
  case round =>
    clear k0 k1 k2
    obtain ⟨k, N, g, cg, hk, rfl, rfl, hN, ho, k0, k1, k2, hb, hb1⟩ := hrel
    by_cases hlt : k < en
    · obtain ⟨y, hz⟩ : ∃ z, E[k]? = some z := ⟨_, List.getElem?_eq_getElem (by have := HEL.out; omega)⟩
      obtain ⟨kk, r, rfl, hkk, hrz, hRk⟩ := HAT.out k y hz
      have HTK := Lib.hid (take_at hRk)
      obtain ⟨bt, ot, rfl, _, t0⟩ := (HE1.out.below hb1.out).int hz
      have HC2 := Lib.hid (fun w' hv he => HAP.out kk r hrz w' hv he)
      have HALr := Lib.hid (HAL.out r.es)
      have hNl : N ≤ 1048576 := by
        have h6 := ascL_le (R.take k)
        have h7 := hN.out
        rw [List.length_take] at h6
        omega
      have HIN := Lib.hid (fun d w' (hx : d.l.length = vn) ha hb hbase => c_l20Insert g cg N vn w.heap.size (ascL (R.take k)) d w' hN.out.symm hNl (HALL.out k) hx hl (asc_ascL _) ha hb hbase)
      have HSN := Lib.hid (show ascL (R.take (k + 1)) = insQ (ascL (R.take k)) (apL vs r.es) by rw [HTK.out, ascL_snoc])
      have HBE := Lib.hid hb
      have HB1 := Lib.hid hb1.out
      have HOW := Lib.hid ho.out
      have hszr := World.block_lt_of_cell? _ _ k2
      dsimp only at hszr
      clear hb hz hrz hRk ho hb1
      have hk0 : (0 : Int) ≤ (k : Int) := by omega
      have hk2 : (k : Int) < (en : Int) := by omega
      go_wp2
      refine wp_region_held_drew (S := (fun w' => w'.cell? ⟨w.heap.size, 0, none⟩ = some (.slice az sn cz) ∧ w'.cell? ⟨w.heap.size, 1, none⟩ = some (.slice ax tn cs) ∧ w'.cell? ⟨w.heap.size, 2, none⟩ = some (.slice ar rn cr) ∧ w'.cell? ⟨bt, ot + k, none⟩ = some (.int .i64 (kk : Int)))) (by kernel_rfl) ?_ (fun hHeld => ?_)
      · exact ⟨k0, k1, k2, t0⟩
      refine rg_take (v := ?_) 0 rfl (by kernel_rfl) (by kernel_rfl) (by kernel_rfl) (fun _ _ _ h => h) (by kernel_rfl) ?_ (by assumption) ?_
      rotate_left
      · (intro w' hSw; (try dsimp only at hSw); go_simp; first | done | with_reducible rfl)
      simp only [Act.put, List.setIfInBounds_toArray, List.set_cons_zero, List.set_cons_succ]
      refine rg_take (v := ?_) 1 rfl (by kernel_rfl) (by kernel_rfl) (by kernel_rfl) (fun _ _ _ h => h) (by kernel_rfl) ?_ (by assumption) ?_
      rotate_left
      · (intro w' hSw; (try dsimp only at hSw); go_simp; first | done | with_reducible rfl)
      simp only [Act.put, List.setIfInBounds_toArray, List.set_cons_zero, List.set_cons_succ]
      refine rg_take (v := ?_) 2 rfl (by kernel_rfl) (by kernel_rfl) (by kernel_rfl) (fun _ _ _ h => h) (by kernel_rfl) ?_ (by assumption) ?_
      rotate_left
      · (intro w' hSw; (try dsimp only at hSw); go_simp; first | done | with_reducible rfl)
      simp only [Act.put, List.setIfInBounds_toArray, List.set_cons_zero, List.set_cons_succ]
      refine rg_take (v := ?_) 3 rfl (by kernel_rfl) (by kernel_rfl) (by kernel_rfl) (fun _ _ _ h => h) (by kernel_rfl) ?_ (by assumption) ?_
      rotate_left
      · (intro w' hSw; (try dsimp only at hSw); go_simp; first | done | with_reducible rfl)
      simp only [Act.put, List.setIfInBounds_toArray, List.set_cons_zero, List.set_cons_succ]
      refine rg_take (v := ?_) 4 rfl (by kernel_rfl) (by kernel_rfl) (by kernel_rfl) (fun _ _ _ h => h) (by kernel_rfl) ?_ (by assumption) ?_
      rotate_left
      · (intro w' hSw; (try dsimp only at hSw); go_simp; first | done | with_reducible rfl)
      simp only [Act.put, List.setIfInBounds_toArray, List.set_cons_zero, List.set_cons_succ]
      refine rg_take (v := ?_) 5 rfl (by kernel_rfl) (by kernel_rfl) (by kernel_rfl) (fun _ _ _ h => h) (by kernel_rfl) ?_ (by assumption) ?_
      rotate_left
      · (intro w' hSw; (try dsimp only at hSw); go_simp; first | done | with_reducible rfl)
      simp only [Act.put, List.setIfInBounds_toArray, List.set_cons_zero, List.set_cons_succ]
      refine rg_take (v := ?_) 6 rfl (by kernel_rfl) (by kernel_rfl) (by kernel_rfl) (fun _ _ _ h => h) (by kernel_rfl) ?_ (by assumption) ?_
      rotate_left
      · (intro w' hSw; (try dsimp only at hSw); go_simp; first | done | with_reducible rfl)
      simp only [Act.put, List.setIfInBounds_toArray, List.set_cons_zero, List.set_cons_succ]
      refine rg_run 7 rfl (by kernel_rfl) (by kernel_rfl) (fun K hK => ?_)
      go_simp
      refine (HC2.out _ ((HV.out.below HBE.out).drew) ((HR.out.below HBE.out).below ((Below.refl _ _).drew))).mono ?_
      rintro e w5 ⟨g3, c3, rfl, hog, hb⟩
      have hst5 : Below wr.heap.size wr w5 := below_chain ((Below.refl _ _).drew) hb
      have hs5 := hst5.size
      replace k0 := cell_later hb (by exact k0)
      replace k1 := cell_later hb (by exact k1)
      replace k2 := cell_later hb (by exact k2)
      replace t0 := cell_later hb (by exact t0)
      have HST := Lib.hid hst5
      have HOG := Lib.hid hog
      clear hb hog hst5
      go_wp2
      clear hHeld
      refine hK.out _ _ ⟨k0, k1, k2, t0⟩ (fun hHeld => ?_)
      clear hK K
      try simp only [Act.put, List.setIfInBounds_toArray, List.set_cons_zero, List.set_cons_succ]
      refine rg_run 8 rfl (by kernel_rfl) (by kernel_rfl) (fun K hK => ?_)
      go_simp
      refine (HIN.out ⟨apL vs r.es, some ⟨g3, 0, none⟩, c3⟩ _ HALr.out (HOW.out.below HST.out) (by dsimp only [IvD.v]; rw [HALr.out]; exact own_mono HOG.out (show w.heap.size ≤ wr.heap.size by omega)) (by omega)).mono ?_
      rintro e w6 ⟨A6, c6, rfl, ho6, _, hb⟩
      replace k0 := cell_later hb (by exact k0)
      replace k1 := cell_later hb (by exact k1)
      replace k2 := cell_later hb (by exact k2)
      replace t0 := cell_later hb (by exact t0)
      have HB6 := Lib.hid (below_chain (below_chain HBE.out HST.out) hb)
      have HB7 := Lib.hid (below_chain (below_chain HB1.out HST.out) hb)
      have HO6 := Lib.hid ho6
      clear hb ho6
      go_wp2
      clear hHeld
      refine hK.out _ _ ⟨k0, k1, k2, t0⟩ (fun hHeld => ?_)
      clear hK K
      try simp only [Act.put, List.setIfInBounds_toArray, List.set_cons_zero, List.set_cons_succ]
      refine rg_take (v := ?_) 9 rfl (by kernel_rfl) (by kernel_rfl) (by kernel_rfl) (fun _ _ _ h => h) (by kernel_rfl) ?_ (by assumption) ?_
      rotate_left
      · (intro w' hSw; (try dsimp only at hSw); go_simp; first | done | with_reducible rfl)
      simp only [Act.put, List.setIfInBounds_toArray, List.set_cons_zero, List.set_cons_succ]
      refine wpAnyH_done (by kernel_rfl) ?_ _
      clear hHeld
      have HPO : Hid (0 < (insQ (ascL (R.take k)) (apL vs r.es)).length) := Lib.hid (List.length_pos_iff.2 (fun e => by have := (insQ_mem (L := ascL (R.take k)) (x := apL vs r.es) (y := apL vs r.es)).2 (.inr rfl); rw [e] at this; cases this))
      obtain ⟨g6, rfl⟩ : ∃ g6, A6 = some ⟨g6, 0, none⟩ := by
        obtain ⟨ds, _, h1, _⟩ := HO6.out
        rcases h1.2 with ⟨e, e2⟩ | ⟨g, cap, cur, e, _⟩
        · have := HPO.out; omega
        · injection e with e _ _
          exact ⟨g, e⟩
      go_wp2
      go_roundw
      case rel => exact ⟨k + 1, _, g6, c6, by omega, by go_num, rfl, Lib.hid (by rw [HSN.out]), Lib.hid (by rw [HSN.out]; exact HO6.out), k0, k1, k2, HB6.out, HB7⟩
      case measure => simp [intOf]; omega
    · have hkn : k = en := by omega
      subst hkn
      have HO2 := ho
      have hN2 := hN.out
      rw [List.take_of_length_le (by rw [HNL.out]; exact Nat.le_refl _)] at HO2 hN2
      have HB3 := Lib.hid hb
      have HN3 := Lib.hid hN2
      clear ho hb k0 k1 k2 hN hN2
      go_wp2
      go_ret2
      have e := HN3.out
      subst e
      exact ⟨_, _, rfl, HO2.out.rd rfl, HB3.out⟩
end Go.Proofs.Ytaloheljfefdeaa

/- CountReachable and DepthOf on both sides. Condition: the lengths are those that the laws let by. -/
namespace Go.Proofs.Ytaloheljfefdeaa
open Go.RowKit

/-- Two numbers are handed back. -/
def RetNC (n c : Int) (w : World) (e : Ending) (w' : World) : Prop := e = .returned (.tuple #[.int .i64 n, .int .i64 c]) ∧ Below w.heap.size w w'
def crN (m : Mdl) : Int := (xmL m []).length
def dpN (m : Mdl) : Int := match (xmL m [])[(xmL m []).length - 1]? with | some x => x.d | none => 0
theorem rd_none (w : World) : Rd w none (tstCells []) := .inl rfl
set_option maxRecDepth 100000 in
theorem c_lengthRc (A : Option Addr) (c n : Nat) (w : World) : Calls Try.prog 90 #[.slice A n c] w fun e w' => e = .returned (.int .i64 n) ∧ w = w' := by
  go_enter Try.func90, Try.ntmps90
  go_wp2
  go_ret
  exact ⟨rfl, rfl⟩
set_option maxRecDepth 100000 in
theorem c_CountReachable (m : Mdl) (az ax ar : Option Addr) (cz cs cr : Nat) (w : World) (hok : MOk m) (h : Md w az ax ar m) :
    Calls Try.prog 35 #[mv m az ax ar cz cs cr] w (RetNC (crN m) (xmC m []) w) := by
  have HX := Lib.hid (fun w' h => c_exploreModel m az ax ar cz cs cr none 0 [] w' hok (by simp) h (rd_none w'))
  have HM := Lib.hid h
  have HN := Lib.hid (show crN m = ((xmL m []).length : Nat) from rfl)
  generalize crN m = R at *
  generalize xmL m [] = L at *
  generalize xmC m [] = C at *
  clear h hok
  dsimp only [mv] at *
  generalize m.sz.length = sn at *
  generalize m.st.length = tn at *
  generalize m.rs.length = rn at *
  have hxl : Hid (L.length = L.length) := Lib.hid rfl
  generalize L.length = xn at *
  have e := HN.out
  subst e
  go_enter Try.func35, Try.ntmps35
  go_wp2_with (fail)
  refine (HX.out _ (HM.out.alloc _)).mono ?_
  rintro e w1 ⟨A1, c1, rfl, ho, hb⟩
  have HB := Lib.hid (below_chain (by (repeat (first | exact Below.refl _ _ | assumption | refine below_alloc ?_ _ | refine below_drewN ?_ _ | refine below_set ?_ _ (by simp; try omega) | refine Below.drew ?_)) : Below w.heap.size w _) hb)
  clear hb ho
  go_wp2_with (first
    | (go_at_call 90
       refine (c_lengthRc _ _ _ _).mono ?_
       rintro e w' ⟨rfl, rfl⟩)
    )
  go_ret2
  exact ⟨rfl, HB.out⟩
set_option maxRecDepth 100000 in
theorem c_sCountReachable (m : Mdl) (az ax ar : Option Addr) (cz cs cr : Nat) (w : World) (hok : MOk m) (h : Md w az ax ar m) :
    Calls Try.prog 36 #[mv m az ax ar cz cs cr] w (RetNC (crN m) (xmC m []) w) := by
  have HX := Lib.hid (fun w' h => c_l21All m az ax ar cz cs cr none 0 [] w' hok (by simp) h (rd_none w'))
  have HM := Lib.hid h
  have HN := Lib.hid (show crN m = ((xmL m []).length : Nat) from rfl)
  have HBAD := Lib.hid (fun h => xm_bad (m := m) (ts := []) h)
  have HND := Lib.hid (show ((xmL m []).map Rc.v).Nodup by
    unfold xmL
    split
    · exact (xp_inv m).nd
    · simp)
  generalize crN m = R at *
  generalize xmL m [] = L at *
  generalize hC : xmC m [] = C at *
  clear h hok hC
  dsimp only [mv] at *
  generalize m.sz.length = sn at *
  generalize m.st.length = tn at *
  generalize m.rs.length = rn at *
  by_cases hc : C = 0
  · subst hc
    clear HBAD
    go_enter Try.func36, Try.ntmps36
    go_wp2_with (fail)
    refine (HX.out _ (HM.out.alloc _)).mono ?_
    rintro e w1 ⟨p, rfl, hb, hgood, _⟩
    obtain ⟨S, rfl, hst, hS⟩ := hgood rfl
    have HB := Lib.hid (below_chain (by (repeat (first | exact Below.refl _ _ | assumption | refine below_alloc ?_ _ | refine below_drewN ?_ _ | refine below_set ?_ _ (by simp; try omega) | refine Below.drew ?_)) : Below w.heap.size w _) hb)
    obtain ⟨Ao, co, At, ct, Ak, ck, hSB⟩ := hst.forms
    obtain ⟨c0, c1, c2, c3⟩ := hSB.c
    rw [ascL_len HND.out, List.length_map] at c2
    have e := HN.out
    generalize L.length = xn at *
    subst e
    clear hb hst hSB hgood hS c0 c1 c3
    go_wp2
    go_ret2
    exact ⟨rfl, HB.out⟩
  · have e := HBAD.out hc
    subst e
    have e := HN.out
    subst e
    have hci : (C == 0) = false := by simpa using hc
    clear HBAD HND HN
    have HC := Lib.hid hc
    go_enter Try.func36, Try.ntmps36
    go_wp2_with (fail)
    refine (HX.out _ (HM.out.alloc _)).mono ?_
    rintro e w1 ⟨p, rfl, hb, _, _⟩
    have HB := Lib.hid (below_chain (by (repeat (first | exact Below.refl _ _ | assumption | refine below_alloc ?_ _ | refine below_drewN ?_ _ | refine below_set ?_ _ (by simp; try omega) | refine Below.drew ?_)) : Below w.heap.size w _) hb)
    clear hb
    go_wp2
    go_ret2
    exact ⟨rfl, HB.out⟩
set_option maxRecDepth 100000 in
theorem c_DepthOf (m : Mdl) (az ax ar : Option Addr) (cz cs cr : Nat) (w : World) (hok : MOk m) (h : Md w az ax ar m) :
    Calls Try.prog 42 #[mv m az ax ar cz cs cr] w (RetNC (dpN m) (xmC m []) w) := by
  have HX := Lib.hid (fun w' h => c_exploreModel m az ax ar cz cs cr none 0 [] w' hok (by simp) h (rd_none w'))
  have HM := Lib.hid h
  have HN := Lib.hid (show dpN m = match (xmL m [])[(xmL m []).length - 1]? with | some x => x.d | none => 0 from rfl)
  have HBAD := Lib.hid (fun h => xm_bad (m := m) (ts := []) h)
  have HPOS := Lib.hid (fun h : xmC m [] = 0 => show 0 < (xmL m []).length by
    obtain ⟨_, _, h3, h4⟩ := xm_good h
    rw [h4]
    exact xp_pos h3)
  have HLE := Lib.hid (show (xmL m []).length ≤ 4000 by
    unfold xmL
    split
    · exact xp_len m
    · simp)
  generalize dpN m = R at *
  generalize xmL m [] = L at *
  generalize hC : xmC m [] = C at *
  clear h hok hC
  dsimp only [mv] at *
  generalize m.sz.length = sn at *
  generalize m.st.length = tn at *
  generalize m.rs.length = rn at *
  by_cases hc : C = 0
  · subst hc
    have hpos := HPOS.out rfl
    have hle := HLE.out
    clear HBAD HPOS HLE
    obtain ⟨n, hn⟩ : ∃ n, L.length = n + 1 := ⟨L.length - 1, by omega⟩
    obtain ⟨x, hx⟩ : ∃ x, L[n]? = some x := ⟨_, List.getElem?_eq_getElem (by omega)⟩
    have e := HN.out
    rw [hn, Nat.add_sub_cancel, hx] at e
    subst e
    have HLX := Lib.hid hx
    have HLN := Lib.hid hn
    have hn1 : n + 1 ≤ 4000 := by omega
    have hwn : IntKind.i64.wrap (n : Int) = n := IntWalk.i64_in _ (by omega)
    rw [hn] at HX
    clear hn hx HN
    go_enter Try.func42, Try.ntmps42
    go_wp2_with (fail)
    refine (HX.out _ (HM.out.alloc _)).mono ?_
    rintro e w1 ⟨A1, c1, rfl, ho, hb⟩
    have HB := Lib.hid (below_chain (by (repeat (first | exact Below.refl _ _ | assumption | refine below_alloc ?_ _ | refine below_drewN ?_ _ | refine below_set ?_ _ (by simp; try omega) | refine Below.drew ?_)) : Below w.heap.size w _) hb)
    obtain ⟨b, off, a, c, rfl, hbl, s0, s1, s2, s3, hv⟩ := (ho.rd HLN.out.symm).at HLX.out
    clear hb ho hv s0 s1 s2
    go_wp2
    go_ret2
    exact ⟨rfl, HB.out⟩
  · have e := HBAD.out hc
    subst e
    have e := HN.out
    subst e
    have hci : (C == 0) = false := by simpa using hc
    clear HBAD HPOS HLE HN
    go_enter Try.func42, Try.ntmps42
    go_wp2_with (fail)
    refine (HX.out _ (HM.out.alloc _)).mono ?_
    rintro e w1 ⟨A1, c1, rfl, ho, hb⟩
    have HB := Lib.hid (below_chain (by (repeat (first | exact Below.refl _ _ | assumption | refine below_alloc ?_ _ | refine below_drewN ?_ _ | refine below_set ?_ _ (by simp; try omega) | refine Below.drew ?_)) : Below w.heap.size w _) hb)
    clear hb ho
    go_wp2
    go_ret2
    exact ⟨rfl, HB.out⟩
set_option maxRecDepth 100000 in
theorem c_sDepthOf (m : Mdl) (az ax ar : Option Addr) (cz cs cr : Nat) (w : World) (hok : MOk m) (h : Md w az ax ar m) :
    Calls Try.prog 43 #[mv m az ax ar cz cs cr] w (RetNC (dpN m) (xmC m []) w) := by
  have HX := Lib.hid (fun w' h => c_l21All m az ax ar cz cs cr none 0 [] w' hok (by simp) h (rd_none w'))
  have HM := Lib.hid h
  have HN := Lib.hid (show dpN m = match (xmL m [])[(xmL m []).length - 1]? with | some x => x.d | none => 0 from rfl)
  have HBAD := Lib.hid (fun h => xm_bad (m := m) (ts := []) h)
  have HPOS := Lib.hid (fun h : xmC m [] = 0 => show 0 < (xmL m []).length by
    obtain ⟨_, _, h3, h4⟩ := xm_good h
    rw [h4]
    exact xp_pos h3)
  have HINV := Lib.hid (show InvR (xmL m []) by
    unfold xmL
    split
    · exact xp_inv m
    · exact ⟨by simp, fun i x h => by simp at h, fun x h => by simp at h, fun i x h => by simp at h⟩)
  have HLE := Lib.hid (show (xmL m []).length ≤ 4000 by
    unfold xmL
    split
    · exact xp_len m
    · simp)
  generalize dpN m = R at *
  generalize xmL m [] = L at *
  generalize hC : xmC m [] = C at *
  clear h hok hC
  dsimp only [mv] at *
  generalize m.sz.length = sn at *
  generalize m.st.length = tn at *
  generalize m.rs.length = rn at *
  by_cases hc : C = 0
  · subst hc
    have hpos := HPOS.out rfl
    have hle := HLE.out
    clear HBAD HPOS HLE
    obtain ⟨n, hn⟩ : ∃ n, L.length = n + 1 := ⟨L.length - 1, by omega⟩
    obtain ⟨x, hx⟩ : ∃ x, L[n]? = some x := ⟨_, List.getElem?_eq_getElem (by omega)⟩
    have e := HN.out
    rw [hn, Nat.add_sub_cancel, hx] at e
    have hd : R = (x.t.length : Int) := e.trans (HINV.out.dt x (List.mem_of_getElem? hx))
    have HD := Lib.hid hd
    clear e hd
    have HLX := Lib.hid hx
    have HLN := Lib.hid hn
    have hn1 : n + 1 ≤ 4000 := by omega
    have hwn : IntKind.i64.wrap (n : Int) = n := IntWalk.i64_in _ (by omega)
    clear hn hx HN HINV
    go_enter Try.func43, Try.ntmps43
    go_wp2_with (fail)
    refine (HX.out _ (HM.out.alloc _)).mono ?_
    rintro e w1 ⟨p, rfl, hb, hgood, _⟩
    obtain ⟨S, rfl, hst, hS⟩ := hgood rfl
    have HB := Lib.hid (below_chain (by (repeat (first | exact Below.refl _ _ | assumption | refine below_alloc ?_ _ | refine below_drewN ?_ _ | refine below_set ?_ _ (by simp; try omega) | refine Below.drew ?_)) : Below w.heap.size w _) hb)
    obtain ⟨Ao, co, At, ct, Ak, ck, hSB⟩ := hst.forms
    obtain ⟨c0, c1, c2, c3⟩ := hSB.c
    obtain ⟨tg, ta, tc, htg, hge, r0, hto⟩ := hSB.t.at (k := n) (l := x.t) (by rw [List.getElem?_map, HLX.out]; rfl)
    subst htg
    rw [HLN.out] at c1
    have e := HD.out
    generalize x.t.length = tl at *
    subst e
    clear hb hst hSB hgood hS c0 c2 c3 hto
    have hnl : (n : Int) < (n : Int) + 1 := by omega
    go_wp2
    refine wp_region_held_drew (S := (fun w' => w'.cell? ⟨S, 1, none⟩ = some (.slice (some ⟨tg, 0, none⟩) (n + 1) ct) ∧ w'.cell? ⟨tg, n, none⟩ = some (.slice ta tl tc))) (by kernel_rfl) ?_ (fun hHeld => ?_)
    · exact ⟨c1, r0⟩
    refine rg_take (v := ?_) 0 rfl (by kernel_rfl) (by kernel_rfl) (by kernel_rfl) (fun _ _ _ h => h) (by kernel_rfl) ?_ (by assumption) ?_
    rotate_left
    · (intro w' hSw; (try dsimp only at hSw); go_simp; first | done | with_reducible rfl)
    simp only [Act.put, List.setIfInBounds_toArray, List.set_cons_zero, List.set_cons_succ]
    refine rg_take (v := ?_) 1 rfl (by kernel_rfl) (by kernel_rfl) (by kernel_rfl) (fun _ _ _ h => h) (by kernel_rfl) ?_ (by assumption) ?_
    rotate_left
    · (intro w' hSw; (try dsimp only at hSw); go_simp; first | done | with_reducible rfl)
    simp only [Act.put, List.setIfInBounds_toArray, List.set_cons_zero, List.set_cons_succ]
    refine rg_take (v := ?_) 2 rfl (by kernel_rfl) (by kernel_rfl) (by kernel_rfl) (fun _ _ _ h => h) (by kernel_rfl) ?_ (by assumption) ?_
    rotate_left
    · (intro w' hSw; (try dsimp only at hSw); go_simp; first | done | with_reducible rfl)
    simp only [Act.put, List.setIfInBounds_toArray, List.set_cons_zero, List.set_cons_succ]
    refine rg_take (v := ?_) 3 rfl (by kernel_rfl) (by kernel_rfl) (by kernel_rfl) (fun _ _ _ h => h) (by kernel_rfl) ?_ (by assumption) ?_
    rotate_left
    · (intro w' hSw; (try dsimp only at hSw); go_simp; first | done | with_reducible rfl)
    simp only [Act.put, List.setIfInBounds_toArray, List.set_cons_zero, List.set_cons_succ]
    refine rg_take (v := ?_) 4 rfl (by kernel_rfl) (by kernel_rfl) (by kernel_rfl) (fun _ _ _ h => h) (by kernel_rfl) ?_ (by assumption) ?_
    rotate_left
    · (intro w' hSw; (try dsimp only at hSw); go_simp; first | done | with_reducible rfl)
    simp only [Act.put, List.setIfInBounds_toArray, List.set_cons_zero, List.set_cons_succ]
    refine rg_take (v := ?_) 5 rfl (by kernel_rfl) (by kernel_rfl) (by kernel_rfl) (fun _ _ _ h => h) (by kernel_rfl) ?_ (by assumption) ?_
    rotate_left
    · (intro w' hSw; (try dsimp only at hSw); go_simp; first | done | with_reducible rfl)
    simp only [Act.put, List.setIfInBounds_toArray, List.set_cons_zero, List.set_cons_succ]
    refine rg_take (v := ?_) 6 rfl (by kernel_rfl) (by kernel_rfl) (by kernel_rfl) (fun _ _ _ h => h) (by kernel_rfl) ?_ (by assumption) ?_
    rotate_left
    · (intro w' hSw; (try dsimp only at hSw); go_simp; first | done | with_reducible rfl)
    simp only [Act.put, List.setIfInBounds_toArray, List.set_cons_zero, List.set_cons_succ]
    refine rg_take (v := ?_) 7 rfl (by kernel_rfl) (by kernel_rfl) (by kernel_rfl) (fun _ _ _ h => h) (by kernel_rfl) ?_ (by assumption) ?_
    rotate_left
    · (intro w' hSw; (try dsimp only at hSw); go_simp; first | done | with_reducible rfl)
    simp only [Act.put, List.setIfInBounds_toArray, List.set_cons_zero, List.set_cons_succ]
    refine rg_take (v := ?_) 8 rfl (by kernel_rfl) (by kernel_rfl) (by kernel_rfl) (fun _ _ _ h => h) (by kernel_rfl) ?_ (by assumption) ?_
    rotate_left
    · (intro w' hSw; (try dsimp only at hSw); go_simp; first | done | with_reducible rfl)
    simp only [Act.put, List.setIfInBounds_toArray, List.set_cons_zero, List.set_cons_succ]
    refine rg_take (v := ?_) 9 rfl (by kernel_rfl) (by kernel_rfl) (by kernel_rfl) (fun _ _ _ h => h) (by kernel_rfl) ?_ (by assumption) ?_
    rotate_left
    · (intro w' hSw; (try dsimp only at hSw); go_simp; first | done | with_reducible rfl)
    simp only [Act.put, List.setIfInBounds_toArray, List.set_cons_zero, List.set_cons_succ]
    refine rg_take (v := ?_) 10 rfl (by kernel_rfl) (by kernel_rfl) (by kernel_rfl) (fun _ _ _ h => h) (by kernel_rfl) ?_ (by assumption) ?_
    rotate_left
    · (intro w' hSw; (try dsimp only at hSw); go_simp; first | done | with_reducible rfl)
    simp only [Act.put, List.setIfInBounds_toArray, List.set_cons_zero, List.set_cons_succ]
    refine rg_take (v := ?_) 11 rfl (by kernel_rfl) (by kernel_rfl) (by kernel_rfl) (fun _ _ _ h => h) (by kernel_rfl) ?_ (by assumption) ?_
    rotate_left
    · (intro w' hSw; (try dsimp only at hSw); go_simp; first | done | with_reducible rfl)
    simp only [Act.put, List.setIfInBounds_toArray, List.set_cons_zero, List.set_cons_succ]
    refine rg_take (v := ?_) 12 rfl (by kernel_rfl) (by kernel_rfl) (by kernel_rfl) (fun _ _ _ h => h) (by kernel_rfl) ?_ (by assumption) ?_
    rotate_left
    · (intro w' hSw; (try dsimp only at hSw); go_simp; first | done | with_reducible rfl)
    simp only [Act.put, List.setIfInBounds_toArray, List.set_cons_zero, List.set_cons_succ]
    refine rg_take (v := ?_) 13 rfl (by kernel_rfl) (by kernel_rfl) (by kernel_rfl) (fun _ _ _ h => h) (by kernel_rfl) ?_ (by assumption) ?_
    rotate_left
    · (intro w' hSw; (try dsimp only at hSw); go_simp; first | done | with_reducible rfl)
    simp only [Act.put, List.setIfInBounds_toArray, List.set_cons_zero, List.set_cons_succ]
    refine rg_take (v := ?_) 14 rfl (by kernel_rfl) (by kernel_rfl) (by kernel_rfl) (fun _ _ _ h => h) (by kernel_rfl) ?_ (by assumption) ?_
    rotate_left
    · (intro w' hSw; (try dsimp only at hSw); go_simp; first | done | with_reducible rfl)
    simp only [Act.put, List.setIfInBounds_toArray, List.set_cons_zero, List.set_cons_succ]
    refine wpAnyH_done (by kernel_rfl) ?_ _
    clear hHeld
    go_wp2
    go_ret2
    exact ⟨rfl, HB.out.drew⟩
  · have e := HBAD.out hc
    subst e
    have e := HN.out
    subst e
    have hci : (C == 0) = false := by simpa using hc
    clear HBAD HPOS HLE HN HINV
    go_enter Try.func43, Try.ntmps43
    go_wp2_with (fail)
    refine (HX.out _ (HM.out.alloc _)).mono ?_
    rintro e w1 ⟨p, rfl, hb, _, _⟩
    have HB := Lib.hid (below_chain (by (repeat (first | exact Below.refl _ _ | assumption | refine below_alloc ?_ _ | refine below_drewN ?_ _ | refine below_set ?_ _ (by simp; try omega) | refine Below.drew ?_)) : Below w.heap.size w _) hb)
    clear hb
    go_wp2
    go_ret2
    exact ⟨rfl, HB.out⟩
end Go.Proofs.Ytaloheljfefdeaa

/- IndexFunc at []reached (printed by MIdx3.py). Condition: the closure's contract. -/
namespace Go.Proofs.Ytaloheljfefdeaa
open Go.RowKit

/-- What a closure over one captured value answers at a test. -/
def ClRch (f : Nat) (x : Value) (pr : Rc → Bool) (l : List Rc) (w : World) : Prop :=
  ∀ (wr : World) (t : Rc) (a : Option Addr) (c : Nat), t ∈ l → Below w.heap.size w wr → Rd wr a (ints t.v) → Calls Try.prog f #[.agg #[.slice a t.v.length c, .int .i64 t.f, .int .i64 t.r, .int .i64 t.d], x] wr fun e w2 => e = .returned (.bool (pr t)) ∧ Below wr.heap.size wr w2
set_option maxRecDepth 100000 in
theorem c_IndexRch (f : Nat) (x : Value) (pr : Rc → Bool) (A : Option Addr) (c : Nat) (l : List Rc) (w : World) (hl2 : l.length ≤ 1048576) (hv : RdRc w A l) (hcall : Hid (ClRch f x pr l w)) (hent : ∀ (args : Array Value) (w : World), (callFunc f args).run Try.prog w = .ok (.enter f args) w) :
    Calls Try.prog 94 #[.slice A l.length c, .func (.func f) #[] #[x]] w fun e w' => e = .returned (.int .i64 (idxI pr l)) ∧ Below w.heap.size w w' := by
  have HR := Lib.hid (rfl : idxI pr l = idxI pr l)
  generalize hR : idxI pr l = R at HR
  replace HR := Lib.hid hR
  clear hR
  generalize hvn : l.length = vn at *
  have HVN := Lib.hid hvn
  have HV := Lib.hid hv
  clear hv hvn
  go_enter Try.func94, Try.ntmps94
  go_wp2
  go_loopw [8] (fun i wr => ∃ k : Nat, k ≤ vn ∧ i = .int .i64 k ∧ Hid ((l.take k).any pr = false) ∧ Below w.heap.size w wr) (fun i _ => vn - (intOf i).toNat)
  case atStart => exact ⟨0, Nat.zero_le _, rfl, Lib.hid rfl, by (repeat (first | exact Below.refl _ _ | assumption | refine below_alloc ?_ _ | refine below_drewN ?_ _ | refine below_set ?_ _ (by simp; try omega) | refine Below.drew ?_))⟩
  case round =>
    obtain ⟨k, hk, rfl, ha, hb⟩ := hrel
    by_cases hlt : k < vn
    · obtain ⟨t, hz⟩ : ∃ z, l[k]? = some z := ⟨_, List.getElem?_eq_getElem (by have := HVN.out; omega)⟩
      obtain ⟨b', off, ra, rc, rfl, _, g0, g1, g2, g3, hrv⟩ := (HV.out.below hb).at hz
      have HZZ := Lib.hid hz
      have HBE := Lib.hid hb
      have HC := Lib.hid (hcall.out wr t ra rc (List.mem_of_getElem? hz) hb hrv)
      clear hz hb hrv
      rcases hin : pr t with _ | _
      · rw [hin] at HC
        have HI := Lib.hid hin
        clear hin
        go_wp2_with (fail)
        refine HC.out.mono ?_
        rintro e w2 ⟨rfl, hb⟩
        have HB2 := Lib.hid (below_chain HBE.out hb)
        clear hb
        go_wp2
        go_roundw
        case rel => exact ⟨k + 1, by omega, by go_num, Lib.hid (any_take_snoc HZZ.out ha.out HI.out), HB2.out⟩
        case measure => simp [intOf]; omega
      · rw [hin] at HC
        have HI := Lib.hid hin
        clear hin
        go_wp2_with (fail)
        refine HC.out.mono ?_
        rintro e w2 ⟨rfl, hb⟩
        have HB2 := Lib.hid (below_chain HBE.out hb)
        clear hb
        go_wp2
        go_ret
        exact ⟨ret_int (by rw [← HR.out, idxI_found HZZ.out ha.out HI.out]), HB2.out⟩
    · have : k = vn := by omega
      subst this
      have hA := ha.out
      rw [List.take_of_length_le (by have := HVN.out; omega)] at hA
      have HA := Lib.hid hA
      clear hA ha
      go_wp2
      go_ret
      exact ⟨ret_int (by rw [← HR.out, idxI_none HA.out]), hb⟩
end Go.Proofs.Ytaloheljfefdeaa
