/- append of a list of numbers to a list of the call's own; slices.Clone, l01Own (the seats without layouts). No condition but the sizes. -/
import Derived.Test.YtgpmglfcdbpgkaaGreatDoorIntsM
import Derived.Deep.RegionLaw
import Derived.Lib.SliceRun
import Derived.Laws.OwnMore
import Derived.Shelf.RegionOpenPlain
namespace Go.Proofs.YtgpmglfcdbpgkaaGreatDoor
open Go.RowKit

theorem own_prefix {w : World} {base : Nat} {e : TypeId} {size g n cap : Nat} {xs : List Value} (h : w.ownsRow base e size (.slice (some ⟨g, 0, none⟩) n cap) n xs) {i : Nat} (hi : i ≤ n) :
    w.ownsRow base e size (.slice (some ⟨g, 0, none⟩) i cap) i (xs.take (i * size)) := by
  have hle := Nat.mul_le_mul_right size hi
  refine ⟨by rw [List.length_take, h.1]; omega, ?_⟩
  rcases h.2 with ⟨h', _⟩ | ⟨g', cap', cur, h', hb, hg, hnc, hcm, hcs, ht⟩
  · simp at h'
  · simp only [Value.slice.injEq, Option.some.injEq, Addr.mk.injEq, and_true, true_and] at h'
    obtain ⟨rfl, rfl⟩ := h'
    refine .inr ⟨g, cap, cur, rfl, hb, hg, by omega, hcm, hcs, ?_⟩
    rw [← ht, List.take_take, Nat.min_eq_left hle]
theorem own_has {w : World} {base : Nat} {e : TypeId} {size g n cap : Nat} {xs : List Value} (h : w.ownsRow base e size (.slice (some ⟨g, 0, none⟩) n cap) n xs) {j : Nat} (hj : j < cap * size) : (w.cell? ⟨g, j, none⟩).isSome = true := by
  rcases h.2 with ⟨h', _⟩ | ⟨g', cap', cur, h', hb, hg, hnc, hcm, hcs, ht⟩
  · simp at h'
  · simp only [Value.slice.injEq, Option.some.injEq, Addr.mk.injEq, and_true, true_and] at h'
    obtain ⟨rfl, rfl⟩ := h'
    rw [cell_of_row w g j cur e (0, 0) hg]
    rw [Array.getElem?_eq_getElem (by omega)]
    rfl
theorem news_of {w : World} {A : Option Addr} {ys : List Int} {ad : Addr} (hr : Rd w A (ints ys)) (hA : A = some ad) : ∀ j u, (ints ys)[j]? = some u → w.cell? (ad.add j) = some u := by
  intro j u hu
  rcases hr with h | ⟨b, off, e, _, hc⟩
  · rw [h] at hu; simp at hu
  · rw [hA] at e
    simp only [Option.some.injEq] at e
    subst e
    rw [Addr.add_lit]
    exact hc j u hu
theorem ints_cells (ys : List Int) : ∀ u ∈ ints ys, u.oneCell' = true := by
  intro u hu
  obtain ⟨x, _, rfl⟩ := List.mem_map.1 hu
  rfl
theorem ints_append (a b : List Int) : ints a ++ ints b = ints (a ++ b) := by simp [ints]
theorem wpList_append_ints (w : World) {ops : Array Oper} {rest : List Oper} {o : Oper} {a : Act} {Q : Exit → Act → World → Prop} (hgd : o.guard = none) (s x : Operand)
    (ho : o.op = .call { callee := .builtin .append, args := #[s, x], argTypes := #[22, 22] })
    (base : Nat) (v : Value) (n : Nat) (zs ys : List Int) (ad : Addr) (m c : Nat) (hs : a.eval s = v) (hown : w.ownsRow base 2 1 v n (ints zs))
    (hx : a.eval x = .slice (some ad) m c) (hr : Rd w (some ad) (ints ys)) (hm : m = ys.length) (hn : n + m ≤ 1000000000000) (hbase : base ≤ w.heap.size)
    (h : ∀ v' w', w'.ownsRow base 2 1 v' (n + m) (ints (zs ++ ys)) → w.grownBy w' v.ownBlock → (v' = .slice none 0 0 ↔ v = .slice none 0 0 ∧ m = 0) → wpList Tryz.prog ops Q rest (a.put o.dst v') w') : wpList Tryz.prog ops Q (o :: rest) a w := by
  obtain ⟨i0, hi, hz0, hz1, hz2⟩ := info_parts info_int64
  refine wpList_append_own w hgd s x 22 ho base 2 i0 (.int .i64 0) 1 8 Tryz.underlying22 hi hz0 hz1 hz2 rfl (by decide) v n (ints zs) hs hown ad m c (ints ys) hx (by rw [ints_length, hm, Nat.mul_one]) (news_of hr rfl) (ints_cells ys) (by unfold maxLen; omega) (by omega) hbase ?_
  intro v' w' h1 h2 h3
  exact h v' w' (by rw [← ints_append]; exact h1) h2 h3
theorem step_append_fits {ops : Array Oper} {o : Oper} {a : Act} {w : World} {K : Act → World → Prop} {Q : Exit → Act → World → Prop} {E : Prop}
    (hg : o.guard = none) (s x : Operand) (hop : o.op = Op.call { callee := Callee.builtin Builtin.append, args := #[s, x], argTypes := #[22, 22] })
    (base g n cap : Nat) (zs ys : List Int) (hs : a.eval s = .slice (some ⟨g, 0, none⟩) n cap) (hown : w.ownsRow base 2 1 (.slice (some ⟨g, 0, none⟩) n cap) n (ints zs))
    (ad : Addr) (m c : Nat) (hx : a.eval x = .slice (some ad) m c) (hr : Rd w (some ad) (ints ys)) (hm : m = ys.length) (hroom : n + m ≤ cap)
    (h : ∀ w', w'.ownsRow base 2 1 (.slice (some ⟨g, 0, none⟩) (n + m) cap) (n + m) (ints (zs ++ ys)) → w.grownBy w' (some g) → K (a.put o.dst (.slice (some ⟨g, 0, none⟩) (n + m) cap)) w') :
    if Region.wanted o (yielded ops a.tmps) = true then Oper.wp Tryz.prog o a w K Q else E := by
  obtain ⟨i0, hi, hz0, hz1, hz2⟩ := info_parts info_int64
  have hw : Region.wanted o (yielded ops a.tmps) = true := by simp [Region.wanted, hg]
  rw [if_pos hw]
  obtain ⟨w', hrun, h1, h2⟩ := run_append_fits (P := Tryz.prog) w base 22 o.type 2 i0 1 Tryz.underlying22 hi hz1 g n cap (ints zs) hown ad m c (ints ys) (by rw [ints_length, hm, Nat.mul_one]) (news_of hr rfl) (ints_cells ys) hroom
  unfold Oper.wp
  simp [execOp, hop, resolve, invoke, builtin, hs, hx, hrun, Result.andThen]
  exact h w' (by rw [← ints_append]; exact h1) h2
theorem step_append_ints (w : World) {ops : Array Oper} {o : Oper} {a : Act} {K : Act → World → Prop} {Q : Exit → Act → World → Prop} {E : Prop} (hgd : o.guard = none) (s x : Operand)
    (ho : o.op = .call { callee := .builtin .append, args := #[s, x], argTypes := #[22, 22] })
    (base : Nat) (v : Value) (n : Nat) (zs ys : List Int) (ad : Addr) (m c : Nat) (hs : a.eval s = v) (hown : w.ownsRow base 2 1 v n (ints zs))
    (hx : a.eval x = .slice (some ad) m c) (hr : Rd w (some ad) (ints ys)) (hm : m = ys.length) (hn : n + m ≤ 1000000000000) (hbase : base ≤ w.heap.size)
    (h : ∀ v' w', w'.ownsRow base 2 1 v' (n + m) (ints (zs ++ ys)) → w.grownBy w' v.ownBlock → (v' = .slice none 0 0 ↔ v = .slice none 0 0 ∧ m = 0) → K (a.put o.dst v') w') :
    if Region.wanted o (yielded ops a.tmps) = true then Oper.wp Tryz.prog o a w K Q else E := by
  obtain ⟨i0, hi, hz0, hz1, hz2⟩ := info_parts info_int64
  have hw : Region.wanted o (yielded ops a.tmps) = true := by simp [Region.wanted, hgd]
  rw [if_pos hw]
  refine wp_append_own w s x 22 ho base 2 i0 (.int .i64 0) 1 8 Tryz.underlying22 hi hz0 hz1 hz2 rfl (by decide) v n (ints zs) hs hown ad m c (ints ys) hx (by rw [ints_length, hm, Nat.mul_one]) (news_of hr rfl) (ints_cells ys) (by unfold maxLen; omega) (by omega) hbase ?_
  intro v' w' h1 h2 h3
  exact h v' w' (by rw [← ints_append]; exact h1) h2 h3
set_option maxRecDepth 100000 in
theorem c_l01Own (b off c n : Nat) (zs : List Int) (w : World) (hn : n = zs.length) (hs : n ≤ 100000000) (hr : Rd w (some ⟨b, off, none⟩) (ints zs)) :
    Calls Tryz.prog 83 #[.slice (some ⟨b, off, none⟩) n c] w fun e w' => ∃ g c', e = .returned (.slice (some ⟨g, 0, none⟩) n c') ∧ w'.ownsRow w.heap.size 2 1 (.slice (some ⟨g, 0, none⟩) n c') n (ints zs) ∧ Below w.heap.size w w' := by
  have HN := Lib.hid hn
  have HR := Lib.hid hr
  clear hn hr
  go_enter Tryz.func83, Tryz.ntmps83
  go_wp2_with (first
    | (at_builtin
       refine wpList_append_ints _ (by rfl) (.tmp 3) (.tmp 4) (by rfl) w.heap.size (.slice (some ⟨w.heap.size, 0, none⟩) 0 0) 0 [] zs ⟨b, off, none⟩ n c (by rfl) (World.ownsRow_made w #[] 0 (Nat.le_refl _) (Nat.zero_le _) rfl) (by rfl) (HR.out.alloc _) HN.out (by omega) (by simp) ?_
       intro v' w1 hown hgrow hnil
       have HO := Lib.hid hown
       have HB := Lib.hid (show Below w.heap.size w w1 from ((Below.refl _ w).alloc (Nat.le_refl _) _).grown hgrow (by simp) (by intro k hk; simp [Value.ownBlock] at hk; omega))
       have HV := Lib.hid (show ∃ g c', v' = .slice (some ⟨g, 0, none⟩) n c' by
         rcases hown.2 with ⟨h1, h2⟩ | ⟨g, cap, cur, h1, _⟩
         · rw [hnil] at h1; simp at h1
         · exact ⟨g, cap, by rw [h1, Nat.zero_add]⟩)
       clear hown hgrow hnil)
    )
  go_ret
  obtain ⟨g, c', rfl⟩ := HV.out
  refine ⟨g, c', rfl, by simpa using HO.out, HB.out⟩
set_option maxRecDepth 100000 in
theorem c_Clone (b off c n : Nat) (zs : List Int) (w : World) (hn : n = zs.length) (hs : n ≤ 100000000) (hr : Rd w (some ⟨b, off, none⟩) (ints zs)) :
    Calls Tryz.prog 87 #[.slice (some ⟨b, off, none⟩) n c] w fun e w' => ∃ g c', e = .returned (.slice (some ⟨g, 0, none⟩) n c') ∧ w'.ownsRow w.heap.size 2 1 (.slice (some ⟨g, 0, none⟩) n c') n (ints zs) ∧ Below w.heap.size w w' := by
  have HN := Lib.hid hn
  have HR := Lib.hid hr
  clear hn hr
  have q22 : ∀ (w : World) (a : Option Addr) (n c n' c' : Nat), (binOp .eql 22 (.slice a n c) (.slice none n' c')).run Tryz.prog w = .ok (.bool a.isNone) w := fun w a n c n' c' => Lib.run_eql_slice_nil w _ _ a n c n' c' Tryz.underlying22
  go_enter Tryz.func87, Tryz.ntmps87
  go_wp2_with (first
    | (at_builtin
       refine wpList_append_ints _ (by rfl) (.tmp 5) (.tmp 6) (by rfl) w.heap.size (.slice (some ⟨w.heap.size, 0, none⟩) 0 0) 0 [] zs ⟨b, off, none⟩ n c (by rfl) (World.ownsRow_made w #[] 0 (Nat.le_refl _) (Nat.zero_le _) rfl) (by rfl) (HR.out.alloc _) HN.out (by omega) (by simp) ?_
       intro v' w1 hown hgrow hnil
       have HO := Lib.hid hown
       have HB := Lib.hid (show Below w.heap.size w w1 from ((Below.refl _ w).alloc (Nat.le_refl _) _).grown hgrow (by simp) (by intro k hk; simp [Value.ownBlock] at hk; omega))
       have HV := Lib.hid (show ∃ g c', v' = .slice (some ⟨g, 0, none⟩) n c' by
         rcases hown.2 with ⟨h1, h2⟩ | ⟨g, cap, cur, h1, _⟩
         · rw [hnil] at h1; simp at h1
         · exact ⟨g, cap, by rw [h1, Nat.zero_add]⟩)
       clear hown hgrow hnil)
    )
  go_ret
  obtain ⟨g, c', rfl⟩ := HV.out
  refine ⟨g, c', rfl, by simpa using HO.out, HB.out⟩
end Go.Proofs.YtgpmglfcdbpgkaaGreatDoor
