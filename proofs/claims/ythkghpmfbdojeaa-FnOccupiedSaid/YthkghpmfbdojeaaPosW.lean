/- Contracts of the starts of segments, BlockStart, BlockLength (program and reference). -/
import Derived.Test.YthkghpmfbdojeaaPosP
import Derived.Test.YthkghpmfbdojeaaPush
namespace Go.Proofs.Ythkghpmfbdojeaa
open Go.RowKit

/-- append of one number to a list of the call's own. -/
theorem wpList_push_int (w : World) {ops : Array Oper} {rest : List Oper} {o : Oper} {a : Act} {Q : Exit → Act → World → Prop} (hgd : o.guard = none) (s x : Operand)
    (ho : o.op = .call { callee := .builtin .append, args := #[s, x], argTypes := #[27, 27] })
    (base : Nat) (v : Value) (n : Nat) (zs : List Int) (z : Int) (g c : Nat) (hs : a.eval s = v) (hown : w.ownsRow base 2 1 v n (ints zs))
    (hx : a.eval x = .slice (some ⟨g, 0, none⟩) 1 c) (hc : w.cell? ⟨g, 0, none⟩ = some (.int .i64 z)) (hn : n ≤ 1048577) (hbase : base ≤ w.heap.size)
    (h : ∀ v' w', w'.ownsRow base 2 1 v' (n + 1) (ints (zs ++ [z])) → w.grownBy w' v.ownBlock → (∀ g, v.ownBlock = some g → ∀ j, j < n * 1 → w'.cell? ⟨g, j, none⟩ = w.cell? ⟨g, j, none⟩) → (v'.ownBlock = v.ownBlock ∨ v'.ownBlock = some w.heap.size) → wpList Try.prog ops Q rest (a.put o.dst v') w') : wpList Try.prog ops Q (o :: rest) a w := by
  obtain ⟨i0, hi, hz0, hz1, hz2⟩ := info_parts info_int64
  refine wpList_push w hgd s x 27 ho base 2 i0 (.int .i64 0) 1 8 Try.underlying27 hi hz0 hz1 hz2 rfl (by decide) v n (ints zs) hs hown ⟨g, 0, none⟩ c [.int .i64 z] hx rfl ?_ ?_ (by unfold maxLen; omega) (by omega) hbase ?_
  · intro j u hu
    match j, hu with
    | 0, hu =>
      simp only [List.getElem?_cons_zero, Option.some.injEq] at hu
      rw [← hu]
      simpa [Addr.add] using hc
  · intro u hu
    simp only [List.mem_singleton] at hu
    subst hu; rfl
  · intro v' w' h1 h2 h3 h4
    exact h v' w' (by simpa [ints] using h1) h2 h3 h4
theorem step_push_int (w : World) {ops : Array Oper} {o : Oper} {a : Act} {K : Act → World → Prop} {Q : Exit → Act → World → Prop} {E : Prop} (hgd : o.guard = none) (s x : Operand)
    (ho : o.op = .call { callee := .builtin .append, args := #[s, x], argTypes := #[27, 27] })
    (base : Nat) (v : Value) (n : Nat) (zs : List Int) (z : Int) (g c : Nat) (hs : a.eval s = v) (hown : w.ownsRow base 2 1 v n (ints zs))
    (hx : a.eval x = .slice (some ⟨g, 0, none⟩) 1 c) (hc : w.cell? ⟨g, 0, none⟩ = some (.int .i64 z)) (hn : n ≤ 1048577) (hbase : base ≤ w.heap.size)
    (h : ∀ v' w', w'.ownsRow base 2 1 v' (n + 1) (ints (zs ++ [z])) → w.grownBy w' v.ownBlock → (∀ g, v.ownBlock = some g → ∀ j, j < n * 1 → w'.cell? ⟨g, j, none⟩ = w.cell? ⟨g, j, none⟩) → (v'.ownBlock = v.ownBlock ∨ v'.ownBlock = some w.heap.size) → K (a.put o.dst v') w') :
    if Region.wanted o (yielded ops a.tmps) = true then Oper.wp Try.prog o a w K Q else E := by
  obtain ⟨i0, hi, hz0, hz1, hz2⟩ := info_parts info_int64
  refine step_push w hgd s x 27 ho base 2 i0 (.int .i64 0) 1 8 Try.underlying27 hi hz0 hz1 hz2 rfl (by decide) v n (ints zs) hs hown ⟨g, 0, none⟩ c [.int .i64 z] hx rfl ?_ ?_ (by unfold maxLen; omega) (by omega) hbase ?_
  · intro j u hu
    match j, hu with
    | 0, hu =>
      simp only [List.getElem?_cons_zero, Option.some.injEq] at hu
      rw [← hu]
      simpa [Addr.add] using hc
  · intro u hu
    simp only [List.mem_singleton] at hu
    subst hu; rfl
  · intro v' w' h1 h2 h3 h4
    exact h v' w' (by simpa [ints] using h1) h2 h3 h4

set_option maxRecDepth 100000 in
theorem c_starts (A : Option Addr) (c n : Nat) (l : List Seg) (w : World) (hn : n = l.length) (hs : n ≤ 1048576) (hr : Rd w A (segCells l)) (hl : Lay l) :
    Calls Try.prog 54 #[.agg #[.slice A n c]] w (RetInts (stL l (n + 1)) w) := by
  have HN := Lib.hid hn
  have hn24 : n ≤ 24 := by have := hl.hi; omega
  clear hn
  go_enter Try.func54, Try.ntmps54
  go_wp2
  have hown : ((w.alloc (.cells #[.slice A n c] 26)).alloc (.cells #[.int .i64 0] 2)).ownsRow w.heap.size 2 1 (.slice (some ⟨w.heap.size + 1, 0, none⟩) 1 1) 1 (ints (stL l 1)) := by
    have h := World.ownsRow_lit (e := 2) (size := 1) (base := w.heap.size) (w.alloc (.cells #[.slice A n c] 26)) #[.int .i64 0] 1 (by simp) (by decide) (by simp)
    have e : ints (stL l 1) = [.int .i64 0] := by simp [stL, ints, pos_zero]
    rw [e]
    simpa using h
  go_loopw [3, 10] (fun v i wr => ∃ k : Nat, k ≤ n ∧ i = .int .i64 k ∧ wr.ownsRow w.heap.size 2 1 v (k + 1) (ints (stL l (k + 1))) ∧ Below w.heap.size w wr) (fun _ i _ => n - (intOf i).toNat)
  case atStart => exact ⟨0, Nat.zero_le _, rfl, hown, by (repeat (first | exact Below.refl _ _ | assumption | refine below_alloc ?_ _ | refine below_drewN ?_ _ | refine below_set ?_ _ (by simp; try omega) | refine Below.drew ?_))⟩
  case round =>
    obtain ⟨k, hk, rfl, ho, hb⟩ := hrel
    clear hown
    by_cases hlt : k < n
    · obtain ⟨s, hz⟩ : ∃ z, l[k]? = some z := ⟨_, List.getElem?_eq_getElem (by have := HN.out; omega)⟩
      have hsl := segOk_l (hl.ok _ (List.mem_of_getElem? hz))
      have hpk := pos_small hl (k := k) (by have := HN.out; omega)
      have HPS := Lib.hid (pos_succ hz)
      obtain ⟨b, off, rfl, _, g0, g1, g2, g3, g4, g5, g6⟩ := (hr.below hb).seg hz
      obtain ⟨g, cap, rfl⟩ := own_form ho
      have gk : wr.cell? ⟨g, k, none⟩ = some (.int .i64 (pos l k)) := by
        rw [ho.cellAt k (by omega)]
        simp [ints, stL_get (show k < k + 1 by omega)]
      have hge := own_ge ho
      have hi0 : (0 : Int) ≤ (k : Int) := by omega
      have hi1 : (k : Int) < (k : Int) + 1 := by omega
      have HO := Lib.hid ho
      have HB := Lib.hid hb
      have hw : IntKind.i64.wrap (pos l k + s.l) = pos l k + s.l := IntWalk.i64_in _ (by omega)
      clear hz ho hb hr hl
      go_wp2
      go_region_held3 (fun w' => w'.cell? ⟨g, k, none⟩ = some (.int .i64 (pos l k)) ∧ w'.cell? ⟨wr.heap.size, 1, none⟩ = some (.int .i64 s.l))
        (first
          | go_keep
          | (go_split_ands
             refine ⟨?_, ?_⟩
             · (rw [hold g rfl k (by omega)]; assumption)
             · (rw [hgrow.cell_far _ (by simp; omega) (by simp [Value.ownBlock]; omega)]; assumption)))
        ((refine step_push_int _ (by rfl) (.tmp 15) (.tmp 23) (by rfl) w.heap.size (.slice (some ⟨g, 0, none⟩) (k + 1) cap) (k + 1) (stL l (k + 1)) (pos l k + s.l) (wr.heap.size + 1) 1 (by rfl) (by exact (HO.out.alloc _).alloc _) (by rfl) (by go_simp) (by omega) (by simp; have := HB.out.size; omega) ?_
          intro v1 w1 hown1 hgrow hold hat))
      have hrow : ∀ q, (Value.slice (some ⟨g, 0, none⟩) (k + 1) cap).ownBlock = some q → w.heap.size ≤ q := by
        intro q hq
        simp [Value.ownBlock] at hq
        omega
      have HB1 := Lib.hid (below_of_grown (by exact ((HB.out.alloc HB.out.size _).alloc (by simp; have := HB.out.size; omega) _).drew) hgrow hrow)
      have HO1 := Lib.hid hown1
      clear hown1 hgrow hold hat hrow
      go_wp2
      go_roundw
      case rel => exact ⟨k + 1, by omega, by go_num, by rw [stL_snoc, HPS.out]; exact HO1.out, HB1.out⟩
      case measure => simp [intOf]; omega
    · have : k = n := by omega
      subst this
      obtain ⟨g, cap, rfl⟩ := own_form ho
      have HO := Lib.hid ho
      have HB := Lib.hid hb
      clear ho hb
      go_wp2
      go_ret
      refine ⟨some ⟨g, 0, none⟩, cap, ?_, ?_, HB.out⟩
      · rw [stL_length]; rfl
      · rw [stL_length]; exact HO.out
end Go.Proofs.Ythkghpmfbdojeaa
