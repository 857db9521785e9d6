/- Lists of integers in the seat of the diagrams: append of one number; marks. No condition but the sizes. -/
import Derived.Test.YtndihacmlkgkbaaDgK
namespace Go.Proofs.Ytndihacmlkgkbaa
open Go.RowKit

/-- append of one number to a list of the call's own. -/
theorem wpList_push_int (w : World) {ops : Array Oper} {rest : List Oper} {o : Oper} {a : Act} {Q : Exit → Act → World → Prop} (hgd : o.guard = none) (s x : Operand)
    (ho : o.op = .call { callee := .builtin .append, args := #[s, x], argTypes := #[35, 35] })
    (base : Nat) (v : Value) (n : Nat) (zs : List Int) (z : Int) (g c : Nat) (hs : a.eval s = v) (hown : w.ownsRow base 2 1 v n (ints zs))
    (hx : a.eval x = .slice (some ⟨g, 0, none⟩) 1 c) (hc : w.cell? ⟨g, 0, none⟩ = some (.int .i64 z)) (hn : n ≤ 1099511627776) (hbase : base ≤ w.heap.size)
    (h : ∀ v' w', w'.ownsRow base 2 1 v' (n + 1) (ints (zs ++ [z])) → w.grownBy w' v.ownBlock → (∀ g, v.ownBlock = some g → ∀ j, j < n * 1 → w'.cell? ⟨g, j, none⟩ = w.cell? ⟨g, j, none⟩) → (v'.ownBlock = v.ownBlock ∨ v'.ownBlock = some w.heap.size) → wpList Try.prog ops Q rest (a.put o.dst v') w') : wpList Try.prog ops Q (o :: rest) a w := by
  obtain ⟨i0, hi, hz0, hz1, hz2⟩ := info_parts info_int64
  refine wpList_push w hgd s x 35 ho base 2 i0 (.int .i64 0) 1 8 Try.underlying35 hi hz0 hz1 hz2 rfl (by decide) v n (ints zs) hs hown ⟨g, 0, none⟩ c [.int .i64 z] hx rfl ?_ ?_ (by unfold maxLen; omega) (by omega) hbase ?_
  · intro j u hu
    match j, hu with
    | 0, hu =>
      simp only [List.getElem?_cons_zero, Option.some.injEq] at hu
      rw [← hu]
      simpa [Addr.add] using hc
  · intro u hu
    simp only [List.mem_singleton] at hu
    subst hu; rfl
  · intro v' w' h1 h2 h3 h4
    exact h v' w' (by simpa [ints] using h1) h2 h3 h4
theorem wp_push_int (w : World) {o : Oper} {a : Act} {K : Act → World → Prop} {Q : Exit → Act → World → Prop} (s x : Operand)
    (ho : o.op = .call { callee := .builtin .append, args := #[s, x], argTypes := #[35, 35] })
    (base : Nat) (v : Value) (l : List Int) (z : Int) (g c : Nat) (hs : a.eval s = v) (hown : w.ownsRow base 2 1 v l.length (ints l))
    (hx : a.eval x = .slice (some ⟨g, 0, none⟩) 1 c) (h0 : w.cell? ⟨g, 0, none⟩ = some (.int .i64 z)) (hn : l.length ≤ 1099511627776) (hbase : base ≤ w.heap.size)
    (h : ∀ v' w', w'.ownsRow base 2 1 v' (l.length + 1) (ints (l ++ [z])) → w.grownBy w' v.ownBlock → (v'.ownBlock = v.ownBlock ∨ v'.ownBlock = some w.heap.size) → K (a.put o.dst v') w') : o.wp Try.prog a w K Q := by
  obtain ⟨i0, hi, hz0, hz1, hz2⟩ := info_parts info_int64
  refine wp_push w s x 35 ho base 2 i0 (.int .i64 0) 1 8 Try.underlying35 hi hz0 hz1 hz2 rfl (by decide) v l.length (ints l) hs hown ⟨g, 0, none⟩ c [.int .i64 z] hx rfl ?_ ?_ (by unfold maxLen; omega) (by omega) hbase ?_
  · intro j u hu
    match j, hu with
    | 0, hu =>
      simp only [List.getElem?_cons_zero, Option.some.injEq] at hu
      rw [← hu]
      simpa [Addr.add] using h0
  · intro u hu
    simp only [List.mem_singleton] at hu
    subst hu; rfl
  · intro v' w' h1 h2 _ h4
    exact h v' w' (by simpa [ints] using h1) h2 h4
theorem own_zero {w : World} {base : Nat} {e : TypeId} {size c : Nat} {A : Option Addr} {xs : List Value} (h : w.ownsRow base e size (.slice A 0 c) 0 xs) : xs = [] := List.eq_nil_of_length_eq_zero (by simpa using h.1)
set_option maxRecDepth 100000 in
theorem c_markInt64S (A : Option Addr) (c n : Nat) (zs : List Int) (base : Nat) (k : Int) (w : World) (hk0 : 0 ≤ k) (hk : k + n ≤ 100000000) (ho : w.ownsRow base 2 1 (.slice A n c) n (ints zs)) :
    Calls Try.prog 22 #[.slice A n c, .int .i64 k] w fun e w' => e = .returned (.int .i64 (k + n)) ∧ w'.ownsRow base 2 1 (.slice A n c) n (ints (markL k n)) ∧ w.grownBy w' (Value.slice A n c).ownBlock := by
  obtain ⟨k, rfl⟩ : ∃ k' : Nat, k = k' := ⟨k.toNat, by omega⟩
  have hLZ := Lib.hid (show (ints (markL k n)).length = (ints zs).length by rw [ho.1, ints_length, markL_length]; simp)
  have HL := Lib.hid (show (ints zs).length = n by rw [ho.1]; simp)
  go_enter Try.func22, Try.ntmps22
  go_wp2
  go_loopw [1, 5] (fun t i wr => ∃ j : Nat, j ≤ n ∧ i = .int .i64 j ∧ t = .int .i64 (k + j) ∧ wr.ownsRow base 2 1 (.slice A n c) n (mix (ints (markL k n)) (ints zs) j) ∧ w.grownBy wr (Value.slice A n c).ownBlock) (fun _ i _ => n - (intOf i).toNat)
  case atStart => exact ⟨0, Nat.zero_le _, rfl, by simp, by rw [mix_zero]; exact ho, World.grownBy.refl _ _⟩
  case round =>
    obtain ⟨j, hj, rfl, rfl, ho1, hg⟩ := hrel
    clear ho
    by_cases hlt : j < n
    · obtain ⟨g, cap, hv, _⟩ := ho1.form (by omega)
      simp only [Value.slice.injEq, true_and] at hv
      obtain ⟨rfl, rfl⟩ := hv
      have hu : (ints (markL k n))[j]? = some (.int .i64 (k + j)) := by simp [ints, markL_get hlt]
      have f0 := ho1.frozenAt j
      obtain ⟨old, hold⟩ := own_cell ho1 (j := j) (by omega)
      have hst := (ho1.stored j (.int .i64 (k + j))).1
      rw [mix_set hLZ.out hu] at hst
      have HST := Lib.hid hst
      have HG := Lib.hid (grown_trans hg (ho1.stored j (.int .i64 (k + j))).2)
      clear hu hst ho1 hg
      go_wp2
      go_roundw
      case rel => exact ⟨j + 1, by omega, by go_num, by go_num, HST.out, HG.out⟩
      case measure => simp [intOf]; omega
    · obtain rfl : j = n := by omega
      have HO := Lib.hid ho1
      have HG := Lib.hid hg
      clear ho1 hg
      go_wp2
      go_ret
      refine ⟨rfl, ?_, HG.out⟩
      have := HO.out
      rwa [mix_all (by rw [hLZ.out, HL.out]; exact Nat.le_refl _) (by rw [HL.out]; exact Nat.le_refl _)] at this
set_option maxRecDepth 100000 in
theorem c_heldInt64S (A : Option Addr) (c n : Nat) (k : Int) (w : World) (hk0 : 0 ≤ k) (hk : k + n ≤ 100000000) (hr : Rd w A (ints (markL k n))) :
    Calls Try.prog 23 #[.slice A n c, .int .i64 k] w fun e w' => e = .returned (.int .i64 (k + n)) ∧ Below w.heap.size w w' := by
  obtain ⟨k, rfl⟩ : ∃ k' : Nat, k = k' := ⟨k.toNat, by omega⟩
  go_enter Try.func23, Try.ntmps23
  go_wp2
  go_loop [1, 5] (fun t i => ∃ j : Nat, j ≤ n ∧ i = .int .i64 j ∧ t = .int .i64 (k + j)) (fun _ i => n - (intOf i).toNat)
  case atStart => exact ⟨0, Nat.zero_le _, rfl, by simp⟩
  case round =>
    obtain ⟨j, hj, rfl, rfl⟩ := hrel
    by_cases hlt : j < n
    · obtain ⟨b, off, rfl, _, g0⟩ := hr.int (markL_get hlt)
      clear hr
      go_wp2
      go_round
      case rel => exact ⟨j + 1, by omega, by go_num, by go_num⟩
      case measure => simp [intOf]; omega
    · obtain rfl : j = n := by omega
      go_wp2
      go_ret
      exact ⟨rfl, Below.refl _ _⟩
end Go.Proofs.Ytndihacmlkgkbaa
