/- Marks of lists of integers, and append of one number (the seats without layouts). No condition but the sizes. -/
import Derived.Test.YtgpmglfcdbpgkaaGreatDoorMShp
import Derived.Test.YtgpmglfcdbpgkaaGreatDoorMRul
namespace Go.Proofs.YtgpmglfcdbpgkaaGreatDoor
open Go.RowKit

/-- append of one number to a list of the call's own. -/
theorem wpList_push_int (w : World) {ops : Array Oper} {rest : List Oper} {o : Oper} {a : Act} {Q : Exit → Act → World → Prop} (hgd : o.guard = none) (s x : Operand)
    (ho : o.op = .call { callee := .builtin .append, args := #[s, x], argTypes := #[22, 22] })
    (base : Nat) (v : Value) (n : Nat) (zs : List Int) (z : Int) (g c : Nat) (hs : a.eval s = v) (hown : w.ownsRow base 2 1 v n (ints zs))
    (hx : a.eval x = .slice (some ⟨g, 0, none⟩) 1 c) (hc : w.cell? ⟨g, 0, none⟩ = some (.int .i64 z)) (hn : n ≤ 1048577) (hbase : base ≤ w.heap.size)
    (h : ∀ v' w', w'.ownsRow base 2 1 v' (n + 1) (ints (zs ++ [z])) → w.grownBy w' v.ownBlock → (∀ g, v.ownBlock = some g → ∀ j, j < n * 1 → w'.cell? ⟨g, j, none⟩ = w.cell? ⟨g, j, none⟩) → (v'.ownBlock = v.ownBlock ∨ v'.ownBlock = some w.heap.size) → wpList Tryz.prog ops Q rest (a.put o.dst v') w') : wpList Tryz.prog ops Q (o :: rest) a w := by
  obtain ⟨i0, hi, hz0, hz1, hz2⟩ := info_parts info_int64
  refine wpList_push w hgd s x 22 ho base 2 i0 (.int .i64 0) 1 8 Tryz.underlying22 hi hz0 hz1 hz2 rfl (by decide) v n (ints zs) hs hown ⟨g, 0, none⟩ c [.int .i64 z] hx rfl ?_ ?_ (by unfold maxLen; omega) (by omega) hbase ?_
  · intro j u hu
    match j, hu with
    | 0, hu =>
      simp only [List.getElem?_cons_zero, Option.some.injEq] at hu
      rw [← hu]
      simpa [Addr.add] using hc
  · intro u hu
    simp only [List.mem_singleton] at hu
    subst hu; rfl
  · intro v' w' h1 h2 h3 h4
    exact h v' w' (by simpa [ints] using h1) h2 h3 h4
theorem own_zero {w : World} {base : Nat} {e : TypeId} {size c : Nat} {A : Option Addr} {xs : List Value} (h : w.ownsRow base e size (.slice A 0 c) 0 xs) : xs = [] := List.eq_nil_of_length_eq_zero (by simpa using h.1)
def markL (k : Int) (n : Nat) : List Int := (List.range n).map fun (i : Nat) => k + (i : Int)
theorem markL_length (k : Int) (n : Nat) : (markL k n).length = n := by simp [markL]
theorem markL_get {k : Int} {n j : Nat} (h : j < n) : (markL k n)[j]? = some (k + j) := by simp [markL, h]
set_option maxRecDepth 100000 in
theorem c_markInt64S (A : Option Addr) (c n : Nat) (zs : List Int) (base : Nat) (k : Int) (w : World) (hk0 : 0 ≤ k) (hk : k + n ≤ 100000000) (ho : w.ownsRow base 2 1 (.slice A n c) n (ints zs)) :
    Calls Tryz.prog 32 #[.slice A n c, .int .i64 k] w fun e w' => e = .returned (.int .i64 (k + n)) ∧ w'.ownsRow base 2 1 (.slice A n c) n (ints (markL k n)) ∧ w.grownBy w' (Value.slice A n c).ownBlock := by
  obtain ⟨k, rfl⟩ : ∃ k' : Nat, k = k' := ⟨k.toNat, by omega⟩
  have hLZ := Lib.hid (show (ints (markL k n)).length = (ints zs).length by rw [ho.1, ints_length, markL_length]; simp)
  have HL := Lib.hid (show (ints zs).length = n by rw [ho.1]; simp)
  go_enter Tryz.func32, Tryz.ntmps32
  go_wp2
  go_loopw [1, 5] (fun t i wr => ∃ j : Nat, j ≤ n ∧ i = .int .i64 j ∧ t = .int .i64 (k + j) ∧ wr.ownsRow base 2 1 (.slice A n c) n (mix (ints (markL k n)) (ints zs) j) ∧ w.grownBy wr (Value.slice A n c).ownBlock) (fun _ i _ => n - (intOf i).toNat)
  case atStart => exact ⟨0, Nat.zero_le _, rfl, by simp, by rw [mix_zero]; exact ho, World.grownBy.refl _ _⟩
  case round =>
    obtain ⟨j, hj, rfl, rfl, ho1, hg⟩ := hrel
    clear ho
    by_cases hlt : j < n
    · obtain ⟨g, cap, hv, _⟩ := ho1.form (by omega)
      simp only [Value.slice.injEq, true_and] at hv
      obtain ⟨rfl, rfl⟩ := hv
      have hu : (ints (markL k n))[j]? = some (.int .i64 (k + j)) := by simp [ints, markL_get hlt]
      have f0 := ho1.frozenAt j
      obtain ⟨old, hold⟩ := own_cell ho1 (j := j) (by omega)
      have hst := (ho1.stored j (.int .i64 (k + j))).1
      rw [mix_set hLZ.out hu] at hst
      have HST := Lib.hid hst
      have HG := Lib.hid (grown_trans hg (ho1.stored j (.int .i64 (k + j))).2)
      clear hu hst ho1 hg
      go_wp2
      go_roundw
      case rel => exact ⟨j + 1, by omega, by go_num, by go_num, HST.out, HG.out⟩
      case measure => simp [intOf]; omega
    · obtain rfl : j = n := by omega
      have HO := Lib.hid ho1
      have HG := Lib.hid hg
      clear ho1 hg
      go_wp2
      go_ret
      refine ⟨rfl, ?_, HG.out⟩
      have := HO.out
      rwa [mix_all (by rw [hLZ.out, HL.out]; exact Nat.le_refl _) (by rw [HL.out]; exact Nat.le_refl _)] at this
set_option maxRecDepth 100000 in
theorem c_heldInt64S (A : Option Addr) (c n : Nat) (k : Int) (w : World) (hk0 : 0 ≤ k) (hk : k + n ≤ 100000000) (hr : Rd w A (ints (markL k n))) :
    Calls Tryz.prog 34 #[.slice A n c, .int .i64 k] w fun e w' => e = .returned (.int .i64 (k + n)) ∧ Below w.heap.size w w' := by
  obtain ⟨k, rfl⟩ : ∃ k' : Nat, k = k' := ⟨k.toNat, by omega⟩
  go_enter Tryz.func34, Tryz.ntmps34
  go_wp2
  go_loop [1, 5] (fun t i => ∃ j : Nat, j ≤ n ∧ i = .int .i64 j ∧ t = .int .i64 (k + j)) (fun _ i => n - (intOf i).toNat)
  case atStart => exact ⟨0, Nat.zero_le _, rfl, by simp⟩
  case round =>
    obtain ⟨j, hj, rfl, rfl⟩ := hrel
    by_cases hlt : j < n
    · obtain ⟨b, off, rfl, _, g0⟩ := hr.int (markL_get hlt)
      clear hr
      go_wp2
      go_round
      case rel => exact ⟨j + 1, by omega, by go_num, by go_num⟩
      case measure => simp [intOf]; omega
    · obtain rfl : j = n := by omega
      go_wp2
      go_ret
      exact ⟨rfl, Below.refl _ _⟩
theorem cell_mark {w w' : World} {row : Option Nat} {a : Addr} {v : Value} (h : w.cell? a = some v) (hg : w.grownBy w' row) (hne : ∀ q, row = some q → q ≠ a.block) : w'.cell? a = some v :=
  (hg.cell_far a (World.block_lt_of_cell? w a h) (fun h' => hne _ h'.symm rfl)).trans h
theorem Mk.of_grown {w w' : World} {A : Option Addr} {n c base : Nat} {e : TypeId} {size : Nat} {xs : List Value} (hg : w.grownBy w' (Value.slice A n c).ownBlock) (ho : w.ownsRow base e size (.slice A n c) n xs) (ho' : ∃ ys, w'.ownsRow base e size (.slice A n c) n ys) : Mk base w.heap.size w w' := by
  refine ⟨hg.os, hg.tape, hg.output, hg.size, fun k hk h => hg.block k hk fun h2 => ?_, fun k cur e2 fz hc => ?_⟩
  · have := ho.lt k h2.symm
    omega
  · by_cases hk : (Value.slice A n c).ownBlock = some k
    · rcases ho.2 with ⟨hv, _⟩ | ⟨g, cap, cur1, hv, _, hg1, _, _, hs1, _⟩
      · rw [hv] at hk; cases hk
      · obtain ⟨ys, ho2⟩ := ho'
        rcases ho2.2 with ⟨hv2, _⟩ | ⟨g2, cap2, cur2, hv2, _, hg2, _, _, hs2, _⟩
        · rw [hv2] at hk; cases hk
        · rw [hv] at hk hv2
          simp only [Value.slice.injEq, Option.some.injEq, Addr.mk.injEq, and_true, true_and] at hv2
          obtain ⟨rfl, rfl⟩ := hv2
          simp only [Value.ownBlock, Option.some.injEq] at hk
          subst hk
          rw [hg1] at hc
          simp only [Option.some.injEq, Obj.cells.injEq] at hc
          obtain ⟨rfl, rfl, rfl⟩ := hc
          exact ⟨cur2, hg2, hs2.trans hs1.symm⟩
    · exact ⟨cur, by rw [hg.block k (Array.getElem?_eq_some_iff.1 hc).1 (fun h => hk h.symm)]; exact hc, rfl⟩
end Go.Proofs.YtgpmglfcdbpgkaaGreatDoor
