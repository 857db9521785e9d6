/- Contracts of the laws' own copies, sizes and comparisons of lists of strings. No condition but the lists' sizes. -/
import Derived.Test.YtackekfjalaacaaGreatDoorCSz
import Derived.Test.YtackekfjalaacaaGreatDoorRgH
namespace Go.Proofs.YtackekfjalaacaaGreatDoor
open Go.RowKit

/-- A list of strings, as cells. -/
def sts (l : List ByteArray) : List Value := l.map .string
theorem sts_length (l : List ByteArray) : (sts l).length = l.length := by simp [sts]
theorem sts_at {l : List ByteArray} {k : Nat} {s : ByteArray} (h : l[k]? = some s) : (sts l)[k]? = some (.string s) := by simp [sts, h]
theorem Rd.st {w : World} {A : Option Addr} {l : List ByteArray} {k : Nat} {s : ByteArray} (h : Rd w A (sts l)) (hk : l[k]? = some s) : ∃ b off, A = some ⟨b, off, none⟩ ∧ b < w.heap.size ∧ w.cell? ⟨b, off + k, none⟩ = some (.string s) := by
  have u0 := sts_at hk
  obtain ⟨b, off, rfl, hb, hc⟩ := h.some_ (by intro e; rw [e] at u0; simp at u0)
  exact ⟨b, off, rfl, hb, hc _ _ u0⟩
theorem info_string : (Tryz.prog.info? 9).map (fun i => (i.zero, i.size, i.bytes)) = some (some (.string ⟨#[]⟩), 1, 16) := by kernel_rfl
/-- What is handed back is a new list of the call's own that holds l. -/
def RetSts (l : List ByteArray) (w : World) (e : Ending) (w' : World) : Prop :=
  ∃ A c, e = .returned (.slice A l.length c) ∧ w'.ownsRow w.heap.size 9 1 (.slice A l.length c) l.length (sts l) ∧ Below w.heap.size w w'
set_option maxRecDepth 100000 in
theorem c_toStringS (A : Option Addr) (c n : Nat) (l : List ByteArray) (w : World) (hn : n = l.length) (hs : n ≤ 1048576) (hr : Rd w A (sts l)) :
    Calls Tryz.prog 31 #[.slice A n c] w (RetSts l w) := by
  obtain ⟨i0, hi, hz0, hz1, hz2⟩ := info_parts info_string
  have HN := Lib.hid hn
  have HZ : (sts l).length = n := by rw [sts_length, hn]
  clear hn
  go_enter Tryz.func31, Tryz.ntmps31
  go_wp2_with (first
    | (at_make
       refine wpList_make_full _ rfl (.tmp 6) (.tmp 6) _ rfl w.heap.size 9 i0 _ 1 Tryz.underlying22 hi hz0 hz1 .i64 .i64 _ _ n rfl rfl rfl rfl (by rw [hz2]; omega) (by unfold maxLen; omega) (Nat.le_refl _) ?_
       intro w1 hown hgrow)
    )
  have hb1 : Below w.heap.size w w1 := below_of_grown (Below.refl _ _) hgrow (by simp)
  have hZ : (madeCells (Value.string ⟨#[]⟩).cells (n * 1)).toList.length = n := by simp [size_madeCells]
  generalize (madeCells (Value.string ⟨#[]⟩).cells (n * 1)).toList = Z at hown hZ
  have hLZ := Lib.hid (HZ.trans hZ.symm)
  have HZZ := Lib.hid HZ
  clear hZ HZ hgrow
  go_loopw [4] (fun i wr => ∃ k : Nat, k ≤ n ∧ i = .int .i64 k ∧ wr.ownsRow w.heap.size 9 1 (.slice (some ⟨w.heap.size, 0, none⟩) n n) n (mix (sts l) Z k) ∧ Below w.heap.size w wr) (fun i _ => n - (intOf i).toNat)
  case atStart => exact ⟨0, Nat.zero_le _, rfl, by rw [mix_zero]; exact hown, hb1⟩
  case round =>
    obtain ⟨k, hk, rfl, ho, hb⟩ := hrel
    clear hown hb1
    by_cases hlt : k < n
    · obtain ⟨s, hs0⟩ : ∃ s, l[k]? = some s := ⟨_, List.getElem?_eq_getElem (by have := HN.out; omega)⟩
      obtain ⟨b, off, rfl, _, g0⟩ := (hr.below hb).st hs0
      have hu := sts_at hs0
      have f0 := ho.frozenAt k
      obtain ⟨old, hold⟩ := own_cell ho (j := k) (by omega)
      have hst := (ho.stored k (.string s)).1
      rw [mix_set hLZ.out hu] at hst
      have HST := Lib.hid hst
      have HB := Lib.hid hb
      clear hu hst ho hb hr hs0
      go_wp2
      go_roundw
      case rel => exact ⟨k + 1, by omega, by go_num, HST.out, below_set HB.out _ (Nat.le_refl _)⟩
      case measure => simp [intOf]; omega
    · have : k = n := by omega
      subst this
      go_wp2
      go_ret
      have e := HN.out
      rw [mix_all (by rw [HZZ.out]; exact Nat.le_refl _) (by rw [← hLZ.out, HZZ.out]; exact Nat.le_refl _)] at ho
      subst e
      exact ⟨_, _, rfl, ho, hb⟩
set_option maxRecDepth 100000 in
theorem c_eqStringS (A A' : Option Addr) (c c' n n' : Nat) (l : List ByteArray) (w : World) (hn : n = l.length) (hn' : n' = l.length) (hs : n ≤ 9223372036854775807) (hr : Rd w A (sts l)) (hr' : Rd w A' (sts l)) :
    Calls Tryz.prog 10 #[.slice A n c, .slice A' n' c'] w fun e w' => e = .returned (.bool true) ∧ Below w.heap.size w w' := by
  obtain rfl : n = n' := by omega
  have HN := Lib.hid hn
  clear hn hn'
  go_enter Tryz.func10, Tryz.ntmps10
  go_wp2
  go_loopw [5] (fun i wr => ∃ k : Nat, k ≤ n ∧ i = .int .i64 k ∧ Hid (Below w.heap.size w wr)) (fun i _ => n - (intOf i).toNat)
  case atStart => exact ⟨0, Nat.zero_le _, rfl, Lib.hid (Below.refl _ _)⟩
  case round =>
    obtain ⟨k, hk, rfl, hb⟩ := hrel
    by_cases hlt : k < n
    · obtain ⟨s, hz⟩ : ∃ z, l[k]? = some z := ⟨_, List.getElem?_eq_getElem (by have := HN.out; omega)⟩
      obtain ⟨b, off, rfl, _, g0⟩ := (hr.below hb.out).st hz
      obtain ⟨b', off', rfl, _, g1⟩ := (hr'.below hb.out).st hz
      have hss : (s.toList != s.toList) = false := by simp
      have hk0 : (0 : Int) ≤ (k : Int) := by omega
      have hk1 : (k : Int) < n := by omega
      clear hz hr hr'
      go_wp2_with (fail)
      refine wp_region_held_drew (S := (fun w' => w'.cell? ⟨b, off + k, none⟩ = some (.string s) ∧ w'.cell? ⟨b', off' + k, none⟩ = some (.string s))) (by kernel_rfl) ?_ (fun hHeld => ?_)
      · exact ⟨g0, g1⟩
      refine rg_take (v := ?_) 0 rfl (by kernel_rfl) (by kernel_rfl) (by kernel_rfl) (fun _ _ _ h => h) (by kernel_rfl) ?_ (by assumption) ?_
      rotate_left
      · (intro w' hSw; (try dsimp only at hSw); go_simp; first | done | with_reducible rfl)
      simp only [Act.put, List.setIfInBounds_toArray, List.set_cons_zero, List.set_cons_succ]
      refine rg_take (v := ?_) 1 rfl (by kernel_rfl) (by kernel_rfl) (by kernel_rfl) (fun _ _ _ h => h) (by kernel_rfl) ?_ (by assumption) ?_
      rotate_left
      · (intro w' hSw; (try dsimp only at hSw); go_simp; first | done | with_reducible rfl)
      simp only [Act.put, List.setIfInBounds_toArray, List.set_cons_zero, List.set_cons_succ]
      refine rg_take (v := ?_) 2 rfl (by kernel_rfl) (by kernel_rfl) (by kernel_rfl) (fun _ _ _ h => h) (by kernel_rfl) ?_ (by assumption) ?_
      rotate_left
      · (intro w' hSw; (try dsimp only at hSw); go_simp; first | done | with_reducible rfl)
      simp only [Act.put, List.setIfInBounds_toArray, List.set_cons_zero, List.set_cons_succ]
      refine rg_take (v := ?_) 3 rfl (by kernel_rfl) (by kernel_rfl) (by kernel_rfl) (fun _ _ _ h => h) (by kernel_rfl) ?_ (by assumption) ?_
      rotate_left
      · (intro w' hSw; (try dsimp only at hSw); go_simp; first | done | with_reducible rfl)
      simp only [Act.put, List.setIfInBounds_toArray, List.set_cons_zero, List.set_cons_succ]
      refine rg_take (v := ?_) 4 rfl (by kernel_rfl) (by kernel_rfl) (by kernel_rfl) (fun _ _ _ h => h) (by kernel_rfl) ?_ (by assumption) ?_
      rotate_left
      · (intro w' hSw; (try dsimp only at hSw); go_simp; first | done | with_reducible rfl)
      simp only [Act.put, List.setIfInBounds_toArray, List.set_cons_zero, List.set_cons_succ]
      refine rg_take (v := ?_) 5 rfl (by kernel_rfl) (by kernel_rfl) (by kernel_rfl) (fun _ _ _ h => h) (by kernel_rfl) ?_ (by assumption) ?_
      rotate_left
      · (intro w' hSw; (try dsimp only at hSw); go_simp; first | done | with_reducible rfl)
      simp only [Act.put, List.setIfInBounds_toArray, List.set_cons_zero, List.set_cons_succ]
      refine rg_take (v := ?_) 6 rfl (by kernel_rfl) (by kernel_rfl) (by kernel_rfl) (fun _ _ _ h => h) (by kernel_rfl) ?_ (by assumption) ?_
      rotate_left
      · (intro w' hSw; (try dsimp only at hSw); go_simp; first | done | with_reducible rfl)
      simp only [Act.put, List.setIfInBounds_toArray, List.set_cons_zero, List.set_cons_succ]
      refine rg_take (v := ?_) 7 rfl (by kernel_rfl) (by kernel_rfl) (by kernel_rfl) (fun _ _ _ h => h) (by kernel_rfl) ?_ (by assumption) ?_
      rotate_left
      · (intro w' hSw; (try dsimp only at hSw); go_simp; first | done | with_reducible rfl)
      simp only [Act.put, List.setIfInBounds_toArray, List.set_cons_zero, List.set_cons_succ]
      refine rg_take (v := ?_) 8 rfl (by kernel_rfl) (by kernel_rfl) (by kernel_rfl) (fun _ _ _ h => h) (by kernel_rfl) ?_ (by assumption) ?_
      rotate_left
      · (intro w' hSw; (try dsimp only at hSw); go_simp; first | done | with_reducible rfl)
      simp only [Act.put, List.setIfInBounds_toArray, List.set_cons_zero, List.set_cons_succ]
      refine wpAnyH_done (by kernel_rfl) ?_ _
      clear hHeld
      go_wp2_with (fail)
      go_roundw
      case rel => exact ⟨k + 1, by omega, by go_num, Lib.hid hb.out.drew⟩
      case measure => simp [intOf]; omega
    · obtain rfl : k = n := by omega
      go_wp2_with (fail)
      go_ret
      exact ⟨rfl, hb.out⟩
/-- The strings' lengths. -/
def StOk (l : List ByteArray) : Prop := l.length ≤ 1048576 ∧ ∀ s ∈ l, s.size ≤ 1048576
set_option maxRecDepth 100000 in
theorem c_szStringS (A : Option Addr) (c n : Nat) (l : List ByteArray) (left : Int) (w : World) (hn : n = l.length) (hm : n ≤ 9223372036854775807) (hs : ∀ t ∈ l, t.size ≤ 9223372036854775807) (h0 : 0 ≤ left) (h1 : left ≤ 1048576) (hr : Rd w A (sts l)) :
    Calls Tryz.prog 24 #[.slice A n c, .int .i64 left] w (Left left (StOk l) w) := by
  have HN := Lib.hid hn
  clear hn
  have hw1 : IntKind.i64.wrap (left - (n : Int)) = left - n := IntWalk.i64_in _ (by omega)
  by_cases c0 : left - (n : Int) < 0
  · skip
    go_enter Tryz.func24, Tryz.ntmps24
    go_wp2
    go_ret
    exact ⟨-1, rfl, .inl rfl, by (repeat (first | exact Below.refl _ _ | assumption | refine below_alloc ?_ _ | refine below_drewN ?_ _ | refine below_set ?_ _ (by simp; try omega) | refine Below.drew ?_))⟩
  go_enter Tryz.func24, Tryz.ntmps24
  go_wp2
  go_loopw [1, 5] (fun t i wr => ∃ k : Nat, ∃ v : Int, k ≤ n ∧ i = .int .i64 k ∧ t = .int .i64 v ∧ 0 ≤ v ∧ v ≤ left ∧ Hid (∀ r ∈ l.take k, r.size ≤ 1048576) ∧ Hid (Below w.heap.size w wr)) (fun _ i _ => n - (intOf i).toNat)
  case atStart => exact ⟨0, _, Nat.zero_le _, rfl, rfl, by omega, by omega, Lib.hid (by simp), Lib.hid (by (repeat (first | exact Below.refl _ _ | assumption | refine below_alloc ?_ _ | refine below_drewN ?_ _ | refine below_set ?_ _ (by simp; try omega) | refine Below.drew ?_)))⟩
  case round =>
    obtain ⟨k, v, hk, rfl, rfl, hv0, hv1, ha, hb⟩ := hrel
    by_cases hlt : k < n
    · obtain ⟨r, hz⟩ : ∃ z, l[k]? = some z := ⟨_, List.getElem?_eq_getElem (by have := HN.out; omega)⟩
      obtain ⟨b, off, rfl, _, g0⟩ := (hr.below hb.out).st hz
      have hok := hs r (List.mem_of_getElem? hz)
      have HZ := Lib.hid hz
      have hw2 : IntKind.i64.wrap (v - (r.size : Int)) = v - r.size := IntWalk.i64_in _ (by omega)
      have hk0 : (0 : Int) ≤ (k : Int) := by omega
      have hk1 : (k : Int) < n := by omega
      clear hz hr hs
      by_cases c1 : v - (r.size : Int) < 0
      · go_wp2_with (fail)
        go_ret
        exact ⟨-1, rfl, .inl rfl, hb.out⟩
      · go_wp2_with (fail)
        go_roundw
        case rel =>
          refine ⟨k + 1, v - r.size, by omega, by go_num, rfl, by omega, by omega, ?_, hb⟩
          refine Lib.hid ?_
          intro r' hr'
          rw [List.take_add_one, HZ.out, List.mem_append] at hr'
          rcases hr' with hr' | hr'
          · exact ha.out r' hr'
          · simp at hr'
            subst hr'
            omega
        case measure => simp [intOf]; omega
    · obtain rfl : k = n := by omega
      have HA := Lib.hid ha
      clear ha
      go_wp2_with (fail)
      go_ret
      refine ⟨v, rfl, .inr ⟨hv0, hv1, by have := HN.out; omega, ?_⟩, hb.out⟩
      have := HA.out.out
      rwa [List.take_of_length_le (by have := HN.out; omega)] at this
end Go.Proofs.YtackekfjalaacaaGreatDoor
