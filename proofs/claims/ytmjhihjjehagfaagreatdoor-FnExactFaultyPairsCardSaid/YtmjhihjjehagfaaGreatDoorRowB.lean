/- Contracts of the laws' own copies, sizes and comparisons of rows of small structs (printed by rows.py). No condition but the lists' sizes. -/
import Derived.Test.YtmjhihjjehagfaaGreatDoorPBm
namespace Go.Proofs.YtmjhihjjehagfaaGreatDoor
open Go.RowKit

structure Bs where
  ba : Int
  bb : Int
  bc : Int
def Bs.val (s : Bs) : Value := .agg #[.int .i64 s.ba, .int .i64 s.bb, .int .i64 s.bc]
def Bs.cells (s : Bs) : List Value := [.int .i64 s.ba, .int .i64 s.bb, .int .i64 s.bc]
def bsCells (l : List Bs) : List Value := l.flatMap Bs.cells
theorem bsCells_length (l : List Bs) : (bsCells l).length = l.length * 3 := by
  induction l with
  | nil => rfl
  | cons s t ih => simp only [bsCells, List.flatMap_cons, List.length_append, List.length_cons] at ih ⊢; rw [ih]; simp [Bs.cells]; omega
theorem bsCells_get {s : Bs} {i : Nat} (hi : i < 3) : ∀ {l : List Bs} {k : Nat}, l[k]? = some s → (bsCells l)[k * 3 + i]? = s.cells[i]?
  | [], k, h => by simp at h
  | t :: l, 0, h => by
    simp only [List.getElem?_cons_zero, Option.some.injEq] at h
    subst h
    simp only [bsCells, List.flatMap_cons, Nat.zero_mul, Nat.zero_add]
    rw [List.getElem?_append_left (by simp [Bs.cells]; omega)]
  | t :: l, k + 1, h => by
    simp only [List.getElem?_cons_succ] at h
    have := bsCells_get hi h
    simp only [bsCells, List.flatMap_cons] at this ⊢
    rw [List.getElem?_append_right (by simp [Bs.cells]; omega), ← this]
    congr 1
    simp [Bs.cells]; omega
theorem bsCells_at {s : Bs} {l : List Bs} {k : Nat} (h : l[k]? = some s) : (bsCells l)[k * 3]? = some (.int .i64 s.ba) ∧ (bsCells l)[k * 3 + 1]? = some (.int .i64 s.bb) ∧ (bsCells l)[k * 3 + 2]? = some (.int .i64 s.bc) :=
  ⟨bsCells_get (i := 0) (by omega) h, bsCells_get (i := 1) (by omega) h, bsCells_get (i := 2) (by omega) h⟩
theorem Rd.bs {w : World} {A : Option Addr} {l : List Bs} {k : Nat} {s : Bs} (h : Rd w A (bsCells l)) (hk : l[k]? = some s) : ∃ b off, A = some ⟨b, off, none⟩ ∧ b < w.heap.size ∧ w.cell? ⟨b, off + k * 3, none⟩ = some (.int .i64 s.ba) ∧ w.cell? ⟨b, off + k * 3 + 1, none⟩ = some (.int .i64 s.bb) ∧ w.cell? ⟨b, off + k * 3 + 2, none⟩ = some (.int .i64 s.bc) := by
  obtain ⟨u0, u1, u2⟩ := bsCells_at hk
  obtain ⟨b, off, rfl, hb, hc⟩ := h.some_ (by intro e; rw [e] at u0; simp at u0)
  exact ⟨b, off, rfl, hb, hc _ _ u0, hc _ _ u1, hc _ _ u2⟩
theorem info_iBlockState : (Tryz.prog.info? 81).map (fun i => (i.zero, i.size, i.bytes)) = some (some (.agg #[.int .i64 0, .int .i64 0, .int .i64 0]), 3, 24) := by kernel_rfl
theorem mix_bs {L Z : List Value} {m : Nat} {u0 u1 u2 : Value} (hl : L.length = Z.length) (h0 : L[m]? = some u0) (h1 : L[m + 1]? = some u1) (h2 : L[m + 2]? = some u2) : ((((mix L Z m).set m u0).set (m + 1) u1).set (m + 2) u2) = mix L Z (m + 3) := by
  rw [mix_set hl h0]
  rw [mix_set hl h1]
  rw [mix_set hl h2]
theorem c_toBlockState (ba : Int) (bb : Int) (bc : Int) (w : World) : Calls Tryz.prog 63 #[.agg #[.int .i64 ba, .int .i64 bb, .int .i64 bc]] w fun e w' => e = .returned (.agg #[.int .i64 ba, .int .i64 bb, .int .i64 bc]) ∧ Below w.heap.size w w' := by
  go_enter Tryz.func63, Tryz.ntmps63
  go_wp2
  refine bodyPost_ret (v := .agg #[.int .i64 ba, .int .i64 bb, .int .i64 bc]) (by simp [results, Tryz.results63, go_sem]) rfl ⟨rfl, by (repeat (first | exact Below.refl _ _ | assumption | refine below_alloc ?_ _ | refine below_drewN ?_ _ | refine below_set ?_ _ (by simp; try omega) | refine Below.drew ?_))⟩
/-- What is handed back is a new list of the call's own that holds l. -/
def RetBs (l : List Bs) (w : World) (e : Ending) (w' : World) : Prop :=
  ∃ A c, e = .returned (.slice A l.length c) ∧ w'.ownsRow w.heap.size 81 3 (.slice A l.length c) l.length (bsCells l) ∧ Below w.heap.size w w'
set_option maxRecDepth 100000 in
theorem c_toBlockStateS (A : Option Addr) (c n : Nat) (l : List Bs) (w : World) (hn : n = l.length) (hs : n ≤ 1048576) (hr : Rd w A (bsCells l)) :
    Calls Tryz.prog 40 #[.slice A n c] w (RetBs l w) := by
  obtain ⟨i0, hi, hz0, hz1, hz2⟩ := info_parts info_iBlockState
  have HN := Lib.hid hn
  have HZ : (bsCells l).length = n * 3 := by rw [bsCells_length, hn]
  clear hn
  go_enter Tryz.func40, Tryz.ntmps40
  go_wp2_with (first
    | (at_make
       refine wpList_make_full _ rfl (.tmp 6) (.tmp 6) _ rfl w.heap.size 81 i0 _ 3 Tryz.underlying44 hi hz0 hz1 .i64 .i64 _ _ n rfl rfl rfl rfl (by rw [hz2]; omega) (by unfold maxLen; omega) (Nat.le_refl _) ?_
       intro w1 hown hgrow)
    )
  have hb1 : Below w.heap.size w w1 := below_of_grown (Below.refl _ _) hgrow (by simp)
  have hZ : (madeCells (Value.agg #[.int .i64 0, .int .i64 0, .int .i64 0]).cells (n * 3)).toList.length = n * 3 := by simp [size_madeCells]
  generalize (madeCells (Value.agg #[.int .i64 0, .int .i64 0, .int .i64 0]).cells (n * 3)).toList = Z at hown hZ
  have hLZ := Lib.hid (HZ.trans hZ.symm)
  have HZZ := Lib.hid HZ
  clear hZ HZ hgrow
  go_loopw [4] (fun i wr => ∃ k : Nat, k ≤ n ∧ i = .int .i64 k ∧ wr.ownsRow w.heap.size 81 3 (.slice (some ⟨w.heap.size, 0, none⟩) n n) n (mix (bsCells l) Z (k * 3)) ∧ Below w.heap.size w wr) (fun i _ => n - (intOf i).toNat)
  case atStart => exact ⟨0, Nat.zero_le _, rfl, by rw [Nat.zero_mul, mix_zero]; exact hown, hb1⟩
  case round =>
    obtain ⟨k, hk, rfl, ho, hb⟩ := hrel
    clear hown hb1
    by_cases hlt : k < n
    · obtain ⟨s, hs0⟩ : ∃ s, l[k]? = some s := ⟨_, List.getElem?_eq_getElem (by have := HN.out; omega)⟩
      obtain ⟨u0, u1, u2⟩ := bsCells_at hs0
      have HM := Lib.hid (mix_bs hLZ.out u0 u1 u2)
      clear u0 u1 u2
      obtain ⟨b, off, rfl, _, g0, g1, g2⟩ := (hr.below hb).bs hs0
      have HO := Lib.hid ho
      have HB := Lib.hid hb
      clear hs0 ho hb hr
      go_wp2_with (first
        | (go_at_call 63
           refine (c_toBlockState _ _ _ _).mono ?_
           rintro e w2 ⟨rfl, hb2⟩
           have ho1 := own_below HO.out hb2
           have f0 := ho1.frozenAt (k * 3)
           obtain ⟨o0, e0⟩ := own_cell ho1 (j := k * 3) (by omega)
           have f1 := ho1.frozenAt (k * 3 + 1)
           obtain ⟨o1, e1⟩ := own_cell ho1 (j := k * 3 + 1) (by omega)
           have f2 := ho1.frozenAt (k * 3 + 2)
           obtain ⟨o2, e2⟩ := own_cell ho1 (j := k * 3 + 2) (by omega)
           have HST := Lib.hid (((ho1.stored (k * 3) (.int .i64 s.ba)).1.stored (k * 3 + 1) (.int .i64 s.bb)).1.stored (k * 3 + 2) (.int .i64 s.bc)).1
           have HB2 := Lib.hid (below_chain HB.out hb2)
           clear ho1 hb2 g0 g1 g2)
        )
      go_roundw
      case rel =>
        refine ⟨k + 1, by omega, by go_num, ?_, ?_⟩
        · rw [show (k + 1) * 3 = k * 3 + 3 from by omega, ← HM.out]
          exact HST.out
        · exact below_set (below_set (below_set HB2.out _ (Nat.le_refl _)) _ (Nat.le_refl _)) _ (Nat.le_refl _)
      case measure => simp [intOf]; omega
    · have : k = n := by omega
      subst this
      go_wp2
      go_ret
      have e := HN.out
      rw [mix_all (by rw [HZZ.out]; exact Nat.le_refl _) (by rw [← hLZ.out, HZZ.out]; exact Nat.le_refl _)] at ho
      subst e
      exact ⟨_, _, rfl, ho, hb⟩
set_option maxRecDepth 100000 in
theorem c_eqBlockState (ba : Int) (bb : Int) (bc : Int) (w : World) : Calls Tryz.prog 68 #[.agg #[.int .i64 ba, .int .i64 bb, .int .i64 bc], .agg #[.int .i64 ba, .int .i64 bb, .int .i64 bc]] w fun e w' => e = .returned (.bool true) ∧ Below w.heap.size w w' := by
  go_enter Tryz.func68, Tryz.ntmps68
  go_wp2
  all_goals go_ret
  all_goals (refine ⟨rfl, by (repeat (first | exact Below.refl _ _ | assumption | refine below_alloc ?_ _ | refine below_drewN ?_ _ | refine below_set ?_ _ (by simp; try omega) | refine Below.drew ?_))⟩)
set_option maxRecDepth 100000 in
theorem c_eqBlockStateS (A A' : Option Addr) (c c' n n' : Nat) (l : List Bs) (w : World) (hn : n = l.length) (hn' : n' = l.length) (hs : l.length ≤ 1048576) (hr : Rd w A (bsCells l)) (hr' : Rd w A' (bsCells l)) :
    Calls Tryz.prog 42 #[.slice A n c, .slice A' n' c'] w fun e w' => e = .returned (.bool true) ∧ Below w.heap.size w w' := by
  subst hn
  subst hn'
  go_enter Tryz.func42, Tryz.ntmps42
  go_wp2
  go_loopw [5] (fun i wr => ∃ k : Nat, k ≤ l.length ∧ i = .int .i64 k ∧ Below w.heap.size w wr) (fun i _ => l.length - (intOf i).toNat)
  case atStart => exact ⟨0, Nat.zero_le _, rfl, Below.refl _ _⟩
  case round =>
    obtain ⟨k, hk, rfl, hb⟩ := hrel
    by_cases hlt : k < l.length
    · obtain ⟨s, hz⟩ : ∃ z, l[k]? = some z := ⟨_, List.getElem?_eq_getElem hlt⟩
      obtain ⟨b, off, rfl, _, g0, g1, g2⟩ := (hr.below hb).bs hz
      obtain ⟨b', off', rfl, _, e0, e1, e2⟩ := (hr'.below hb).bs hz
      have HB := Lib.hid hb
      clear hz hb hr hr'
      go_wp2
      go_still_tail 8, (by kernel_rfl)
      change wpList _ _ _ _ _ wr.drew
      have HB2 := Lib.hid (below_drewN HB.out 1)
      go_wp2_with (first
        | (go_at_call 68
           refine (c_eqBlockState _ _ _ _).mono ?_
           rintro e w2 ⟨rfl, hb2⟩
           have HB3 := Lib.hid (below_chain HB.out.drew hb2)
           clear hb2)
        )
      go_roundw
      case rel => exact ⟨k + 1, by omega, by go_num, HB3.out⟩
      case measure => simp [intOf]; omega
    · have : k = l.length := by omega
      subst this
      go_wp2
      go_ret
      exact ⟨rfl, hb⟩
theorem c_szBlockStateS (A : Option Addr) (c n : Nat) (left : Int) (w : World) (hn : n ≤ 9223372036854775807) (h0 : 0 ≤ left) (h1 : left ≤ 1048576) :
    Calls Tryz.prog 36 #[.slice A n c, .int .i64 left] w fun e w' => e = .returned (.int .i64 (szI left n)) ∧ w = w' := by
  go_enter Tryz.func36, Tryz.ntmps36
  go_wp2
  all_goals go_ret
  all_goals (refine ⟨?_, rfl⟩; simp [szI]; try omega)
end Go.Proofs.YtmjhihjjehagfaaGreatDoor
