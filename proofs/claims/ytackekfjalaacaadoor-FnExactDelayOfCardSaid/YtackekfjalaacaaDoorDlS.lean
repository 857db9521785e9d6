/- The reference's side of delays: l14Line, l14Uses, l19Scans. Condition: the lengths. -/
import Derived.Test.YtackekfjalaacaaDoorDlQ
import Derived.Test.YtackekfjalaacaaDoorRgH
namespace Go.Proofs.YtackekfjalaacaaDoor
open Go.RowKit

set_option maxHeartbeats 1000000 in
set_option maxRecDepth 100000 in
theorem c_l14Line (p : Prg) (a1 a2 a3 a4 : Option Addr) (c1 c2 c3 c4 : Nat) (s : ByteArray) (w : World) (hs : p.ls.length ≤ 1048576) (h : PgR w a1 a2 a3 a4 p) :
    Calls Tryd.prog 23 #[pv p a1 a2 a3 a4 c1 c2 c3 c4, .string s] w fun e w' => e = .returned (.int .i64 (ixS (tgs p) s)) ∧ Below w.heap.size w w' := by
  have H := Lib.hid h
  have B0 := Lib.hid (below_alloc (Below.refl w.heap.size w) (.cells #[.string p.nm, .slice a1 p.ins.length c1, .slice a2 p.vs.length c2, .slice a3 p.os.length c3, .string p.gd, .slice a4 p.ls.length c4] 31))
  have HP : Hid (PB (w.alloc (.cells #[.string p.nm, .slice a1 p.ins.length c1, .slice a2 p.vs.length c2, .slice a3 p.os.length c3, .string p.gd, .slice a4 p.ls.length c4] 31)) w.heap.size p a1 a2 a3 a4 c1 c2 c3 c4) := Lib.hid ⟨by go_simp, by go_simp, by go_simp, by go_simp, by go_simp, by go_simp⟩
  have HTL : Hid ((tgs p).length = p.ls.length) := Lib.hid (by unfold tgs; simp)
  clear h
  go_enter Tryd.func23, Tryd.ntmps23
  dsimp only [pv]
  go_upto_region 1 with (fail)
  generalize w.alloc (.cells #[.string p.nm, .slice a1 p.ins.length c1, .slice a2 p.vs.length c2, .slice a3 p.os.length c3, .string p.gd, .slice a4 p.ls.length c4] 31) = W at *
  go_wp2_with (fail)
  go_loopw [5] (fun i wr => ∃ k : Nat, k ≤ p.ls.length ∧ i = .int .i64 k ∧ Hid (¬ s ∈ (tgs p).take k) ∧ Hid (Below W.heap.size W wr)) (fun i _ => p.ls.length - (intOf i).toNat)
  case atStart => exact ⟨0, Nat.zero_le _, rfl, Lib.hid (by simp), Lib.hid (Below.refl _ _)⟩
  case round =>
    obtain ⟨k, hk, rfl, hno, hb⟩ := hrel
    obtain ⟨k0, k1, k2, k3, k4, k5⟩ := HP.out.below hb.out
    by_cases hlt : k < p.ls.length
    · obtain ⟨⟨tg, ts⟩, hz⟩ : ∃ z, p.ls[k]? = some z := ⟨_, List.getElem?_eq_getElem hlt⟩
      obtain ⟨b, off, la, lc, rfl, _, g0, g1, _⟩ := (H.out.l.below (below_chain B0.out hb.out)).at hz
      dsimp only at g0 g1
      have HZT := Lib.hid (show (tgs p)[k]? = some tg by unfold tgs; rw [List.getElem?_map, hz]; rfl)
      have hk0 : (0 : Int) ≤ (k : Int) := by omega
      have hk1 : (k : Int) < p.ls.length := by omega
      clear hz
      by_cases e : tg = s
      · subst e
        have HR := Lib.hid (ixS_at HZT.out hno.out)
        have heq : (tg.toList == tg.toList) = true := by simp
        go_wp2_with (fail)
        go_ret
        exact ⟨by rw [HR.out]; rfl, below_chain B0.out hb.out⟩
      · have HNO := Lib.hid (no_snoc HZT.out hno.out e)
        have heq : (tg.toList == s.toList) = false := by rw [beq_str]; exact decide_eq_false e
        clear e
        go_wp2_with (fail)
        go_roundw
        case rel => exact ⟨k + 1, by omega, by go_num, HNO, hb⟩
        case measure => simp [intOf]; omega
    · obtain rfl : k = p.ls.length := by omega
      have HR := Lib.hid (ixS_no hno.out (by have := HTL.out; omega))
      go_wp2_with (fail)
      go_ret
      exact ⟨by rw [HR.out]; rfl, below_chain B0.out hb.out⟩
theorem any_hitT {s : ByteArray} {ts : List Tm} {k : Nat} {t : Tm} {tg : ByteArray} (hz : ts[k]? = some t) (h1 : t.k = 1) (h2 : t.nm = s) : usB s ⟨tg, ts⟩ = true :=
  List.any_eq_true.2 ⟨t, List.mem_of_getElem? hz, by simp [h1, h2]⟩
set_option maxHeartbeats 1000000 in
set_option maxRecDepth 100000 in
theorem c_l14Uses (tg : ByteArray) (ts : List Tm) (A : Option Addr) (c n : Nat) (s : ByteArray) (w : World) (hn : n = ts.length) (hs : n ≤ 1048576) (hr : Rd w A (tmCells ts)) :
    Calls Tryd.prog 37 #[.slice A n c, .string s] w fun e w' => e = .returned (.bool (usB s ⟨tg, ts⟩)) ∧ Below w.heap.size w w' := by
  have HN := Lib.hid hn
  clear hn
  have HYES := Lib.hid (fun (k : Nat) (t : Tm) (hz : ts[k]? = some t) h1 h2 => any_hitT (s := s) (tg := tg) hz h1 h2)
  have HNO : Hid ((∀ t ∈ ts.take n, ¬ (t.k = 1 ∧ t.nm = s)) → usB s ⟨tg, ts⟩ = false) := Lib.hid (fun h => by
    rw [List.take_of_length_le (by have := HN.out; omega)] at h
    unfold usB
    rw [List.any_eq_false]
    intro t ht e
    simp only [Bool.and_eq_true, beq_iff_eq, decide_eq_true_eq] at e
    exact h t ht e)
  generalize usB s ⟨tg, ts⟩ = R at *
  go_enter Tryd.func37, Tryd.ntmps37
  go_wp2_with (fail)
  go_loopw [5] (fun i wr => ∃ k : Nat, k ≤ n ∧ i = .int .i64 k ∧ Hid (∀ t ∈ ts.take k, ¬ (t.k = 1 ∧ t.nm = s)) ∧ Hid (Below w.heap.size w wr)) (fun i _ => n - (intOf i).toNat)
  case atStart => exact ⟨0, Nat.zero_le _, rfl, Lib.hid (by simp), Lib.hid (by (repeat (first | exact Below.refl _ _ | assumption | refine below_alloc ?_ _ | refine below_drewN ?_ _ | refine below_set ?_ _ (by simp; try omega) | refine Below.drew ?_)))⟩
  case round =>
    obtain ⟨k, hk, rfl, hno, hb⟩ := hrel
    by_cases hlt : k < n
    · obtain ⟨⟨tk, tm, tx⟩, hz⟩ : ∃ z, ts[k]? = some z := ⟨_, List.getElem?_eq_getElem (by have := HN.out; omega)⟩
      obtain ⟨b, off, rfl, _, g0, g1, g2⟩ := (hr.below hb.out).tm hz
      dsimp only at g0 g1 g2
      have hk0 : (0 : Int) ≤ (k : Int) := by omega
      have hk1 : (k : Int) < n := by omega
      have HST : Hid (¬ (tk = 1 ∧ tm = s) → ∀ t ∈ ts.take (k + 1), ¬ (t.k = 1 ∧ t.nm = s)) := Lib.hid (fun h t ht => by
        rw [List.take_add_one, hz, List.mem_append] at ht
        rcases ht with ht | ht
        · exact hno.out t ht
        · simp at ht
          subst ht
          exact h)
      have HY := Lib.hid (HYES.out k _ hz)
      clear hz hr
      by_cases e1 : tk = 1
      · subst e1
        by_cases e : tm = s
        · subst e
          have HR := Lib.hid (HY.out rfl rfl)
          have heq : (tm.toList == tm.toList) = true := by simp
          go_wp2_with (fail)
          go_ret
          exact ⟨by rw [HR.out]; rfl, hb.out⟩
        · have HNX := Lib.hid (HST.out (fun h => e h.2))
          have heq : (tm.toList == s.toList) = false := by rw [beq_str]; exact decide_eq_false e
          clear e
          go_wp2_with (fail)
          go_roundw
          case rel => exact ⟨k + 1, by omega, by go_num, HNX, hb⟩
          case measure => simp [intOf]; omega
      · have HNX := Lib.hid (HST.out (fun h => e1 h.1))
        have e2 : (tk == 1) = false := by simpa using e1
        clear e1
        go_wp2_with (fail)
        go_roundw
        case rel => exact ⟨k + 1, by omega, by go_num, HNX, hb⟩
        case measure => simp [intOf]; omega
    · obtain rfl : k = n := by omega
      have HR := Lib.hid (HNO.out hno.out)
      go_wp2_with (fail)
      go_ret
      exact ⟨by rw [HR.out]; rfl, hb.out⟩
theorem made_intQ (n : Nat) : (madeCells (Value.int .i64 0).cells (n * 1)).toList = ints (List.replicate n 0) := by
  rw [Nat.mul_one]
  show (madeCells #[Value.int .i64 0] n).toList = _
  rw [toList_madeCells_one]
  simp [ints]
/-- The numbers stay small. -/
theorem bst_le {p : Prg} {inp : ByteArray} {S : List Int} {i : Nat} {l : Lin} {M : Int} (h0 : 0 ≤ M) (hS : ∀ k, S.getD k 0 ≤ M) : ∀ k, bstK p inp S i l k ≤ M + 1
  | 0 => by unfold bstK; split <;> omega
  | k + 1 => by
    have ih := bst_le (p := p) (inp := inp) (i := i) (l := l) h0 hS k
    have h1 := hS k
    have := wI_bd i k
    unfold bstK bstS
    repeat' split
    all_goals omega
theorem getD_set {S : List Int} {i k : Nat} {z M : Int} (h : ∀ k, S.getD k 0 ≤ M) (hz : z ≤ M) : (S.set i z).getD k 0 ≤ M := by
  rw [List.getD_eq_getElem?_getD, List.getElem?_set]
  split
  · split
    · exact hz
    · have := h k
      rename_i e hlt
      rw [List.getD_eq_getElem?_getD, List.getElem?_eq_none (by omega)] at this
      exact this
  · have := h k
    rwa [List.getD_eq_getElem?_getD] at this
theorem row_le {p : Prg} {inp : ByteArray} {S : List Int} {M : Int} (h0 : 0 ≤ M) (hS : ∀ k, S.getD k 0 ≤ M) : ∀ (i k : Nat), (rowK p inp S i).getD k 0 ≤ M + i
  | 0, k => by have := hS k; show S.getD k 0 ≤ _; omega
  | i + 1, k => by
    have ih := row_le (p := p) (inp := inp) h0 hS i
    unfold rowK
    split
    · refine getD_set (fun k => ?_) ?_
      · have := ih k; omega
      · have := bst_le (p := p) (inp := inp) (i := i) (l := ‹Lin›) (M := M + i) (by omega) ih p.ls.length
        omega
    · have := ih k; omega
theorem scn_le (p : Prg) (inp : ByteArray) : ∀ (r k : Nat), (scnR p inp r).getD k 0 ≤ (r : Int) * p.ls.length
  | 0, k => by
    show (List.replicate p.ls.length (0 : Int)).getD k 0 ≤ _
    rw [List.getD_eq_getElem?_getD]
    cases e : (List.replicate p.ls.length (0 : Int))[k]? with
    | none => simp
    | some z =>
      have := (List.mem_replicate.1 (List.mem_of_getElem? e)).2
      subst this
      simp
  | r + 1, k => by
    have h := row_le (p := p) (inp := inp) (M := (r : Int) * p.ls.length) (Int.mul_nonneg (by omega) (by omega)) (scn_le p inp r) p.ls.length k
    show (rowK p inp (scnR p inp r) p.ls.length).getD k 0 ≤ _
    refine Int.le_trans h ?_
    rw [Int.natCast_add, Int.add_mul]
    omega
end Go.Proofs.YtackekfjalaacaaDoor
