/- slices.Grow from nothing, slices.Concat of lists of strings. Condition: the lists' sizes. -/
import Derived.Test.YteengjcplmjakaaGreatDoorPEx
import Derived.Lib.AppendZerosOnto
import Derived.Lib.SliceRun
import Derived.Laws.AppendOwnNone
namespace Go.Proofs.YteengjcplmjakaaGreatDoor
open Go.RowKit

set_option maxHeartbeats 2000000 in
set_option maxRecDepth 100000 in
theorem c_Grow0 (n : Nat) (w : World) (hn : n ≤ 4000000) : Calls Tryz.prog 129 #[.slice none 0 0, .int .i64 (n : Int)] w fun e w' => ∃ v, e = .returned v ∧ w'.ownsRow w.heap.size 9 1 v 0 [] ∧ Below w.heap.size w w' := by
  obtain ⟨i0, hi, hz0, hz1, hz2⟩ := info_parts info_string
  have h1 : ¬ ((n : Int) < 0) := by omega
  have h3 : IntKind.i64.wrap ((n : Int) - 0) = n := by rw [Int.sub_zero]; exact IntWalk.i64_in _ (by omega)
  by_cases h0 : n = 0
  · subst h0
    go_enter Tryz.func129, Tryz.ntmps129
    go_wp2_with (fail)
    go_ret
    exact ⟨_, rfl, World.ownsRow_nil _ _ _ _, Below.refl _ _⟩
  have hpos : (0 : Int) < (n : Int) := by omega
  have hrz : ∀ ty, (Builtin.append_ #[24, 3] ty #[.slice none 0 0, .int .i64 (n : Int)]).run Tryz.prog w = .ok (.slice (some ⟨w.heap.size, 0, none⟩) n (grownCap w n 0 9)) (w.drew.alloc (.cells (([] : List Value).toArray ++ Builtin.zeroCells (Value.string ⟨#[]⟩).cells n ++ Builtin.zeroCells (Value.string ⟨#[]⟩).cells (grownCap w n 0 9 - n)) 9)) := fun ty => by
    have h := Lib.run_append_grow_zeros w 24 3 ty 9 i0 (.string ⟨#[]⟩) .i64 .i64 Tryz.underlying24 Tryz.underlying3 hi hz0 none 0 0 [] (run_firstCells_none w.drew i0.size 0 0 0) n (by omega) (by rw [hz1]; decide) (by omega) (by omega)
      (by rw [hz2]; omega)
      (growslice_fits (by omega) (by rw [hz2]; omega))
    rw [Nat.zero_add] at h
    exact h
  have hGn : n ≤ grownCap w n 0 9   := grownCap_ge w _ _ _
  have hGm : grownCap w n 0 9 ≤ maxLen := grownCap_le_maxLen w n 0 9 (by unfold maxLen; omega)
  generalize grownCap w n 0 9 = G at *
  have hsz : (([] : List Value).toArray ++ Builtin.zeroCells (Value.string ⟨#[]⟩).cells n ++ Builtin.zeroCells (Value.string ⟨#[]⟩).cells (G - n)).size = G * 1 := by
    have h1 : (Value.string ⟨#[]⟩).cells.size = 1 := rfl
    rw [Array.size_append, Array.size_append, size_zeroCells, size_zeroCells, h1]
    simp
    omega
  generalize ([] : List Value).toArray ++ Builtin.zeroCells (Value.string ⟨#[]⟩).cells n ++ Builtin.zeroCells (Value.string ⟨#[]⟩).cells (G - n) = CS at *
  have hG63 : (G : Int) ≤ 9223372036854775807 := by unfold maxLen at hGm; omega
  clear hi hz0 hz1 hz2
  go_enter Tryz.func129, Tryz.ntmps129
  go_wp2_with (at_builtin; refine Lib.wpList_append_run _ rfl _ _ _ _ rfl _ _ rfl rfl _ _ (hrz _) ?_)
  go_ret
  exact ⟨_, rfl, World.ownsRow_made w.drew CS G (Nat.le_refl _) hGm hsz, by (repeat (first | exact Below.refl _ _ | assumption | refine below_alloc ?_ _ | refine below_drewN ?_ _ | refine below_set ?_ _ (by simp; try omega) | refine Below.drew ?_))⟩
theorem own_none {w : World} {base : Nat} {e : TypeId} {size n c : Nat} {A : Option Addr} {xs : List Value} (h : w.ownsRow base e size (.slice A n c) n xs) : A = none → c = 0 := by
  intro hA
  rcases h.2 with ⟨h1, _⟩ | ⟨g, cap, cur, h1, _⟩
  · simp only [Value.slice.injEq] at h1; exact h1.2.2
  · simp only [Value.slice.injEq] at h1; rw [hA] at h1; cases h1.1
/-- A list of strings as it lies in memory. -/
structure StD where
  l : List ByteArray
  a : Option Addr
  c : Nat
def StD.v (d : StD) : Value := .slice d.a d.l.length d.c
/-- Lists of strings, one behind the other. -/
def catS (ds : List StD) : List ByteArray := ds.flatMap StD.l
theorem cat_snoc {ds : List StD} {k : Nat} {d : StD} (h : ds[k]? = some d) : catS (ds.take (k + 1)) = catS (ds.take k) ++ d.l := by
  unfold catS
  rw [List.take_add_one, h, List.flatMap_append]
  simp
theorem cat_le {ds : List StD} (k : Nat) : (catS (ds.take k)).length ≤ (catS ds).length := by
  have e : ds = ds.take k ++ ds.drop k := (List.take_append_drop k ds).symm
  have h : catS ds = catS (ds.take k) ++ catS (ds.drop k) := by
    unfold catS
    rw [← List.flatMap_append, ← e]
  rw [h, List.length_append]
  omega
theorem app_strs (w : World) {ops : Array Oper} {rest : List Oper} {o : Oper} {a : Act} {Q : Exit → Act → World → Prop} (hgd : o.guard = none) (s x : Operand)
    (ho : o.op = .call { callee := .builtin .append, args := #[s, x], argTypes := #[24, 24] })
    (base : Nat) (v : Value) (n : Nat) (xs : List ByteArray) (hs : a.eval s = v) (hown : w.ownsRow base 9 1 v n (sts xs))
    (A : Option Addr) (m c : Nat) (ys : List ByteArray) (hx : a.eval x = .slice A m c) (hm : m = ys.length) (hr : Rd w A (sts ys)) (hz : A = none → c = 0) (hb : n + m ≤ 4000000) (hbase : base ≤ w.heap.size)
    (h : ∀ v' w', w'.ownsRow base 9 1 v' (n + m) (sts (xs ++ ys)) → w.grownBy w' v.ownBlock → wpList Tryz.prog ops Q rest (a.put o.dst v') w') : wpList Tryz.prog ops Q (o :: rest) a w := by
  obtain ⟨i0, hi, hz0, hz1, hz2⟩ := info_parts info_string
  have hcat : sts (xs ++ ys) = sts xs ++ sts ys := by simp [sts]
  rcases A with _ | ad
  · have hy : ys = [] := by
      rcases hr with h0 | ⟨b, off, e, _⟩
      · simpa [sts] using h0
      · cases e
    subst hy
    have hc := hz rfl
    subst hc
    subst hm
    refine wpList_append_own_none (w := w) hgd s x 24 ho base 9 i0 1 Tryz.underlying24 hi v n (sts xs) hs hown hx ?_
    exact h v w (by simpa using hown) (World.grownBy.refl _ _)
  · refine wpList_append_own (w := w) hgd s x 24 ho base 9 i0 (.string ⟨#[]⟩) 1 16 Tryz.underlying24 hi hz0 hz1 hz2 rfl (by decide) v n (sts xs) hs hown ad m c (sts ys) hx (by rw [sts_length, hm, Nat.mul_one]) ?_ ?_ (by unfold maxLen; omega) (by omega) hbase ?_
    · intro j u hu
      rcases hr with h0 | ⟨b, off, e, _, hc⟩
      · rw [h0] at hu; simp at hu
      · simp only [Option.some.injEq] at e
        subst e
        rw [Addr.add_lit]
        exact hc j u hu
    · intro u hu
      simp only [sts, List.mem_map] at hu
      obtain ⟨t, _, rfl⟩ := hu
      rfl
    · intro v' w' h1 h2 _
      exact h v' w' (by rw [hcat]; exact h1) h2
set_option maxHeartbeats 2000000 in
set_option maxRecDepth 100000 in
theorem c_Concat (g m c : Nat) (ds : List StD) (w : World) (hm : m = ds.length) (hm1 : m ≤ 100) (hg : ∀ (k : Nat) (d : StD), ds[k]? = some d → w.cell? ⟨g, k, none⟩ = some d.v) (hd : ∀ d ∈ ds, Rd w d.a (sts d.l) ∧ (d.a = none → d.c = 0)) (hN : (catS ds).length ≤ 4000000) :
    Calls Tryz.prog 80 #[.slice (some ⟨g, 0, none⟩) m c] w fun e w' => ∃ A cc, e = .returned (.slice A (catS ds).length cc) ∧ Rd w' A (sts (catS ds)) ∧ ((catS ds).length ≤ cc ∧ cc ≤ maxLen ∧ (A = none → cc = 0)) ∧ Below w.heap.size w w' := by
  have HM := Lib.hid hm
  have HG := Lib.hid hg
  have HD := Lib.hid hd
  have HCL := Lib.hid (fun k => cat_le (ds := ds) k)
  have HCS := Lib.hid (fun (k : Nat) (d : StD) (h : ds[k]? = some d) => cat_snoc h)
  clear hm hg hd
  go_enter Tryz.func80, Tryz.ntmps80
  go_wp2_with (fail)
  go_loopw [3, 5, 11] (fun u _ i wr => ∃ k : Nat, k ≤ m ∧ i = .int .i64 k ∧ u = .int .i64 ((catS (ds.take k)).length : Int) ∧ Hid (Below w.heap.size w wr)) (fun _ _ i _ => m - (intOf i).toNat)
  case atStart => exact ⟨0, Nat.zero_le _, rfl, rfl, Lib.hid (by (repeat (first | exact Below.refl _ _ | assumption | refine below_alloc ?_ _ | refine below_drewN ?_ _ | refine below_set ?_ _ (by simp; try omega) | refine Below.drew ?_)))⟩
  case round =>
    obtain ⟨k, hk, rfl, rfl, hb⟩ := hrel
    by_cases hlt : k < m
    · obtain ⟨d, hz⟩ : ∃ z, ds[k]? = some z := ⟨_, List.getElem?_eq_getElem (by have := HM.out; omega)⟩
      have g0 := cell_later hb.out (HG.out k d hz)
      have hcs := HCS.out k d hz
      have hcl := HCL.out k
      have hcl1 := HCL.out (k + 1)
      have hsum : ((catS (ds.take (k + 1))).length : Int) = (catS (ds.take k)).length + d.l.length := by rw [hcs, List.length_append]; omega
      have hk0 : (0 : Int) ≤ (k : Int) := by omega
      have hk1 : (k : Int) < m := by omega
      have hw1 : IntKind.i64.wrap (((catS (ds.take k)).length : Int) + d.l.length) = (catS (ds.take k)).length + d.l.length := IntWalk.i64_in _ (by omega)
      have hnn : ¬ (((catS (ds.take k)).length : Int) + d.l.length < 0) := by omega
      have HSUM := Lib.hid hsum
      unfold StD.v at g0
      clear hz hcs hcl hcl1 hsum
      generalize (catS (ds.take k)).length = sn at *
      generalize d.l.length = dn at *
      go_wp2_with (fail)
      go_roundw
      case rel => exact ⟨k + 1, by omega, by go_num, by rw [HSUM.out], hb⟩
      case measure => simp [intOf]; omega
    · obtain rfl : k = m := by omega
      have htk : ds.take k = ds := List.take_of_length_le (by have := HM.out; omega)
      rw [htk]
      have HGR := Lib.hid (fun w => c_Grow0 (catS ds).length w hN)
      have HTK := Lib.hid htk
      clear htk
      generalize hcn : (catS ds).length = cn at *
      have HCN := Lib.hid hcn
      clear hcn
      go_wp2_with (fail)
      refine (HGR.out _).mono ?_
      rintro e w2 ⟨v, rfl, ho, hb2⟩
      have HB2 := Lib.hid (below_chain hb.out hb2)
      have HO2 := Lib.hid (own_mono ho (base' := w.heap.size) hb.out.size)
      clear ho hb2
      go_wp2_with (fail)
      go_loopw [6, 8, 27] (fun u _ i wq => ∃ k2 : Nat, k2 ≤ k ∧ i = .int .i64 k2 ∧ Hid (wq.ownsRow w.heap.size 9 1 u (catS (ds.take k2)).length (sts (catS (ds.take k2)))) ∧ Hid (Below w.heap.size w wq)) (fun _ _ i _ => k - (intOf i).toNat)
      case atStart => exact ⟨0, Nat.zero_le _, rfl, Lib.hid (by simpa [catS, sts] using HO2.out), HB2⟩
      case round =>
        obtain ⟨k2, hk2, rfl, ho, hb2⟩ := hrel
        by_cases hlt2 : k2 < k
        · obtain ⟨d, hz⟩ : ∃ z, ds[k2]? = some z := ⟨_, List.getElem?_eq_getElem (by have := HM.out; omega)⟩
          have g0 := cell_later hb2.out (HG.out k2 d hz)
          have hdd := HD.out d (List.mem_of_getElem? hz)
          have HRD := Lib.hid (hdd.1.below hb2.out)
          have HZ := Lib.hid hdd.2
          have hcl1 := HCL.out (k2 + 1)
          have HCC := Lib.hid (HCS.out k2 d hz)
          have hln : (catS (ds.take (k2 + 1))).length = (catS (ds.take k2)).length + d.l.length := by rw [HCC.out, List.length_append]
          have hbd : (catS (ds.take k2)).length + d.l.length ≤ 4000000 := by omega
          have HLN := Lib.hid hln
          have hk20 : (0 : Int) ≤ (k2 : Int) := by omega
          have hk21 : (k2 : Int) < k := by omega
          unfold StD.v at g0
          clear hz hdd hcl1 hln
          go_wp2_with (first
            | (at_builtin
               refine app_strs _ rfl (.tmp 31) (.tmp 32) rfl w.heap.size _ _ (catS (ds.take k2)) rfl ho.out d.a _ d.c d.l rfl rfl HRD.out HZ.out hbd hb2.out.size ?_
               intro v7 w7 hown hgrow
               have HB7 := Lib.hid (below_of_grown hb2.out hgrow (fun q hq => (ho.out.lt q hq).1))
               have HO7 := Lib.hid hown
               clear hown hgrow)
            )
          go_roundw
          case rel => exact ⟨k2 + 1, by omega, by go_num, Lib.hid (by rw [HCC.out, List.length_append]; exact HO7.out), HB7⟩
          case measure => simp [intOf]; omega
        · obtain rfl : k2 = k := by omega
          have HO := Lib.hid ho.out
          rw [HTK.out, HCN.out] at HO
          obtain ⟨A9, c9, rfl⟩ := own_shape HO.out
          go_wp2_with (fail)
          go_ret
          exact ⟨A9, c9, by rw [HCN.out]; rfl, Rd.own HO.out, by rw [HCN.out]; exact ⟨(own_cap HO.out).1, (own_cap HO.out).2, own_none HO.out⟩, hb2.out⟩
end Go.Proofs.YteengjcplmjakaaGreatDoor
