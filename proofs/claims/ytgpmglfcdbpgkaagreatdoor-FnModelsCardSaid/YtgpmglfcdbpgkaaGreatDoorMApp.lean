/- The state to which a rule leads: apply (program), l20Apply (reference). Condition: the effect's variables lie within the state. -/
import Derived.Test.YtgpmglfcdbpgkaaGreatDoorMEna
import Derived.Test.YtgpmglfcdbpgkaaGreatDoorAppM
namespace Go.Proofs.YtgpmglfcdbpgkaaGreatDoor
open Go.RowKit

def ap1 (vs : List Int) (a : Asg) : List Int := vs.set a.v.toNat a.x
def apL (vs : List Int) (es : List Asg) : List Int := es.foldl ap1 vs
theorem apL_snoc {vs : List Int} {es : List Asg} {k : Nat} {a : Asg} (h : es[k]? = some a) : apL vs (es.take (k + 1)) = (apL vs (es.take k)).set a.v.toNat a.x := by
  unfold apL
  rw [List.take_add_one, h, List.foldl_append]
  rfl
theorem apL_len : ∀ (es : List Asg) (vs : List Int), (apL vs es).length = vs.length
  | [], _ => rfl
  | a :: es, vs => by
    have := apL_len es (ap1 vs a)
    unfold apL at this ⊢
    rw [List.foldl_cons, this]
    simp [ap1]
/-- The effect's variables lie within the state. -/
def EsIn (n : Nat) (es : List Asg) : Prop := ∀ a ∈ es, 0 ≤ a.v ∧ a.v < n
theorem es_in {sz : List Int} {es : List Asg} (h : esK sz es es.length = true) : EsIn sz.length es := by
  intro a ha
  obtain ⟨k, hk, rfl⟩ := List.getElem_of_mem ha
  unfold esK at h
  rw [List.all_eq_true] at h
  have := h k (List.mem_range.2 hk)
  unfold esS at this
  rw [getDA (List.getElem?_eq_getElem hk)] at this
  simp [hasB, inB] at this
  omega
theorem ints_set (l : List Int) (j : Nat) (x : Int) : (ints l).set j (.int .i64 x) = ints (l.set j x) := by simp [ints, List.map_set]
/-- A list of the call's own of length n, in one block. -/
def RetI3 (n : Nat) (zs : List Int) (w : World) (e : Ending) (w' : World) : Prop :=
  ∃ g c, e = .returned (.slice (some ⟨g, 0, none⟩) n c) ∧ w'.ownsRow w.heap.size 2 1 (.slice (some ⟨g, 0, none⟩) n c) n (ints zs) ∧ Below w.heap.size w w'
set_option maxHeartbeats 1000000 in
set_option maxRecDepth 100000 in
theorem c_apply (nm : ByteArray) (ag ae : Option Addr) (gn cg en ce : Nat) (es : List Asg) (b off c vn : Nat) (vs : List Int) (w : World) (hvn : vn = vs.length) (hvl : vn ≤ 1048576) (hen : en = es.length) (hel : en ≤ 1048576) (hin : EsIn vn es) (hv : Rd w (some ⟨b, off, none⟩) (ints vs)) (he : Rd w ae (asgCells es)) :
    Calls Tryz.prog 48 #[.agg #[.string nm, .slice ag gn cg, .slice ae en ce], .slice (some ⟨b, off, none⟩) vn c] w (RetI3 vn (apL vs es) w) := by
  have HIN := Lib.hid hin
  have HE := Lib.hid he
  have HEN := Lib.hid hen
  have HVN := Lib.hid hvn
  have HCL := Lib.hid (fun w' h => c_Clone b off c vn vs w' hvn (by omega) h)
  have HV := Lib.hid hv
  clear hin he hen hvn hv
  go_enter Tryz.func48, Tryz.ntmps48
  go_wp2_with (fail)
  refine (HCL.out _ (HV.out.alloc _)).mono ?_
  rintro e w1 ⟨g, c', rfl, ho, hb⟩
  have k2 : w1.cell? ⟨w.heap.size, 2, none⟩ = some (.slice ae en ce) := cell_later hb (by go_simp)
  have HO0 := Lib.hid (own_mono ho (show w.heap.size + 1 ≤ _ by simp))
  have HB0 := Lib.hid (below_chain (by (repeat (first | exact Below.refl _ _ | assumption | refine below_alloc ?_ _ | refine below_drewN ?_ _ | refine below_set ?_ _ (by simp; try omega) | refine Below.drew ?_)) : Below w.heap.size w _) hb)
  have hg0 : w.heap.size + 1 ≤ g := by have := (ho.lt g rfl).1; simp at this; omega
  clear ho hb
  go_wp2
  clear k2
  go_loopw [13] (fun i wr => ∃ k : Nat, k ≤ en ∧ i = .int .i64 k ∧ Hid (wr.ownsRow (w.heap.size + 1) 2 1 (.slice (some ⟨g, 0, none⟩) vn c') vn (ints (apL vs (es.take k)))) ∧ Below w.heap.size w wr) (fun i _ => en - (intOf i).toNat)
  case atStart => exact ⟨0, Nat.zero_le _, rfl, HO0, HB0.out⟩
  case round =>
    clear HO0 HB0
    obtain ⟨k, hk, rfl, ho, hb⟩ := hrel
    by_cases hlt : k < en
    · obtain ⟨a, hz⟩ : ∃ z, es[k]? = some z := ⟨_, List.getElem?_eq_getElem (by have := HEN.out; omega)⟩
      obtain ⟨b2, off2, rfl, _, g0, g1⟩ := (HE.out.below hb).asg hz
      have hai := HIN.out a (List.mem_of_getElem? hz)
      have HS := Lib.hid (apL_snoc (vs := vs) hz)
      obtain ⟨av, ax⟩ := a
      dsimp only at *
      obtain ⟨j, rfl⟩ : ∃ j : Nat, av = j := ⟨av.toNat, by omega⟩
      have hj : j < vn := by omega
      have hj0 : (0 : Int) ≤ (j : Int) := by omega
      have hj1 : (j : Int) < (vn : Int) := by omega
      have HB := Lib.hid hb
      have ho1 := own_below ho.out (below_alloc (Below.refl wr.heap.size wr) (Obj.cells #[Value.int .i64 (j : Int), Value.int .i64 ax] 47))
      have f0 := ho1.frozenAt j
      obtain ⟨o0, e0⟩ := own_cell ho1 (j := j) (by omega)
      have hst := (ho1.stored j (.int .i64 ax)).1
      rw [ints_set] at hst
      have HST := Lib.hid hst
      clear hz hai hb ho ho1 hst
      go_wp2
      go_roundw
      case rel => exact ⟨k + 1, by omega, by go_num, Lib.hid (by rw [HS.out, Int.toNat_natCast]; exact HST.out), below_set (below_alloc HB.out _) _ (by dsimp only; omega)⟩
      case measure => simp [intOf]; omega
    · obtain rfl : k = en := by omega
      have hA := ho.out
      rw [List.take_of_length_le (by have := HEN.out; omega)] at hA
      have HA := Lib.hid hA
      have HB := Lib.hid hb
      clear hA ho hb
      go_wp2
      go_ret
      exact ⟨g, c', rfl, own_mono HA.out (by omega), HB.out⟩
set_option maxHeartbeats 1000000 in
set_option maxRecDepth 100000 in
theorem c_l20Apply (m : Mdl) (az ax ar : Option Addr) (cz cs cr : Nat) (k0 : Nat) (r : Rul) (b off c vn : Nat) (vs : List Int) (w : World) (hr : m.rs[k0]? = some r) (_hrl : m.rs.length ≤ 1048576) (hvn : vn = vs.length) (hvl : vn ≤ 1048576) (hel : r.es.length ≤ 1048576) (hin : EsIn vn r.es) (hv : Rd w (some ⟨b, off, none⟩) (ints vs)) (h : Rl w ar m.rs) :
    Calls Tryz.prog 52 #[mv m az ax ar cz cs cr, .slice (some ⟨b, off, none⟩) vn c, .int .i64 k0] w (RetI3 vn (apL vs r.es) w) := by
  have hk0 : k0 < m.rs.length := (List.getElem?_eq_some_iff.1 hr).1
  obtain ⟨bb, ob, ag, cg, ae, ce, rfl, hbb, g0, g1, g2, _, he⟩ := h.at hr
  have HIN := Lib.hid hin
  have HE := Lib.hid he
  have HVN := Lib.hid hvn
  have HCL := Lib.hid (fun w' h => c_l01Own b off c vn vs w' hvn (by omega) h)
  have HV := Lib.hid hv
  have HEN := Lib.hid (rfl : r.es.length = r.es.length)
  clear hin he hvn hv h hr
  dsimp only [mv] at *
  generalize m.sz.length = sn at *
  generalize m.st.length = tn at *
  generalize m.rs.length = rn at *
  generalize r.gs.length = gn at *
  generalize hen : r.es.length = en at *
  replace HEN := Lib.hid hen
  clear hen
  generalize r.es = es at *
  generalize r.nm = nm at *
  have hi0 : (0 : Int) ≤ (k0 : Int) := by omega
  have hi1 : (k0 : Int) < (rn : Int) := by omega
  go_enter Tryz.func52, Tryz.ntmps52
  go_wp2_with (fail)
  refine (HCL.out _ (HV.out.alloc _)).mono ?_
  rintro e w1 ⟨g, c', rfl, ho, hb⟩
  have k2 : w1.cell? ⟨w.heap.size, 2, none⟩ = some (.slice (some ⟨bb, ob, none⟩) rn cr) := cell_later hb (by go_simp)
  have HO0 := Lib.hid (own_mono ho (show w.heap.size + 1 ≤ _ by simp))
  have hst : Below w.heap.size w w1 := below_chain (by (repeat (first | exact Below.refl _ _ | assumption | refine below_alloc ?_ _ | refine below_drewN ?_ _ | refine below_set ?_ _ (by simp; try omega) | refine Below.drew ?_)) : Below w.heap.size w _) hb
  have HB0 := Lib.hid hst
  replace g2 := cell_later hst g2
  have hg0 : w.heap.size + 1 ≤ g := by have := (ho.lt g rfl).1; simp at this; omega
  clear ho hb hst g0 g1
  go_wp2
  clear k2 g2
  go_loopw [9] (fun i wr => ∃ k : Nat, k ≤ en ∧ i = .int .i64 k ∧ Hid (wr.ownsRow (w.heap.size + 1) 2 1 (.slice (some ⟨g, 0, none⟩) vn c') vn (ints (apL vs (es.take k)))) ∧ Below w.heap.size w wr) (fun i _ => en - (intOf i).toNat)
  case atStart => exact ⟨0, Nat.zero_le _, rfl, HO0, HB0.out⟩
  case round =>
    clear HO0 HB0
    obtain ⟨k, hk, rfl, ho, hb⟩ := hrel
    by_cases hlt : k < en
    · obtain ⟨a, hz⟩ : ∃ z, es[k]? = some z := ⟨_, List.getElem?_eq_getElem (by have := HEN.out; omega)⟩
      obtain ⟨b2, off2, hA2, hlt2, _, _⟩ := HE.out.asg hz
      obtain ⟨b3, off3, hA3, _, g0, g1⟩ := (HE.out.below hb).asg hz
      rw [hA2] at hA3
      simp only [Option.some.injEq, Addr.mk.injEq, and_true] at hA3
      obtain ⟨rfl, rfl⟩ := hA3
      subst hA2
      have hai := HIN.out a (List.mem_of_getElem? hz)
      have HS := Lib.hid (apL_snoc (vs := vs) hz)
      obtain ⟨av, ax⟩ := a
      dsimp only at *
      obtain ⟨j, rfl⟩ : ∃ j : Nat, av = j := ⟨av.toNat, by omega⟩
      have hj : j < vn := by omega
      have hj0 : (0 : Int) ≤ (j : Int) := by omega
      have hj1 : (j : Int) < (vn : Int) := by omega
      have hq0 : (0 : Int) ≤ (k : Int) := by omega
      have hq1 : (k : Int) < (en : Int) := by omega
      have HB := Lib.hid hb
      have f0 := ho.out.frozenAt j
      obtain ⟨o0, e0⟩ := own_cell ho.out (j := j) (by omega)
      have hst := (ho.out.stored j (.int .i64 ax)).1
      rw [ints_set] at hst
      have HST := Lib.hid hst
      clear hz hai hb ho hst
      go_wp2
      refine wp_region_held_drew (S := (fun w' => w'.cell? ⟨b2, off2 + k * 2, none⟩ = some (.int .i64 j) ∧ w'.cell? ⟨b2, off2 + k * 2 + 1, none⟩ = some (.int .i64 ax))) (by kernel_rfl) ?_ (fun hHeld => ?_)
      · exact ⟨g0, g1⟩
      refine rg_take (v := ?_) 0 rfl (by kernel_rfl) (by kernel_rfl) (by kernel_rfl) (fun _ _ _ h => h) (by kernel_rfl) ?_ (by assumption) ?_
      rotate_left
      · (intro w' hSw; (try dsimp only at hSw); go_simp; first | done | with_reducible rfl)
      simp only [Act.put, List.setIfInBounds_toArray, List.set_cons_zero, List.set_cons_succ]
      refine rg_take (v := ?_) 1 rfl (by kernel_rfl) (by kernel_rfl) (by kernel_rfl) (fun _ _ _ h => h) (by kernel_rfl) ?_ (by assumption) ?_
      rotate_left
      · (intro w' hSw; (try dsimp only at hSw); go_simp; first | done | with_reducible rfl)
      simp only [Act.put, List.setIfInBounds_toArray, List.set_cons_zero, List.set_cons_succ]
      refine rg_take (v := ?_) 2 rfl (by kernel_rfl) (by kernel_rfl) (by kernel_rfl) (fun _ _ _ h => h) (by kernel_rfl) ?_ (by assumption) ?_
      rotate_left
      · (intro w' hSw; (try dsimp only at hSw); go_simp; first | done | with_reducible rfl)
      simp only [Act.put, List.setIfInBounds_toArray, List.set_cons_zero, List.set_cons_succ]
      refine rg_take (v := ?_) 3 rfl (by kernel_rfl) (by kernel_rfl) (by kernel_rfl) (fun _ _ _ h => h) (by kernel_rfl) ?_ (by assumption) ?_
      rotate_left
      · (intro w' hSw; (try dsimp only at hSw); go_simp; first | done | with_reducible rfl)
      simp only [Act.put, List.setIfInBounds_toArray, List.set_cons_zero, List.set_cons_succ]
      refine rg_take (v := ?_) 4 rfl (by kernel_rfl) (by kernel_rfl) (by kernel_rfl) (fun _ _ _ h => h) (by kernel_rfl) ?_ (by assumption) ?_
      rotate_left
      · (intro w' hSw; (try dsimp only at hSw); go_simp; first | done | with_reducible rfl)
      simp only [Act.put, List.setIfInBounds_toArray, List.set_cons_zero, List.set_cons_succ]
      refine rg_take (v := ?_) 5 rfl (by kernel_rfl) (by kernel_rfl) (by kernel_rfl) (fun _ _ _ h => h) (by kernel_rfl) ?_ (by assumption) ?_
      rotate_left
      · (intro w' hSw; (try dsimp only at hSw); go_simp; first | done | with_reducible rfl)
      simp only [Act.put, List.setIfInBounds_toArray, List.set_cons_zero, List.set_cons_succ]
      refine rg_take (v := ?_) 6 rfl (by kernel_rfl) (by kernel_rfl) (by kernel_rfl) (fun _ _ _ h => h) (by kernel_rfl) ?_ (by assumption) ?_
      rotate_left
      · (intro w' hSw; (try dsimp only at hSw); go_simp; first | done | with_reducible rfl)
      simp only [Act.put, List.setIfInBounds_toArray, List.set_cons_zero, List.set_cons_succ]
      refine rg_take (v := ?_) 7 rfl (by kernel_rfl) (by kernel_rfl) (by kernel_rfl) (fun _ _ _ h => h) (by kernel_rfl) ?_ (by assumption) ?_
      rotate_left
      · (intro w' hSw; (try dsimp only at hSw); go_simp; first | done | with_reducible rfl)
      simp only [Act.put, List.setIfInBounds_toArray, List.set_cons_zero, List.set_cons_succ]
      refine rg_take (v := ?_) 8 rfl (by kernel_rfl) (by kernel_rfl) (by kernel_rfl) (fun _ _ _ h => h) (by kernel_rfl) ?_ (by assumption) ?_
      rotate_left
      · (intro w' hSw; (try dsimp only at hSw); go_simp; first | done | with_reducible rfl)
      simp only [Act.put, List.setIfInBounds_toArray, List.set_cons_zero, List.set_cons_succ]
      refine rg_take (v := ?_) 9 rfl (by kernel_rfl) (by kernel_rfl) (by kernel_rfl) (fun _ _ _ h => h) (by kernel_rfl) ?_ (by assumption) ?_
      rotate_left
      · (intro w' hSw; (try dsimp only at hSw); go_simp; first | done | with_reducible rfl)
      simp only [Act.put, List.setIfInBounds_toArray, List.set_cons_zero, List.set_cons_succ]
      refine rg_take (v := ?_) 10 rfl (by kernel_rfl) (by kernel_rfl) (by kernel_rfl) (fun _ _ _ h => h) (by kernel_rfl) ?_ (by assumption) ?_
      rotate_left
      · (intro w' hSw; (try dsimp only at hSw); go_simp; first | done | with_reducible rfl)
      simp only [Act.put, List.setIfInBounds_toArray, List.set_cons_zero, List.set_cons_succ]
      refine rg_take (v := ?_) 11 rfl (by kernel_rfl) (by kernel_rfl) (by kernel_rfl) (fun _ _ _ h => h) (by kernel_rfl) ?_ (by assumption) ?_
      rotate_left
      · (intro w' hSw; (try dsimp only at hSw); go_simp; first | done | with_reducible rfl)
      simp only [Act.put, List.setIfInBounds_toArray, List.set_cons_zero, List.set_cons_succ]
      refine rg_run 12 rfl (by kernel_rfl) (by kernel_rfl) (fun K hK => ?_)
      go_simp
      clear hHeld
      refine hK.out _ _ ⟨(World.cell?_setCell_far _ ⟨g, j, none⟩ ⟨b2, off2 + k * 2, none⟩ _ (by dsimp only; omega)).trans (by exact g0), (World.cell?_setCell_far _ ⟨g, j, none⟩ ⟨b2, off2 + k * 2 + 1, none⟩ _ (by dsimp only; omega)).trans (by exact g1)⟩ (fun hHeld => ?_)
      clear hK K
      try simp only [Act.put, List.setIfInBounds_toArray, List.set_cons_zero, List.set_cons_succ]
      refine wpAnyH_done (by kernel_rfl) ?_ _
      clear hHeld
      go_wp2
      go_roundw
      case rel => exact ⟨k + 1, by omega, by go_num, Lib.hid (by rw [HS.out, Int.toNat_natCast]; exact HST.out), below_set HB.out.drew _ (by dsimp only; omega)⟩
      case measure => simp [intOf]; omega
    · obtain rfl : k = en := by omega
      have hA := ho.out
      rw [List.take_of_length_le (by have := HEN.out; omega)] at hA
      have HA := Lib.hid hA
      have HB := Lib.hid hb
      clear hA ho hb
      go_wp2
      go_ret
      exact ⟨g, c', rfl, own_mono HA.out (by omega), HB.out⟩
end Go.Proofs.YtgpmglfcdbpgkaaGreatDoor
