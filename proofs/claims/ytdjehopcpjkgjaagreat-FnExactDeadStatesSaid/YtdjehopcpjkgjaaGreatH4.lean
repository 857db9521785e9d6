/- Contracts and helpers (joined texts, part 4). The conditions stand at each theorem. -/
import Derived.Test.YtdjehopcpjkgjaaGreatH3
import Derived.Test.YtdjehopcpjkgjaaGreatH1
import Derived.Test.YtdjehopcpjkgjaaGreatH0
import Derived.Laws.BytesArg
/- Whether tests hold in a state: holds (program) and l20Holds (reference). Condition: the tests' variables lie within the state. -/
namespace Go.Proofs.YtdjehopcpjkgjaaGreat
open Go.RowKit

/-- Each test's variable has a value. -/
def TsIn (n : Nat) (l : List Tst) : Prop := ∀ t ∈ l, 0 ≤ t.v ∧ t.v < n
def hdB (vs : List Int) (t : Tst) : Bool := (decide (vs.getD t.v.toNat 0 = t.x)) == t.q
def hlB (vs : List Int) (l : List Tst) : Bool := l.all (hdB vs)
theorem hd_val {vs : List Int} {k : Nat} {z x : Int} {q : Bool} (h : vs[k]? = some z) : hdB vs ⟨k, x, q⟩ = !(decide (z = x) != q) := by
  show (decide (vs.getD ((k : Int).toNat) 0 = x) == q) = _
  simp only [Int.toNat_natCast, getD_of h]
  cases decide (z = x) <;> cases q <;> rfl
theorem any_not_hd (vs : List Int) (l : List Tst) : l.any (fun t => !hdB vs t) = !hlB vs l := by
  unfold hlB
  induction l with
  | nil => rfl
  | cons a t ih => simp [List.any_cons, List.all_cons, ih]
theorem tsIn_of {sz : List Int} {l : List Tst} (h : tsB sz l = true) : TsIn sz.length l := by
  intro t ht
  simp only [tsB, Bool.and_eq_true] at h
  have := h.1
  unfold tsK at this
  rw [List.all_eq_true] at this
  have := this t ht
  simp [hasB, inB] at this
  omega
set_option maxRecDepth 100000 in
theorem c_holds1 (p : Nat) (A : Option Addr) (c : Nat) (vs : List Int) (v x : Int) (q : Bool) (w : World) (hv0 : 0 ≤ v) (hv1 : v < vs.length) (_hl : vs.length ≤ 1048576) (h : Rd w A (ints vs))
    (k0 : w.cell? ⟨p, 0, none⟩ = some (.slice A vs.length c)) :
    Calls Tryz.prog 91 #[.agg #[.int .i64 v, .int .i64 x, .bool q], .pointer (some ⟨p, 0, none⟩)] w fun e w' => e = .returned (.bool (!hdB vs ⟨v, x, q⟩)) ∧ Below w.heap.size w w' := by
  obtain ⟨k, rfl⟩ : ∃ k : Nat, v = k := ⟨v.toNat, by omega⟩
  have hk : k < vs.length := by omega
  obtain ⟨z, hz⟩ : ∃ z, vs[k]? = some z := ⟨_, List.getElem?_eq_getElem hk⟩
  obtain ⟨b, off, rfl, _, g0⟩ := h.int hz
  have hp := World.block_lt_of_cell? _ _ k0
  have HR : Hid ((!hdB vs ⟨k, x, q⟩) = (decide (z = x) != q)) := Lib.hid (by rw [hd_val hz, Bool.not_not])
  generalize (!hdB vs ⟨k, x, q⟩) = R at HR ⊢
  generalize vs.length = vn at *
  clear h hz
  have hal := below_alloc (Below.refl w.heap.size w) (Obj.cells #[Value.int .i64 (k : Int), Value.int .i64 x, Value.bool q] 100)
  have K0 := cell_later hal k0
  have G0 := cell_later hal g0
  have P0 : (w.alloc (Obj.cells #[Value.int .i64 (k : Int), Value.int .i64 x, Value.bool q] 100)).cell? ⟨w.heap.size, 0, none⟩ = some (.int .i64 k) := by go_simp
  have P1 : (w.alloc (Obj.cells #[Value.int .i64 (k : Int), Value.int .i64 x, Value.bool q] 100)).cell? ⟨w.heap.size, 1, none⟩ = some (.int .i64 x) := by go_simp
  have P2 : (w.alloc (Obj.cells #[Value.int .i64 (k : Int), Value.int .i64 x, Value.bool q] 100)).cell? ⟨w.heap.size, 2, none⟩ = some (.bool q) := by go_simp
  have HAL := Lib.hid hal
  clear hal k0 g0
  go_enter Tryz.func91, Tryz.ntmps91
  go_wp2
  generalize w.alloc (Obj.cells #[Value.int .i64 (k : Int), Value.int .i64 x, Value.bool q] 100) = W at *
  refine wp_region_held_drew (S := (fun w' => w'.cell? ⟨p, 0, none⟩ = some (.slice (some ⟨b, off, none⟩) vn c) ∧ w'.cell? ⟨b, off + k, none⟩ = some (.int .i64 z) ∧ w'.cell? ⟨w.heap.size, 0, none⟩ = some (.int .i64 k) ∧ w'.cell? ⟨w.heap.size, 1, none⟩ = some (.int .i64 x) ∧ w'.cell? ⟨w.heap.size, 2, none⟩ = some (.bool q))) (by kernel_rfl) ?_ (fun hHeld => ?_)
  · exact ⟨K0, G0, P0, P1, P2⟩
  refine rg_take (v := ?_) 0 rfl (by kernel_rfl) (by kernel_rfl) (by kernel_rfl) (fun _ _ _ h => h) (by kernel_rfl) ?_ (by assumption) ?_
  rotate_left
  · (intro w' hSw; (try dsimp only at hSw); go_simp; first | done | with_reducible rfl)
  simp only [Act.put, List.setIfInBounds_toArray, List.set_cons_zero, List.set_cons_succ]
  refine rg_take (v := ?_) 1 rfl (by kernel_rfl) (by kernel_rfl) (by kernel_rfl) (fun _ _ _ h => h) (by kernel_rfl) ?_ (by assumption) ?_
  rotate_left
  · (intro w' hSw; (try dsimp only at hSw); go_simp; first | done | with_reducible rfl)
  simp only [Act.put, List.setIfInBounds_toArray, List.set_cons_zero, List.set_cons_succ]
  refine rg_take (v := ?_) 2 rfl (by kernel_rfl) (by kernel_rfl) (by kernel_rfl) (fun _ _ _ h => h) (by kernel_rfl) ?_ (by assumption) ?_
  rotate_left
  · (intro w' hSw; (try dsimp only at hSw); go_simp; first | done | with_reducible rfl)
  simp only [Act.put, List.setIfInBounds_toArray, List.set_cons_zero, List.set_cons_succ]
  refine rg_take (v := ?_) 3 rfl (by kernel_rfl) (by kernel_rfl) (by kernel_rfl) (fun _ _ _ h => h) (by kernel_rfl) ?_ (by assumption) ?_
  rotate_left
  · (intro w' hSw; (try dsimp only at hSw); go_simp; first | done | with_reducible rfl)
  simp only [Act.put, List.setIfInBounds_toArray, List.set_cons_zero, List.set_cons_succ]
  refine rg_take (v := ?_) 4 rfl (by kernel_rfl) (by kernel_rfl) (by kernel_rfl) (fun _ _ _ h => h) (by kernel_rfl) ?_ (by assumption) ?_
  rotate_left
  · (intro w' hSw; (try dsimp only at hSw); go_simp; first | done | with_reducible rfl)
  simp only [Act.put, List.setIfInBounds_toArray, List.set_cons_zero, List.set_cons_succ]
  refine rg_take (v := ?_) 5 rfl (by kernel_rfl) (by kernel_rfl) (by kernel_rfl) (fun _ _ _ h => h) (by kernel_rfl) ?_ (by assumption) ?_
  rotate_left
  · (intro w' hSw; (try dsimp only at hSw); go_simp; first | done | with_reducible rfl)
  simp only [Act.put, List.setIfInBounds_toArray, List.set_cons_zero, List.set_cons_succ]
  refine rg_take (v := ?_) 6 rfl (by kernel_rfl) (by kernel_rfl) (by kernel_rfl) (fun _ _ _ h => h) (by kernel_rfl) ?_ (by assumption) ?_
  rotate_left
  · (intro w' hSw; (try dsimp only at hSw); go_simp; first | done | with_reducible rfl)
  simp only [Act.put, List.setIfInBounds_toArray, List.set_cons_zero, List.set_cons_succ]
  refine rg_take (v := ?_) 7 rfl (by kernel_rfl) (by kernel_rfl) (by kernel_rfl) (fun _ _ _ h => h) (by kernel_rfl) ?_ (by assumption) ?_
  rotate_left
  · (intro w' hSw; (try dsimp only at hSw); go_simp; first | done | with_reducible rfl)
  simp only [Act.put, List.setIfInBounds_toArray, List.set_cons_zero, List.set_cons_succ]
  refine rg_take (v := ?_) 8 rfl (by kernel_rfl) (by kernel_rfl) (by kernel_rfl) (fun _ _ _ h => h) (by kernel_rfl) ?_ (by assumption) ?_
  rotate_left
  · (intro w' hSw; (try dsimp only at hSw); go_simp; first | done | with_reducible rfl)
  simp only [Act.put, List.setIfInBounds_toArray, List.set_cons_zero, List.set_cons_succ]
  refine rg_take (v := ?_) 9 rfl (by kernel_rfl) (by kernel_rfl) (by kernel_rfl) (fun _ _ _ h => h) (by kernel_rfl) ?_ (by assumption) ?_
  rotate_left
  · (intro w' hSw; (try dsimp only at hSw); go_simp; first | done | with_reducible rfl)
  simp only [Act.put, List.setIfInBounds_toArray, List.set_cons_zero, List.set_cons_succ]
  refine rg_take (v := ?_) 10 rfl (by kernel_rfl) (by kernel_rfl) (by kernel_rfl) (fun _ _ _ h => h) (by kernel_rfl) ?_ (by assumption) ?_
  rotate_left
  · (intro w' hSw; (try dsimp only at hSw); go_simp; first | done | with_reducible rfl)
  simp only [Act.put, List.setIfInBounds_toArray, List.set_cons_zero, List.set_cons_succ]
  refine rg_take (v := ?_) 11 rfl (by kernel_rfl) (by kernel_rfl) (by kernel_rfl) (fun _ _ _ h => h) (by kernel_rfl) ?_ (by assumption) ?_
  rotate_left
  · (intro w' hSw; (try dsimp only at hSw); go_simp; first | done | with_reducible rfl)
  simp only [Act.put, List.setIfInBounds_toArray, List.set_cons_zero, List.set_cons_succ]
  refine wpAnyH_done (by kernel_rfl) ?_ _
  clear hHeld
  go_wp2
  go_ret
  exact ⟨ret_bool HR.out.symm, HAL.out.drew⟩
set_option maxRecDepth 100000 in
theorem c_holds (A : Option Addr) (c : Nat) (vs : List Int) (A' : Option Addr) (c' : Nat) (l : List Tst) (w : World) (hl : vs.length ≤ 1048576) (hl2 : l.length ≤ 1048576) (hin : TsIn vs.length l) (h : Rd w A (ints vs)) (h' : Rd w A' (tstCells l)) :
    Calls Tryz.prog 64 #[.slice A vs.length c, .slice A' l.length c'] w fun e w' => e = .returned (.bool (hlB vs l)) ∧ Below w.heap.size w w' := by
  have hmf : ∀ (fn : Fn) (first cap : Array Value) (w : World), (Instr.makeFunc fn first cap).run Tryz.prog w = .ok (.func fn first cap) w := fun _ _ _ _ => rfl
  have HN := Lib.hid (any_not_hd vs l)
  have HCC := Lib.hid (fun (w' : World) (x : Value) hv hc => c_ContainsTest 91 x (fun t => !hdB vs t) A' c' l w' hl2 hv hc (enter_of Tryz.func91 (by kernel_rfl) rfl))
  have HCL := Lib.hid (fun (w' : World) (p : Nat) (t : Tst) (ht : t ∈ l) h k0 => c_holds1 p A c vs t.v t.x t.q w' (hin t ht).1 (hin t ht).2 hl h k0)
  have HZ := Lib.hid h
  have HV := Lib.hid h'
  clear h h' hin
  generalize hlB vs l = R at HN ⊢
  generalize vs.length = vn at *
  generalize l.length = ln at *
  go_enter Tryz.func64, Tryz.ntmps64
  go_wp2_with (fail)
  refine (HCC.out _ _ (by exact HV.out.alloc _) (Lib.hid ?_)).mono ?_
  · intro wr t ht hb
    exact HCL.out wr _ t ht ((HZ.out.alloc _).below hb) (cell_later hb (by go_simp))
  · rintro e w1 ⟨rfl, hb⟩
    have HB := Lib.hid (below_chain (by (repeat (first | exact Below.refl _ _ | assumption | refine below_alloc ?_ _ | refine below_drewN ?_ _ | refine below_set ?_ _ (by simp; try omega) | refine Below.drew ?_)) : Below w.heap.size w _) hb)
    clear hb
    generalize List.any l (fun t => !hdB vs t) = r at HN ⊢
    go_wp2
    go_ret
    exact ⟨ret_bool (by rw [HN.out]; simp), HB.out⟩
theorem hl_snoc {vs : List Int} {l : List Tst} {k : Nat} {t : Tst} (hz : l[k]? = some t) (h : hlB vs (l.take k) = true) (h2 : hdB vs t = true) : hlB vs (l.take (k + 1)) = true := by
  unfold hlB at h ⊢
  rw [List.take_add_one, List.all_append, h, hz]
  simp [h2]
theorem hl_bad {vs : List Int} {l : List Tst} {k : Nat} {t : Tst} (hz : l[k]? = some t) (h2 : hdB vs t = false) : hlB vs l = false := by
  unfold hlB
  rw [List.all_eq_false]
  exact ⟨t, List.mem_of_getElem? hz, by simp [h2]⟩
set_option maxHeartbeats 1000000 in
set_option maxRecDepth 100000 in
theorem c_l20Holds (A : Option Addr) (c : Nat) (vs : List Int) (A' : Option Addr) (c' : Nat) (l : List Tst) (w : World) (_hl : vs.length ≤ 1048576) (hl2 : l.length ≤ 1048576) (hin : TsIn vs.length l) (h : Rd w A (ints vs)) (h' : Rd w A' (tstCells l)) :
    Calls Tryz.prog 46 #[.slice A vs.length c, .slice A' l.length c'] w fun e w' => e = .returned (.bool (hlB vs l)) ∧ Below w.heap.size w w' := by
  have HIN := Lib.hid hin
  have HB0 := Lib.hid (rfl : hlB vs l = hlB vs l)
  generalize hR : hlB vs l = R at HB0
  replace HB0 := Lib.hid hR
  generalize hvn : vs.length = vn at *
  generalize hln : l.length = ln at *
  have HVN := Lib.hid hvn
  have HLN := Lib.hid hln
  have HZ := Lib.hid h
  have HV := Lib.hid h'
  clear hin h h' hvn hln hR
  go_enter Tryz.func46, Tryz.ntmps46
  go_wp2
  go_loopw [5] (fun i wr => ∃ k : Nat, k ≤ ln ∧ i = .int .i64 k ∧ Hid (hlB vs (l.take k) = true) ∧ Below w.heap.size w wr) (fun i _ => ln - (intOf i).toNat)
  case atStart => exact ⟨0, Nat.zero_le _, rfl, Lib.hid rfl, by (repeat (first | exact Below.refl _ _ | assumption | refine below_alloc ?_ _ | refine below_drewN ?_ _ | refine below_set ?_ _ (by simp; try omega) | refine Below.drew ?_))⟩
  case round =>
    obtain ⟨k, hk, rfl, ha, hb⟩ := hrel
    by_cases hlt : k < ln
    · obtain ⟨t, hz⟩ : ∃ z, l[k]? = some z := ⟨_, List.getElem?_eq_getElem (by have := HLN.out; omega)⟩
      obtain ⟨b, off, rfl, _, g0, g1, g2⟩ := (HV.out.below hb).tst hz
      have hti := HIN.out t (List.mem_of_getElem? hz)
      obtain ⟨tv, tx, tq⟩ := t
      dsimp only at *
      obtain ⟨j, rfl⟩ : ∃ j : Nat, tv = j := ⟨tv.toNat, by omega⟩
      have hj1 : j < vn := by omega
      obtain ⟨z, hz2⟩ : ∃ z, vs[j]? = some z := ⟨_, List.getElem?_eq_getElem (by have := HVN.out; omega)⟩
      obtain ⟨b2, off2, rfl, _, e0⟩ := (HZ.out.below hb).int hz2
      have HR : Hid (hdB vs ⟨j, tx, tq⟩ = !(decide (z = tx) != tq)) := Lib.hid (hd_val hz2)
      have HZZ := Lib.hid hz
      have HBE := Lib.hid hb
      have hk0 : (0 : Int) ≤ (k : Int) := by omega
      have hk1 : (k : Int) < (ln : Int) := by omega
      clear hz hb hz2 hti
      have hj2 : (0 : Int) ≤ (j : Int) := by omega
      have hj3 : (j : Int) < (vn : Int) := by omega
      by_cases hzx : z = tx
      · subst hzx
        rcases tq with _ | _
        · have HD := Lib.hid (show hdB vs ⟨j, z, false⟩ = false by rw [HR.out]; simp)
          go_wp2
          refine wp_region_held_drew (S := (fun w' => w'.cell? ⟨b, off + k * 3, none⟩ = some (.int .i64 j) ∧ w'.cell? ⟨b, off + k * 3 + 1, none⟩ = some (.int .i64 z) ∧ w'.cell? ⟨b, off + k * 3 + 2, none⟩ = some (.bool false) ∧ w'.cell? ⟨b2, off2 + j, none⟩ = some (.int .i64 z))) (by kernel_rfl) ?_ (fun hHeld => ?_)
          · exact ⟨g0, g1, g2, e0⟩
          refine rg_take (v := ?_) 0 rfl (by kernel_rfl) (by kernel_rfl) (by kernel_rfl) (fun _ _ _ h => h) (by kernel_rfl) ?_ (by assumption) ?_
          rotate_left
          · (intro w' hSw; (try dsimp only at hSw); go_simp; first | done | with_reducible rfl)
          simp only [Act.put, List.setIfInBounds_toArray, List.set_cons_zero, List.set_cons_succ]
          refine rg_take (v := ?_) 1 rfl (by kernel_rfl) (by kernel_rfl) (by kernel_rfl) (fun _ _ _ h => h) (by kernel_rfl) ?_ (by assumption) ?_
          rotate_left
          · (intro w' hSw; (try dsimp only at hSw); go_simp; first | done | with_reducible rfl)
          simp only [Act.put, List.setIfInBounds_toArray, List.set_cons_zero, List.set_cons_succ]
          refine rg_take (v := ?_) 2 rfl (by kernel_rfl) (by kernel_rfl) (by kernel_rfl) (fun _ _ _ h => h) (by kernel_rfl) ?_ (by assumption) ?_
          rotate_left
          · (intro w' hSw; (try dsimp only at hSw); go_simp; first | done | with_reducible rfl)
          simp only [Act.put, List.setIfInBounds_toArray, List.set_cons_zero, List.set_cons_succ]
          refine rg_take (v := ?_) 3 rfl (by kernel_rfl) (by kernel_rfl) (by kernel_rfl) (fun _ _ _ h => h) (by kernel_rfl) ?_ (by assumption) ?_
          rotate_left
          · (intro w' hSw; (try dsimp only at hSw); go_simp; first | done | with_reducible rfl)
          simp only [Act.put, List.setIfInBounds_toArray, List.set_cons_zero, List.set_cons_succ]
          refine rg_take (v := ?_) 4 rfl (by kernel_rfl) (by kernel_rfl) (by kernel_rfl) (fun _ _ _ h => h) (by kernel_rfl) ?_ (by assumption) ?_
          rotate_left
          · (intro w' hSw; (try dsimp only at hSw); go_simp; first | done | with_reducible rfl)
          simp only [Act.put, List.setIfInBounds_toArray, List.set_cons_zero, List.set_cons_succ]
          refine rg_take (v := ?_) 5 rfl (by kernel_rfl) (by kernel_rfl) (by kernel_rfl) (fun _ _ _ h => h) (by kernel_rfl) ?_ (by assumption) ?_
          rotate_left
          · (intro w' hSw; (try dsimp only at hSw); go_simp; first | done | with_reducible rfl)
          simp only [Act.put, List.setIfInBounds_toArray, List.set_cons_zero, List.set_cons_succ]
          refine rg_take (v := ?_) 6 rfl (by kernel_rfl) (by kernel_rfl) (by kernel_rfl) (fun _ _ _ h => h) (by kernel_rfl) ?_ (by assumption) ?_
          rotate_left
          · (intro w' hSw; (try dsimp only at hSw); go_simp; first | done | with_reducible rfl)
          simp only [Act.put, List.setIfInBounds_toArray, List.set_cons_zero, List.set_cons_succ]
          refine rg_take (v := ?_) 7 rfl (by kernel_rfl) (by kernel_rfl) (by kernel_rfl) (fun _ _ _ h => h) (by kernel_rfl) ?_ (by assumption) ?_
          rotate_left
          · (intro w' hSw; (try dsimp only at hSw); go_simp; first | done | with_reducible rfl)
          simp only [Act.put, List.setIfInBounds_toArray, List.set_cons_zero, List.set_cons_succ]
          refine rg_take (v := ?_) 8 rfl (by kernel_rfl) (by kernel_rfl) (by kernel_rfl) (fun _ _ _ h => h) (by kernel_rfl) ?_ (by assumption) ?_
          rotate_left
          · (intro w' hSw; (try dsimp only at hSw); go_simp; first | done | with_reducible rfl)
          simp only [Act.put, List.setIfInBounds_toArray, List.set_cons_zero, List.set_cons_succ]
          refine rg_take (v := ?_) 9 rfl (by kernel_rfl) (by kernel_rfl) (by kernel_rfl) (fun _ _ _ h => h) (by kernel_rfl) ?_ (by assumption) ?_
          rotate_left
          · (intro w' hSw; (try dsimp only at hSw); go_simp; first | done | with_reducible rfl)
          simp only [Act.put, List.setIfInBounds_toArray, List.set_cons_zero, List.set_cons_succ]
          refine rg_take (v := ?_) 10 rfl (by kernel_rfl) (by kernel_rfl) (by kernel_rfl) (fun _ _ _ h => h) (by kernel_rfl) ?_ (by assumption) ?_
          rotate_left
          · (intro w' hSw; (try dsimp only at hSw); go_simp; first | done | with_reducible rfl)
          simp only [Act.put, List.setIfInBounds_toArray, List.set_cons_zero, List.set_cons_succ]
          refine rg_take (v := ?_) 11 rfl (by kernel_rfl) (by kernel_rfl) (by kernel_rfl) (fun _ _ _ h => h) (by kernel_rfl) ?_ (by assumption) ?_
          rotate_left
          · (intro w' hSw; (try dsimp only at hSw); go_simp; first | done | with_reducible rfl)
          simp only [Act.put, List.setIfInBounds_toArray, List.set_cons_zero, List.set_cons_succ]
          refine rg_take (v := ?_) 12 rfl (by kernel_rfl) (by kernel_rfl) (by kernel_rfl) (fun _ _ _ h => h) (by kernel_rfl) ?_ (by assumption) ?_
          rotate_left
          · (intro w' hSw; (try dsimp only at hSw); go_simp; first | done | with_reducible rfl)
          simp only [Act.put, List.setIfInBounds_toArray, List.set_cons_zero, List.set_cons_succ]
          refine rg_take (v := ?_) 13 rfl (by kernel_rfl) (by kernel_rfl) (by kernel_rfl) (fun _ _ _ h => h) (by kernel_rfl) ?_ (by assumption) ?_
          rotate_left
          · (intro w' hSw; (try dsimp only at hSw); go_simp; first | done | with_reducible rfl)
          simp only [Act.put, List.setIfInBounds_toArray, List.set_cons_zero, List.set_cons_succ]
          refine rg_take (v := ?_) 14 rfl (by kernel_rfl) (by kernel_rfl) (by kernel_rfl) (fun _ _ _ h => h) (by kernel_rfl) ?_ (by assumption) ?_
          rotate_left
          · (intro w' hSw; (try dsimp only at hSw); go_simp; first | done | with_reducible rfl)
          simp only [Act.put, List.setIfInBounds_toArray, List.set_cons_zero, List.set_cons_succ]
          refine rg_take (v := ?_) 15 rfl (by kernel_rfl) (by kernel_rfl) (by kernel_rfl) (fun _ _ _ h => h) (by kernel_rfl) ?_ (by assumption) ?_
          rotate_left
          · (intro w' hSw; (try dsimp only at hSw); go_simp; first | done | with_reducible rfl)
          simp only [Act.put, List.setIfInBounds_toArray, List.set_cons_zero, List.set_cons_succ]
          refine rg_take (v := ?_) 16 rfl (by kernel_rfl) (by kernel_rfl) (by kernel_rfl) (fun _ _ _ h => h) (by kernel_rfl) ?_ (by assumption) ?_
          rotate_left
          · (intro w' hSw; (try dsimp only at hSw); go_simp; first | done | with_reducible rfl)
          simp only [Act.put, List.setIfInBounds_toArray, List.set_cons_zero, List.set_cons_succ]
          refine rg_take (v := ?_) 17 rfl (by kernel_rfl) (by kernel_rfl) (by kernel_rfl) (fun _ _ _ h => h) (by kernel_rfl) ?_ (by assumption) ?_
          rotate_left
          · (intro w' hSw; (try dsimp only at hSw); go_simp; first | done | with_reducible rfl)
          simp only [Act.put, List.setIfInBounds_toArray, List.set_cons_zero, List.set_cons_succ]
          refine rg_take (v := ?_) 18 rfl (by kernel_rfl) (by kernel_rfl) (by kernel_rfl) (fun _ _ _ h => h) (by kernel_rfl) ?_ (by assumption) ?_
          rotate_left
          · (intro w' hSw; (try dsimp only at hSw); go_simp; first | done | with_reducible rfl)
          simp only [Act.put, List.setIfInBounds_toArray, List.set_cons_zero, List.set_cons_succ]
          refine rg_take (v := ?_) 19 rfl (by kernel_rfl) (by kernel_rfl) (by kernel_rfl) (fun _ _ _ h => h) (by kernel_rfl) ?_ (by assumption) ?_
          rotate_left
          · (intro w' hSw; (try dsimp only at hSw); go_simp; first | done | with_reducible rfl)
          simp only [Act.put, List.setIfInBounds_toArray, List.set_cons_zero, List.set_cons_succ]
          refine wpAnyH_done (by kernel_rfl) ?_ _
          clear hHeld
          go_wp2
          go_ret
          exact ⟨ret_bool (by rw [← HB0.out, hl_bad HZZ.out HD.out]), HBE.out.drew⟩
        · have HD := Lib.hid (show hdB vs ⟨j, z, true⟩ = true by rw [HR.out]; simp)
          go_wp2
          refine wp_region_held_drew (S := (fun w' => w'.cell? ⟨b, off + k * 3, none⟩ = some (.int .i64 j) ∧ w'.cell? ⟨b, off + k * 3 + 1, none⟩ = some (.int .i64 z) ∧ w'.cell? ⟨b, off + k * 3 + 2, none⟩ = some (.bool true) ∧ w'.cell? ⟨b2, off2 + j, none⟩ = some (.int .i64 z))) (by kernel_rfl) ?_ (fun hHeld => ?_)
          · exact ⟨g0, g1, g2, e0⟩
          refine rg_take (v := ?_) 0 rfl (by kernel_rfl) (by kernel_rfl) (by kernel_rfl) (fun _ _ _ h => h) (by kernel_rfl) ?_ (by assumption) ?_
          rotate_left
          · (intro w' hSw; (try dsimp only at hSw); go_simp; first | done | with_reducible rfl)
          simp only [Act.put, List.setIfInBounds_toArray, List.set_cons_zero, List.set_cons_succ]
          refine rg_take (v := ?_) 1 rfl (by kernel_rfl) (by kernel_rfl) (by kernel_rfl) (fun _ _ _ h => h) (by kernel_rfl) ?_ (by assumption) ?_
          rotate_left
          · (intro w' hSw; (try dsimp only at hSw); go_simp; first | done | with_reducible rfl)
          simp only [Act.put, List.setIfInBounds_toArray, List.set_cons_zero, List.set_cons_succ]
          refine rg_take (v := ?_) 2 rfl (by kernel_rfl) (by kernel_rfl) (by kernel_rfl) (fun _ _ _ h => h) (by kernel_rfl) ?_ (by assumption) ?_
          rotate_left
          · (intro w' hSw; (try dsimp only at hSw); go_simp; first | done | with_reducible rfl)
          simp only [Act.put, List.setIfInBounds_toArray, List.set_cons_zero, List.set_cons_succ]
          refine rg_take (v := ?_) 3 rfl (by kernel_rfl) (by kernel_rfl) (by kernel_rfl) (fun _ _ _ h => h) (by kernel_rfl) ?_ (by assumption) ?_
          rotate_left
          · (intro w' hSw; (try dsimp only at hSw); go_simp; first | done | with_reducible rfl)
          simp only [Act.put, List.setIfInBounds_toArray, List.set_cons_zero, List.set_cons_succ]
          refine rg_take (v := ?_) 4 rfl (by kernel_rfl) (by kernel_rfl) (by kernel_rfl) (fun _ _ _ h => h) (by kernel_rfl) ?_ (by assumption) ?_
          rotate_left
          · (intro w' hSw; (try dsimp only at hSw); go_simp; first | done | with_reducible rfl)
          simp only [Act.put, List.setIfInBounds_toArray, List.set_cons_zero, List.set_cons_succ]
          refine rg_take (v := ?_) 5 rfl (by kernel_rfl) (by kernel_rfl) (by kernel_rfl) (fun _ _ _ h => h) (by kernel_rfl) ?_ (by assumption) ?_
          rotate_left
          · (intro w' hSw; (try dsimp only at hSw); go_simp; first | done | with_reducible rfl)
          simp only [Act.put, List.setIfInBounds_toArray, List.set_cons_zero, List.set_cons_succ]
          refine rg_take (v := ?_) 6 rfl (by kernel_rfl) (by kernel_rfl) (by kernel_rfl) (fun _ _ _ h => h) (by kernel_rfl) ?_ (by assumption) ?_
          rotate_left
          · (intro w' hSw; (try dsimp only at hSw); go_simp; first | done | with_reducible rfl)
          simp only [Act.put, List.setIfInBounds_toArray, List.set_cons_zero, List.set_cons_succ]
          refine rg_take (v := ?_) 7 rfl (by kernel_rfl) (by kernel_rfl) (by kernel_rfl) (fun _ _ _ h => h) (by kernel_rfl) ?_ (by assumption) ?_
          rotate_left
          · (intro w' hSw; (try dsimp only at hSw); go_simp; first | done | with_reducible rfl)
          simp only [Act.put, List.setIfInBounds_toArray, List.set_cons_zero, List.set_cons_succ]
          refine rg_take (v := ?_) 8 rfl (by kernel_rfl) (by kernel_rfl) (by kernel_rfl) (fun _ _ _ h => h) (by kernel_rfl) ?_ (by assumption) ?_
          rotate_left
          · (intro w' hSw; (try dsimp only at hSw); go_simp; first | done | with_reducible rfl)
          simp only [Act.put, List.setIfInBounds_toArray, List.set_cons_zero, List.set_cons_succ]
          refine rg_take (v := ?_) 9 rfl (by kernel_rfl) (by kernel_rfl) (by kernel_rfl) (fun _ _ _ h => h) (by kernel_rfl) ?_ (by assumption) ?_
          rotate_left
          · (intro w' hSw; (try dsimp only at hSw); go_simp; first | done | with_reducible rfl)
          simp only [Act.put, List.setIfInBounds_toArray, List.set_cons_zero, List.set_cons_succ]
          refine rg_take (v := ?_) 10 rfl (by kernel_rfl) (by kernel_rfl) (by kernel_rfl) (fun _ _ _ h => h) (by kernel_rfl) ?_ (by assumption) ?_
          rotate_left
          · (intro w' hSw; (try dsimp only at hSw); go_simp; first | done | with_reducible rfl)
          simp only [Act.put, List.setIfInBounds_toArray, List.set_cons_zero, List.set_cons_succ]
          refine rg_take (v := ?_) 11 rfl (by kernel_rfl) (by kernel_rfl) (by kernel_rfl) (fun _ _ _ h => h) (by kernel_rfl) ?_ (by assumption) ?_
          rotate_left
          · (intro w' hSw; (try dsimp only at hSw); go_simp; first | done | with_reducible rfl)
          simp only [Act.put, List.setIfInBounds_toArray, List.set_cons_zero, List.set_cons_succ]
          refine rg_take (v := ?_) 12 rfl (by kernel_rfl) (by kernel_rfl) (by kernel_rfl) (fun _ _ _ h => h) (by kernel_rfl) ?_ (by assumption) ?_
          rotate_left
          · (intro w' hSw; (try dsimp only at hSw); go_simp; first | done | with_reducible rfl)
          simp only [Act.put, List.setIfInBounds_toArray, List.set_cons_zero, List.set_cons_succ]
          refine rg_take (v := ?_) 13 rfl (by kernel_rfl) (by kernel_rfl) (by kernel_rfl) (fun _ _ _ h => h) (by kernel_rfl) ?_ (by assumption) ?_
          rotate_left
          · (intro w' hSw; (try dsimp only at hSw); go_simp; first | done | with_reducible rfl)
          simp only [Act.put, List.setIfInBounds_toArray, List.set_cons_zero, List.set_cons_succ]
          refine rg_take (v := ?_) 14 rfl (by kernel_rfl) (by kernel_rfl) (by kernel_rfl) (fun _ _ _ h => h) (by kernel_rfl) ?_ (by assumption) ?_
          rotate_left
          · (intro w' hSw; (try dsimp only at hSw); go_simp; first | done | with_reducible rfl)
          simp only [Act.put, List.setIfInBounds_toArray, List.set_cons_zero, List.set_cons_succ]
          refine rg_take (v := ?_) 15 rfl (by kernel_rfl) (by kernel_rfl) (by kernel_rfl) (fun _ _ _ h => h) (by kernel_rfl) ?_ (by assumption) ?_
          rotate_left
          · (intro w' hSw; (try dsimp only at hSw); go_simp; first | done | with_reducible rfl)
          simp only [Act.put, List.setIfInBounds_toArray, List.set_cons_zero, List.set_cons_succ]
          refine rg_take (v := ?_) 16 rfl (by kernel_rfl) (by kernel_rfl) (by kernel_rfl) (fun _ _ _ h => h) (by kernel_rfl) ?_ (by assumption) ?_
          rotate_left
          · (intro w' hSw; (try dsimp only at hSw); go_simp; first | done | with_reducible rfl)
          simp only [Act.put, List.setIfInBounds_toArray, List.set_cons_zero, List.set_cons_succ]
          refine rg_take (v := ?_) 17 rfl (by kernel_rfl) (by kernel_rfl) (by kernel_rfl) (fun _ _ _ h => h) (by kernel_rfl) ?_ (by assumption) ?_
          rotate_left
          · (intro w' hSw; (try dsimp only at hSw); go_simp; first | done | with_reducible rfl)
          simp only [Act.put, List.setIfInBounds_toArray, List.set_cons_zero, List.set_cons_succ]
          refine rg_take (v := ?_) 18 rfl (by kernel_rfl) (by kernel_rfl) (by kernel_rfl) (fun _ _ _ h => h) (by kernel_rfl) ?_ (by assumption) ?_
          rotate_left
          · (intro w' hSw; (try dsimp only at hSw); go_simp; first | done | with_reducible rfl)
          simp only [Act.put, List.setIfInBounds_toArray, List.set_cons_zero, List.set_cons_succ]
          refine rg_take (v := ?_) 19 rfl (by kernel_rfl) (by kernel_rfl) (by kernel_rfl) (fun _ _ _ h => h) (by kernel_rfl) ?_ (by assumption) ?_
          rotate_left
          · (intro w' hSw; (try dsimp only at hSw); go_simp; first | done | with_reducible rfl)
          simp only [Act.put, List.setIfInBounds_toArray, List.set_cons_zero, List.set_cons_succ]
          refine wpAnyH_done (by kernel_rfl) ?_ _
          clear hHeld
          go_wp2
          go_roundw
          case rel => exact ⟨k + 1, by omega, by go_num, Lib.hid (hl_snoc HZZ.out ha.out HD.out), HBE.out.drew⟩
          case measure => simp [intOf]; omega
      · have hz2 : (z == tx) = false := by simpa using hzx
        rcases tq with _ | _
        · have HD := Lib.hid (show hdB vs ⟨j, tx, false⟩ = true by rw [HR.out]; simp [hzx])
          go_wp2
          refine wp_region_held_drew (S := (fun w' => w'.cell? ⟨b, off + k * 3, none⟩ = some (.int .i64 j) ∧ w'.cell? ⟨b, off + k * 3 + 1, none⟩ = some (.int .i64 tx) ∧ w'.cell? ⟨b, off + k * 3 + 2, none⟩ = some (.bool false) ∧ w'.cell? ⟨b2, off2 + j, none⟩ = some (.int .i64 z))) (by kernel_rfl) ?_ (fun hHeld => ?_)
          · exact ⟨g0, g1, g2, e0⟩
          refine rg_take (v := ?_) 0 rfl (by kernel_rfl) (by kernel_rfl) (by kernel_rfl) (fun _ _ _ h => h) (by kernel_rfl) ?_ (by assumption) ?_
          rotate_left
          · (intro w' hSw; (try dsimp only at hSw); go_simp; first | done | with_reducible rfl)
          simp only [Act.put, List.setIfInBounds_toArray, List.set_cons_zero, List.set_cons_succ]
          refine rg_take (v := ?_) 1 rfl (by kernel_rfl) (by kernel_rfl) (by kernel_rfl) (fun _ _ _ h => h) (by kernel_rfl) ?_ (by assumption) ?_
          rotate_left
          · (intro w' hSw; (try dsimp only at hSw); go_simp; first | done | with_reducible rfl)
          simp only [Act.put, List.setIfInBounds_toArray, List.set_cons_zero, List.set_cons_succ]
          refine rg_take (v := ?_) 2 rfl (by kernel_rfl) (by kernel_rfl) (by kernel_rfl) (fun _ _ _ h => h) (by kernel_rfl) ?_ (by assumption) ?_
          rotate_left
          · (intro w' hSw; (try dsimp only at hSw); go_simp; first | done | with_reducible rfl)
          simp only [Act.put, List.setIfInBounds_toArray, List.set_cons_zero, List.set_cons_succ]
          refine rg_take (v := ?_) 3 rfl (by kernel_rfl) (by kernel_rfl) (by kernel_rfl) (fun _ _ _ h => h) (by kernel_rfl) ?_ (by assumption) ?_
          rotate_left
          · (intro w' hSw; (try dsimp only at hSw); go_simp; first | done | with_reducible rfl)
          simp only [Act.put, List.setIfInBounds_toArray, List.set_cons_zero, List.set_cons_succ]
          refine rg_take (v := ?_) 4 rfl (by kernel_rfl) (by kernel_rfl) (by kernel_rfl) (fun _ _ _ h => h) (by kernel_rfl) ?_ (by assumption) ?_
          rotate_left
          · (intro w' hSw; (try dsimp only at hSw); go_simp; first | done | with_reducible rfl)
          simp only [Act.put, List.setIfInBounds_toArray, List.set_cons_zero, List.set_cons_succ]
          refine rg_take (v := ?_) 5 rfl (by kernel_rfl) (by kernel_rfl) (by kernel_rfl) (fun _ _ _ h => h) (by kernel_rfl) ?_ (by assumption) ?_
          rotate_left
          · (intro w' hSw; (try dsimp only at hSw); go_simp; first | done | with_reducible rfl)
          simp only [Act.put, List.setIfInBounds_toArray, List.set_cons_zero, List.set_cons_succ]
          refine rg_take (v := ?_) 6 rfl (by kernel_rfl) (by kernel_rfl) (by kernel_rfl) (fun _ _ _ h => h) (by kernel_rfl) ?_ (by assumption) ?_
          rotate_left
          · (intro w' hSw; (try dsimp only at hSw); go_simp; first | done | with_reducible rfl)
          simp only [Act.put, List.setIfInBounds_toArray, List.set_cons_zero, List.set_cons_succ]
          refine rg_take (v := ?_) 7 rfl (by kernel_rfl) (by kernel_rfl) (by kernel_rfl) (fun _ _ _ h => h) (by kernel_rfl) ?_ (by assumption) ?_
          rotate_left
          · (intro w' hSw; (try dsimp only at hSw); go_simp; first | done | with_reducible rfl)
          simp only [Act.put, List.setIfInBounds_toArray, List.set_cons_zero, List.set_cons_succ]
          refine rg_take (v := ?_) 8 rfl (by kernel_rfl) (by kernel_rfl) (by kernel_rfl) (fun _ _ _ h => h) (by kernel_rfl) ?_ (by assumption) ?_
          rotate_left
          · (intro w' hSw; (try dsimp only at hSw); go_simp; first | done | with_reducible rfl)
          simp only [Act.put, List.setIfInBounds_toArray, List.set_cons_zero, List.set_cons_succ]
          refine rg_take (v := ?_) 9 rfl (by kernel_rfl) (by kernel_rfl) (by kernel_rfl) (fun _ _ _ h => h) (by kernel_rfl) ?_ (by assumption) ?_
          rotate_left
          · (intro w' hSw; (try dsimp only at hSw); go_simp; first | done | with_reducible rfl)
          simp only [Act.put, List.setIfInBounds_toArray, List.set_cons_zero, List.set_cons_succ]
          refine rg_take (v := ?_) 10 rfl (by kernel_rfl) (by kernel_rfl) (by kernel_rfl) (fun _ _ _ h => h) (by kernel_rfl) ?_ (by assumption) ?_
          rotate_left
          · (intro w' hSw; (try dsimp only at hSw); go_simp; first | done | with_reducible rfl)
          simp only [Act.put, List.setIfInBounds_toArray, List.set_cons_zero, List.set_cons_succ]
          refine rg_take (v := ?_) 11 rfl (by kernel_rfl) (by kernel_rfl) (by kernel_rfl) (fun _ _ _ h => h) (by kernel_rfl) ?_ (by assumption) ?_
          rotate_left
          · (intro w' hSw; (try dsimp only at hSw); go_simp; first | done | with_reducible rfl)
          simp only [Act.put, List.setIfInBounds_toArray, List.set_cons_zero, List.set_cons_succ]
          refine rg_take (v := ?_) 12 rfl (by kernel_rfl) (by kernel_rfl) (by kernel_rfl) (fun _ _ _ h => h) (by kernel_rfl) ?_ (by assumption) ?_
          rotate_left
          · (intro w' hSw; (try dsimp only at hSw); go_simp; first | done | with_reducible rfl)
          simp only [Act.put, List.setIfInBounds_toArray, List.set_cons_zero, List.set_cons_succ]
          refine rg_take (v := ?_) 13 rfl (by kernel_rfl) (by kernel_rfl) (by kernel_rfl) (fun _ _ _ h => h) (by kernel_rfl) ?_ (by assumption) ?_
          rotate_left
          · (intro w' hSw; (try dsimp only at hSw); go_simp; first | done | with_reducible rfl)
          simp only [Act.put, List.setIfInBounds_toArray, List.set_cons_zero, List.set_cons_succ]
          refine rg_take (v := ?_) 14 rfl (by kernel_rfl) (by kernel_rfl) (by kernel_rfl) (fun _ _ _ h => h) (by kernel_rfl) ?_ (by assumption) ?_
          rotate_left
          · (intro w' hSw; (try dsimp only at hSw); go_simp; first | done | with_reducible rfl)
          simp only [Act.put, List.setIfInBounds_toArray, List.set_cons_zero, List.set_cons_succ]
          refine rg_take (v := ?_) 15 rfl (by kernel_rfl) (by kernel_rfl) (by kernel_rfl) (fun _ _ _ h => h) (by kernel_rfl) ?_ (by assumption) ?_
          rotate_left
          · (intro w' hSw; (try dsimp only at hSw); go_simp; first | done | with_reducible rfl)
          simp only [Act.put, List.setIfInBounds_toArray, List.set_cons_zero, List.set_cons_succ]
          refine rg_take (v := ?_) 16 rfl (by kernel_rfl) (by kernel_rfl) (by kernel_rfl) (fun _ _ _ h => h) (by kernel_rfl) ?_ (by assumption) ?_
          rotate_left
          · (intro w' hSw; (try dsimp only at hSw); go_simp; first | done | with_reducible rfl)
          simp only [Act.put, List.setIfInBounds_toArray, List.set_cons_zero, List.set_cons_succ]
          refine rg_take (v := ?_) 17 rfl (by kernel_rfl) (by kernel_rfl) (by kernel_rfl) (fun _ _ _ h => h) (by kernel_rfl) ?_ (by assumption) ?_
          rotate_left
          · (intro w' hSw; (try dsimp only at hSw); go_simp; first | done | with_reducible rfl)
          simp only [Act.put, List.setIfInBounds_toArray, List.set_cons_zero, List.set_cons_succ]
          refine rg_take (v := ?_) 18 rfl (by kernel_rfl) (by kernel_rfl) (by kernel_rfl) (fun _ _ _ h => h) (by kernel_rfl) ?_ (by assumption) ?_
          rotate_left
          · (intro w' hSw; (try dsimp only at hSw); go_simp; first | done | with_reducible rfl)
          simp only [Act.put, List.setIfInBounds_toArray, List.set_cons_zero, List.set_cons_succ]
          refine rg_take (v := ?_) 19 rfl (by kernel_rfl) (by kernel_rfl) (by kernel_rfl) (fun _ _ _ h => h) (by kernel_rfl) ?_ (by assumption) ?_
          rotate_left
          · (intro w' hSw; (try dsimp only at hSw); go_simp; first | done | with_reducible rfl)
          simp only [Act.put, List.setIfInBounds_toArray, List.set_cons_zero, List.set_cons_succ]
          refine wpAnyH_done (by kernel_rfl) ?_ _
          clear hHeld
          go_wp2
          go_roundw
          case rel => exact ⟨k + 1, by omega, by go_num, Lib.hid (hl_snoc HZZ.out ha.out HD.out), HBE.out.drew⟩
          case measure => simp [intOf]; omega
        · have HD := Lib.hid (show hdB vs ⟨j, tx, true⟩ = false by rw [HR.out]; simp [hzx])
          go_wp2
          refine wp_region_held_drew (S := (fun w' => w'.cell? ⟨b, off + k * 3, none⟩ = some (.int .i64 j) ∧ w'.cell? ⟨b, off + k * 3 + 1, none⟩ = some (.int .i64 tx) ∧ w'.cell? ⟨b, off + k * 3 + 2, none⟩ = some (.bool true) ∧ w'.cell? ⟨b2, off2 + j, none⟩ = some (.int .i64 z))) (by kernel_rfl) ?_ (fun hHeld => ?_)
          · exact ⟨g0, g1, g2, e0⟩
          refine rg_take (v := ?_) 0 rfl (by kernel_rfl) (by kernel_rfl) (by kernel_rfl) (fun _ _ _ h => h) (by kernel_rfl) ?_ (by assumption) ?_
          rotate_left
          · (intro w' hSw; (try dsimp only at hSw); go_simp; first | done | with_reducible rfl)
          simp only [Act.put, List.setIfInBounds_toArray, List.set_cons_zero, List.set_cons_succ]
          refine rg_take (v := ?_) 1 rfl (by kernel_rfl) (by kernel_rfl) (by kernel_rfl) (fun _ _ _ h => h) (by kernel_rfl) ?_ (by assumption) ?_
          rotate_left
          · (intro w' hSw; (try dsimp only at hSw); go_simp; first | done | with_reducible rfl)
          simp only [Act.put, List.setIfInBounds_toArray, List.set_cons_zero, List.set_cons_succ]
          refine rg_take (v := ?_) 2 rfl (by kernel_rfl) (by kernel_rfl) (by kernel_rfl) (fun _ _ _ h => h) (by kernel_rfl) ?_ (by assumption) ?_
          rotate_left
          · (intro w' hSw; (try dsimp only at hSw); go_simp; first | done | with_reducible rfl)
          simp only [Act.put, List.setIfInBounds_toArray, List.set_cons_zero, List.set_cons_succ]
          refine rg_take (v := ?_) 3 rfl (by kernel_rfl) (by kernel_rfl) (by kernel_rfl) (fun _ _ _ h => h) (by kernel_rfl) ?_ (by assumption) ?_
          rotate_left
          · (intro w' hSw; (try dsimp only at hSw); go_simp; first | done | with_reducible rfl)
          simp only [Act.put, List.setIfInBounds_toArray, List.set_cons_zero, List.set_cons_succ]
          refine rg_take (v := ?_) 4 rfl (by kernel_rfl) (by kernel_rfl) (by kernel_rfl) (fun _ _ _ h => h) (by kernel_rfl) ?_ (by assumption) ?_
          rotate_left
          · (intro w' hSw; (try dsimp only at hSw); go_simp; first | done | with_reducible rfl)
          simp only [Act.put, List.setIfInBounds_toArray, List.set_cons_zero, List.set_cons_succ]
          refine rg_take (v := ?_) 5 rfl (by kernel_rfl) (by kernel_rfl) (by kernel_rfl) (fun _ _ _ h => h) (by kernel_rfl) ?_ (by assumption) ?_
          rotate_left
          · (intro w' hSw; (try dsimp only at hSw); go_simp; first | done | with_reducible rfl)
          simp only [Act.put, List.setIfInBounds_toArray, List.set_cons_zero, List.set_cons_succ]
          refine rg_take (v := ?_) 6 rfl (by kernel_rfl) (by kernel_rfl) (by kernel_rfl) (fun _ _ _ h => h) (by kernel_rfl) ?_ (by assumption) ?_
          rotate_left
          · (intro w' hSw; (try dsimp only at hSw); go_simp; first | done | with_reducible rfl)
          simp only [Act.put, List.setIfInBounds_toArray, List.set_cons_zero, List.set_cons_succ]
          refine rg_take (v := ?_) 7 rfl (by kernel_rfl) (by kernel_rfl) (by kernel_rfl) (fun _ _ _ h => h) (by kernel_rfl) ?_ (by assumption) ?_
          rotate_left
          · (intro w' hSw; (try dsimp only at hSw); go_simp; first | done | with_reducible rfl)
          simp only [Act.put, List.setIfInBounds_toArray, List.set_cons_zero, List.set_cons_succ]
          refine rg_take (v := ?_) 8 rfl (by kernel_rfl) (by kernel_rfl) (by kernel_rfl) (fun _ _ _ h => h) (by kernel_rfl) ?_ (by assumption) ?_
          rotate_left
          · (intro w' hSw; (try dsimp only at hSw); go_simp; first | done | with_reducible rfl)
          simp only [Act.put, List.setIfInBounds_toArray, List.set_cons_zero, List.set_cons_succ]
          refine rg_take (v := ?_) 9 rfl (by kernel_rfl) (by kernel_rfl) (by kernel_rfl) (fun _ _ _ h => h) (by kernel_rfl) ?_ (by assumption) ?_
          rotate_left
          · (intro w' hSw; (try dsimp only at hSw); go_simp; first | done | with_reducible rfl)
          simp only [Act.put, List.setIfInBounds_toArray, List.set_cons_zero, List.set_cons_succ]
          refine rg_take (v := ?_) 10 rfl (by kernel_rfl) (by kernel_rfl) (by kernel_rfl) (fun _ _ _ h => h) (by kernel_rfl) ?_ (by assumption) ?_
          rotate_left
          · (intro w' hSw; (try dsimp only at hSw); go_simp; first | done | with_reducible rfl)
          simp only [Act.put, List.setIfInBounds_toArray, List.set_cons_zero, List.set_cons_succ]
          refine rg_take (v := ?_) 11 rfl (by kernel_rfl) (by kernel_rfl) (by kernel_rfl) (fun _ _ _ h => h) (by kernel_rfl) ?_ (by assumption) ?_
          rotate_left
          · (intro w' hSw; (try dsimp only at hSw); go_simp; first | done | with_reducible rfl)
          simp only [Act.put, List.setIfInBounds_toArray, List.set_cons_zero, List.set_cons_succ]
          refine rg_take (v := ?_) 12 rfl (by kernel_rfl) (by kernel_rfl) (by kernel_rfl) (fun _ _ _ h => h) (by kernel_rfl) ?_ (by assumption) ?_
          rotate_left
          · (intro w' hSw; (try dsimp only at hSw); go_simp; first | done | with_reducible rfl)
          simp only [Act.put, List.setIfInBounds_toArray, List.set_cons_zero, List.set_cons_succ]
          refine rg_take (v := ?_) 13 rfl (by kernel_rfl) (by kernel_rfl) (by kernel_rfl) (fun _ _ _ h => h) (by kernel_rfl) ?_ (by assumption) ?_
          rotate_left
          · (intro w' hSw; (try dsimp only at hSw); go_simp; first | done | with_reducible rfl)
          simp only [Act.put, List.setIfInBounds_toArray, List.set_cons_zero, List.set_cons_succ]
          refine rg_take (v := ?_) 14 rfl (by kernel_rfl) (by kernel_rfl) (by kernel_rfl) (fun _ _ _ h => h) (by kernel_rfl) ?_ (by assumption) ?_
          rotate_left
          · (intro w' hSw; (try dsimp only at hSw); go_simp; first | done | with_reducible rfl)
          simp only [Act.put, List.setIfInBounds_toArray, List.set_cons_zero, List.set_cons_succ]
          refine rg_take (v := ?_) 15 rfl (by kernel_rfl) (by kernel_rfl) (by kernel_rfl) (fun _ _ _ h => h) (by kernel_rfl) ?_ (by assumption) ?_
          rotate_left
          · (intro w' hSw; (try dsimp only at hSw); go_simp; first | done | with_reducible rfl)
          simp only [Act.put, List.setIfInBounds_toArray, List.set_cons_zero, List.set_cons_succ]
          refine rg_take (v := ?_) 16 rfl (by kernel_rfl) (by kernel_rfl) (by kernel_rfl) (fun _ _ _ h => h) (by kernel_rfl) ?_ (by assumption) ?_
          rotate_left
          · (intro w' hSw; (try dsimp only at hSw); go_simp; first | done | with_reducible rfl)
          simp only [Act.put, List.setIfInBounds_toArray, List.set_cons_zero, List.set_cons_succ]
          refine rg_take (v := ?_) 17 rfl (by kernel_rfl) (by kernel_rfl) (by kernel_rfl) (fun _ _ _ h => h) (by kernel_rfl) ?_ (by assumption) ?_
          rotate_left
          · (intro w' hSw; (try dsimp only at hSw); go_simp; first | done | with_reducible rfl)
          simp only [Act.put, List.setIfInBounds_toArray, List.set_cons_zero, List.set_cons_succ]
          refine rg_take (v := ?_) 18 rfl (by kernel_rfl) (by kernel_rfl) (by kernel_rfl) (fun _ _ _ h => h) (by kernel_rfl) ?_ (by assumption) ?_
          rotate_left
          · (intro w' hSw; (try dsimp only at hSw); go_simp; first | done | with_reducible rfl)
          simp only [Act.put, List.setIfInBounds_toArray, List.set_cons_zero, List.set_cons_succ]
          refine rg_take (v := ?_) 19 rfl (by kernel_rfl) (by kernel_rfl) (by kernel_rfl) (fun _ _ _ h => h) (by kernel_rfl) ?_ (by assumption) ?_
          rotate_left
          · (intro w' hSw; (try dsimp only at hSw); go_simp; first | done | with_reducible rfl)
          simp only [Act.put, List.setIfInBounds_toArray, List.set_cons_zero, List.set_cons_succ]
          refine wpAnyH_done (by kernel_rfl) ?_ _
          clear hHeld
          go_wp2
          go_ret
          exact ⟨ret_bool (by rw [← HB0.out, hl_bad HZZ.out HD.out]), HBE.out.drew⟩
    · obtain rfl : k = ln := by omega
      have hA := ha.out
      rw [List.take_of_length_le (by have := HLN.out; omega), HB0.out] at hA
      have HA := Lib.hid hA
      clear hA ha
      go_wp2
      go_ret
      exact ⟨ret_bool HA.out.symm, hb⟩
end Go.Proofs.YtdjehopcpjkgjaaGreat

/- stateCode and l20Code, HoldsIn on both sides. Condition: the lengths are those that the laws let by. -/
namespace Go.Proofs.YtdjehopcpjkgjaaGreat
open Go.RowKit

theorem md_szs {m : Mdl} (h : mdB m = true) : SzsOk m.sz := by
  unfold mdB szB at h
  simp only [Bool.and_eq_true, Bool.not_eq_true'] at h
  exact szB_ok h.1
theorem st_len {sz vs : List Int} (h : stB sz vs = true) : vs.length = sz.length := by
  unfold stB at h
  simp only [Bool.and_eq_true, decide_eq_true_eq] at h
  exact h.1
def stC (m : Mdl) (vs : List Int) : Int := if mdB m then (if stB m.sz vs then 0 else 2) else 1
/-- What HoldsIn hands back: a bool and a code. -/
def RetBC (b : Bool) (c : Int) (w : World) (e : Ending) (w' : World) : Prop := e = .returned (.tuple #[.bool b, .int .i64 c]) ∧ Below w.heap.size w w'
def hiB (m : Mdl) (vs : List Int) (ts : List Tst) : Bool := mdB m && (stB m.sz vs && (tsB m.sz ts && hlB vs ts))
def hiC (m : Mdl) (vs : List Int) (ts : List Tst) : Int := if mdB m then (if stB m.sz vs && tsB m.sz ts then 0 else 2) else 1
set_option maxRecDepth 100000 in
theorem c_stateCode (m : Mdl) (az ax ar : Option Addr) (cz cs cr : Nat) (A : Option Addr) (c : Nat) (vs : List Int) (w : World) (hok : MOk m) (hl : vs.length ≤ 1048576) (h : Md w az ax ar m) (hv : Rd w A (ints vs)) :
    Calls Tryz.prog 29 #[mv m az ax ar cz cs cr, .slice A vs.length c] w fun e w' => e = .returned (.int .i64 (stC m vs)) ∧ Below w.heap.size w w' := by
  have HI := Lib.hid (fun w' h => c_IsModel m az ax ar cz cs cr w' hok h)
  have HST := Lib.hid (fun w' hs h hv => c_isState m az ax ar cz cs cr A c vs w' hs hok.1.1 hl h hv)
  have HS := Lib.hid (fun h => md_szs (m := m) h)
  have HM := Lib.hid h
  have HV := Lib.hid hv
  have HR := Lib.hid (show stC m vs = if mdB m then (if stB m.sz vs then 0 else 2) else 1 from rfl)
  generalize stC m vs = R at HR ⊢
  generalize stB m.sz vs = A3 at *
  generalize mdB m = A1 at *
  clear h hv hok
  dsimp only [mv] at *
  generalize m.sz.length = sn at *
  generalize m.st.length = tn at *
  generalize m.rs.length = rn at *
  generalize vs.length = vn at *
  rcases A1 with _ | _
  · have e := HR.out
    rw [if_neg (by simp)] at e
    subst e
    go_enter Tryz.func29, Tryz.ntmps29
    go_wp2_with (fail)
    refine (HI.out _ (HM.out.alloc _)).mono ?_
    rintro e w1 ⟨rfl, hb⟩
    have HB := Lib.hid (below_chain (by (repeat (first | exact Below.refl _ _ | assumption | refine below_alloc ?_ _ | refine below_drewN ?_ _ | refine below_set ?_ _ (by simp; try omega) | refine Below.drew ?_)) : Below w.heap.size w _) hb)
    clear hb
    go_wp2
    go_ret
    exact ⟨rfl, HB.out⟩
  have e := HR.out
  rw [if_pos rfl] at e
  have HR2 := Lib.hid e
  have HSS := Lib.hid (HS.out rfl)
  clear e HR HS
  go_enter Tryz.func29, Tryz.ntmps29
  go_wp2_with (fail)
  refine (HI.out _ (HM.out.alloc _)).mono ?_
  rintro e w1 ⟨rfl, hb⟩
  have k0 : w1.cell? ⟨w.heap.size, 0, none⟩ = some (.slice az sn cz) := cell_later hb (by go_simp)
  have k1 : w1.cell? ⟨w.heap.size, 1, none⟩ = some (.slice ax tn cs) := cell_later hb (by go_simp)
  have k2 : w1.cell? ⟨w.heap.size, 2, none⟩ = some (.slice ar rn cr) := cell_later hb (by go_simp)
  have HB := Lib.hid (below_chain (by (repeat (first | exact Below.refl _ _ | assumption | refine below_alloc ?_ _ | refine below_drewN ?_ _ | refine below_set ?_ _ (by simp; try omega) | refine Below.drew ?_)) : Below w.heap.size w _) hb)
  clear hb
  rcases A3 with _ | _
  · have e := HR2.out
    rw [if_neg (by simp)] at e
    subst e
    go_wp2_with (fail)
    refine (HST.out _ HSS.out (HM.out.z.below HB.out) (HV.out.below HB.out)).mono ?_
    rintro e w2 ⟨rfl, hb⟩
    have HB2 := Lib.hid (below_chain HB.out hb)
    clear hb
    go_wp2
    go_ret
    exact ⟨rfl, HB2.out⟩
  · have e := HR2.out
    rw [if_pos rfl] at e
    subst e
    go_wp2_with (fail)
    refine (HST.out _ HSS.out (HM.out.z.below HB.out) (HV.out.below HB.out)).mono ?_
    rintro e w2 ⟨rfl, hb⟩
    have HB2 := Lib.hid (below_chain HB.out hb)
    clear hb
    go_wp2
    go_ret
    exact ⟨rfl, HB2.out⟩
set_option maxRecDepth 100000 in
theorem c_l20Code (m : Mdl) (az ax ar : Option Addr) (cz cs cr : Nat) (A : Option Addr) (c : Nat) (vs : List Int) (w : World) (hok : MOk m) (hl : vs.length ≤ 1048576) (h : Md w az ax ar m) (hv : Rd w A (ints vs)) :
    Calls Tryz.prog 24 #[mv m az ax ar cz cs cr, .slice A vs.length c] w fun e w' => e = .returned (.int .i64 (stC m vs)) ∧ Below w.heap.size w w' := by
  have HI := Lib.hid (fun w' h => c_sIsModel m az ax ar cz cs cr w' hok h)
  have HST := Lib.hid (fun w' hs h hv => c_l20State m az ax ar cz cs cr A c vs w' hs hok.1.1 hl h hv)
  have HS := Lib.hid (fun h => md_szs (m := m) h)
  have HM := Lib.hid h
  have HV := Lib.hid hv
  have HR := Lib.hid (show stC m vs = if mdB m then (if stB m.sz vs then 0 else 2) else 1 from rfl)
  generalize stC m vs = R at HR ⊢
  generalize stB m.sz vs = A3 at *
  generalize mdB m = A1 at *
  clear h hv hok
  dsimp only [mv] at *
  generalize m.sz.length = sn at *
  generalize m.st.length = tn at *
  generalize m.rs.length = rn at *
  generalize vs.length = vn at *
  rcases A1 with _ | _
  · have e := HR.out
    rw [if_neg (by simp)] at e
    subst e
    go_enter Tryz.func24, Tryz.ntmps24
    go_wp2_with (fail)
    refine (HI.out _ (HM.out.alloc _)).mono ?_
    rintro e w1 ⟨rfl, hb⟩
    have HB := Lib.hid (below_chain (by (repeat (first | exact Below.refl _ _ | assumption | refine below_alloc ?_ _ | refine below_drewN ?_ _ | refine below_set ?_ _ (by simp; try omega) | refine Below.drew ?_)) : Below w.heap.size w _) hb)
    clear hb
    go_wp2
    go_ret
    exact ⟨rfl, HB.out⟩
  have e := HR.out
  rw [if_pos rfl] at e
  have HR2 := Lib.hid e
  have HSS := Lib.hid (HS.out rfl)
  clear e HR HS
  go_enter Tryz.func24, Tryz.ntmps24
  go_wp2_with (fail)
  refine (HI.out _ (HM.out.alloc _)).mono ?_
  rintro e w1 ⟨rfl, hb⟩
  have k0 : w1.cell? ⟨w.heap.size, 0, none⟩ = some (.slice az sn cz) := cell_later hb (by go_simp)
  have k1 : w1.cell? ⟨w.heap.size, 1, none⟩ = some (.slice ax tn cs) := cell_later hb (by go_simp)
  have k2 : w1.cell? ⟨w.heap.size, 2, none⟩ = some (.slice ar rn cr) := cell_later hb (by go_simp)
  have HB := Lib.hid (below_chain (by (repeat (first | exact Below.refl _ _ | assumption | refine below_alloc ?_ _ | refine below_drewN ?_ _ | refine below_set ?_ _ (by simp; try omega) | refine Below.drew ?_)) : Below w.heap.size w _) hb)
  clear hb
  rcases A3 with _ | _
  · have e := HR2.out
    rw [if_neg (by simp)] at e
    subst e
    go_wp2_with (fail)
    refine (HST.out _ HSS.out (HM.out.z.below HB.out) (HV.out.below HB.out)).mono ?_
    rintro e w2 ⟨rfl, hb⟩
    have HB2 := Lib.hid (below_chain HB.out hb)
    clear hb
    go_wp2
    go_ret
    exact ⟨rfl, HB2.out⟩
  · have e := HR2.out
    rw [if_pos rfl] at e
    subst e
    go_wp2_with (fail)
    refine (HST.out _ HSS.out (HM.out.z.below HB.out) (HV.out.below HB.out)).mono ?_
    rintro e w2 ⟨rfl, hb⟩
    have HB2 := Lib.hid (below_chain HB.out hb)
    clear hb
    go_wp2
    go_ret
    exact ⟨rfl, HB2.out⟩
end Go.Proofs.YtdjehopcpjkgjaaGreat

/- Helpers for the laws over models: a copied model. No condition. -/
namespace Go.Proofs.YtdjehopcpjkgjaaGreat
open Go.RowKit

/-- What is let by of a model whose size was reckoned. -/
theorem mok_of {m : Mdl} (h1 : MSzOk m) (h2 : MdlOk m) : MOk m := ⟨h2, fun r hr => (h1.2.2.2 r hr).1⟩
/-- RetMdl, the lengths written out. -/
def RetM2 (m : Mdl) (sn tn rn : Nat) (w : World) (e : Ending) (w' : World) : Prop :=
  ∃ az ax ar cz cs cr, ∃ ds : List RuD, e = .returned (.agg #[.slice az sn cz, .slice ax tn cs, .slice ar rn cr]) ∧ MOwn w' w.heap.size az ax ar cz cs cr m ds ∧ Below w.heap.size w w'
theorem c_toModel2 (m : Mdl) (az ax ar : Option Addr) (cz cs cr : Nat) (w : World) (hs : MdlOk m) (h : Md w az ax ar m) :
    Calls Tryz.prog 8 #[mv m az ax ar cz cs cr] w (RetM2 m m.sz.length m.st.length m.rs.length w) := c_toModel m az ax ar cz cs cr w hs h
end Go.Proofs.YtdjehopcpjkgjaaGreat

/- Results of the laws' own copies, the lengths written out. No condition but the lengths. -/
namespace Go.Proofs.YtdjehopcpjkgjaaGreat
open Go.RowKit

def RetI2 (n : Nat) (zs : List Int) (w : World) (e : Ending) (w' : World) : Prop :=
  ∃ A c, e = .returned (.slice A n c) ∧ w'.ownsRow w.heap.size 2 1 (.slice A n c) n (ints zs) ∧ Below w.heap.size w w'
theorem c_toInts2 (A : Option Addr) (c : Nat) (zs : List Int) (w : World) (hs : zs.length ≤ 1048576) (hr : Rd w A (ints zs)) :
    Calls Tryz.prog 9 #[.slice A zs.length c] w (RetI2 zs.length zs w) := c_toInt64S A c zs.length zs w rfl hs hr
def RetT2 (n : Nat) (l : List Tst) (w : World) (e : Ending) (w' : World) : Prop :=
  ∃ A c, e = .returned (.slice A n c) ∧ w'.ownsRow w.heap.size 100 3 (.slice A n c) n (tstCells l) ∧ Below w.heap.size w w'
theorem c_toTests2 (A : Option Addr) (c : Nat) (l : List Tst) (w : World) (hs : l.length ≤ 1048576) (hr : Rd w A (tstCells l)) :
    Calls Tryz.prog 70 #[.slice A l.length c] w (RetT2 l.length l w) := c_toTestS A c l.length l w rfl hs hr
end Go.Proofs.YtdjehopcpjkgjaaGreat

/- Marks of lists of integers, and append of one number (the seats without layouts). No condition but the sizes. -/
namespace Go.Proofs.YtdjehopcpjkgjaaGreat
open Go.RowKit

/-- append of one number to a list of the call's own. -/
theorem wpList_push_int (w : World) {ops : Array Oper} {rest : List Oper} {o : Oper} {a : Act} {Q : Exit → Act → World → Prop} (hgd : o.guard = none) (s x : Operand)
    (ho : o.op = .call { callee := .builtin .append, args := #[s, x], argTypes := #[22, 22] })
    (base : Nat) (v : Value) (n : Nat) (zs : List Int) (z : Int) (g c : Nat) (hs : a.eval s = v) (hown : w.ownsRow base 2 1 v n (ints zs))
    (hx : a.eval x = .slice (some ⟨g, 0, none⟩) 1 c) (hc : w.cell? ⟨g, 0, none⟩ = some (.int .i64 z)) (hn : n ≤ 1048577) (hbase : base ≤ w.heap.size)
    (h : ∀ v' w', w'.ownsRow base 2 1 v' (n + 1) (ints (zs ++ [z])) → w.grownBy w' v.ownBlock → (∀ g, v.ownBlock = some g → ∀ j, j < n * 1 → w'.cell? ⟨g, j, none⟩ = w.cell? ⟨g, j, none⟩) → (v'.ownBlock = v.ownBlock ∨ v'.ownBlock = some w.heap.size) → wpList Tryz.prog ops Q rest (a.put o.dst v') w') : wpList Tryz.prog ops Q (o :: rest) a w := by
  obtain ⟨i0, hi, hz0, hz1, hz2⟩ := info_parts info_int64
  refine wpList_push w hgd s x 22 ho base 2 i0 (.int .i64 0) 1 8 Tryz.underlying22 hi hz0 hz1 hz2 rfl (by decide) v n (ints zs) hs hown ⟨g, 0, none⟩ c [.int .i64 z] hx rfl ?_ ?_ (by unfold maxLen; omega) (by omega) hbase ?_
  · intro j u hu
    match j, hu with
    | 0, hu =>
      simp only [List.getElem?_cons_zero, Option.some.injEq] at hu
      rw [← hu]
      simpa [Addr.add] using hc
  · intro u hu
    simp only [List.mem_singleton] at hu
    subst hu; rfl
  · intro v' w' h1 h2 h3 h4
    exact h v' w' (by simpa [ints] using h1) h2 h3 h4
theorem own_zero {w : World} {base : Nat} {e : TypeId} {size c : Nat} {A : Option Addr} {xs : List Value} (h : w.ownsRow base e size (.slice A 0 c) 0 xs) : xs = [] := List.eq_nil_of_length_eq_zero (by simpa using h.1)
def markL (k : Int) (n : Nat) : List Int := (List.range n).map fun (i : Nat) => k + (i : Int)
theorem markL_length (k : Int) (n : Nat) : (markL k n).length = n := by simp [markL]
theorem markL_get {k : Int} {n j : Nat} (h : j < n) : (markL k n)[j]? = some (k + j) := by simp [markL, h]
set_option maxRecDepth 100000 in
theorem c_markInt64S (A : Option Addr) (c n : Nat) (zs : List Int) (base : Nat) (k : Int) (w : World) (hk0 : 0 ≤ k) (hk : k + n ≤ 100000000) (ho : w.ownsRow base 2 1 (.slice A n c) n (ints zs)) :
    Calls Tryz.prog 15 #[.slice A n c, .int .i64 k] w fun e w' => e = .returned (.int .i64 (k + n)) ∧ w'.ownsRow base 2 1 (.slice A n c) n (ints (markL k n)) ∧ w.grownBy w' (Value.slice A n c).ownBlock := by
  obtain ⟨k, rfl⟩ : ∃ k' : Nat, k = k' := ⟨k.toNat, by omega⟩
  have hLZ := Lib.hid (show (ints (markL k n)).length = (ints zs).length by rw [ho.1, ints_length, markL_length]; simp)
  have HL := Lib.hid (show (ints zs).length = n by rw [ho.1]; simp)
  go_enter Tryz.func15, Tryz.ntmps15
  go_wp2
  go_loopw [1, 5] (fun t i wr => ∃ j : Nat, j ≤ n ∧ i = .int .i64 j ∧ t = .int .i64 (k + j) ∧ wr.ownsRow base 2 1 (.slice A n c) n (mix (ints (markL k n)) (ints zs) j) ∧ w.grownBy wr (Value.slice A n c).ownBlock) (fun _ i _ => n - (intOf i).toNat)
  case atStart => exact ⟨0, Nat.zero_le _, rfl, by simp, by rw [mix_zero]; exact ho, World.grownBy.refl _ _⟩
  case round =>
    obtain ⟨j, hj, rfl, rfl, ho1, hg⟩ := hrel
    clear ho
    by_cases hlt : j < n
    · obtain ⟨g, cap, hv, _⟩ := ho1.form (by omega)
      simp only [Value.slice.injEq, true_and] at hv
      obtain ⟨rfl, rfl⟩ := hv
      have hu : (ints (markL k n))[j]? = some (.int .i64 (k + j)) := by simp [ints, markL_get hlt]
      have f0 := ho1.frozenAt j
      obtain ⟨old, hold⟩ := own_cell ho1 (j := j) (by omega)
      have hst := (ho1.stored j (.int .i64 (k + j))).1
      rw [mix_set hLZ.out hu] at hst
      have HST := Lib.hid hst
      have HG := Lib.hid (grown_trans hg (ho1.stored j (.int .i64 (k + j))).2)
      clear hu hst ho1 hg
      go_wp2
      go_roundw
      case rel => exact ⟨j + 1, by omega, by go_num, by go_num, HST.out, HG.out⟩
      case measure => simp [intOf]; omega
    · obtain rfl : j = n := by omega
      have HO := Lib.hid ho1
      have HG := Lib.hid hg
      clear ho1 hg
      go_wp2
      go_ret
      refine ⟨rfl, ?_, HG.out⟩
      have := HO.out
      rwa [mix_all (by rw [hLZ.out, HL.out]; exact Nat.le_refl _) (by rw [HL.out]; exact Nat.le_refl _)] at this
set_option maxRecDepth 100000 in
theorem c_heldInt64S (A : Option Addr) (c n : Nat) (k : Int) (w : World) (hk0 : 0 ≤ k) (hk : k + n ≤ 100000000) (hr : Rd w A (ints (markL k n))) :
    Calls Tryz.prog 34 #[.slice A n c, .int .i64 k] w fun e w' => e = .returned (.int .i64 (k + n)) ∧ Below w.heap.size w w' := by
  obtain ⟨k, rfl⟩ : ∃ k' : Nat, k = k' := ⟨k.toNat, by omega⟩
  go_enter Tryz.func34, Tryz.ntmps34
  go_wp2
  go_loop [1, 5] (fun t i => ∃ j : Nat, j ≤ n ∧ i = .int .i64 j ∧ t = .int .i64 (k + j)) (fun _ i => n - (intOf i).toNat)
  case atStart => exact ⟨0, Nat.zero_le _, rfl, by simp⟩
  case round =>
    obtain ⟨j, hj, rfl, rfl⟩ := hrel
    by_cases hlt : j < n
    · obtain ⟨b, off, rfl, _, g0⟩ := hr.int (markL_get hlt)
      clear hr
      go_wp2
      go_round
      case rel => exact ⟨j + 1, by omega, by go_num, by go_num⟩
      case measure => simp [intOf]; omega
    · obtain rfl : j = n := by omega
      go_wp2
      go_ret
      exact ⟨rfl, Below.refl _ _⟩
theorem cell_mark {w w' : World} {row : Option Nat} {a : Addr} {v : Value} (h : w.cell? a = some v) (hg : w.grownBy w' row) (hne : ∀ q, row = some q → q ≠ a.block) : w'.cell? a = some v :=
  (hg.cell_far a (World.block_lt_of_cell? w a h) (fun h' => hne _ h'.symm rfl)).trans h
theorem Mk.of_grown {w w' : World} {A : Option Addr} {n c base : Nat} {e : TypeId} {size : Nat} {xs : List Value} (hg : w.grownBy w' (Value.slice A n c).ownBlock) (ho : w.ownsRow base e size (.slice A n c) n xs) (ho' : ∃ ys, w'.ownsRow base e size (.slice A n c) n ys) : Mk base w.heap.size w w' := by
  refine ⟨hg.os, hg.tape, hg.output, hg.size, fun k hk h => hg.block k hk fun h2 => ?_, fun k cur e2 fz hc => ?_⟩
  · have := ho.lt k h2.symm
    omega
  · by_cases hk : (Value.slice A n c).ownBlock = some k
    · rcases ho.2 with ⟨hv, _⟩ | ⟨g, cap, cur1, hv, _, hg1, _, _, hs1, _⟩
      · rw [hv] at hk; cases hk
      · obtain ⟨ys, ho2⟩ := ho'
        rcases ho2.2 with ⟨hv2, _⟩ | ⟨g2, cap2, cur2, hv2, _, hg2, _, _, hs2, _⟩
        · rw [hv2] at hk; cases hk
        · rw [hv] at hk hv2
          simp only [Value.slice.injEq, Option.some.injEq, Addr.mk.injEq, and_true, true_and] at hv2
          obtain ⟨rfl, rfl⟩ := hv2
          simp only [Value.ownBlock, Option.some.injEq] at hk
          subst hk
          rw [hg1] at hc
          simp only [Option.some.injEq, Obj.cells.injEq] at hc
          obtain ⟨rfl, rfl, rfl⟩ := hc
          exact ⟨cur2, hg2, hs2.trans hs1.symm⟩
    · exact ⟨cur, by rw [hg.block k (Array.getElem?_eq_some_iff.1 hc).1 (fun h => hk h.symm)]; exact hc, rfl⟩
end Go.Proofs.YtdjehopcpjkgjaaGreat

/- The rules that are enabled in a state, on both sides. Condition: the tests' variables lie within the state. -/
namespace Go.Proofs.YtdjehopcpjkgjaaGreat
open Go.RowKit

def rul0 : Rul := ⟨⟨#[]⟩, [], []⟩
def enK (vs : List Int) (rs : List Rul) (k : Nat) : List Int := ((List.range k).filter fun i => hlB vs (rs.getD i rul0).gs).map fun (i : Nat) => (i : Int)
theorem enK_zero (vs : List Int) (rs : List Rul) : enK vs rs 0 = [] := rfl
theorem getDR {l : List Rul} {k : Nat} {z : Rul} (h : l[k]? = some z) : l.getD k rul0 = z := by rw [List.getD_eq_getElem?_getD, h]; rfl
theorem enK_yes {vs : List Int} {rs : List Rul} {k : Nat} {r : Rul} (h : rs[k]? = some r) (h2 : hlB vs r.gs = true) : enK vs rs (k + 1) = enK vs rs k ++ [(k : Int)] := by
  unfold enK
  rw [List.range_succ, List.filter_append, List.map_append]
  simp [h, h2]
theorem enK_no {vs : List Int} {rs : List Rul} {k : Nat} {r : Rul} (h : rs[k]? = some r) (h2 : hlB vs r.gs = false) : enK vs rs (k + 1) = enK vs rs k := by
  unfold enK
  rw [List.range_succ, List.filter_append, List.map_append]
  simp [h, h2]
theorem enK_len (vs : List Int) (rs : List Rul) (k : Nat) : (enK vs rs k).length ≤ k := by
  unfold enK
  rw [List.length_map]
  have := List.length_filter_le (fun i => hlB vs (rs.getD i rul0).gs) (List.range k)
  simpa using this
def enL (vs : List Int) (rs : List Rul) : List Int := enK vs rs rs.length
/-- The tests of all rules speak of variables that are there, and are few. -/
def GsOk (n : Nat) (rs : List Rul) : Prop := ∀ r ∈ rs, TsIn n r.gs ∧ r.gs.length ≤ 1048576
theorem gs_of {m : Mdl} {vs : List Int} (h : mdB m = true) (h2 : stB m.sz vs = true) (hok : MOk m) : GsOk vs.length m.rs := by
  intro r hr
  refine ⟨?_, (hok.1.2.2.2 r hr).1⟩
  unfold mdB rsB at h
  simp only [Bool.and_eq_true, Bool.not_eq_true', List.any_eq_false] at h
  have h3 := h.2.2.2.2 r hr
  have h4 : rlB m.sz r = true := by simpa using h3
  unfold rlB at h4
  simp only [Bool.and_eq_true] at h4
  rw [st_len h2]
  exact tsIn_of h4.2.2.1
set_option maxHeartbeats 1000000 in
set_option maxRecDepth 100000 in
theorem c_enabled (m : Mdl) (az ax ar : Option Addr) (cz cs cr : Nat) (A : Option Addr) (c : Nat) (vs : List Int) (w : World) (hrn : m.rs.length ≤ 1048576) (hl : vs.length ≤ 1048576) (hgs : GsOk vs.length m.rs) (h : Md w az ax ar m) (hv : Rd w A (ints vs)) :
    Calls Tryz.prog 40 #[mv m az ax ar cz cs cr, .slice A vs.length c] w (RetInts (enL vs m.rs) w) := by
  have HR := Lib.hid h.r
  have HV := Lib.hid hv
  have HG := Lib.hid hgs
  have HH := Lib.hid (fun (r : Rul) (hr : r ∈ m.rs) ag cg w' hv hg => c_holds A c vs ag cg r.gs w' hl (hgs r hr).2 (hgs r hr).1 hv hg)
  have HL := Lib.hid (show enL vs m.rs = enK vs m.rs m.rs.length from rfl)
  generalize enL vs m.rs = R at HL ⊢
  clear h hv hgs
  dsimp only [mv] at *
  generalize m.sz.length = sn at *
  generalize m.st.length = tn at *
  generalize m.rs = rs at *
  generalize hrs : rs.length = rn at *
  have HRN := Lib.hid hrs
  generalize vs.length = vn at *
  clear hrs
  go_enter Tryz.func40, Tryz.ntmps40
  go_wp2
  go_loopw [5, 11] (fun v i wr => ∃ k : Nat, k ≤ rn ∧ i = .int .i64 k ∧ wr.ownsRow (w.heap.size + 1) 2 1 v (enK vs rs k).length (ints (enK vs rs k)) ∧ Below w.heap.size w wr ∧ w.heap.size + 1 ≤ wr.heap.size) (fun _ i _ => rn - (intOf i).toNat)
  case atStart => exact ⟨0, Nat.zero_le _, rfl, by rw [enK_zero]; exact World.ownsRow_nil _ _ _ _, by (repeat (first | exact Below.refl _ _ | assumption | refine below_alloc ?_ _ | refine below_drewN ?_ _ | refine below_set ?_ _ (by simp; try omega) | refine Below.drew ?_)), by simp⟩
  case round =>
    obtain ⟨k, hk, rfl, ho, hb, hsz⟩ := hrel
    by_cases hlt : k < rn
    · obtain ⟨r, hz⟩ : ∃ z, rs[k]? = some z := ⟨_, List.getElem?_eq_getElem (by have := HRN.out; omega)⟩
      have hlen := enK_len vs rs k
      obtain ⟨b, off, ag, cg, ae, ce, rfl, _, g0, g1, g2, hg, he⟩ := (HR.out.below hb).at hz
      have HZ := Lib.hid hz
      have HO := Lib.hid ho
      have HB := Lib.hid hb
      have HGG := Lib.hid hg
      have HC := Lib.hid (fun w' hv hg => HH.out r (List.mem_of_getElem? hz) ag cg w' hv hg)
      have hrow : Hid (∀ q, u5.ownBlock = some q → w.heap.size ≤ q) := Lib.hid fun q hq => by have := (ho.lt q hq).1; omega
      clear hz ho hb hg he
      have hyes := Lib.hid (fun h => enK_yes (vs := vs) HZ.out h)
      have hno := Lib.hid (fun h => enK_no (vs := vs) HZ.out h)
      generalize r.gs.length = gn at *
      generalize r.es.length = en at *
      rcases hh : hlB vs r.gs with _ | _
      · rw [hh] at HC
        have HD := Lib.hid (hno.out hh)
        clear hh
        go_wp2_with (fail)
        refine (HC.out _ (HV.out.below (by exact below_alloc HB.out _)) (HGG.out.alloc _)).mono ?_
        rintro e w2 ⟨rfl, hb2⟩
        have HB2 := Lib.hid (below_chain (below_alloc HB.out _) hb2)
        have HO2 := Lib.hid (own_below (own_below HO.out (below_alloc (Below.refl _ _) _)) hb2)
        have hsz2 : w.heap.size + 1 ≤ w2.heap.size := by have h5 := hb2.size; (try simp at h5); omega
        clear hb2
        go_wp2
        go_roundw
        case rel => exact ⟨k + 1, by omega, by go_num, by rw [HD.out]; exact HO2.out, HB2.out, hsz2⟩
        case measure => simp [intOf]; omega
      · rw [hh] at HC
        have HD := Lib.hid (hyes.out hh)
        clear hh
        go_wp2_with (fail)
        refine (HC.out _ (HV.out.below (by exact below_alloc HB.out _)) (HGG.out.alloc _)).mono ?_
        rintro e w2 ⟨rfl, hb2⟩
        have HB2 := Lib.hid (below_chain (below_alloc HB.out _) hb2)
        have HO2 := Lib.hid (own_below (own_below HO.out (below_alloc (Below.refl _ _) _)) hb2)
        have hsz2 : w.heap.size + 1 ≤ w2.heap.size := by have h5 := hb2.size; (try simp at h5); omega
        clear hb2
        go_wp2_with (first
          | (at_builtin
             refine wpList_push_int _ rfl (.tmp 20) (.tmp 22) rfl (w.heap.size + 1) _ (enK vs rs k).length (enK vs rs k) (k : Int) w2.heap.size 1 rfl (HO2.out.alloc _) rfl (by go_simp) (by omega) (by simp; omega) ?_
             intro v1 w3 hown1 hgrow hold hat
             have HO3 := Lib.hid hown1
             have HB3 := Lib.hid (below_of_grown (below_alloc HB2.out _) hgrow hrow.out)
             have hsz3 : w.heap.size + 1 ≤ w3.heap.size := by have := hgrow.size; simp at this; omega
             clear hown1 hgrow hold hat)
          )
        go_roundw
        case rel => exact ⟨k + 1, by omega, by go_num, by rw [HD.out, List.length_append]; exact HO3.out, HB3.out, hsz3⟩
        case measure => simp [intOf]; omega
    · obtain rfl : k = rn := by omega
      obtain ⟨A1, c1, rfl⟩ : ∃ A1 c1, u5 = .slice A1 (enK vs rs k).length c1 := by
        rcases ho.2 with ⟨h1, h2⟩ | ⟨g, cap, cur, h1, _⟩
        · exact ⟨none, 0, by rw [h1, h2]⟩
        · exact ⟨_, _, h1⟩
      have HO := Lib.hid ho
      have HB := Lib.hid hb
      clear ho hb
      have e := HL.out
      subst e
      go_wp2
      go_ret
      exact ⟨A1, c1, rfl, own_mono HO.out (by omega), HB.out⟩
set_option maxHeartbeats 1000000 in
set_option maxRecDepth 100000 in
theorem c_l20Enabled (m : Mdl) (az ax ar : Option Addr) (cz cs cr : Nat) (A : Option Addr) (c : Nat) (vs : List Int) (w : World) (hrn : m.rs.length ≤ 1048576) (hl : vs.length ≤ 1048576) (hgs : GsOk vs.length m.rs) (h : Md w az ax ar m) (hv : Rd w A (ints vs)) :
    Calls Tryz.prog 25 #[mv m az ax ar cz cs cr, .slice A vs.length c] w (RetInts (enL vs m.rs) w) := by
  have HR := Lib.hid h.r
  have HV := Lib.hid hv
  have HG := Lib.hid hgs
  have HH := Lib.hid (fun (r : Rul) (hr : r ∈ m.rs) ag cg w' hv hg => c_l20Holds A c vs ag cg r.gs w' hl (hgs r hr).2 (hgs r hr).1 hv hg)
  have HL := Lib.hid (show enL vs m.rs = enK vs m.rs m.rs.length from rfl)
  generalize enL vs m.rs = R at HL ⊢
  clear h hv hgs
  dsimp only [mv] at *
  generalize m.sz.length = sn at *
  generalize m.st.length = tn at *
  generalize m.rs = rs at *
  generalize hrs : rs.length = rn at *
  have HRN := Lib.hid hrs
  generalize vs.length = vn at *
  clear hrs
  go_enter Tryz.func25, Tryz.ntmps25
  go_wp2
  have hown0 : ((w.alloc (Obj.cells #[.slice az sn cz, .slice ax tn cs, .slice ar rn cr] 32)).alloc (Obj.cells #[] 2)).ownsRow (w.heap.size + 1) 2 1 (.slice (some ⟨w.heap.size + 1, 0, none⟩) 0 0) 0 (ints []) := by
    have h := World.ownsRow_made (e := 2) (size := 1) (base := w.heap.size + 1) (w.alloc (Obj.cells #[.slice az sn cz, .slice ax tn cs, .slice ar rn cr] 32)) #[] 0 (by simp) (by unfold maxLen; omega) (by simp)
    simpa [ints] using h
  go_loopw [5, 6] (fun v i wr => ∃ k : Nat, k ≤ rn ∧ i = .int .i64 k ∧ wr.cell? ⟨w.heap.size, 2, none⟩ = some (.slice ar rn cr) ∧ wr.ownsRow (w.heap.size + 1) 2 1 v (enK vs rs k).length (ints (enK vs rs k)) ∧ Below w.heap.size w wr ∧ w.heap.size + 1 ≤ wr.heap.size) (fun _ i _ => rn - (intOf i).toNat)
  case atStart => exact ⟨0, Nat.zero_le _, rfl, by go_simp, by rw [enK_zero]; exact hown0, by (repeat (first | exact Below.refl _ _ | assumption | refine below_alloc ?_ _ | refine below_drewN ?_ _ | refine below_set ?_ _ (by simp; try omega) | refine Below.drew ?_)), by simp⟩
  case round =>
    obtain ⟨k, hk, rfl, e0, ho, hb, hsz⟩ := hrel
    clear hown0
    by_cases hlt : k < rn
    · obtain ⟨r, hz⟩ : ∃ z, rs[k]? = some z := ⟨_, List.getElem?_eq_getElem (by have := HRN.out; omega)⟩
      have hlen := enK_len vs rs k
      obtain ⟨b, off, ag, cg, ae, ce, rfl, _, g0, g1, g2, hg, he⟩ := (HR.out.below hb).at hz
      have HZ := Lib.hid hz
      have HO := Lib.hid ho
      have HB := Lib.hid hb
      have HGG := Lib.hid hg
      have HC := Lib.hid (fun w' hv hg => HH.out r (List.mem_of_getElem? hz) ag cg w' hv hg)
      have hk0 : (0 : Int) ≤ (k : Int) := by omega
      have hk1 : (k : Int) < (rn : Int) := by omega
      have hge : Hid (∀ q, u5.ownBlock = some q → w.heap.size + 1 ≤ q) := Lib.hid fun q hq => (ho.lt q hq).1
      have hrow : Hid (∀ q, u5.ownBlock = some q → w.heap.size ≤ q) := Lib.hid fun q hq => by have := (ho.lt q hq).1; omega
      clear hz ho hb hg he
      have hyes := Lib.hid (fun h => enK_yes (vs := vs) HZ.out h)
      have hno := Lib.hid (fun h => enK_no (vs := vs) HZ.out h)
      generalize r.gs.length = gn at *
      generalize r.es.length = en at *
      rcases hh : hlB vs r.gs with _ | _
      · rw [hh] at HC
        have HD := Lib.hid (hno.out hh)
        clear hh
        go_wp2_with (fail)
        refine (HC.out _ (HV.out.below (by exact HB.out)) HGG.out).mono ?_
        rintro e w2 ⟨rfl, hb2⟩
        have HB2 := Lib.hid (below_chain HB.out hb2)
        have e2 := cell_later hb2 e0
        have HO2 := Lib.hid (own_below HO.out hb2)
        have hsz2 : w.heap.size + 1 ≤ w2.heap.size := by have h5 := hb2.size; (try simp at h5); omega
        clear hb2
        go_wp2
        go_roundw
        case rel => exact ⟨k + 1, by omega, by go_num, e2, by rw [HD.out]; exact HO2.out, HB2.out, hsz2⟩
        case measure => simp [intOf]; omega
      · rw [hh] at HC
        have HD := Lib.hid (hyes.out hh)
        clear hh
        go_wp2_with (fail)
        refine (HC.out _ (HV.out.below (by exact HB.out)) HGG.out).mono ?_
        rintro e w2 ⟨rfl, hb2⟩
        have HB2 := Lib.hid (below_chain HB.out hb2)
        have e2 := cell_later hb2 e0
        have HO2 := Lib.hid (own_below HO.out hb2)
        have hsz2 : w.heap.size + 1 ≤ w2.heap.size := by have h5 := hb2.size; (try simp at h5); omega
        clear hb2
        go_wp2_with (first
          | (at_builtin
             refine wpList_push_int _ rfl (.tmp 23) (.tmp 25) rfl (w.heap.size + 1) _ (enK vs rs k).length (enK vs rs k) (k : Int) w2.heap.size 1 rfl (HO2.out.alloc _) rfl (by go_simp) (by omega) (by simp; omega) ?_
             intro v1 w3 hown1 hgrow hold hat
             have HO3 := Lib.hid hown1
             have HB3 := Lib.hid (below_of_grown (below_alloc HB2.out _) hgrow hrow.out)
             have hsz3 : w.heap.size + 1 ≤ w3.heap.size := by have := hgrow.size; simp at this; omega
             have hlt3 := World.block_lt_of_cell? _ _ e2
             have e3 : w3.cell? ⟨w.heap.size, 2, none⟩ = some (.slice (some ⟨b, off, none⟩) rn cr) := (hgrow.cell_far ⟨w.heap.size, 2, none⟩ (by simp; omega) (by intro h; have := hge.out w.heap.size h.symm; omega)).trans (by go_simp)
             clear hown1 hgrow hold hat)
          )
        go_roundw
        case rel => exact ⟨k + 1, by omega, by go_num, e3, by rw [HD.out, List.length_append]; exact HO3.out, HB3.out, hsz3⟩
        case measure => simp [intOf]; omega
    · obtain rfl : k = rn := by omega
      obtain ⟨A1, c1, rfl⟩ : ∃ A1 c1, u5 = .slice A1 (enK vs rs k).length c1 := by
        rcases ho.2 with ⟨h1, h2⟩ | ⟨g, cap, cur, h1, _⟩
        · exact ⟨none, 0, by rw [h1, h2]⟩
        · exact ⟨_, _, h1⟩
      have HO := Lib.hid ho
      have HB := Lib.hid hb
      clear ho hb
      have e := HL.out
      subst e
      go_wp2
      go_ret
      exact ⟨A1, c1, rfl, own_mono HO.out (by omega), HB.out⟩
end Go.Proofs.YtdjehopcpjkgjaaGreat

/- EnabledRules, on both sides. Condition: the lengths are those that the laws let by. -/
namespace Go.Proofs.YtdjehopcpjkgjaaGreat
open Go.RowKit

/-- What is handed back: a list of the call's own, and a code. -/
def RetIC (n : Nat) (zs : List Int) (c : Int) (w : World) (e : Ending) (w' : World) : Prop :=
  ∃ A cap, e = .returned (.tuple #[.slice A n cap, .int .i64 c]) ∧ w'.ownsRow w.heap.size 2 1 (.slice A n cap) n (ints zs) ∧ Below w.heap.size w w'
def erL (m : Mdl) (vs : List Int) : List Int := if mdB m && stB m.sz vs then enL vs m.rs else []
theorem retIC_nil {n : Nat} {zs : List Int} {c : Int} {w w' : World} (h : zs = []) (hn : n = zs.length) (hb : Below w.heap.size w w') : RetIC n zs c w (.returned (.tuple #[.slice none 0 0, .int .i64 c])) w' := by
  subst h
  subst hn
  exact ⟨none, 0, rfl, World.ownsRow_nil _ _ _ _, hb⟩
end Go.Proofs.YtdjehopcpjkgjaaGreat

/- Marks of a model: what they touch. No condition but the sizes. -/
namespace Go.Proofs.YtdjehopcpjkgjaaGreat
open Go.RowKit

/-- Only rows of the type T are touched. -/
def Typ (T : TypeId) (w w' : World) : Prop := ∀ (k : Nat) (cur : Array Value) (e : TypeId) (fz : Nat × Nat), w.heap[k]? = some (Obj.cells cur e fz) → e ≠ T → w'.heap[k]? = w.heap[k]?
theorem Typ.refl (T : TypeId) (w : World) : Typ T w w := fun _ _ _ _ _ _ => rfl
theorem Typ.trans {T : TypeId} {a b c : World} (h1 : Typ T a b) (h2 : Typ T b c) : Typ T a c := fun k cur e fz h hne => by
  have e1 := h1 k cur e fz h hne
  exact (h2 k cur e fz (e1.trans h) hne).trans e1
theorem Typ.set {T : TypeId} {a b : World} (h : Typ T a b) {g off n : Nat} {cur : Array Value} (hg : b.heap[g]? = some (Obj.cells cur T (0, 0))) (v : Value) (_hn : off = n) : Typ T a (b.setCell ⟨g, off, none⟩ v) := by
  refine h.trans fun k cur2 e fz hc hne => ?_
  unfold World.setCell
  simp only
  rw [Array.getElem?_modify, if_neg]
  intro hk
  subst hk
  rw [hg] at hc
  simp only [Option.some.injEq, Obj.cells.injEq] at hc
  exact hne hc.2.1.symm
theorem Typ.of_below {T : TypeId} {a b : World} (h : Below a.heap.size a b) : Typ T a b := fun k _ _ _ hc _ => h.block k (Array.getElem?_eq_some_iff.1 hc).1
/-- A mark's end: the count goes on, only the blocks from lo up to hi are touched, and of these only the rows of one type. -/
def RetMk (T : TypeId) (lo hi : Nat) (bd : Nat) (w : World) (e : Ending) (w' : World) : Prop := ∃ kk : Nat, kk ≤ bd ∧ e = .returned (.int .i64 kk) ∧ Mk lo hi w w' ∧ Typ T w w'
/-- A row of the call's own, below hi. -/
def OwnL (w : World) (lo hi : Nat) (e : TypeId) (size : Nat) (v : Value) (n : Nat) : Prop := OwnX w lo e size v n ∧ ∀ q, v.ownBlock = some q → q < hi
theorem OwnL.mk {lo hi lo2 hi2 : Nat} {a b : World} {e : TypeId} {size n : Nat} {v : Value} (ho : OwnL a lo2 hi2 e size v n) (h : Mk lo hi a b) : OwnL b lo2 hi2 e size v n := ⟨ho.1.mk h, ho.2⟩
theorem OwnL.blk {w : World} {lo hi : Nat} {e : TypeId} {size n c : Nat} {A : Option Addr} (h : OwnL w lo hi e size (.slice A n c) n) (hn : 0 < n) : ∃ g, A = some ⟨g, 0, none⟩ ∧ lo ≤ g ∧ g < hi ∧ (∃ cur : Array Value, w.heap[g]? = some (Obj.cells cur e (0, 0))) ∧ ∀ j, j < n * size → (∃ u, w.cell? ⟨g, j, none⟩ = some u) ∧ w.frozen? ⟨g, j, none⟩ = false := by
  obtain ⟨⟨xs, ho⟩, hq⟩ := h
  rcases ho.2 with ⟨hv, h0⟩ | ⟨g, cap, cur, hv, hg, hgg, _⟩
  · omega
  · simp only [Value.slice.injEq, true_and] at hv
    obtain ⟨rfl, rfl⟩ := hv
    exact ⟨g, rfl, (ho.lt g rfl).1, hq g rfl, ⟨cur, hgg⟩, fun j hj => ⟨own_cell ho hj, ho.frozenAt j⟩⟩
theorem heap_set {w : World} {g off : Nat} {cur : Array Value} {e : TypeId} (h : w.heap[g]? = some (Obj.cells cur e (0, 0))) (v : Value) : ∃ cur' : Array Value, (w.setCell ⟨g, off, none⟩ v).heap[g]? = some (Obj.cells cur' e (0, 0)) := by
  unfold World.setCell
  simp only
  rw [Array.getElem?_modify, if_pos rfl, h]
  exact ⟨_, rfl⟩
set_option maxHeartbeats 1000000 in
set_option maxRecDepth 100000 in
theorem c_markTestS (A : Option Addr) (c n lo hi k : Nat) (w : World) (hk : k ≤ 100000000000000) (hn : n ≤ 1048576) (ho : OwnL w lo hi 100 3 (.slice A n c) n) :
    Calls Tryz.prog 58 #[.slice A n c, .int .i64 k] w (RetMk 100 lo hi (k + 3 * n) w) := by
  have HO := Lib.hid ho
  clear ho
  go_enter Tryz.func58, Tryz.ntmps58
  go_wp2
  go_loopw [1, 5] (fun t i wr => ∃ j kk : Nat, j ≤ n ∧ kk ≤ k + 3 * j ∧ i = .int .i64 j ∧ t = .int .i64 kk ∧ Mk lo hi w wr ∧ Typ 100 w wr) (fun _ i _ => n - (intOf i).toNat)
  case atStart => exact ⟨0, k, Nat.zero_le _, by omega, rfl, rfl, Mk.refl _ _ _, Typ.refl _ _⟩
  case round =>
    obtain ⟨j, kk, hj, hkk, rfl, rfl, hm, ht⟩ := hrel
    by_cases hlt : j < n
    · obtain ⟨g, rfl, hg1, hg2, ⟨cur, hcur⟩, hc⟩ := (HO.out.mk hm).blk (by omega)
      obtain ⟨⟨o0, e0⟩, f0⟩ := hc (j * 3) (by omega)
      obtain ⟨⟨o1, e1⟩, f1⟩ := hc (j * 3 + 1) (by omega)
      obtain ⟨⟨o2, e2⟩, f2⟩ := hc (j * 3 + 2) (by omega)
      have HM := Lib.hid (fun v0 v1 v2 => ((hm.setCell (p := ⟨g, j * 3, none⟩) v0 hg1 hg2).setCell (p := ⟨g, j * 3 + 1, none⟩) v1 hg1 hg2).setCell (p := ⟨g, j * 3 + 2, none⟩) v2 hg1 hg2)
      have HT := Lib.hid (fun v0 v1 v2 => show Typ 100 w (((wr.setCell ⟨g, j * 3, none⟩ v0).setCell ⟨g, j * 3 + 1, none⟩ v1).setCell ⟨g, j * 3 + 2, none⟩ v2) by
        obtain ⟨c1, h1⟩ := heap_set (off := j * 3) hcur v0
        obtain ⟨c2, h2⟩ := heap_set (off := j * 3 + 1) h1 v1
        exact ((ht.set hcur v0 rfl).set h1 v1 rfl).set h2 v2 rfl)
      clear hc hm ht hcur
      have hk0 : (0 : Int) ≤ (kk : Int) := by omega
      go_wp2
      go_roundw
      case rel => exact ⟨j + 1, kk + 3, by omega, by omega, by go_num, by go_num, HM.out _ _ _, HT.out _ _ _⟩
      case measure => simp [intOf]; omega
    · obtain rfl : j = n := by omega
      have HM := Lib.hid hm
      have HT := Lib.hid ht
      clear hm ht
      go_wp2
      go_ret
      exact ⟨kk, hkk, rfl, HM.out, HT.out⟩
set_option maxHeartbeats 1000000 in
set_option maxRecDepth 100000 in
theorem c_markAssignS (A : Option Addr) (c n lo hi k : Nat) (w : World) (hk : k ≤ 100000000000000) (hn : n ≤ 1048576) (ho : OwnL w lo hi 79 2 (.slice A n c) n) :
    Calls Tryz.prog 59 #[.slice A n c, .int .i64 k] w (RetMk 79 lo hi (k + 2 * n) w) := by
  have HO := Lib.hid ho
  clear ho
  go_enter Tryz.func59, Tryz.ntmps59
  go_wp2
  go_loopw [1, 5] (fun t i wr => ∃ j kk : Nat, j ≤ n ∧ kk ≤ k + 2 * j ∧ i = .int .i64 j ∧ t = .int .i64 kk ∧ Mk lo hi w wr ∧ Typ 79 w wr) (fun _ i _ => n - (intOf i).toNat)
  case atStart => exact ⟨0, k, Nat.zero_le _, by omega, rfl, rfl, Mk.refl _ _ _, Typ.refl _ _⟩
  case round =>
    obtain ⟨j, kk, hj, hkk, rfl, rfl, hm, ht⟩ := hrel
    by_cases hlt : j < n
    · obtain ⟨g, rfl, hg1, hg2, ⟨cur, hcur⟩, hc⟩ := (HO.out.mk hm).blk (by omega)
      obtain ⟨⟨o0, e0⟩, f0⟩ := hc (j * 2) (by omega)
      obtain ⟨⟨o1, e1⟩, f1⟩ := hc (j * 2 + 1) (by omega)
      have HM := Lib.hid (fun v0 v1 => (hm.setCell (p := ⟨g, j * 2, none⟩) v0 hg1 hg2).setCell (p := ⟨g, j * 2 + 1, none⟩) v1 hg1 hg2)
      have HT := Lib.hid (fun v0 v1 => show Typ 79 w ((wr.setCell ⟨g, j * 2, none⟩ v0).setCell ⟨g, j * 2 + 1, none⟩ v1) by
        obtain ⟨c1, h1⟩ := heap_set (off := j * 2) hcur v0
        exact (ht.set hcur v0 rfl).set h1 v1 rfl)
      clear hc hm ht hcur
      have hk0 : (0 : Int) ≤ (kk : Int) := by omega
      go_wp2
      go_roundw
      case rel => exact ⟨j + 1, kk + 2, by omega, by omega, by go_num, by go_num, HM.out _ _, HT.out _ _⟩
      case measure => simp [intOf]; omega
    · obtain rfl : j = n := by omega
      have HM := Lib.hid hm
      have HT := Lib.hid ht
      clear hm ht
      go_wp2
      go_ret
      exact ⟨kk, hkk, rfl, HM.out, HT.out⟩
/-- What markText hands back. -/
def RetTx (w : World) (e : Ending) (w' : World) : Prop := ∃ s : ByteArray, e = .returned (.string s) ∧ Below w.heap.size w w'
set_option maxHeartbeats 1000000 in
set_option maxRecDepth 100000 in
theorem c_markText (k : Nat) (w : World) (hk : k ≤ 1000000000000000) : Calls Tryz.prog 57 #[.int .i64 k] w (RetTx w) := by
  rcases Nat.eq_zero_or_pos k with h0 | h0
  · have hk1 : ((k : Nat) : Int) ≤ 0 := by omega
    clear h0
    go_enter Tryz.func57, Tryz.ntmps57
    go_wp2
    go_ret
    exact ⟨_, rfl, Below.refl _ _⟩
  have hk1 : ¬ ((k : Nat) : Int) ≤ 0 := by omega
  go_enter Tryz.func57, Tryz.ntmps57
  go_wp2
  go_loopw [0, 3] (fun i s wr => ∃ (j : Nat) (t : ByteArray), j ≤ k ∧ i = .int .i64 j ∧ s = .string t ∧ t.size ≤ k - j ∧ Below w.heap.size w wr) (fun i _ _ => (intOf i).toNat)
  case atStart => exact ⟨k, ⟨#[]⟩, Nat.le_refl _, rfl, rfl, Nat.zero_le _, Below.refl _ _⟩
  case round =>
    obtain ⟨j, t, hj, rfl, rfl, hts, hb⟩ := hrel
    have HB := Lib.hid hb
    clear hb
    by_cases hlt : 0 < j
    · have hj0 : (0 : Int) < (j : Int) := by omega
      have hj1 : (0 : Int) ≤ (j : Int) := by omega
      obtain ⟨r, hrs, hback⟩ : ∃ r : ByteArray, r.size ≤ 1 ∧ (convert 116 9 (.slice (some ⟨wr.heap.size, 0, none⟩) 1 1)).run Tryz.prog (wr.alloc (Obj.cells #[Value.int .u8 (48 + (j : Int) % 10)] 5)) = .ok (.string r) (wr.alloc (Obj.cells #[Value.int .u8 (48 + (j : Int) % 10)] 5)) :=
        ⟨strOfNums [48 + (j : Int) % 10], (by show (strOfNums [48 + (j : Int) % 10]).data.size ≤ 1; simp [strOfNums]), run_convert_bytes_arg _ _ 5 Tryz.underlying116 Tryz.underlying5 _ 0 1 1 [48 + (j : Int) % 10] rfl (fun i hi => by
          obtain rfl : i = 0 := by omega
          go_simp) _ Tryz.underlying9⟩
      have hd1 : (j / 10 : Nat) < j := Nat.div_lt_self hlt (by omega)
      have hd2 : ((j : Int) / 10) = ((j / 10 : Nat) : Int) := by omega
      have hd3 : r.size + t.size ≤ 9223372036854775807 := by omega
      have HD2 := Lib.hid hd2
      clear hd2
      go_wp2
      go_roundw
      case rel => exact ⟨j / 10, r ++ t, by omega, by rw [HD2.out], rfl, by rw [ByteArray.size_append]; omega, below_alloc HB.out _⟩
      case measure => simp [intOf]; omega
    · have hj0 : ¬ (0 : Int) < (j : Int) := by omega
      have hd3 : t.size + 1 ≤ 9223372036854775807 := by omega
      go_wp2
      go_ret
      exact ⟨_, rfl, HB.out⟩
end Go.Proofs.YtdjehopcpjkgjaaGreat
