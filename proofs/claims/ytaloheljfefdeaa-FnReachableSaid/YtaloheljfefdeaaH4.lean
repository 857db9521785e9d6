/- Contracts and helpers (joined texts, part 4). The conditions stand at each theorem. -/
import Derived.Test.YtaloheljfefdeaaH3
import Derived.Test.YtaloheljfefdeaaH0
/- Whether tests hold in a state: holds (program) and l20Holds (reference). Condition: the tests' variables lie within the state. -/
namespace Go.Proofs.Ytaloheljfefdeaa
open Go.RowKit

/-- Each test's variable has a value. -/
def TsIn (n : Nat) (l : List Tst) : Prop := ∀ t ∈ l, 0 ≤ t.v ∧ t.v < n
def hdB (vs : List Int) (t : Tst) : Bool := (decide (vs.getD t.v.toNat 0 = t.x)) == t.q
def hlB (vs : List Int) (l : List Tst) : Bool := l.all (hdB vs)
theorem hd_val {vs : List Int} {k : Nat} {z x : Int} {q : Bool} (h : vs[k]? = some z) : hdB vs ⟨k, x, q⟩ = !(decide (z = x) != q) := by
  show (decide (vs.getD ((k : Int).toNat) 0 = x) == q) = _
  simp only [Int.toNat_natCast, getD_of h]
  cases decide (z = x) <;> cases q <;> rfl
theorem any_not_hd (vs : List Int) (l : List Tst) : l.any (fun t => !hdB vs t) = !hlB vs l := by
  unfold hlB
  induction l with
  | nil => rfl
  | cons a t ih => simp [List.any_cons, List.all_cons, ih]
theorem tsIn_of {sz : List Int} {l : List Tst} (h : tsB sz l = true) : TsIn sz.length l := by
  intro t ht
  simp only [tsB, Bool.and_eq_true] at h
  have := h.1
  unfold tsK at this
  rw [List.all_eq_true] at this
  have := this t ht
  simp [hasB, inB] at this
  omega
set_option maxRecDepth 100000 in
theorem c_holds1 (p : Nat) (A : Option Addr) (c : Nat) (vs : List Int) (v x : Int) (q : Bool) (w : World) (hv0 : 0 ≤ v) (hv1 : v < vs.length) (_hl : vs.length ≤ 1048576) (h : Rd w A (ints vs))
    (k0 : w.cell? ⟨p, 0, none⟩ = some (.slice A vs.length c)) :
    Calls Try.prog 97 #[.agg #[.int .i64 v, .int .i64 x, .bool q], .pointer (some ⟨p, 0, none⟩)] w fun e w' => e = .returned (.bool (!hdB vs ⟨v, x, q⟩)) ∧ Below w.heap.size w w' := by
  obtain ⟨k, rfl⟩ : ∃ k : Nat, v = k := ⟨v.toNat, by omega⟩
  have hk : k < vs.length := by omega
  obtain ⟨z, hz⟩ : ∃ z, vs[k]? = some z := ⟨_, List.getElem?_eq_getElem hk⟩
  obtain ⟨b, off, rfl, _, g0⟩ := h.int hz
  have hp := World.block_lt_of_cell? _ _ k0
  have HR : Hid ((!hdB vs ⟨k, x, q⟩) = (decide (z = x) != q)) := Lib.hid (by rw [hd_val hz, Bool.not_not])
  generalize (!hdB vs ⟨k, x, q⟩) = R at HR ⊢
  generalize vs.length = vn at *
  clear h hz
  have hal := below_alloc (Below.refl w.heap.size w) (Obj.cells #[Value.int .i64 (k : Int), Value.int .i64 x, Value.bool q] 100)
  have K0 := cell_later hal k0
  have G0 := cell_later hal g0
  have P0 : (w.alloc (Obj.cells #[Value.int .i64 (k : Int), Value.int .i64 x, Value.bool q] 100)).cell? ⟨w.heap.size, 0, none⟩ = some (.int .i64 k) := by go_simp
  have P1 : (w.alloc (Obj.cells #[Value.int .i64 (k : Int), Value.int .i64 x, Value.bool q] 100)).cell? ⟨w.heap.size, 1, none⟩ = some (.int .i64 x) := by go_simp
  have P2 : (w.alloc (Obj.cells #[Value.int .i64 (k : Int), Value.int .i64 x, Value.bool q] 100)).cell? ⟨w.heap.size, 2, none⟩ = some (.bool q) := by go_simp
  have HAL := Lib.hid hal
  clear hal k0 g0
  go_enter Try.func97, Try.ntmps97
  go_wp2
  generalize w.alloc (Obj.cells #[Value.int .i64 (k : Int), Value.int .i64 x, Value.bool q] 100) = W at *
  refine wp_region_held_drew (S := (fun w' => w'.cell? ⟨p, 0, none⟩ = some (.slice (some ⟨b, off, none⟩) vn c) ∧ w'.cell? ⟨b, off + k, none⟩ = some (.int .i64 z) ∧ w'.cell? ⟨w.heap.size, 0, none⟩ = some (.int .i64 k) ∧ w'.cell? ⟨w.heap.size, 1, none⟩ = some (.int .i64 x) ∧ w'.cell? ⟨w.heap.size, 2, none⟩ = some (.bool q))) (by kernel_rfl) ?_ (fun hHeld => ?_)
  · exact ⟨K0, G0, P0, P1, P2⟩
  refine rg_take (v := ?_) 0 rfl (by kernel_rfl) (by kernel_rfl) (by kernel_rfl) (fun _ _ _ h => h) (by kernel_rfl) ?_ (by assumption) ?_
  rotate_left
  · (intro w' hSw; (try dsimp only at hSw); go_simp; first | done | with_reducible rfl)
  simp only [Act.put, List.setIfInBounds_toArray, List.set_cons_zero, List.set_cons_succ]
  refine rg_take (v := ?_) 1 rfl (by kernel_rfl) (by kernel_rfl) (by kernel_rfl) (fun _ _ _ h => h) (by kernel_rfl) ?_ (by assumption) ?_
  rotate_left
  · (intro w' hSw; (try dsimp only at hSw); go_simp; first | done | with_reducible rfl)
  simp only [Act.put, List.setIfInBounds_toArray, List.set_cons_zero, List.set_cons_succ]
  refine rg_take (v := ?_) 2 rfl (by kernel_rfl) (by kernel_rfl) (by kernel_rfl) (fun _ _ _ h => h) (by kernel_rfl) ?_ (by assumption) ?_
  rotate_left
  · (intro w' hSw; (try dsimp only at hSw); go_simp; first | done | with_reducible rfl)
  simp only [Act.put, List.setIfInBounds_toArray, List.set_cons_zero, List.set_cons_succ]
  refine rg_take (v := ?_) 3 rfl (by kernel_rfl) (by kernel_rfl) (by kernel_rfl) (fun _ _ _ h => h) (by kernel_rfl) ?_ (by assumption) ?_
  rotate_left
  · (intro w' hSw; (try dsimp only at hSw); go_simp; first | done | with_reducible rfl)
  simp only [Act.put, List.setIfInBounds_toArray, List.set_cons_zero, List.set_cons_succ]
  refine rg_take (v := ?_) 4 rfl (by kernel_rfl) (by kernel_rfl) (by kernel_rfl) (fun _ _ _ h => h) (by kernel_rfl) ?_ (by assumption) ?_
  rotate_left
  · (intro w' hSw; (try dsimp only at hSw); go_simp; first | done | with_reducible rfl)
  simp only [Act.put, List.setIfInBounds_toArray, List.set_cons_zero, List.set_cons_succ]
  refine rg_take (v := ?_) 5 rfl (by kernel_rfl) (by kernel_rfl) (by kernel_rfl) (fun _ _ _ h => h) (by kernel_rfl) ?_ (by assumption) ?_
  rotate_left
  · (intro w' hSw; (try dsimp only at hSw); go_simp; first | done | with_reducible rfl)
  simp only [Act.put, List.setIfInBounds_toArray, List.set_cons_zero, List.set_cons_succ]
  refine rg_take (v := ?_) 6 rfl (by kernel_rfl) (by kernel_rfl) (by kernel_rfl) (fun _ _ _ h => h) (by kernel_rfl) ?_ (by assumption) ?_
  rotate_left
  · (intro w' hSw; (try dsimp only at hSw); go_simp; first | done | with_reducible rfl)
  simp only [Act.put, List.setIfInBounds_toArray, List.set_cons_zero, List.set_cons_succ]
  refine rg_take (v := ?_) 7 rfl (by kernel_rfl) (by kernel_rfl) (by kernel_rfl) (fun _ _ _ h => h) (by kernel_rfl) ?_ (by assumption) ?_
  rotate_left
  · (intro w' hSw; (try dsimp only at hSw); go_simp; first | done | with_reducible rfl)
  simp only [Act.put, List.setIfInBounds_toArray, List.set_cons_zero, List.set_cons_succ]
  refine rg_take (v := ?_) 8 rfl (by kernel_rfl) (by kernel_rfl) (by kernel_rfl) (fun _ _ _ h => h) (by kernel_rfl) ?_ (by assumption) ?_
  rotate_left
  · (intro w' hSw; (try dsimp only at hSw); go_simp; first | done | with_reducible rfl)
  simp only [Act.put, List.setIfInBounds_toArray, List.set_cons_zero, List.set_cons_succ]
  refine rg_take (v := ?_) 9 rfl (by kernel_rfl) (by kernel_rfl) (by kernel_rfl) (fun _ _ _ h => h) (by kernel_rfl) ?_ (by assumption) ?_
  rotate_left
  · (intro w' hSw; (try dsimp only at hSw); go_simp; first | done | with_reducible rfl)
  simp only [Act.put, List.setIfInBounds_toArray, List.set_cons_zero, List.set_cons_succ]
  refine rg_take (v := ?_) 10 rfl (by kernel_rfl) (by kernel_rfl) (by kernel_rfl) (fun _ _ _ h => h) (by kernel_rfl) ?_ (by assumption) ?_
  rotate_left
  · (intro w' hSw; (try dsimp only at hSw); go_simp; first | done | with_reducible rfl)
  simp only [Act.put, List.setIfInBounds_toArray, List.set_cons_zero, List.set_cons_succ]
  refine rg_take (v := ?_) 11 rfl (by kernel_rfl) (by kernel_rfl) (by kernel_rfl) (fun _ _ _ h => h) (by kernel_rfl) ?_ (by assumption) ?_
  rotate_left
  · (intro w' hSw; (try dsimp only at hSw); go_simp; first | done | with_reducible rfl)
  simp only [Act.put, List.setIfInBounds_toArray, List.set_cons_zero, List.set_cons_succ]
  refine wpAnyH_done (by kernel_rfl) ?_ _
  clear hHeld
  go_wp2
  go_ret
  exact ⟨ret_bool HR.out.symm, HAL.out.drew⟩
set_option maxRecDepth 100000 in
theorem c_holds (A : Option Addr) (c : Nat) (vs : List Int) (A' : Option Addr) (c' : Nat) (l : List Tst) (w : World) (hl : vs.length ≤ 1048576) (hl2 : l.length ≤ 1048576) (hin : TsIn vs.length l) (h : Rd w A (ints vs)) (h' : Rd w A' (tstCells l)) :
    Calls Try.prog 51 #[.slice A vs.length c, .slice A' l.length c'] w fun e w' => e = .returned (.bool (hlB vs l)) ∧ Below w.heap.size w w' := by
  have hmf : ∀ (fn : Fn) (first cap : Array Value) (w : World), (Instr.makeFunc fn first cap).run Try.prog w = .ok (.func fn first cap) w := fun _ _ _ _ => rfl
  have HN := Lib.hid (any_not_hd vs l)
  have HCC := Lib.hid (fun (w' : World) (x : Value) hv hc => c_ContainsTest 97 x (fun t => !hdB vs t) A' c' l w' hl2 hv hc (enter_of Try.func97 (by kernel_rfl) rfl))
  have HCL := Lib.hid (fun (w' : World) (p : Nat) (t : Tst) (ht : t ∈ l) h k0 => c_holds1 p A c vs t.v t.x t.q w' (hin t ht).1 (hin t ht).2 hl h k0)
  have HZ := Lib.hid h
  have HV := Lib.hid h'
  clear h h' hin
  generalize hlB vs l = R at HN ⊢
  generalize vs.length = vn at *
  generalize l.length = ln at *
  go_enter Try.func51, Try.ntmps51
  go_wp2_with (fail)
  refine (HCC.out _ _ (by exact HV.out.alloc _) (Lib.hid ?_)).mono ?_
  · intro wr t ht hb
    exact HCL.out wr _ t ht ((HZ.out.alloc _).below hb) (cell_later hb (by go_simp))
  · rintro e w1 ⟨rfl, hb⟩
    have HB := Lib.hid (below_chain (by (repeat (first | exact Below.refl _ _ | assumption | refine below_alloc ?_ _ | refine below_drewN ?_ _ | refine below_set ?_ _ (by simp; try omega) | refine Below.drew ?_)) : Below w.heap.size w _) hb)
    clear hb
    generalize List.any l (fun t => !hdB vs t) = r at HN ⊢
    go_wp2
    go_ret
    exact ⟨ret_bool (by rw [HN.out]; simp), HB.out⟩
theorem hl_snoc {vs : List Int} {l : List Tst} {k : Nat} {t : Tst} (hz : l[k]? = some t) (h : hlB vs (l.take k) = true) (h2 : hdB vs t = true) : hlB vs (l.take (k + 1)) = true := by
  unfold hlB at h ⊢
  rw [List.take_add_one, List.all_append, h, hz]
  simp [h2]
theorem hl_bad {vs : List Int} {l : List Tst} {k : Nat} {t : Tst} (hz : l[k]? = some t) (h2 : hdB vs t = false) : hlB vs l = false := by
  unfold hlB
  rw [List.all_eq_false]
  exact ⟨t, List.mem_of_getElem? hz, by simp [h2]⟩
set_option maxHeartbeats 1000000 in
set_option maxRecDepth 100000 in
theorem c_l20Holds (A : Option Addr) (c : Nat) (vs : List Int) (A' : Option Addr) (c' : Nat) (l : List Tst) (w : World) (_hl : vs.length ≤ 1048576) (hl2 : l.length ≤ 1048576) (hin : TsIn vs.length l) (h : Rd w A (ints vs)) (h' : Rd w A' (tstCells l)) :
    Calls Try.prog 61 #[.slice A vs.length c, .slice A' l.length c'] w fun e w' => e = .returned (.bool (hlB vs l)) ∧ Below w.heap.size w w' := by
  have HIN := Lib.hid hin
  have HB0 := Lib.hid (rfl : hlB vs l = hlB vs l)
  generalize hR : hlB vs l = R at HB0
  replace HB0 := Lib.hid hR
  generalize hvn : vs.length = vn at *
  generalize hln : l.length = ln at *
  have HVN := Lib.hid hvn
  have HLN := Lib.hid hln
  have HZ := Lib.hid h
  have HV := Lib.hid h'
  clear hin h h' hvn hln hR
  go_enter Try.func61, Try.ntmps61
  go_wp2
  go_loopw [5] (fun i wr => ∃ k : Nat, k ≤ ln ∧ i = .int .i64 k ∧ Hid (hlB vs (l.take k) = true) ∧ Below w.heap.size w wr) (fun i _ => ln - (intOf i).toNat)
  case atStart => exact ⟨0, Nat.zero_le _, rfl, Lib.hid rfl, by (repeat (first | exact Below.refl _ _ | assumption | refine below_alloc ?_ _ | refine below_drewN ?_ _ | refine below_set ?_ _ (by simp; try omega) | refine Below.drew ?_))⟩
  case round =>
    obtain ⟨k, hk, rfl, ha, hb⟩ := hrel
    by_cases hlt : k < ln
    · obtain ⟨t, hz⟩ : ∃ z, l[k]? = some z := ⟨_, List.getElem?_eq_getElem (by have := HLN.out; omega)⟩
      obtain ⟨b, off, rfl, _, g0, g1, g2⟩ := (HV.out.below hb).tst hz
      have hti := HIN.out t (List.mem_of_getElem? hz)
      obtain ⟨tv, tx, tq⟩ := t
      dsimp only at *
      obtain ⟨j, rfl⟩ : ∃ j : Nat, tv = j := ⟨tv.toNat, by omega⟩
      have hj1 : j < vn := by omega
      obtain ⟨z, hz2⟩ : ∃ z, vs[j]? = some z := ⟨_, List.getElem?_eq_getElem (by have := HVN.out; omega)⟩
      obtain ⟨b2, off2, rfl, _, e0⟩ := (HZ.out.below hb).int hz2
      have HR : Hid (hdB vs ⟨j, tx, tq⟩ = !(decide (z = tx) != tq)) := Lib.hid (hd_val hz2)
      have HZZ := Lib.hid hz
      have HBE := Lib.hid hb
      have hk0 : (0 : Int) ≤ (k : Int) := by omega
      have hk1 : (k : Int) < (ln : Int) := by omega
      clear hz hb hz2 hti
      have hj2 : (0 : Int) ≤ (j : Int) := by omega
      have hj3 : (j : Int) < (vn : Int) := by omega
      by_cases hzx : z = tx
      · subst hzx
        rcases tq with _ | _
        · have HD := Lib.hid (show hdB vs ⟨j, z, false⟩ = false by rw [HR.out]; simp)
          go_wp2
          refine wp_region_held_drew (S := (fun w' => w'.cell? ⟨b, off + k * 3, none⟩ = some (.int .i64 j) ∧ w'.cell? ⟨b, off + k * 3 + 1, none⟩ = some (.int .i64 z) ∧ w'.cell? ⟨b, off + k * 3 + 2, none⟩ = some (.bool false) ∧ w'.cell? ⟨b2, off2 + j, none⟩ = some (.int .i64 z))) (by kernel_rfl) ?_ (fun hHeld => ?_)
          · exact ⟨g0, g1, g2, e0⟩
          refine rg_take (v := ?_) 0 rfl (by kernel_rfl) (by kernel_rfl) (by kernel_rfl) (fun _ _ _ h => h) (by kernel_rfl) ?_ (by assumption) ?_
          rotate_left
          · (intro w' hSw; (try dsimp only at hSw); go_simp; first | done | with_reducible rfl)
          simp only [Act.put, List.setIfInBounds_toArray, List.set_cons_zero, List.set_cons_succ]
          refine rg_take (v := ?_) 1 rfl (by kernel_rfl) (by kernel_rfl) (by kernel_rfl) (fun _ _ _ h => h) (by kernel_rfl) ?_ (by assumption) ?_
          rotate_left
          · (intro w' hSw; (try dsimp only at hSw); go_simp; first | done | with_reducible rfl)
          simp only [Act.put, List.setIfInBounds_toArray, List.set_cons_zero, List.set_cons_succ]
          refine rg_take (v := ?_) 2 rfl (by kernel_rfl) (by kernel_rfl) (by kernel_rfl) (fun _ _ _ h => h) (by kernel_rfl) ?_ (by assumption) ?_
          rotate_left
          · (intro w' hSw; (try dsimp only at hSw); go_simp; first | done | with_reducible rfl)
          simp only [Act.put, List.setIfInBounds_toArray, List.set_cons_zero, List.set_cons_succ]
          refine rg_take (v := ?_) 3 rfl (by kernel_rfl) (by kernel_rfl) (by kernel_rfl) (fun _ _ _ h => h) (by kernel_rfl) ?_ (by assumption) ?_
          rotate_left
          · (intro w' hSw; (try dsimp only at hSw); go_simp; first | done | with_reducible rfl)
          simp only [Act.put, List.setIfInBounds_toArray, List.set_cons_zero, List.set_cons_succ]
          refine rg_take (v := ?_) 4 rfl (by kernel_rfl) (by kernel_rfl) (by kernel_rfl) (fun _ _ _ h => h) (by kernel_rfl) ?_ (by assumption) ?_
          rotate_left
          · (intro w' hSw; (try dsimp only at hSw); go_simp; first | done | with_reducible rfl)
          simp only [Act.put, List.setIfInBounds_toArray, List.set_cons_zero, List.set_cons_succ]
          refine rg_take (v := ?_) 5 rfl (by kernel_rfl) (by kernel_rfl) (by kernel_rfl) (fun _ _ _ h => h) (by kernel_rfl) ?_ (by assumption) ?_
          rotate_left
          · (intro w' hSw; (try dsimp only at hSw); go_simp; first | done | with_reducible rfl)
          simp only [Act.put, List.setIfInBounds_toArray, List.set_cons_zero, List.set_cons_succ]
          refine rg_take (v := ?_) 6 rfl (by kernel_rfl) (by kernel_rfl) (by kernel_rfl) (fun _ _ _ h => h) (by kernel_rfl) ?_ (by assumption) ?_
          rotate_left
          · (intro w' hSw; (try dsimp only at hSw); go_simp; first | done | with_reducible rfl)
          simp only [Act.put, List.setIfInBounds_toArray, List.set_cons_zero, List.set_cons_succ]
          refine rg_take (v := ?_) 7 rfl (by kernel_rfl) (by kernel_rfl) (by kernel_rfl) (fun _ _ _ h => h) (by kernel_rfl) ?_ (by assumption) ?_
          rotate_left
          · (intro w' hSw; (try dsimp only at hSw); go_simp; first | done | with_reducible rfl)
          simp only [Act.put, List.setIfInBounds_toArray, List.set_cons_zero, List.set_cons_succ]
          refine rg_take (v := ?_) 8 rfl (by kernel_rfl) (by kernel_rfl) (by kernel_rfl) (fun _ _ _ h => h) (by kernel_rfl) ?_ (by assumption) ?_
          rotate_left
          · (intro w' hSw; (try dsimp only at hSw); go_simp; first | done | with_reducible rfl)
          simp only [Act.put, List.setIfInBounds_toArray, List.set_cons_zero, List.set_cons_succ]
          refine rg_take (v := ?_) 9 rfl (by kernel_rfl) (by kernel_rfl) (by kernel_rfl) (fun _ _ _ h => h) (by kernel_rfl) ?_ (by assumption) ?_
          rotate_left
          · (intro w' hSw; (try dsimp only at hSw); go_simp; first | done | with_reducible rfl)
          simp only [Act.put, List.setIfInBounds_toArray, List.set_cons_zero, List.set_cons_succ]
          refine rg_take (v := ?_) 10 rfl (by kernel_rfl) (by kernel_rfl) (by kernel_rfl) (fun _ _ _ h => h) (by kernel_rfl) ?_ (by assumption) ?_
          rotate_left
          · (intro w' hSw; (try dsimp only at hSw); go_simp; first | done | with_reducible rfl)
          simp only [Act.put, List.setIfInBounds_toArray, List.set_cons_zero, List.set_cons_succ]
          refine rg_take (v := ?_) 11 rfl (by kernel_rfl) (by kernel_rfl) (by kernel_rfl) (fun _ _ _ h => h) (by kernel_rfl) ?_ (by assumption) ?_
          rotate_left
          · (intro w' hSw; (try dsimp only at hSw); go_simp; first | done | with_reducible rfl)
          simp only [Act.put, List.setIfInBounds_toArray, List.set_cons_zero, List.set_cons_succ]
          refine rg_take (v := ?_) 12 rfl (by kernel_rfl) (by kernel_rfl) (by kernel_rfl) (fun _ _ _ h => h) (by kernel_rfl) ?_ (by assumption) ?_
          rotate_left
          · (intro w' hSw; (try dsimp only at hSw); go_simp; first | done | with_reducible rfl)
          simp only [Act.put, List.setIfInBounds_toArray, List.set_cons_zero, List.set_cons_succ]
          refine rg_take (v := ?_) 13 rfl (by kernel_rfl) (by kernel_rfl) (by kernel_rfl) (fun _ _ _ h => h) (by kernel_rfl) ?_ (by assumption) ?_
          rotate_left
          · (intro w' hSw; (try dsimp only at hSw); go_simp; first | done | with_reducible rfl)
          simp only [Act.put, List.setIfInBounds_toArray, List.set_cons_zero, List.set_cons_succ]
          refine rg_take (v := ?_) 14 rfl (by kernel_rfl) (by kernel_rfl) (by kernel_rfl) (fun _ _ _ h => h) (by kernel_rfl) ?_ (by assumption) ?_
          rotate_left
          · (intro w' hSw; (try dsimp only at hSw); go_simp; first | done | with_reducible rfl)
          simp only [Act.put, List.setIfInBounds_toArray, List.set_cons_zero, List.set_cons_succ]
          refine rg_take (v := ?_) 15 rfl (by kernel_rfl) (by kernel_rfl) (by kernel_rfl) (fun _ _ _ h => h) (by kernel_rfl) ?_ (by assumption) ?_
          rotate_left
          · (intro w' hSw; (try dsimp only at hSw); go_simp; first | done | with_reducible rfl)
          simp only [Act.put, List.setIfInBounds_toArray, List.set_cons_zero, List.set_cons_succ]
          refine rg_take (v := ?_) 16 rfl (by kernel_rfl) (by kernel_rfl) (by kernel_rfl) (fun _ _ _ h => h) (by kernel_rfl) ?_ (by assumption) ?_
          rotate_left
          · (intro w' hSw; (try dsimp only at hSw); go_simp; first | done | with_reducible rfl)
          simp only [Act.put, List.setIfInBounds_toArray, List.set_cons_zero, List.set_cons_succ]
          refine rg_take (v := ?_) 17 rfl (by kernel_rfl) (by kernel_rfl) (by kernel_rfl) (fun _ _ _ h => h) (by kernel_rfl) ?_ (by assumption) ?_
          rotate_left
          · (intro w' hSw; (try dsimp only at hSw); go_simp; first | done | with_reducible rfl)
          simp only [Act.put, List.setIfInBounds_toArray, List.set_cons_zero, List.set_cons_succ]
          refine rg_take (v := ?_) 18 rfl (by kernel_rfl) (by kernel_rfl) (by kernel_rfl) (fun _ _ _ h => h) (by kernel_rfl) ?_ (by assumption) ?_
          rotate_left
          · (intro w' hSw; (try dsimp only at hSw); go_simp; first | done | with_reducible rfl)
          simp only [Act.put, List.setIfInBounds_toArray, List.set_cons_zero, List.set_cons_succ]
          refine rg_take (v := ?_) 19 rfl (by kernel_rfl) (by kernel_rfl) (by kernel_rfl) (fun _ _ _ h => h) (by kernel_rfl) ?_ (by assumption) ?_
          rotate_left
          · (intro w' hSw; (try dsimp only at hSw); go_simp; first | done | with_reducible rfl)
          simp only [Act.put, List.setIfInBounds_toArray, List.set_cons_zero, List.set_cons_succ]
          refine wpAnyH_done (by kernel_rfl) ?_ _
          clear hHeld
          go_wp2
          go_ret
          exact ⟨ret_bool (by rw [← HB0.out, hl_bad HZZ.out HD.out]), HBE.out.drew⟩
        · have HD := Lib.hid (show hdB vs ⟨j, z, true⟩ = true by rw [HR.out]; simp)
          go_wp2
          refine wp_region_held_drew (S := (fun w' => w'.cell? ⟨b, off + k * 3, none⟩ = some (.int .i64 j) ∧ w'.cell? ⟨b, off + k * 3 + 1, none⟩ = some (.int .i64 z) ∧ w'.cell? ⟨b, off + k * 3 + 2, none⟩ = some (.bool true) ∧ w'.cell? ⟨b2, off2 + j, none⟩ = some (.int .i64 z))) (by kernel_rfl) ?_ (fun hHeld => ?_)
          · exact ⟨g0, g1, g2, e0⟩
          refine rg_take (v := ?_) 0 rfl (by kernel_rfl) (by kernel_rfl) (by kernel_rfl) (fun _ _ _ h => h) (by kernel_rfl) ?_ (by assumption) ?_
          rotate_left
          · (intro w' hSw; (try dsimp only at hSw); go_simp; first | done | with_reducible rfl)
          simp only [Act.put, List.setIfInBounds_toArray, List.set_cons_zero, List.set_cons_succ]
          refine rg_take (v := ?_) 1 rfl (by kernel_rfl) (by kernel_rfl) (by kernel_rfl) (fun _ _ _ h => h) (by kernel_rfl) ?_ (by assumption) ?_
          rotate_left
          · (intro w' hSw; (try dsimp only at hSw); go_simp; first | done | with_reducible rfl)
          simp only [Act.put, List.setIfInBounds_toArray, List.set_cons_zero, List.set_cons_succ]
          refine rg_take (v := ?_) 2 rfl (by kernel_rfl) (by kernel_rfl) (by kernel_rfl) (fun _ _ _ h => h) (by kernel_rfl) ?_ (by assumption) ?_
          rotate_left
          · (intro w' hSw; (try dsimp only at hSw); go_simp; first | done | with_reducible rfl)
          simp only [Act.put, List.setIfInBounds_toArray, List.set_cons_zero, List.set_cons_succ]
          refine rg_take (v := ?_) 3 rfl (by kernel_rfl) (by kernel_rfl) (by kernel_rfl) (fun _ _ _ h => h) (by kernel_rfl) ?_ (by assumption) ?_
          rotate_left
          · (intro w' hSw; (try dsimp only at hSw); go_simp; first | done | with_reducible rfl)
          simp only [Act.put, List.setIfInBounds_toArray, List.set_cons_zero, List.set_cons_succ]
          refine rg_take (v := ?_) 4 rfl (by kernel_rfl) (by kernel_rfl) (by kernel_rfl) (fun _ _ _ h => h) (by kernel_rfl) ?_ (by assumption) ?_
          rotate_left
          · (intro w' hSw; (try dsimp only at hSw); go_simp; first | done | with_reducible rfl)
          simp only [Act.put, List.setIfInBounds_toArray, List.set_cons_zero, List.set_cons_succ]
          refine rg_take (v := ?_) 5 rfl (by kernel_rfl) (by kernel_rfl) (by kernel_rfl) (fun _ _ _ h => h) (by kernel_rfl) ?_ (by assumption) ?_
          rotate_left
          · (intro w' hSw; (try dsimp only at hSw); go_simp; first | done | with_reducible rfl)
          simp only [Act.put, List.setIfInBounds_toArray, List.set_cons_zero, List.set_cons_succ]
          refine rg_take (v := ?_) 6 rfl (by kernel_rfl) (by kernel_rfl) (by kernel_rfl) (fun _ _ _ h => h) (by kernel_rfl) ?_ (by assumption) ?_
          rotate_left
          · (intro w' hSw; (try dsimp only at hSw); go_simp; first | done | with_reducible rfl)
          simp only [Act.put, List.setIfInBounds_toArray, List.set_cons_zero, List.set_cons_succ]
          refine rg_take (v := ?_) 7 rfl (by kernel_rfl) (by kernel_rfl) (by kernel_rfl) (fun _ _ _ h => h) (by kernel_rfl) ?_ (by assumption) ?_
          rotate_left
          · (intro w' hSw; (try dsimp only at hSw); go_simp; first | done | with_reducible rfl)
          simp only [Act.put, List.setIfInBounds_toArray, List.set_cons_zero, List.set_cons_succ]
          refine rg_take (v := ?_) 8 rfl (by kernel_rfl) (by kernel_rfl) (by kernel_rfl) (fun _ _ _ h => h) (by kernel_rfl) ?_ (by assumption) ?_
          rotate_left
          · (intro w' hSw; (try dsimp only at hSw); go_simp; first | done | with_reducible rfl)
          simp only [Act.put, List.setIfInBounds_toArray, List.set_cons_zero, List.set_cons_succ]
          refine rg_take (v := ?_) 9 rfl (by kernel_rfl) (by kernel_rfl) (by kernel_rfl) (fun _ _ _ h => h) (by kernel_rfl) ?_ (by assumption) ?_
          rotate_left
          · (intro w' hSw; (try dsimp only at hSw); go_simp; first | done | with_reducible rfl)
          simp only [Act.put, List.setIfInBounds_toArray, List.set_cons_zero, List.set_cons_succ]
          refine rg_take (v := ?_) 10 rfl (by kernel_rfl) (by kernel_rfl) (by kernel_rfl) (fun _ _ _ h => h) (by kernel_rfl) ?_ (by assumption) ?_
          rotate_left
          · (intro w' hSw; (try dsimp only at hSw); go_simp; first | done | with_reducible rfl)
          simp only [Act.put, List.setIfInBounds_toArray, List.set_cons_zero, List.set_cons_succ]
          refine rg_take (v := ?_) 11 rfl (by kernel_rfl) (by kernel_rfl) (by kernel_rfl) (fun _ _ _ h => h) (by kernel_rfl) ?_ (by assumption) ?_
          rotate_left
          · (intro w' hSw; (try dsimp only at hSw); go_simp; first | done | with_reducible rfl)
          simp only [Act.put, List.setIfInBounds_toArray, List.set_cons_zero, List.set_cons_succ]
          refine rg_take (v := ?_) 12 rfl (by kernel_rfl) (by kernel_rfl) (by kernel_rfl) (fun _ _ _ h => h) (by kernel_rfl) ?_ (by assumption) ?_
          rotate_left
          · (intro w' hSw; (try dsimp only at hSw); go_simp; first | done | with_reducible rfl)
          simp only [Act.put, List.setIfInBounds_toArray, List.set_cons_zero, List.set_cons_succ]
          refine rg_take (v := ?_) 13 rfl (by kernel_rfl) (by kernel_rfl) (by kernel_rfl) (fun _ _ _ h => h) (by kernel_rfl) ?_ (by assumption) ?_
          rotate_left
          · (intro w' hSw; (try dsimp only at hSw); go_simp; first | done | with_reducible rfl)
          simp only [Act.put, List.setIfInBounds_toArray, List.set_cons_zero, List.set_cons_succ]
          refine rg_take (v := ?_) 14 rfl (by kernel_rfl) (by kernel_rfl) (by kernel_rfl) (fun _ _ _ h => h) (by kernel_rfl) ?_ (by assumption) ?_
          rotate_left
          · (intro w' hSw; (try dsimp only at hSw); go_simp; first | done | with_reducible rfl)
          simp only [Act.put, List.setIfInBounds_toArray, List.set_cons_zero, List.set_cons_succ]
          refine rg_take (v := ?_) 15 rfl (by kernel_rfl) (by kernel_rfl) (by kernel_rfl) (fun _ _ _ h => h) (by kernel_rfl) ?_ (by assumption) ?_
          rotate_left
          · (intro w' hSw; (try dsimp only at hSw); go_simp; first | done | with_reducible rfl)
          simp only [Act.put, List.setIfInBounds_toArray, List.set_cons_zero, List.set_cons_succ]
          refine rg_take (v := ?_) 16 rfl (by kernel_rfl) (by kernel_rfl) (by kernel_rfl) (fun _ _ _ h => h) (by kernel_rfl) ?_ (by assumption) ?_
          rotate_left
          · (intro w' hSw; (try dsimp only at hSw); go_simp; first | done | with_reducible rfl)
          simp only [Act.put, List.setIfInBounds_toArray, List.set_cons_zero, List.set_cons_succ]
          refine rg_take (v := ?_) 17 rfl (by kernel_rfl) (by kernel_rfl) (by kernel_rfl) (fun _ _ _ h => h) (by kernel_rfl) ?_ (by assumption) ?_
          rotate_left
          · (intro w' hSw; (try dsimp only at hSw); go_simp; first | done | with_reducible rfl)
          simp only [Act.put, List.setIfInBounds_toArray, List.set_cons_zero, List.set_cons_succ]
          refine rg_take (v := ?_) 18 rfl (by kernel_rfl) (by kernel_rfl) (by kernel_rfl) (fun _ _ _ h => h) (by kernel_rfl) ?_ (by assumption) ?_
          rotate_left
          · (intro w' hSw; (try dsimp only at hSw); go_simp; first | done | with_reducible rfl)
          simp only [Act.put, List.setIfInBounds_toArray, List.set_cons_zero, List.set_cons_succ]
          refine rg_take (v := ?_) 19 rfl (by kernel_rfl) (by kernel_rfl) (by kernel_rfl) (fun _ _ _ h => h) (by kernel_rfl) ?_ (by assumption) ?_
          rotate_left
          · (intro w' hSw; (try dsimp only at hSw); go_simp; first | done | with_reducible rfl)
          simp only [Act.put, List.setIfInBounds_toArray, List.set_cons_zero, List.set_cons_succ]
          refine wpAnyH_done (by kernel_rfl) ?_ _
          clear hHeld
          go_wp2
          go_roundw
          case rel => exact ⟨k + 1, by omega, by go_num, Lib.hid (hl_snoc HZZ.out ha.out HD.out), HBE.out.drew⟩
          case measure => simp [intOf]; omega
      · have hz2 : (z == tx) = false := by simpa using hzx
        rcases tq with _ | _
        · have HD := Lib.hid (show hdB vs ⟨j, tx, false⟩ = true by rw [HR.out]; simp [hzx])
          go_wp2
          refine wp_region_held_drew (S := (fun w' => w'.cell? ⟨b, off + k * 3, none⟩ = some (.int .i64 j) ∧ w'.cell? ⟨b, off + k * 3 + 1, none⟩ = some (.int .i64 tx) ∧ w'.cell? ⟨b, off + k * 3 + 2, none⟩ = some (.bool false) ∧ w'.cell? ⟨b2, off2 + j, none⟩ = some (.int .i64 z))) (by kernel_rfl) ?_ (fun hHeld => ?_)
          · exact ⟨g0, g1, g2, e0⟩
          refine rg_take (v := ?_) 0 rfl (by kernel_rfl) (by kernel_rfl) (by kernel_rfl) (fun _ _ _ h => h) (by kernel_rfl) ?_ (by assumption) ?_
          rotate_left
          · (intro w' hSw; (try dsimp only at hSw); go_simp; first | done | with_reducible rfl)
          simp only [Act.put, List.setIfInBounds_toArray, List.set_cons_zero, List.set_cons_succ]
          refine rg_take (v := ?_) 1 rfl (by kernel_rfl) (by kernel_rfl) (by kernel_rfl) (fun _ _ _ h => h) (by kernel_rfl) ?_ (by assumption) ?_
          rotate_left
          · (intro w' hSw; (try dsimp only at hSw); go_simp; first | done | with_reducible rfl)
          simp only [Act.put, List.setIfInBounds_toArray, List.set_cons_zero, List.set_cons_succ]
          refine rg_take (v := ?_) 2 rfl (by kernel_rfl) (by kernel_rfl) (by kernel_rfl) (fun _ _ _ h => h) (by kernel_rfl) ?_ (by assumption) ?_
          rotate_left
          · (intro w' hSw; (try dsimp only at hSw); go_simp; first | done | with_reducible rfl)
          simp only [Act.put, List.setIfInBounds_toArray, List.set_cons_zero, List.set_cons_succ]
          refine rg_take (v := ?_) 3 rfl (by kernel_rfl) (by kernel_rfl) (by kernel_rfl) (fun _ _ _ h => h) (by kernel_rfl) ?_ (by assumption) ?_
          rotate_left
          · (intro w' hSw; (try dsimp only at hSw); go_simp; first | done | with_reducible rfl)
          simp only [Act.put, List.setIfInBounds_toArray, List.set_cons_zero, List.set_cons_succ]
          refine rg_take (v := ?_) 4 rfl (by kernel_rfl) (by kernel_rfl) (by kernel_rfl) (fun _ _ _ h => h) (by kernel_rfl) ?_ (by assumption) ?_
          rotate_left
          · (intro w' hSw; (try dsimp only at hSw); go_simp; first | done | with_reducible rfl)
          simp only [Act.put, List.setIfInBounds_toArray, List.set_cons_zero, List.set_cons_succ]
          refine rg_take (v := ?_) 5 rfl (by kernel_rfl) (by kernel_rfl) (by kernel_rfl) (fun _ _ _ h => h) (by kernel_rfl) ?_ (by assumption) ?_
          rotate_left
          · (intro w' hSw; (try dsimp only at hSw); go_simp; first | done | with_reducible rfl)
          simp only [Act.put, List.setIfInBounds_toArray, List.set_cons_zero, List.set_cons_succ]
          refine rg_take (v := ?_) 6 rfl (by kernel_rfl) (by kernel_rfl) (by kernel_rfl) (fun _ _ _ h => h) (by kernel_rfl) ?_ (by assumption) ?_
          rotate_left
          · (intro w' hSw; (try dsimp only at hSw); go_simp; first | done | with_reducible rfl)
          simp only [Act.put, List.setIfInBounds_toArray, List.set_cons_zero, List.set_cons_succ]
          refine rg_take (v := ?_) 7 rfl (by kernel_rfl) (by kernel_rfl) (by kernel_rfl) (fun _ _ _ h => h) (by kernel_rfl) ?_ (by assumption) ?_
          rotate_left
          · (intro w' hSw; (try dsimp only at hSw); go_simp; first | done | with_reducible rfl)
          simp only [Act.put, List.setIfInBounds_toArray, List.set_cons_zero, List.set_cons_succ]
          refine rg_take (v := ?_) 8 rfl (by kernel_rfl) (by kernel_rfl) (by kernel_rfl) (fun _ _ _ h => h) (by kernel_rfl) ?_ (by assumption) ?_
          rotate_left
          · (intro w' hSw; (try dsimp only at hSw); go_simp; first | done | with_reducible rfl)
          simp only [Act.put, List.setIfInBounds_toArray, List.set_cons_zero, List.set_cons_succ]
          refine rg_take (v := ?_) 9 rfl (by kernel_rfl) (by kernel_rfl) (by kernel_rfl) (fun _ _ _ h => h) (by kernel_rfl) ?_ (by assumption) ?_
          rotate_left
          · (intro w' hSw; (try dsimp only at hSw); go_simp; first | done | with_reducible rfl)
          simp only [Act.put, List.setIfInBounds_toArray, List.set_cons_zero, List.set_cons_succ]
          refine rg_take (v := ?_) 10 rfl (by kernel_rfl) (by kernel_rfl) (by kernel_rfl) (fun _ _ _ h => h) (by kernel_rfl) ?_ (by assumption) ?_
          rotate_left
          · (intro w' hSw; (try dsimp only at hSw); go_simp; first | done | with_reducible rfl)
          simp only [Act.put, List.setIfInBounds_toArray, List.set_cons_zero, List.set_cons_succ]
          refine rg_take (v := ?_) 11 rfl (by kernel_rfl) (by kernel_rfl) (by kernel_rfl) (fun _ _ _ h => h) (by kernel_rfl) ?_ (by assumption) ?_
          rotate_left
          · (intro w' hSw; (try dsimp only at hSw); go_simp; first | done | with_reducible rfl)
          simp only [Act.put, List.setIfInBounds_toArray, List.set_cons_zero, List.set_cons_succ]
          refine rg_take (v := ?_) 12 rfl (by kernel_rfl) (by kernel_rfl) (by kernel_rfl) (fun _ _ _ h => h) (by kernel_rfl) ?_ (by assumption) ?_
          rotate_left
          · (intro w' hSw; (try dsimp only at hSw); go_simp; first | done | with_reducible rfl)
          simp only [Act.put, List.setIfInBounds_toArray, List.set_cons_zero, List.set_cons_succ]
          refine rg_take (v := ?_) 13 rfl (by kernel_rfl) (by kernel_rfl) (by kernel_rfl) (fun _ _ _ h => h) (by kernel_rfl) ?_ (by assumption) ?_
          rotate_left
          · (intro w' hSw; (try dsimp only at hSw); go_simp; first | done | with_reducible rfl)
          simp only [Act.put, List.setIfInBounds_toArray, List.set_cons_zero, List.set_cons_succ]
          refine rg_take (v := ?_) 14 rfl (by kernel_rfl) (by kernel_rfl) (by kernel_rfl) (fun _ _ _ h => h) (by kernel_rfl) ?_ (by assumption) ?_
          rotate_left
          · (intro w' hSw; (try dsimp only at hSw); go_simp; first | done | with_reducible rfl)
          simp only [Act.put, List.setIfInBounds_toArray, List.set_cons_zero, List.set_cons_succ]
          refine rg_take (v := ?_) 15 rfl (by kernel_rfl) (by kernel_rfl) (by kernel_rfl) (fun _ _ _ h => h) (by kernel_rfl) ?_ (by assumption) ?_
          rotate_left
          · (intro w' hSw; (try dsimp only at hSw); go_simp; first | done | with_reducible rfl)
          simp only [Act.put, List.setIfInBounds_toArray, List.set_cons_zero, List.set_cons_succ]
          refine rg_take (v := ?_) 16 rfl (by kernel_rfl) (by kernel_rfl) (by kernel_rfl) (fun _ _ _ h => h) (by kernel_rfl) ?_ (by assumption) ?_
          rotate_left
          · (intro w' hSw; (try dsimp only at hSw); go_simp; first | done | with_reducible rfl)
          simp only [Act.put, List.setIfInBounds_toArray, List.set_cons_zero, List.set_cons_succ]
          refine rg_take (v := ?_) 17 rfl (by kernel_rfl) (by kernel_rfl) (by kernel_rfl) (fun _ _ _ h => h) (by kernel_rfl) ?_ (by assumption) ?_
          rotate_left
          · (intro w' hSw; (try dsimp only at hSw); go_simp; first | done | with_reducible rfl)
          simp only [Act.put, List.setIfInBounds_toArray, List.set_cons_zero, List.set_cons_succ]
          refine rg_take (v := ?_) 18 rfl (by kernel_rfl) (by kernel_rfl) (by kernel_rfl) (fun _ _ _ h => h) (by kernel_rfl) ?_ (by assumption) ?_
          rotate_left
          · (intro w' hSw; (try dsimp only at hSw); go_simp; first | done | with_reducible rfl)
          simp only [Act.put, List.setIfInBounds_toArray, List.set_cons_zero, List.set_cons_succ]
          refine rg_take (v := ?_) 19 rfl (by kernel_rfl) (by kernel_rfl) (by kernel_rfl) (fun _ _ _ h => h) (by kernel_rfl) ?_ (by assumption) ?_
          rotate_left
          · (intro w' hSw; (try dsimp only at hSw); go_simp; first | done | with_reducible rfl)
          simp only [Act.put, List.setIfInBounds_toArray, List.set_cons_zero, List.set_cons_succ]
          refine wpAnyH_done (by kernel_rfl) ?_ _
          clear hHeld
          go_wp2
          go_roundw
          case rel => exact ⟨k + 1, by omega, by go_num, Lib.hid (hl_snoc HZZ.out ha.out HD.out), HBE.out.drew⟩
          case measure => simp [intOf]; omega
        · have HD := Lib.hid (show hdB vs ⟨j, tx, true⟩ = false by rw [HR.out]; simp [hzx])
          go_wp2
          refine wp_region_held_drew (S := (fun w' => w'.cell? ⟨b, off + k * 3, none⟩ = some (.int .i64 j) ∧ w'.cell? ⟨b, off + k * 3 + 1, none⟩ = some (.int .i64 tx) ∧ w'.cell? ⟨b, off + k * 3 + 2, none⟩ = some (.bool true) ∧ w'.cell? ⟨b2, off2 + j, none⟩ = some (.int .i64 z))) (by kernel_rfl) ?_ (fun hHeld => ?_)
          · exact ⟨g0, g1, g2, e0⟩
          refine rg_take (v := ?_) 0 rfl (by kernel_rfl) (by kernel_rfl) (by kernel_rfl) (fun _ _ _ h => h) (by kernel_rfl) ?_ (by assumption) ?_
          rotate_left
          · (intro w' hSw; (try dsimp only at hSw); go_simp; first | done | with_reducible rfl)
          simp only [Act.put, List.setIfInBounds_toArray, List.set_cons_zero, List.set_cons_succ]
          refine rg_take (v := ?_) 1 rfl (by kernel_rfl) (by kernel_rfl) (by kernel_rfl) (fun _ _ _ h => h) (by kernel_rfl) ?_ (by assumption) ?_
          rotate_left
          · (intro w' hSw; (try dsimp only at hSw); go_simp; first | done | with_reducible rfl)
          simp only [Act.put, List.setIfInBounds_toArray, List.set_cons_zero, List.set_cons_succ]
          refine rg_take (v := ?_) 2 rfl (by kernel_rfl) (by kernel_rfl) (by kernel_rfl) (fun _ _ _ h => h) (by kernel_rfl) ?_ (by assumption) ?_
          rotate_left
          · (intro w' hSw; (try dsimp only at hSw); go_simp; first | done | with_reducible rfl)
          simp only [Act.put, List.setIfInBounds_toArray, List.set_cons_zero, List.set_cons_succ]
          refine rg_take (v := ?_) 3 rfl (by kernel_rfl) (by kernel_rfl) (by kernel_rfl) (fun _ _ _ h => h) (by kernel_rfl) ?_ (by assumption) ?_
          rotate_left
          · (intro w' hSw; (try dsimp only at hSw); go_simp; first | done | with_reducible rfl)
          simp only [Act.put, List.setIfInBounds_toArray, List.set_cons_zero, List.set_cons_succ]
          refine rg_take (v := ?_) 4 rfl (by kernel_rfl) (by kernel_rfl) (by kernel_rfl) (fun _ _ _ h => h) (by kernel_rfl) ?_ (by assumption) ?_
          rotate_left
          · (intro w' hSw; (try dsimp only at hSw); go_simp; first | done | with_reducible rfl)
          simp only [Act.put, List.setIfInBounds_toArray, List.set_cons_zero, List.set_cons_succ]
          refine rg_take (v := ?_) 5 rfl (by kernel_rfl) (by kernel_rfl) (by kernel_rfl) (fun _ _ _ h => h) (by kernel_rfl) ?_ (by assumption) ?_
          rotate_left
          · (intro w' hSw; (try dsimp only at hSw); go_simp; first | done | with_reducible rfl)
          simp only [Act.put, List.setIfInBounds_toArray, List.set_cons_zero, List.set_cons_succ]
          refine rg_take (v := ?_) 6 rfl (by kernel_rfl) (by kernel_rfl) (by kernel_rfl) (fun _ _ _ h => h) (by kernel_rfl) ?_ (by assumption) ?_
          rotate_left
          · (intro w' hSw; (try dsimp only at hSw); go_simp; first | done | with_reducible rfl)
          simp only [Act.put, List.setIfInBounds_toArray, List.set_cons_zero, List.set_cons_succ]
          refine rg_take (v := ?_) 7 rfl (by kernel_rfl) (by kernel_rfl) (by kernel_rfl) (fun _ _ _ h => h) (by kernel_rfl) ?_ (by assumption) ?_
          rotate_left
          · (intro w' hSw; (try dsimp only at hSw); go_simp; first | done | with_reducible rfl)
          simp only [Act.put, List.setIfInBounds_toArray, List.set_cons_zero, List.set_cons_succ]
          refine rg_take (v := ?_) 8 rfl (by kernel_rfl) (by kernel_rfl) (by kernel_rfl) (fun _ _ _ h => h) (by kernel_rfl) ?_ (by assumption) ?_
          rotate_left
          · (intro w' hSw; (try dsimp only at hSw); go_simp; first | done | with_reducible rfl)
          simp only [Act.put, List.setIfInBounds_toArray, List.set_cons_zero, List.set_cons_succ]
          refine rg_take (v := ?_) 9 rfl (by kernel_rfl) (by kernel_rfl) (by kernel_rfl) (fun _ _ _ h => h) (by kernel_rfl) ?_ (by assumption) ?_
          rotate_left
          · (intro w' hSw; (try dsimp only at hSw); go_simp; first | done | with_reducible rfl)
          simp only [Act.put, List.setIfInBounds_toArray, List.set_cons_zero, List.set_cons_succ]
          refine rg_take (v := ?_) 10 rfl (by kernel_rfl) (by kernel_rfl) (by kernel_rfl) (fun _ _ _ h => h) (by kernel_rfl) ?_ (by assumption) ?_
          rotate_left
          · (intro w' hSw; (try dsimp only at hSw); go_simp; first | done | with_reducible rfl)
          simp only [Act.put, List.setIfInBounds_toArray, List.set_cons_zero, List.set_cons_succ]
          refine rg_take (v := ?_) 11 rfl (by kernel_rfl) (by kernel_rfl) (by kernel_rfl) (fun _ _ _ h => h) (by kernel_rfl) ?_ (by assumption) ?_
          rotate_left
          · (intro w' hSw; (try dsimp only at hSw); go_simp; first | done | with_reducible rfl)
          simp only [Act.put, List.setIfInBounds_toArray, List.set_cons_zero, List.set_cons_succ]
          refine rg_take (v := ?_) 12 rfl (by kernel_rfl) (by kernel_rfl) (by kernel_rfl) (fun _ _ _ h => h) (by kernel_rfl) ?_ (by assumption) ?_
          rotate_left
          · (intro w' hSw; (try dsimp only at hSw); go_simp; first | done | with_reducible rfl)
          simp only [Act.put, List.setIfInBounds_toArray, List.set_cons_zero, List.set_cons_succ]
          refine rg_take (v := ?_) 13 rfl (by kernel_rfl) (by kernel_rfl) (by kernel_rfl) (fun _ _ _ h => h) (by kernel_rfl) ?_ (by assumption) ?_
          rotate_left
          · (intro w' hSw; (try dsimp only at hSw); go_simp; first | done | with_reducible rfl)
          simp only [Act.put, List.setIfInBounds_toArray, List.set_cons_zero, List.set_cons_succ]
          refine rg_take (v := ?_) 14 rfl (by kernel_rfl) (by kernel_rfl) (by kernel_rfl) (fun _ _ _ h => h) (by kernel_rfl) ?_ (by assumption) ?_
          rotate_left
          · (intro w' hSw; (try dsimp only at hSw); go_simp; first | done | with_reducible rfl)
          simp only [Act.put, List.setIfInBounds_toArray, List.set_cons_zero, List.set_cons_succ]
          refine rg_take (v := ?_) 15 rfl (by kernel_rfl) (by kernel_rfl) (by kernel_rfl) (fun _ _ _ h => h) (by kernel_rfl) ?_ (by assumption) ?_
          rotate_left
          · (intro w' hSw; (try dsimp only at hSw); go_simp; first | done | with_reducible rfl)
          simp only [Act.put, List.setIfInBounds_toArray, List.set_cons_zero, List.set_cons_succ]
          refine rg_take (v := ?_) 16 rfl (by kernel_rfl) (by kernel_rfl) (by kernel_rfl) (fun _ _ _ h => h) (by kernel_rfl) ?_ (by assumption) ?_
          rotate_left
          · (intro w' hSw; (try dsimp only at hSw); go_simp; first | done | with_reducible rfl)
          simp only [Act.put, List.setIfInBounds_toArray, List.set_cons_zero, List.set_cons_succ]
          refine rg_take (v := ?_) 17 rfl (by kernel_rfl) (by kernel_rfl) (by kernel_rfl) (fun _ _ _ h => h) (by kernel_rfl) ?_ (by assumption) ?_
          rotate_left
          · (intro w' hSw; (try dsimp only at hSw); go_simp; first | done | with_reducible rfl)
          simp only [Act.put, List.setIfInBounds_toArray, List.set_cons_zero, List.set_cons_succ]
          refine rg_take (v := ?_) 18 rfl (by kernel_rfl) (by kernel_rfl) (by kernel_rfl) (fun _ _ _ h => h) (by kernel_rfl) ?_ (by assumption) ?_
          rotate_left
          · (intro w' hSw; (try dsimp only at hSw); go_simp; first | done | with_reducible rfl)
          simp only [Act.put, List.setIfInBounds_toArray, List.set_cons_zero, List.set_cons_succ]
          refine rg_take (v := ?_) 19 rfl (by kernel_rfl) (by kernel_rfl) (by kernel_rfl) (fun _ _ _ h => h) (by kernel_rfl) ?_ (by assumption) ?_
          rotate_left
          · (intro w' hSw; (try dsimp only at hSw); go_simp; first | done | with_reducible rfl)
          simp only [Act.put, List.setIfInBounds_toArray, List.set_cons_zero, List.set_cons_succ]
          refine wpAnyH_done (by kernel_rfl) ?_ _
          clear hHeld
          go_wp2
          go_ret
          exact ⟨ret_bool (by rw [← HB0.out, hl_bad HZZ.out HD.out]), HBE.out.drew⟩
    · obtain rfl : k = ln := by omega
      have hA := ha.out
      rw [List.take_of_length_le (by have := HLN.out; omega), HB0.out] at hA
      have HA := Lib.hid hA
      clear hA ha
      go_wp2
      go_ret
      exact ⟨ret_bool HA.out.symm, hb⟩
end Go.Proofs.Ytaloheljfefdeaa

/- stateCode and l20Code, HoldsIn on both sides. Condition: the lengths are those that the laws let by. -/
namespace Go.Proofs.Ytaloheljfefdeaa
open Go.RowKit

theorem md_szs {m : Mdl} (h : mdB m = true) : SzsOk m.sz := by
  unfold mdB szB at h
  simp only [Bool.and_eq_true, Bool.not_eq_true'] at h
  exact szB_ok h.1
theorem st_len {sz vs : List Int} (h : stB sz vs = true) : vs.length = sz.length := by
  unfold stB at h
  simp only [Bool.and_eq_true, decide_eq_true_eq] at h
  exact h.1
def stC (m : Mdl) (vs : List Int) : Int := if mdB m then (if stB m.sz vs then 0 else 2) else 1
/-- What HoldsIn hands back: a bool and a code. -/
def RetBC (b : Bool) (c : Int) (w : World) (e : Ending) (w' : World) : Prop := e = .returned (.tuple #[.bool b, .int .i64 c]) ∧ Below w.heap.size w w'
def hiB (m : Mdl) (vs : List Int) (ts : List Tst) : Bool := mdB m && (stB m.sz vs && (tsB m.sz ts && hlB vs ts))
def hiC (m : Mdl) (vs : List Int) (ts : List Tst) : Int := if mdB m then (if stB m.sz vs && tsB m.sz ts then 0 else 2) else 1
set_option maxRecDepth 100000 in
theorem c_stateCode (m : Mdl) (az ax ar : Option Addr) (cz cs cr : Nat) (A : Option Addr) (c : Nat) (vs : List Int) (w : World) (hok : MOk m) (hl : vs.length ≤ 1048576) (h : Md w az ax ar m) (hv : Rd w A (ints vs)) :
    Calls Try.prog 71 #[mv m az ax ar cz cs cr, .slice A vs.length c] w fun e w' => e = .returned (.int .i64 (stC m vs)) ∧ Below w.heap.size w w' := by
  have HI := Lib.hid (fun w' h => c_IsModel m az ax ar cz cs cr w' hok h)
  have HST := Lib.hid (fun w' hs h hv => c_isState m az ax ar cz cs cr A c vs w' hs hok.1.1 hl h hv)
  have HS := Lib.hid (fun h => md_szs (m := m) h)
  have HM := Lib.hid h
  have HV := Lib.hid hv
  have HR := Lib.hid (show stC m vs = if mdB m then (if stB m.sz vs then 0 else 2) else 1 from rfl)
  generalize stC m vs = R at HR ⊢
  generalize stB m.sz vs = A3 at *
  generalize mdB m = A1 at *
  clear h hv hok
  dsimp only [mv] at *
  generalize m.sz.length = sn at *
  generalize m.st.length = tn at *
  generalize m.rs.length = rn at *
  generalize vs.length = vn at *
  rcases A1 with _ | _
  · have e := HR.out
    rw [if_neg (by simp)] at e
    subst e
    go_enter Try.func71, Try.ntmps71
    go_wp2_with (fail)
    refine (HI.out _ (HM.out.alloc _)).mono ?_
    rintro e w1 ⟨rfl, hb⟩
    have HB := Lib.hid (below_chain (by (repeat (first | exact Below.refl _ _ | assumption | refine below_alloc ?_ _ | refine below_drewN ?_ _ | refine below_set ?_ _ (by simp; try omega) | refine Below.drew ?_)) : Below w.heap.size w _) hb)
    clear hb
    go_wp2
    go_ret
    exact ⟨rfl, HB.out⟩
  have e := HR.out
  rw [if_pos rfl] at e
  have HR2 := Lib.hid e
  have HSS := Lib.hid (HS.out rfl)
  clear e HR HS
  go_enter Try.func71, Try.ntmps71
  go_wp2_with (fail)
  refine (HI.out _ (HM.out.alloc _)).mono ?_
  rintro e w1 ⟨rfl, hb⟩
  have k0 : w1.cell? ⟨w.heap.size, 0, none⟩ = some (.slice az sn cz) := cell_later hb (by go_simp)
  have k1 : w1.cell? ⟨w.heap.size, 1, none⟩ = some (.slice ax tn cs) := cell_later hb (by go_simp)
  have k2 : w1.cell? ⟨w.heap.size, 2, none⟩ = some (.slice ar rn cr) := cell_later hb (by go_simp)
  have HB := Lib.hid (below_chain (by (repeat (first | exact Below.refl _ _ | assumption | refine below_alloc ?_ _ | refine below_drewN ?_ _ | refine below_set ?_ _ (by simp; try omega) | refine Below.drew ?_)) : Below w.heap.size w _) hb)
  clear hb
  rcases A3 with _ | _
  · have e := HR2.out
    rw [if_neg (by simp)] at e
    subst e
    go_wp2_with (fail)
    refine (HST.out _ HSS.out (HM.out.z.below HB.out) (HV.out.below HB.out)).mono ?_
    rintro e w2 ⟨rfl, hb⟩
    have HB2 := Lib.hid (below_chain HB.out hb)
    clear hb
    go_wp2
    go_ret
    exact ⟨rfl, HB2.out⟩
  · have e := HR2.out
    rw [if_pos rfl] at e
    subst e
    go_wp2_with (fail)
    refine (HST.out _ HSS.out (HM.out.z.below HB.out) (HV.out.below HB.out)).mono ?_
    rintro e w2 ⟨rfl, hb⟩
    have HB2 := Lib.hid (below_chain HB.out hb)
    clear hb
    go_wp2
    go_ret
    exact ⟨rfl, HB2.out⟩
set_option maxRecDepth 100000 in
theorem c_l20Code (m : Mdl) (az ax ar : Option Addr) (cz cs cr : Nat) (A : Option Addr) (c : Nat) (vs : List Int) (w : World) (hok : MOk m) (hl : vs.length ≤ 1048576) (h : Md w az ax ar m) (hv : Rd w A (ints vs)) :
    Calls Try.prog 74 #[mv m az ax ar cz cs cr, .slice A vs.length c] w fun e w' => e = .returned (.int .i64 (stC m vs)) ∧ Below w.heap.size w w' := by
  have HI := Lib.hid (fun w' h => c_sIsModel m az ax ar cz cs cr w' hok h)
  have HST := Lib.hid (fun w' hs h hv => c_l20State m az ax ar cz cs cr A c vs w' hs hok.1.1 hl h hv)
  have HS := Lib.hid (fun h => md_szs (m := m) h)
  have HM := Lib.hid h
  have HV := Lib.hid hv
  have HR := Lib.hid (show stC m vs = if mdB m then (if stB m.sz vs then 0 else 2) else 1 from rfl)
  generalize stC m vs = R at HR ⊢
  generalize stB m.sz vs = A3 at *
  generalize mdB m = A1 at *
  clear h hv hok
  dsimp only [mv] at *
  generalize m.sz.length = sn at *
  generalize m.st.length = tn at *
  generalize m.rs.length = rn at *
  generalize vs.length = vn at *
  rcases A1 with _ | _
  · have e := HR.out
    rw [if_neg (by simp)] at e
    subst e
    go_enter Try.func74, Try.ntmps74
    go_wp2_with (fail)
    refine (HI.out _ (HM.out.alloc _)).mono ?_
    rintro e w1 ⟨rfl, hb⟩
    have HB := Lib.hid (below_chain (by (repeat (first | exact Below.refl _ _ | assumption | refine below_alloc ?_ _ | refine below_drewN ?_ _ | refine below_set ?_ _ (by simp; try omega) | refine Below.drew ?_)) : Below w.heap.size w _) hb)
    clear hb
    go_wp2
    go_ret
    exact ⟨rfl, HB.out⟩
  have e := HR.out
  rw [if_pos rfl] at e
  have HR2 := Lib.hid e
  have HSS := Lib.hid (HS.out rfl)
  clear e HR HS
  go_enter Try.func74, Try.ntmps74
  go_wp2_with (fail)
  refine (HI.out _ (HM.out.alloc _)).mono ?_
  rintro e w1 ⟨rfl, hb⟩
  have k0 : w1.cell? ⟨w.heap.size, 0, none⟩ = some (.slice az sn cz) := cell_later hb (by go_simp)
  have k1 : w1.cell? ⟨w.heap.size, 1, none⟩ = some (.slice ax tn cs) := cell_later hb (by go_simp)
  have k2 : w1.cell? ⟨w.heap.size, 2, none⟩ = some (.slice ar rn cr) := cell_later hb (by go_simp)
  have HB := Lib.hid (below_chain (by (repeat (first | exact Below.refl _ _ | assumption | refine below_alloc ?_ _ | refine below_drewN ?_ _ | refine below_set ?_ _ (by simp; try omega) | refine Below.drew ?_)) : Below w.heap.size w _) hb)
  clear hb
  rcases A3 with _ | _
  · have e := HR2.out
    rw [if_neg (by simp)] at e
    subst e
    go_wp2_with (fail)
    refine (HST.out _ HSS.out (HM.out.z.below HB.out) (HV.out.below HB.out)).mono ?_
    rintro e w2 ⟨rfl, hb⟩
    have HB2 := Lib.hid (below_chain HB.out hb)
    clear hb
    go_wp2
    go_ret
    exact ⟨rfl, HB2.out⟩
  · have e := HR2.out
    rw [if_pos rfl] at e
    subst e
    go_wp2_with (fail)
    refine (HST.out _ HSS.out (HM.out.z.below HB.out) (HV.out.below HB.out)).mono ?_
    rintro e w2 ⟨rfl, hb⟩
    have HB2 := Lib.hid (below_chain HB.out hb)
    clear hb
    go_wp2
    go_ret
    exact ⟨rfl, HB2.out⟩
set_option maxHeartbeats 1000000 in
set_option maxRecDepth 100000 in
theorem c_HoldsIn (m : Mdl) (az ax ar : Option Addr) (cz cs cr : Nat) (A : Option Addr) (c : Nat) (vs : List Int) (A' : Option Addr) (c' : Nat) (ts : List Tst) (w : World) (hok : MOk m) (hl : vs.length ≤ 1048576) (hl2 : ts.length ≤ 1048576) (h : Md w az ax ar m) (hv : Rd w A (ints vs)) (ht : Rd w A' (tstCells ts)) :
    Calls Try.prog 18 #[mv m az ax ar cz cs cr, .slice A vs.length c, .slice A' ts.length c'] w (RetBC (hiB m vs ts) (hiC m vs ts) w) := by
  have HI := Lib.hid (fun w' h => c_IsModel m az ax ar cz cs cr w' hok h)
  have HST := Lib.hid (fun w' hs h hv => c_isState m az ax ar cz cs cr A c vs w' hs hok.1.1 hl h hv)
  have HTS := Lib.hid (fun w' hs h ht => c_areTests m az ax ar cz cs cr A' c' ts w' hs hok.1.1 hl2 h ht)
  have HHL := Lib.hid (fun w' hin hv ht => c_holds A c vs A' c' ts w' hl hl2 hin hv ht)
  have HS := Lib.hid (fun h => md_szs (m := m) h)
  have HIN := Lib.hid (fun (h1 : stB m.sz vs = true) (h2 : tsB m.sz ts = true) => show TsIn vs.length ts by rw [st_len h1]; exact tsIn_of h2)
  have HM := Lib.hid h
  have HV := Lib.hid hv
  have HT := Lib.hid ht
  have HRB := Lib.hid (show hiB m vs ts = (mdB m && (stB m.sz vs && (tsB m.sz ts && hlB vs ts))) from rfl)
  have HRC := Lib.hid (show hiC m vs ts = if mdB m then (if stB m.sz vs && tsB m.sz ts then 0 else 2) else 1 from rfl)
  generalize hiB m vs ts = RB at HRB ⊢
  generalize hiC m vs ts = RC at HRC ⊢
  generalize stB m.sz vs = A3 at *
  generalize tsB m.sz ts = A4 at *
  generalize hlB vs ts = A5 at *
  generalize mdB m = A1 at *
  clear h hv ht hok
  dsimp only [mv] at *
  generalize m.sz.length = sn at *
  generalize m.st.length = tn at *
  generalize m.rs.length = rn at *
  generalize vs.length = vn at *
  generalize ts.length = ln at *
  rcases A1 with _ | _
  · have e := HRC.out
    rw [if_neg (by simp)] at e
    have e2 := HRB.out
    rw [Bool.false_and] at e2
    subst e e2
    go_enter Try.func18, Try.ntmps18
    go_wp2_with (fail)
    refine (HI.out _ (HM.out.alloc _)).mono ?_
    rintro e w1 ⟨rfl, hb⟩
    have HB := Lib.hid (below_chain (by (repeat (first | exact Below.refl _ _ | assumption | refine below_alloc ?_ _ | refine below_drewN ?_ _ | refine below_set ?_ _ (by simp; try omega) | refine Below.drew ?_)) : Below w.heap.size w _) hb)
    clear hb
    go_wp2
    go_ret2
    exact ⟨rfl, HB.out⟩
  have e := HRC.out
  rw [if_pos rfl] at e
  have HRC2 := Lib.hid e
  have e2 := HRB.out
  rw [Bool.true_and] at e2
  have HRB2 := Lib.hid e2
  have HSS := Lib.hid (HS.out rfl)
  clear e e2 HRB HRC HS
  go_enter Try.func18, Try.ntmps18
  go_wp2_with (fail)
  refine (HI.out _ (HM.out.alloc _)).mono ?_
  rintro e w1 ⟨rfl, hb⟩
  have k0 : w1.cell? ⟨w.heap.size, 0, none⟩ = some (.slice az sn cz) := cell_later hb (by go_simp)
  have k1 : w1.cell? ⟨w.heap.size, 1, none⟩ = some (.slice ax tn cs) := cell_later hb (by go_simp)
  have k2 : w1.cell? ⟨w.heap.size, 2, none⟩ = some (.slice ar rn cr) := cell_later hb (by go_simp)
  have HB := Lib.hid (below_chain (by (repeat (first | exact Below.refl _ _ | assumption | refine below_alloc ?_ _ | refine below_drewN ?_ _ | refine below_set ?_ _ (by simp; try omega) | refine Below.drew ?_)) : Below w.heap.size w _) hb)
  clear hb
  rcases A3 with _ | _
  · have e := HRC2.out
    rw [Bool.false_and, if_neg (by simp)] at e
    have e2 := HRB2.out
    rw [Bool.false_and] at e2
    subst e e2
    go_wp2_with (fail)
    refine (HST.out _ HSS.out (HM.out.z.below HB.out) (HV.out.below HB.out)).mono ?_
    rintro e w2 ⟨rfl, hb⟩
    have HB2 := Lib.hid (below_chain HB.out hb)
    clear hb
    go_wp2
    go_ret2
    exact ⟨rfl, HB2.out⟩
  go_wp2_with (fail)
  refine (HST.out _ HSS.out (HM.out.z.below HB.out) (HV.out.below HB.out)).mono ?_
  rintro e w2 ⟨rfl, hb⟩
  have HB2 := Lib.hid (below_chain HB.out hb)
  replace k0 := cell_later hb k0
  replace k1 := cell_later hb k1
  replace k2 := cell_later hb k2
  clear hb
  rcases A4 with _ | _
  · have e := HRC2.out
    rw [Bool.and_false, if_neg (by simp)] at e
    have e2 := HRB2.out
    rw [Bool.false_and, Bool.and_false] at e2
    subst e e2
    go_wp2_with (fail)
    refine (HTS.out _ HSS.out (HM.out.z.below HB2.out) (HT.out.below HB2.out)).mono ?_
    rintro e w3 ⟨rfl, hb⟩
    have HB3 := Lib.hid (below_chain HB2.out hb)
    clear hb
    go_wp2
    go_ret2
    exact ⟨rfl, HB3.out⟩
  have e := HRC2.out
  rw [Bool.and_self, if_pos rfl] at e
  have e2 := HRB2.out
  rw [Bool.true_and, Bool.true_and] at e2
  subst e e2
  have HTI := Lib.hid (by first | exact HIN.out rfl rfl | exact HIN.out trivial rfl | exact HIN.out trivial trivial | exact HIN.out)
  go_wp2_with (fail)
  refine (HTS.out _ HSS.out (HM.out.z.below HB2.out) (HT.out.below HB2.out)).mono ?_
  rintro e w3 ⟨rfl, hb⟩
  have HB3 := Lib.hid (below_chain HB2.out hb)
  clear hb
  go_wp2_with (fail)
  refine (HHL.out _ HTI.out (HV.out.below HB3.out) (HT.out.below HB3.out)).mono ?_
  rintro e w4 ⟨rfl, hb⟩
  have HB4 := Lib.hid (below_chain HB3.out hb)
  clear hb
  go_wp2
  go_ret2
  exact ⟨rfl, HB4.out⟩
set_option maxHeartbeats 1000000 in
set_option maxRecDepth 100000 in
theorem c_sHoldsIn (m : Mdl) (az ax ar : Option Addr) (cz cs cr : Nat) (A : Option Addr) (c : Nat) (vs : List Int) (A' : Option Addr) (c' : Nat) (ts : List Tst) (w : World) (hok : MOk m) (hl : vs.length ≤ 1048576) (hl2 : ts.length ≤ 1048576) (h : Md w az ax ar m) (hv : Rd w A (ints vs)) (ht : Rd w A' (tstCells ts)) :
    Calls Try.prog 25 #[mv m az ax ar cz cs cr, .slice A vs.length c, .slice A' ts.length c'] w (RetBC (hiB m vs ts) (hiC m vs ts) w) := by
  have HCO := Lib.hid (fun w' h hv => c_l20Code m az ax ar cz cs cr A c vs w' hok hl h hv)
  have HTS := Lib.hid (fun w' hs h ht => c_l20Tests m az ax ar cz cs cr A' c' ts w' hs hok.1.1 hl2 h ht)
  have HHL := Lib.hid (fun w' hin hv ht => c_l20Holds A c vs A' c' ts w' hl hl2 hin hv ht)
  have HS := Lib.hid (fun h => md_szs (m := m) h)
  have HIN := Lib.hid (fun (h1 : stB m.sz vs = true) (h2 : tsB m.sz ts = true) => show TsIn vs.length ts by rw [st_len h1]; exact tsIn_of h2)
  have HM := Lib.hid h
  have HV := Lib.hid hv
  have HT := Lib.hid ht
  have HRB := Lib.hid (show hiB m vs ts = (mdB m && (stB m.sz vs && (tsB m.sz ts && hlB vs ts))) from rfl)
  have HRC := Lib.hid (show hiC m vs ts = if mdB m then (if stB m.sz vs && tsB m.sz ts then 0 else 2) else 1 from rfl)
  have HSC := Lib.hid (show stC m vs = if mdB m then (if stB m.sz vs then 0 else 2) else 1 from rfl)
  generalize stC m vs = C at HSC HCO
  generalize hiB m vs ts = RB at HRB ⊢
  generalize hiC m vs ts = RC at HRC ⊢
  generalize stB m.sz vs = A3 at *
  generalize tsB m.sz ts = A4 at *
  generalize hlB vs ts = A5 at *
  generalize mdB m = A1 at *
  clear h hv ht hok
  dsimp only [mv] at *
  generalize m.sz.length = sn at *
  generalize m.st.length = tn at *
  generalize m.rs.length = rn at *
  generalize vs.length = vn at *
  generalize ts.length = ln at *
  rcases A1 with _ | _
  · have e := HRC.out
    rw [if_neg (by simp)] at e
    have e2 := HRB.out
    rw [Bool.false_and] at e2
    have e3 := HSC.out
    rw [if_neg (by simp)] at e3
    subst e e2 e3
    go_enter Try.func25, Try.ntmps25
    go_wp2_with (fail)
    refine (HCO.out _ (HM.out.alloc _) (HV.out.alloc _)).mono ?_
    rintro e w1 ⟨rfl, hb⟩
    have HB := Lib.hid (below_chain (by (repeat (first | exact Below.refl _ _ | assumption | refine below_alloc ?_ _ | refine below_drewN ?_ _ | refine below_set ?_ _ (by simp; try omega) | refine Below.drew ?_)) : Below w.heap.size w _) hb)
    clear hb
    go_wp2
    go_ret2
    exact ⟨rfl, HB.out⟩
  have e := HRC.out
  rw [if_pos rfl] at e
  have HRC2 := Lib.hid e
  have e2 := HRB.out
  rw [Bool.true_and] at e2
  have HRB2 := Lib.hid e2
  have e3 := HSC.out
  rw [if_pos rfl] at e3
  have HSC2 := Lib.hid e3
  have HSS := Lib.hid (HS.out rfl)
  clear e e2 e3 HRB HRC HS HSC
  rcases A3 with _ | _
  · have e := HRC2.out
    rw [Bool.false_and, if_neg (by simp)] at e
    have e2 := HRB2.out
    rw [Bool.false_and] at e2
    have e3 := HSC2.out
    rw [if_neg (by simp)] at e3
    subst e e2 e3
    go_enter Try.func25, Try.ntmps25
    go_wp2_with (fail)
    refine (HCO.out _ (HM.out.alloc _) (HV.out.alloc _)).mono ?_
    rintro e w1 ⟨rfl, hb⟩
    have HB := Lib.hid (below_chain (by (repeat (first | exact Below.refl _ _ | assumption | refine below_alloc ?_ _ | refine below_drewN ?_ _ | refine below_set ?_ _ (by simp; try omega) | refine Below.drew ?_)) : Below w.heap.size w _) hb)
    clear hb
    go_wp2
    go_ret2
    exact ⟨rfl, HB.out⟩
  have e3 := HSC2.out
  rw [if_pos rfl] at e3
  subst e3
  go_enter Try.func25, Try.ntmps25
  go_wp2_with (fail)
  refine (HCO.out _ (HM.out.alloc _) (HV.out.alloc _)).mono ?_
  rintro e w1 ⟨rfl, hb⟩
  have k0 : w1.cell? ⟨w.heap.size, 0, none⟩ = some (.slice az sn cz) := cell_later hb (by go_simp)
  have k1 : w1.cell? ⟨w.heap.size, 1, none⟩ = some (.slice ax tn cs) := cell_later hb (by go_simp)
  have k2 : w1.cell? ⟨w.heap.size, 2, none⟩ = some (.slice ar rn cr) := cell_later hb (by go_simp)
  have HB := Lib.hid (below_chain (by (repeat (first | exact Below.refl _ _ | assumption | refine below_alloc ?_ _ | refine below_drewN ?_ _ | refine below_set ?_ _ (by simp; try omega) | refine Below.drew ?_)) : Below w.heap.size w _) hb)
  clear hb
  rcases A4 with _ | _
  · have e := HRC2.out
    rw [Bool.and_false, if_neg (by simp)] at e
    have e2 := HRB2.out
    rw [Bool.false_and, Bool.and_false] at e2
    subst e e2
    go_wp2_with (fail)
    refine (HTS.out _ HSS.out (HM.out.z.below HB.out) (HT.out.below HB.out)).mono ?_
    rintro e w3 ⟨rfl, hb⟩
    have HB3 := Lib.hid (below_chain HB.out hb)
    clear hb
    go_wp2
    go_ret2
    exact ⟨rfl, HB3.out⟩
  have e := HRC2.out
  rw [Bool.and_self, if_pos rfl] at e
  have e2 := HRB2.out
  rw [Bool.true_and, Bool.true_and] at e2
  subst e e2
  have HTI := Lib.hid (by first | exact HIN.out rfl rfl | exact HIN.out trivial rfl | exact HIN.out trivial trivial | exact HIN.out)
  go_wp2_with (fail)
  refine (HTS.out _ HSS.out (HM.out.z.below HB.out) (HT.out.below HB.out)).mono ?_
  rintro e w3 ⟨rfl, hb⟩
  have HB3 := Lib.hid (below_chain HB.out hb)
  clear hb
  go_wp2_with (fail)
  refine (HHL.out _ HTI.out (HV.out.below HB3.out) (HT.out.below HB3.out)).mono ?_
  rintro e w4 ⟨rfl, hb⟩
  have HB4 := Lib.hid (below_chain HB3.out hb)
  clear hb
  go_wp2
  go_ret2
  exact ⟨rfl, HB4.out⟩
end Go.Proofs.Ytaloheljfefdeaa

/- The rules that are enabled in a state, on both sides. Condition: the tests' variables lie within the state. -/
namespace Go.Proofs.Ytaloheljfefdeaa
open Go.RowKit

def rul0 : Rul := ⟨⟨#[]⟩, [], []⟩
def enK (vs : List Int) (rs : List Rul) (k : Nat) : List Int := ((List.range k).filter fun i => hlB vs (rs.getD i rul0).gs).map fun (i : Nat) => (i : Int)
theorem enK_zero (vs : List Int) (rs : List Rul) : enK vs rs 0 = [] := rfl
theorem getDR {l : List Rul} {k : Nat} {z : Rul} (h : l[k]? = some z) : l.getD k rul0 = z := by rw [List.getD_eq_getElem?_getD, h]; rfl
theorem enK_yes {vs : List Int} {rs : List Rul} {k : Nat} {r : Rul} (h : rs[k]? = some r) (h2 : hlB vs r.gs = true) : enK vs rs (k + 1) = enK vs rs k ++ [(k : Int)] := by
  unfold enK
  rw [List.range_succ, List.filter_append, List.map_append]
  simp [h, h2]
theorem enK_no {vs : List Int} {rs : List Rul} {k : Nat} {r : Rul} (h : rs[k]? = some r) (h2 : hlB vs r.gs = false) : enK vs rs (k + 1) = enK vs rs k := by
  unfold enK
  rw [List.range_succ, List.filter_append, List.map_append]
  simp [h, h2]
theorem enK_len (vs : List Int) (rs : List Rul) (k : Nat) : (enK vs rs k).length ≤ k := by
  unfold enK
  rw [List.length_map]
  have := List.length_filter_le (fun i => hlB vs (rs.getD i rul0).gs) (List.range k)
  simpa using this
def enL (vs : List Int) (rs : List Rul) : List Int := enK vs rs rs.length
/-- The tests of all rules speak of variables that are there, and are few. -/
def GsOk (n : Nat) (rs : List Rul) : Prop := ∀ r ∈ rs, TsIn n r.gs ∧ r.gs.length ≤ 1048576
theorem gs_of {m : Mdl} {vs : List Int} (h : mdB m = true) (h2 : stB m.sz vs = true) (hok : MOk m) : GsOk vs.length m.rs := by
  intro r hr
  refine ⟨?_, (hok.1.2.2.2 r hr).1⟩
  unfold mdB rsB at h
  simp only [Bool.and_eq_true, Bool.not_eq_true', List.any_eq_false] at h
  have h3 := h.2.2.2.2 r hr
  have h4 : rlB m.sz r = true := by simpa using h3
  unfold rlB at h4
  simp only [Bool.and_eq_true] at h4
  rw [st_len h2]
  exact tsIn_of h4.2.2.1
set_option maxHeartbeats 1000000 in
set_option maxRecDepth 100000 in
theorem c_enabled (m : Mdl) (az ax ar : Option Addr) (cz cs cr : Nat) (A : Option Addr) (c : Nat) (vs : List Int) (w : World) (hrn : m.rs.length ≤ 1048576) (hl : vs.length ≤ 1048576) (hgs : GsOk vs.length m.rs) (h : Md w az ax ar m) (hv : Rd w A (ints vs)) :
    Calls Try.prog 78 #[mv m az ax ar cz cs cr, .slice A vs.length c] w (RetInts (enL vs m.rs) w) := by
  have HR := Lib.hid h.r
  have HV := Lib.hid hv
  have HG := Lib.hid hgs
  have HH := Lib.hid (fun (r : Rul) (hr : r ∈ m.rs) ag cg w' hv hg => c_holds A c vs ag cg r.gs w' hl (hgs r hr).2 (hgs r hr).1 hv hg)
  have HL := Lib.hid (show enL vs m.rs = enK vs m.rs m.rs.length from rfl)
  generalize enL vs m.rs = R at HL ⊢
  clear h hv hgs
  dsimp only [mv] at *
  generalize m.sz.length = sn at *
  generalize m.st.length = tn at *
  generalize m.rs = rs at *
  generalize hrs : rs.length = rn at *
  have HRN := Lib.hid hrs
  generalize vs.length = vn at *
  clear hrs
  go_enter Try.func78, Try.ntmps78
  go_wp2
  go_loopw [5, 11] (fun v i wr => ∃ k : Nat, k ≤ rn ∧ i = .int .i64 k ∧ wr.ownsRow (w.heap.size + 1) 2 1 v (enK vs rs k).length (ints (enK vs rs k)) ∧ Below w.heap.size w wr ∧ w.heap.size + 1 ≤ wr.heap.size) (fun _ i _ => rn - (intOf i).toNat)
  case atStart => exact ⟨0, Nat.zero_le _, rfl, by rw [enK_zero]; exact World.ownsRow_nil _ _ _ _, by (repeat (first | exact Below.refl _ _ | assumption | refine below_alloc ?_ _ | refine below_drewN ?_ _ | refine below_set ?_ _ (by simp; try omega) | refine Below.drew ?_)), by simp⟩
  case round =>
    obtain ⟨k, hk, rfl, ho, hb, hsz⟩ := hrel
    by_cases hlt : k < rn
    · obtain ⟨r, hz⟩ : ∃ z, rs[k]? = some z := ⟨_, List.getElem?_eq_getElem (by have := HRN.out; omega)⟩
      have hlen := enK_len vs rs k
      obtain ⟨b, off, ag, cg, ae, ce, rfl, _, g0, g1, g2, hg, he⟩ := (HR.out.below hb).at hz
      have HZ := Lib.hid hz
      have HO := Lib.hid ho
      have HB := Lib.hid hb
      have HGG := Lib.hid hg
      have HC := Lib.hid (fun w' hv hg => HH.out r (List.mem_of_getElem? hz) ag cg w' hv hg)
      have hrow : Hid (∀ q, u5.ownBlock = some q → w.heap.size ≤ q) := Lib.hid fun q hq => by have := (ho.lt q hq).1; omega
      clear hz ho hb hg he
      have hyes := Lib.hid (fun h => enK_yes (vs := vs) HZ.out h)
      have hno := Lib.hid (fun h => enK_no (vs := vs) HZ.out h)
      generalize r.gs.length = gn at *
      generalize r.es.length = en at *
      rcases hh : hlB vs r.gs with _ | _
      · rw [hh] at HC
        have HD := Lib.hid (hno.out hh)
        clear hh
        go_wp2_with (fail)
        refine (HC.out _ (HV.out.below (by exact below_alloc HB.out _)) (HGG.out.alloc _)).mono ?_
        rintro e w2 ⟨rfl, hb2⟩
        have HB2 := Lib.hid (below_chain (below_alloc HB.out _) hb2)
        have HO2 := Lib.hid (own_below (own_below HO.out (below_alloc (Below.refl _ _) _)) hb2)
        have hsz2 : w.heap.size + 1 ≤ w2.heap.size := by have h5 := hb2.size; (try simp at h5); omega
        clear hb2
        go_wp2
        go_roundw
        case rel => exact ⟨k + 1, by omega, by go_num, by rw [HD.out]; exact HO2.out, HB2.out, hsz2⟩
        case measure => simp [intOf]; omega
      · rw [hh] at HC
        have HD := Lib.hid (hyes.out hh)
        clear hh
        go_wp2_with (fail)
        refine (HC.out _ (HV.out.below (by exact below_alloc HB.out _)) (HGG.out.alloc _)).mono ?_
        rintro e w2 ⟨rfl, hb2⟩
        have HB2 := Lib.hid (below_chain (below_alloc HB.out _) hb2)
        have HO2 := Lib.hid (own_below (own_below HO.out (below_alloc (Below.refl _ _) _)) hb2)
        have hsz2 : w.heap.size + 1 ≤ w2.heap.size := by have h5 := hb2.size; (try simp at h5); omega
        clear hb2
        go_wp2_with (first
          | (at_builtin
             refine wpList_push_int _ rfl (.tmp 20) (.tmp 22) rfl (w.heap.size + 1) _ (enK vs rs k).length (enK vs rs k) (k : Int) w2.heap.size 1 rfl (HO2.out.alloc _) rfl (by go_simp) (by omega) (by simp; omega) ?_
             intro v1 w3 hown1 hgrow hold hat
             have HO3 := Lib.hid hown1
             have HB3 := Lib.hid (below_of_grown (below_alloc HB2.out _) hgrow hrow.out)
             have hsz3 : w.heap.size + 1 ≤ w3.heap.size := by have := hgrow.size; simp at this; omega
             clear hown1 hgrow hold hat)
          )
        go_roundw
        case rel => exact ⟨k + 1, by omega, by go_num, by rw [HD.out, List.length_append]; exact HO3.out, HB3.out, hsz3⟩
        case measure => simp [intOf]; omega
    · obtain rfl : k = rn := by omega
      obtain ⟨A1, c1, rfl⟩ : ∃ A1 c1, u5 = .slice A1 (enK vs rs k).length c1 := by
        rcases ho.2 with ⟨h1, h2⟩ | ⟨g, cap, cur, h1, _⟩
        · exact ⟨none, 0, by rw [h1, h2]⟩
        · exact ⟨_, _, h1⟩
      have HO := Lib.hid ho
      have HB := Lib.hid hb
      clear ho hb
      have e := HL.out
      subst e
      go_wp2
      go_ret
      exact ⟨A1, c1, rfl, own_mono HO.out (by omega), HB.out⟩
set_option maxHeartbeats 1000000 in
set_option maxRecDepth 100000 in
theorem c_l20Enabled (m : Mdl) (az ax ar : Option Addr) (cz cs cr : Nat) (A : Option Addr) (c : Nat) (vs : List Int) (w : World) (hrn : m.rs.length ≤ 1048576) (hl : vs.length ≤ 1048576) (hgs : GsOk vs.length m.rs) (h : Md w az ax ar m) (hv : Rd w A (ints vs)) :
    Calls Try.prog 75 #[mv m az ax ar cz cs cr, .slice A vs.length c] w (RetInts (enL vs m.rs) w) := by
  have HR := Lib.hid h.r
  have HV := Lib.hid hv
  have HG := Lib.hid hgs
  have HH := Lib.hid (fun (r : Rul) (hr : r ∈ m.rs) ag cg w' hv hg => c_l20Holds A c vs ag cg r.gs w' hl (hgs r hr).2 (hgs r hr).1 hv hg)
  have HL := Lib.hid (show enL vs m.rs = enK vs m.rs m.rs.length from rfl)
  generalize enL vs m.rs = R at HL ⊢
  clear h hv hgs
  dsimp only [mv] at *
  generalize m.sz.length = sn at *
  generalize m.st.length = tn at *
  generalize m.rs = rs at *
  generalize hrs : rs.length = rn at *
  have HRN := Lib.hid hrs
  generalize vs.length = vn at *
  clear hrs
  go_enter Try.func75, Try.ntmps75
  go_wp2
  have hown0 : ((w.alloc (Obj.cells #[.slice az sn cz, .slice ax tn cs, .slice ar rn cr] 27)).alloc (Obj.cells #[] 2)).ownsRow (w.heap.size + 1) 2 1 (.slice (some ⟨w.heap.size + 1, 0, none⟩) 0 0) 0 (ints []) := by
    have h := World.ownsRow_made (e := 2) (size := 1) (base := w.heap.size + 1) (w.alloc (Obj.cells #[.slice az sn cz, .slice ax tn cs, .slice ar rn cr] 27)) #[] 0 (by simp) (by unfold maxLen; omega) (by simp)
    simpa [ints] using h
  go_loopw [5, 6] (fun v i wr => ∃ k : Nat, k ≤ rn ∧ i = .int .i64 k ∧ wr.cell? ⟨w.heap.size, 2, none⟩ = some (.slice ar rn cr) ∧ wr.ownsRow (w.heap.size + 1) 2 1 v (enK vs rs k).length (ints (enK vs rs k)) ∧ Below w.heap.size w wr ∧ w.heap.size + 1 ≤ wr.heap.size) (fun _ i _ => rn - (intOf i).toNat)
  case atStart => exact ⟨0, Nat.zero_le _, rfl, by go_simp, by rw [enK_zero]; exact hown0, by (repeat (first | exact Below.refl _ _ | assumption | refine below_alloc ?_ _ | refine below_drewN ?_ _ | refine below_set ?_ _ (by simp; try omega) | refine Below.drew ?_)), by simp⟩
  case round =>
    obtain ⟨k, hk, rfl, e0, ho, hb, hsz⟩ := hrel
    clear hown0
    by_cases hlt : k < rn
    · obtain ⟨r, hz⟩ : ∃ z, rs[k]? = some z := ⟨_, List.getElem?_eq_getElem (by have := HRN.out; omega)⟩
      have hlen := enK_len vs rs k
      obtain ⟨b, off, ag, cg, ae, ce, rfl, _, g0, g1, g2, hg, he⟩ := (HR.out.below hb).at hz
      have HZ := Lib.hid hz
      have HO := Lib.hid ho
      have HB := Lib.hid hb
      have HGG := Lib.hid hg
      have HC := Lib.hid (fun w' hv hg => HH.out r (List.mem_of_getElem? hz) ag cg w' hv hg)
      have hk0 : (0 : Int) ≤ (k : Int) := by omega
      have hk1 : (k : Int) < (rn : Int) := by omega
      have hge : Hid (∀ q, u5.ownBlock = some q → w.heap.size + 1 ≤ q) := Lib.hid fun q hq => (ho.lt q hq).1
      have hrow : Hid (∀ q, u5.ownBlock = some q → w.heap.size ≤ q) := Lib.hid fun q hq => by have := (ho.lt q hq).1; omega
      clear hz ho hb hg he
      have hyes := Lib.hid (fun h => enK_yes (vs := vs) HZ.out h)
      have hno := Lib.hid (fun h => enK_no (vs := vs) HZ.out h)
      generalize r.gs.length = gn at *
      generalize r.es.length = en at *
      rcases hh : hlB vs r.gs with _ | _
      · rw [hh] at HC
        have HD := Lib.hid (hno.out hh)
        clear hh
        go_wp2_with (fail)
        refine (HC.out _ (HV.out.below (by exact HB.out)) HGG.out).mono ?_
        rintro e w2 ⟨rfl, hb2⟩
        have HB2 := Lib.hid (below_chain HB.out hb2)
        have e2 := cell_later hb2 e0
        have HO2 := Lib.hid (own_below HO.out hb2)
        have hsz2 : w.heap.size + 1 ≤ w2.heap.size := by have h5 := hb2.size; (try simp at h5); omega
        clear hb2
        go_wp2
        go_roundw
        case rel => exact ⟨k + 1, by omega, by go_num, e2, by rw [HD.out]; exact HO2.out, HB2.out, hsz2⟩
        case measure => simp [intOf]; omega
      · rw [hh] at HC
        have HD := Lib.hid (hyes.out hh)
        clear hh
        go_wp2_with (fail)
        refine (HC.out _ (HV.out.below (by exact HB.out)) HGG.out).mono ?_
        rintro e w2 ⟨rfl, hb2⟩
        have HB2 := Lib.hid (below_chain HB.out hb2)
        have e2 := cell_later hb2 e0
        have HO2 := Lib.hid (own_below HO.out hb2)
        have hsz2 : w.heap.size + 1 ≤ w2.heap.size := by have h5 := hb2.size; (try simp at h5); omega
        clear hb2
        go_wp2_with (first
          | (at_builtin
             refine wpList_push_int _ rfl (.tmp 23) (.tmp 25) rfl (w.heap.size + 1) _ (enK vs rs k).length (enK vs rs k) (k : Int) w2.heap.size 1 rfl (HO2.out.alloc _) rfl (by go_simp) (by omega) (by simp; omega) ?_
             intro v1 w3 hown1 hgrow hold hat
             have HO3 := Lib.hid hown1
             have HB3 := Lib.hid (below_of_grown (below_alloc HB2.out _) hgrow hrow.out)
             have hsz3 : w.heap.size + 1 ≤ w3.heap.size := by have := hgrow.size; simp at this; omega
             have hlt3 := World.block_lt_of_cell? _ _ e2
             have e3 : w3.cell? ⟨w.heap.size, 2, none⟩ = some (.slice (some ⟨b, off, none⟩) rn cr) := (hgrow.cell_far ⟨w.heap.size, 2, none⟩ (by simp; omega) (by intro h; have := hge.out w.heap.size h.symm; omega)).trans (by go_simp)
             clear hown1 hgrow hold hat)
          )
        go_roundw
        case rel => exact ⟨k + 1, by omega, by go_num, e3, by rw [HD.out, List.length_append]; exact HO3.out, HB3.out, hsz3⟩
        case measure => simp [intOf]; omega
    · obtain rfl : k = rn := by omega
      obtain ⟨A1, c1, rfl⟩ : ∃ A1 c1, u5 = .slice A1 (enK vs rs k).length c1 := by
        rcases ho.2 with ⟨h1, h2⟩ | ⟨g, cap, cur, h1, _⟩
        · exact ⟨none, 0, by rw [h1, h2]⟩
        · exact ⟨_, _, h1⟩
      have HO := Lib.hid ho
      have HB := Lib.hid hb
      clear ho hb
      have e := HL.out
      subst e
      go_wp2
      go_ret
      exact ⟨A1, c1, rfl, own_mono HO.out (by omega), HB.out⟩
end Go.Proofs.Ytaloheljfefdeaa
