/- areTests (program), the name of a rule (both sides). Condition: the sizes lie in 1 .. 32. -/
import Derived.Test.YtgpmglfcdbpgkaaGreatDoorMIdx2
import Derived.Test.YtgpmglfcdbpgkaaGreatDoorMTstP
import Derived.Test.YtgpmglfcdbpgkaaGreatDoorIxB
namespace Go.Proofs.YtgpmglfcdbpgkaaGreatDoor
open Go.RowKit

theorem any_not_ts (sz : List Int) (l : List Tst) : l.any (fun t => !hasB sz t.v t.x) = !tsK sz l := by
  unfold tsK
  induction l with
  | nil => rfl
  | cons a t ih => simp [List.any_cons, List.all_cons, ih]
set_option maxRecDepth 100000 in
theorem c_areTests (m : Mdl) (az ax ar : Option Addr) (cz cs cr : Nat) (A : Option Addr) (c : Nat) (l : List Tst) (w : World) (hs : SzsOk m.sz) (hl : m.sz.length ≤ 1048576) (hl2 : l.length ≤ 1048576) (h : Rd w az (ints m.sz)) (hv : Rd w A (tstCells l)) :
    Calls Tryz.prog 92 #[mv m az ax ar cz cs cr, .slice A l.length c] w fun e w' => e = .returned (.bool (tsB m.sz l)) ∧ Below w.heap.size w w' := by
  have hmf : ∀ (fn : Fn) (first cap : Array Value) (w : World), (Instr.makeFunc fn first cap).run Tryz.prog w = .ok (.func fn first cap) w := fun _ _ _ _ => rfl
  have HB0 := Lib.hid (show tsB m.sz l = (tsK m.sz l && decide (l.length ≤ 24)) from rfl)
  have HN := Lib.hid (any_not_ts m.sz l)
  have HCC := Lib.hid (fun (w' : World) (x : Value) (hv : Rd w' A (tstCells l)) hc => c_ContainsTest 111 x (fun t => !hasB m.sz t.v t.x) A c l w' hl2 hv hc (enter_of Tryz.func111 (by kernel_rfl) rfl))
  have HCL := Lib.hid (fun (w' : World) (p v x q) h k0 k1 k2 => c_areTests1 m az ax ar cz cs cr p v x q w' hs hl h k0 k1 k2)
  have HZ := Lib.hid h
  have HV := Lib.hid hv
  generalize tsB m.sz l = R at HB0 ⊢
  clear h hv hs
  generalize hvn : l.length = vn at *
  by_cases h24 : vn ≤ 24
  · have e0 := HB0.out
    rw [decide_eq_true h24, Bool.and_true] at e0
    have E0 := Lib.hid e0
    clear e0 HB0 hvn
    obtain ⟨sz, st, rs⟩ := m
    dsimp only [mv] at *
    generalize sz.length = a at *
    generalize st.length = b at *
    generalize rs.length = d at *
    go_enter Tryz.func92, Tryz.ntmps92
    go_wp2_with (fail)
    refine (HCC.out _ _ (by exact HV.out.alloc _) (Lib.hid ?_)).mono ?_
    · intro wr t _ hb
      refine HCL.out wr _ t.v t.x t.q ((HZ.out.alloc _).below hb) (cell_later hb (by go_simp)) (cell_later hb (by go_simp)) (cell_later hb (by go_simp))
    · rintro e w1 ⟨rfl, hb⟩
      have HB := Lib.hid (below_chain (by (repeat (first | exact Below.refl _ _ | assumption | refine below_alloc ?_ _ | refine below_drewN ?_ _ | refine below_set ?_ _ (by simp; try omega) | refine Below.drew ?_)) : Below w.heap.size w _) hb)
      have HN2 := Lib.hid (show List.any l (fun t => !hasB sz t.v t.x) = !R by rw [HN.out, E0.out])
      clear hb
      generalize List.any l (fun t => !hasB sz t.v t.x) = r at HN2 ⊢
      go_wp2
      go_ret
      exact ⟨ret_bool (by rw [HN2.out]; simp), HB.out⟩
  · have e0 := HB0.out
    rw [decide_eq_false h24, Bool.and_false] at e0
    subst e0
    clear HB0 hvn HN HCC HCL
    obtain ⟨sz, st, rs⟩ := m
    dsimp only [mv] at *
    generalize sz.length = a at *
    generalize st.length = b at *
    generalize rs.length = d at *
    go_enter Tryz.func92, Tryz.ntmps92
    go_wp2
    go_ret
    exact ⟨rfl, by (repeat (first | exact Below.refl _ _ | assumption | refine below_alloc ?_ _ | refine below_drewN ?_ _ | refine below_set ?_ _ (by simp; try omega) | refine Below.drew ?_))⟩
end Go.Proofs.YtgpmglfcdbpgkaaGreatDoor
