/- Contract of the closure of areTests (program). Condition: the sizes lie in 1 .. 32. -/
import Derived.Test.YtgpmglfcdbpgkaaGreatDoorMTst
namespace Go.Proofs.YtgpmglfcdbpgkaaGreatDoor
open Go.RowKit

set_option maxRecDepth 100000 in
theorem c_areTests1 (m : Mdl) (az ax ar : Option Addr) (cz cs cr : Nat) (p : Nat) (v x : Int) (q : Bool) (w : World) (hs : SzsOk m.sz) (hl : m.sz.length ≤ 1048576) (h : Rd w az (ints m.sz))
    (k0 : w.cell? ⟨p, 0, none⟩ = some (.slice az m.sz.length cz)) (k1 : w.cell? ⟨p, 1, none⟩ = some (.slice ax m.st.length cs)) (k2 : w.cell? ⟨p, 2, none⟩ = some (.slice ar m.rs.length cr)) :
    Calls Tryz.prog 111 #[.agg #[.int .i64 v, .int .i64 x, .bool q], .pointer (some ⟨p, 0, none⟩)] w fun e w' => e = .returned (.bool (!hasB m.sz v x)) ∧ Below w.heap.size w w' := by
  have HH := Lib.hid (fun (w : World) (h : Rd w az (ints m.sz)) => c_has m az ax ar cz cs cr v x w hs hl h)
  generalize hasB m.sz v x = R at HH ⊢
  obtain ⟨sz, st, rs⟩ := m
  dsimp only [mv] at *
  have H := Lib.hid h
  clear h hs
  have hp := World.block_lt_of_cell? _ _ k0
  generalize sz.length = a at *
  generalize st.length = b at *
  generalize rs.length = c at *
  go_enter Tryz.func111, Tryz.ntmps111
  go_wp2_with (fail)
  refine (HH.out _ (H.out.alloc _)).mono ?_
  rintro e w1 ⟨rfl, hb⟩
  have B := below_chain (below_alloc (Below.refl _ _) _) hb
  clear hb
  go_wp2
  go_ret
  exact ⟨rfl, B⟩
end Go.Proofs.YtgpmglfcdbpgkaaGreatDoor
