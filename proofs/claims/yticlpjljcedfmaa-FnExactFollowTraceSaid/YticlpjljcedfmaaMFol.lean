/- FollowTrace (program). Condition: the lengths are those that the laws let by. -/
import Derived.Test.YticlpjljcedfmaaMRows
import Derived.Test.YticlpjljcedfmaaMApR
import Derived.Test.YticlpjljcedfmaaRgH
namespace Go.Proofs.Yticlpjljcedfmaa
open Go.RowKit

def trS (m : Mdl) (tr : List Int) : Nat → List Int
  | 0 => m.st
  | k + 1 => apL (trS m tr k) (arR m (tr.getD k 0)).es
def trOK (m : Mdl) (tr : List Int) (k : Nat) : Bool := (List.range k).all fun j => hlB (trS m tr j) (arR m (tr.getD j 0)).gs
def trL (m : Mdl) (tr : List Int) (k : Nat) : List (List Int) := (List.range (k + 1)).map (trS m tr)
theorem trL_succ (m : Mdl) (tr : List Int) (k : Nat) : trL m tr (k + 1) = trL m tr k ++ [trS m tr (k + 1)] := by
  unfold trL
  rw [List.range_succ, List.map_append]
  rfl
theorem trL_len (m : Mdl) (tr : List Int) (k : Nat) : (trL m tr k).length = k + 1 := by simp [trL]
theorem trL_at (m : Mdl) (tr : List Int) (k j : Nat) (h : j ≤ k) : (trL m tr k)[j]? = some (trS m tr j) := by
  unfold trL
  rw [List.getElem?_map, List.getElem?_range (by omega)]
  rfl
theorem trS_len (m : Mdl) (tr : List Int) : ∀ k, (trS m tr k).length = m.st.length
  | 0 => rfl
  | k + 1 => by rw [trS, apL_len, trS_len m tr k]
theorem trOK_succ (m : Mdl) (tr : List Int) (k : Nat) : trOK m tr (k + 1) = (trOK m tr k && hlB (trS m tr k) (arR m (tr.getD k 0)).gs) := by simp [trOK, List.range_succ]
theorem trOK_bad {m : Mdl} {tr : List Int} {k n : Nat} (h : hlB (trS m tr k) (arR m (tr.getD k 0)).gs = false) (hk : k < n) : trOK m tr n = false := by
  unfold trOK
  rw [List.all_eq_false]
  exact ⟨k, List.mem_range.2 hk, by show ¬ hlB (trS m tr k) (arR m (tr.getD k 0)).gs = true; rw [h]; simp⟩
def trBad (m : Mdl) (tr : List Int) : Bool := tr.any fun y => !inB y 0 (m.rs.length - 1)
def ftC (m : Mdl) (tr : List Int) : Int := if mdB m then (if 4000 < tr.length then 3 else if trBad m tr then 4 else if trOK m tr tr.length then 0 else 5) else 1
def ftL (m : Mdl) (tr : List Int) : List (List Int) := if mdB m then (if 4000 < tr.length then [] else if trBad m tr then [] else if trOK m tr tr.length then trL m tr tr.length else []) else []
/-- What FollowTrace hands back: lists of the call's own, and a code. -/
def RetSC (n : Nat) (L : List (List Int)) (c : Int) (w : World) (e : Ending) (w' : World) : Prop :=
  ∃ A cap, e = .returned (.tuple #[.slice A n cap, .int .i64 c]) ∧ OwnS w' w.heap.size w'.heap.size (.slice A n cap) L ∧ Below w.heap.size w w'
theorem ownS_nil (w : World) (base hi : Nat) : OwnS w base hi (.slice none 0 0) [] := ⟨[], rfl, World.ownsRow_nil _ _ _ _, by simp, List.Pairwise.nil⟩
theorem retSC_nil {n : Nat} {L : List (List Int)} {c : Int} {w w' : World} (h : L = []) (hn : n = L.length) (hb : Below w.heap.size w w') : RetSC n L c w (.returned (.tuple #[.slice none 0 0, .int .i64 c])) w' := by
  subst h
  subst hn
  exact ⟨none, 0, rfl, ownS_nil _ _ _, hb⟩
set_option maxRecDepth 100000 in
theorem c_FollowTrace1 (p : Nat) (ar : Option Addr) (rn cr : Nat) (y : Int) (w : World) (hrn : rn ≤ 1048576) (k2 : w.cell? ⟨p, 2, none⟩ = some (.slice ar rn cr)) :
    Calls Try.prog 70 #[.int .i64 y, .pointer (some ⟨p, 0, none⟩)] w fun e w' => e = .returned (.bool (!inB y 0 (rn - 1))) ∧ Below w.heap.size w w' := by
  have hw : IntKind.i64.wrap ((rn : Int) - 1) = rn - 1 := IntWalk.i64_in _ (by omega)
  go_enter Try.func70, Try.ntmps70
  go_wp2_with (first
    | (go_at_call 67
       refine (c_lengthR _ _ _ _).mono ?_
       rintro e w' ⟨rfl, rfl⟩)
    | (go_at_call 44
       refine (c_within _ _ _ _).mono ?_
       rintro e w' ⟨rfl, rfl⟩)
    )
  go_ret
  exact ⟨rfl, Below.refl _ _⟩
end Go.Proofs.Yticlpjljcedfmaa
