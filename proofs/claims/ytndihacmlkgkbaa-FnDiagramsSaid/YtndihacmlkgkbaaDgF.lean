/- Maps of the program's forest as plain functions: nodes to references, references to places. No condition. -/
import Derived.Test.YtndihacmlkgkbaaDgM
namespace Go.Proofs.Ytndihacmlkgkbaa
open Go.RowKit Go.Maps Go.WideMaps

def asNd : Value → Option Nd
  | .agg a => match a.toList with
    | [.int .i64 i, .int .i64 l, .int .i64 h] => some ⟨i, l, h⟩
    | _ => none
  | _ => none
theorem asNd_at (i a b : Int) : asNd (.agg #[.int .i64 i, .int .i64 a, .int .i64 b]) = some ⟨i, a, b⟩ := rfl
theorem asNd_some {v : Value} {x : Nd} (h : asNd v = some x) : v = .agg #[.int .i64 x.i, .int .i64 x.lo, .int .i64 x.hi] := by
  unfold asNd at h
  split at h
  · rename_i a
    split at h
    · rename_i i l h2 e
      simp only [Option.some.injEq] at h
      subst h
      obtain ⟨t⟩ := a
      simp only at e
      rw [e]
    · cases h
  · cases h
def knF (out : List Nd) (v : Value) : Option Int := (asNd v).bind fun x => (idxN out x).map fun (k : Nat) => (k : Int) + 2
theorem knF_at (out : List Nd) (i a b : Int) : knF out (.agg #[.int .i64 i, .int .i64 a, .int .i64 b]) = (idxN out ⟨i, a, b⟩).map fun (k : Nat) => (k : Int) + 2 := rfl
theorem knF_nil : knF [] = fun _ => none := by
  funext v
  unfold knF
  cases asNd v <;> rfl
theorem knF_put {out : List Nd} {i a b : Int} (h : idxN out ⟨i, a, b⟩ = none) : putF 57 (knF out) (.agg #[.int .i64 i, .int .i64 a, .int .i64 b]) ((out.length : Int) + 2) (knF (out ++ [⟨i, a, b⟩])) := by
  refine ⟨?_, fun u kl _ hne => ?_⟩
  · rw [knF_at, idxN_snoc, h, if_pos rfl]
    rfl
  · unfold knF
    cases hu : asNd u with
    | none => rfl
    | some x =>
      simp only [Option.bind_some]
      rw [idxN_snoc, if_neg (fun e => hne (by rw [asNd_some hu, ← e])), Option.or_none]
/-- Where a reference has gone: 0 and 1 to themselves, others as the names say. -/
def plF (names : List Int) : Value → Option Int
  | .int .i64 z => if z < 0 then none else if z < 2 then some z else if names.getD z.toNat 0 = 0 then none else some (names.getD z.toNat 0)
  | _ => none
theorem plF_lo (names : List Int) {r : Nat} (h : r < 2) : plF names (.int .i64 r) = some (r : Int) := by
  show (if (r : Int) < 0 then none else if (r : Int) < 2 then some (r : Int) else if names.getD (r : Int).toNat 0 = 0 then none else some (names.getD (r : Int).toNat 0)) = _
  rw [if_neg (by omega), if_pos (by omega)]
theorem plF_hi (names : List Int) {r : Nat} (h : ¬ r < 2) : plF names (.int .i64 r) = if names.getD r 0 = 0 then none else some (names.getD r 0) := by
  show (if (r : Int) < 0 then none else if (r : Int) < 2 then some (r : Int) else if names.getD (r : Int).toNat 0 = 0 then none else some (names.getD (r : Int).toNat 0)) = _
  rw [if_neg (by omega), if_neg (by omega), Int.toNat_natCast]
theorem plF_put {names : List Int} {r : Nat} {v : Int} (h2 : ¬ r < 2) (hr : r < names.length) (hv : v ≠ 0) : putF 2 (plF names) (.int .i64 r) v (plF (names.set r v)) := by
  refine ⟨?_, fun u kl _ hne => ?_⟩
  · rw [plF_hi _ h2, getD_set_eq hr, if_neg hv]
  · unfold plF
    split
    · rename_i z
      split
      · rfl
      · split
        · rfl
        · rename_i h3 h4
          rw [getD_set_ne2 (fun e => hne (by rw [e, Int.toNat_of_nonneg (by omega)]))]
    · rfl
def f0F : Value → Option Int
  | .int .i64 z => if z = 0 then some 0 else none
  | _ => none
theorem plF_zero (n : Nat) : putF 2 (fun _ => none) (.int .i64 0) 0 f0F ∧ putF 2 f0F (.int .i64 1) 1 (plF (List.replicate n 0)) := by
  have hz : ∀ q, (List.replicate n (0 : Int)).getD q 0 = 0 := fun q => by simp [List.getD_eq_getElem?_getD, List.getElem?_replicate]; split <;> simp
  refine ⟨⟨rfl, fun u kl _ hne => ?_⟩, plF_lo _ (r := 1) (by decide), fun u kl _ hne => ?_⟩
  · unfold f0F
    split
    · exact if_neg fun e => hne (by rw [e])
    · rfl
  · unfold plF f0F
    split
    · rename_i z _
      have h1 : z ≠ 1 := fun e => hne (by rw [e])
      split
      · have h0 : ¬ z = 0 := by omega
        rw [if_neg h0]
      · split
        · have h0 : z = 0 := by omega
          subst h0
          rfl
        · have h0 : ¬ z = 0 := by omega
          rw [if_neg h0, if_pos (hz _)]
    · rfl
end Go.Proofs.Ytndihacmlkgkbaa
