/- The plain law of the loads of blocks: counting. No program in sight. -/
import Derived.Test.YthkghpmfbdojeaaOccS
namespace Go.Proofs.Ythkghpmfbdojeaa
open Go.RowKit

def bump (L : List Int) (z : Int) : List Int := L.set z.toNat (L.getD z.toNat 0 + 1)
theorem bump_length (L : List Int) (z : Int) : (bump L z).length = L.length := by simp [bump]
def Bnd (L : List Int) (m : Nat) : Prop := ∀ j, 0 ≤ L.getD j 0 ∧ L.getD j 0 ≤ m
theorem bump_bnd {L : List Int} {m : Nat} (h : Bnd L m) (z : Int) : Bnd (bump L z) (m + 1) := by
  intro j
  have h1 := h j
  have h2 := h z.toNat
  unfold bump
  rw [List.getD_eq_getElem?_getD, List.getElem?_set]
  split
  · split
    · simp only [Option.getD_some]; omega
    · simp; omega
  · rw [← List.getD_eq_getElem?_getD]; omega
theorem bumps_length (zs L : List Int) : (zs.foldl bump L).length = L.length := by
  induction zs generalizing L with
  | nil => rfl
  | cons z t ih => rw [List.foldl_cons, ih, bump_length]
theorem bumps_bnd (zs : List Int) : ∀ {L : List Int} {m : Nat}, Bnd L m → Bnd (zs.foldl bump L) (m + zs.length) := by
  induction zs with
  | nil => intro L m h; exact h
  | cons z t ih =>
    intro L m h
    have := ih (bump_bnd h z)
    rw [List.foldl_cons]
    rwa [show m + (z :: t).length = m + 1 + t.length by simp; omega]
theorem bumps_snoc {zs : List Int} {j : Nat} {z : Int} (h : zs[j]? = some z) (L : List Int) : (zs.take (j + 1)).foldl bump L = bump ((zs.take j).foldl bump L) z := by
  rw [take_snoc h, List.foldl_append]
  rfl
theorem ints_bump (L : List Int) (z : Nat) : (ints L).set z (.int .i64 (L.getD z 0 + 1)) = ints (bump L (z : Int)) := by
  unfold ints bump
  rw [Int.toNat_natCast, ← List.map_set]
def loadN (l : List Seg) (fs ps : List Int) (x : Int) : Nat → List Int
  | 0 => List.replicate fs.length 0
  | i + 1 => (occL l fs (ps.getD i 0) x fs.length).foldl bump (loadN l fs ps x i)
theorem loadN_length (l : List Seg) (fs ps : List Int) (x : Int) : ∀ i, (loadN l fs ps x i).length = fs.length
  | 0 => by simp [loadN]
  | i + 1 => by rw [loadN, bumps_length, loadN_length]
theorem loadN_bnd (l : List Seg) (fs ps : List Int) (x : Int) : ∀ i, Bnd (loadN l fs ps x i) (i * fs.length)
  | 0 => by
    intro j
    simp only [loadN, List.getD_eq_getElem?_getD, List.getElem?_replicate]
    split <;> simp
  | i + 1 => by
    have h1 := bumps_bnd (occL l fs (ps.getD i 0) x fs.length) (loadN_bnd l fs ps x i)
    have h2 := occL_len l fs (ps.getD i 0) x fs.length
    intro j
    have h3 := h1 j
    rw [loadN]
    have h4 : i * fs.length + (occL l fs (ps.getD i 0) x fs.length).length ≤ (i + 1) * fs.length := by rw [Nat.add_mul]; omega
    omega
theorem loadN_succ {l : List Seg} {fs ps : List Int} {x p : Int} {i : Nat} (h : ps[i]? = some p) : loadN l fs ps x (i + 1) = (occL l fs p x fs.length).foldl bump (loadN l fs ps x i) := by
  rw [loadN]; simp [h]
def bldC (l : List Seg) (fs ps : List Int) (x : Int) : Int := if okB l fs then (if 4 < ps.length then 3 else trnC l x ps) else 1
def bldR (l : List Seg) (fs ps : List Int) (x : Int) : List Int := if bldC l fs ps x = 0 then loadN l fs ps x ps.length else []
theorem bldR_len (l : List Seg) (fs ps : List Int) (x : Int) : (bldR l fs ps x).length ≤ fs.length := by
  unfold bldR
  split
  · rw [loadN_length]; exact Nat.le_refl _
  · simp
theorem trnC_cases (l : List Seg) (x : Int) (ps : List Int) (hl : Lay l) : (trnC l x ps = 0 ∧ 1 ≤ x ∧ x ≤ 40000 ∧ x ≤ pos l l.length ∧ ∀ p ∈ ps, 0 ≤ p ∧ p < pos l l.length) ∨ trnC l x ps = 2 := by
  unfold trnC
  rw [layB_iff.2 hl, if_pos rfl]
  rcases h : ps.all (fun p => inB p 0 (pos l l.length - 1)) && inB x 1 (min 40000 (pos l l.length)) with _ | _
  · right; rfl
  · left
    rw [Bool.and_eq_true, List.all_eq_true] at h
    obtain ⟨h1, h2⟩ := h
    simp [inB] at h2
    refine ⟨rfl, by omega, by omega, by omega, fun p hp => ?_⟩
    have := h1 p hp
    simp [inB] at this
    omega
end Go.Proofs.Ythkghpmfbdojeaa
