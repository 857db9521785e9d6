/- Maps by pairs of references; contracts of children and inputOf's least. Condition: the nodes are valid. -/
import Derived.Test.YtndihacmlkgkbaaDgJs
namespace Go.Proofs.Ytndihacmlkgkbaa
open Go.RowKit Go.Maps Go.WideMaps

theorem rowPair : (105 : TypeId) < Try.prog.types.size := of_decide_eq_true (by kernel_rfl)
theorem widePair : (match Try.prog.underlying 105 with | some (.array _ _) | some (.struct _) => true | _ => false) = true := by rw [Try.underlying105]
set_option maxRecDepth 100000 in
theorem lawPair : Keyed Try.prog 105 := Keyed.of_law (deep_law_laid laidOut9 (m := 2) (by omega) rowPair (by kernel_rfl) widePair)
theorem cells_pair : Try.prog.cellsOf 105 = 2 := by kernel_rfl
theorem keyTypePair : Try.prog.keyType 105 = true := by kernel_rfl
theorem keyPair {a b : Int} (h0 : wfI a) (h1 : wfI b) : ∃ kl, keyOf Try.prog 105 (.agg #[.int .i64 a, .int .i64 b]) = some kl := by
  obtain ⟨d, hd⟩ : ∃ d, Try.prog.types.size = d + 1 := Nat.exists_eq_succ_of_ne_zero (fun h => absurd rowPair (by rw [h]; exact Nat.not_lt_zero _))
  have hf : Value.formed Try.prog 105 (.agg #[.int .i64 a, .int .i64 b]) = true := by simp [Value.formed, Try.underlying105, cells_pair]
  unfold keyOf
  rw [Try.underlying105]
  simp only [keyTypePair, hf, Bool.and_self, if_true, hd]
  unfold Program.keyLits
  have e : List.range 2 = [0, 1] := rfl
  simp [Try.underlying105, Value.cells, cells_pair, cellsK_int64, e, lits_int h0, lits_int h1]
def asPr : Value → Option (Int × Int)
  | .agg a => match a.toList with
    | [.int .i64 i, .int .i64 l] => some (i, l)
    | _ => none
  | _ => none
theorem asPr_some {v : Value} {x : Int × Int} (h : asPr v = some x) : v = .agg #[.int .i64 x.1, .int .i64 x.2] := by
  unfold asPr at h
  split at h
  · rename_i a
    split at h
    · rename_i i l e
      simp only [Option.some.injEq] at h
      subst h
      obtain ⟨t⟩ := a
      simp only at e
      rw [e]
    · cases h
  · cases h
def prF (ps : List Jp) (v : Value) : Option Int := (asPr v).bind fun x => if 0 ≤ x.1 ∧ 0 ≤ x.2 then lk ps x.1.toNat x.2.toNat else none
theorem prF_at (ps : List Jp) (x y : Nat) : prF ps (.agg #[.int .i64 x, .int .i64 y]) = lk ps x y := by
  show (if 0 ≤ (x : Int) ∧ 0 ≤ (y : Int) then lk ps (x : Int).toNat (y : Int).toNat else none) = _
  rw [if_pos ⟨by omega, by omega⟩, Int.toNat_natCast, Int.toNat_natCast]
theorem prF_nil : prF [] = fun _ => none := by
  funext v
  unfold prF
  cases asPr v with
  | none => rfl
  | some x =>
    simp only [Option.bind_some, lk_nil]
    split <;> rfl
theorem prF_put {ps : List Jp} {x y : Nat} {r : Int} (h : lk ps x y = none) : putF 105 (prF ps) (.agg #[.int .i64 x, .int .i64 y]) r (prF (ps ++ [⟨x, y, r⟩])) := by
  refine ⟨?_, fun u kl _ hne => ?_⟩
  · rw [prF_at, lk_snoc, h, if_pos ⟨rfl, rfl⟩]
    rfl
  · unfold prF
    cases hu : asPr u with
    | none => rfl
    | some q =>
      simp only [Option.bind_some]
      split
      · rename_i h0
        rw [lk_snoc, if_neg, Option.or_none]
        rintro ⟨e1, e2⟩
        refine hne ?_
        rw [asPr_some hu, e1, e2, Int.toNat_of_nonneg h0.1, Int.toNat_of_nonneg h0.2]
      · rfl
set_option maxHeartbeats 400000 in
set_option maxRecDepth 100000 in
theorem c_children (X R : Int) (A : Option Addr) (c n : Nat) (l : List Nd) (r : Nat) (i : Int) (w : World) (hn : n = l.length) (hs : n ≤ 1099511627776) (hr : r < n + 2) (hi : r < 2 → lvl X l r ≠ i) (h : Rd w A (ndCells l)) :
    Calls Try.prog 78 #[.agg #[.int .i64 X, .slice A n c, .int .i64 R], .int .i64 r, .int .i64 i] w fun e w' => e = .returned (.tuple #[.int .i64 (brn X l r i 0), .int .i64 (brn X l r i 1)]) ∧ Below w.heap.size w w' := by
  have HN := Lib.hid hn
  have HL := Lib.hid (fun w1 h => c_inputOf X R A c n l r w1 hn hs hr h)
  have HB := Lib.hid (below_alloc (Below.refl w.heap.size w) (.cells #[.int .i64 X, .slice A n c, .int .i64 R] 29))
  have a0 : (w.alloc (.cells #[.int .i64 X, .slice A n c, .int .i64 R] 29)).cell? ⟨w.heap.size, 0, none⟩ = some (.int .i64 X) := by go_simp
  have a1 : (w.alloc (.cells #[.int .i64 X, .slice A n c, .int .i64 R] 29)).cell? ⟨w.heap.size, 1, none⟩ = some (.slice A n c) := by go_simp
  have a2 : (w.alloc (.cells #[.int .i64 X, .slice A n c, .int .i64 R] 29)).cell? ⟨w.heap.size, 2, none⟩ = some (.int .i64 R) := by go_simp
  have H := Lib.hid h
  clear hn h
  by_cases hl : lvl X l r = i
  · have hlb : (lvl X l r != i) = false := by simp [hl]
    have h2 : ¬ r < 2 := fun h2 => hi h2 hl
    obtain ⟨x, hx⟩ : ∃ x, l[r - 2]? = some x := ⟨_, List.getElem?_eq_getElem (by have := HN.out; omega)⟩
    obtain ⟨k, rfl⟩ : ∃ k, r = k + 2 := ⟨r - 2, by omega⟩
    simp only [Nat.add_sub_cancel] at hx
    have hxi : x.i = i := by rw [← hl]; unfold lvl; rw [if_neg (by omega), Nat.add_sub_cancel, getD_nd hx]
    have HV : Hid (brn X l (k + 2) i 0 = x.lo ∧ brn X l (k + 2) i 1 = x.hi) := Lib.hid ⟨by rw [brn_at hx hxi]; rfl, by rw [brn_at hx hxi]; rfl⟩
    obtain ⟨b1, off, rfl, hb1, g0, g1, g2⟩ := H.out.nd hx
    have hk : (k : Int) < n := by have := HN.out; omega
    have hk2 : ((k + 2 : Nat) : Int) = (k : Int) + 2 := by omega
    clear hl hx hxi hi
    generalize lvl X l (k + 2) = L1 at *
    obtain ⟨xi, xa, xb⟩ := x
    dsimp only at g0 g1 g2 HV
    rw [hk2] at HL ⊢
    have HXW : Hid (∀ w1, Below w.heap.size w w1 → w1.cell? ⟨b1, off + k * 3, none⟩ = some (.int .i64 xi) ∧ w1.cell? ⟨b1, off + k * 3 + 1, none⟩ = some (.int .i64 xa) ∧ w1.cell? ⟨b1, off + k * 3 + 2, none⟩ = some (.int .i64 xb)) := Lib.hid (fun w1 hb => ⟨cell_later hb g0, cell_later hb g1, cell_later hb g2⟩)
    clear g0 g1 g2 hb1
    rw [HV.out.1, HV.out.2]
    go_enter Try.func78, Try.ntmps78
    go_wp2_with (fail)
    refine (HL.out _ (H.out.below HB.out)).mono ?_
    rintro e w1 ⟨rfl, hb⟩
    replace a1 := cell_later hb a1
    have HB1 := Lib.hid (below_chain HB.out hb)
    obtain ⟨g0, g1, g2⟩ := HXW.out _ HB1.out
    clear hb a0 a2
    have hal := below_alloc (Below.refl w1.heap.size w1) (.cells #[.int .i64 xi, .int .i64 xa, .int .i64 xb] 57)
    have y1 : (w1.alloc (.cells #[.int .i64 xi, .int .i64 xa, .int .i64 xb] 57)).cell? ⟨w1.heap.size, 1, none⟩ = some (.int .i64 xa) := by go_simp
    have y2 : (w1.alloc (.cells #[.int .i64 xi, .int .i64 xa, .int .i64 xb] 57)).cell? ⟨w1.heap.size, 2, none⟩ = some (.int .i64 xb) := by go_simp
    have HB2 := Lib.hid (below_chain HB1.out hal)
    clear hal
    go_wp2_with (fail)
    generalize w1.alloc (.cells #[.int .i64 xi, .int .i64 xa, .int .i64 xb] 57) = W5 at *
    generalize w1.heap.size = gx at *
    refine wp_region_held_drew (S := (fun w' => w'.cell? ⟨gx, 1, none⟩ = some (.int .i64 xa) ∧ w'.cell? ⟨gx, 2, none⟩ = some (.int .i64 xb))) (by kernel_rfl) ?_ (fun hHeld => ?_)
    · exact ⟨y1, y2⟩
    refine rg_take (v := ?_) 0 rfl (by kernel_rfl) (by kernel_rfl) (by kernel_rfl) (fun _ _ _ h => h) (by kernel_rfl) ?_ (by assumption) ?_
    rotate_left
    · (intro w' hSw; (try dsimp only at hSw); go_simp; first | done | with_reducible rfl)
    simp only [Act.put, List.setIfInBounds_toArray, List.set_cons_zero, List.set_cons_succ]
    refine rg_take (v := ?_) 1 rfl (by kernel_rfl) (by kernel_rfl) (by kernel_rfl) (fun _ _ _ h => h) (by kernel_rfl) ?_ (by assumption) ?_
    rotate_left
    · (intro w' hSw; (try dsimp only at hSw); go_simp; first | done | with_reducible rfl)
    simp only [Act.put, List.setIfInBounds_toArray, List.set_cons_zero, List.set_cons_succ]
    refine rg_take (v := ?_) 2 rfl (by kernel_rfl) (by kernel_rfl) (by kernel_rfl) (fun _ _ _ h => h) (by kernel_rfl) ?_ (by assumption) ?_
    rotate_left
    · (intro w' hSw; (try dsimp only at hSw); go_simp; first | done | with_reducible rfl)
    simp only [Act.put, List.setIfInBounds_toArray, List.set_cons_zero, List.set_cons_succ]
    refine rg_take (v := ?_) 3 rfl (by kernel_rfl) (by kernel_rfl) (by kernel_rfl) (fun _ _ _ h => h) (by kernel_rfl) ?_ (by assumption) ?_
    rotate_left
    · (intro w' hSw; (try dsimp only at hSw); go_simp; first | done | with_reducible rfl)
    simp only [Act.put, List.setIfInBounds_toArray, List.set_cons_zero, List.set_cons_succ]
    refine rg_take (v := ?_) 4 rfl (by kernel_rfl) (by kernel_rfl) (by kernel_rfl) (fun _ _ _ h => h) (by kernel_rfl) ?_ (by assumption) ?_
    rotate_left
    · (intro w' hSw; (try dsimp only at hSw); go_simp; first | done | with_reducible rfl)
    simp only [Act.put, List.setIfInBounds_toArray, List.set_cons_zero, List.set_cons_succ]
    refine rg_take (v := ?_) 5 rfl (by kernel_rfl) (by kernel_rfl) (by kernel_rfl) (fun _ _ _ h => h) (by kernel_rfl) ?_ (by assumption) ?_
    rotate_left
    · (intro w' hSw; (try dsimp only at hSw); go_simp; first | done | with_reducible rfl)
    simp only [Act.put, List.setIfInBounds_toArray, List.set_cons_zero, List.set_cons_succ]
    refine wpAnyH_done (by kernel_rfl) ?_ _
    clear hHeld
    clear y1 y2
    go_wp2_with (fail)
    go_ret2
    exact ⟨rfl, by first | exact HB2.out | exact HB2.out.drew⟩
  · have hlb : (lvl X l r != i) = true := by simpa using hl
    have HV : Hid (∀ bit, brn X l r i bit = r) := Lib.hid (fun bit => brn_ne hl)
    clear hl hi
    rw [HV.out, HV.out]
    generalize lvl X l r = L1 at *
    go_enter Try.func78, Try.ntmps78
    go_wp2_with (fail)
    refine (HL.out _ (H.out.below HB.out)).mono ?_
    rintro e w1 ⟨rfl, hb⟩
    have HB1 := Lib.hid (below_chain HB.out hb)
    clear hb
    go_wp2_with (fail)
    go_ret2
    exact ⟨rfl, HB1.out⟩
end Go.Proofs.Ytndihacmlkgkbaa
