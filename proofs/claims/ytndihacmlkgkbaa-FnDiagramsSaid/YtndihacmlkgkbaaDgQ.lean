/- Contracts of l22Branch and of ValueOf, the program's and the reference's. Condition: the sizes. -/
import Derived.Test.YtndihacmlkgkbaaDgB
import Derived.Test.YtndihacmlkgkbaaDgL
namespace Go.Proofs.Ytndihacmlkgkbaa
open Go.RowKit

def brn (X : Int) (l : List Nd) (r : Nat) (i bit : Int) : Int := if lvl X l r = i ∧ 2 ≤ r then (if bit = 0 then (l.getD (r - 2) nd0).lo else (l.getD (r - 2) nd0).hi) else r
theorem brn_lo {X : Int} {l : List Nd} {r : Nat} {i bit : Int} (h : r < 2) : brn X l r i bit = r := by unfold brn; rw [if_neg (by omega)]
theorem brn_ne {X : Int} {l : List Nd} {r : Nat} {i bit : Int} (h : lvl X l r ≠ i) : brn X l r i bit = r := by unfold brn; rw [if_neg (fun h2 => h h2.1)]
theorem brn_at {X : Int} {l : List Nd} {k : Nat} {x : Nd} {i bit : Int} (hx : l[k]? = some x) (h : x.i = i) : brn X l (k + 2) i bit = if bit = 0 then x.lo else x.hi := by
  unfold brn
  rw [if_pos ⟨by unfold lvl; rw [if_neg (by omega), Nat.add_sub_cancel, getD_nd hx, h], by omega⟩, Nat.add_sub_cancel, getD_nd hx]
set_option maxHeartbeats 400000 in
set_option maxRecDepth 100000 in
theorem c_l22Branch (X R : Int) (A : Option Addr) (c n : Nat) (l : List Nd) (r : Nat) (i bit : Int) (w : World) (hn : n = l.length) (hs : n ≤ 1099511627776) (hr : r < n + 2) (h : Rd w A (ndCells l)) :
    Calls Try.prog 59 #[.agg #[.int .i64 X, .slice A n c, .int .i64 R], .int .i64 r, .int .i64 i, .int .i64 bit] w fun e w' => e = .returned (.int .i64 (brn X l r i bit)) ∧ Below w.heap.size w w' := by
  have HN := Lib.hid hn
  have HL := Lib.hid (fun w1 h => c_l22Level X R A c n l r w1 hn hs hr h)
  have HB := Lib.hid (below_alloc (Below.refl w.heap.size w) (.cells #[.int .i64 X, .slice A n c, .int .i64 R] 29))
  have a0 : (w.alloc (.cells #[.int .i64 X, .slice A n c, .int .i64 R] 29)).cell? ⟨w.heap.size, 0, none⟩ = some (.int .i64 X) := by go_simp
  have a1 : (w.alloc (.cells #[.int .i64 X, .slice A n c, .int .i64 R] 29)).cell? ⟨w.heap.size, 1, none⟩ = some (.slice A n c) := by go_simp
  have a2 : (w.alloc (.cells #[.int .i64 X, .slice A n c, .int .i64 R] 29)).cell? ⟨w.heap.size, 2, none⟩ = some (.int .i64 R) := by go_simp
  have H := Lib.hid h
  clear hn h
  by_cases hl : lvl X l r = i
  · have hlb : (lvl X l r != i) = false := by simp [hl]
    by_cases h2 : r < 2
    · have HV : Hid (brn X l r i bit = r) := Lib.hid (brn_lo h2)
      clear hl
      rw [HV.out]
      generalize lvl X l r = L1 at *
      go_enter Try.func59, Try.ntmps59
      go_wp2_with (fail)
      refine (HL.out _ (H.out.below HB.out)).mono ?_
      rintro e w1 ⟨rfl, hb⟩
      have HB1 := Lib.hid (below_chain HB.out hb)
      clear hb
      go_wp2_with (fail)
      go_ret
      exact ⟨rfl, HB1.out⟩
    · obtain ⟨x, hx⟩ : ∃ x, l[r - 2]? = some x := ⟨_, List.getElem?_eq_getElem (by have := HN.out; omega)⟩
      obtain ⟨k, rfl⟩ : ∃ k, r = k + 2 := ⟨r - 2, by omega⟩
      simp only [Nat.add_sub_cancel] at hx
      have hxi : x.i = i := by rw [← hl]; unfold lvl; rw [if_neg (by omega), Nat.add_sub_cancel, getD_nd hx]
      have HV : Hid (brn X l (k + 2) i bit = if bit = 0 then x.lo else x.hi) := Lib.hid (brn_at hx hxi)
      obtain ⟨b1, off, rfl, hb1, g0, g1, g2⟩ := H.out.nd hx
      have hk : (k : Int) < n := by have := HN.out; omega
      have hk2 : ((k + 2 : Nat) : Int) = (k : Int) + 2 := by omega
      clear hl hx hxi
      generalize lvl X l (k + 2) = L1 at *
      obtain ⟨xi, xa, xb⟩ := x
      dsimp only at g0 g1 g2 HV
      rw [hk2] at HL ⊢
      have HXW : Hid (∀ w1, Below w.heap.size w w1 → w1.cell? ⟨b1, off + k * 3 + 1, none⟩ = some (.int .i64 xa) ∧ w1.cell? ⟨b1, off + k * 3 + 2, none⟩ = some (.int .i64 xb)) := Lib.hid (fun w1 hb => ⟨cell_later hb g1, cell_later hb g2⟩)
      clear g0 g1 g2 hb1
      rcases Decidable.em (bit = 0) with h0 | h0
      · subst h0
        rw [HV.out, if_pos rfl]
        clear HV
        go_enter Try.func59, Try.ntmps59
        go_wp2_with (fail)
        refine (HL.out _ (H.out.below HB.out)).mono ?_
        rintro e w1 ⟨rfl, hb⟩
        replace a1 := cell_later hb a1
        have HB1 := Lib.hid (below_chain HB.out hb)
        obtain ⟨g1, g2⟩ := HXW.out _ HB1.out
        clear hb a0 a2
        go_wp2_with (fail)
        go_ret
        exact ⟨rfl, HB1.out⟩
      · have h0b : (bit == 0) = false := by simpa using h0
        rw [HV.out, if_neg h0]
        clear HV
        go_enter Try.func59, Try.ntmps59
        go_wp2_with (fail)
        refine (HL.out _ (H.out.below HB.out)).mono ?_
        rintro e w1 ⟨rfl, hb⟩
        replace a1 := cell_later hb a1
        have HB1 := Lib.hid (below_chain HB.out hb)
        obtain ⟨g1, g2⟩ := HXW.out _ HB1.out
        clear hb a0 a2
        go_wp2_with (fail)
        go_ret
        exact ⟨rfl, HB1.out⟩
  · have hlb : (lvl X l r != i) = true := by simpa using hl
    have HV : Hid (brn X l r i bit = r) := Lib.hid (brn_ne hl)
    clear hl
    rw [HV.out]
    generalize lvl X l r = L1 at *
    go_enter Try.func59, Try.ntmps59
    go_wp2_with (fail)
    refine (HL.out _ (H.out.below HB.out)).mono ?_
    rintro e w1 ⟨rfl, hb⟩
    have HB1 := Lib.hid (below_chain HB.out hb)
    clear hb
    go_wp2_with (fail)
    go_ret
    exact ⟨rfl, HB1.out⟩
end Go.Proofs.Ytndihacmlkgkbaa
