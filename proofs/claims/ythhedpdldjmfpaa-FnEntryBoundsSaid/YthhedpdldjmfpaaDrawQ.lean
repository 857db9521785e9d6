/- Contract of l03DrawPosition; rows of different element types. No condition. -/
import Derived.Test.YthhedpdldjmfpaaDrawL
namespace Go.Proofs.Ythhedpdldjmfpaa
open Go.RowKit

theorem own_ne {w : World} {b1 b2 : Nat} {e1 e2 : TypeId} {s1 s2 n1 n2 : Nat} {v1 v2 : Value} {x1 x2 : List Value} (h1 : w.ownsRow b1 e1 s1 v1 n1 x1) (h2 : w.ownsRow b2 e2 s2 v2 n2 x2) (he : e1 ≠ e2) : ∀ q, v1.ownBlock = some q → v2.ownBlock = some q → False := by
  intro q hq1 hq2
  rcases h1.2 with ⟨rfl, _⟩ | ⟨g1, c1, cur1, rfl, _, hg1, _⟩
  · simp [Value.ownBlock] at hq1
  · rcases h2.2 with ⟨rfl, _⟩ | ⟨g2, c2, cur2, rfl, _, hg2, _⟩
    · simp [Value.ownBlock] at hq2
    · simp [Value.ownBlock] at hq1 hq2
      subst hq1
      subst hq2
      rw [hg1] at hg2
      simp only [Option.some.injEq, Obj.cells.injEq] at hg2
      exact he hg2.2.1
set_option maxHeartbeats 1000000 in
set_option maxRecDepth 100000 in
theorem c_DrawPosition (B : Nat) (A : Option Addr) (c n : Nat) (l : List Seg) (w : World) (h : Src w B) (hn : n = l.length) (hs : n ≤ 1048576) (hr : Rd w A (segCells l)) :
    Calls Try.prog 108 #[.pointer (some ⟨B, 0, none⟩), .agg #[.slice A n c]] w (SomeI B w) := by
  have hBl := h.lt
  have HN := Lib.hid hn
  clear hn
  go_enter Try.func108, Try.ntmps108
  go_wp2_with (fail)
  refine (c_TotalAny _ _ _ l _ HN.out hs (hr.alloc _)).mono ?_
  rintro e w1 ⟨z, rfl, hzb0, hzb1, hb⟩
  have HS := Lib.hid ((h.alloc _).below hb)
  have HB0 : Below w.heap.size w w1 := below_chain (by (repeat (first | exact Below.refl _ _ | assumption | refine below_alloc ?_ _ | refine below_drewN ?_ _ | refine below_set ?_ _ (by simp; try omega) | refine Below.drew ?_))) hb
  have HG := Lib.hid (grown_of_below HB0 (some B))
  clear HB0
  clear hb h hr
  rcases Int.lt_or_le 1 z with hz | hz
  all_goals
    go_wp2_with (fail)
    refine (c_Next B 16 _ HS.out (by omega)).mono ?_
    rintro e w2 ⟨r, rfl, hr0, hq1, hq2, hs2, hg2⟩
    clear hq1 hq2
    have HS2 := Lib.hid hs2
    have HG2 := Lib.hid (grown_trans HG.out hg2)
    have hl2 := hs2.lt
    clear hs2 hg2 HS HG
    rcases Decidable.em (r = 0) with hr9 | hr9
    · go_wp2_with (fail)
      refine (c_Pick B _ _ 4 [_, _, _, _] _ (HS2.out.alloc _) (by omega) rfl (by decide) (by decide) (rd_lit4 _ _ _ _ _)).mono ?_
      rintro e w3 ⟨y, rfl, hs3, hg3⟩
      have HS3 := Lib.hid hs3
      have HG3 := Lib.hid (grown_trans (grown_alloc HG2.out _) hg3)
      clear hs3 hg3
      go_wp2_with (fail)
      go_ret
      exact ⟨y, rfl, HS3.out, HG3.out⟩
    · go_wp2_with (fail)
      refine (c_Next B _ _ HS2.out (by omega)).mono ?_
      rintro e w3 ⟨y, rfl, hy0, hy1, hy2, hs3, hg3⟩
      clear hy0 hy1 hy2
      have HS3 := Lib.hid hs3
      have HG3 := Lib.hid (grown_trans HG2.out hg3)
      clear hs3 hg3
      go_wp2_with (fail)
      go_ret
      exact ⟨y, rfl, HS3.out, HG3.out⟩
end Go.Proofs.Ythhedpdldjmfpaa
