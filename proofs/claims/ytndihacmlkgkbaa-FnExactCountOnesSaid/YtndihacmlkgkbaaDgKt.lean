/- Contracts of CountOnes, the program's and the reference's. Condition: the size. -/
import Derived.Test.YtndihacmlkgkbaaDgKo
namespace Go.Proofs.Ytndihacmlkgkbaa
open Go.RowKit

set_option maxRecDepth 100000 in
theorem c_sCountOnes (X R : Int) (A : Option Addr) (c n : Nat) (l : List Nd) (w : World) (hn : n = l.length) (hs : n ≤ 1099511627000) (hr : Rd w A (ndCells l)) :
    Calls Try.prog 16 #[.agg #[.int .i64 X, .slice A n c, .int .i64 R]] w fun e w' => e = .returned (.tuple #[.int .i64 (onesV X l R), .int .i64 (errD X l R)]) ∧ Below w.heap.size w w' := by
  have a0 : (w.alloc (.cells #[.int .i64 X, .slice A n c, .int .i64 R] 29)).cell? ⟨w.heap.size, 0, none⟩ = some (.int .i64 X) := by go_simp
  have a1 : (w.alloc (.cells #[.int .i64 X, .slice A n c, .int .i64 R] 29)).cell? ⟨w.heap.size, 1, none⟩ = some (.slice A n c) := by go_simp
  have a2 : (w.alloc (.cells #[.int .i64 X, .slice A n c, .int .i64 R] 29)).cell? ⟨w.heap.size, 2, none⟩ = some (.int .i64 R) := by go_simp
  have HB := Lib.hid (below_alloc (Below.refl w.heap.size w) (.cells #[.int .i64 X, .slice A n c, .int .i64 R] 29))
  have HI := Lib.hid (fun w1 h => c_sIsDiagram X R A c n l w1 hn hs h)
  have HC := Lib.hid (fun w1 (hd : isD X l R = true) h => c_l22Ones X R A c n l w1 hn hd h)
  have H := Lib.hid hr
  clear hn hr
  go_enter Try.func16, Try.ntmps16
  go_wp2_with (fail)
  refine (HI.out _ (H.out.below HB.out)).mono ?_
  rintro e w1 ⟨rfl, hb⟩
  replace a0 := cell_later hb a0
  replace a1 := cell_later hb a1
  replace a2 := cell_later hb a2
  have HB1 := Lib.hid (below_chain HB.out hb)
  clear hb HI
  rcases hd : isD X l R with _ | _
  · have HV : Hid (onesV X l R = 0 ∧ errD X l R = 1) := Lib.hid (by unfold onesV errD; rw [hd]; exact ⟨rfl, rfl⟩)
    clear hd HC
    go_wp2_with (fail)
    go_ret2
    exact ⟨by rw [HV.out.1, HV.out.2]; rfl, HB1.out⟩
  · have HV : Hid (errD X l R = 0) := Lib.hid (by unfold errD; rw [hd]; rfl)
    have HC1 := Lib.hid (fun w1 h => HC.out w1 hd h)
    clear hd HC
    go_wp2_with (fail)
    refine (HC1.out _ (H.out.below HB1.out)).mono ?_
    rintro e w2 ⟨rfl, hb⟩
    have HB2 := Lib.hid (below_chain HB1.out hb)
    clear hb
    go_wp2_with (fail)
    go_ret2
    exact ⟨by rw [HV.out]; rfl, HB2.out⟩
set_option maxRecDepth 100000 in
theorem c_CountOnes (X R : Int) (A : Option Addr) (c n : Nat) (l : List Nd) (w : World) (hn : n = l.length) (hs : n ≤ 1099511627000) (hr : Rd w A (ndCells l)) :
    Calls Try.prog 17 #[.agg #[.int .i64 X, .slice A n c, .int .i64 R]] w fun e w' => e = .returned (.tuple #[.int .i64 (onesV X l R), .int .i64 (errD X l R)]) ∧ Below w.heap.size w w' := by
  have a0 : (w.alloc (.cells #[.int .i64 X, .slice A n c, .int .i64 R] 29)).cell? ⟨w.heap.size, 0, none⟩ = some (.int .i64 X) := by go_simp
  have a1 : (w.alloc (.cells #[.int .i64 X, .slice A n c, .int .i64 R] 29)).cell? ⟨w.heap.size, 1, none⟩ = some (.slice A n c) := by go_simp
  have a2 : (w.alloc (.cells #[.int .i64 X, .slice A n c, .int .i64 R] 29)).cell? ⟨w.heap.size, 2, none⟩ = some (.int .i64 R) := by go_simp
  have HB := Lib.hid (below_alloc (Below.refl w.heap.size w) (.cells #[.int .i64 X, .slice A n c, .int .i64 R] 29))
  have HI := Lib.hid (fun w1 h => c_IsDiagram X R A c n l w1 hn hs h)
  have HC := Lib.hid (fun w1 (hd : isD X l R = true) h => c_ones X R A c n l w1 hn hd h)
  have H := Lib.hid hr
  clear hn hr
  go_enter Try.func17, Try.ntmps17
  go_wp2_with (fail)
  refine (HI.out _ (H.out.below HB.out)).mono ?_
  rintro e w1 ⟨rfl, hb⟩
  replace a0 := cell_later hb a0
  replace a1 := cell_later hb a1
  replace a2 := cell_later hb a2
  have HB1 := Lib.hid (below_chain HB.out hb)
  clear hb HI
  rcases hd : isD X l R with _ | _
  · have HV : Hid (onesV X l R = 0 ∧ errD X l R = 1) := Lib.hid (by unfold onesV errD; rw [hd]; exact ⟨rfl, rfl⟩)
    clear hd HC
    go_wp2_with (fail)
    go_ret2
    exact ⟨by rw [HV.out.1, HV.out.2]; rfl, HB1.out⟩
  · have HV : Hid (errD X l R = 0) := Lib.hid (by unfold errD; rw [hd]; rfl)
    have HC1 := Lib.hid (fun w1 h => HC.out w1 hd h)
    clear hd HC
    go_wp2_with (fail)
    refine (HC1.out _ (H.out.below HB1.out)).mono ?_
    rintro e w2 ⟨rfl, hb⟩
    have HB2 := Lib.hid (below_chain HB1.out hb)
    clear hb
    go_wp2_with (fail)
    go_ret2
    exact ⟨by rw [HV.out]; rfl, HB2.out⟩
end Go.Proofs.Ytndihacmlkgkbaa
