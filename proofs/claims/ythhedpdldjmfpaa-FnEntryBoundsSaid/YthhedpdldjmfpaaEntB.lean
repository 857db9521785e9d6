/- Contracts of EntryBounds (program and reference). Condition: the layout's slice ends within its row. -/
import Derived.Test.YthhedpdldjmfpaaEntryS
namespace Go.Proofs.Ythhedpdldjmfpaa
open Go.RowKit

def entL (l : List Seg) (fs : List Int) (q : Nat) : Int × Int × Bool := entT (l.drop (fstN fs q)) (endN l fs q - 1 - fstN fs q) (segN l (endN l fs q - 1))
def ebC (l : List Seg) (fs : List Int) (b : Int) : Int := if codeB l fs b = 0 then (if (entL l fs b.toNat).2.2 then 0 else 5) else codeB l fs b
def ebLo (l : List Seg) (fs : List Int) (b : Int) : Int := if ebC l fs b = 0 then (entL l fs b.toNat).1 else 0
def ebHi (l : List Seg) (fs : List Int) (b : Int) : Int := if ebC l fs b = 0 then (entL l fs b.toNat).2.1 else 0
theorem ent_agree (xs : List Seg) (m : Nat) (s : Seg) : ((entT xs m s).2.2 = true ∧ (entS xs m s).1 ≤ (entS xs m s).2 ∧ (entS xs m s).1 = (entT xs m s).1 ∧ (entS xs m s).2 = (entT xs m s).2.1) ∨ ((entT xs m s).2.2 = false ∧ (entS xs m s).2 < (entS xs m s).1) := by
  unfold entT entS
  cases slowBad s
  · by_cases h : mxN xs m ≤ eHi xs m s
    · left; simp [h]
    · right; simp; omega
  · right; simp
section
variable {A : Option Addr} {c n : Nat} {l : List Seg} {A' : Option Addr} {c' n' : Nat} {fs : List Int} {w : World}
set_option maxRecDepth 100000 in
theorem c_EntryBounds (c : Nat) (b : Int) (hcn : n ≤ c) (h : LB w A n l A' c' n' fs) :
    Calls Try.prog 57 #[.agg #[.slice A n c], .slice A' n' c', .int .i64 b] w fun e w' => e = .returned (.tuple #[.agg #[.int .i64 (ebLo l fs b), .int .i64 (ebHi l fs b)], .int .i64 (ebC l fs b)]) ∧ Below w.heap.size w w' := by
  rcases codeB_cases l fs b with ⟨hc, hok, h0, h1⟩ | ⟨hc, hcc⟩
  · obtain ⟨q, rfl⟩ : ∃ q : Nat, b = q := ⟨b.toNat, by omega⟩
    have hq : q < n' := by have := h.hn'; omega
    have HEN := Lib.hid (show entL l fs q = entT (l.drop (fstN fs q)) (endN l fs q - 1 - fstN fs q) (segN l (endN l fs q - 1)) from rfl)
    generalize hE : entL l fs q = E at HEN
    obtain ⟨lo, hi, ok⟩ := E
    have HC := Lib.hid (show ebC l fs q = if ok then 0 else 5 by unfold ebC; rw [if_pos hc, Int.toNat_natCast, hE])
    have HLO : Hid (ebLo l fs q = if ok then lo else 0) := Lib.hid (by unfold ebLo; rw [HC.out, Int.toNat_natCast, hE]; cases ok <;> simp)
    have HHI : Hid (ebHi l fs q = if ok then hi else 0) := Lib.hid (by unfold ebHi; rw [HC.out, Int.toNat_natCast, hE]; cases ok <;> simp)
    have HOK := Lib.hid hok
    clear hE hok h0 h1
    go_enter Try.func57, Try.ntmps57
    go_wp2_with (fail)
    refine (c_blockCode _ _ (by exact (h.alloc _).alloc _)).mono ?_
    rintro e1 w1 ⟨rfl, hb⟩
    have k0 : w1.cell? ⟨w.heap.size, 0, none⟩ = some (.slice A n c) := cell_later hb (by go_simp)
    have hor : ((w.alloc (.cells #[.slice A n c] 40)).alloc (.cells #[.int .i64 0, .int .i64 0] 27)).ownsRow (w.heap.size + 1) 27 1 (.slice (some ⟨w.heap.size + 1, 0, none⟩) 2 2) 2 [.int .i64 0, .int .i64 0] := by
      have := own_two (w := w.alloc (.cells #[.slice A n c] 40)) 0 0
      simpa using this
    have HO1 := Lib.hid (own_below hor hb)
    have HB1 := Lib.hid (show Below w.heap.size w w1 from below_chain (by (repeat (first | exact Below.refl _ _ | assumption | refine below_alloc ?_ _ | refine below_drewN ?_ _ | refine below_set ?_ _ (by simp; try omega) | refine Below.drew ?_))) hb)
    have HL1 := Lib.hid (h.below HB1.out)
    clear hb hor h
    have HX := c_entry (w := w1) c q (fstN fs q) (endN l fs q) HOK.out hq hcn HL1.out rfl rfl
    rw [← HEN.out] at HX
    simp only at HX
    go_wp2_with (first
      | (go_at_call 110
         refine HX.mono ?_
         rintro e2 w2 ⟨rfl, hb2⟩
         have HO2 := Lib.hid (own_below HO1.out hb2)
         have HB2 := Lib.hid (below_chain HB1.out hb2)
         obtain ⟨r0, r1, r2, r3, r4, r5⟩ := two_cells HO2.out
         clear hb2)
      )
    · have hok0 : ok = false := by simp_all
      have hb9 := HB2.out
      have e1 : ebLo l fs q = 0 := by rw [HLO.out, hok0]; rfl
      have e2 : ebHi l fs q = 0 := by rw [HHI.out, hok0]; rfl
      have e3 : ebC l fs q = 5 := by rw [HC.out, hok0]; rfl
      rw [e1, e2, e3]
      refine bodyPost_ret (v := .tuple #[.agg #[.int .i64 0, .int .i64 0], .int .i64 5]) (by simp [results, Try.results57, go_sem, r0, r1, r5]) rfl ⟨rfl, by (repeat (first | exact Below.refl _ _ | assumption | refine below_alloc ?_ _ | refine below_drewN ?_ _ | refine below_set ?_ _ (by simp; try omega) | refine Below.drew ?_))⟩
    · have hok0 : ok = true := by simp_all
      have hb9 := HB2.out
      have e1 : ebLo l fs q = lo := by rw [HLO.out, hok0]; rfl
      have e2 : ebHi l fs q = hi := by rw [HHI.out, hok0]; rfl
      have e3 : ebC l fs q = 0 := by rw [HC.out, hok0]; rfl
      rw [e1, e2, e3]
      refine bodyPost_ret (v := .tuple #[.agg #[.int .i64 lo, .int .i64 hi], .int .i64 0]) (by simp [results, Try.results57, go_sem, r0, r1, r5]) rfl ⟨rfl, by (repeat (first | exact Below.refl _ _ | assumption | refine below_alloc ?_ _ | refine below_drewN ?_ _ | refine below_set ?_ _ (by simp; try omega) | refine Below.drew ?_))⟩
  · have HC := Lib.hid (show ebC l fs b = codeB l fs b by unfold ebC; rw [if_neg hc])
    have HLO := Lib.hid (show ebLo l fs b = 0 by unfold ebLo; rw [HC.out, if_neg hc])
    have HHI := Lib.hid (show ebHi l fs b = 0 by unfold ebHi; rw [HC.out, if_neg hc])
    have hc' : (codeB l fs b == 0) = false := by simp [hc]
    have hor : ((w.alloc (.cells #[.slice A n c] 40)).alloc (.cells #[.int .i64 0, .int .i64 0] 27)).ownsRow (w.heap.size + 1) 27 1 (.slice (some ⟨w.heap.size + 1, 0, none⟩) 2 2) 2 [.int .i64 0, .int .i64 0] := by
      have := own_two (w := w.alloc (.cells #[.slice A n c] 40)) 0 0
      simpa using this
    clear hc hcc
    go_enter Try.func57, Try.ntmps57
    go_wp2_with (fail)
    refine (c_blockCode _ _ (by exact (h.alloc _).alloc _)).mono ?_
    rintro e1 w1 ⟨rfl, hb⟩
    have HO1 := Lib.hid (own_below hor hb)
    have hb9 : Below w.heap.size w w1 := below_chain (by (repeat (first | exact Below.refl _ _ | assumption | refine below_alloc ?_ _ | refine below_drewN ?_ _ | refine below_set ?_ _ (by simp; try omega) | refine Below.drew ?_))) hb
    obtain ⟨r0, r1, r2, r3, r4, r5⟩ := two_cells HO1.out
    clear hb hor h
    go_wp2_with (fail)
    rw [HC.out, HLO.out, HHI.out]
    refine bodyPost_ret (v := .tuple #[.agg #[.int .i64 0, .int .i64 0], .int .i64 _]) (by simp [results, Try.results57, go_sem, r0, r1]) rfl ⟨rfl, by (repeat (first | exact Below.refl _ _ | assumption | refine below_alloc ?_ _ | refine below_drewN ?_ _ | refine below_set ?_ _ (by simp; try omega) | refine Below.drew ?_))⟩
set_option maxRecDepth 100000 in
theorem c_sEntryBounds (c : Nat) (b : Int) (h : LB w A n l A' c' n' fs) :
    Calls Try.prog 56 #[.agg #[.slice A n c], .slice A' n' c', .int .i64 b] w fun e w' => e = .returned (.tuple #[.agg #[.int .i64 (ebLo l fs b), .int .i64 (ebHi l fs b)], .int .i64 (ebC l fs b)]) ∧ Below w.heap.size w w' := by
  rcases codeB_cases l fs b with ⟨hc, hok, h0, h1⟩ | ⟨hc, hcc⟩
  · obtain ⟨q, rfl⟩ : ∃ q : Nat, b = q := ⟨b.toNat, by omega⟩
    have hq : q < n' := by have := h.hn'; omega
    have hag := ent_agree (l.drop (fstN fs q)) (endN l fs q - 1 - fstN fs q) (segN l (endN l fs q - 1))
    have HES := Lib.hid (show entS (l.drop (fstN fs q)) (endN l fs q - 1 - fstN fs q) (segN l (endN l fs q - 1)) = entS (l.drop (fstN fs q)) (endN l fs q - 1 - fstN fs q) (segN l (endN l fs q - 1)) from rfl)
    have hEL : entL l fs q = entT (l.drop (fstN fs q)) (endN l fs q - 1 - fstN fs q) (segN l (endN l fs q - 1)) := rfl
    rw [← hEL] at hag
    generalize hS : entS (l.drop (fstN fs q)) (endN l fs q - 1 - fstN fs q) (segN l (endN l fs q - 1)) = S at hag
    obtain ⟨lo, hi⟩ := S
    have HS := Lib.hid hS
    have HOK := Lib.hid hok
    have HC : Hid (ebC l fs q = if hi < lo then 5 else 0) := Lib.hid (by
      unfold ebC; rw [if_pos hc, Int.toNat_natCast]
      rcases hag with ⟨a1, a2, _⟩ | ⟨a1, a2⟩
      · simp only at a2; rw [a1, if_pos rfl, if_neg (show ¬ hi < lo by omega)]
      · simp only at a2; rw [a1, if_pos a2]; rfl)
    have HLO : Hid (ebLo l fs q = if hi < lo then 0 else lo) := Lib.hid (by
      unfold ebLo; rw [HC.out, Int.toNat_natCast]
      rcases hag with ⟨a1, a2, a3, a4⟩ | ⟨a1, a2⟩
      · simp only at a2 a3; rw [if_neg (show ¬ hi < lo by omega), if_neg (show ¬ hi < lo by omega), a3]; rfl
      · simp only at a2; rw [if_pos a2, if_pos a2]; rfl)
    have HHI : Hid (ebHi l fs q = if hi < lo then 0 else hi) := Lib.hid (by
      unfold ebHi; rw [HC.out, Int.toNat_natCast]
      rcases hag with ⟨a1, a2, a3, a4⟩ | ⟨a1, a2⟩
      · simp only at a2 a4; rw [if_neg (show ¬ hi < lo by omega), if_neg (show ¬ hi < lo by omega), a4]; rfl
      · simp only at a2; rw [if_pos a2, if_pos a2]; rfl)
    have hor : ((w.alloc (.cells #[.slice A n c] 40)).alloc (.cells #[.int .i64 0, .int .i64 0] 27)).ownsRow (w.heap.size + 1) 27 1 (.slice (some ⟨w.heap.size + 1, 0, none⟩) 2 2) 2 [.int .i64 0, .int .i64 0] := by
      have := own_two (w := w.alloc (.cells #[.slice A n c] 40)) 0 0
      simpa using this
    clear hok h0 h1 hag hS hEL HES
    go_enter Try.func56, Try.ntmps56
    go_wp2_with (fail)
    refine (c_l04Block _ _ (by exact (h.alloc _).alloc _)).mono ?_
    rintro e1 w1 ⟨rfl, hb⟩
    have k0 : w1.cell? ⟨w.heap.size, 0, none⟩ = some (.slice A n c) := cell_later hb (by go_simp)
    have HO1 := Lib.hid (own_below hor hb)
    have HB1 := Lib.hid (show Below w.heap.size w w1 from below_chain (by (repeat (first | exact Below.refl _ _ | assumption | refine below_alloc ?_ _ | refine below_drewN ?_ _ | refine below_set ?_ _ (by simp; try omega) | refine Below.drew ?_))) hb)
    have HL1 := Lib.hid (h.below HB1.out)
    clear hb hor h
    have HX := c_l07Entry (w := w1) c q (fstN fs q) (endN l fs q) HOK.out hq HL1.out rfl rfl
    rw [HS.out] at HX
    simp only at HX
    go_wp2_with (first
      | (go_at_call 109
         refine HX.mono ?_
         rintro e2 w2 ⟨rfl, hb2⟩
         have HO2 := Lib.hid (own_below HO1.out hb2)
         have HB2 := Lib.hid (below_chain HB1.out hb2)
         obtain ⟨r0, r1, r2, r3, r4, r5⟩ := two_cells HO2.out
         clear hb2)
      )
    · have hb9 := HB2.out
      have hx : hi < lo := by first | assumption | omega
      rw [HLO.out, HHI.out, HC.out, if_pos hx, if_pos hx, if_pos hx]
      refine bodyPost_ret (v := .tuple #[.agg #[.int .i64 0, .int .i64 0], .int .i64 5]) (by simp [results, Try.results56, go_sem, r0, r1]) rfl ⟨rfl, by (repeat (first | exact Below.refl _ _ | assumption | refine below_alloc ?_ _ | refine below_drewN ?_ _ | refine below_set ?_ _ (by simp; try omega) | refine Below.drew ?_))⟩
    · have hb9 := HB2.out
      have hx : ¬ hi < lo := by first | assumption | omega
      rw [HLO.out, HHI.out, HC.out, if_neg hx, if_neg hx, if_neg hx]
      refine bodyPost_ret (v := .tuple #[.agg #[.int .i64 lo, .int .i64 hi], .int .i64 0]) (by simp [results, Try.results56, go_sem, r0, r1]) rfl ⟨rfl, by (repeat (first | exact Below.refl _ _ | assumption | refine below_alloc ?_ _ | refine below_drewN ?_ _ | refine below_set ?_ _ (by simp; try omega) | refine Below.drew ?_))⟩
  · have HC := Lib.hid (show ebC l fs b = codeB l fs b by unfold ebC; rw [if_neg hc])
    have HLO := Lib.hid (show ebLo l fs b = 0 by unfold ebLo; rw [HC.out, if_neg hc])
    have HHI := Lib.hid (show ebHi l fs b = 0 by unfold ebHi; rw [HC.out, if_neg hc])
    have hc' : (codeB l fs b == 0) = false := by simp [hc]
    have hor : ((w.alloc (.cells #[.slice A n c] 40)).alloc (.cells #[.int .i64 0, .int .i64 0] 27)).ownsRow (w.heap.size + 1) 27 1 (.slice (some ⟨w.heap.size + 1, 0, none⟩) 2 2) 2 [.int .i64 0, .int .i64 0] := by
      have := own_two (w := w.alloc (.cells #[.slice A n c] 40)) 0 0
      simpa using this
    clear hc hcc
    go_enter Try.func56, Try.ntmps56
    go_wp2_with (fail)
    refine (c_l04Block _ _ (by exact (h.alloc _).alloc _)).mono ?_
    rintro e1 w1 ⟨rfl, hb⟩
    have HO1 := Lib.hid (own_below hor hb)
    have hb9 : Below w.heap.size w w1 := below_chain (by (repeat (first | exact Below.refl _ _ | assumption | refine below_alloc ?_ _ | refine below_drewN ?_ _ | refine below_set ?_ _ (by simp; try omega) | refine Below.drew ?_))) hb
    obtain ⟨r0, r1, r2, r3, r4, r5⟩ := two_cells HO1.out
    clear hb hor h
    go_wp2_with (fail)
    rw [HC.out, HLO.out, HHI.out]
    refine bodyPost_ret (v := .tuple #[.agg #[.int .i64 0, .int .i64 0], .int .i64 _]) (by simp [results, Try.results56, go_sem, r0, r1]) rfl ⟨rfl, by (repeat (first | exact Below.refl _ _ | assumption | refine below_alloc ?_ _ | refine below_drewN ?_ _ | refine below_set ?_ _ (by simp; try omega) | refine Below.drew ?_))⟩
end
end Go.Proofs.Ythhedpdldjmfpaa
