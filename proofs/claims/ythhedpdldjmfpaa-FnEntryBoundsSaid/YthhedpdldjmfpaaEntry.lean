/- Contract of the energies with which a train may enter a block (program). Condition: the blocks are valid. -/
import Derived.Test.YthhedpdldjmfpaaNeedS
import Derived.Test.YthhedpdldjmfpaaSpan
import Derived.Test.YthhedpdldjmfpaaStillD
namespace Go.Proofs.Ythhedpdldjmfpaa
open Go.RowKit

def segN (l : List Seg) (k : Nat) : Seg := l.getD k Seg.none
def slowBad (s : Seg) : Bool := brkB s.k && !decide (1 ≤ wLo s)
def eHi (xs : List Seg) (m : Nat) (s : Seg) : Int := if brkB s.k then min (10000000000 - mxP xs m) (wLo s - sC cHi xs m) else 10000000000 - mxP xs m
/-- The energies: least, greatest, and whether there are any; the segments xs ahead of the holding one s. -/
def entT (xs : List Seg) (m : Nat) (s : Seg) : Int × Int × Bool := if slowBad s then (0, 0, false) else (mxN xs m, eHi xs m s, decide (mxN xs m ≤ eHi xs m s))
theorem Rd.cutSeg {w : World} {b off : Nat} {l : List Seg} (h : Rd w (some ⟨b, off, none⟩) (segCells l)) (f : Nat) (hf : f ≤ l.length) : Rd w (some ⟨b, off + f * 7, none⟩) (segCells (l.drop f)) := by
  have e : (segCells l).drop (f * 7) = segCells (l.drop f) := by
    have h1 : l = l.take f ++ l.drop f := (List.take_append_drop f l).symm
    have h2 : segCells l = segCells (l.take f) ++ segCells (l.drop f) := by
      unfold segCells
      rw [← List.flatMap_append, ← h1]
    rw [h2, List.drop_append_of_le_length (by rw [segCells_length]; simp; omega)]
    rw [List.drop_eq_nil_of_le (by rw [segCells_length]; simp; omega)]
    rfl
  have := h.cut (f * 7)
  rwa [e] at this
theorem drop_ok {l : List Seg} (h : l.all segOk = true) (f : Nat) : (l.drop f).all segOk = true := List.all_eq_true.2 fun x hx => List.all_eq_true.1 h x (List.mem_of_mem_drop hx)
theorem lay_all {l : List Seg} (h : Lay l) : l.all segOk = true := List.all_eq_true.2 fun x hx => h.ok x hx
section
variable {A : Option Addr} {c n : Nat} {l : List Seg} {A' : Option Addr} {c' n' : Nat} {fs : List Int} {w : World}
set_option maxHeartbeats 2000000 in
set_option maxRecDepth 100000 in
theorem c_entry (c q f e : Nat) (hok : okB l fs = true) (hq : q < n') (hcn : n ≤ c) (h : LB w A n l A' c' n' fs) (hfe : f = fstN fs q) (hee : e = endN l fs q) :
    Calls Try.prog 110 #[.agg #[.slice A n c], .slice A' n' c', .int .i64 q] w fun e' w' => e' = .returned (.tuple #[.agg #[.int .i64 (entT (l.drop f) (e - 1 - f) (segN l (e - 1))).1, .int .i64 (entT (l.drop f) (e - 1 - f) (segN l (e - 1))).2.1], .bool (entT (l.drop f) (e - 1 - f) (segN l (e - 1))).2.2]) ∧ Below w.heap.size w w' := by
  have HN := Lib.hid h.hn
  have hs' := h.hs'
  have hl := okB_lay hok
  have hf := fst_at hok (q := q) (by have := h.hn'; omega)
  have he := end_at hok q
  have hlt := fst_end hok (q := q) (by have := h.hn'; omega)
  rw [← hfe] at hf hlt
  rw [← hee] at he hlt
  have hn24 : n ≤ 24 := by have := hl.hi; have := h.hn; omega
  have hen : e ≤ n := by have := h.hn; omega
  obtain ⟨b, off, rfl, hbl, g0⟩ := h.hr'.int hf.1
  have HE := Lib.hid he.1
  have HOK := Lib.hid (lay_all hl)
  obtain ⟨s, hz⟩ : ∃ z, l[e - 1]? = some z := ⟨_, List.getElem?_eq_getElem (by have := h.hn; omega)⟩
  have HS : Hid (segN l (e - 1) = s) := Lib.hid (by simp [segN, hz])
  have HZ := Lib.hid hz
  have HSG := Lib.hid (ok_at HOK.out hz)
  obtain ⟨m, hm⟩ : ∃ m, m = e - 1 - f := ⟨_, rfl⟩
  have hfm : f + m + 1 = e := by omega
  rw [HS.out, ← hm]
  obtain ⟨b1, o1, rfl, hb1, _⟩ := h.hr.some_ (by intro e9; have := segCells_length l; rw [e9] at this; simp at this; have := h.hn; omega)
  have HR1 := Lib.hid h.hr
  have HR2 := Lib.hid ((h.hr).cutSeg f (by have := h.hn; omega))
  have hor : ((w.alloc (.cells #[.slice (some ⟨b1, o1, none⟩) n c] 40)).alloc (.cells #[.int .i64 0, .int .i64 0] 27)).ownsRow (w.heap.size + 1) 27 1 (.slice (some ⟨w.heap.size + 1, 0, none⟩) 2 2) 2 [.int .i64 0, .int .i64 0] := by
    have := own_two (w := w.alloc (.cells #[.slice (some ⟨b1, o1, none⟩) n c] 40)) 0 0
    simpa using this
  clear hf he hz hl hm hfe hee hok
  go_enter Try.func110, Try.ntmps110
  go_wp2_with (fail)
  refine (c_blockEnd c q hq (by exact (h.alloc _).alloc _)).mono ?_
  rintro e1 w1 ⟨rfl, hb⟩
  rw [HE.out]
  have k0 : w1.cell? ⟨w.heap.size, 0, none⟩ = some (.slice (some ⟨b1, o1, none⟩) n c) := cell_later hb (by go_simp)
  have g1 : w1.cell? ⟨b, off + q, none⟩ = some (.int .i64 f) := cell_later hb (by go_simp)
  have B : Below w.heap.size w w1 := below_chain (by (repeat (first | exact Below.refl _ _ | assumption | refine below_alloc ?_ _ | refine below_drewN ?_ _ | refine below_set ?_ _ (by simp; try omega) | refine Below.drew ?_))) hb
  have HO := Lib.hid (own_below hor hb)
  have HN1 := Lib.hid (HR2.out.below B)
  have HB := Lib.hid B
  have ht1 : ((e : Int) - 1).toNat = e - 1 := by omega
  have hi0 : (0 : Int) ≤ (e : Int) - 1 := by omega
  have hi1 : (f : Int) ≤ (e : Int) - 1 := by omega
  have hi2 : (e : Int) - 1 ≤ c := by omega
  have hi3 : (e : Int) - 1 < n := by omega
  have hcf : ¬ c = f := by omega
  have hsub : e - 1 - f = m := by omega
  have hw : IntKind.i64.wrap ((e : Int) - 1) = (e : Int) - 1 := IntWalk.i64_in _ (by omega)
  have hbn := mxN_bd (drop_ok HOK.out f) (j := m) (by have := HN.out; simp; omega)
  have hbp := mxP_bd (drop_ok HOK.out f) (j := m) (by have := HN.out; simp; omega)
  have hbs := sC_bd (drop_ok HOK.out f) (fun s => cHi_bd) (j := m) (by have := HN.out; simp; omega)
  have hm24 : m ≤ 24 := by omega
  have hbw := wLo_bd (segBd HSG.out)
  clear hb hor h B
  go_wp2_with (fail)
  go_region_held3 (fun w' => w'.cell? ⟨w.heap.size, 0, none⟩ = some (.slice (some ⟨b1, o1, none⟩) n c) ∧ w'.cell? ⟨b, off + q, none⟩ = some (.int .i64 f)) (first | exact ⟨k0, g1⟩ | exact ⟨k2, g2⟩)
    (first
      | (go_at_call 147
         refine (c_needed _ _ _ (l.drop f) _ (by have := HN.out; simp; omega) (by have := HN.out; simp; omega) (by exact HN1.out) (drop_ok HOK.out f)).mono ?_
         rintro e2 w2 ⟨rfl, hb2⟩
         have k2 : w2.cell? ⟨w.heap.size, 0, none⟩ = some (.slice (some ⟨b1, o1, none⟩) n c) := cell_later hb2 (by exact k0)
         have g2 : w2.cell? ⟨b, off + q, none⟩ = some (.int .i64 f) := cell_later hb2 (by exact g1)
         have HO2 := Lib.hid (own_below (by exact HO.out) hb2)
         have HB2 := Lib.hid (below_chain (by exact HB.out.drew) hb2)
         clear hb2))
  have hlt2 := World.block_lt_of_cell? _ _ k2
  have hlt2b := (own_ge HO2.out).2
  have hne1 : ¬ w2.heap.size = w.heap.size + 1 := by omega
  have hne2 : ¬ w.heap.size + 1 = w2.heap.size := by omega
  obtain ⟨bb, oo, ebb, hbb, z0, z1, z2, z3, z4, z5, z6⟩ := (HR1.out.below HB2.out).seg HZ.out
  simp only [Option.some.injEq, Addr.mk.injEq, and_true] at ebb
  obtain ⟨rfl, rfl⟩ := ebb
  have HW := Lib.hid (own_two (w := w2) (mxN (l.drop f) m) (10000000000 - mxP (l.drop f) m))
  go_wp2_with (fail)
  have HIB := c_isBrake s
  unfold Seg.val at HIB
  refine (HIB _).mono ?_
  rintro e3 w3 ⟨rfl, hb3⟩
  have hbb3 : Below w2.heap.size w2 w3 := below_chain (by (repeat (first | exact Below.refl _ _ | assumption | refine below_alloc ?_ _ | refine below_drewN ?_ _ | refine below_set ?_ _ (by simp; try omega) | refine Below.drew ?_))) hb3
  have HO3 := Lib.hid (own_below HO2.out hbb3)
  have HW3 := Lib.hid (own_below (own_below HW.out (below_alloc (Below.refl _ _) _)) hb3)
  obtain ⟨p0, p1, p2, p3, _, _⟩ := two_cells HW3.out
  obtain ⟨r0, r1, r2, r3, _, _⟩ := two_cells HO3.out
  have q0 : w3.cell? ⟨w2.heap.size + 1, 0, none⟩ = some (.int .i64 s.k) := cell_later hb3 (by go_simp)
  have q1 : w3.cell? ⟨w2.heap.size + 1, 1, none⟩ = some (.int .i64 s.l) := cell_later hb3 (by go_simp)
  have q2 : w3.cell? ⟨w2.heap.size + 1, 2, none⟩ = some (.int .i64 s.r) := cell_later hb3 (by go_simp)
  have q3 : w3.cell? ⟨w2.heap.size + 1, 3, none⟩ = some (.int .i64 s.a) := cell_later hb3 (by go_simp)
  have q4 : w3.cell? ⟨w2.heap.size + 1, 4, none⟩ = some (.int .i64 s.b) := cell_later hb3 (by go_simp)
  have q5 : w3.cell? ⟨w2.heap.size + 1, 5, none⟩ = some (.int .i64 s.c) := cell_later hb3 (by go_simp)
  have q6 : w3.cell? ⟨w2.heap.size + 1, 6, none⟩ = some (.int .i64 s.d) := cell_later hb3 (by go_simp)
  have HB3 := Lib.hid (below_chain HB2.out hbb3)
  have hlt3 : w2.heap.size + 1 < w3.heap.size := World.block_lt_of_cell? _ _ q0
  clear hb3 hbb3 k0 g1 k2 g2 z0 z1 z2 z3 z4 z5 z6 HW HO2 HO
  rcases hbr : brkB s.k with _ | _
  · go_wp2_with (fail)
    go_region_held3 (fun w' => w'.cell? ⟨w2.heap.size, 0, none⟩ = some (.int .i64 (mxN (l.drop f) m)) ∧ w'.cell? ⟨w2.heap.size, 1, none⟩ = some (.int .i64 (10000000000 - mxP (l.drop f) m))) (first | exact ⟨p0, p1⟩ | (constructor <;> go_simp)) (fail)
    go_wp2_with (fail)
    have HT : entT (l.drop f) m s = (mxN (l.drop f) m, 10000000000 - mxP (l.drop f) m, decide (mxN (l.drop f) m ≤ 10000000000 - mxP (l.drop f) m)) := by simp [entT, slowBad, eHi, hbr]
    rw [HT]
    have hb9 := HB3.out
    refine bodyPost_ret (v := .tuple #[.agg #[.int .i64 _, .int .i64 _], .bool _]) (by simp [results, Try.results110, go_sem, r0, r1]) rfl ⟨rfl, by (repeat (first | exact Below.refl _ _ | assumption | refine below_alloc ?_ _ | refine below_drewN ?_ _ | refine below_set ?_ _ (by simp; try omega) | refine Below.drew ?_))⟩
  · have HIS := c_slows s
    unfold Seg.val at HIS
    have hf0 := fld0
    go_wp2_with (fail)
    refine (HIS _ HSG.out).mono ?_
    rintro e4 w4 ⟨rfl, hb4⟩
    have HO4 := Lib.hid (own_below HO3.out hb4)
    have HW4 := Lib.hid (own_below HW3.out hb4)
    clear p0 p1 p2 p3 r0 r1 r2 r3
    obtain ⟨p0, p1, p2, p3, _, _⟩ := two_cells HW4.out
    obtain ⟨r0, r1, r2, r3, _, _⟩ := two_cells HO4.out
    replace q0 := cell_later hb4 q0
    replace q1 := cell_later hb4 q1
    replace q2 := cell_later hb4 q2
    replace q3 := cell_later hb4 q3
    replace q4 := cell_later hb4 q4
    replace q5 := cell_later hb4 q5
    replace q6 := cell_later hb4 q6
    have HB4 := Lib.hid (below_chain HB3.out hb4)
    have hlt4 : w3.heap.size ≤ w4.heap.size := hb4.size
    clear hb4 HO3 HW3 HB3
    rcases hsl : decide (1 ≤ wLo s) with _ | _
    · go_wp2_with (fail)
      have HT : entT (l.drop f) m s = (0, 0, false) := by simp [entT, slowBad, hbr, hsl]
      rw [HT]
      have hb9 := HB4.out
      refine bodyPost_ret (v := .tuple #[.agg #[.int .i64 0, .int .i64 0], .bool false]) (by simp [results, Try.results110, go_sem, r0, r1]) rfl ⟨rfl, by (repeat (first | exact Below.refl _ _ | assumption | refine below_alloc ?_ _ | refine below_drewN ?_ _ | refine below_set ?_ _ (by simp; try omega) | refine Below.drew ?_))⟩
    · have HWK := c_work s
      unfold Seg.val at HWK
      have hwr : IntKind.i64.wrap (wLo s - sC cHi (l.drop f) m) = wLo s - sC cHi (l.drop f) m := IntWalk.i64_in _ (by omega)
      go_wp2_with (fail)
      go_region_with (first
        | (go_at_call 149
           refine (HWK _ HSG.out).mono ?_
           rintro e5 w5 ⟨rfl, hb5⟩
           have p5 : w5.cell? ⟨w2.heap.size, 1, none⟩ = some (.int .i64 (10000000000 - mxP (l.drop f) m)) := cell_later hb5 (by exact p1)
           have HW5 := Lib.hid (own_below (by exact HW4.out) hb5)
           have HO5 := Lib.hid (own_below (by exact HO4.out) hb5)
           have HB5 := Lib.hid (below_chain (by exact HB4.out.drew) hb5)
           have f5 := HW5.out.frozenAt 1
           clear hb5))
      all_goals
        generalize hmn : (if wLo s - sC cHi (l.drop f) m < 10000000000 - mxP (l.drop f) m then wLo s - sC cHi (l.drop f) m else 10000000000 - mxP (l.drop f) m) = hi
        have hhi : eHi (l.drop f) m s = hi := by
          rw [← hmn]
          simp only [eHi, hbr, if_true]
          split <;> omega
        have hst := HW5.out.stored 1 (.int .i64 hi)
        simp only [List.set_cons_zero, List.set_cons_succ] at hst
        have HW6 := Lib.hid hst.1
        have HO6 := Lib.hid (HO5.out.kept hst.2 (.inr (by simp [Value.ownBlock]; omega)))
        have HB6 := Lib.hid (below_set HB5.out (p := ⟨w2.heap.size, 1, none⟩) (.int .i64 hi) (Nat.le_of_lt hlt2))
        clear hst hmn
        generalize w5.setCell ⟨w2.heap.size, 1, none⟩ (.int .i64 hi) = W6 at HW6 HO6 HB6 ⊢
        clear p0 p1 p2 p3 r0 r1 r2 r3 q0 q1 q2 q3 q4 q5 q6 HW4 HO4 HW5 HO5 p5 f5
        obtain ⟨p0, p1, p2, p3, _, _⟩ := two_cells HW6.out
        obtain ⟨r0, r1, r2, r3, _, _⟩ := two_cells HO6.out
        go_wp2_with (fail)
        go_region_held3 (fun w' => w'.cell? ⟨w2.heap.size, 0, none⟩ = some (.int .i64 (mxN (l.drop f) m)) ∧ w'.cell? ⟨w2.heap.size, 1, none⟩ = some (.int .i64 hi)) (first | exact ⟨p0, p1⟩ | (constructor <;> go_simp)) (fail)
        go_wp2_with (fail)
        have HT : entT (l.drop f) m s = (mxN (l.drop f) m, hi, decide (mxN (l.drop f) m ≤ hi)) := by simp [entT, slowBad, hhi, hsl]
        rw [HT]
        have hb9 := HB6.out
        refine bodyPost_ret (v := .tuple #[.agg #[.int .i64 _, .int .i64 _], .bool _]) (by simp [results, Try.results110, go_sem, r0, r1]) rfl ⟨rfl, by (repeat (first | exact Below.refl _ _ | assumption | refine below_alloc ?_ _ | refine below_drewN ?_ _ | refine below_set ?_ _ (by simp; try omega) | refine Below.drew ?_))⟩
end
end Go.Proofs.Ythhedpdldjmfpaa
