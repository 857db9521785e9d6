/- Contracts of SegmentAt (program), DrawBlockAt; the walk of the law FnBlockLookup. -/
import Derived.Test.YthhedpdldjmfpaaDrawT
import Derived.Test.YthhedpdldjmfpaaOccP
namespace Go.Proofs.Ythhedpdldjmfpaa
open Go.RowKit

theorem LB_ofk {w : World} {base base2 : Nat} {A : Option Addr} {c : Nat} {l : List Seg} {A' : Option Addr} {c' : Nat} {fs : List Int} (ho : w.ownsRow base 29 7 (.slice A l.length c) l.length (segCells l)) (hof : w.ownsRow base2 2 1 (.slice A' fs.length c') fs.length (ints fs)) (hl : l.length ≤ 1000) (hf : fs.length ≤ 1000) : LB w A l.length l A' c' fs.length fs := by
  have h1 := own_cap hof
  unfold maxLen at h1
  exact ⟨rfl, by omega, Rd.own ho, rfl, by omega, h1.1, by omega, Rd.own hof⟩
set_option maxRecDepth 100000 in
theorem c_SegmentAt (A : Option Addr) (c n : Nat) (l : List Seg) (p : Int) (w : World) (hn : n = l.length) (hs : n ≤ 1048576) (hr : Rd w A (segCells l)) (hl : Lay l) (h0 : 0 ≤ p) (h1 : p < pos l l.length) :
    Calls Try.prog 55 #[.agg #[.slice A n c], .int .i64 p] w fun e w' => e = .returned (.tuple #[.int .i64 (atN l p), .int .i64 (p - pos l (atN l p)), .int .i64 0]) ∧ Below w.heap.size w w' := by
  have HN := Lib.hid hn
  have hlb := layB_iff.2 hl
  have HI := Lib.hid (fun (w : World) (hr : Rd w A (segCells l)) => c_IsLayout A c n l w HN.out hs hr)
  rw [hlb] at HI
  have HP := Lib.hid (fun (w : World) (hr : Rd w A (segCells l)) => c_isPosition A c n l p w HN.out hs hr hl)
  rw [show inB p 0 (pos l l.length - 1) = true by simp [inB]; omega] at HP
  have HS := Lib.hid (fun (w : World) (hr : Rd w A (segCells l)) => c_segmentAt A c n l p w HN.out hs hr hl h0 h1)
  clear hn hlb h1
  go_enter Try.func55, Try.ntmps55
  go_wp2_with (first
    | (go_at_call 79
       refine (HI.out _ (hr.alloc _)).mono ?_
       rintro e w1 ⟨rfl, hb⟩
       first | replace k0 := cell_later hb k0 | (have k0 : w1.cell? ⟨w.heap.size, 0, none⟩ = some (.slice A n c) := cell_later hb (by go_simp))
       first | replace B := below_chain B hb | (have B : Below w.heap.size w w1 := below_chain (by (repeat (first | exact Below.refl _ _ | assumption | refine below_alloc ?_ _ | refine below_drewN ?_ _ | refine below_set ?_ _ (by simp; try omega) | refine Below.drew ?_))) hb)
       have g1 := Lib.hid ((hr.alloc _).below hb)
       clear hb)
    | (go_at_call 100
       refine (HP.out _ g1.out).mono ?_
       rintro e w1 ⟨rfl, hb⟩
       first | replace k0 := cell_later hb k0 | (have k0 : w1.cell? ⟨w.heap.size, 0, none⟩ = some (.slice A n c) := cell_later hb (by go_simp))
       first | replace B := below_chain B hb | (have B : Below w.heap.size w w1 := below_chain (by (repeat (first | exact Below.refl _ _ | assumption | refine below_alloc ?_ _ | refine below_drewN ?_ _ | refine below_set ?_ _ (by simp; try omega) | refine Below.drew ?_))) hb)
       have g2 := Lib.hid (g1.out.below hb)
       clear hb)
    | (go_at_call 101
       refine (HS.out _ g2.out).mono ?_
       rintro e w1 ⟨rfl, hb⟩
       first | replace k0 := cell_later hb k0 | (have k0 : w1.cell? ⟨w.heap.size, 0, none⟩ = some (.slice A n c) := cell_later hb (by go_simp))
       first | replace B := below_chain B hb | (have B : Below w.heap.size w w1 := below_chain (by (repeat (first | exact Below.refl _ _ | assumption | refine below_alloc ?_ _ | refine below_drewN ?_ _ | refine below_set ?_ _ (by simp; try omega) | refine Below.drew ?_))) hb)
       clear hb)
    )
  go_ret3
  exact ⟨rfl, B⟩
set_option maxHeartbeats 1000000 in
set_option maxRecDepth 100000 in
theorem c_DrawBlockAt (A : Option Addr) (c n : Nat) (w : World) (hn : n ≤ 4096) (hb : Bytes w w.heap.size A n) :
    Calls Try.prog 54 #[.slice A n c] w (SomeLBD w) := by
  have hor := own_lay1 w (.slice none 0 0)
  have hb1 := bytes_later hb (below_alloc (Below.refl w.heap.size w) (.cells #[.slice none 0 0] 40))
  have hB := below_alloc (Below.refl w.heap.size w) (.cells #[.slice none 0 0] 40)
  clear hb
  go_enter Try.func54, Try.ntmps54
  go_wp2_with (fail)
  have hszw : w.heap.size < (w.alloc (.cells #[.slice none 0 0] 40)).heap.size := by simp
  generalize w.alloc (.cells #[.slice none 0 0] 40) = W at hor hb1 hB hszw ⊢
  refine (c_From A c n W hn hb1).mono ?_
  rintro e w1 ⟨rfl, hs, hb⟩
  replace hB := below_chain hB hb
  replace hor := own_below hor hb
  have hszw1 := hb.size
  have hBlt := hs.lt
  clear hb hb1
  go_wp2_with (fail)
  refine (c_l04Draw _ _ hs).mono ?_
  rintro e w2 ⟨A1, c1, l, A2, c2, fs, rfl, hl, hfl, ho, hof, hs2, hg⟩
  have HB := Lib.hid (below_of_grown hB hg (by intro q hq; simp at hq; omega))
  have hor2 := hor.kept hg (.inr (by simp [Value.ownBlock]; omega))
  have hsz2 := (own_ge hor2).2
  have hszg := hg.size
  have hlb2 := own_lay1 w2 (.slice A1 l.length c1)
  have hB3 := below_alloc (Below.refl w2.heap.size w2) (.cells #[.slice A1 l.length c1] 40)
  have HO3 := Lib.hid (own_below ho hB3)
  have HOF3 := Lib.hid (own_below hof hB3)
  have HOR3 := Lib.hid (own_below hor2 hB3)
  have HS3 := Lib.hid (hs2.below hB3)
  have HB3 := Lib.hid (below_chain HB.out hB3)
  have HLB3 := Lib.hid hlb2
  clear hs hs2 hg hB hor ho hof HB hor2 hB3 hlb2
  go_wp2_with (fail)
  generalize w2.alloc (.cells #[.slice A1 l.length c1] 40) = W3 at HO3 HOF3 HOR3 HS3 HB3 HLB3 ⊢
  have hl0 := HLB3.out.cellAt 0 (by decide)
  have hc0 := HOR3.out.cellAt 0 (by decide)
  have hf0 := HOR3.out.frozenAt 0
  simp only [List.getElem?_cons_zero] at hc0 hl0
  have hlt3 := (own_ge HLB3.out).2
  have HDP := Lib.hid (fun (w : World) (h : Src w W.heap.size) (hr : Rd w A1 (segCells l)) => c_DrawPosition W.heap.size A1 c1 l.length l w h rfl (by omega) hr)
  have hne : ¬ w.heap.size = w2.heap.size := by omega
  have hne2 : ¬ w2.heap.size = w.heap.size := by omega
  go_region_held3 (fun w' => w'.cell? ⟨w2.heap.size, 0, none⟩ = some (.slice A1 l.length c1)) (first | exact hl0 | exact hl4 | go_simp)
    (first
      | (go_at_call 108
         refine (HDP.out _ (by exact HS3.out.drew) (by exact (Rd.own HO3.out).drew)).mono ?_
         rintro e w4 ⟨z, rfl, hs4, hg4⟩
         have HO4 := Lib.hid (own_at (by exact HO3.out) hg4 (by omega))
         have HOF4 := Lib.hid (own_at (by exact HOF3.out) hg4 (by omega))
         have HLB4 := Lib.hid (own_at (by exact HLB3.out) hg4 (by omega))
         have HOR4 := Lib.hid (World.ownsRow.kept (by exact HOR3.out) hg4 (.inr (by simp [Value.ownBlock]; omega)))
         have HB4 := Lib.hid (below_of_grown (by exact HB3.out.drew) hg4 (by intro q hq; simp at hq; omega))
         have hl4 := HLB4.out.cellAt 0 (by decide)
         have hc4 := HOR4.out.cellAt 0 (by decide)
         have hf4 := HOR4.out.frozenAt 0
         simp only [List.getElem?_cons_zero] at hl4 hc4
         have hst := HOR4.out.stored 0 (.slice A1 l.length c1)
         have hc9 := hst.1.cellAt 0 (by decide)
         have HR := Lib.hid (HO4.out.kept hst.2 (.inr (by
           intro e9
           have := (HO4.out.lt _ e9).1
           omega)))
         have HRF := Lib.hid (HOF4.out.kept hst.2 (.inr (by
           intro e9
           have := (HOF4.out.lt _ e9).1
           omega)))
         have HC9 : Hid ((w4.setCell ⟨w.heap.size, 0, none⟩ (.slice A1 l.length c1)).cell? ⟨w.heap.size, 0, none⟩ = some (.slice A1 l.length c1)) := Lib.hid (by simpa using hc9)
         have HB9 := Lib.hid (below_set HB4.out (p := ⟨w.heap.size, 0, none⟩) (.slice A1 l.length c1) (Nat.le_refl _))
         clear hs4 hg4 hst hc9))
  go_wp2_with (fail)
  have r0 := HC9.out
  have r1 := HR.out
  have r3 := HRF.out
  have r2 := HB9.out
  clear HC9 HR HRF HB9 HB4 HO4 HOF4 HLB4 HOR4 hc0 hf0 hl0 hl4 hc4 hf4
  generalize w4.setCell ⟨w.heap.size, 0, none⟩ (.slice A1 l.length c1) = WF at r0 r1 r2 r3 ⊢
  refine bodyPost_ret (v := .tuple #[.agg #[.slice A1 l.length c1], .slice A2 fs.length c2, .int .i64 z]) (by simp [results, Try.results54, go_sem, r0]) rfl ⟨_, _, l, _, _, fs, z, rfl, hl, hfl, own_mono r1 (by omega), own_mono r3 (by omega), r2⟩
end Go.Proofs.Ythhedpdldjmfpaa
