/- Contracts of l04DrawBlock, DrawMergeBlocks, DrawEntryBounds, DrawBlockAt. Condition: at most 4096 bytes of code. -/
import Derived.Test.YthhedpdldjmfpaaDrawR
import Derived.Test.YthhedpdldjmfpaaFBlk
namespace Go.Proofs.Ythhedpdldjmfpaa
open Go.RowKit

def SomeLBI (B : Nat) (w : World) (e : Ending) (w' : World) : Prop := ∃ A c l A' c' fs z, e = .returned (.tuple #[.agg #[.slice A l.length c], .slice A' fs.length c', .int .i64 z]) ∧ l.length ≤ 100 ∧ fs.length ≤ 20 ∧ w'.ownsRow w.heap.size 29 7 (.slice A l.length c) l.length (segCells l) ∧ w'.ownsRow w.heap.size 2 1 (.slice A' fs.length c') fs.length (ints fs) ∧ Src w' B ∧ w.grownBy w' (some B)
theorem own_lay1 (w : World) (v : Value) : (w.alloc (.cells #[v] 40)).ownsRow w.heap.size 40 1 (.slice (some ⟨w.heap.size, 0, none⟩) 1 1) 1 [v] := by
  have h := World.ownsRow_lit (e := 40) (size := 1) (base := w.heap.size) w #[v] 1 (by simp) (by decide) (by simp)
  simpa using h
theorem rd_lit2' (w : World) (x y : Int) : Rd (w.alloc (.cells #[.int .i64 x, .int .i64 y] 2)) (some ⟨w.heap.size, 0, none⟩) (ints [x, y]) := rd_lit2 w x y
theorem DQ.fin3 {B br bl : Nat} {w W : World} {A : Option Addr} {c : Nat} {L : List Seg} {A' : Option Addr} {c' : Nat} {fs : List Int} (z : Int) (h : DQ B br bl w W A c L (.slice A' fs.length c') fs) : (W.setCell ⟨br, 0, none⟩ (.slice A L.length c)).cell? ⟨br, 0, none⟩ = some (.slice A L.length c) ∧ SomeLBI B w (.returned (.tuple #[.agg #[.slice A L.length c], .slice A' fs.length c', .int .i64 z])) (W.setCell ⟨br, 0, none⟩ (.slice A L.length c)) := by
  obtain ⟨h0, A9, c9, l9, A8, c8, f9, e, r⟩ := h.fin
  refine ⟨h0, ?_⟩
  simp only [Ending.returned.injEq, Value.tuple.injEq, Array.mk.injEq, List.cons.injEq, Value.agg.injEq, Value.slice.injEq, and_true] at e
  obtain ⟨⟨rfl, e1, rfl⟩, rfl, e2, rfl⟩ := e
  exact ⟨A, c, l9, A', c', f9, z, by rw [e1, e2], r⟩
set_option maxHeartbeats 1000000 in
set_option maxRecDepth 100000 in
theorem c_l04DrawBlock (B : Nat) (w : World) (h : Src w B) :
    Calls Try.prog 106 #[.pointer (some ⟨B, 0, none⟩)] w (SomeLBI B w) := by
  have hBl := h.lt
  have hor := own_lay1 w (.slice none 0 0)
  go_enter Try.func106, Try.ntmps106
  go_wp2_with (fail)
  refine (c_l04Draw _ _ (h.alloc _)).mono ?_
  rintro e w1 ⟨A, c, L, A', c', fs, rfl, hL, hfs, ho, hof, hs, hg⟩
  have hor1 := own_at hor hg hBl
  have hG := grown_trans (grown_alloc (grown_refl w _) _) hg
  have hsz1 := (own_ge hor1).2
  have hlb := own_lay1 w1 (.slice A L.length c)
  have HD := Lib.hid (show DQ B w.heap.size w1.heap.size w (w1.alloc (.cells #[.slice A L.length c] 40)) A c L (.slice A' fs.length c') fs from
    ⟨own_below (own_mono ho (by simp)) (below_alloc (Below.refl _ _) _), own_below (own_mono hof (by simp)) (below_alloc (Below.refl _ _) _), ⟨_, own_below hor1 (below_alloc (Below.refl _ _) _)⟩, own_mono hlb (by omega), hs.alloc _, grown_alloc hG _, hBl, Nat.le_refl _, hL, hfs⟩)
  clear hor ho hof hs hg hor1 hG hlb h
  go_wp2_with (fail)
  generalize w1.alloc (.cells #[.slice A L.length c] 40) = W at HD ⊢
  refine (c_Next B 16 _ HD.out.src (by omega)).mono ?_
  rintro e w2 ⟨r, rfl, hr0, hr1, hr2, hs, hg⟩
  have HD2 := Lib.hid (HD.out.step hs hg)
  clear hs hg HD hr1 hr2
  obtain ⟨u, hres⟩ := HD2.out.res
  have hlb := HD2.out.lb
  have hc0 := hres.cellAt 0 (by decide)
  have hf0 := hres.frozenAt 0
  have hl0 := hlb.cellAt 0 (by decide)
  simp only [List.getElem?_cons_zero] at hc0 hl0
  have hbl2 := (own_ge hlb).2
  have hsz2 := (own_ge hres).2
  have hB2 := HD2.out.src.lt
  clear hres hlb
  rcases Decidable.em (r = 0) with hr | hr
  · go_wp2_with (fail)
    go_region_held3 (fun w' => w'.cell? ⟨w1.heap.size, 0, none⟩ = some (.slice A L.length c)) (first | exact hl0 | exact hl3 | go_simp)
      (first
        | (go_at_call 141
           refine (c_Pick B _ _ 2 [_, _] _ (by exact (HD2.out.drew.alloc _).src) (by simp; omega) rfl (by decide) (by decide) (by exact rd_lit2' _ _ _)).mono ?_
           rintro e w3 ⟨z, rfl, hs, hg⟩
           have HD3 := Lib.hid (DQ.step (by exact HD2.out.drew.alloc _) hs hg)
           obtain ⟨u3, hres3⟩ := HD3.out.res
           have hlb3 := HD3.out.lb
           have hc3 := hres3.cellAt 0 (by decide)
           have hf3 := hres3.frozenAt 0
           have hl3 := hlb3.cellAt 0 (by decide)
           simp only [List.getElem?_cons_zero] at hc3 hl3
           clear hs hg hres3 hlb3))
    go_wp2_with (fail)
    obtain ⟨r0, r1⟩ := DQ.fin3 z HD3.out
    clear hc3 hf3 hl3 hc0 hf0 hl0 HD3 HD2
    generalize w3.setCell ⟨w.heap.size, 0, none⟩ (.slice A L.length c) = WF at r0 r1 ⊢
    exact bodyPost_ret (v := .tuple #[.agg #[.slice A L.length c], .slice A' fs.length c', .int .i64 z]) (by simp [results, Try.results106, go_sem, r0]) rfl r1
  · go_wp2_with (fail)
    go_region_held3 (fun w' => w'.cell? ⟨w1.heap.size, 0, none⟩ = some (.slice A L.length c)) (first | exact hl0 | exact hl3 | go_simp)
      (first
        | (go_at_call 139
           refine (c_Next B _ _ (by exact HD2.out.drew.src) (by omega)).mono ?_
           rintro e w3 ⟨z, rfl, hz0, hz1, hz2, hs, hg⟩
           have HD3 := Lib.hid (DQ.step (by exact HD2.out.drew) hs hg)
           obtain ⟨u3, hres3⟩ := HD3.out.res
           have hlb3 := HD3.out.lb
           have hc3 := hres3.cellAt 0 (by decide)
           have hf3 := hres3.frozenAt 0
           have hl3 := hlb3.cellAt 0 (by decide)
           simp only [List.getElem?_cons_zero] at hc3 hl3
           clear hs hg hres3 hlb3 hz1 hz2))
    go_wp2_with (fail)
    obtain ⟨r0, r1⟩ := DQ.fin3 z HD3.out
    clear hc3 hf3 hl3 hc0 hf0 hl0 HD3 HD2
    generalize w3.setCell ⟨w.heap.size, 0, none⟩ (.slice A L.length c) = WF at r0 r1 ⊢
    exact bodyPost_ret (v := .tuple #[.agg #[.slice A L.length c], .slice A' fs.length c', .int .i64 z]) (by simp [results, Try.results106, go_sem, r0]) rfl r1
theorem own_later {w w1 w2 : World} {base : Nat} {e : TypeId} {size n : Nat} {v : Value} {xs : List Value} (h : w1.ownsRow base e size v n xs) (hb : Below w1.heap.size w1 w2) (hs : w.heap.size ≤ base) : w2.ownsRow w.heap.size e size v n xs := own_mono (own_below h hb) hs
def SomeLBD (w : World) (e : Ending) (w' : World) : Prop := ∃ A c l A' c' fs z, e = .returned (.tuple #[.agg #[.slice A l.length c], .slice A' fs.length c', .int .i64 z]) ∧ l.length ≤ 100 ∧ fs.length ≤ 20 ∧ w'.ownsRow w.heap.size 29 7 (.slice A l.length c) l.length (segCells l) ∧ w'.ownsRow w.heap.size 2 1 (.slice A' fs.length c') fs.length (ints fs) ∧ Below w.heap.size w w'
set_option maxRecDepth 100000 in
theorem c_DrawMergeBlocks (A : Option Addr) (c n : Nat) (w : World) (hn : n ≤ 4096) (hb : Bytes w w.heap.size A n) :
    Calls Try.prog 53 #[.slice A n c] w (SomeLBD w) := by
  have hor := own_lay1 w (.slice none 0 0)
  have hb1 := bytes_later hb (below_alloc (Below.refl w.heap.size w) (.cells #[.slice none 0 0] 40))
  have hB := below_alloc (Below.refl w.heap.size w) (.cells #[.slice none 0 0] 40)
  clear hb
  go_enter Try.func53, Try.ntmps53
  go_wp2_with (fail)
  have hszw : w.heap.size < (w.alloc (.cells #[.slice none 0 0] 40)).heap.size := by simp
  generalize w.alloc (.cells #[.slice none 0 0] 40) = W at hor hb1 hB hszw ⊢
  refine (c_From A c n W hn hb1).mono ?_
  rintro e w1 ⟨rfl, hs, hb⟩
  replace hB := below_chain hB hb
  replace hor := own_below hor hb
  have hszw1 := hb.size
  clear hb hb1
  go_wp2_with (fail)
  refine (c_l04DrawBlock _ _ hs).mono ?_
  rintro e w2 ⟨A1, c1, l, A2, c2, fs, z, rfl, hl, hfl, ho, hof, hs2, hg⟩
  have HB := Lib.hid (below_of_grown hB hg (by intro q hq; simp at hq; omega))
  have hor2 := hor.kept hg (.inr (by simp [Value.ownBlock]; omega))
  have HO := Lib.hid ho
  have HOF := Lib.hid hof
  clear hs hs2 hg hB hor ho hof
  have hc0 := hor2.cellAt 0 (by decide)
  have hf0 := hor2.frozenAt 0
  have hst := hor2.stored 0 (.slice A1 l.length c1)
  have hc9 := hst.1.cellAt 0 (by decide)
  have HR := Lib.hid (HO.out.kept hst.2 (.inr (by
    intro e9
    have := (HO.out.lt _ e9).1
    omega)))
  have HRF := Lib.hid (HOF.out.kept hst.2 (.inr (by
    intro e9
    have := (HOF.out.lt _ e9).1
    omega)))
  simp only [List.getElem?_cons_zero] at hc0
  have HC9 : Hid ((w2.setCell ⟨w.heap.size, 0, none⟩ (.slice A1 l.length c1)).cell? ⟨w.heap.size, 0, none⟩ = some (.slice A1 l.length c1)) := Lib.hid (by simpa using hc9)
  have HB9 := Lib.hid (below_set HB.out (p := ⟨w.heap.size, 0, none⟩) (.slice A1 l.length c1) (Nat.le_refl _))
  clear hor2 hst hc9
  go_wp2_with (fail)
  have r0 := HC9.out
  have r1 := HR.out
  have r3 := HRF.out
  have r2 := HB9.out
  clear HC9 HR HRF HB9 HB HO HOF hc0 hf0
  generalize w2.setCell ⟨w.heap.size, 0, none⟩ (.slice A1 l.length c1) = WF at r0 r1 r2 r3 ⊢
  refine bodyPost_ret (v := .tuple #[.agg #[.slice A1 l.length c1], .slice A2 fs.length c2, .int .i64 z]) (by simp [results, Try.results53, go_sem, r0]) rfl ⟨_, _, l, _, _, fs, z, rfl, hl, hfl, own_mono r1 (by omega), own_mono r3 (by omega), r2⟩
set_option maxRecDepth 100000 in
theorem c_DrawEntryBounds (A : Option Addr) (c n : Nat) (w : World) (hn : n ≤ 4096) (hb : Bytes w w.heap.size A n) :
    Calls Try.prog 62 #[.slice A n c] w (SomeLBD w) := by
  have hor := own_lay1 w (.slice none 0 0)
  have hb1 := bytes_later hb (below_alloc (Below.refl w.heap.size w) (.cells #[.slice none 0 0] 40))
  have hB := below_alloc (Below.refl w.heap.size w) (.cells #[.slice none 0 0] 40)
  clear hb
  go_enter Try.func62, Try.ntmps62
  go_wp2_with (fail)
  have hszw : w.heap.size < (w.alloc (.cells #[.slice none 0 0] 40)).heap.size := by simp
  generalize w.alloc (.cells #[.slice none 0 0] 40) = W at hor hb1 hB hszw ⊢
  refine (c_From A c n W hn hb1).mono ?_
  rintro e w1 ⟨rfl, hs, hb⟩
  replace hB := below_chain hB hb
  replace hor := own_below hor hb
  have hszw1 := hb.size
  clear hb hb1
  go_wp2_with (fail)
  refine (c_l04DrawBlock _ _ hs).mono ?_
  rintro e w2 ⟨A1, c1, l, A2, c2, fs, z, rfl, hl, hfl, ho, hof, hs2, hg⟩
  have HB := Lib.hid (below_of_grown hB hg (by intro q hq; simp at hq; omega))
  have hor2 := hor.kept hg (.inr (by simp [Value.ownBlock]; omega))
  have HO := Lib.hid ho
  have HOF := Lib.hid hof
  clear hs hs2 hg hB hor ho hof
  have hc0 := hor2.cellAt 0 (by decide)
  have hf0 := hor2.frozenAt 0
  have hst := hor2.stored 0 (.slice A1 l.length c1)
  have hc9 := hst.1.cellAt 0 (by decide)
  have HR := Lib.hid (HO.out.kept hst.2 (.inr (by
    intro e9
    have := (HO.out.lt _ e9).1
    omega)))
  have HRF := Lib.hid (HOF.out.kept hst.2 (.inr (by
    intro e9
    have := (HOF.out.lt _ e9).1
    omega)))
  simp only [List.getElem?_cons_zero] at hc0
  have HC9 : Hid ((w2.setCell ⟨w.heap.size, 0, none⟩ (.slice A1 l.length c1)).cell? ⟨w.heap.size, 0, none⟩ = some (.slice A1 l.length c1)) := Lib.hid (by simpa using hc9)
  have HB9 := Lib.hid (below_set HB.out (p := ⟨w.heap.size, 0, none⟩) (.slice A1 l.length c1) (Nat.le_refl _))
  clear hor2 hst hc9
  go_wp2_with (fail)
  have r0 := HC9.out
  have r1 := HR.out
  have r3 := HRF.out
  have r2 := HB9.out
  clear HC9 HR HRF HB9 HB HO HOF hc0 hf0
  generalize w2.setCell ⟨w.heap.size, 0, none⟩ (.slice A1 l.length c1) = WF at r0 r1 r2 r3 ⊢
  refine bodyPost_ret (v := .tuple #[.agg #[.slice A1 l.length c1], .slice A2 fs.length c2, .int .i64 z]) (by simp [results, Try.results62, go_sem, r0]) rfl ⟨_, _, l, _, _, fs, z, rfl, hl, hfl, own_mono r1 (by omega), own_mono r3 (by omega), r2⟩
end Go.Proofs.Ythhedpdldjmfpaa
