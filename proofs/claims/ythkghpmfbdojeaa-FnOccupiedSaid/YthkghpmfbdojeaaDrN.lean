/- Contract of DrawBlockLoads. No condition. -/
import Derived.Test.YthkghpmfbdojeaaDrO
namespace Go.Proofs.Ythkghpmfbdojeaa
open Go.RowKit

structure BLs (B bq : Nat) (w W : World) (A : Option Addr) (c : Nat) (L : List Seg) (A2 : Option Addr) (c2 : Nat) (fs : List Int) : Prop where
  row : W.ownsRow (B + 1) 61 7 (.slice A L.length c) L.length (segCells L)
  fr : W.ownsRow (B + 1) 2 1 (.slice A2 fs.length c2) fs.length (ints fs)
  res : ∃ u, W.ownsRow w.heap.size 26 1 (.slice (some ⟨w.heap.size, 0, none⟩) 1 1) 1 [u]
  box : W.cell? ⟨bq, 0, none⟩ = some (.slice A L.length c)
  src : Src W B
  bel : Below w.heap.size w W
  h1 : w.heap.size < B
  h2 : B < bq
theorem BLs.step {B bq : Nat} {w W W' : World} {A : Option Addr} {c : Nat} {L : List Seg} {A2 : Option Addr} {c2 : Nat} {fs : List Int} (h : BLs B bq w W A c L A2 c2 fs) (hd : DW B W W') : BLs B bq w W' A c L A2 c2 fs := by
  have h1 := h.h1
  have h2 := h.h2
  obtain ⟨u, hr⟩ := h.res
  exact ⟨own_at h.row hd.g (by omega), own_at h.fr hd.g (by omega), ⟨u, hr.kept hd.g (.inr (by simp [Value.ownBlock]; omega))⟩, hd.cell h.box (by omega), hd.s, below_of_grown h.bel hd.g (by intro q hq; simp at hq; omega), h1, h2⟩
theorem own_lay1 (w : World) (v : Value) : (w.alloc (.cells #[v] 26)).ownsRow w.heap.size 26 1 (.slice (some ⟨w.heap.size, 0, none⟩) 1 1) 1 [v] := by
  have h := World.ownsRow_lit (e := 26) (size := 1) (base := w.heap.size) w #[v] 1 (by simp) (by decide) (by simp)
  simpa using h
def SomeBL (w : World) (e : Ending) (w' : World) : Prop := ∃ A c l A' c' fs A2 c2 ps z, e = .returned (.tuple #[.agg #[.slice A l.length c], .slice A' fs.length c', .slice A2 ps.length c2, .int .i64 z]) ∧ l.length ≤ 100 ∧ fs.length ≤ 20 ∧ ps.length ≤ 6 ∧ w'.ownsRow w.heap.size 61 7 (.slice A l.length c) l.length (segCells l) ∧ w'.ownsRow w.heap.size 2 1 (.slice A' fs.length c') fs.length (ints fs) ∧ w'.ownsRow w.heap.size 2 1 (.slice A2 ps.length c2) ps.length (ints ps) ∧ Below w.heap.size w w'
set_option maxRecDepth 100000 in
theorem c_DrawBlockLoads (A : Option Addr) (c n : Nat) (w : World) (hn : n ≤ 4096) (hb : Bytes w w.heap.size A n) :
    Calls Try.prog 5 #[.slice A n c] w (SomeBL w) := by
  have hor := own_lay1 w (.slice none 0 0)
  have hb1 := bytes_later hb (below_alloc (Below.refl w.heap.size w) (.cells #[.slice none 0 0] 26))
  have hB := below_alloc (Below.refl w.heap.size w) (.cells #[.slice none 0 0] 26)
  clear hb
  go_enter Try.func5, Try.ntmps5
  go_wp2_with (fail)
  have hszw : w.heap.size < (w.alloc (.cells #[.slice none 0 0] 26)).heap.size := by simp
  generalize w.alloc (.cells #[.slice none 0 0] 26) = W at hor hb1 hB hszw ⊢
  refine (c_From A c n W hn hb1).mono ?_
  rintro e w1 ⟨rfl, hs, hb⟩
  replace hB := below_chain hB hb
  replace hor := own_below hor hb
  have hszw1 := hb.size
  have hBl := hs.lt
  clear hb hb1
  go_wp2_with (fail)
  refine (c_l04Draw _ _ hs).mono ?_
  rintro e w2 ⟨A1, c1, l, A2, c2, fs, rfl, hl, hfl, ho, hof, hs2, hg⟩
  have hsz2 := hs2.lt
  have hal := below_alloc (Below.refl w2.heap.size w2) (.cells #[.slice A1 l.length c1] 26)
  have HB := Lib.hid (show BLs W.heap.size w2.heap.size w (w2.alloc (.cells #[.slice A1 l.length c1] 26)) A1 c1 l A2 c2 fs from
    ⟨own_below (own_mono ho (by omega)) hal, own_below (own_mono hof (by omega)) hal, ⟨_, own_below (hor.kept hg (.inr (by simp [Value.ownBlock]; omega))) hal⟩, by go_simp, hs2.alloc _, below_alloc (below_of_grown hB hg (by intro q hq; simp at hq; omega)) _, hszw, hsz2⟩)
  clear hs hs2 hg hB hor ho hof hal
  go_wp2_with (fail)
  generalize hW3 : w2.alloc (.cells #[.slice A1 l.length c1] 26) = W3 at HB ⊢
  clear hW3
  have k7 := HB.out.box
  have HRD := Lib.hid (show ∀ w', DW W.heap.size W3 w' → Rd w' A1 (segCells l) from fun w' hd => Rd.own (HB.out.step hd).row)
  have HRL := Lib.hid (fun (V : World) (h : Src V W.heap.size) (hd : ∀ w', DW W.heap.size V w' → Rd w' A1 (segCells l)) => c_l05DrawLength W.heap.size A1 c1 l.length l V h rfl (by omega) hd)
  have HFR := Lib.hid (fun (V : World) (x : Int) (h : Src V W.heap.size) (hd : ∀ w', DW W.heap.size V w' → Rd w' A1 (segCells l)) => c_l05DrawFronts W.heap.size A1 c1 l.length l x V h rfl (by omega) hd)
  have HL := Lib.hid hl
  have HFL := Lib.hid hfl
  go_wp2_with (fail)
  refine (HRL.out _ HB.out.src (by simpa using HRD.out)).mono ?_
  rintro e w4 ⟨z, rfl, hd⟩
  have HB4 := Lib.hid (HB.out.step hd)
  have HRD4 := Lib.hid (show ∀ w', DW W.heap.size w4 w' → Rd w' A1 (segCells l) from fun w' hd => Rd.own (HB4.out.step hd).row)
  replace k7 := HB4.out.box
  clear hd HRD HB
  go_wp2_with (fail)
  refine wp_region_held_drew (S := (fun w' => w'.cell? ⟨w2.heap.size, 0, none⟩ = some (.slice A1 l.length c1))) (by kernel_rfl) ?_ (fun hHeld => ?_)
  · exact k7
  refine rg_take (v := ?_) 0 rfl (by kernel_rfl) (by kernel_rfl) (by kernel_rfl) (fun _ _ _ h => h) (by kernel_rfl) ?_ (by assumption) ?_
  rotate_left
  · (intro w' hSw; (try dsimp only at hSw); go_simp; first | done | with_reducible rfl)
  simp only [Act.put, List.setIfInBounds_toArray, List.set_cons_zero, List.set_cons_succ]
  refine rg_take (v := ?_) 1 rfl (by kernel_rfl) (by kernel_rfl) (by kernel_rfl) (fun _ _ _ h => h) (by kernel_rfl) ?_ (by assumption) ?_
  rotate_left
  · (intro w' hSw; (try dsimp only at hSw); go_simp; first | done | with_reducible rfl)
  simp only [Act.put, List.setIfInBounds_toArray, List.set_cons_zero, List.set_cons_succ]
  refine rg_take (v := ?_) 2 rfl (by kernel_rfl) (by kernel_rfl) (by kernel_rfl) (fun _ _ _ h => h) (by kernel_rfl) ?_ (by assumption) ?_
  rotate_left
  · (intro w' hSw; (try dsimp only at hSw); go_simp; first | done | with_reducible rfl)
  simp only [Act.put, List.setIfInBounds_toArray, List.set_cons_zero, List.set_cons_succ]
  refine rg_take (v := ?_) 3 rfl (by kernel_rfl) (by kernel_rfl) (by kernel_rfl) (fun _ _ _ h => h) (by kernel_rfl) ?_ (by assumption) ?_
  rotate_left
  · (intro w' hSw; (try dsimp only at hSw); go_simp; first | done | with_reducible rfl)
  simp only [Act.put, List.setIfInBounds_toArray, List.set_cons_zero, List.set_cons_succ]
  refine rg_take (v := ?_) 4 rfl (by kernel_rfl) (by kernel_rfl) (by kernel_rfl) (fun _ _ _ h => h) (by kernel_rfl) ?_ (by assumption) ?_
  rotate_left
  · (intro w' hSw; (try dsimp only at hSw); go_simp; first | done | with_reducible rfl)
  simp only [Act.put, List.setIfInBounds_toArray, List.set_cons_zero, List.set_cons_succ]
  refine rg_take (v := ?_) 6 rfl (by kernel_rfl) (by kernel_rfl) (by kernel_rfl) (fun _ _ _ h => h) (by kernel_rfl) ?_ (by assumption) ?_
  rotate_left
  · (intro w' hSw; (try dsimp only at hSw); go_simp; first | done | with_reducible rfl)
  simp only [Act.put, List.setIfInBounds_toArray, List.set_cons_zero, List.set_cons_succ]
  refine rg_run 5 rfl (by kernel_rfl) (by kernel_rfl) (fun K hK => ?_)
  go_simp
  refine (HFR.out _ z (by exact HB4.out.src.drew) (fun w' hd => HRD4.out w' ((DW.start HB4.out.src).drew HB4.out.src.lt |>.then_ hd))).mono ?_
  rintro e w5 ⟨A3, c3, ps, rfl, hp6, hop, hd⟩
  have HB5 := Lib.hid (HB4.out.step ((DW.start HB4.out.src).drew HB4.out.src.lt |>.then_ hd))
  have k75 := HB5.out.box
  have HP := Lib.hid hop
  have hsz4 := HB4.out.src.lt
  clear hd hop HB4 HRD4 k7
  go_wp2
  clear hHeld
  refine hK.out _ _ k75 (fun hHeld => ?_)
  clear hK K
  try simp only [Act.put, List.setIfInBounds_toArray, List.set_cons_zero, List.set_cons_succ]
  obtain ⟨u, hor⟩ := HB5.out.res
  have hc0 := hor.cellAt 0 (by decide)
  have hf0 := hor.frozenAt 0
  refine rg_run 7 rfl (by kernel_rfl) (by kernel_rfl) (fun K hK => ?_)
  go_simp
  simp only [List.getElem?_cons_zero] at hc0
  have hsz5 := HB5.out.h2
  have hsz0 := HB5.out.h1
  have hst := hor.stored 0 (.slice A1 l.length c1)
  have hc9 := hst.1.cellAt 0 (by decide)
  have hRow := Lib.hid (HB5.out.row.kept hst.2 (.inr (by
    intro e9
    have := (HB5.out.row.lt _ e9).1
    omega)))
  have hFr := Lib.hid (HB5.out.fr.kept hst.2 (.inr (by
    intro e9
    have := (HB5.out.fr.lt _ e9).1
    omega)))
  have hPr := Lib.hid (HP.out.kept hst.2 (.inr (by
    intro e9
    have h1 := (HP.out.lt _ e9).1
    simp at h1
    omega)))
  have hK5 : (w5.setCell ⟨w.heap.size, 0, none⟩ (.slice A1 l.length c1)).cell? ⟨w2.heap.size, 0, none⟩ = some (.slice A1 l.length c1) := cell_mark k75 hst.2 (by intro q hq; simp at hq; simp; omega)
  have HC9 : Hid ((w5.setCell ⟨w.heap.size, 0, none⟩ (.slice A1 l.length c1)).cell? ⟨w.heap.size, 0, none⟩ = some (.slice A1 l.length c1)) := Lib.hid (by simpa using hc9)
  have HB9 := Lib.hid (below_set HB5.out.bel (p := ⟨w.heap.size, 0, none⟩) (.slice A1 l.length c1) (Nat.le_refl _))
  clear hor hst hc9
  go_wp2
  clear hHeld
  refine hK.out _ _ (by exact hK5) (fun hHeld => ?_)
  clear hK K
  try simp only [Act.put, List.setIfInBounds_toArray, List.set_cons_zero, List.set_cons_succ]
  refine rg_take (v := ?_) 8 rfl (by kernel_rfl) (by kernel_rfl) (by kernel_rfl) (fun _ _ _ h => h) (by kernel_rfl) ?_ (by assumption) ?_
  rotate_left
  · (intro w' hSw; (try dsimp only at hSw); go_simp; first | done | with_reducible rfl)
  simp only [Act.put, List.setIfInBounds_toArray, List.set_cons_zero, List.set_cons_succ]
  refine rg_take (v := ?_) 9 rfl (by kernel_rfl) (by kernel_rfl) (by kernel_rfl) (fun _ _ _ h => h) (by kernel_rfl) ?_ (by assumption) ?_
  rotate_left
  · (intro w' hSw; (try dsimp only at hSw); go_simp; first | done | with_reducible rfl)
  simp only [Act.put, List.setIfInBounds_toArray, List.set_cons_zero, List.set_cons_succ]
  refine rg_take (v := ?_) 10 rfl (by kernel_rfl) (by kernel_rfl) (by kernel_rfl) (fun _ _ _ h => h) (by kernel_rfl) ?_ (by assumption) ?_
  rotate_left
  · (intro w' hSw; (try dsimp only at hSw); go_simp; first | done | with_reducible rfl)
  simp only [Act.put, List.setIfInBounds_toArray, List.set_cons_zero, List.set_cons_succ]
  refine wpAnyH_done (by kernel_rfl) ?_ _
  clear hHeld
  have r0 := HC9.out
  have r1 := hRow.out
  have r3 := hFr.out
  have r4 := hPr.out
  have r2 := HB9.out
  clear HC9 hRow hFr hPr HB9 HB5 HP hc0 hf0 hK5 k75
  generalize w5.setCell ⟨w.heap.size, 0, none⟩ (.slice A1 l.length c1) = WF at r0 r1 r2 r3 r4 ⊢
  go_wp2_with (fail)
  refine bodyPost_ret (v := .tuple #[.agg #[.slice A1 l.length c1], .slice A2 fs.length c2, .slice A3 ps.length c3, .int .i64 z]) (by simp [results, Try.results5, go_sem, r0]) rfl ⟨_, _, l, _, _, fs, _, _, ps, z, rfl, hl, hfl, hp6, own_mono r1 (by omega), own_mono r3 (by omega), own_mono r4 (by simp; omega), r2⟩
end Go.Proofs.Ythkghpmfbdojeaa
