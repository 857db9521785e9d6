/- Contracts and helpers (joined texts, part 2). The conditions stand at each theorem. -/
import Derived.Test.YteengjcplmjakaaGreatDoorH1
import Derived.Test.YteengjcplmjakaaGreatDoorPBm
import Derived.Test.YteengjcplmjakaaGreatDoorQSn
/- One step of a block, on the reference's side: it returns a value and a state (printed by FbA.py). No condition but an argument's presence. -/
namespace Go.Proofs.YteengjcplmjakaaGreatDoor
open Go.RowKit

/-- A box of a block's state. -/
def BBox (w : World) (base b : Nat) (x : List Value) : Prop := w.ownsRow base 62 3 (.slice (some ⟨b, 0, none⟩) 1 1) 1 x
theorem BBox.put {w : World} {base b : Nat} {x : List Value} (h : BBox w base b x) (j : Nat) (v : Value) : BBox (w.setCell ⟨b, j, none⟩ v) base b (x.set j v) ∧ w.grownBy (w.setCell ⟨b, j, none⟩ v) (some b) := World.ownsRow.stored h j v
theorem BBox.keep {w w' : World} {base b q : Nat} {x : List Value} (h : BBox w base b x) (hg : w.grownBy w' (some q)) (hne : q ≠ b) : BBox w' base b x :=
  World.ownsRow.kept h hg (.inr (fun e => hne (by simpa [Value.ownBlock] using e.symm)))
theorem BBox.c {w : World} {base b : Nat} {x0 x1 x2 : Value} (h : BBox w base b [x0, x1, x2]) : (w.cell? ⟨b, 0, none⟩ = some x0 ∧ w.cell? ⟨b, 1, none⟩ = some x1 ∧ w.cell? ⟨b, 2, none⟩ = some x2) ∧
    (w.frozen? ⟨b, 0, none⟩ = false ∧ w.frozen? ⟨b, 1, none⟩ = false ∧ w.frozen? ⟨b, 2, none⟩ = false) ∧ base ≤ b ∧ b < w.heap.size :=
  ⟨⟨World.ownsRow.cellAt h 0 (by decide), World.ownsRow.cellAt h 1 (by decide), World.ownsRow.cellAt h 2 (by decide)⟩, ⟨World.ownsRow.frozenAt h 0, World.ownsRow.frozenAt h 1, World.ownsRow.frozenAt h 2⟩, own_ge h⟩
theorem BBox.fill {w : World} {base b : Nat} {y0 y1 y2 : Value} (h : BBox w base b [y0, y1, y2]) (x0 x1 x2 : Value) :
    BBox (((w.setCell ⟨b, 0, none⟩ x0).setCell ⟨b, 1, none⟩ x1).setCell ⟨b, 2, none⟩ x2) base b [x0, x1, x2] ∧
    w.grownBy (((w.setCell ⟨b, 0, none⟩ x0).setCell ⟨b, 1, none⟩ x1).setCell ⟨b, 2, none⟩ x2) (some b) := by
  have z0 := BBox.put h 0 x0
  have z1 := BBox.put z0.1 1 x1
  have z2 := BBox.put z1.1 2 x2
  exact ⟨z2.1, grown_trans (grown_trans z0.2 z1.2) z2.2⟩
/-- Two boxes of states above base: the state, the result. -/
structure TwoB (w0 w : World) (sb rb : Nat) (s r : List Value) : Prop where
  s : BBox w w0.heap.size sb s
  r : BBox w w0.heap.size rb r
  b : Below w0.heap.size w0 w
theorem TwoB.below {w0 w w' : World} {sb rb : Nat} {s r : List Value} (h : TwoB w0 w sb rb s r) (hb : Below w.heap.size w w') : TwoB w0 w' sb rb s r := ⟨own_below h.s hb, own_below h.r hb, below_chain h.b hb⟩
theorem TwoB.fillS {w0 w : World} {sb rb : Nat} {y0 y1 y2 : Value} {r : List Value} (h : TwoB w0 w sb rb [y0, y1, y2] r) (hne : sb ≠ rb) (x0 x1 x2 : Value) : TwoB w0 (((w.setCell ⟨sb, 0, none⟩ x0).setCell ⟨sb, 1, none⟩ x1).setCell ⟨sb, 2, none⟩ x2) sb rb [x0, x1, x2] r := by
  have hf := h.s.fill x0 x1 x2
  exact ⟨hf.1, h.r.keep hf.2 hne, below_of_grown h.b hf.2 (fun q hq => by simp at hq; have := h.s.c.2.2.1; omega)⟩
theorem TwoB.fillR {w0 w : World} {sb rb : Nat} {y0 y1 y2 : Value} {s : List Value} (h : TwoB w0 w sb rb s [y0, y1, y2]) (hne : sb ≠ rb) (x0 x1 x2 : Value) : TwoB w0 (((w.setCell ⟨rb, 0, none⟩ x0).setCell ⟨rb, 1, none⟩ x1).setCell ⟨rb, 2, none⟩ x2) sb rb s [x0, x1, x2] := by
  have hf := h.r.fill x0 x1 x2
  exact ⟨h.s.keep hf.2 hne.symm, hf.1, below_of_grown h.b hf.2 (fun q hq => by simp at hq; have := h.r.c.2.2.1; omega)⟩
theorem TwoB.drew {w0 w : World} {sb rb : Nat} {s r : List Value} (h : TwoB w0 w sb rb s r) : TwoB w0 w.drew sb rb s r := h.below (Below.refl _ _).drew
theorem twoB_start (w : World) (s0 s1 s2 : Value) : TwoB w ((w.alloc (.cells #[s0, s1, s2] 62)).alloc (.cells #[.int .i64 0, .int .i64 0, .int .i64 0] 62)) w.heap.size (w.heap.size + 1) [s0, s1, s2] [.int .i64 0, .int .i64 0, .int .i64 0] := by
  refine ⟨?_, ?_, below_alloc (below_alloc (Below.refl w.heap.size w) _) _⟩
  · exact own_below (own_box w w.heap.size 62 [s0, s1, s2] 3 rfl (Nat.le_refl _)) (below_alloc (Below.refl _ _) _)
  · have h := own_box (w.alloc (.cells #[s0, s1, s2] 62)) w.heap.size 62 [.int .i64 0, .int .i64 0, .int .i64 0] 3 rfl (by simp)
    simpa [BBox] using h
/-- A value and a state; nothing of before has turned. -/
def StP (w : World) (e : Ending) (w' : World) : Prop := ∃ z a b c, e = .returned (.tuple #[.int .i64 z, .agg #[.int .i64 a, .int .i64 b, .int .i64 c]]) ∧ Below w.heap.size w w'
set_option maxRecDepth 100000 in
theorem c_l15Bit (x : Bool) (w : World) : Calls Tryz.prog 199 #[.bool x] w fun e w' => ∃ z, e = .returned (.int .i64 z) ∧ w = w' := by
  cases x
  · skip
    go_enter Tryz.func199, Tryz.ntmps199
    go_wp2_with (fail)
    go_ret
    exact ⟨_, rfl, rfl⟩
  · skip
    go_enter Tryz.func199, Tryz.ntmps199
    go_wp2_with (fail)
    go_ret
    exact ⟨_, rfl, rfl⟩
set_option maxHeartbeats 4000000 in
set_option maxRecDepth 100000 in
theorem c_l15Pair (n ba bb bc x y : Int) (w : World) : Calls Tryz.prog 200 #[.int .i64 n, .agg #[.int .i64 ba, .int .i64 bb, .int .i64 bc], .int .i64 x, .int .i64 y] w (StP w) := by
  have HT0 := Lib.hid (twoB_start w (.int .i64 ba) (.int .i64 bb) (.int .i64 bc))
  have HNE : Hid (w.heap.size ≠ w.heap.size + 1) := Lib.hid (by omega)
  have hbs : w.heap.size < w.heap.size + 1 := by omega
  go_enter Tryz.func200, Tryz.ntmps200
  go_upto_region 1 with (fail)
  generalize (w.alloc (.cells #[.int .i64 ba, .int .i64 bb, .int .i64 bc] 62)).alloc (.cells #[.int .i64 0, .int .i64 0, .int .i64 0] 62) = w0 at *
  by_cases h1 : bc = 1
  · subst h1
    by_cases h2 : x = 0
    · subst h2
      by_cases h3 : y = 0
      · subst h3
        obtain ⟨⟨s0, s1, s2⟩, ⟨f0, f1, f2⟩, _, _⟩ := HT0.out.s.c
        obtain ⟨⟨r0, r1, r2⟩, ⟨g0, g1, g2⟩, _, _⟩ := HT0.out.r.c
        have HT1 := Lib.hid (HT0.out.fillS HNE.out (.int .i64 0) (.int .i64 0) (.int .i64 0))
        go_upto_region 3 with (fail)
        generalize (((w0.setCell ⟨w.heap.size, 0, none⟩ (.int .i64 0)).setCell ⟨w.heap.size, 1, none⟩ (.int .i64 0)).setCell ⟨w.heap.size, 2, none⟩ (.int .i64 0)) = w1 at *
        clear s0 s1 s2 f0 f1 f2 r0 r1 r2 g0 g1 g2
        obtain ⟨⟨s0, s1, s2⟩, ⟨f0, f1, f2⟩, _, _⟩ := HT1.out.s.c
        obtain ⟨⟨r0, r1, r2⟩, ⟨g0, g1, g2⟩, _, _⟩ := HT1.out.r.c
        have HT2 := Lib.hid (HT1.out.fillS HNE.out (.int .i64 0) (.int .i64 0) (.int .i64 0))
        go_upto_region 7 with (fail)
        generalize (((w1.setCell ⟨w.heap.size, 0, none⟩ (.int .i64 0)).setCell ⟨w.heap.size, 1, none⟩ (.int .i64 0)).setCell ⟨w.heap.size, 2, none⟩ (.int .i64 0)) = w2 at *
        clear s0 s1 s2 f0 f1 f2 r0 r1 r2 g0 g1 g2
        obtain ⟨⟨s0, s1, s2⟩, ⟨f0, f1, f2⟩, _, _⟩ := HT2.out.s.c
        obtain ⟨⟨r0, r1, r2⟩, ⟨g0, g1, g2⟩, _, _⟩ := HT2.out.r.c
        have TF := Lib.hid (HT2.out.fillR HNE.out (.int .i64 0) (.int .i64 0) (.int .i64 0))
        refine wp_region_heldE 14 (S := (fun w' => (w'.cell? ⟨w.heap.size, 0, none⟩ = some (.int .i64 0) ∧ w'.cell? ⟨w.heap.size, 1, none⟩ = some (.int .i64 0)) ∧ w'.cell? ⟨w.heap.size, 2, none⟩ = some (.int .i64 0))) (by kernel_rfl) ?_ (fun hHeld => ?_)
        · exact ⟨⟨s0, s1⟩, s2⟩
        refine rgE_take (v := ?_) 0 16 rfl (by kernel_rfl) (by kernel_rfl) (by kernel_rfl) (by kernel_rfl) (by kernel_rfl) (fun _ _ _ h => h) (by kernel_rfl) ?_ (by assumption) ?_
        rotate_left
        · (intro w' hSw; (try dsimp only at hSw); go_simp; first | done | with_reducible rfl)
        simp only [Act.put, List.setIfInBounds_toArray, List.set_cons_zero, List.set_cons_succ]
        refine rgE_take (v := ?_) 1 16 rfl (by kernel_rfl) (by kernel_rfl) (by kernel_rfl) (by kernel_rfl) (by kernel_rfl) (fun _ _ _ h => h) (by kernel_rfl) ?_ (by assumption) ?_
        rotate_left
        · (intro w' hSw; (try dsimp only at hSw); go_simp; first | done | with_reducible rfl)
        simp only [Act.put, List.setIfInBounds_toArray, List.set_cons_zero, List.set_cons_succ]
        refine rgE_take (v := ?_) 2 16 rfl (by kernel_rfl) (by kernel_rfl) (by kernel_rfl) (by kernel_rfl) (by kernel_rfl) (fun _ _ _ h => h) (by kernel_rfl) ?_ (by assumption) ?_
        rotate_left
        · (intro w' hSw; (try dsimp only at hSw); go_simp; first | done | with_reducible rfl)
        simp only [Act.put, List.setIfInBounds_toArray, List.set_cons_zero, List.set_cons_succ]
        refine rgE_skip 3 16 rfl (by kernel_rfl) (by kernel_rfl) (by kernel_rfl) (by kernel_rfl) (by kernel_rfl) (fun _ _ _ h => h) (by kernel_rfl) (by assumption) ?_
        simp only [Act.put, List.setIfInBounds_toArray, List.set_cons_zero, List.set_cons_succ]
        refine rgE_skip 4 16 rfl (by kernel_rfl) (by kernel_rfl) (by kernel_rfl) (by kernel_rfl) (by kernel_rfl) (fun _ _ _ h => h) (by kernel_rfl) (by assumption) ?_
        simp only [Act.put, List.setIfInBounds_toArray, List.set_cons_zero, List.set_cons_succ]
        refine rgE_take (v := ?_) 5 16 rfl (by kernel_rfl) (by kernel_rfl) (by kernel_rfl) (by kernel_rfl) (by kernel_rfl) (fun _ _ _ h => h) (by kernel_rfl) ?_ (by assumption) ?_
        rotate_left
        · (intro w' hSw; (try dsimp only at hSw); go_simp; first | done | with_reducible rfl)
        simp only [Act.put, List.setIfInBounds_toArray, List.set_cons_zero, List.set_cons_succ]
        refine rgE_take (v := ?_) 6 16 rfl (by kernel_rfl) (by kernel_rfl) (by kernel_rfl) (by kernel_rfl) (by kernel_rfl) (fun _ _ _ h => h) (by kernel_rfl) ?_ (by assumption) ?_
        rotate_left
        · (intro w' hSw; (try dsimp only at hSw); go_simp; first | done | with_reducible rfl)
        simp only [Act.put, List.setIfInBounds_toArray, List.set_cons_zero, List.set_cons_succ]
        refine rgE_skip 7 16 rfl (by kernel_rfl) (by kernel_rfl) (by kernel_rfl) (by kernel_rfl) (by kernel_rfl) (fun _ _ _ h => h) (by kernel_rfl) (by assumption) ?_
        simp only [Act.put, List.setIfInBounds_toArray, List.set_cons_zero, List.set_cons_succ]
        refine rgE_skip 8 16 rfl (by kernel_rfl) (by kernel_rfl) (by kernel_rfl) (by kernel_rfl) (by kernel_rfl) (fun _ _ _ h => h) (by kernel_rfl) (by assumption) ?_
        simp only [Act.put, List.setIfInBounds_toArray, List.set_cons_zero, List.set_cons_succ]
        refine rgE_skip 9 16 rfl (by kernel_rfl) (by kernel_rfl) (by kernel_rfl) (by kernel_rfl) (by kernel_rfl) (fun _ _ _ h => h) (by kernel_rfl) (by assumption) ?_
        simp only [Act.put, List.setIfInBounds_toArray, List.set_cons_zero, List.set_cons_succ]
        refine rgE_take (v := ?_) 10 16 rfl (by kernel_rfl) (by kernel_rfl) (by kernel_rfl) (by kernel_rfl) (by kernel_rfl) (fun _ _ _ h => h) (by kernel_rfl) ?_ (by assumption) ?_
        rotate_left
        · (intro w' hSw; (try dsimp only at hSw); go_simp; first | done | with_reducible rfl)
        simp only [Act.put, List.setIfInBounds_toArray, List.set_cons_zero, List.set_cons_succ]
        refine rgE_take (v := ?_) 12 16 rfl (by kernel_rfl) (by kernel_rfl) (by kernel_rfl) (by kernel_rfl) (by kernel_rfl) (fun _ _ _ h => h) (by kernel_rfl) ?_ (by assumption) ?_
        rotate_left
        · (intro w' hSw; (try dsimp only at hSw); go_simp; first | done | with_reducible rfl)
        simp only [Act.put, List.setIfInBounds_toArray, List.set_cons_zero, List.set_cons_succ]
        refine rgE_run 11 rfl (by kernel_rfl) (by kernel_rfl) (by decide) (fun K hK => ?_)
        go_simp
        refine (c_l15Bit _ _).mono ?_
        rintro e w' ⟨z, rfl, rfl⟩
        go_wp2
        clear hHeld
        refine hK.out _ _ (.inr (by exact ⟨⟨s0, s1⟩, s2⟩)) (fun hHeld => ?_)
        clear hK K
        try simp only [Act.put, List.setIfInBounds_toArray, List.set_cons_zero, List.set_cons_succ]
        refine rgE_take (v := ?_) 13 16 rfl (by kernel_rfl) (by kernel_rfl) (by kernel_rfl) (by kernel_rfl) (by kernel_rfl) (fun _ _ _ h => h) (by kernel_rfl) ?_ (by assumption) ?_
        rotate_left
        · (intro w' hSw; (try dsimp only at hSw); go_simp; first | done | with_reducible rfl)
        simp only [Act.put, List.setIfInBounds_toArray, List.set_cons_zero, List.set_cons_succ]
        refine rgE_last rfl (by kernel_rfl) (by kernel_rfl) (by kernel_rfl) (fun K hK => ?_)
        go_simp
        clear hHeld
        refine hK.out _ _ ?_
        clear hK K
        try simp only [Act.put, List.setIfInBounds_toArray, List.set_cons_zero, List.set_cons_succ]
        have TF' := TF.out.drew
        clear TF
        go_wp2_with (fail)
        generalize (((w2.drew.setCell ⟨(w.heap.size + 1), 0, none⟩ (.int .i64 0)).setCell ⟨(w.heap.size + 1), 1, none⟩ (.int .i64 0)).setCell ⟨(w.heap.size + 1), 2, none⟩ (.int .i64 0)) = WF at *
        obtain ⟨⟨q0, q1, q2⟩, _, _, _⟩ := TF'.r.c
        clear s0 s1 s2 f0 f1 f2 r0 r1 r2 g0 g1 g2
        refine bodyPost_ret (v := .tuple #[.int .i64 z, .agg #[(.int .i64 0), (.int .i64 0), (.int .i64 0)]]) (by simp [results, Tryz.results200, go_sem, q0, q1, q2]) rfl ⟨z, _, _, _, rfl, TF'.b⟩
      · have e3 : (y == 0) = false := by simpa using h3
        obtain ⟨⟨s0, s1, s2⟩, ⟨f0, f1, f2⟩, _, _⟩ := HT0.out.s.c
        obtain ⟨⟨r0, r1, r2⟩, ⟨g0, g1, g2⟩, _, _⟩ := HT0.out.r.c
        go_upto_region 7 with (fail)
        clear s0 s1 s2 f0 f1 f2 r0 r1 r2 g0 g1 g2
        obtain ⟨⟨s0, s1, s2⟩, ⟨f0, f1, f2⟩, _, _⟩ := HT0.out.s.c
        obtain ⟨⟨r0, r1, r2⟩, ⟨g0, g1, g2⟩, _, _⟩ := HT0.out.r.c
        have TF := Lib.hid (HT0.out.fillR HNE.out (.int .i64 ba) (.int .i64 bb) (.int .i64 1))
        refine wp_region_heldE 14 (S := (fun w' => (w'.cell? ⟨w.heap.size, 0, none⟩ = some (.int .i64 ba) ∧ w'.cell? ⟨w.heap.size, 1, none⟩ = some (.int .i64 bb)) ∧ w'.cell? ⟨w.heap.size, 2, none⟩ = some (.int .i64 1))) (by kernel_rfl) ?_ (fun hHeld => ?_)
        · exact ⟨⟨s0, s1⟩, s2⟩
        refine rgE_take (v := ?_) 0 16 rfl (by kernel_rfl) (by kernel_rfl) (by kernel_rfl) (by kernel_rfl) (by kernel_rfl) (fun _ _ _ h => h) (by kernel_rfl) ?_ (by assumption) ?_
        rotate_left
        · (intro w' hSw; (try dsimp only at hSw); go_simp; first | done | with_reducible rfl)
        simp only [Act.put, List.setIfInBounds_toArray, List.set_cons_zero, List.set_cons_succ]
        refine rgE_take (v := ?_) 1 16 rfl (by kernel_rfl) (by kernel_rfl) (by kernel_rfl) (by kernel_rfl) (by kernel_rfl) (fun _ _ _ h => h) (by kernel_rfl) ?_ (by assumption) ?_
        rotate_left
        · (intro w' hSw; (try dsimp only at hSw); go_simp; first | done | with_reducible rfl)
        simp only [Act.put, List.setIfInBounds_toArray, List.set_cons_zero, List.set_cons_succ]
        refine rgE_take (v := ?_) 2 16 rfl (by kernel_rfl) (by kernel_rfl) (by kernel_rfl) (by kernel_rfl) (by kernel_rfl) (fun _ _ _ h => h) (by kernel_rfl) ?_ (by assumption) ?_
        rotate_left
        · (intro w' hSw; (try dsimp only at hSw); go_simp; first | done | with_reducible rfl)
        simp only [Act.put, List.setIfInBounds_toArray, List.set_cons_zero, List.set_cons_succ]
        refine rgE_skip 3 16 rfl (by kernel_rfl) (by kernel_rfl) (by kernel_rfl) (by kernel_rfl) (by kernel_rfl) (fun _ _ _ h => h) (by kernel_rfl) (by assumption) ?_
        simp only [Act.put, List.setIfInBounds_toArray, List.set_cons_zero, List.set_cons_succ]
        refine rgE_skip 4 16 rfl (by kernel_rfl) (by kernel_rfl) (by kernel_rfl) (by kernel_rfl) (by kernel_rfl) (fun _ _ _ h => h) (by kernel_rfl) (by assumption) ?_
        simp only [Act.put, List.setIfInBounds_toArray, List.set_cons_zero, List.set_cons_succ]
        refine rgE_take (v := ?_) 5 16 rfl (by kernel_rfl) (by kernel_rfl) (by kernel_rfl) (by kernel_rfl) (by kernel_rfl) (fun _ _ _ h => h) (by kernel_rfl) ?_ (by assumption) ?_
        rotate_left
        · (intro w' hSw; (try dsimp only at hSw); go_simp; first | done | with_reducible rfl)
        simp only [Act.put, List.setIfInBounds_toArray, List.set_cons_zero, List.set_cons_succ]
        refine rgE_take (v := ?_) 6 16 rfl (by kernel_rfl) (by kernel_rfl) (by kernel_rfl) (by kernel_rfl) (by kernel_rfl) (fun _ _ _ h => h) (by kernel_rfl) ?_ (by assumption) ?_
        rotate_left
        · (intro w' hSw; (try dsimp only at hSw); go_simp; first | done | with_reducible rfl)
        simp only [Act.put, List.setIfInBounds_toArray, List.set_cons_zero, List.set_cons_succ]
        refine rgE_skip 7 16 rfl (by kernel_rfl) (by kernel_rfl) (by kernel_rfl) (by kernel_rfl) (by kernel_rfl) (fun _ _ _ h => h) (by kernel_rfl) (by assumption) ?_
        simp only [Act.put, List.setIfInBounds_toArray, List.set_cons_zero, List.set_cons_succ]
        refine rgE_skip 8 16 rfl (by kernel_rfl) (by kernel_rfl) (by kernel_rfl) (by kernel_rfl) (by kernel_rfl) (fun _ _ _ h => h) (by kernel_rfl) (by assumption) ?_
        simp only [Act.put, List.setIfInBounds_toArray, List.set_cons_zero, List.set_cons_succ]
        refine rgE_skip 9 16 rfl (by kernel_rfl) (by kernel_rfl) (by kernel_rfl) (by kernel_rfl) (by kernel_rfl) (fun _ _ _ h => h) (by kernel_rfl) (by assumption) ?_
        simp only [Act.put, List.setIfInBounds_toArray, List.set_cons_zero, List.set_cons_succ]
        refine rgE_take (v := ?_) 10 16 rfl (by kernel_rfl) (by kernel_rfl) (by kernel_rfl) (by kernel_rfl) (by kernel_rfl) (fun _ _ _ h => h) (by kernel_rfl) ?_ (by assumption) ?_
        rotate_left
        · (intro w' hSw; (try dsimp only at hSw); go_simp; first | done | with_reducible rfl)
        simp only [Act.put, List.setIfInBounds_toArray, List.set_cons_zero, List.set_cons_succ]
        refine rgE_take (v := ?_) 12 16 rfl (by kernel_rfl) (by kernel_rfl) (by kernel_rfl) (by kernel_rfl) (by kernel_rfl) (fun _ _ _ h => h) (by kernel_rfl) ?_ (by assumption) ?_
        rotate_left
        · (intro w' hSw; (try dsimp only at hSw); go_simp; first | done | with_reducible rfl)
        simp only [Act.put, List.setIfInBounds_toArray, List.set_cons_zero, List.set_cons_succ]
        refine rgE_run 11 rfl (by kernel_rfl) (by kernel_rfl) (by decide) (fun K hK => ?_)
        go_simp
        refine (c_l15Bit _ _).mono ?_
        rintro e w' ⟨z, rfl, rfl⟩
        go_wp2
        clear hHeld
        refine hK.out _ _ (.inr (by exact ⟨⟨s0, s1⟩, s2⟩)) (fun hHeld => ?_)
        clear hK K
        try simp only [Act.put, List.setIfInBounds_toArray, List.set_cons_zero, List.set_cons_succ]
        refine rgE_take (v := ?_) 13 16 rfl (by kernel_rfl) (by kernel_rfl) (by kernel_rfl) (by kernel_rfl) (by kernel_rfl) (fun _ _ _ h => h) (by kernel_rfl) ?_ (by assumption) ?_
        rotate_left
        · (intro w' hSw; (try dsimp only at hSw); go_simp; first | done | with_reducible rfl)
        simp only [Act.put, List.setIfInBounds_toArray, List.set_cons_zero, List.set_cons_succ]
        refine rgE_last rfl (by kernel_rfl) (by kernel_rfl) (by kernel_rfl) (fun K hK => ?_)
        go_simp
        clear hHeld
        refine hK.out _ _ ?_
        clear hK K
        try simp only [Act.put, List.setIfInBounds_toArray, List.set_cons_zero, List.set_cons_succ]
        have TF' := TF.out.drew
        clear TF
        go_wp2_with (fail)
        generalize (((w0.drew.setCell ⟨(w.heap.size + 1), 0, none⟩ (.int .i64 ba)).setCell ⟨(w.heap.size + 1), 1, none⟩ (.int .i64 bb)).setCell ⟨(w.heap.size + 1), 2, none⟩ (.int .i64 1)) = WF at *
        obtain ⟨⟨q0, q1, q2⟩, _, _, _⟩ := TF'.r.c
        clear s0 s1 s2 f0 f1 f2 r0 r1 r2 g0 g1 g2
        refine bodyPost_ret (v := .tuple #[.int .i64 z, .agg #[(.int .i64 ba), (.int .i64 bb), (.int .i64 1)]]) (by simp [results, Tryz.results200, go_sem, q0, q1, q2]) rfl ⟨z, _, _, _, rfl, TF'.b⟩
    · have e2 : (x == 0) = false := by simpa using h2
      obtain ⟨⟨s0, s1, s2⟩, ⟨f0, f1, f2⟩, _, _⟩ := HT0.out.s.c
      obtain ⟨⟨r0, r1, r2⟩, ⟨g0, g1, g2⟩, _, _⟩ := HT0.out.r.c
      go_upto_region 7 with (fail)
      clear s0 s1 s2 f0 f1 f2 r0 r1 r2 g0 g1 g2
      by_cases hx1 : x = 1
      · subst hx1
        by_cases hy1 : y = 1
        · subst hy1
          obtain ⟨⟨s0, s1, s2⟩, ⟨f0, f1, f2⟩, _, _⟩ := HT0.out.s.c
          obtain ⟨⟨r0, r1, r2⟩, ⟨g0, g1, g2⟩, _, _⟩ := HT0.out.r.c
          have TF := Lib.hid (HT0.out.fillR HNE.out (.int .i64 ba) (.int .i64 bb) (.int .i64 1))
          refine wp_region_heldE 14 (S := (fun w' => (w'.cell? ⟨w.heap.size, 0, none⟩ = some (.int .i64 ba) ∧ w'.cell? ⟨w.heap.size, 1, none⟩ = some (.int .i64 bb)) ∧ w'.cell? ⟨w.heap.size, 2, none⟩ = some (.int .i64 1))) (by kernel_rfl) ?_ (fun hHeld => ?_)
          · exact ⟨⟨s0, s1⟩, s2⟩
          refine rgE_take (v := ?_) 0 16 rfl (by kernel_rfl) (by kernel_rfl) (by kernel_rfl) (by kernel_rfl) (by kernel_rfl) (fun _ _ _ h => h) (by kernel_rfl) ?_ (by assumption) ?_
          rotate_left
          · (intro w' hSw; (try dsimp only at hSw); go_simp; first | done | with_reducible rfl)
          simp only [Act.put, List.setIfInBounds_toArray, List.set_cons_zero, List.set_cons_succ]
          refine rgE_take (v := ?_) 1 16 rfl (by kernel_rfl) (by kernel_rfl) (by kernel_rfl) (by kernel_rfl) (by kernel_rfl) (fun _ _ _ h => h) (by kernel_rfl) ?_ (by assumption) ?_
          rotate_left
          · (intro w' hSw; (try dsimp only at hSw); go_simp; first | done | with_reducible rfl)
          simp only [Act.put, List.setIfInBounds_toArray, List.set_cons_zero, List.set_cons_succ]
          refine rgE_take (v := ?_) 2 16 rfl (by kernel_rfl) (by kernel_rfl) (by kernel_rfl) (by kernel_rfl) (by kernel_rfl) (fun _ _ _ h => h) (by kernel_rfl) ?_ (by assumption) ?_
          rotate_left
          · (intro w' hSw; (try dsimp only at hSw); go_simp; first | done | with_reducible rfl)
          simp only [Act.put, List.setIfInBounds_toArray, List.set_cons_zero, List.set_cons_succ]
          refine rgE_take (v := ?_) 3 16 rfl (by kernel_rfl) (by kernel_rfl) (by kernel_rfl) (by kernel_rfl) (by kernel_rfl) (fun _ _ _ h => h) (by kernel_rfl) ?_ (by assumption) ?_
          rotate_left
          · (intro w' hSw; (try dsimp only at hSw); go_simp; first | done | with_reducible rfl)
          simp only [Act.put, List.setIfInBounds_toArray, List.set_cons_zero, List.set_cons_succ]
          refine rgE_take (v := ?_) 4 16 rfl (by kernel_rfl) (by kernel_rfl) (by kernel_rfl) (by kernel_rfl) (by kernel_rfl) (fun _ _ _ h => h) (by kernel_rfl) ?_ (by assumption) ?_
          rotate_left
          · (intro w' hSw; (try dsimp only at hSw); go_simp; first | done | with_reducible rfl)
          simp only [Act.put, List.setIfInBounds_toArray, List.set_cons_zero, List.set_cons_succ]
          refine rgE_take (v := ?_) 5 16 rfl (by kernel_rfl) (by kernel_rfl) (by kernel_rfl) (by kernel_rfl) (by kernel_rfl) (fun _ _ _ h => h) (by kernel_rfl) ?_ (by assumption) ?_
          rotate_left
          · (intro w' hSw; (try dsimp only at hSw); go_simp; first | done | with_reducible rfl)
          simp only [Act.put, List.setIfInBounds_toArray, List.set_cons_zero, List.set_cons_succ]
          refine rgE_take (v := ?_) 6 16 rfl (by kernel_rfl) (by kernel_rfl) (by kernel_rfl) (by kernel_rfl) (by kernel_rfl) (fun _ _ _ h => h) (by kernel_rfl) ?_ (by assumption) ?_
          rotate_left
          · (intro w' hSw; (try dsimp only at hSw); go_simp; first | done | with_reducible rfl)
          simp only [Act.put, List.setIfInBounds_toArray, List.set_cons_zero, List.set_cons_succ]
          refine rgE_take (v := ?_) 7 16 rfl (by kernel_rfl) (by kernel_rfl) (by kernel_rfl) (by kernel_rfl) (by kernel_rfl) (fun _ _ _ h => h) (by kernel_rfl) ?_ (by assumption) ?_
          rotate_left
          · (intro w' hSw; (try dsimp only at hSw); go_simp; first | done | with_reducible rfl)
          simp only [Act.put, List.setIfInBounds_toArray, List.set_cons_zero, List.set_cons_succ]
          refine rgE_take (v := ?_) 8 16 rfl (by kernel_rfl) (by kernel_rfl) (by kernel_rfl) (by kernel_rfl) (by kernel_rfl) (fun _ _ _ h => h) (by kernel_rfl) ?_ (by assumption) ?_
          rotate_left
          · (intro w' hSw; (try dsimp only at hSw); go_simp; first | done | with_reducible rfl)
          simp only [Act.put, List.setIfInBounds_toArray, List.set_cons_zero, List.set_cons_succ]
          refine rgE_take (v := ?_) 9 16 rfl (by kernel_rfl) (by kernel_rfl) (by kernel_rfl) (by kernel_rfl) (by kernel_rfl) (fun _ _ _ h => h) (by kernel_rfl) ?_ (by assumption) ?_
          rotate_left
          · (intro w' hSw; (try dsimp only at hSw); go_simp; first | done | with_reducible rfl)
          simp only [Act.put, List.setIfInBounds_toArray, List.set_cons_zero, List.set_cons_succ]
          refine rgE_take (v := ?_) 10 16 rfl (by kernel_rfl) (by kernel_rfl) (by kernel_rfl) (by kernel_rfl) (by kernel_rfl) (fun _ _ _ h => h) (by kernel_rfl) ?_ (by assumption) ?_
          rotate_left
          · (intro w' hSw; (try dsimp only at hSw); go_simp; first | done | with_reducible rfl)
          simp only [Act.put, List.setIfInBounds_toArray, List.set_cons_zero, List.set_cons_succ]
          refine rgE_take (v := ?_) 12 16 rfl (by kernel_rfl) (by kernel_rfl) (by kernel_rfl) (by kernel_rfl) (by kernel_rfl) (fun _ _ _ h => h) (by kernel_rfl) ?_ (by assumption) ?_
          rotate_left
          · (intro w' hSw; (try dsimp only at hSw); go_simp; first | done | with_reducible rfl)
          simp only [Act.put, List.setIfInBounds_toArray, List.set_cons_zero, List.set_cons_succ]
          refine rgE_run 11 rfl (by kernel_rfl) (by kernel_rfl) (by decide) (fun K hK => ?_)
          go_simp
          refine (c_l15Bit _ _).mono ?_
          rintro e w' ⟨z, rfl, rfl⟩
          go_wp2
          clear hHeld
          refine hK.out _ _ (.inr (by exact ⟨⟨s0, s1⟩, s2⟩)) (fun hHeld => ?_)
          clear hK K
          try simp only [Act.put, List.setIfInBounds_toArray, List.set_cons_zero, List.set_cons_succ]
          refine rgE_take (v := ?_) 13 16 rfl (by kernel_rfl) (by kernel_rfl) (by kernel_rfl) (by kernel_rfl) (by kernel_rfl) (fun _ _ _ h => h) (by kernel_rfl) ?_ (by assumption) ?_
          rotate_left
          · (intro w' hSw; (try dsimp only at hSw); go_simp; first | done | with_reducible rfl)
          simp only [Act.put, List.setIfInBounds_toArray, List.set_cons_zero, List.set_cons_succ]
          refine rgE_last rfl (by kernel_rfl) (by kernel_rfl) (by kernel_rfl) (fun K hK => ?_)
          go_simp
          clear hHeld
          refine hK.out _ _ ?_
          clear hK K
          try simp only [Act.put, List.setIfInBounds_toArray, List.set_cons_zero, List.set_cons_succ]
          have TF' := TF.out.drew
          clear TF
          go_wp2_with (fail)
          generalize (((w0.drew.setCell ⟨(w.heap.size + 1), 0, none⟩ (.int .i64 ba)).setCell ⟨(w.heap.size + 1), 1, none⟩ (.int .i64 bb)).setCell ⟨(w.heap.size + 1), 2, none⟩ (.int .i64 1)) = WF at *
          obtain ⟨⟨q0, q1, q2⟩, _, _, _⟩ := TF'.r.c
          clear s0 s1 s2 f0 f1 f2 r0 r1 r2 g0 g1 g2
          refine bodyPost_ret (v := .tuple #[.int .i64 z, .agg #[(.int .i64 ba), (.int .i64 bb), (.int .i64 1)]]) (by simp [results, Tryz.results200, go_sem, q0, q1, q2]) rfl ⟨z, _, _, _, rfl, TF'.b⟩
        · have ey : (y == 1) = false := by simpa using hy1
          obtain ⟨⟨s0, s1, s2⟩, ⟨f0, f1, f2⟩, _, _⟩ := HT0.out.s.c
          obtain ⟨⟨r0, r1, r2⟩, ⟨g0, g1, g2⟩, _, _⟩ := HT0.out.r.c
          have TF := Lib.hid (HT0.out.fillR HNE.out (.int .i64 ba) (.int .i64 bb) (.int .i64 1))
          refine wp_region_heldE 14 (S := (fun w' => (w'.cell? ⟨w.heap.size, 0, none⟩ = some (.int .i64 ba) ∧ w'.cell? ⟨w.heap.size, 1, none⟩ = some (.int .i64 bb)) ∧ w'.cell? ⟨w.heap.size, 2, none⟩ = some (.int .i64 1))) (by kernel_rfl) ?_ (fun hHeld => ?_)
          · exact ⟨⟨s0, s1⟩, s2⟩
          refine rgE_take (v := ?_) 0 16 rfl (by kernel_rfl) (by kernel_rfl) (by kernel_rfl) (by kernel_rfl) (by kernel_rfl) (fun _ _ _ h => h) (by kernel_rfl) ?_ (by assumption) ?_
          rotate_left
          · (intro w' hSw; (try dsimp only at hSw); go_simp; first | done | with_reducible rfl)
          simp only [Act.put, List.setIfInBounds_toArray, List.set_cons_zero, List.set_cons_succ]
          refine rgE_take (v := ?_) 1 16 rfl (by kernel_rfl) (by kernel_rfl) (by kernel_rfl) (by kernel_rfl) (by kernel_rfl) (fun _ _ _ h => h) (by kernel_rfl) ?_ (by assumption) ?_
          rotate_left
          · (intro w' hSw; (try dsimp only at hSw); go_simp; first | done | with_reducible rfl)
          simp only [Act.put, List.setIfInBounds_toArray, List.set_cons_zero, List.set_cons_succ]
          refine rgE_take (v := ?_) 2 16 rfl (by kernel_rfl) (by kernel_rfl) (by kernel_rfl) (by kernel_rfl) (by kernel_rfl) (fun _ _ _ h => h) (by kernel_rfl) ?_ (by assumption) ?_
          rotate_left
          · (intro w' hSw; (try dsimp only at hSw); go_simp; first | done | with_reducible rfl)
          simp only [Act.put, List.setIfInBounds_toArray, List.set_cons_zero, List.set_cons_succ]
          refine rgE_take (v := ?_) 3 16 rfl (by kernel_rfl) (by kernel_rfl) (by kernel_rfl) (by kernel_rfl) (by kernel_rfl) (fun _ _ _ h => h) (by kernel_rfl) ?_ (by assumption) ?_
          rotate_left
          · (intro w' hSw; (try dsimp only at hSw); go_simp; first | done | with_reducible rfl)
          simp only [Act.put, List.setIfInBounds_toArray, List.set_cons_zero, List.set_cons_succ]
          refine rgE_take (v := ?_) 4 16 rfl (by kernel_rfl) (by kernel_rfl) (by kernel_rfl) (by kernel_rfl) (by kernel_rfl) (fun _ _ _ h => h) (by kernel_rfl) ?_ (by assumption) ?_
          rotate_left
          · (intro w' hSw; (try dsimp only at hSw); go_simp; first | done | with_reducible rfl)
          simp only [Act.put, List.setIfInBounds_toArray, List.set_cons_zero, List.set_cons_succ]
          refine rgE_take (v := ?_) 5 16 rfl (by kernel_rfl) (by kernel_rfl) (by kernel_rfl) (by kernel_rfl) (by kernel_rfl) (fun _ _ _ h => h) (by kernel_rfl) ?_ (by assumption) ?_
          rotate_left
          · (intro w' hSw; (try dsimp only at hSw); go_simp; first | done | with_reducible rfl)
          simp only [Act.put, List.setIfInBounds_toArray, List.set_cons_zero, List.set_cons_succ]
          refine rgE_take (v := ?_) 6 16 rfl (by kernel_rfl) (by kernel_rfl) (by kernel_rfl) (by kernel_rfl) (by kernel_rfl) (fun _ _ _ h => h) (by kernel_rfl) ?_ (by assumption) ?_
          rotate_left
          · (intro w' hSw; (try dsimp only at hSw); go_simp; first | done | with_reducible rfl)
          simp only [Act.put, List.setIfInBounds_toArray, List.set_cons_zero, List.set_cons_succ]
          refine rgE_skip 7 16 rfl (by kernel_rfl) (by kernel_rfl) (by kernel_rfl) (by kernel_rfl) (by kernel_rfl) (fun _ _ _ h => h) (by kernel_rfl) (by assumption) ?_
          simp only [Act.put, List.setIfInBounds_toArray, List.set_cons_zero, List.set_cons_succ]
          refine rgE_skip 8 16 rfl (by kernel_rfl) (by kernel_rfl) (by kernel_rfl) (by kernel_rfl) (by kernel_rfl) (fun _ _ _ h => h) (by kernel_rfl) (by assumption) ?_
          simp only [Act.put, List.setIfInBounds_toArray, List.set_cons_zero, List.set_cons_succ]
          refine rgE_skip 9 16 rfl (by kernel_rfl) (by kernel_rfl) (by kernel_rfl) (by kernel_rfl) (by kernel_rfl) (fun _ _ _ h => h) (by kernel_rfl) (by assumption) ?_
          simp only [Act.put, List.setIfInBounds_toArray, List.set_cons_zero, List.set_cons_succ]
          refine rgE_take (v := ?_) 10 16 rfl (by kernel_rfl) (by kernel_rfl) (by kernel_rfl) (by kernel_rfl) (by kernel_rfl) (fun _ _ _ h => h) (by kernel_rfl) ?_ (by assumption) ?_
          rotate_left
          · (intro w' hSw; (try dsimp only at hSw); go_simp; first | done | with_reducible rfl)
          simp only [Act.put, List.setIfInBounds_toArray, List.set_cons_zero, List.set_cons_succ]
          refine rgE_take (v := ?_) 12 16 rfl (by kernel_rfl) (by kernel_rfl) (by kernel_rfl) (by kernel_rfl) (by kernel_rfl) (fun _ _ _ h => h) (by kernel_rfl) ?_ (by assumption) ?_
          rotate_left
          · (intro w' hSw; (try dsimp only at hSw); go_simp; first | done | with_reducible rfl)
          simp only [Act.put, List.setIfInBounds_toArray, List.set_cons_zero, List.set_cons_succ]
          refine rgE_run 11 rfl (by kernel_rfl) (by kernel_rfl) (by decide) (fun K hK => ?_)
          go_simp
          refine (c_l15Bit _ _).mono ?_
          rintro e w' ⟨z, rfl, rfl⟩
          go_wp2
          clear hHeld
          refine hK.out _ _ (.inr (by exact ⟨⟨s0, s1⟩, s2⟩)) (fun hHeld => ?_)
          clear hK K
          try simp only [Act.put, List.setIfInBounds_toArray, List.set_cons_zero, List.set_cons_succ]
          refine rgE_take (v := ?_) 13 16 rfl (by kernel_rfl) (by kernel_rfl) (by kernel_rfl) (by kernel_rfl) (by kernel_rfl) (fun _ _ _ h => h) (by kernel_rfl) ?_ (by assumption) ?_
          rotate_left
          · (intro w' hSw; (try dsimp only at hSw); go_simp; first | done | with_reducible rfl)
          simp only [Act.put, List.setIfInBounds_toArray, List.set_cons_zero, List.set_cons_succ]
          refine rgE_last rfl (by kernel_rfl) (by kernel_rfl) (by kernel_rfl) (fun K hK => ?_)
          go_simp
          clear hHeld
          refine hK.out _ _ ?_
          clear hK K
          try simp only [Act.put, List.setIfInBounds_toArray, List.set_cons_zero, List.set_cons_succ]
          have TF' := TF.out.drew
          clear TF
          go_wp2_with (fail)
          generalize (((w0.drew.setCell ⟨(w.heap.size + 1), 0, none⟩ (.int .i64 ba)).setCell ⟨(w.heap.size + 1), 1, none⟩ (.int .i64 bb)).setCell ⟨(w.heap.size + 1), 2, none⟩ (.int .i64 1)) = WF at *
          obtain ⟨⟨q0, q1, q2⟩, _, _, _⟩ := TF'.r.c
          clear s0 s1 s2 f0 f1 f2 r0 r1 r2 g0 g1 g2
          refine bodyPost_ret (v := .tuple #[.int .i64 z, .agg #[(.int .i64 ba), (.int .i64 bb), (.int .i64 1)]]) (by simp [results, Tryz.results200, go_sem, q0, q1, q2]) rfl ⟨z, _, _, _, rfl, TF'.b⟩
      · have ex : (x == 1) = false := by simpa using hx1
        obtain ⟨⟨s0, s1, s2⟩, ⟨f0, f1, f2⟩, _, _⟩ := HT0.out.s.c
        obtain ⟨⟨r0, r1, r2⟩, ⟨g0, g1, g2⟩, _, _⟩ := HT0.out.r.c
        have TF := Lib.hid (HT0.out.fillR HNE.out (.int .i64 ba) (.int .i64 bb) (.int .i64 1))
        refine wp_region_heldE 14 (S := (fun w' => (w'.cell? ⟨w.heap.size, 0, none⟩ = some (.int .i64 ba) ∧ w'.cell? ⟨w.heap.size, 1, none⟩ = some (.int .i64 bb)) ∧ w'.cell? ⟨w.heap.size, 2, none⟩ = some (.int .i64 1))) (by kernel_rfl) ?_ (fun hHeld => ?_)
        · exact ⟨⟨s0, s1⟩, s2⟩
        refine rgE_take (v := ?_) 0 16 rfl (by kernel_rfl) (by kernel_rfl) (by kernel_rfl) (by kernel_rfl) (by kernel_rfl) (fun _ _ _ h => h) (by kernel_rfl) ?_ (by assumption) ?_
        rotate_left
        · (intro w' hSw; (try dsimp only at hSw); go_simp; first | done | with_reducible rfl)
        simp only [Act.put, List.setIfInBounds_toArray, List.set_cons_zero, List.set_cons_succ]
        refine rgE_take (v := ?_) 1 16 rfl (by kernel_rfl) (by kernel_rfl) (by kernel_rfl) (by kernel_rfl) (by kernel_rfl) (fun _ _ _ h => h) (by kernel_rfl) ?_ (by assumption) ?_
        rotate_left
        · (intro w' hSw; (try dsimp only at hSw); go_simp; first | done | with_reducible rfl)
        simp only [Act.put, List.setIfInBounds_toArray, List.set_cons_zero, List.set_cons_succ]
        refine rgE_take (v := ?_) 2 16 rfl (by kernel_rfl) (by kernel_rfl) (by kernel_rfl) (by kernel_rfl) (by kernel_rfl) (fun _ _ _ h => h) (by kernel_rfl) ?_ (by assumption) ?_
        rotate_left
        · (intro w' hSw; (try dsimp only at hSw); go_simp; first | done | with_reducible rfl)
        simp only [Act.put, List.setIfInBounds_toArray, List.set_cons_zero, List.set_cons_succ]
        refine rgE_skip 3 16 rfl (by kernel_rfl) (by kernel_rfl) (by kernel_rfl) (by kernel_rfl) (by kernel_rfl) (fun _ _ _ h => h) (by kernel_rfl) (by assumption) ?_
        simp only [Act.put, List.setIfInBounds_toArray, List.set_cons_zero, List.set_cons_succ]
        refine rgE_skip 4 16 rfl (by kernel_rfl) (by kernel_rfl) (by kernel_rfl) (by kernel_rfl) (by kernel_rfl) (fun _ _ _ h => h) (by kernel_rfl) (by assumption) ?_
        simp only [Act.put, List.setIfInBounds_toArray, List.set_cons_zero, List.set_cons_succ]
        refine rgE_take (v := ?_) 5 16 rfl (by kernel_rfl) (by kernel_rfl) (by kernel_rfl) (by kernel_rfl) (by kernel_rfl) (fun _ _ _ h => h) (by kernel_rfl) ?_ (by assumption) ?_
        rotate_left
        · (intro w' hSw; (try dsimp only at hSw); go_simp; first | done | with_reducible rfl)
        simp only [Act.put, List.setIfInBounds_toArray, List.set_cons_zero, List.set_cons_succ]
        refine rgE_take (v := ?_) 6 16 rfl (by kernel_rfl) (by kernel_rfl) (by kernel_rfl) (by kernel_rfl) (by kernel_rfl) (fun _ _ _ h => h) (by kernel_rfl) ?_ (by assumption) ?_
        rotate_left
        · (intro w' hSw; (try dsimp only at hSw); go_simp; first | done | with_reducible rfl)
        simp only [Act.put, List.setIfInBounds_toArray, List.set_cons_zero, List.set_cons_succ]
        refine rgE_skip 7 16 rfl (by kernel_rfl) (by kernel_rfl) (by kernel_rfl) (by kernel_rfl) (by kernel_rfl) (fun _ _ _ h => h) (by kernel_rfl) (by assumption) ?_
        simp only [Act.put, List.setIfInBounds_toArray, List.set_cons_zero, List.set_cons_succ]
        refine rgE_skip 8 16 rfl (by kernel_rfl) (by kernel_rfl) (by kernel_rfl) (by kernel_rfl) (by kernel_rfl) (fun _ _ _ h => h) (by kernel_rfl) (by assumption) ?_
        simp only [Act.put, List.setIfInBounds_toArray, List.set_cons_zero, List.set_cons_succ]
        refine rgE_skip 9 16 rfl (by kernel_rfl) (by kernel_rfl) (by kernel_rfl) (by kernel_rfl) (by kernel_rfl) (fun _ _ _ h => h) (by kernel_rfl) (by assumption) ?_
        simp only [Act.put, List.setIfInBounds_toArray, List.set_cons_zero, List.set_cons_succ]
        refine rgE_take (v := ?_) 10 16 rfl (by kernel_rfl) (by kernel_rfl) (by kernel_rfl) (by kernel_rfl) (by kernel_rfl) (fun _ _ _ h => h) (by kernel_rfl) ?_ (by assumption) ?_
        rotate_left
        · (intro w' hSw; (try dsimp only at hSw); go_simp; first | done | with_reducible rfl)
        simp only [Act.put, List.setIfInBounds_toArray, List.set_cons_zero, List.set_cons_succ]
        refine rgE_take (v := ?_) 12 16 rfl (by kernel_rfl) (by kernel_rfl) (by kernel_rfl) (by kernel_rfl) (by kernel_rfl) (fun _ _ _ h => h) (by kernel_rfl) ?_ (by assumption) ?_
        rotate_left
        · (intro w' hSw; (try dsimp only at hSw); go_simp; first | done | with_reducible rfl)
        simp only [Act.put, List.setIfInBounds_toArray, List.set_cons_zero, List.set_cons_succ]
        refine rgE_run 11 rfl (by kernel_rfl) (by kernel_rfl) (by decide) (fun K hK => ?_)
        go_simp
        refine (c_l15Bit _ _).mono ?_
        rintro e w' ⟨z, rfl, rfl⟩
        go_wp2
        clear hHeld
        refine hK.out _ _ (.inr (by exact ⟨⟨s0, s1⟩, s2⟩)) (fun hHeld => ?_)
        clear hK K
        try simp only [Act.put, List.setIfInBounds_toArray, List.set_cons_zero, List.set_cons_succ]
        refine rgE_take (v := ?_) 13 16 rfl (by kernel_rfl) (by kernel_rfl) (by kernel_rfl) (by kernel_rfl) (by kernel_rfl) (fun _ _ _ h => h) (by kernel_rfl) ?_ (by assumption) ?_
        rotate_left
        · (intro w' hSw; (try dsimp only at hSw); go_simp; first | done | with_reducible rfl)
        simp only [Act.put, List.setIfInBounds_toArray, List.set_cons_zero, List.set_cons_succ]
        refine rgE_last rfl (by kernel_rfl) (by kernel_rfl) (by kernel_rfl) (fun K hK => ?_)
        go_simp
        clear hHeld
        refine hK.out _ _ ?_
        clear hK K
        try simp only [Act.put, List.setIfInBounds_toArray, List.set_cons_zero, List.set_cons_succ]
        have TF' := TF.out.drew
        clear TF
        go_wp2_with (fail)
        generalize (((w0.drew.setCell ⟨(w.heap.size + 1), 0, none⟩ (.int .i64 ba)).setCell ⟨(w.heap.size + 1), 1, none⟩ (.int .i64 bb)).setCell ⟨(w.heap.size + 1), 2, none⟩ (.int .i64 1)) = WF at *
        obtain ⟨⟨q0, q1, q2⟩, _, _, _⟩ := TF'.r.c
        clear s0 s1 s2 f0 f1 f2 r0 r1 r2 g0 g1 g2
        refine bodyPost_ret (v := .tuple #[.int .i64 z, .agg #[(.int .i64 ba), (.int .i64 bb), (.int .i64 1)]]) (by simp [results, Tryz.results200, go_sem, q0, q1, q2]) rfl ⟨z, _, _, _, rfl, TF'.b⟩
  have e1 : (bc == 1) = false := by simpa using h1
  by_cases h4 : bc = 0
  · subst h4
    by_cases h5 : x = y
    · subst h5
      obtain ⟨⟨s0, s1, s2⟩, ⟨f0, f1, f2⟩, _, _⟩ := HT0.out.s.c
      obtain ⟨⟨r0, r1, r2⟩, ⟨g0, g1, g2⟩, _, _⟩ := HT0.out.r.c
      have HT1 := Lib.hid (HT0.out.fillS HNE.out (.int .i64 0) (.int .i64 0) (.int .i64 0))
      go_upto_region 7 with (fail)
      generalize (((w0.setCell ⟨w.heap.size, 0, none⟩ (.int .i64 0)).setCell ⟨w.heap.size, 1, none⟩ (.int .i64 0)).setCell ⟨w.heap.size, 2, none⟩ (.int .i64 0)) = w1 at *
      clear s0 s1 s2 f0 f1 f2 r0 r1 r2 g0 g1 g2
      by_cases hx1 : x = 1
      · subst hx1
        obtain ⟨⟨s0, s1, s2⟩, ⟨f0, f1, f2⟩, _, _⟩ := HT1.out.s.c
        obtain ⟨⟨r0, r1, r2⟩, ⟨g0, g1, g2⟩, _, _⟩ := HT1.out.r.c
        have TF := Lib.hid (HT1.out.fillR HNE.out (.int .i64 0) (.int .i64 0) (.int .i64 0))
        refine wp_region_heldE 14 (S := (fun w' => (w'.cell? ⟨w.heap.size, 0, none⟩ = some (.int .i64 0) ∧ w'.cell? ⟨w.heap.size, 1, none⟩ = some (.int .i64 0)) ∧ w'.cell? ⟨w.heap.size, 2, none⟩ = some (.int .i64 0))) (by kernel_rfl) ?_ (fun hHeld => ?_)
        · exact ⟨⟨s0, s1⟩, s2⟩
        refine rgE_take (v := ?_) 0 16 rfl (by kernel_rfl) (by kernel_rfl) (by kernel_rfl) (by kernel_rfl) (by kernel_rfl) (fun _ _ _ h => h) (by kernel_rfl) ?_ (by assumption) ?_
        rotate_left
        · (intro w' hSw; (try dsimp only at hSw); go_simp; first | done | with_reducible rfl)
        simp only [Act.put, List.setIfInBounds_toArray, List.set_cons_zero, List.set_cons_succ]
        refine rgE_take (v := ?_) 1 16 rfl (by kernel_rfl) (by kernel_rfl) (by kernel_rfl) (by kernel_rfl) (by kernel_rfl) (fun _ _ _ h => h) (by kernel_rfl) ?_ (by assumption) ?_
        rotate_left
        · (intro w' hSw; (try dsimp only at hSw); go_simp; first | done | with_reducible rfl)
        simp only [Act.put, List.setIfInBounds_toArray, List.set_cons_zero, List.set_cons_succ]
        refine rgE_take (v := ?_) 2 16 rfl (by kernel_rfl) (by kernel_rfl) (by kernel_rfl) (by kernel_rfl) (by kernel_rfl) (fun _ _ _ h => h) (by kernel_rfl) ?_ (by assumption) ?_
        rotate_left
        · (intro w' hSw; (try dsimp only at hSw); go_simp; first | done | with_reducible rfl)
        simp only [Act.put, List.setIfInBounds_toArray, List.set_cons_zero, List.set_cons_succ]
        refine rgE_take (v := ?_) 3 16 rfl (by kernel_rfl) (by kernel_rfl) (by kernel_rfl) (by kernel_rfl) (by kernel_rfl) (fun _ _ _ h => h) (by kernel_rfl) ?_ (by assumption) ?_
        rotate_left
        · (intro w' hSw; (try dsimp only at hSw); go_simp; first | done | with_reducible rfl)
        simp only [Act.put, List.setIfInBounds_toArray, List.set_cons_zero, List.set_cons_succ]
        refine rgE_take (v := ?_) 4 16 rfl (by kernel_rfl) (by kernel_rfl) (by kernel_rfl) (by kernel_rfl) (by kernel_rfl) (fun _ _ _ h => h) (by kernel_rfl) ?_ (by assumption) ?_
        rotate_left
        · (intro w' hSw; (try dsimp only at hSw); go_simp; first | done | with_reducible rfl)
        simp only [Act.put, List.setIfInBounds_toArray, List.set_cons_zero, List.set_cons_succ]
        refine rgE_take (v := ?_) 5 16 rfl (by kernel_rfl) (by kernel_rfl) (by kernel_rfl) (by kernel_rfl) (by kernel_rfl) (fun _ _ _ h => h) (by kernel_rfl) ?_ (by assumption) ?_
        rotate_left
        · (intro w' hSw; (try dsimp only at hSw); go_simp; first | done | with_reducible rfl)
        simp only [Act.put, List.setIfInBounds_toArray, List.set_cons_zero, List.set_cons_succ]
        refine rgE_take (v := ?_) 6 16 rfl (by kernel_rfl) (by kernel_rfl) (by kernel_rfl) (by kernel_rfl) (by kernel_rfl) (fun _ _ _ h => h) (by kernel_rfl) ?_ (by assumption) ?_
        rotate_left
        · (intro w' hSw; (try dsimp only at hSw); go_simp; first | done | with_reducible rfl)
        simp only [Act.put, List.setIfInBounds_toArray, List.set_cons_zero, List.set_cons_succ]
        refine rgE_take (v := ?_) 7 16 rfl (by kernel_rfl) (by kernel_rfl) (by kernel_rfl) (by kernel_rfl) (by kernel_rfl) (fun _ _ _ h => h) (by kernel_rfl) ?_ (by assumption) ?_
        rotate_left
        · (intro w' hSw; (try dsimp only at hSw); go_simp; first | done | with_reducible rfl)
        simp only [Act.put, List.setIfInBounds_toArray, List.set_cons_zero, List.set_cons_succ]
        refine rgE_take (v := ?_) 8 16 rfl (by kernel_rfl) (by kernel_rfl) (by kernel_rfl) (by kernel_rfl) (by kernel_rfl) (fun _ _ _ h => h) (by kernel_rfl) ?_ (by assumption) ?_
        rotate_left
        · (intro w' hSw; (try dsimp only at hSw); go_simp; first | done | with_reducible rfl)
        simp only [Act.put, List.setIfInBounds_toArray, List.set_cons_zero, List.set_cons_succ]
        refine rgE_take (v := ?_) 9 16 rfl (by kernel_rfl) (by kernel_rfl) (by kernel_rfl) (by kernel_rfl) (by kernel_rfl) (fun _ _ _ h => h) (by kernel_rfl) ?_ (by assumption) ?_
        rotate_left
        · (intro w' hSw; (try dsimp only at hSw); go_simp; first | done | with_reducible rfl)
        simp only [Act.put, List.setIfInBounds_toArray, List.set_cons_zero, List.set_cons_succ]
        refine rgE_take (v := ?_) 10 16 rfl (by kernel_rfl) (by kernel_rfl) (by kernel_rfl) (by kernel_rfl) (by kernel_rfl) (fun _ _ _ h => h) (by kernel_rfl) ?_ (by assumption) ?_
        rotate_left
        · (intro w' hSw; (try dsimp only at hSw); go_simp; first | done | with_reducible rfl)
        simp only [Act.put, List.setIfInBounds_toArray, List.set_cons_zero, List.set_cons_succ]
        refine rgE_take (v := ?_) 12 16 rfl (by kernel_rfl) (by kernel_rfl) (by kernel_rfl) (by kernel_rfl) (by kernel_rfl) (fun _ _ _ h => h) (by kernel_rfl) ?_ (by assumption) ?_
        rotate_left
        · (intro w' hSw; (try dsimp only at hSw); go_simp; first | done | with_reducible rfl)
        simp only [Act.put, List.setIfInBounds_toArray, List.set_cons_zero, List.set_cons_succ]
        refine rgE_run 11 rfl (by kernel_rfl) (by kernel_rfl) (by decide) (fun K hK => ?_)
        go_simp
        refine (c_l15Bit _ _).mono ?_
        rintro e w' ⟨z, rfl, rfl⟩
        go_wp2
        clear hHeld
        refine hK.out _ _ (.inr (by exact ⟨⟨s0, s1⟩, s2⟩)) (fun hHeld => ?_)
        clear hK K
        try simp only [Act.put, List.setIfInBounds_toArray, List.set_cons_zero, List.set_cons_succ]
        refine rgE_take (v := ?_) 13 16 rfl (by kernel_rfl) (by kernel_rfl) (by kernel_rfl) (by kernel_rfl) (by kernel_rfl) (fun _ _ _ h => h) (by kernel_rfl) ?_ (by assumption) ?_
        rotate_left
        · (intro w' hSw; (try dsimp only at hSw); go_simp; first | done | with_reducible rfl)
        simp only [Act.put, List.setIfInBounds_toArray, List.set_cons_zero, List.set_cons_succ]
        refine rgE_last rfl (by kernel_rfl) (by kernel_rfl) (by kernel_rfl) (fun K hK => ?_)
        go_simp
        clear hHeld
        refine hK.out _ _ ?_
        clear hK K
        try simp only [Act.put, List.setIfInBounds_toArray, List.set_cons_zero, List.set_cons_succ]
        have TF' := TF.out.drew
        clear TF
        go_wp2_with (fail)
        generalize (((w1.drew.setCell ⟨(w.heap.size + 1), 0, none⟩ (.int .i64 0)).setCell ⟨(w.heap.size + 1), 1, none⟩ (.int .i64 0)).setCell ⟨(w.heap.size + 1), 2, none⟩ (.int .i64 0)) = WF at *
        obtain ⟨⟨q0, q1, q2⟩, _, _, _⟩ := TF'.r.c
        clear s0 s1 s2 f0 f1 f2 r0 r1 r2 g0 g1 g2
        refine bodyPost_ret (v := .tuple #[.int .i64 z, .agg #[(.int .i64 0), (.int .i64 0), (.int .i64 0)]]) (by simp [results, Tryz.results200, go_sem, q0, q1, q2]) rfl ⟨z, _, _, _, rfl, TF'.b⟩
      · have ex : (x == 1) = false := by simpa using hx1
        obtain ⟨⟨s0, s1, s2⟩, ⟨f0, f1, f2⟩, _, _⟩ := HT1.out.s.c
        obtain ⟨⟨r0, r1, r2⟩, ⟨g0, g1, g2⟩, _, _⟩ := HT1.out.r.c
        have TF := Lib.hid (HT1.out.fillR HNE.out (.int .i64 0) (.int .i64 0) (.int .i64 0))
        refine wp_region_heldE 14 (S := (fun w' => (w'.cell? ⟨w.heap.size, 0, none⟩ = some (.int .i64 0) ∧ w'.cell? ⟨w.heap.size, 1, none⟩ = some (.int .i64 0)) ∧ w'.cell? ⟨w.heap.size, 2, none⟩ = some (.int .i64 0))) (by kernel_rfl) ?_ (fun hHeld => ?_)
        · exact ⟨⟨s0, s1⟩, s2⟩
        refine rgE_take (v := ?_) 0 16 rfl (by kernel_rfl) (by kernel_rfl) (by kernel_rfl) (by kernel_rfl) (by kernel_rfl) (fun _ _ _ h => h) (by kernel_rfl) ?_ (by assumption) ?_
        rotate_left
        · (intro w' hSw; (try dsimp only at hSw); go_simp; first | done | with_reducible rfl)
        simp only [Act.put, List.setIfInBounds_toArray, List.set_cons_zero, List.set_cons_succ]
        refine rgE_take (v := ?_) 1 16 rfl (by kernel_rfl) (by kernel_rfl) (by kernel_rfl) (by kernel_rfl) (by kernel_rfl) (fun _ _ _ h => h) (by kernel_rfl) ?_ (by assumption) ?_
        rotate_left
        · (intro w' hSw; (try dsimp only at hSw); go_simp; first | done | with_reducible rfl)
        simp only [Act.put, List.setIfInBounds_toArray, List.set_cons_zero, List.set_cons_succ]
        refine rgE_take (v := ?_) 2 16 rfl (by kernel_rfl) (by kernel_rfl) (by kernel_rfl) (by kernel_rfl) (by kernel_rfl) (fun _ _ _ h => h) (by kernel_rfl) ?_ (by assumption) ?_
        rotate_left
        · (intro w' hSw; (try dsimp only at hSw); go_simp; first | done | with_reducible rfl)
        simp only [Act.put, List.setIfInBounds_toArray, List.set_cons_zero, List.set_cons_succ]
        refine rgE_skip 3 16 rfl (by kernel_rfl) (by kernel_rfl) (by kernel_rfl) (by kernel_rfl) (by kernel_rfl) (fun _ _ _ h => h) (by kernel_rfl) (by assumption) ?_
        simp only [Act.put, List.setIfInBounds_toArray, List.set_cons_zero, List.set_cons_succ]
        refine rgE_skip 4 16 rfl (by kernel_rfl) (by kernel_rfl) (by kernel_rfl) (by kernel_rfl) (by kernel_rfl) (fun _ _ _ h => h) (by kernel_rfl) (by assumption) ?_
        simp only [Act.put, List.setIfInBounds_toArray, List.set_cons_zero, List.set_cons_succ]
        refine rgE_take (v := ?_) 5 16 rfl (by kernel_rfl) (by kernel_rfl) (by kernel_rfl) (by kernel_rfl) (by kernel_rfl) (fun _ _ _ h => h) (by kernel_rfl) ?_ (by assumption) ?_
        rotate_left
        · (intro w' hSw; (try dsimp only at hSw); go_simp; first | done | with_reducible rfl)
        simp only [Act.put, List.setIfInBounds_toArray, List.set_cons_zero, List.set_cons_succ]
        refine rgE_take (v := ?_) 6 16 rfl (by kernel_rfl) (by kernel_rfl) (by kernel_rfl) (by kernel_rfl) (by kernel_rfl) (fun _ _ _ h => h) (by kernel_rfl) ?_ (by assumption) ?_
        rotate_left
        · (intro w' hSw; (try dsimp only at hSw); go_simp; first | done | with_reducible rfl)
        simp only [Act.put, List.setIfInBounds_toArray, List.set_cons_zero, List.set_cons_succ]
        refine rgE_skip 7 16 rfl (by kernel_rfl) (by kernel_rfl) (by kernel_rfl) (by kernel_rfl) (by kernel_rfl) (fun _ _ _ h => h) (by kernel_rfl) (by assumption) ?_
        simp only [Act.put, List.setIfInBounds_toArray, List.set_cons_zero, List.set_cons_succ]
        refine rgE_skip 8 16 rfl (by kernel_rfl) (by kernel_rfl) (by kernel_rfl) (by kernel_rfl) (by kernel_rfl) (fun _ _ _ h => h) (by kernel_rfl) (by assumption) ?_
        simp only [Act.put, List.setIfInBounds_toArray, List.set_cons_zero, List.set_cons_succ]
        refine rgE_skip 9 16 rfl (by kernel_rfl) (by kernel_rfl) (by kernel_rfl) (by kernel_rfl) (by kernel_rfl) (fun _ _ _ h => h) (by kernel_rfl) (by assumption) ?_
        simp only [Act.put, List.setIfInBounds_toArray, List.set_cons_zero, List.set_cons_succ]
        refine rgE_take (v := ?_) 10 16 rfl (by kernel_rfl) (by kernel_rfl) (by kernel_rfl) (by kernel_rfl) (by kernel_rfl) (fun _ _ _ h => h) (by kernel_rfl) ?_ (by assumption) ?_
        rotate_left
        · (intro w' hSw; (try dsimp only at hSw); go_simp; first | done | with_reducible rfl)
        simp only [Act.put, List.setIfInBounds_toArray, List.set_cons_zero, List.set_cons_succ]
        refine rgE_take (v := ?_) 12 16 rfl (by kernel_rfl) (by kernel_rfl) (by kernel_rfl) (by kernel_rfl) (by kernel_rfl) (fun _ _ _ h => h) (by kernel_rfl) ?_ (by assumption) ?_
        rotate_left
        · (intro w' hSw; (try dsimp only at hSw); go_simp; first | done | with_reducible rfl)
        simp only [Act.put, List.setIfInBounds_toArray, List.set_cons_zero, List.set_cons_succ]
        refine rgE_run 11 rfl (by kernel_rfl) (by kernel_rfl) (by decide) (fun K hK => ?_)
        go_simp
        refine (c_l15Bit _ _).mono ?_
        rintro e w' ⟨z, rfl, rfl⟩
        go_wp2
        clear hHeld
        refine hK.out _ _ (.inr (by exact ⟨⟨s0, s1⟩, s2⟩)) (fun hHeld => ?_)
        clear hK K
        try simp only [Act.put, List.setIfInBounds_toArray, List.set_cons_zero, List.set_cons_succ]
        refine rgE_take (v := ?_) 13 16 rfl (by kernel_rfl) (by kernel_rfl) (by kernel_rfl) (by kernel_rfl) (by kernel_rfl) (fun _ _ _ h => h) (by kernel_rfl) ?_ (by assumption) ?_
        rotate_left
        · (intro w' hSw; (try dsimp only at hSw); go_simp; first | done | with_reducible rfl)
        simp only [Act.put, List.setIfInBounds_toArray, List.set_cons_zero, List.set_cons_succ]
        refine rgE_last rfl (by kernel_rfl) (by kernel_rfl) (by kernel_rfl) (fun K hK => ?_)
        go_simp
        clear hHeld
        refine hK.out _ _ ?_
        clear hK K
        try simp only [Act.put, List.setIfInBounds_toArray, List.set_cons_zero, List.set_cons_succ]
        have TF' := TF.out.drew
        clear TF
        go_wp2_with (fail)
        generalize (((w1.drew.setCell ⟨(w.heap.size + 1), 0, none⟩ (.int .i64 0)).setCell ⟨(w.heap.size + 1), 1, none⟩ (.int .i64 0)).setCell ⟨(w.heap.size + 1), 2, none⟩ (.int .i64 0)) = WF at *
        obtain ⟨⟨q0, q1, q2⟩, _, _, _⟩ := TF'.r.c
        clear s0 s1 s2 f0 f1 f2 r0 r1 r2 g0 g1 g2
        refine bodyPost_ret (v := .tuple #[.int .i64 z, .agg #[(.int .i64 0), (.int .i64 0), (.int .i64 0)]]) (by simp [results, Tryz.results200, go_sem, q0, q1, q2]) rfl ⟨z, _, _, _, rfl, TF'.b⟩
    · have e5 : (x == y) = false := by simpa using h5
      have e6 : (x != y) = true := by simpa using h5
      obtain ⟨⟨s0, s1, s2⟩, ⟨f0, f1, f2⟩, _, _⟩ := HT0.out.s.c
      obtain ⟨⟨r0, r1, r2⟩, ⟨g0, g1, g2⟩, _, _⟩ := HT0.out.r.c
      go_upto_region 4 with (fail)
      refine wp_region_heldE 10 (S := (fun w' => w'.cell? ⟨w.heap.size, 0, none⟩ = some (.int .i64 ba))) (by kernel_rfl) ?_ (fun hHeld => ?_)
      · exact s0
      refine rgE_take (v := ?_) 0 12 rfl (by kernel_rfl) (by kernel_rfl) (by kernel_rfl) (by kernel_rfl) (by kernel_rfl) (fun _ _ _ h => h) (by kernel_rfl) ?_ (by assumption) ?_
      rotate_left
      · (intro w' hSw; (try dsimp only at hSw); go_simp; first | done | with_reducible rfl)
      simp only [Act.put, List.setIfInBounds_toArray, List.set_cons_zero, List.set_cons_succ]
      refine rgE_take (v := ?_) 1 12 rfl (by kernel_rfl) (by kernel_rfl) (by kernel_rfl) (by kernel_rfl) (by kernel_rfl) (fun _ _ _ h => h) (by kernel_rfl) ?_ (by assumption) ?_
      rotate_left
      · (intro w' hSw; (try dsimp only at hSw); go_simp; first | done | with_reducible rfl)
      simp only [Act.put, List.setIfInBounds_toArray, List.set_cons_zero, List.set_cons_succ]
      refine rgE_take (v := ?_) 2 12 rfl (by kernel_rfl) (by kernel_rfl) (by kernel_rfl) (by kernel_rfl) (by kernel_rfl) (fun _ _ _ h => h) (by kernel_rfl) ?_ (by assumption) ?_
      rotate_left
      · (intro w' hSw; (try dsimp only at hSw); go_simp; first | done | with_reducible rfl)
      simp only [Act.put, List.setIfInBounds_toArray, List.set_cons_zero, List.set_cons_succ]
      refine rgE_take (v := ?_) 3 12 rfl (by kernel_rfl) (by kernel_rfl) (by kernel_rfl) (by kernel_rfl) (by kernel_rfl) (fun _ _ _ h => h) (by kernel_rfl) ?_ (by assumption) ?_
      rotate_left
      · (intro w' hSw; (try dsimp only at hSw); go_simp; first | done | with_reducible rfl)
      simp only [Act.put, List.setIfInBounds_toArray, List.set_cons_zero, List.set_cons_succ]
      refine rgE_take (v := ?_) 4 12 rfl (by kernel_rfl) (by kernel_rfl) (by kernel_rfl) (by kernel_rfl) (by kernel_rfl) (fun _ _ _ h => h) (by kernel_rfl) ?_ (by assumption) ?_
      rotate_left
      · (intro w' hSw; (try dsimp only at hSw); go_simp; first | done | with_reducible rfl)
      simp only [Act.put, List.setIfInBounds_toArray, List.set_cons_zero, List.set_cons_succ]
      refine rgE_take (v := ?_) 5 12 rfl (by kernel_rfl) (by kernel_rfl) (by kernel_rfl) (by kernel_rfl) (by kernel_rfl) (fun _ _ _ h => h) (by kernel_rfl) ?_ (by assumption) ?_
      rotate_left
      · (intro w' hSw; (try dsimp only at hSw); go_simp; first | done | with_reducible rfl)
      simp only [Act.put, List.setIfInBounds_toArray, List.set_cons_zero, List.set_cons_succ]
      refine rgE_take (v := ?_) 6 12 rfl (by kernel_rfl) (by kernel_rfl) (by kernel_rfl) (by kernel_rfl) (by kernel_rfl) (fun _ _ _ h => h) (by kernel_rfl) ?_ (by assumption) ?_
      rotate_left
      · (intro w' hSw; (try dsimp only at hSw); go_simp; first | done | with_reducible rfl)
      simp only [Act.put, List.setIfInBounds_toArray, List.set_cons_zero, List.set_cons_succ]
      refine rgE_take (v := ?_) 7 12 rfl (by kernel_rfl) (by kernel_rfl) (by kernel_rfl) (by kernel_rfl) (by kernel_rfl) (fun _ _ _ h => h) (by kernel_rfl) ?_ (by assumption) ?_
      rotate_left
      · (intro w' hSw; (try dsimp only at hSw); go_simp; first | done | with_reducible rfl)
      simp only [Act.put, List.setIfInBounds_toArray, List.set_cons_zero, List.set_cons_succ]
      refine rgE_run 8 rfl (by kernel_rfl) (by kernel_rfl) (by decide) (fun K hK => ?_)
      go_simp
      refine (c_l15Bit _ _).mono ?_
      rintro e w' ⟨q, rfl, rfl⟩
      go_wp2
      clear hHeld
      refine hK.out _ _ (.inr (by exact s0)) (fun hHeld => ?_)
      clear hK K
      try simp only [Act.put, List.setIfInBounds_toArray, List.set_cons_zero, List.set_cons_succ]
      refine rgE_take (v := ?_) 9 12 rfl (by kernel_rfl) (by kernel_rfl) (by kernel_rfl) (by kernel_rfl) (by kernel_rfl) (fun _ _ _ h => h) (by kernel_rfl) ?_ (by assumption) ?_
      rotate_left
      · (intro w' hSw; (try dsimp only at hSw); go_simp; first | done | with_reducible rfl)
      simp only [Act.put, List.setIfInBounds_toArray, List.set_cons_zero, List.set_cons_succ]
      have HT1 := Lib.hid (HT0.out.fillS HNE.out (.int .i64 (IntKind.i64.wrap (ba + 1))) (.int .i64 0) (.int .i64 q))
      refine rgE_last rfl (by kernel_rfl) (by kernel_rfl) (by kernel_rfl) (fun K hK => ?_)
      go_simp
      clear hHeld
      refine hK.out _ _ ?_
      clear hK K
      try simp only [Act.put, List.setIfInBounds_toArray, List.set_cons_zero, List.set_cons_succ]
      go_upto_region 7 with (fail)
      generalize (((w0.setCell ⟨w.heap.size, 0, none⟩ (.int .i64 (IntKind.i64.wrap (ba + 1)))).setCell ⟨w.heap.size, 1, none⟩ (.int .i64 0)).setCell ⟨w.heap.size, 2, none⟩ (.int .i64 q)) = w1 at *
      clear s0 s1 s2 f0 f1 f2 r0 r1 r2 g0 g1 g2
      have HT2 := Lib.hid HT1.out.drew
      generalize w1.drew = w2 at *
      clear HT1
      generalize IntKind.i64.wrap (ba + 1) = u at *
      by_cases hx1 : x = 1
      · subst hx1
        have ey : (y == 1) = false := by simp; omega
        obtain ⟨⟨s0, s1, s2⟩, ⟨f0, f1, f2⟩, _, _⟩ := HT2.out.s.c
        obtain ⟨⟨r0, r1, r2⟩, ⟨g0, g1, g2⟩, _, _⟩ := HT2.out.r.c
        have TF := Lib.hid (HT2.out.fillR HNE.out (.int .i64 u) (.int .i64 0) (.int .i64 q))
        refine wp_region_heldE 14 (S := (fun w' => (w'.cell? ⟨w.heap.size, 0, none⟩ = some (.int .i64 u) ∧ w'.cell? ⟨w.heap.size, 1, none⟩ = some (.int .i64 0)) ∧ w'.cell? ⟨w.heap.size, 2, none⟩ = some (.int .i64 q))) (by kernel_rfl) ?_ (fun hHeld => ?_)
        · exact ⟨⟨s0, s1⟩, s2⟩
        refine rgE_take (v := ?_) 0 16 rfl (by kernel_rfl) (by kernel_rfl) (by kernel_rfl) (by kernel_rfl) (by kernel_rfl) (fun _ _ _ h => h) (by kernel_rfl) ?_ (by assumption) ?_
        rotate_left
        · (intro w' hSw; (try dsimp only at hSw); go_simp; first | done | with_reducible rfl)
        simp only [Act.put, List.setIfInBounds_toArray, List.set_cons_zero, List.set_cons_succ]
        refine rgE_take (v := ?_) 1 16 rfl (by kernel_rfl) (by kernel_rfl) (by kernel_rfl) (by kernel_rfl) (by kernel_rfl) (fun _ _ _ h => h) (by kernel_rfl) ?_ (by assumption) ?_
        rotate_left
        · (intro w' hSw; (try dsimp only at hSw); go_simp; first | done | with_reducible rfl)
        simp only [Act.put, List.setIfInBounds_toArray, List.set_cons_zero, List.set_cons_succ]
        refine rgE_take (v := ?_) 2 16 rfl (by kernel_rfl) (by kernel_rfl) (by kernel_rfl) (by kernel_rfl) (by kernel_rfl) (fun _ _ _ h => h) (by kernel_rfl) ?_ (by assumption) ?_
        rotate_left
        · (intro w' hSw; (try dsimp only at hSw); go_simp; first | done | with_reducible rfl)
        simp only [Act.put, List.setIfInBounds_toArray, List.set_cons_zero, List.set_cons_succ]
        refine rgE_take (v := ?_) 3 16 rfl (by kernel_rfl) (by kernel_rfl) (by kernel_rfl) (by kernel_rfl) (by kernel_rfl) (fun _ _ _ h => h) (by kernel_rfl) ?_ (by assumption) ?_
        rotate_left
        · (intro w' hSw; (try dsimp only at hSw); go_simp; first | done | with_reducible rfl)
        simp only [Act.put, List.setIfInBounds_toArray, List.set_cons_zero, List.set_cons_succ]
        refine rgE_take (v := ?_) 4 16 rfl (by kernel_rfl) (by kernel_rfl) (by kernel_rfl) (by kernel_rfl) (by kernel_rfl) (fun _ _ _ h => h) (by kernel_rfl) ?_ (by assumption) ?_
        rotate_left
        · (intro w' hSw; (try dsimp only at hSw); go_simp; first | done | with_reducible rfl)
        simp only [Act.put, List.setIfInBounds_toArray, List.set_cons_zero, List.set_cons_succ]
        refine rgE_take (v := ?_) 5 16 rfl (by kernel_rfl) (by kernel_rfl) (by kernel_rfl) (by kernel_rfl) (by kernel_rfl) (fun _ _ _ h => h) (by kernel_rfl) ?_ (by assumption) ?_
        rotate_left
        · (intro w' hSw; (try dsimp only at hSw); go_simp; first | done | with_reducible rfl)
        simp only [Act.put, List.setIfInBounds_toArray, List.set_cons_zero, List.set_cons_succ]
        refine rgE_take (v := ?_) 6 16 rfl (by kernel_rfl) (by kernel_rfl) (by kernel_rfl) (by kernel_rfl) (by kernel_rfl) (fun _ _ _ h => h) (by kernel_rfl) ?_ (by assumption) ?_
        rotate_left
        · (intro w' hSw; (try dsimp only at hSw); go_simp; first | done | with_reducible rfl)
        simp only [Act.put, List.setIfInBounds_toArray, List.set_cons_zero, List.set_cons_succ]
        refine rgE_skip 7 16 rfl (by kernel_rfl) (by kernel_rfl) (by kernel_rfl) (by kernel_rfl) (by kernel_rfl) (fun _ _ _ h => h) (by kernel_rfl) (by assumption) ?_
        simp only [Act.put, List.setIfInBounds_toArray, List.set_cons_zero, List.set_cons_succ]
        refine rgE_skip 8 16 rfl (by kernel_rfl) (by kernel_rfl) (by kernel_rfl) (by kernel_rfl) (by kernel_rfl) (fun _ _ _ h => h) (by kernel_rfl) (by assumption) ?_
        simp only [Act.put, List.setIfInBounds_toArray, List.set_cons_zero, List.set_cons_succ]
        refine rgE_skip 9 16 rfl (by kernel_rfl) (by kernel_rfl) (by kernel_rfl) (by kernel_rfl) (by kernel_rfl) (fun _ _ _ h => h) (by kernel_rfl) (by assumption) ?_
        simp only [Act.put, List.setIfInBounds_toArray, List.set_cons_zero, List.set_cons_succ]
        refine rgE_take (v := ?_) 10 16 rfl (by kernel_rfl) (by kernel_rfl) (by kernel_rfl) (by kernel_rfl) (by kernel_rfl) (fun _ _ _ h => h) (by kernel_rfl) ?_ (by assumption) ?_
        rotate_left
        · (intro w' hSw; (try dsimp only at hSw); go_simp; first | done | with_reducible rfl)
        simp only [Act.put, List.setIfInBounds_toArray, List.set_cons_zero, List.set_cons_succ]
        refine rgE_take (v := ?_) 12 16 rfl (by kernel_rfl) (by kernel_rfl) (by kernel_rfl) (by kernel_rfl) (by kernel_rfl) (fun _ _ _ h => h) (by kernel_rfl) ?_ (by assumption) ?_
        rotate_left
        · (intro w' hSw; (try dsimp only at hSw); go_simp; first | done | with_reducible rfl)
        simp only [Act.put, List.setIfInBounds_toArray, List.set_cons_zero, List.set_cons_succ]
        refine rgE_run 11 rfl (by kernel_rfl) (by kernel_rfl) (by decide) (fun K hK => ?_)
        go_simp
        refine (c_l15Bit _ _).mono ?_
        rintro e w' ⟨z, rfl, rfl⟩
        go_wp2
        clear hHeld
        refine hK.out _ _ (.inr (by exact ⟨⟨s0, s1⟩, s2⟩)) (fun hHeld => ?_)
        clear hK K
        try simp only [Act.put, List.setIfInBounds_toArray, List.set_cons_zero, List.set_cons_succ]
        refine rgE_take (v := ?_) 13 16 rfl (by kernel_rfl) (by kernel_rfl) (by kernel_rfl) (by kernel_rfl) (by kernel_rfl) (fun _ _ _ h => h) (by kernel_rfl) ?_ (by assumption) ?_
        rotate_left
        · (intro w' hSw; (try dsimp only at hSw); go_simp; first | done | with_reducible rfl)
        simp only [Act.put, List.setIfInBounds_toArray, List.set_cons_zero, List.set_cons_succ]
        refine rgE_last rfl (by kernel_rfl) (by kernel_rfl) (by kernel_rfl) (fun K hK => ?_)
        go_simp
        clear hHeld
        refine hK.out _ _ ?_
        clear hK K
        try simp only [Act.put, List.setIfInBounds_toArray, List.set_cons_zero, List.set_cons_succ]
        have TF' := TF.out.drew
        clear TF
        go_wp2_with (fail)
        generalize (((w2.drew.setCell ⟨(w.heap.size + 1), 0, none⟩ (.int .i64 u)).setCell ⟨(w.heap.size + 1), 1, none⟩ (.int .i64 0)).setCell ⟨(w.heap.size + 1), 2, none⟩ (.int .i64 q)) = WF at *
        obtain ⟨⟨q0, q1, q2⟩, _, _, _⟩ := TF'.r.c
        clear s0 s1 s2 f0 f1 f2 r0 r1 r2 g0 g1 g2
        refine bodyPost_ret (v := .tuple #[.int .i64 z, .agg #[(.int .i64 u), (.int .i64 0), (.int .i64 q)]]) (by simp [results, Tryz.results200, go_sem, q0, q1, q2]) rfl ⟨z, _, _, _, rfl, TF'.b⟩
      · have ex : (x == 1) = false := by simpa using hx1
        obtain ⟨⟨s0, s1, s2⟩, ⟨f0, f1, f2⟩, _, _⟩ := HT2.out.s.c
        obtain ⟨⟨r0, r1, r2⟩, ⟨g0, g1, g2⟩, _, _⟩ := HT2.out.r.c
        have TF := Lib.hid (HT2.out.fillR HNE.out (.int .i64 u) (.int .i64 0) (.int .i64 q))
        refine wp_region_heldE 14 (S := (fun w' => (w'.cell? ⟨w.heap.size, 0, none⟩ = some (.int .i64 u) ∧ w'.cell? ⟨w.heap.size, 1, none⟩ = some (.int .i64 0)) ∧ w'.cell? ⟨w.heap.size, 2, none⟩ = some (.int .i64 q))) (by kernel_rfl) ?_ (fun hHeld => ?_)
        · exact ⟨⟨s0, s1⟩, s2⟩
        refine rgE_take (v := ?_) 0 16 rfl (by kernel_rfl) (by kernel_rfl) (by kernel_rfl) (by kernel_rfl) (by kernel_rfl) (fun _ _ _ h => h) (by kernel_rfl) ?_ (by assumption) ?_
        rotate_left
        · (intro w' hSw; (try dsimp only at hSw); go_simp; first | done | with_reducible rfl)
        simp only [Act.put, List.setIfInBounds_toArray, List.set_cons_zero, List.set_cons_succ]
        refine rgE_take (v := ?_) 1 16 rfl (by kernel_rfl) (by kernel_rfl) (by kernel_rfl) (by kernel_rfl) (by kernel_rfl) (fun _ _ _ h => h) (by kernel_rfl) ?_ (by assumption) ?_
        rotate_left
        · (intro w' hSw; (try dsimp only at hSw); go_simp; first | done | with_reducible rfl)
        simp only [Act.put, List.setIfInBounds_toArray, List.set_cons_zero, List.set_cons_succ]
        refine rgE_take (v := ?_) 2 16 rfl (by kernel_rfl) (by kernel_rfl) (by kernel_rfl) (by kernel_rfl) (by kernel_rfl) (fun _ _ _ h => h) (by kernel_rfl) ?_ (by assumption) ?_
        rotate_left
        · (intro w' hSw; (try dsimp only at hSw); go_simp; first | done | with_reducible rfl)
        simp only [Act.put, List.setIfInBounds_toArray, List.set_cons_zero, List.set_cons_succ]
        refine rgE_skip 3 16 rfl (by kernel_rfl) (by kernel_rfl) (by kernel_rfl) (by kernel_rfl) (by kernel_rfl) (fun _ _ _ h => h) (by kernel_rfl) (by assumption) ?_
        simp only [Act.put, List.setIfInBounds_toArray, List.set_cons_zero, List.set_cons_succ]
        refine rgE_skip 4 16 rfl (by kernel_rfl) (by kernel_rfl) (by kernel_rfl) (by kernel_rfl) (by kernel_rfl) (fun _ _ _ h => h) (by kernel_rfl) (by assumption) ?_
        simp only [Act.put, List.setIfInBounds_toArray, List.set_cons_zero, List.set_cons_succ]
        refine rgE_take (v := ?_) 5 16 rfl (by kernel_rfl) (by kernel_rfl) (by kernel_rfl) (by kernel_rfl) (by kernel_rfl) (fun _ _ _ h => h) (by kernel_rfl) ?_ (by assumption) ?_
        rotate_left
        · (intro w' hSw; (try dsimp only at hSw); go_simp; first | done | with_reducible rfl)
        simp only [Act.put, List.setIfInBounds_toArray, List.set_cons_zero, List.set_cons_succ]
        refine rgE_take (v := ?_) 6 16 rfl (by kernel_rfl) (by kernel_rfl) (by kernel_rfl) (by kernel_rfl) (by kernel_rfl) (fun _ _ _ h => h) (by kernel_rfl) ?_ (by assumption) ?_
        rotate_left
        · (intro w' hSw; (try dsimp only at hSw); go_simp; first | done | with_reducible rfl)
        simp only [Act.put, List.setIfInBounds_toArray, List.set_cons_zero, List.set_cons_succ]
        refine rgE_skip 7 16 rfl (by kernel_rfl) (by kernel_rfl) (by kernel_rfl) (by kernel_rfl) (by kernel_rfl) (fun _ _ _ h => h) (by kernel_rfl) (by assumption) ?_
        simp only [Act.put, List.setIfInBounds_toArray, List.set_cons_zero, List.set_cons_succ]
        refine rgE_skip 8 16 rfl (by kernel_rfl) (by kernel_rfl) (by kernel_rfl) (by kernel_rfl) (by kernel_rfl) (fun _ _ _ h => h) (by kernel_rfl) (by assumption) ?_
        simp only [Act.put, List.setIfInBounds_toArray, List.set_cons_zero, List.set_cons_succ]
        refine rgE_skip 9 16 rfl (by kernel_rfl) (by kernel_rfl) (by kernel_rfl) (by kernel_rfl) (by kernel_rfl) (fun _ _ _ h => h) (by kernel_rfl) (by assumption) ?_
        simp only [Act.put, List.setIfInBounds_toArray, List.set_cons_zero, List.set_cons_succ]
        refine rgE_take (v := ?_) 10 16 rfl (by kernel_rfl) (by kernel_rfl) (by kernel_rfl) (by kernel_rfl) (by kernel_rfl) (fun _ _ _ h => h) (by kernel_rfl) ?_ (by assumption) ?_
        rotate_left
        · (intro w' hSw; (try dsimp only at hSw); go_simp; first | done | with_reducible rfl)
        simp only [Act.put, List.setIfInBounds_toArray, List.set_cons_zero, List.set_cons_succ]
        refine rgE_take (v := ?_) 12 16 rfl (by kernel_rfl) (by kernel_rfl) (by kernel_rfl) (by kernel_rfl) (by kernel_rfl) (fun _ _ _ h => h) (by kernel_rfl) ?_ (by assumption) ?_
        rotate_left
        · (intro w' hSw; (try dsimp only at hSw); go_simp; first | done | with_reducible rfl)
        simp only [Act.put, List.setIfInBounds_toArray, List.set_cons_zero, List.set_cons_succ]
        refine rgE_run 11 rfl (by kernel_rfl) (by kernel_rfl) (by decide) (fun K hK => ?_)
        go_simp
        refine (c_l15Bit _ _).mono ?_
        rintro e w' ⟨z, rfl, rfl⟩
        go_wp2
        clear hHeld
        refine hK.out _ _ (.inr (by exact ⟨⟨s0, s1⟩, s2⟩)) (fun hHeld => ?_)
        clear hK K
        try simp only [Act.put, List.setIfInBounds_toArray, List.set_cons_zero, List.set_cons_succ]
        refine rgE_take (v := ?_) 13 16 rfl (by kernel_rfl) (by kernel_rfl) (by kernel_rfl) (by kernel_rfl) (by kernel_rfl) (fun _ _ _ h => h) (by kernel_rfl) ?_ (by assumption) ?_
        rotate_left
        · (intro w' hSw; (try dsimp only at hSw); go_simp; first | done | with_reducible rfl)
        simp only [Act.put, List.setIfInBounds_toArray, List.set_cons_zero, List.set_cons_succ]
        refine rgE_last rfl (by kernel_rfl) (by kernel_rfl) (by kernel_rfl) (fun K hK => ?_)
        go_simp
        clear hHeld
        refine hK.out _ _ ?_
        clear hK K
        try simp only [Act.put, List.setIfInBounds_toArray, List.set_cons_zero, List.set_cons_succ]
        have TF' := TF.out.drew
        clear TF
        go_wp2_with (fail)
        generalize (((w2.drew.setCell ⟨(w.heap.size + 1), 0, none⟩ (.int .i64 u)).setCell ⟨(w.heap.size + 1), 1, none⟩ (.int .i64 0)).setCell ⟨(w.heap.size + 1), 2, none⟩ (.int .i64 q)) = WF at *
        obtain ⟨⟨q0, q1, q2⟩, _, _, _⟩ := TF'.r.c
        clear s0 s1 s2 f0 f1 f2 r0 r1 r2 g0 g1 g2
        refine bodyPost_ret (v := .tuple #[.int .i64 z, .agg #[(.int .i64 u), (.int .i64 0), (.int .i64 q)]]) (by simp [results, Tryz.results200, go_sem, q0, q1, q2]) rfl ⟨z, _, _, _, rfl, TF'.b⟩
  have e4 : (bc == 0) = false := by simpa using h4
  obtain ⟨⟨s0, s1, s2⟩, ⟨f0, f1, f2⟩, _, _⟩ := HT0.out.s.c
  obtain ⟨⟨r0, r1, r2⟩, ⟨g0, g1, g2⟩, _, _⟩ := HT0.out.r.c
  go_upto_region 7 with (fail)
  clear s0 s1 s2 f0 f1 f2 r0 r1 r2 g0 g1 g2
  by_cases hx1 : x = 1
  · subst hx1
    by_cases hy1 : y = 1
    · subst hy1
      obtain ⟨⟨s0, s1, s2⟩, ⟨f0, f1, f2⟩, _, _⟩ := HT0.out.s.c
      obtain ⟨⟨r0, r1, r2⟩, ⟨g0, g1, g2⟩, _, _⟩ := HT0.out.r.c
      have TF := Lib.hid (HT0.out.fillR HNE.out (.int .i64 ba) (.int .i64 bb) (.int .i64 bc))
      refine wp_region_heldE 14 (S := (fun w' => (w'.cell? ⟨w.heap.size, 0, none⟩ = some (.int .i64 ba) ∧ w'.cell? ⟨w.heap.size, 1, none⟩ = some (.int .i64 bb)) ∧ w'.cell? ⟨w.heap.size, 2, none⟩ = some (.int .i64 bc))) (by kernel_rfl) ?_ (fun hHeld => ?_)
      · exact ⟨⟨s0, s1⟩, s2⟩
      refine rgE_take (v := ?_) 0 16 rfl (by kernel_rfl) (by kernel_rfl) (by kernel_rfl) (by kernel_rfl) (by kernel_rfl) (fun _ _ _ h => h) (by kernel_rfl) ?_ (by assumption) ?_
      rotate_left
      · (intro w' hSw; (try dsimp only at hSw); go_simp; first | done | with_reducible rfl)
      simp only [Act.put, List.setIfInBounds_toArray, List.set_cons_zero, List.set_cons_succ]
      refine rgE_take (v := ?_) 1 16 rfl (by kernel_rfl) (by kernel_rfl) (by kernel_rfl) (by kernel_rfl) (by kernel_rfl) (fun _ _ _ h => h) (by kernel_rfl) ?_ (by assumption) ?_
      rotate_left
      · (intro w' hSw; (try dsimp only at hSw); go_simp; first | done | with_reducible rfl)
      simp only [Act.put, List.setIfInBounds_toArray, List.set_cons_zero, List.set_cons_succ]
      refine rgE_take (v := ?_) 2 16 rfl (by kernel_rfl) (by kernel_rfl) (by kernel_rfl) (by kernel_rfl) (by kernel_rfl) (fun _ _ _ h => h) (by kernel_rfl) ?_ (by assumption) ?_
      rotate_left
      · (intro w' hSw; (try dsimp only at hSw); go_simp; first | done | with_reducible rfl)
      simp only [Act.put, List.setIfInBounds_toArray, List.set_cons_zero, List.set_cons_succ]
      refine rgE_take (v := ?_) 3 16 rfl (by kernel_rfl) (by kernel_rfl) (by kernel_rfl) (by kernel_rfl) (by kernel_rfl) (fun _ _ _ h => h) (by kernel_rfl) ?_ (by assumption) ?_
      rotate_left
      · (intro w' hSw; (try dsimp only at hSw); go_simp; first | done | with_reducible rfl)
      simp only [Act.put, List.setIfInBounds_toArray, List.set_cons_zero, List.set_cons_succ]
      refine rgE_take (v := ?_) 4 16 rfl (by kernel_rfl) (by kernel_rfl) (by kernel_rfl) (by kernel_rfl) (by kernel_rfl) (fun _ _ _ h => h) (by kernel_rfl) ?_ (by assumption) ?_
      rotate_left
      · (intro w' hSw; (try dsimp only at hSw); go_simp; first | done | with_reducible rfl)
      simp only [Act.put, List.setIfInBounds_toArray, List.set_cons_zero, List.set_cons_succ]
      refine rgE_take (v := ?_) 5 16 rfl (by kernel_rfl) (by kernel_rfl) (by kernel_rfl) (by kernel_rfl) (by kernel_rfl) (fun _ _ _ h => h) (by kernel_rfl) ?_ (by assumption) ?_
      rotate_left
      · (intro w' hSw; (try dsimp only at hSw); go_simp; first | done | with_reducible rfl)
      simp only [Act.put, List.setIfInBounds_toArray, List.set_cons_zero, List.set_cons_succ]
      refine rgE_take (v := ?_) 6 16 rfl (by kernel_rfl) (by kernel_rfl) (by kernel_rfl) (by kernel_rfl) (by kernel_rfl) (fun _ _ _ h => h) (by kernel_rfl) ?_ (by assumption) ?_
      rotate_left
      · (intro w' hSw; (try dsimp only at hSw); go_simp; first | done | with_reducible rfl)
      simp only [Act.put, List.setIfInBounds_toArray, List.set_cons_zero, List.set_cons_succ]
      refine rgE_take (v := ?_) 7 16 rfl (by kernel_rfl) (by kernel_rfl) (by kernel_rfl) (by kernel_rfl) (by kernel_rfl) (fun _ _ _ h => h) (by kernel_rfl) ?_ (by assumption) ?_
      rotate_left
      · (intro w' hSw; (try dsimp only at hSw); go_simp; first | done | with_reducible rfl)
      simp only [Act.put, List.setIfInBounds_toArray, List.set_cons_zero, List.set_cons_succ]
      refine rgE_take (v := ?_) 8 16 rfl (by kernel_rfl) (by kernel_rfl) (by kernel_rfl) (by kernel_rfl) (by kernel_rfl) (fun _ _ _ h => h) (by kernel_rfl) ?_ (by assumption) ?_
      rotate_left
      · (intro w' hSw; (try dsimp only at hSw); go_simp; first | done | with_reducible rfl)
      simp only [Act.put, List.setIfInBounds_toArray, List.set_cons_zero, List.set_cons_succ]
      refine rgE_take (v := ?_) 9 16 rfl (by kernel_rfl) (by kernel_rfl) (by kernel_rfl) (by kernel_rfl) (by kernel_rfl) (fun _ _ _ h => h) (by kernel_rfl) ?_ (by assumption) ?_
      rotate_left
      · (intro w' hSw; (try dsimp only at hSw); go_simp; first | done | with_reducible rfl)
      simp only [Act.put, List.setIfInBounds_toArray, List.set_cons_zero, List.set_cons_succ]
      refine rgE_take (v := ?_) 10 16 rfl (by kernel_rfl) (by kernel_rfl) (by kernel_rfl) (by kernel_rfl) (by kernel_rfl) (fun _ _ _ h => h) (by kernel_rfl) ?_ (by assumption) ?_
      rotate_left
      · (intro w' hSw; (try dsimp only at hSw); go_simp; first | done | with_reducible rfl)
      simp only [Act.put, List.setIfInBounds_toArray, List.set_cons_zero, List.set_cons_succ]
      refine rgE_take (v := ?_) 12 16 rfl (by kernel_rfl) (by kernel_rfl) (by kernel_rfl) (by kernel_rfl) (by kernel_rfl) (fun _ _ _ h => h) (by kernel_rfl) ?_ (by assumption) ?_
      rotate_left
      · (intro w' hSw; (try dsimp only at hSw); go_simp; first | done | with_reducible rfl)
      simp only [Act.put, List.setIfInBounds_toArray, List.set_cons_zero, List.set_cons_succ]
      refine rgE_run 11 rfl (by kernel_rfl) (by kernel_rfl) (by decide) (fun K hK => ?_)
      go_simp
      refine (c_l15Bit _ _).mono ?_
      rintro e w' ⟨z, rfl, rfl⟩
      go_wp2
      clear hHeld
      refine hK.out _ _ (.inr (by exact ⟨⟨s0, s1⟩, s2⟩)) (fun hHeld => ?_)
      clear hK K
      try simp only [Act.put, List.setIfInBounds_toArray, List.set_cons_zero, List.set_cons_succ]
      refine rgE_take (v := ?_) 13 16 rfl (by kernel_rfl) (by kernel_rfl) (by kernel_rfl) (by kernel_rfl) (by kernel_rfl) (fun _ _ _ h => h) (by kernel_rfl) ?_ (by assumption) ?_
      rotate_left
      · (intro w' hSw; (try dsimp only at hSw); go_simp; first | done | with_reducible rfl)
      simp only [Act.put, List.setIfInBounds_toArray, List.set_cons_zero, List.set_cons_succ]
      refine rgE_last rfl (by kernel_rfl) (by kernel_rfl) (by kernel_rfl) (fun K hK => ?_)
      go_simp
      clear hHeld
      refine hK.out _ _ ?_
      clear hK K
      try simp only [Act.put, List.setIfInBounds_toArray, List.set_cons_zero, List.set_cons_succ]
      have TF' := TF.out.drew
      clear TF
      go_wp2_with (fail)
      generalize (((w0.drew.setCell ⟨(w.heap.size + 1), 0, none⟩ (.int .i64 ba)).setCell ⟨(w.heap.size + 1), 1, none⟩ (.int .i64 bb)).setCell ⟨(w.heap.size + 1), 2, none⟩ (.int .i64 bc)) = WF at *
      obtain ⟨⟨q0, q1, q2⟩, _, _, _⟩ := TF'.r.c
      clear s0 s1 s2 f0 f1 f2 r0 r1 r2 g0 g1 g2
      refine bodyPost_ret (v := .tuple #[.int .i64 z, .agg #[(.int .i64 ba), (.int .i64 bb), (.int .i64 bc)]]) (by simp [results, Tryz.results200, go_sem, q0, q1, q2]) rfl ⟨z, _, _, _, rfl, TF'.b⟩
    · have ey : (y == 1) = false := by simpa using hy1
      obtain ⟨⟨s0, s1, s2⟩, ⟨f0, f1, f2⟩, _, _⟩ := HT0.out.s.c
      obtain ⟨⟨r0, r1, r2⟩, ⟨g0, g1, g2⟩, _, _⟩ := HT0.out.r.c
      have TF := Lib.hid (HT0.out.fillR HNE.out (.int .i64 ba) (.int .i64 bb) (.int .i64 bc))
      refine wp_region_heldE 14 (S := (fun w' => (w'.cell? ⟨w.heap.size, 0, none⟩ = some (.int .i64 ba) ∧ w'.cell? ⟨w.heap.size, 1, none⟩ = some (.int .i64 bb)) ∧ w'.cell? ⟨w.heap.size, 2, none⟩ = some (.int .i64 bc))) (by kernel_rfl) ?_ (fun hHeld => ?_)
      · exact ⟨⟨s0, s1⟩, s2⟩
      refine rgE_take (v := ?_) 0 16 rfl (by kernel_rfl) (by kernel_rfl) (by kernel_rfl) (by kernel_rfl) (by kernel_rfl) (fun _ _ _ h => h) (by kernel_rfl) ?_ (by assumption) ?_
      rotate_left
      · (intro w' hSw; (try dsimp only at hSw); go_simp; first | done | with_reducible rfl)
      simp only [Act.put, List.setIfInBounds_toArray, List.set_cons_zero, List.set_cons_succ]
      refine rgE_take (v := ?_) 1 16 rfl (by kernel_rfl) (by kernel_rfl) (by kernel_rfl) (by kernel_rfl) (by kernel_rfl) (fun _ _ _ h => h) (by kernel_rfl) ?_ (by assumption) ?_
      rotate_left
      · (intro w' hSw; (try dsimp only at hSw); go_simp; first | done | with_reducible rfl)
      simp only [Act.put, List.setIfInBounds_toArray, List.set_cons_zero, List.set_cons_succ]
      refine rgE_take (v := ?_) 2 16 rfl (by kernel_rfl) (by kernel_rfl) (by kernel_rfl) (by kernel_rfl) (by kernel_rfl) (fun _ _ _ h => h) (by kernel_rfl) ?_ (by assumption) ?_
      rotate_left
      · (intro w' hSw; (try dsimp only at hSw); go_simp; first | done | with_reducible rfl)
      simp only [Act.put, List.setIfInBounds_toArray, List.set_cons_zero, List.set_cons_succ]
      refine rgE_take (v := ?_) 3 16 rfl (by kernel_rfl) (by kernel_rfl) (by kernel_rfl) (by kernel_rfl) (by kernel_rfl) (fun _ _ _ h => h) (by kernel_rfl) ?_ (by assumption) ?_
      rotate_left
      · (intro w' hSw; (try dsimp only at hSw); go_simp; first | done | with_reducible rfl)
      simp only [Act.put, List.setIfInBounds_toArray, List.set_cons_zero, List.set_cons_succ]
      refine rgE_take (v := ?_) 4 16 rfl (by kernel_rfl) (by kernel_rfl) (by kernel_rfl) (by kernel_rfl) (by kernel_rfl) (fun _ _ _ h => h) (by kernel_rfl) ?_ (by assumption) ?_
      rotate_left
      · (intro w' hSw; (try dsimp only at hSw); go_simp; first | done | with_reducible rfl)
      simp only [Act.put, List.setIfInBounds_toArray, List.set_cons_zero, List.set_cons_succ]
      refine rgE_take (v := ?_) 5 16 rfl (by kernel_rfl) (by kernel_rfl) (by kernel_rfl) (by kernel_rfl) (by kernel_rfl) (fun _ _ _ h => h) (by kernel_rfl) ?_ (by assumption) ?_
      rotate_left
      · (intro w' hSw; (try dsimp only at hSw); go_simp; first | done | with_reducible rfl)
      simp only [Act.put, List.setIfInBounds_toArray, List.set_cons_zero, List.set_cons_succ]
      refine rgE_take (v := ?_) 6 16 rfl (by kernel_rfl) (by kernel_rfl) (by kernel_rfl) (by kernel_rfl) (by kernel_rfl) (fun _ _ _ h => h) (by kernel_rfl) ?_ (by assumption) ?_
      rotate_left
      · (intro w' hSw; (try dsimp only at hSw); go_simp; first | done | with_reducible rfl)
      simp only [Act.put, List.setIfInBounds_toArray, List.set_cons_zero, List.set_cons_succ]
      refine rgE_skip 7 16 rfl (by kernel_rfl) (by kernel_rfl) (by kernel_rfl) (by kernel_rfl) (by kernel_rfl) (fun _ _ _ h => h) (by kernel_rfl) (by assumption) ?_
      simp only [Act.put, List.setIfInBounds_toArray, List.set_cons_zero, List.set_cons_succ]
      refine rgE_skip 8 16 rfl (by kernel_rfl) (by kernel_rfl) (by kernel_rfl) (by kernel_rfl) (by kernel_rfl) (fun _ _ _ h => h) (by kernel_rfl) (by assumption) ?_
      simp only [Act.put, List.setIfInBounds_toArray, List.set_cons_zero, List.set_cons_succ]
      refine rgE_skip 9 16 rfl (by kernel_rfl) (by kernel_rfl) (by kernel_rfl) (by kernel_rfl) (by kernel_rfl) (fun _ _ _ h => h) (by kernel_rfl) (by assumption) ?_
      simp only [Act.put, List.setIfInBounds_toArray, List.set_cons_zero, List.set_cons_succ]
      refine rgE_take (v := ?_) 10 16 rfl (by kernel_rfl) (by kernel_rfl) (by kernel_rfl) (by kernel_rfl) (by kernel_rfl) (fun _ _ _ h => h) (by kernel_rfl) ?_ (by assumption) ?_
      rotate_left
      · (intro w' hSw; (try dsimp only at hSw); go_simp; first | done | with_reducible rfl)
      simp only [Act.put, List.setIfInBounds_toArray, List.set_cons_zero, List.set_cons_succ]
      refine rgE_take (v := ?_) 12 16 rfl (by kernel_rfl) (by kernel_rfl) (by kernel_rfl) (by kernel_rfl) (by kernel_rfl) (fun _ _ _ h => h) (by kernel_rfl) ?_ (by assumption) ?_
      rotate_left
      · (intro w' hSw; (try dsimp only at hSw); go_simp; first | done | with_reducible rfl)
      simp only [Act.put, List.setIfInBounds_toArray, List.set_cons_zero, List.set_cons_succ]
      refine rgE_run 11 rfl (by kernel_rfl) (by kernel_rfl) (by decide) (fun K hK => ?_)
      go_simp
      refine (c_l15Bit _ _).mono ?_
      rintro e w' ⟨z, rfl, rfl⟩
      go_wp2
      clear hHeld
      refine hK.out _ _ (.inr (by exact ⟨⟨s0, s1⟩, s2⟩)) (fun hHeld => ?_)
      clear hK K
      try simp only [Act.put, List.setIfInBounds_toArray, List.set_cons_zero, List.set_cons_succ]
      refine rgE_take (v := ?_) 13 16 rfl (by kernel_rfl) (by kernel_rfl) (by kernel_rfl) (by kernel_rfl) (by kernel_rfl) (fun _ _ _ h => h) (by kernel_rfl) ?_ (by assumption) ?_
      rotate_left
      · (intro w' hSw; (try dsimp only at hSw); go_simp; first | done | with_reducible rfl)
      simp only [Act.put, List.setIfInBounds_toArray, List.set_cons_zero, List.set_cons_succ]
      refine rgE_last rfl (by kernel_rfl) (by kernel_rfl) (by kernel_rfl) (fun K hK => ?_)
      go_simp
      clear hHeld
      refine hK.out _ _ ?_
      clear hK K
      try simp only [Act.put, List.setIfInBounds_toArray, List.set_cons_zero, List.set_cons_succ]
      have TF' := TF.out.drew
      clear TF
      go_wp2_with (fail)
      generalize (((w0.drew.setCell ⟨(w.heap.size + 1), 0, none⟩ (.int .i64 ba)).setCell ⟨(w.heap.size + 1), 1, none⟩ (.int .i64 bb)).setCell ⟨(w.heap.size + 1), 2, none⟩ (.int .i64 bc)) = WF at *
      obtain ⟨⟨q0, q1, q2⟩, _, _, _⟩ := TF'.r.c
      clear s0 s1 s2 f0 f1 f2 r0 r1 r2 g0 g1 g2
      refine bodyPost_ret (v := .tuple #[.int .i64 z, .agg #[(.int .i64 ba), (.int .i64 bb), (.int .i64 bc)]]) (by simp [results, Tryz.results200, go_sem, q0, q1, q2]) rfl ⟨z, _, _, _, rfl, TF'.b⟩
  · have ex : (x == 1) = false := by simpa using hx1
    obtain ⟨⟨s0, s1, s2⟩, ⟨f0, f1, f2⟩, _, _⟩ := HT0.out.s.c
    obtain ⟨⟨r0, r1, r2⟩, ⟨g0, g1, g2⟩, _, _⟩ := HT0.out.r.c
    have TF := Lib.hid (HT0.out.fillR HNE.out (.int .i64 ba) (.int .i64 bb) (.int .i64 bc))
    refine wp_region_heldE 14 (S := (fun w' => (w'.cell? ⟨w.heap.size, 0, none⟩ = some (.int .i64 ba) ∧ w'.cell? ⟨w.heap.size, 1, none⟩ = some (.int .i64 bb)) ∧ w'.cell? ⟨w.heap.size, 2, none⟩ = some (.int .i64 bc))) (by kernel_rfl) ?_ (fun hHeld => ?_)
    · exact ⟨⟨s0, s1⟩, s2⟩
    refine rgE_take (v := ?_) 0 16 rfl (by kernel_rfl) (by kernel_rfl) (by kernel_rfl) (by kernel_rfl) (by kernel_rfl) (fun _ _ _ h => h) (by kernel_rfl) ?_ (by assumption) ?_
    rotate_left
    · (intro w' hSw; (try dsimp only at hSw); go_simp; first | done | with_reducible rfl)
    simp only [Act.put, List.setIfInBounds_toArray, List.set_cons_zero, List.set_cons_succ]
    refine rgE_take (v := ?_) 1 16 rfl (by kernel_rfl) (by kernel_rfl) (by kernel_rfl) (by kernel_rfl) (by kernel_rfl) (fun _ _ _ h => h) (by kernel_rfl) ?_ (by assumption) ?_
    rotate_left
    · (intro w' hSw; (try dsimp only at hSw); go_simp; first | done | with_reducible rfl)
    simp only [Act.put, List.setIfInBounds_toArray, List.set_cons_zero, List.set_cons_succ]
    refine rgE_take (v := ?_) 2 16 rfl (by kernel_rfl) (by kernel_rfl) (by kernel_rfl) (by kernel_rfl) (by kernel_rfl) (fun _ _ _ h => h) (by kernel_rfl) ?_ (by assumption) ?_
    rotate_left
    · (intro w' hSw; (try dsimp only at hSw); go_simp; first | done | with_reducible rfl)
    simp only [Act.put, List.setIfInBounds_toArray, List.set_cons_zero, List.set_cons_succ]
    refine rgE_skip 3 16 rfl (by kernel_rfl) (by kernel_rfl) (by kernel_rfl) (by kernel_rfl) (by kernel_rfl) (fun _ _ _ h => h) (by kernel_rfl) (by assumption) ?_
    simp only [Act.put, List.setIfInBounds_toArray, List.set_cons_zero, List.set_cons_succ]
    refine rgE_skip 4 16 rfl (by kernel_rfl) (by kernel_rfl) (by kernel_rfl) (by kernel_rfl) (by kernel_rfl) (fun _ _ _ h => h) (by kernel_rfl) (by assumption) ?_
    simp only [Act.put, List.setIfInBounds_toArray, List.set_cons_zero, List.set_cons_succ]
    refine rgE_take (v := ?_) 5 16 rfl (by kernel_rfl) (by kernel_rfl) (by kernel_rfl) (by kernel_rfl) (by kernel_rfl) (fun _ _ _ h => h) (by kernel_rfl) ?_ (by assumption) ?_
    rotate_left
    · (intro w' hSw; (try dsimp only at hSw); go_simp; first | done | with_reducible rfl)
    simp only [Act.put, List.setIfInBounds_toArray, List.set_cons_zero, List.set_cons_succ]
    refine rgE_take (v := ?_) 6 16 rfl (by kernel_rfl) (by kernel_rfl) (by kernel_rfl) (by kernel_rfl) (by kernel_rfl) (fun _ _ _ h => h) (by kernel_rfl) ?_ (by assumption) ?_
    rotate_left
    · (intro w' hSw; (try dsimp only at hSw); go_simp; first | done | with_reducible rfl)
    simp only [Act.put, List.setIfInBounds_toArray, List.set_cons_zero, List.set_cons_succ]
    refine rgE_skip 7 16 rfl (by kernel_rfl) (by kernel_rfl) (by kernel_rfl) (by kernel_rfl) (by kernel_rfl) (fun _ _ _ h => h) (by kernel_rfl) (by assumption) ?_
    simp only [Act.put, List.setIfInBounds_toArray, List.set_cons_zero, List.set_cons_succ]
    refine rgE_skip 8 16 rfl (by kernel_rfl) (by kernel_rfl) (by kernel_rfl) (by kernel_rfl) (by kernel_rfl) (fun _ _ _ h => h) (by kernel_rfl) (by assumption) ?_
    simp only [Act.put, List.setIfInBounds_toArray, List.set_cons_zero, List.set_cons_succ]
    refine rgE_skip 9 16 rfl (by kernel_rfl) (by kernel_rfl) (by kernel_rfl) (by kernel_rfl) (by kernel_rfl) (fun _ _ _ h => h) (by kernel_rfl) (by assumption) ?_
    simp only [Act.put, List.setIfInBounds_toArray, List.set_cons_zero, List.set_cons_succ]
    refine rgE_take (v := ?_) 10 16 rfl (by kernel_rfl) (by kernel_rfl) (by kernel_rfl) (by kernel_rfl) (by kernel_rfl) (fun _ _ _ h => h) (by kernel_rfl) ?_ (by assumption) ?_
    rotate_left
    · (intro w' hSw; (try dsimp only at hSw); go_simp; first | done | with_reducible rfl)
    simp only [Act.put, List.setIfInBounds_toArray, List.set_cons_zero, List.set_cons_succ]
    refine rgE_take (v := ?_) 12 16 rfl (by kernel_rfl) (by kernel_rfl) (by kernel_rfl) (by kernel_rfl) (by kernel_rfl) (fun _ _ _ h => h) (by kernel_rfl) ?_ (by assumption) ?_
    rotate_left
    · (intro w' hSw; (try dsimp only at hSw); go_simp; first | done | with_reducible rfl)
    simp only [Act.put, List.setIfInBounds_toArray, List.set_cons_zero, List.set_cons_succ]
    refine rgE_run 11 rfl (by kernel_rfl) (by kernel_rfl) (by decide) (fun K hK => ?_)
    go_simp
    refine (c_l15Bit _ _).mono ?_
    rintro e w' ⟨z, rfl, rfl⟩
    go_wp2
    clear hHeld
    refine hK.out _ _ (.inr (by exact ⟨⟨s0, s1⟩, s2⟩)) (fun hHeld => ?_)
    clear hK K
    try simp only [Act.put, List.setIfInBounds_toArray, List.set_cons_zero, List.set_cons_succ]
    refine rgE_take (v := ?_) 13 16 rfl (by kernel_rfl) (by kernel_rfl) (by kernel_rfl) (by kernel_rfl) (by kernel_rfl) (fun _ _ _ h => h) (by kernel_rfl) ?_ (by assumption) ?_
    rotate_left
    · (intro w' hSw; (try dsimp only at hSw); go_simp; first | done | with_reducible rfl)
    simp only [Act.put, List.setIfInBounds_toArray, List.set_cons_zero, List.set_cons_succ]
    refine rgE_last rfl (by kernel_rfl) (by kernel_rfl) (by kernel_rfl) (fun K hK => ?_)
    go_simp
    clear hHeld
    refine hK.out _ _ ?_
    clear hK K
    try simp only [Act.put, List.setIfInBounds_toArray, List.set_cons_zero, List.set_cons_succ]
    have TF' := TF.out.drew
    clear TF
    go_wp2_with (fail)
    generalize (((w0.drew.setCell ⟨(w.heap.size + 1), 0, none⟩ (.int .i64 ba)).setCell ⟨(w.heap.size + 1), 1, none⟩ (.int .i64 bb)).setCell ⟨(w.heap.size + 1), 2, none⟩ (.int .i64 bc)) = WF at *
    obtain ⟨⟨q0, q1, q2⟩, _, _, _⟩ := TF'.r.c
    clear s0 s1 s2 f0 f1 f2 r0 r1 r2 g0 g1 g2
    refine bodyPost_ret (v := .tuple #[.int .i64 z, .agg #[(.int .i64 ba), (.int .i64 bb), (.int .i64 bc)]]) (by simp [results, Tryz.results200, go_sem, q0, q1, q2]) rfl ⟨z, _, _, _, rfl, TF'.b⟩
end Go.Proofs.YteengjcplmjakaaGreatDoor

/- One step of a block, on the reference's side: it returns a value and a state (printed by FbS.py). Condition: an argument is there. -/
namespace Go.Proofs.YteengjcplmjakaaGreatDoor
open Go.RowKit

theorem results_tb {fn : Func} {t u : Tmp} (h : fn.results = #[.tmp t, .cell u 62]) (tmps : Array Value) (w : World) {b : Nat} {x0 x1 x2 : Value} (hu : tmps.getD u undef = .pointer (some ⟨b, 0, none⟩))
    (q0 : w.cell? ⟨b, 0, none⟩ = some x0) (q1 : w.cell? ⟨b, 1, none⟩ = some x1) (q2 : w.cell? ⟨b, 2, none⟩ = some x2) : (results fn tmps).run Tryz.prog w = .ok (.tuple #[tmps.getD t undef, .agg #[x0, x1, x2]]) w := by
  have hu' : tmps[u]?.getD undef = .pointer (some ⟨b, 0, none⟩) := by simpa using hu
  simp [results, h, hu', go_sem, q0, q1, q2]
theorem step_end {fn : Func} {t u : Tmp} (h : fn.results = #[.tmp t, .cell u 62]) {tmps : Array Value} {w0 W : World} {rb : Nat} {y0 y1 y2 v0 v1 v2 : Value} {z a b c : Int} (hb : BBox W w0.heap.size rb [y0, y1, y2]) (hB : Below w0.heap.size w0 W)
    (hu : tmps.getD u undef = .pointer (some ⟨rb, 0, none⟩)) (ht : tmps.getD t undef = .int .i64 z) (h0 : v0 = .int .i64 a) (h1 : v1 = .int .i64 b) (h2 : v2 = .int .i64 c) :
    bodyPost Tryz.prog fn (StP w0) .ret ⟨tmps, []⟩ (((W.setCell ⟨rb, 0, none⟩ v0).setCell ⟨rb, 1, none⟩ v1).setCell ⟨rb, 2, none⟩ v2) := by
  have hf := hb.fill v0 v1 v2
  obtain ⟨⟨q0, q1, q2⟩, _, hlo, _⟩ := hf.1.c
  refine bodyPost_ret (results_tb h tmps _ hu q0 q1 q2) rfl ⟨z, a, b, c, by rw [ht, h0, h1, h2], below_of_grown hB hf.2 (fun q hq => by simp at hq; omega)⟩
theorem step_endD {fn : Func} {t u : Tmp} (h : fn.results = #[.tmp t, .cell u 62]) {tmps : Array Value} {w0 W : World} {rb : Nat} {y0 y1 y2 v0 v1 v2 : Value} {z a b c : Int} (hb : BBox W w0.heap.size rb [y0, y1, y2]) (hB : Below w0.heap.size w0 W)
    (hu : tmps.getD u undef = .pointer (some ⟨rb, 0, none⟩)) (ht : tmps.getD t undef = .int .i64 z) (h0 : v0 = .int .i64 a) (h1 : v1 = .int .i64 b) (h2 : v2 = .int .i64 c) :
    bodyPost Tryz.prog fn (StP w0) .ret ⟨tmps, []⟩ (((W.setCell ⟨rb, 0, none⟩ v0).setCell ⟨rb, 1, none⟩ v1).setCell ⟨rb, 2, none⟩ v2).drew :=
  step_end h (W := W.drew) (own_below hb (Below.refl _ _).drew) hB.drew hu ht h0 h1 h2
set_option maxHeartbeats 4000000 in
set_option maxRecDepth 100000 in
theorem c_l15Step (k : Int) (nm : ByteArray) (n ba bb bc : Int) (A : Option Addr) (c m : Nat) (zs : List Int) (w : World) (hk : 7 ≤ k ∧ k ≤ 12) (hm : m = zs.length) (hm1 : 1 ≤ m) (hs : m ≤ 1048576) (hr : Rd w A (ints zs)) :
    Calls Tryz.prog 198 #[.agg #[.int .i64 k, .string nm, .int .i64 n], .agg #[.int .i64 ba, .int .i64 bb, .int .i64 bc], .slice A m c] w (StP w) := by
  have BA0 := below_alloc (below_alloc (Below.refl w.heap.size w) (.cells #[.int .i64 k, .string nm, .int .i64 n] 60)) (.cells #[.int .i64 ba, .int .i64 bb, .int .i64 bc] 62)
  have HB0 := Lib.hid (below_alloc BA0 (.cells #[.int .i64 0, .int .i64 0, .int .i64 0] 62))
  have HR0 : Hid (BBox (((w.alloc (.cells #[.int .i64 k, .string nm, .int .i64 n] 60)).alloc (.cells #[.int .i64 ba, .int .i64 bb, .int .i64 bc] 62)).alloc (.cells #[.int .i64 0, .int .i64 0, .int .i64 0] 62)) w.heap.size (w.heap.size + 1 + 1) [.int .i64 0, .int .i64 0, .int .i64 0]) := Lib.hid (by
    have h := own_box ((w.alloc (.cells #[.int .i64 k, .string nm, .int .i64 n] 60)).alloc (.cells #[.int .i64 ba, .int .i64 bb, .int .i64 bc] 62)) w.heap.size 62 [.int .i64 0, .int .i64 0, .int .i64 0] 3 rfl (by simp; omega)
    simpa [BBox] using h)
  obtain ⟨x, hx⟩ : ∃ x, zs[0]? = some x := ⟨_, List.getElem?_eq_getElem (by omega)⟩
  obtain ⟨b, off, rfl, hbl, g0⟩ := (hr.below HB0.out).int hx
  have HRD := Lib.hid (hr.below HB0.out)
  have hm0 : (0 : Int) < m := by omega
  have HX := Lib.hid hx
  have HM := Lib.hid hm
  clear hr hx BA0 hm hbl
  have k0 : (((w.alloc (.cells #[.int .i64 k, .string nm, .int .i64 n] 60)).alloc (.cells #[.int .i64 ba, .int .i64 bb, .int .i64 bc] 62)).alloc (.cells #[.int .i64 0, .int .i64 0, .int .i64 0] 62)).cell? ⟨w.heap.size, 0, none⟩ = some (.int .i64 k) := by go_simp
  have k1 : (((w.alloc (.cells #[.int .i64 k, .string nm, .int .i64 n] 60)).alloc (.cells #[.int .i64 ba, .int .i64 bb, .int .i64 bc] 62)).alloc (.cells #[.int .i64 0, .int .i64 0, .int .i64 0] 62)).cell? ⟨w.heap.size, 1, none⟩ = some (.string nm) := by go_simp
  have k2 : (((w.alloc (.cells #[.int .i64 k, .string nm, .int .i64 n] 60)).alloc (.cells #[.int .i64 ba, .int .i64 bb, .int .i64 bc] 62)).alloc (.cells #[.int .i64 0, .int .i64 0, .int .i64 0] 62)).cell? ⟨w.heap.size, 2, none⟩ = some (.int .i64 n) := by go_simp
  have s0 : (((w.alloc (.cells #[.int .i64 k, .string nm, .int .i64 n] 60)).alloc (.cells #[.int .i64 ba, .int .i64 bb, .int .i64 bc] 62)).alloc (.cells #[.int .i64 0, .int .i64 0, .int .i64 0] 62)).cell? ⟨w.heap.size + 1, 0, none⟩ = some (.int .i64 ba) := by go_simp
  have s1 : (((w.alloc (.cells #[.int .i64 k, .string nm, .int .i64 n] 60)).alloc (.cells #[.int .i64 ba, .int .i64 bb, .int .i64 bc] 62)).alloc (.cells #[.int .i64 0, .int .i64 0, .int .i64 0] 62)).cell? ⟨w.heap.size + 1, 1, none⟩ = some (.int .i64 bb) := by go_simp
  have s2 : (((w.alloc (.cells #[.int .i64 k, .string nm, .int .i64 n] 60)).alloc (.cells #[.int .i64 ba, .int .i64 bb, .int .i64 bc] 62)).alloc (.cells #[.int .i64 0, .int .i64 0, .int .i64 0] 62)).cell? ⟨w.heap.size + 1, 2, none⟩ = some (.int .i64 bc) := by go_simp
  obtain ⟨⟨r0, r1, r2⟩, ⟨f0, f1, f2⟩, _, _⟩ := HR0.out.c
  simp only [Nat.add_zero] at g0
  have hks : k = 7 ∨ k = 8 ∨ k = 9 ∨ k = 10 ∨ k = 11 ∨ k = 12 := by omega
  clear hk
  go_enter Tryz.func198, Tryz.ntmps198
  go_upto_region 1 with (fail)
  generalize ((w.alloc (.cells #[.int .i64 k, .string nm, .int .i64 n] 60)).alloc (.cells #[.int .i64 ba, .int .i64 bb, .int .i64 bc] 62)).alloc (.cells #[.int .i64 0, .int .i64 0, .int .i64 0] 62) = w0 at *
  by_cases hm2 : 1 < m
  · have hm3 : (1 : Int) < m := by omega
    obtain ⟨y, hy⟩ : ∃ y, zs[1]? = some y := ⟨_, List.getElem?_eq_getElem (by have := HM.out; omega)⟩
    obtain ⟨b', off', e, _, g1⟩ := HRD.out.int hy
    simp only [Option.some.injEq, Addr.mk.injEq, and_true] at e
    obtain ⟨rfl, rfl⟩ := e
    clear hy
    rcases hks with rfl | rfl | rfl | rfl | rfl | rfl
    · by_cases hx1 : x = 1
      · subst hx1
        go_wp2_with (fail)
        refine (c_l15Bit _ _).mono ?_
        rintro e w' ⟨z, rfl, rfl⟩
        go_wp2_with (fail)
        exact step_end rfl HR0.out HB0.out rfl rfl rfl rfl rfl
      · have ex : (x == 1) = false := by simpa using hx1
        go_wp2_with (fail)
        refine (c_l15Bit _ _).mono ?_
        rintro e w' ⟨z, rfl, rfl⟩
        go_wp2_with (fail)
        exact step_end rfl HR0.out HB0.out rfl rfl rfl rfl rfl
    · by_cases hx1 : x = 1
      · subst hx1
        go_upto_region 11 with (fail)
        refine wp_region_heldE 4 (S := (fun w' => w'.cell? ⟨w.heap.size, 2, none⟩ = some (.int .i64 n))) (by kernel_rfl) ?_ (fun hHeld => ?_)
        · exact k2
        refine rgE_take (v := ?_) 0 12 rfl (by kernel_rfl) (by kernel_rfl) (by kernel_rfl) (by kernel_rfl) (by kernel_rfl) (fun _ _ _ h => h) (by kernel_rfl) ?_ (by assumption) ?_
        rotate_left
        · (intro w' hSw; (try dsimp only at hSw); go_simp; first | done | with_reducible rfl)
        simp only [Act.put, List.setIfInBounds_toArray, List.set_cons_zero, List.set_cons_succ]
        refine rgE_take (v := ?_) 1 12 rfl (by kernel_rfl) (by kernel_rfl) (by kernel_rfl) (by kernel_rfl) (by kernel_rfl) (fun _ _ _ h => h) (by kernel_rfl) ?_ (by assumption) ?_
        rotate_left
        · (intro w' hSw; (try dsimp only at hSw); go_simp; first | done | with_reducible rfl)
        simp only [Act.put, List.setIfInBounds_toArray, List.set_cons_zero, List.set_cons_succ]
        refine rgE_take (v := ?_) 2 12 rfl (by kernel_rfl) (by kernel_rfl) (by kernel_rfl) (by kernel_rfl) (by kernel_rfl) (fun _ _ _ h => h) (by kernel_rfl) ?_ (by assumption) ?_
        rotate_left
        · (intro w' hSw; (try dsimp only at hSw); go_simp; first | done | with_reducible rfl)
        simp only [Act.put, List.setIfInBounds_toArray, List.set_cons_zero, List.set_cons_succ]
        refine rgE_take (v := ?_) 3 12 rfl (by kernel_rfl) (by kernel_rfl) (by kernel_rfl) (by kernel_rfl) (by kernel_rfl) (fun _ _ _ h => h) (by kernel_rfl) ?_ (by assumption) ?_
        rotate_left
        · (intro w' hSw; (try dsimp only at hSw); go_simp; first | done | with_reducible rfl)
        simp only [Act.put, List.setIfInBounds_toArray, List.set_cons_zero, List.set_cons_succ]
        refine rgE_last rfl (by kernel_rfl) (by kernel_rfl) (by kernel_rfl) (fun K hK => ?_)
        go_simp
        clear hHeld
        refine hK.out _ _ ?_
        clear hK K
        try simp only [Act.put, List.setIfInBounds_toArray, List.set_cons_zero, List.set_cons_succ]
        go_wp2_with (fail)
        exact step_endD rfl HR0.out HB0.out rfl rfl rfl rfl rfl
      · have ex : (x == 1) = false := by simpa using hx1
        go_wp2_with (fail)
        refine (c_l15Bit _ _).mono ?_
        rintro e w' ⟨z, rfl, rfl⟩
        go_wp2_with (fail)
        exact step_end rfl HR0.out HB0.out rfl rfl rfl rfl rfl
    · by_cases hx1 : x = 1
      · subst hx1
        go_wp2_with (fail)
        refine (c_l15Bit _ _).mono ?_
        rintro e w' ⟨z, rfl, rfl⟩
        go_wp2_with (fail)
        exact step_end rfl HR0.out HB0.out rfl rfl rfl rfl rfl
      · have ex : (x == 1) = false := by simpa using hx1
        go_wp2_with (fail)
        refine (c_l15Bit _ _).mono ?_
        rintro e w' ⟨z, rfl, rfl⟩
        go_wp2_with (fail)
        exact step_end rfl HR0.out HB0.out rfl rfl rfl rfl rfl
    · by_cases hy1 : y = 1
      · subst hy1
        go_wp2_with (fail)
        exact step_end rfl HR0.out HB0.out rfl rfl rfl rfl rfl
      · have ey : (y == 1) = false := by simpa using hy1
        by_cases hx1 : x = 1
        · subst hx1
          go_wp2_with (fail)
          exact step_end rfl HR0.out HB0.out rfl rfl rfl rfl rfl
        · have ex : (x == 1) = false := by simpa using hx1
          go_wp2_with (fail)
          exact step_end rfl HR0.out HB0.out rfl rfl rfl rfl rfl
    · by_cases hy1 : y = 1
      · subst hy1
        go_wp2_with (fail)
        refine (c_l15Bit _ _).mono ?_
        rintro e w' ⟨z, rfl, rfl⟩
        go_wp2_with (fail)
        exact step_end rfl HR0.out HB0.out rfl rfl rfl rfl rfl
      · have ey : (y == 1) = false := by simpa using hy1
        by_cases hx1 : x = 1
        · subst hx1
          by_cases hb1 : bb = 0
          · subst hb1
            go_wp2_with (fail)
            refine (c_l15Bit _ _).mono ?_
            rintro e w' ⟨z, rfl, rfl⟩
            go_wp2_with (fail)
            exact step_end rfl HR0.out HB0.out rfl rfl rfl rfl rfl
          · have eb : (bb == 0) = false := by simpa using hb1
            go_wp2_with (fail)
            refine (c_l15Bit _ _).mono ?_
            rintro e w' ⟨z, rfl, rfl⟩
            go_wp2_with (fail)
            exact step_end rfl HR0.out HB0.out rfl rfl rfl rfl rfl
        · have ex : (x == 1) = false := by simpa using hx1
          go_wp2_with (fail)
          refine (c_l15Bit _ _).mono ?_
          rintro e w' ⟨z, rfl, rfl⟩
          go_wp2_with (fail)
          exact step_end rfl HR0.out HB0.out rfl rfl rfl rfl rfl
    · skip
      go_wp2_with (fail)
      refine (c_l15Pair _ _ _ _ _ _ _).mono ?_
      rintro e w1 ⟨z, a1, b1, c1, rfl, hb⟩
      have HR1 : Hid (BBox _ _ _ _) := Lib.hid (own_below HR0.out hb)
      have HB1 := Lib.hid (below_chain HB0.out hb)
      clear hb HR0 r0 r1 r2 f0 f1 f2
      obtain ⟨⟨r0, r1, r2⟩, ⟨f0, f1, f2⟩, _, _⟩ := HR1.out.c
      go_wp2_with (fail)
      exact step_end rfl HR1.out HB1.out rfl rfl rfl rfl rfl
  · obtain rfl : m = 1 := by omega
    skip
    rcases hks with rfl | rfl | rfl | rfl | rfl | rfl
    · by_cases hx1 : x = 1
      · subst hx1
        go_wp2_with (fail)
        refine (c_l15Bit _ _).mono ?_
        rintro e w' ⟨z, rfl, rfl⟩
        go_wp2_with (fail)
        exact step_end rfl HR0.out HB0.out rfl rfl rfl rfl rfl
      · have ex : (x == 1) = false := by simpa using hx1
        go_wp2_with (fail)
        refine (c_l15Bit _ _).mono ?_
        rintro e w' ⟨z, rfl, rfl⟩
        go_wp2_with (fail)
        exact step_end rfl HR0.out HB0.out rfl rfl rfl rfl rfl
    · by_cases hx1 : x = 1
      · subst hx1
        go_upto_region 11 with (fail)
        refine wp_region_heldE 4 (S := (fun w' => w'.cell? ⟨w.heap.size, 2, none⟩ = some (.int .i64 n))) (by kernel_rfl) ?_ (fun hHeld => ?_)
        · exact k2
        refine rgE_take (v := ?_) 0 12 rfl (by kernel_rfl) (by kernel_rfl) (by kernel_rfl) (by kernel_rfl) (by kernel_rfl) (fun _ _ _ h => h) (by kernel_rfl) ?_ (by assumption) ?_
        rotate_left
        · (intro w' hSw; (try dsimp only at hSw); go_simp; first | done | with_reducible rfl)
        simp only [Act.put, List.setIfInBounds_toArray, List.set_cons_zero, List.set_cons_succ]
        refine rgE_take (v := ?_) 1 12 rfl (by kernel_rfl) (by kernel_rfl) (by kernel_rfl) (by kernel_rfl) (by kernel_rfl) (fun _ _ _ h => h) (by kernel_rfl) ?_ (by assumption) ?_
        rotate_left
        · (intro w' hSw; (try dsimp only at hSw); go_simp; first | done | with_reducible rfl)
        simp only [Act.put, List.setIfInBounds_toArray, List.set_cons_zero, List.set_cons_succ]
        refine rgE_take (v := ?_) 2 12 rfl (by kernel_rfl) (by kernel_rfl) (by kernel_rfl) (by kernel_rfl) (by kernel_rfl) (fun _ _ _ h => h) (by kernel_rfl) ?_ (by assumption) ?_
        rotate_left
        · (intro w' hSw; (try dsimp only at hSw); go_simp; first | done | with_reducible rfl)
        simp only [Act.put, List.setIfInBounds_toArray, List.set_cons_zero, List.set_cons_succ]
        refine rgE_take (v := ?_) 3 12 rfl (by kernel_rfl) (by kernel_rfl) (by kernel_rfl) (by kernel_rfl) (by kernel_rfl) (fun _ _ _ h => h) (by kernel_rfl) ?_ (by assumption) ?_
        rotate_left
        · (intro w' hSw; (try dsimp only at hSw); go_simp; first | done | with_reducible rfl)
        simp only [Act.put, List.setIfInBounds_toArray, List.set_cons_zero, List.set_cons_succ]
        refine rgE_last rfl (by kernel_rfl) (by kernel_rfl) (by kernel_rfl) (fun K hK => ?_)
        go_simp
        clear hHeld
        refine hK.out _ _ ?_
        clear hK K
        try simp only [Act.put, List.setIfInBounds_toArray, List.set_cons_zero, List.set_cons_succ]
        go_wp2_with (fail)
        exact step_endD rfl HR0.out HB0.out rfl rfl rfl rfl rfl
      · have ex : (x == 1) = false := by simpa using hx1
        go_wp2_with (fail)
        refine (c_l15Bit _ _).mono ?_
        rintro e w' ⟨z, rfl, rfl⟩
        go_wp2_with (fail)
        exact step_end rfl HR0.out HB0.out rfl rfl rfl rfl rfl
    · by_cases hx1 : x = 1
      · subst hx1
        go_wp2_with (fail)
        refine (c_l15Bit _ _).mono ?_
        rintro e w' ⟨z, rfl, rfl⟩
        go_wp2_with (fail)
        exact step_end rfl HR0.out HB0.out rfl rfl rfl rfl rfl
      · have ex : (x == 1) = false := by simpa using hx1
        go_wp2_with (fail)
        refine (c_l15Bit _ _).mono ?_
        rintro e w' ⟨z, rfl, rfl⟩
        go_wp2_with (fail)
        exact step_end rfl HR0.out HB0.out rfl rfl rfl rfl rfl
    · by_cases hx1 : x = 1
      · subst hx1
        go_wp2_with (fail)
        exact step_end rfl HR0.out HB0.out rfl rfl rfl rfl rfl
      · have ex : (x == 1) = false := by simpa using hx1
        go_wp2_with (fail)
        exact step_end rfl HR0.out HB0.out rfl rfl rfl rfl rfl
    · by_cases hx1 : x = 1
      · subst hx1
        by_cases hb1 : bb = 0
        · subst hb1
          go_wp2_with (fail)
          refine (c_l15Bit _ _).mono ?_
          rintro e w' ⟨z, rfl, rfl⟩
          go_wp2_with (fail)
          exact step_end rfl HR0.out HB0.out rfl rfl rfl rfl rfl
        · have eb : (bb == 0) = false := by simpa using hb1
          go_wp2_with (fail)
          refine (c_l15Bit _ _).mono ?_
          rintro e w' ⟨z, rfl, rfl⟩
          go_wp2_with (fail)
          exact step_end rfl HR0.out HB0.out rfl rfl rfl rfl rfl
      · have ex : (x == 1) = false := by simpa using hx1
        go_wp2_with (fail)
        refine (c_l15Bit _ _).mono ?_
        rintro e w' ⟨z, rfl, rfl⟩
        go_wp2_with (fail)
        exact step_end rfl HR0.out HB0.out rfl rfl rfl rfl rfl
    · skip
      go_wp2_with (fail)
      refine (c_l15Pair _ _ _ _ _ _ _).mono ?_
      rintro e w1 ⟨z, a1, b1, c1, rfl, hb⟩
      have HR1 : Hid (BBox _ _ _ _) := Lib.hid (own_below HR0.out hb)
      have HB1 := Lib.hid (below_chain HB0.out hb)
      clear hb HR0 r0 r1 r2 f0 f1 f2
      obtain ⟨⟨r0, r1, r2⟩, ⟨f0, f1, f2⟩, _, _⟩ := HR1.out.c
      go_wp2_with (fail)
      exact step_end rfl HR1.out HB1.out rfl rfl rfl rfl rfl
end Go.Proofs.YteengjcplmjakaaGreatDoor

/- A name's value in a scan, on the reference's side: it returns some number. Condition: the name is an input's or a variable's; the lengths. -/
namespace Go.Proofs.YteengjcplmjakaaGreatDoor
open Go.RowKit

/-- Some number; nothing of before has turned. -/
def IntP (w : World) (e : Ending) (w' : World) : Prop := ∃ z, e = .returned (.int .i64 z) ∧ Below w.heap.size w w'
theorem int_at {w : World} {A : Option Addr} {zs : List Int} {z0 : Int} (h : Rd w A (ints zs)) (h0 : 0 ≤ z0) (h1 : z0 < zs.length) : ∃ (k : Nat) (b off : Nat) (z : Int), z0 = k ∧ A = some ⟨b, off, none⟩ ∧ w.cell? ⟨b, off + k, none⟩ = some (.int .i64 z) := by
  obtain ⟨k, rfl⟩ : ∃ k : Nat, z0 = k := ⟨z0.toNat, by omega⟩
  obtain ⟨z, hz⟩ : ∃ z, zs[k]? = some z := ⟨_, List.getElem?_eq_getElem (by omega)⟩
  obtain ⟨b, off, rfl, _, g⟩ := h.int hz
  exact ⟨k, b, off, z, rfl, rfl, g⟩
set_option maxHeartbeats 2000000 in
set_option maxRecDepth 100000 in
theorem c_l16Value (p : Prg) (a1 a2 a3 a4 x1 x2 I : Option Addr) (c1 c2 c3 c4 d1 d2 ci ni nv nb : Nat) (vs is : List Int) (s : ByteArray) (w : World) (hs : PgOk p) (h : PgR w a1 a2 a3 a4 p) (hv : nv = vs.length) (hv2 : nv = p.vs.length) (hx : Rd w x1 (ints vs)) (hi : ni = is.length) (hi2 : ni = p.ins.length) (hI : Rd w I (ints is)) (hm : s ∈ p.ins ∨ s ∈ p.vs) :
    Calls Tryz.prog 196 #[pv p a1 a2 a3 a4 c1 c2 c3 c4, .agg #[.slice x1 nv d1, .slice x2 nb d2], .slice I ni ci, .string s] w (IntP w) := by
  have H := Lib.hid h
  have HX := Lib.hid hx
  have HII := Lib.hid hI
  have HI := Lib.hid (fun w h => c_l14Index a1 c1 _ p.ins s w rfl hs.i.1 h)
  have HJ := Lib.hid (fun w h => c_l14Index a2 c2 _ p.vs s w rfl hs.v.1 h)
  have hb1 := ixS_bd s p.ins
  have hb2 := ixS_bd s p.vs
  have HV : Hid (0 ≤ ixS p.ins s ∨ ixS p.ins s < 0 ∧ 0 ≤ ixS p.vs s) := Lib.hid (by
    by_cases h0 : 0 ≤ ixS p.ins s
    · exact .inl h0
    · exact .inr ⟨by omega, hm.elim (fun hm => absurd (ix_mem hm) h0) (fun hm => ix_mem hm)⟩)
  have HL1 : Hid (ixS p.ins s < is.length) := Lib.hid (by rw [← hi, hi2]; exact hb1.2)
  have HL2 : Hid (ixS p.vs s < vs.length) := Lib.hid (by rw [← hv, hv2]; exact hb2.2)
  have HNI := Lib.hid hi
  have HNV := Lib.hid hv
  generalize ixS p.ins s = z at *
  generalize ixS p.vs s = z2 at *
  have BA := below_alloc (below_alloc (Below.refl w.heap.size w) (.cells #[.string p.nm, .slice a1 p.ins.length c1, .slice a2 p.vs.length c2, .slice a3 p.os.length c3, .string p.gd, .slice a4 p.ls.length c4] 27)) (.cells #[.slice x1 nv d1, .slice x2 nb d2] 48)
  have B0 := Lib.hid BA
  have HP : Hid (PB ((w.alloc (.cells #[.string p.nm, .slice a1 p.ins.length c1, .slice a2 p.vs.length c2, .slice a3 p.os.length c3, .string p.gd, .slice a4 p.ls.length c4] 27)).alloc (.cells #[.slice x1 nv d1, .slice x2 nb d2] 48)) w.heap.size p a1 a2 a3 a4 c1 c2 c3 c4) := Lib.hid ⟨by go_simp, by go_simp, by go_simp, by go_simp, by go_simp, by go_simp⟩
  have y0 : ((w.alloc (.cells #[.string p.nm, .slice a1 p.ins.length c1, .slice a2 p.vs.length c2, .slice a3 p.os.length c3, .string p.gd, .slice a4 p.ls.length c4] 27)).alloc (.cells #[.slice x1 nv d1, .slice x2 nb d2] 48)).cell? ⟨w.heap.size + 1, 0, none⟩ = some (.slice x1 nv d1) := by go_simp
  clear h hx hI hs hm hb1 hb2 hv hv2 hi hi2 BA
  go_enter Tryz.func196, Tryz.ntmps196
  dsimp only [pv]
  go_upto_region 1 with (fail)
  generalize (w.alloc (.cells #[.string p.nm, .slice a1 p.ins.length c1, .slice a2 p.vs.length c2, .slice a3 p.os.length c3, .string p.gd, .slice a4 p.ls.length c4] 27)).alloc (.cells #[.slice x1 nv d1, .slice x2 nb d2] 48) = W at *
  obtain ⟨k0, k1, k2, k3, k4, k5⟩ := HP.out
  go_wp2_with (fail)
  refine (HI.out _ (H.out.i.below B0.out)).mono ?_
  rintro e w1 ⟨rfl, hb⟩
  have B1 := Lib.hid (below_chain B0.out hb)
  replace k2 := cell_later hb (by exact k2)
  replace y0 := cell_later hb (by exact y0)
  clear hb k0 k1 k3 k4 k5 HP
  rcases HV.out with h0 | ⟨h0, h0'⟩
  · obtain ⟨k, b, off, u, rfl, rfl, g0⟩ := int_at (HII.out.below B1.out) h0 HL1.out
    have hk1 : (k : Int) < ni := by have := HL1.out; have := HNI.out; omega
    clear HV HL2
    go_wp2_with (fail)
    go_ret
    exact ⟨u, rfl, B1.out⟩
  · have hz0 : ¬ 0 ≤ z := by omega
    obtain ⟨k, b, off, u, rfl, rfl, g0⟩ := int_at (HX.out.below B1.out) h0' HL2.out
    have hk0 : (0 : Int) ≤ k := by omega
    have hk1 : (k : Int) < nv := by have := HL2.out; have := HNV.out; omega
    clear HV HL1
    go_upto_region 4 with (fail)
    refine wp_region_held_drew (S := (fun w' => (w'.cell? ⟨w.heap.size, 2, none⟩ = some (.slice a2 p.vs.length c2) ∧ w'.cell? ⟨w.heap.size + 1, 0, none⟩ = some (.slice (some ⟨b, off, none⟩) nv d1)) ∧ w'.cell? ⟨b, off + k, none⟩ = some (.int .i64 u))) (by kernel_rfl) ?_ (fun hHeld => ?_)
    · exact ⟨⟨k2, y0⟩, g0⟩
    refine rg_take (v := ?_) 0 rfl (by kernel_rfl) (by kernel_rfl) (by kernel_rfl) (fun _ _ _ h => h) (by kernel_rfl) ?_ (by assumption) ?_
    rotate_left
    · (intro w' hSw; (try dsimp only at hSw); go_simp; first | done | with_reducible rfl)
    simp only [Act.put, List.setIfInBounds_toArray, List.set_cons_zero, List.set_cons_succ]
    refine rg_take (v := ?_) 1 rfl (by kernel_rfl) (by kernel_rfl) (by kernel_rfl) (fun _ _ _ h => h) (by kernel_rfl) ?_ (by assumption) ?_
    rotate_left
    · (intro w' hSw; (try dsimp only at hSw); go_simp; first | done | with_reducible rfl)
    simp only [Act.put, List.setIfInBounds_toArray, List.set_cons_zero, List.set_cons_succ]
    refine rg_take (v := ?_) 2 rfl (by kernel_rfl) (by kernel_rfl) (by kernel_rfl) (fun _ _ _ h => h) (by kernel_rfl) ?_ (by assumption) ?_
    rotate_left
    · (intro w' hSw; (try dsimp only at hSw); go_simp; first | done | with_reducible rfl)
    simp only [Act.put, List.setIfInBounds_toArray, List.set_cons_zero, List.set_cons_succ]
    refine rg_take (v := ?_) 3 rfl (by kernel_rfl) (by kernel_rfl) (by kernel_rfl) (fun _ _ _ h => h) (by kernel_rfl) ?_ (by assumption) ?_
    rotate_left
    · (intro w' hSw; (try dsimp only at hSw); go_simp; first | done | with_reducible rfl)
    simp only [Act.put, List.setIfInBounds_toArray, List.set_cons_zero, List.set_cons_succ]
    refine rg_take (v := ?_) 4 rfl (by kernel_rfl) (by kernel_rfl) (by kernel_rfl) (fun _ _ _ h => h) (by kernel_rfl) ?_ (by assumption) ?_
    rotate_left
    · (intro w' hSw; (try dsimp only at hSw); go_simp; first | done | with_reducible rfl)
    simp only [Act.put, List.setIfInBounds_toArray, List.set_cons_zero, List.set_cons_succ]
    refine rg_run 5 rfl (by kernel_rfl) (by kernel_rfl) (fun K hK => ?_)
    go_simp
    refine (HJ.out _ (H.out.v.below B1.out.drew)).mono ?_
    rintro e w2 ⟨rfl, hb⟩
    have B2 := Lib.hid (below_chain B1.out.drew hb)
    have k2' := cell_later (below_chain (Below.refl w1.heap.size w1).drew hb) k2
    have y0' := cell_later (below_chain (Below.refl w1.heap.size w1).drew hb) y0
    have g0' := cell_later (below_chain (Below.refl w1.heap.size w1).drew hb) g0
    clear hb k2 y0 g0
    go_wp2
    clear hHeld
    refine hK.out _ _ (by exact ⟨⟨k2', y0'⟩, g0'⟩) (fun hHeld => ?_)
    clear hK K
    try simp only [Act.put, List.setIfInBounds_toArray, List.set_cons_zero, List.set_cons_succ]
    refine rg_take (v := ?_) 6 rfl (by kernel_rfl) (by kernel_rfl) (by kernel_rfl) (fun _ _ _ h => h) (by kernel_rfl) ?_ (by assumption) ?_
    rotate_left
    · (intro w' hSw; (try dsimp only at hSw); go_simp; first | done | with_reducible rfl)
    simp only [Act.put, List.setIfInBounds_toArray, List.set_cons_zero, List.set_cons_succ]
    refine rg_take (v := ?_) 7 rfl (by kernel_rfl) (by kernel_rfl) (by kernel_rfl) (fun _ _ _ h => h) (by kernel_rfl) ?_ (by assumption) ?_
    rotate_left
    · (intro w' hSw; (try dsimp only at hSw); go_simp; first | done | with_reducible rfl)
    simp only [Act.put, List.setIfInBounds_toArray, List.set_cons_zero, List.set_cons_succ]
    refine rg_take (v := ?_) 8 rfl (by kernel_rfl) (by kernel_rfl) (by kernel_rfl) (fun _ _ _ h => h) (by kernel_rfl) ?_ (by assumption) ?_
    rotate_left
    · (intro w' hSw; (try dsimp only at hSw); go_simp; first | done | with_reducible rfl)
    simp only [Act.put, List.setIfInBounds_toArray, List.set_cons_zero, List.set_cons_succ]
    refine wpAnyH_done (by kernel_rfl) ?_ _
    clear hHeld
    go_wp2_with (fail)
    go_ret
    exact ⟨u, rfl, B2.out⟩
end Go.Proofs.YteengjcplmjakaaGreatDoor

/- Steps: fits, takes, gives, times, on the reference's side. Condition: the code's head is in range. (Turned from CHs by qtexts.py.) -/
namespace Go.Proofs.YteengjcplmjakaaGreatDoor
open Go.RowKit

def blkB (t : Tm) : Bool := trmT t.k t.nm t.n && decide (7 ≤ t.k)
end Go.Proofs.YteengjcplmjakaaGreatDoor

/- The code of a sound program, plainly: its steps, its head, its times. No condition but that the program is sound. -/
namespace Go.Proofs.YteengjcplmjakaaGreatDoor
open Go.RowKit

def nmI (p : Prg) (s : ByteArray) (a b : Int) : Ins := if 0 ≤ ixS p.ins s then ⟨a, ixS p.ins s⟩ else ⟨b, ixS p.vs s⟩
def insT (p : Prg) (b : Nat) (t : Tm) : Ins := if t.k = 1 then nmI p t.nm 2 3 else if t.k = 2 then ⟨1, 1⟩ else if t.k = 3 then ⟨1, 0⟩ else if t.k = 4 ∨ t.k = 5 ∨ t.k = 6 then ⟨t.k, 0⟩ else ⟨7, b⟩
def tgI (p : Prg) (s : ByteArray) : Ins := if 0 ≤ ixS p.vs s then ⟨8, ixS p.vs s⟩ else ⟨9, ixS p.os s⟩
def nbT (l : List Tm) : Nat := (l.filter isB).length
/-- The steps of terms; b blocks are before them. -/
def csT (p : Prg) : Nat → List Tm → List Ins
  | _, [] => []
  | b, t :: l => insT p b t :: csT p (b + nbT [t]) l
theorem nbT_snoc (t : Tm) (l : List Tm) : nbT (l ++ [t]) = nbT l + nbT [t] := by
  unfold nbT
  rw [List.filter_append, List.length_append]
theorem nbT_one (t : Tm) : nbT [t] = if isB t then 1 else 0 := by
  unfold nbT
  rw [List.filter_cons]
  cases isB t <;> rfl
/-- The steps of a line, of lines. -/
def csL (p : Prg) (b : Nat) (l : Lin) : List Ins := csT p b l.ts ++ [tgI p l.tg]
def csP (p : Prg) : Nat → List Lin → List Ins
  | _, [] => []
  | b, l :: r => csL p b l ++ csP p (b + nbT l.ts) r
def nbL (ls : List Lin) : Nat := (ls.flatMap blkL).length
theorem nbL_snoc (l : Lin) (ls : List Lin) : nbL (ls ++ [l]) = nbL ls + nbT l.ts := by
  unfold nbL nbT
  rw [List.flatMap_append, List.length_append]
  simp [blkL]
def gdI (p : Prg) : List Ins := if p.gd.toList.isEmpty then [] else [nmI p p.gd 10 11]
/-- The code of a program. -/
def cmp (p : Prg) : Cd := ⟨p.ins.length, p.vs.length, p.os.length, blk p, csP p 0 p.ls ++ gdI p⟩
theorem blk_cmp {p : Prg} (h : Snd p) : ∀ t ∈ (cmp p).bs, blkB t = true := by
  intro t ht
  obtain ⟨l, hl, ht⟩ := List.mem_flatMap.1 (show t ∈ p.ls.flatMap blkL from ht)
  obtain ⟨ht, h7⟩ := List.mem_filter.1 (show t ∈ l.ts.filter isB from ht)
  unfold blkB
  rw [h.k l hl t ht]
  exact h7
end Go.Proofs.YteengjcplmjakaaGreatDoor

/- Append of an instruction; one step more of a program's code. No condition but the sizes. -/
namespace Go.Proofs.YteengjcplmjakaaGreatDoor
open Go.RowKit

theorem cell_mark' {w w' : World} {row : Option Nat} {a : Addr} {v : Value} (h : w.cell? a = some v) (hg : w.grownBy w' row) (hne : ∀ q, row = some q → q ≠ a.block) : w'.cell? a = some v :=
  (hg.cell_far a (World.block_lt_of_cell? w a h) (fun h' => hne _ h'.symm rfl)).trans h
theorem nbL_step {p : Prg} {k : Nat} {l : Lin} (h : p.ls[k]? = some l) : nbL (p.ls.take (k + 1)) = nbL (p.ls.take k) + nbT l.ts := by
  rw [List.take_add_one, h]
  show nbL (p.ls.take k ++ [l]) = _
  rw [nbL_snoc]
theorem nbT_step {q : Nat} {ts : List Tm} {t : Tm} (h : ts[q]? = some t) : nbT (ts.take (q + 1)) = nbT (ts.take q) + (if isB t then 1 else 0) := by
  rw [List.take_add_one, h]
  show nbT (ts.take q ++ [t]) = _
  rw [nbT_snoc, nbT_one]
theorem nbT_le (l : List Tm) : nbT l ≤ l.length := List.length_filter_le _ _
end Go.Proofs.YteengjcplmjakaaGreatDoor
