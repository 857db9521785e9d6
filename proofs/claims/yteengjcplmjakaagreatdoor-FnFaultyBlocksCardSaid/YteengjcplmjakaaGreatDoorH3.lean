/- Contracts and helpers (joined texts, part 3). The conditions stand at each theorem. -/
import Derived.Test.YteengjcplmjakaaGreatDoorH2
import Derived.Test.YteengjcplmjakaaGreatDoorRgE
import Derived.Test.YteengjcplmjakaaGreatDoorH1
import Derived.Test.YteengjcplmjakaaGreatDoorH0
/- A line of a scan, on the reference's side: it returns some number, and the row of states keeps its length (printed by FbL.py). Condition: the line of a sound program. -/
namespace Go.Proofs.YteengjcplmjakaaGreatDoor
open Go.RowKit

/-- The rows of a memory of the caller's own; w0 the world ahead of them. -/
structure MemW (w0 w : World) (x1 x2 : Option Addr) (d1 d2 nv nb : Nat) (vs : List Int) (bs : List Bs) : Prop where
  v : w.ownsRow w0.heap.size 2 1 (.slice x1 nv d1) nv (ints vs)
  b : w.ownsRow w0.heap.size 62 3 (.slice x2 nb d2) nb (bsCells bs)
  w : Below w0.heap.size w0 w
theorem MemW.below {w0 w w' : World} {x1 x2 : Option Addr} {d1 d2 nv nb : Nat} {vs : List Int} {bs : List Bs} (h : MemW w0 w x1 x2 d1 d2 nv nb vs bs) (hb : Below w.heap.size w w') : MemW w0 w' x1 x2 d1 d2 nv nb vs bs :=
  ⟨own_below h.v hb, own_below h.b hb, below_chain h.w hb⟩
theorem MemW.lenb {w0 w : World} {x1 x2 : Option Addr} {d1 d2 nv nb : Nat} {vs : List Int} {bs : List Bs} (h : MemW w0 w x1 x2 d1 d2 nv nb vs bs) : bs.length = nb := by
  have := h.b.1
  rw [bsCells_length] at this
  omega
theorem MemW.lenv {w0 w : World} {x1 x2 : Option Addr} {d1 d2 nv nb : Nat} {vs : List Int} {bs : List Bs} (h : MemW w0 w x1 x2 d1 d2 nv nb vs bs) : vs.length = nv := by
  have := h.v.1
  rw [ints_length] at this
  omega
theorem bs_set3 (a b c : Int) : ∀ (bs : List Bs) (j : Nat), j < bs.length → (((bsCells bs).set (j * 3) (.int .i64 a)).set (j * 3 + 1) (.int .i64 b)).set (j * 3 + 2) (.int .i64 c) = bsCells (bs.set j ⟨a, b, c⟩)
  | [], j, h => by simp at h
  | t :: l, 0, _ => by simp [bsCells, Bs.cells]
  | t :: l, j + 1, h => by
    have ih := bs_set3 a b c l j (by simpa using h)
    have e : ∀ x : Bs, bsCells (x :: l) = x.cells ++ bsCells l := fun x => by simp [bsCells]
    have e2 : bsCells ((t :: l).set (j + 1) ⟨a, b, c⟩) = t.cells ++ bsCells (l.set j ⟨a, b, c⟩) := by simp [bsCells]
    have hl : t.cells.length = 3 := rfl
    rw [e, e2, ← ih, List.set_append_right _ _ (by rw [hl]; omega), List.set_append_right _ _ (by rw [hl]; omega), List.set_append_right _ _ (by rw [hl]; omega), hl,
      show (j + 1) * 3 - 3 = j * 3 by omega, show (j + 1) * 3 + 1 - 3 = j * 3 + 1 by omega, show (j + 1) * 3 + 2 - 3 = j * 3 + 2 by omega]
theorem MemW.put {w0 w : World} {x1 : Option Addr} {q d1 d2 nv nb : Nat} {vs : List Int} {bs : List Bs} (h : MemW w0 w x1 (some ⟨q, 0, none⟩) d1 d2 nv nb vs bs) {j : Nat} (hj : j < nb) (a b c : Int) :
    MemW w0 (((w.setCell ⟨q, j * 3, none⟩ (.int .i64 a)).setCell ⟨q, j * 3 + 1, none⟩ (.int .i64 b)).setCell ⟨q, j * 3 + 2, none⟩ (.int .i64 c)) x1 (some ⟨q, 0, none⟩) d1 d2 nv nb vs (bs.set j ⟨a, b, c⟩) ∧
    w.grownBy (((w.setCell ⟨q, j * 3, none⟩ (.int .i64 a)).setCell ⟨q, j * 3 + 1, none⟩ (.int .i64 b)).setCell ⟨q, j * 3 + 2, none⟩ (.int .i64 c)) (some q) := by
  have z0 := World.ownsRow.stored h.b (j * 3) (.int .i64 a)
  have z1 := World.ownsRow.stored z0.1 (j * 3 + 1) (.int .i64 b)
  have z2 := World.ownsRow.stored z1.1 (j * 3 + 2) (.int .i64 c)
  have zg := grown_trans (grown_trans z0.2 z1.2) z2.2
  refine ⟨⟨own_keep h.v h.b (by decide) zg, ?_, below_of_grown h.w zg (fun k hk => by simp at hk; have := (own_ge h.b).1; omega)⟩, zg⟩
  have := z2.1
  rw [bs_set3 a b c bs j (by rw [h.lenb]; exact hj)] at this
  exact this
/-- A line's result: some number; the row of states may have turned. -/
def LineP (w0 : World) (x1 x2 : Option Addr) (d1 d2 nv nb : Nat) (vs : List Int) (w : World) (e : Ending) (w' : World) : Prop :=
  ∃ z bs, e = .returned (.int .i64 z) ∧ MemW w0 w' x1 x2 d1 d2 nv nb vs bs ∧ w.grownBy w' (blkO x2)
/-- The line's own state. -/
structure LnW (w0 w wr : World) (p : Prg) (a1 a2 a3 a4 : Option Addr) (c1 c2 c3 c4 : Nat) (x1 x2 : Option Addr) (d1 d2 nv nb : Nat) (vs : List Int) (bs : List Bs) : Prop where
  m : MemW w0 wr x1 x2 d1 d2 nv nb vs bs
  g : w.grownBy wr (blkO x2)
  p : PB wr w.heap.size p a1 a2 a3 a4 c1 c2 c3 c4
  y0 : wr.cell? ⟨w.heap.size + 1, 0, none⟩ = some (.slice x1 nv d1)
  y1 : wr.cell? ⟨w.heap.size + 1, 1, none⟩ = some (.slice x2 nb d2)
  l1 : ∀ q, blkO x1 = some q → q < w.heap.size
  l2 : ∀ q, blkO x2 = some q → q < w.heap.size
  s : w0.heap.size ≤ w.heap.size
section
variable {w0 w wr wr' : World} {p : Prg} {a1 a2 a3 a4 : Option Addr} {c1 c2 c3 c4 : Nat} {x1 x2 : Option Addr} {d1 d2 nv nb : Nat} {vs : List Int} {bs : List Bs}
theorem LnW.below (h : LnW w0 w wr p a1 a2 a3 a4 c1 c2 c3 c4 x1 x2 d1 d2 nv nb vs bs) (hb : Below wr.heap.size wr wr') : LnW w0 w wr' p a1 a2 a3 a4 c1 c2 c3 c4 x1 x2 d1 d2 nv nb vs bs :=
  ⟨h.m.below hb, grown_trans h.g (grown_of_below hb _), h.p.below hb, cell_later hb h.y0, cell_later hb h.y1, h.l1, h.l2, h.s⟩
theorem LnW.grow (h : LnW w0 w wr p a1 a2 a3 a4 c1 c2 c3 c4 x1 x2 d1 d2 nv nb vs bs) {row : Option Nat} (hg : wr.grownBy wr' row) (hr : ∀ q, row = some q → w.heap.size + 2 ≤ q) : LnW w0 w wr' p a1 a2 a3 a4 c1 c2 c3 c4 x1 x2 d1 d2 nv nb vs bs := by
  have hc : ∀ {j o : Nat} {v : Value}, j < w.heap.size + 2 → wr.cell? ⟨j, o, none⟩ = some v → wr'.cell? ⟨j, o, none⟩ = some v := fun hj hv => cell_mark' hv hg (fun q hq => by have := hr q hq; simp; omega)
  refine ⟨⟨h.m.v.kept hg ?_, h.m.b.kept hg ?_, below_of_grown h.m.w hg (fun q hq => by have := hr q hq; have := h.s; omega)⟩, gb_far h.g hg (fun q hq => by have := hr q hq; omega), ⟨hc (by omega) h.p.1, hc (by omega) h.p.2.1, hc (by omega) h.p.2.2.1, hc (by omega) h.p.2.2.2.1, hc (by omega) h.p.2.2.2.2.1, hc (by omega) h.p.2.2.2.2.2⟩, hc (by omega) h.y0, hc (by omega) h.y1, h.l1, h.l2, h.s⟩
  · rw [ob]
    rcases hv : blkO x1 with _ | q
    · exact .inl rfl
    · exact .inr fun e => by have := hr q e.symm; have := h.l1 q hv; omega
  · rw [ob]
    rcases hv : blkO x2 with _ | q
    · exact .inl rfl
    · exact .inr fun e => by have := hr q e.symm; have := h.l2 q hv; omega
theorem LnW.put {q : Nat} (h : LnW w0 w wr p a1 a2 a3 a4 c1 c2 c3 c4 x1 (some ⟨q, 0, none⟩) d1 d2 nv nb vs bs) {j : Nat} (hj : j < nb) (a b c : Int) :
    LnW w0 w (((wr.setCell ⟨q, j * 3, none⟩ (.int .i64 a)).setCell ⟨q, j * 3 + 1, none⟩ (.int .i64 b)).setCell ⟨q, j * 3 + 2, none⟩ (.int .i64 c)) p a1 a2 a3 a4 c1 c2 c3 c4 x1 (some ⟨q, 0, none⟩) d1 d2 nv nb vs (bs.set j ⟨a, b, c⟩) ∧
    wr.grownBy (((wr.setCell ⟨q, j * 3, none⟩ (.int .i64 a)).setCell ⟨q, j * 3 + 1, none⟩ (.int .i64 b)).setCell ⟨q, j * 3 + 2, none⟩ (.int .i64 c)) (some q) := by
  have hp := h.m.put hj a b c
  have hq := h.l2 q rfl
  have hc : ∀ {j o : Nat} {v : Value}, w.heap.size ≤ j → wr.cell? ⟨j, o, none⟩ = some v → (((wr.setCell ⟨q, _, none⟩ (.int .i64 a)).setCell ⟨q, _, none⟩ (.int .i64 b)).setCell ⟨q, _, none⟩ (.int .i64 c)).cell? ⟨j, o, none⟩ = some v := fun hj hv => cell_mark' hv hp.2 (fun q' hq' => by simp at hq'; simp; omega)
  exact ⟨⟨hp.1, grown_trans h.g hp.2, ⟨hc (by omega) h.p.1, hc (by omega) h.p.2.1, hc (by omega) h.p.2.2.1, hc (by omega) h.p.2.2.2.1, hc (by omega) h.p.2.2.2.2.1, hc (by omega) h.p.2.2.2.2.2⟩, hc (by omega) h.y0, hc (by omega) h.y1, h.l1, h.l2, h.s⟩, hp.2⟩
end
theorem own_some1 {w : World} {base : Nat} {e : TypeId} {size n : Nat} {v : Value} {xs : List Value} (h : w.ownsRow base e size v (n + 1) xs) : ∃ g c, v = .slice (some ⟨g, 0, none⟩) (n + 1) c := by
  rcases h.2 with ⟨_, h2⟩ | ⟨g, cap, cur, hv, _⟩
  · omega
  · exact ⟨_, _, hv⟩
theorem rd_takeZ {w : World} {A : Option Addr} {l : List Int} (h : Rd w A (ints l)) (m : Nat) : Rd w A (ints (l.take m)) := by
  rcases h with h | ⟨b, off, e, hb, hc⟩
  · exact .inl (by simp only [ints, List.map_eq_nil_iff] at h; subst h; simp [ints])
  · refine .inr ⟨b, off, e, hb, fun j u hu => hc j u ?_⟩
    simp only [ints, List.map_take] at hu ⊢
    rw [List.getElem?_take] at hu
    split at hu
    · exact hu
    · cases hu
theorem rd_dropZ {w : World} {b off : Nat} {l : List Int} (h : Rd w (some ⟨b, off, none⟩) (ints l)) (m : Nat) : Rd w (some ⟨b, off + m, none⟩) (ints (l.drop m)) := by
  rcases h with h | ⟨b', off', e, hb, hc⟩
  · exact .inl (by simp only [ints, List.map_eq_nil_iff] at h; subst h; simp [ints])
  · simp only [Option.some.injEq, Addr.mk.injEq, and_true] at e
    obtain ⟨rfl, rfl⟩ := e
    refine .inr ⟨b, off + m, rfl, hb, fun j u hu => ?_⟩
    simp only [ints, List.map_drop] at hu
    rw [List.getElem?_drop] at hu
    have := hc (m + j) u hu
    rw [show off + m + j = off + (m + j) by omega]
    exact this
theorem nbT_mono (l : List Tm) (k : Nat) : nbT (l.take k) ≤ nbT l := ((List.take_sublist k l).filter isB).length_le
theorem arg_nat (k : Int) : ∃ m : Nat, argI k = m ∧ m ≤ 2 := by
  unfold argI
  split
  · exact ⟨0, rfl, by omega⟩
  · split
    · exact ⟨1, rfl, by omega⟩
    · exact ⟨2, rfl, by omega⟩
set_option maxHeartbeats 40000000 in
set_option maxRecDepth 100000 in
theorem c_l16Line (p : Prg) (a1 a2 a3 a4 x1 x2 I T : Option Addr) (c1 c2 c3 c4 d1 d2 ci tc nv nb ni tn bk : Nat) (vs is : List Int) (bs : List Bs) (ts : List Tm) (w0 w : World) (hs : PgOk p) (h : PgR w0 a1 a2 a3 a4 p) (hv2 : nv = p.vs.length) (hi : ni = is.length) (hi2 : ni = p.ins.length) (hI : Rd w0 I (ints is)) (htn : tn = ts.length) (ht : Rd w0 T (tmCells ts)) (htl : tn ≤ 40) (hbk : bk + nbT ts ≤ nb) (hnb : nb ≤ 1600) (hr : runH ts 0 = some 1) (hnm : ∀ t ∈ ts, t.k = 1 → t.nm ∈ p.ins ∨ t.nm ∈ p.vs) (hx : MemW w0 w x1 x2 d1 d2 nv nb vs bs) :
    Calls Tryz.prog 195 #[pv p a1 a2 a3 a4 c1 c2 c3 c4, .agg #[.slice x1 nv d1, .slice x2 nb d2], .slice I ni ci, .slice T tn tc, .int .i64 bk] w (LineP w0 x1 x2 d1 d2 nv nb vs w) := by
  have HIV := Lib.hid (fun (s : ByteArray) (w : World) h (bq : List Bs) (hx : MemW w0 w x1 x2 d1 d2 nv nb vs bq) hI hm => c_l16Value p a1 a2 a3 a4 x1 x2 I c1 c2 c3 c4 d1 d2 ci ni nv nb vs is s w hs h hx.lenv.symm hv2 (Rd.own hx.v) hi hi2 hI hm)
  have H := Lib.hid h
  have HII := Lib.hid hI
  have HT := Lib.hid ht
  have HTN := Lib.hid htn
  have HNM := Lib.hid hnm
  have HBK := Lib.hid hbk
  have HRN : Hid (runH (ts.drop 0) ((0 : Nat) : Int) = some 1) := Lib.hid (by simpa using hr)
  have hnv : nv ≤ 1048576 := by rw [hv2]; exact hs.v.1
  have BA := below_alloc (below_alloc (Below.refl w.heap.size w) (.cells #[.string p.nm, .slice a1 p.ins.length c1, .slice a2 p.vs.length c2, .slice a3 p.os.length c3, .string p.gd, .slice a4 p.ls.length c4] 27)) (.cells #[.slice x1 nv d1, .slice x2 nb d2] 48)
  have HL0 : Hid (LnW w0 w ((w.alloc (.cells #[.string p.nm, .slice a1 p.ins.length c1, .slice a2 p.vs.length c2, .slice a3 p.os.length c3, .string p.gd, .slice a4 p.ls.length c4] 27)).alloc (.cells #[.slice x1 nv d1, .slice x2 nb d2] 48)) p a1 a2 a3 a4 c1 c2 c3 c4 x1 x2 d1 d2 nv nb vs bs) := Lib.hid ⟨hx.below BA, grown_of_below BA _, ⟨by go_simp, by go_simp, by go_simp, by go_simp, by go_simp, by go_simp⟩, by go_simp, by go_simp, fun q hq => (hx.v.lt q (by rw [ob]; exact hq)).2, fun q hq => (hx.b.lt q (by rw [ob]; exact hq)).2, hx.w.size⟩
  have HSZ : Hid (w.heap.size + 2 ≤ ((w.alloc (.cells #[.string p.nm, .slice a1 p.ins.length c1, .slice a2 p.vs.length c2, .slice a3 p.os.length c3, .string p.gd, .slice a4 p.ls.length c4] 27)).alloc (.cells #[.slice x1 nv d1, .slice x2 nb d2] 48)).heap.size) := Lib.hid (by simp)
  clear h hI ht htn hnm hbk hr hx hs hv2 hi hi2 BA
  go_enter Tryz.func195, Tryz.ntmps195
  dsimp only [pv]
  go_upto_region 1 with (fail)
  generalize (w.alloc (.cells #[.string p.nm, .slice a1 p.ins.length c1, .slice a2 p.vs.length c2, .slice a3 p.os.length c3, .string p.gd, .slice a4 p.ls.length c4] 27)).alloc (.cells #[.slice x1 nv d1, .slice x2 nb d2] 48) = W at *
  have HL1 := Lib.hid (HL0.out.below (below_alloc (Below.refl _ _) (.cells #[] 2)))
  have HG1 : Hid ((W.alloc (.cells #[] 2)).ownsRow (w.heap.size + 2) 2 1 (.slice (some ⟨W.heap.size, 0, none⟩) 0 0) 0 (ints [])) := Lib.hid (by
    have h := World.ownsRow_lit (e := 2) (size := 1) (base := w.heap.size + 2) W #[] 0 HSZ.out (by decide) (by simp)
    simpa [ints] using h)
  clear HL0 HSZ
  go_upto_region 2 with (fail)
  generalize W.alloc (.cells #[] 2) = W1 at *
  generalize W.heap.size = sg0 at *
  go_wp2_with (fail)
  go_loopw [4, 11, 12] (fun vb st vi wr => ∃ (k B sn sc g : Nat) (zs : List Int) (bs' : List Bs), k ≤ tn ∧ sn ≤ k ∧ vi = .int .i64 k ∧ vb = .int .i64 B ∧ st = .slice (some ⟨g, 0, none⟩) sn sc ∧ Hid (B = bk + nbT (ts.take k)) ∧ Hid (runH (ts.drop k) (sn : Int) = some 1) ∧ Hid (wr.ownsRow (w.heap.size + 2) 2 1 (.slice (some ⟨g, 0, none⟩) sn sc) sn (ints zs)) ∧ Hid (LnW w0 w wr p a1 a2 a3 a4 c1 c2 c3 c4 x1 x2 d1 d2 nv nb vs bs')) (fun _ _ i _ => tn - (intOf i).toNat)
  case atStart => exact ⟨0, bk, 0, 0, sg0, [], bs, Nat.zero_le _, Nat.le_refl _, rfl, rfl, rfl, Lib.hid (by simp [nbT]), HRN, HG1, HL1⟩
  case round =>
    obtain ⟨k, B, sn, sc, g, zs, bs', hk, hsk, rfl, rfl, rfl, hB, hrn, hg, hl⟩ := hrel
    clear HG1 HL1 HRN bs
    by_cases hlt : k < tn
    · skip
      obtain ⟨t, htk⟩ : ∃ t, ts[k]? = some t := ⟨_, List.getElem?_eq_getElem (by have := HTN.out; omega)⟩
      have hrd := hrn.out
      rw [run_drop htk] at hrd
      have hcd : trmT t.k t.nm t.n = true ∧ argI t.k ≤ (sn : Int) := by
        rcases Classical.em (trmT t.k t.nm t.n = true ∧ argI t.k ≤ (sn : Int)) with h | h
        · exact h
        · rw [if_neg h] at hrd; cases hrd
      rw [if_pos hcd] at hrd
      have hkk := trm_k hcd.1
      obtain ⟨am, ham, ham2⟩ := arg_nat t.k
      have HTK := Lib.hid (fun w => c_l13Takes t.k w)
      have HAM := Lib.hid ham
      have HNT := Lib.hid (HNM.out t (List.mem_of_getElem? htk))
      rw [ham] at HTK hrd
      have hfs : am ≤ sn := by have := hcd.2; omega
      obtain ⟨f, hf⟩ : ∃ f : Nat, sn = f + am := ⟨sn - am, by omega⟩
      have HNR : Hid (runH (ts.drop (k + 1)) ((f + 1 : Nat) : Int) = some 1) := Lib.hid (by rw [← hrd]; congr 1; omega)
      have hw : IntKind.i64.wrap ((sn : Int) - (am : Int)) = (f : Int) := by rw [IntWalk.i64_in _ (by omega)]; omega
      have HBN := Lib.hid (nbT_step htk)
      have HBM := Lib.hid (nbT_mono ts (k + 1))
      have HF := Lib.hid hf
      have hfs2 : (f : Int) ≤ sn := by omega
      have hsc := own_cap hg.out
      have hsc2 : (sn : Int) ≤ sc := by omega
      have hfc : (f : Int) ≤ sc := by omega
      have hf0 : (0 : Int) ≤ f := by omega
      have hf7 : f ≤ 40 := by omega
      obtain ⟨tb, tq, rfl, _, t0, t1, t2⟩ := (HT.out.below hl.out.m.w).tm htk
      obtain ⟨tk, tnm, tz⟩ := t
      dsimp only at t0 t1 t2 HTK HAM HNT hkk
      have hk0 : (0 : Int) ≤ (k : Int) := by omega
      have hk1 : (k : Int) < tn := by omega
      have BT := below_alloc (Below.refl wr.heap.size wr) (.cells #[.int .i64 tk, .string tnm, .int .i64 tz] 60)
      have HL2 := Lib.hid (hl.out.below BT)
      have HG2 := Lib.hid (own_below hg.out BT)
      have HZ2 : Hid (w.heap.size + 2 ≤ (wr.alloc (.cells #[.int .i64 tk, .string tnm, .int .i64 tz] 60)).heap.size) := Lib.hid (by have := (own_ge hg.out); have := BT.size; omega)
      have z0 : (wr.alloc (.cells #[.int .i64 tk, .string tnm, .int .i64 tz] 60)).cell? ⟨wr.heap.size, 0, none⟩ = some (.int .i64 tk) := by go_simp
      have z1 : (wr.alloc (.cells #[.int .i64 tk, .string tnm, .int .i64 tz] 60)).cell? ⟨wr.heap.size, 1, none⟩ = some (.string tnm) := by go_simp
      have z2 : (wr.alloc (.cells #[.int .i64 tk, .string tnm, .int .i64 tz] 60)).cell? ⟨wr.heap.size, 2, none⟩ = some (.int .i64 tz) := by go_simp
      clear htk hrd hcd ham hf hl hg hrn BT
      go_upto_region 6 with (fail)
      generalize wr.alloc (.cells #[.int .i64 tk, .string tnm, .int .i64 tz] 60) = W2 at *
      generalize wr.heap.size = xb at *
      clear t0 t1 t2
      go_wp2_with (fail)
      refine (HTK.out _).mono ?_
      rintro e w' ⟨rfl, rfl⟩
      obtain ⟨off, had, hrd2⟩ : ∃ off : Nat, (if sc = f then some (⟨g, 0, none⟩ : Addr) else some ⟨g, f, none⟩) = some ⟨g, off, none⟩ ∧ Hid (Rd W2 (some ⟨g, off, none⟩) (ints (zs.drop f))) := by
        have hz : zs.length = sn := by have := HG2.out.1; rw [ints_length] at this; omega
        by_cases h : sc = f
        · exact ⟨0, by simp [h], Lib.hid (.inl (by rw [List.drop_of_length_le (by omega)]; rfl))⟩
        · exact ⟨f, by simp [h], Lib.hid (by have := rd_dropZ (Rd.own HG2.out) f; rwa [Nat.zero_add] at this)⟩
      go_wp2_with (fail)
      refine (c_l01Own g off (sc - f) (sn - f) (zs.drop f) _ (by rw [List.length_drop]; have := HG2.out.1; rw [ints_length] at this; omega) (by omega) hrd2.out).mono ?_
      rintro e w3 ⟨ag, ac, rfl, ha, hb⟩
      have HAR := Lib.hid (own_mono ha (base' := w.heap.size + 2) HZ2.out)
      have HL3 := Lib.hid (HL2.out.below hb)
      have HG3 := Lib.hid (own_below HG2.out hb)
      have HZ3 : Hid (w.heap.size + 2 ≤ w3.heap.size) := Lib.hid (Nat.le_trans HZ2.out hb.size)
      replace z0 := cell_later hb (by exact z0)
      replace z1 := cell_later hb (by exact z1)
      replace z2 := cell_later hb (by exact z2)
      clear hb ha HL2 HG2 had hrd2
      go_wp2_with (fail)
      refine (c_l01Own g 0 sc f (zs.take f) _ (by rw [List.length_take]; have := HG3.out.1; rw [ints_length] at this; omega) (by omega) (rd_takeZ (Rd.own HG3.out) f)).mono ?_
      rintro e w4 ⟨g4, sc4, rfl, ho, hb⟩
      have HG4 := Lib.hid (own_mono ho (base' := w.heap.size + 2) HZ3.out)
      have HL4 := Lib.hid (HL3.out.below hb)
      have HZ4 : Hid (w.heap.size + 2 ≤ w4.heap.size) := Lib.hid (Nat.le_trans HZ3.out hb.size)
      replace z0 := cell_later hb (by exact z0)
      replace z1 := cell_later hb (by exact z1)
      replace z2 := cell_later hb (by exact z2)
      have HAS := Lib.hid (own_below HAR.out hb)
      clear HAR
      have HQ : Hid (sn - f = am) := Lib.hid (by have := HF.out; omega)
      generalize sn - f = aq at *
      obtain rfl : am = aq := HQ.out.symm
      clear hb ho HL3 HG3 HZ3 HZ2
      generalize zs.take f = zl at *
      generalize zs.drop f = aas at *
      by_cases h1 : tk = 1
      · subst h1
        have HBZ : Hid (B = bk + nbT (ts.take (k + 1))) := Lib.hid (by rw [HBN.out, hB.out]; simp [isB])
        obtain ⟨k0, k1, k2, k3, k4, k5⟩ := HL4.out.p
        have y0 := HL4.out.y0
        have y1 := HL4.out.y1
        go_wp2_with (fail)
        refine (HIV.out tnm _ (H.out.below HL4.out.m.w) _ HL4.out.m (HII.out.below HL4.out.m.w) (HNT.out (by trivial))).mono ?_
        rintro e w5 ⟨u, rfl, hb⟩
        have HL5 := Lib.hid (HL4.out.below hb)
        have HG5 := Lib.hid (own_below HG4.out hb)
        have HZ5 : Hid (w.heap.size + 2 ≤ w5.heap.size) := Lib.hid (Nat.le_trans HZ4.out hb.size)
        clear hb HL4 HG4 HZ4
        clear k0 k1 k2 k3 k4 k5 y0 y1
        clear z0 z1 z2
        have BV := below_alloc (Below.refl w5.heap.size w5) (.cells #[.int .i64 (u)] 2)
        have HLV := Lib.hid (HL5.out.below BV)
        have HGV := Lib.hid (own_below HG5.out BV)
        have hzv := Nat.le_trans HZ5.out BV.size
        clear BV
        go_wp2_with (first
          | (at_builtin
             refine wpList_push_int _ rfl (.tmp 101) (.tmp 103) rfl (w.heap.size + 2) _ f zl (u) w5.heap.size 1 rfl HGV.out rfl (by go_simp) (by omega) hzv ?_
             intro v7 w7 hown hgrow _ _
             obtain ⟨g7, c7, rfl⟩ := own_some1 hown
             have HL7 := Lib.hid (HLV.out.grow hgrow (fun q hq => (HGV.out.lt q hq).1))
             have HG7 := Lib.hid hown
             clear hown hgrow HLV HGV)
          )
        go_roundw
        case rel => exact ⟨k + 1, B, f + 1, c7, g7, zl ++ [u], _, by omega, by omega, by go_num, by first | rfl | go_num, rfl, HBZ, HNR, HG7, HL7⟩
        case measure => simp [intOf]; omega
      by_cases h2 : tk = 2
      · subst h2
        have HBZ : Hid (B = bk + nbT (ts.take (k + 1))) := Lib.hid (by rw [HBN.out, hB.out]; simp [isB])
        have BV := below_alloc (Below.refl w4.heap.size w4) (.cells #[.int .i64 (1)] 2)
        have HLV := Lib.hid (HL4.out.below BV)
        have HGV := Lib.hid (own_below HG4.out BV)
        have hzv := Nat.le_trans HZ4.out BV.size
        clear BV
        go_wp2_with (first
          | (at_builtin
             refine wpList_push_int _ rfl (.tmp 101) (.tmp 103) rfl (w.heap.size + 2) _ f zl (1) w4.heap.size 1 rfl HGV.out rfl (by go_simp) (by omega) hzv ?_
             intro v7 w7 hown hgrow _ _
             obtain ⟨g7, c7, rfl⟩ := own_some1 hown
             have HL7 := Lib.hid (HLV.out.grow hgrow (fun q hq => (HGV.out.lt q hq).1))
             have HG7 := Lib.hid hown
             clear hown hgrow HLV HGV)
          )
        go_roundw
        case rel => exact ⟨k + 1, B, f + 1, c7, g7, zl ++ [1], _, by omega, by omega, by go_num, by first | rfl | go_num, rfl, HBZ, HNR, HG7, HL7⟩
        case measure => simp [intOf]; omega
      by_cases h3 : tk = 3
      · subst h3
        have HBZ : Hid (B = bk + nbT (ts.take (k + 1))) := Lib.hid (by rw [HBN.out, hB.out]; simp [isB])
        have BV := below_alloc (Below.refl w4.heap.size w4) (.cells #[.int .i64 (0)] 2)
        have HLV := Lib.hid (HL4.out.below BV)
        have HGV := Lib.hid (own_below HG4.out BV)
        have hzv := Nat.le_trans HZ4.out BV.size
        clear BV
        go_wp2_with (first
          | (at_builtin
             refine wpList_push_int _ rfl (.tmp 101) (.tmp 103) rfl (w.heap.size + 2) _ f zl (0) w4.heap.size 1 rfl HGV.out rfl (by go_simp) (by omega) hzv ?_
             intro v7 w7 hown hgrow _ _
             obtain ⟨g7, c7, rfl⟩ := own_some1 hown
             have HL7 := Lib.hid (HLV.out.grow hgrow (fun q hq => (HGV.out.lt q hq).1))
             have HG7 := Lib.hid hown
             clear hown hgrow HLV HGV)
          )
        go_roundw
        case rel => exact ⟨k + 1, B, f + 1, c7, g7, zl ++ [0], _, by omega, by omega, by go_num, by first | rfl | go_num, rfl, HBZ, HNR, HG7, HL7⟩
        case measure => simp [intOf]; omega
      have has := HAS.out.1
      rw [ints_length] at has
      have HLA : Hid (aas.length = am) := Lib.hid (by omega)
      clear has
      by_cases h4 : tk = 4
      · subst h4
        have HBZ : Hid (B = bk + nbT (ts.take (k + 1))) := Lib.hid (by rw [HBN.out, hB.out]; simp [isB])
        obtain rfl : am = 1 := by have := HAM.out; simp [argI] at this; omega
        obtain ⟨u, hu⟩ : ∃ u, aas[0]? = some u := ⟨_, List.getElem?_eq_getElem (by rw [HLA.out]; omega)⟩
        obtain ⟨b9, o9, e, _, u0⟩ := (Rd.own HAS.out).int hu
        simp only [Option.some.injEq, Addr.mk.injEq, and_true] at e
        obtain ⟨rfl, rfl⟩ := e
        simp only [Nat.add_zero] at u0
        clear hu
        go_upto_region 27 with (fail)
        generalize wrap64 (1 - u) = r at *
        clear z0 z1 z2 u0
        have BV := below_alloc (Below.refl w4.heap.size w4) (.cells #[.int .i64 (r)] 2)
        have HLV := Lib.hid (HL4.out.below BV)
        have HGV := Lib.hid (own_below HG4.out BV)
        have hzv := Nat.le_trans HZ4.out BV.size
        clear BV
        go_wp2_with (first
          | (at_builtin
             refine wpList_push_int _ rfl (.tmp 101) (.tmp 103) rfl (w.heap.size + 2) _ f zl (r) w4.heap.size 1 rfl HGV.out rfl (by go_simp) (by omega) hzv ?_
             intro v7 w7 hown hgrow _ _
             obtain ⟨g7, c7, rfl⟩ := own_some1 hown
             have HL7 := Lib.hid (HLV.out.grow hgrow (fun q hq => (HGV.out.lt q hq).1))
             have HG7 := Lib.hid hown
             clear hown hgrow HLV HGV)
          )
        go_roundw
        case rel => exact ⟨k + 1, B, f + 1, c7, g7, zl ++ [r], _, by omega, by omega, by go_num, by first | rfl | go_num, rfl, HBZ, HNR, HG7, HL7⟩
        case measure => simp [intOf]; omega
      by_cases h5 : tk = 5
      · subst h5
        have HBZ : Hid (B = bk + nbT (ts.take (k + 1))) := Lib.hid (by rw [HBN.out, hB.out]; simp [isB])
        obtain rfl : am = 2 := by have := HAM.out; simp [argI] at this; omega
        obtain ⟨u, hu⟩ : ∃ u, aas[0]? = some u := ⟨_, List.getElem?_eq_getElem (by rw [HLA.out]; omega)⟩
        obtain ⟨v, hv⟩ : ∃ v, aas[1]? = some v := ⟨_, List.getElem?_eq_getElem (by rw [HLA.out]; omega)⟩
        obtain ⟨b9, o9, e, _, u0⟩ := (Rd.own HAS.out).int hu
        simp only [Option.some.injEq, Addr.mk.injEq, and_true] at e
        obtain ⟨rfl, rfl⟩ := e
        obtain ⟨b9, o9, e, _, u1⟩ := (Rd.own HAS.out).int hv
        simp only [Option.some.injEq, Addr.mk.injEq, and_true] at e
        obtain ⟨rfl, rfl⟩ := e
        simp only [Nat.add_zero, Nat.zero_add] at u0 u1
        clear hu hv
        go_upto_region 24 with (fail)
        refine wp_region_held_drew (S := (fun w' => w'.cell? ⟨ag, 0, none⟩ = some (.int .i64 u) ∧ w'.cell? ⟨ag, 1, none⟩ = some (.int .i64 v))) (by kernel_rfl) ?_ (fun hHeld => ?_)
        · exact ⟨u0, u1⟩
        refine rg_take (v := ?_) 0 rfl (by kernel_rfl) (by kernel_rfl) (by kernel_rfl) (fun _ _ _ h => h) (by kernel_rfl) ?_ (by assumption) ?_
        rotate_left
        · (intro w' hSw; (try dsimp only at hSw); go_simp; first | done | with_reducible rfl)
        simp only [Act.put, List.setIfInBounds_toArray, List.set_cons_zero, List.set_cons_succ]
        refine rg_take (v := ?_) 1 rfl (by kernel_rfl) (by kernel_rfl) (by kernel_rfl) (fun _ _ _ h => h) (by kernel_rfl) ?_ (by assumption) ?_
        rotate_left
        · (intro w' hSw; (try dsimp only at hSw); go_simp; first | done | with_reducible rfl)
        simp only [Act.put, List.setIfInBounds_toArray, List.set_cons_zero, List.set_cons_succ]
        refine rg_take (v := ?_) 2 rfl (by kernel_rfl) (by kernel_rfl) (by kernel_rfl) (fun _ _ _ h => h) (by kernel_rfl) ?_ (by assumption) ?_
        rotate_left
        · (intro w' hSw; (try dsimp only at hSw); go_simp; first | done | with_reducible rfl)
        simp only [Act.put, List.setIfInBounds_toArray, List.set_cons_zero, List.set_cons_succ]
        refine rg_take (v := ?_) 3 rfl (by kernel_rfl) (by kernel_rfl) (by kernel_rfl) (fun _ _ _ h => h) (by kernel_rfl) ?_ (by assumption) ?_
        rotate_left
        · (intro w' hSw; (try dsimp only at hSw); go_simp; first | done | with_reducible rfl)
        simp only [Act.put, List.setIfInBounds_toArray, List.set_cons_zero, List.set_cons_succ]
        refine rg_take (v := ?_) 4 rfl (by kernel_rfl) (by kernel_rfl) (by kernel_rfl) (fun _ _ _ h => h) (by kernel_rfl) ?_ (by assumption) ?_
        rotate_left
        · (intro w' hSw; (try dsimp only at hSw); go_simp; first | done | with_reducible rfl)
        simp only [Act.put, List.setIfInBounds_toArray, List.set_cons_zero, List.set_cons_succ]
        refine rg_take (v := ?_) 5 rfl (by kernel_rfl) (by kernel_rfl) (by kernel_rfl) (fun _ _ _ h => h) (by kernel_rfl) ?_ (by assumption) ?_
        rotate_left
        · (intro w' hSw; (try dsimp only at hSw); go_simp; first | done | with_reducible rfl)
        simp only [Act.put, List.setIfInBounds_toArray, List.set_cons_zero, List.set_cons_succ]
        refine rg_take (v := ?_) 6 rfl (by kernel_rfl) (by kernel_rfl) (by kernel_rfl) (fun _ _ _ h => h) (by kernel_rfl) ?_ (by assumption) ?_
        rotate_left
        · (intro w' hSw; (try dsimp only at hSw); go_simp; first | done | with_reducible rfl)
        simp only [Act.put, List.setIfInBounds_toArray, List.set_cons_zero, List.set_cons_succ]
        refine rg_take (v := ?_) 7 rfl (by kernel_rfl) (by kernel_rfl) (by kernel_rfl) (fun _ _ _ h => h) (by kernel_rfl) ?_ (by assumption) ?_
        rotate_left
        · (intro w' hSw; (try dsimp only at hSw); go_simp; first | done | with_reducible rfl)
        simp only [Act.put, List.setIfInBounds_toArray, List.set_cons_zero, List.set_cons_succ]
        refine wpAnyH_done (by kernel_rfl) ?_ _
        clear hHeld
        have HL5 := Lib.hid (HL4.out.below (Below.refl _ _).drew)
        have HG5 := Lib.hid (own_below HG4.out (Below.refl _ _).drew)
        have HZ5 : Hid (w.heap.size + 2 ≤ w4.drew.heap.size) := HZ4
        generalize bits BinOp.and IntKind.i64 u v = r at *
        clear u0 u1 z0 z1 z2 HL4 HG4 HZ4
        go_upto_region 27 with (fail)
        generalize w4.drew = w5 at *
        have BV := below_alloc (Below.refl w5.heap.size w5) (.cells #[.int .i64 (r)] 2)
        have HLV := Lib.hid (HL5.out.below BV)
        have HGV := Lib.hid (own_below HG5.out BV)
        have hzv := Nat.le_trans HZ5.out BV.size
        clear BV
        go_wp2_with (first
          | (at_builtin
             refine wpList_push_int _ rfl (.tmp 101) (.tmp 103) rfl (w.heap.size + 2) _ f zl (r) w5.heap.size 1 rfl HGV.out rfl (by go_simp) (by omega) hzv ?_
             intro v7 w7 hown hgrow _ _
             obtain ⟨g7, c7, rfl⟩ := own_some1 hown
             have HL7 := Lib.hid (HLV.out.grow hgrow (fun q hq => (HGV.out.lt q hq).1))
             have HG7 := Lib.hid hown
             clear hown hgrow HLV HGV)
          )
        go_roundw
        case rel => exact ⟨k + 1, B, f + 1, c7, g7, zl ++ [r], _, by omega, by omega, by go_num, by first | rfl | go_num, rfl, HBZ, HNR, HG7, HL7⟩
        case measure => simp [intOf]; omega
      by_cases h6 : tk = 6
      · subst h6
        have HBZ : Hid (B = bk + nbT (ts.take (k + 1))) := Lib.hid (by rw [HBN.out, hB.out]; simp [isB])
        obtain rfl : am = 2 := by have := HAM.out; simp [argI] at this; omega
        obtain ⟨u, hu⟩ : ∃ u, aas[0]? = some u := ⟨_, List.getElem?_eq_getElem (by rw [HLA.out]; omega)⟩
        obtain ⟨v, hv⟩ : ∃ v, aas[1]? = some v := ⟨_, List.getElem?_eq_getElem (by rw [HLA.out]; omega)⟩
        obtain ⟨b9, o9, e, _, u0⟩ := (Rd.own HAS.out).int hu
        simp only [Option.some.injEq, Addr.mk.injEq, and_true] at e
        obtain ⟨rfl, rfl⟩ := e
        obtain ⟨b9, o9, e, _, u1⟩ := (Rd.own HAS.out).int hv
        simp only [Option.some.injEq, Addr.mk.injEq, and_true] at e
        obtain ⟨rfl, rfl⟩ := e
        simp only [Nat.add_zero, Nat.zero_add] at u0 u1
        clear hu hv
        go_upto_region 26 with (fail)
        refine wp_region_held_drew (S := (fun w' => w'.cell? ⟨ag, 0, none⟩ = some (.int .i64 u) ∧ w'.cell? ⟨ag, 1, none⟩ = some (.int .i64 v))) (by kernel_rfl) ?_ (fun hHeld => ?_)
        · exact ⟨u0, u1⟩
        refine rg_take (v := ?_) 0 rfl (by kernel_rfl) (by kernel_rfl) (by kernel_rfl) (fun _ _ _ h => h) (by kernel_rfl) ?_ (by assumption) ?_
        rotate_left
        · (intro w' hSw; (try dsimp only at hSw); go_simp; first | done | with_reducible rfl)
        simp only [Act.put, List.setIfInBounds_toArray, List.set_cons_zero, List.set_cons_succ]
        refine rg_take (v := ?_) 1 rfl (by kernel_rfl) (by kernel_rfl) (by kernel_rfl) (fun _ _ _ h => h) (by kernel_rfl) ?_ (by assumption) ?_
        rotate_left
        · (intro w' hSw; (try dsimp only at hSw); go_simp; first | done | with_reducible rfl)
        simp only [Act.put, List.setIfInBounds_toArray, List.set_cons_zero, List.set_cons_succ]
        refine rg_take (v := ?_) 2 rfl (by kernel_rfl) (by kernel_rfl) (by kernel_rfl) (fun _ _ _ h => h) (by kernel_rfl) ?_ (by assumption) ?_
        rotate_left
        · (intro w' hSw; (try dsimp only at hSw); go_simp; first | done | with_reducible rfl)
        simp only [Act.put, List.setIfInBounds_toArray, List.set_cons_zero, List.set_cons_succ]
        refine rg_take (v := ?_) 3 rfl (by kernel_rfl) (by kernel_rfl) (by kernel_rfl) (fun _ _ _ h => h) (by kernel_rfl) ?_ (by assumption) ?_
        rotate_left
        · (intro w' hSw; (try dsimp only at hSw); go_simp; first | done | with_reducible rfl)
        simp only [Act.put, List.setIfInBounds_toArray, List.set_cons_zero, List.set_cons_succ]
        refine rg_take (v := ?_) 4 rfl (by kernel_rfl) (by kernel_rfl) (by kernel_rfl) (fun _ _ _ h => h) (by kernel_rfl) ?_ (by assumption) ?_
        rotate_left
        · (intro w' hSw; (try dsimp only at hSw); go_simp; first | done | with_reducible rfl)
        simp only [Act.put, List.setIfInBounds_toArray, List.set_cons_zero, List.set_cons_succ]
        refine rg_take (v := ?_) 5 rfl (by kernel_rfl) (by kernel_rfl) (by kernel_rfl) (fun _ _ _ h => h) (by kernel_rfl) ?_ (by assumption) ?_
        rotate_left
        · (intro w' hSw; (try dsimp only at hSw); go_simp; first | done | with_reducible rfl)
        simp only [Act.put, List.setIfInBounds_toArray, List.set_cons_zero, List.set_cons_succ]
        refine rg_take (v := ?_) 6 rfl (by kernel_rfl) (by kernel_rfl) (by kernel_rfl) (fun _ _ _ h => h) (by kernel_rfl) ?_ (by assumption) ?_
        rotate_left
        · (intro w' hSw; (try dsimp only at hSw); go_simp; first | done | with_reducible rfl)
        simp only [Act.put, List.setIfInBounds_toArray, List.set_cons_zero, List.set_cons_succ]
        refine rg_take (v := ?_) 7 rfl (by kernel_rfl) (by kernel_rfl) (by kernel_rfl) (fun _ _ _ h => h) (by kernel_rfl) ?_ (by assumption) ?_
        rotate_left
        · (intro w' hSw; (try dsimp only at hSw); go_simp; first | done | with_reducible rfl)
        simp only [Act.put, List.setIfInBounds_toArray, List.set_cons_zero, List.set_cons_succ]
        refine wpAnyH_done (by kernel_rfl) ?_ _
        clear hHeld
        have HL5 := Lib.hid (HL4.out.below (Below.refl _ _).drew)
        have HG5 := Lib.hid (own_below HG4.out (Below.refl _ _).drew)
        have HZ5 : Hid (w.heap.size + 2 ≤ w4.drew.heap.size) := HZ4
        generalize bits BinOp.or IntKind.i64 u v = r at *
        clear u0 u1 z0 z1 z2 HL4 HG4 HZ4
        go_upto_region 27 with (fail)
        generalize w4.drew = w5 at *
        have BV := below_alloc (Below.refl w5.heap.size w5) (.cells #[.int .i64 (r)] 2)
        have HLV := Lib.hid (HL5.out.below BV)
        have HGV := Lib.hid (own_below HG5.out BV)
        have hzv := Nat.le_trans HZ5.out BV.size
        clear BV
        go_wp2_with (first
          | (at_builtin
             refine wpList_push_int _ rfl (.tmp 101) (.tmp 103) rfl (w.heap.size + 2) _ f zl (r) w5.heap.size 1 rfl HGV.out rfl (by go_simp) (by omega) hzv ?_
             intro v7 w7 hown hgrow _ _
             obtain ⟨g7, c7, rfl⟩ := own_some1 hown
             have HL7 := Lib.hid (HLV.out.grow hgrow (fun q hq => (HGV.out.lt q hq).1))
             have HG7 := Lib.hid hown
             clear hown hgrow HLV HGV)
          )
        go_roundw
        case rel => exact ⟨k + 1, B, f + 1, c7, g7, zl ++ [r], _, by omega, by omega, by go_num, by first | rfl | go_num, rfl, HBZ, HNR, HG7, HL7⟩
        case measure => simp [intOf]; omega
      have e1 : (tk == 1) = false := by simp; omega
      have e2 : (tk == 2) = false := by simp; omega
      have e3 : (tk == 3) = false := by simp; omega
      have e4 : (tk == 4) = false := by simp; omega
      have e5 : (tk == 5) = false := by simp; omega
      have e6 : (tk == 6) = false := by simp; omega
      have h7 : 7 ≤ tk := by omega
      have hk7 : 7 ≤ tk ∧ tk ≤ 12 := ⟨h7, hkk.2⟩
      have HBZ : Hid (B + 1 = bk + nbT (ts.take (k + 1))) := Lib.hid (by have h1 := HBN.out; have h2 := hB.out; simp [isB, h7] at h1; omega)
      have ham1 : 1 ≤ am := by
        have h := HAM.out
        unfold argI at h
        rw [if_neg (by omega)] at h
        split at h <;> omega
      have hBn : B < nb := by have := HBZ.out; have := HBM.out; have := HBK.out; omega
      obtain ⟨st, hst⟩ : ∃ st, bs'[B]? = some st := ⟨_, List.getElem?_eq_getElem (by rw [HL4.out.m.lenb]; exact hBn)⟩
      obtain ⟨qb, q0, rfl, hqb, s0, s1, s2⟩ := (Rd.own HL4.out.m.b).bs hst
      obtain rfl : q0 = 0 := by
        rcases HL4.out.m.b.2 with ⟨e, _⟩ | ⟨g9, c9, cur, e, _⟩
        · simp at e
        · simp only [Value.slice.injEq, Option.some.injEq, Addr.mk.injEq, and_true] at e
          exact e.1.2
      obtain ⟨sa, sb, s3⟩ := st
      dsimp only at s0 s1 s2
      simp only [Nat.zero_add] at s0 s1 s2
      have hB0 : (0 : Int) ≤ B := by omega
      have hB1 : (B : Int) < nb := by omega
      have y1 := HL4.out.y1
      clear hst h1 h2 h3 h4 h5 h6
      go_upto_region 11 with (fail)
      refine wp_region_heldE 13 (S := (fun w' => ((w'.cell? ⟨xb, 0, none⟩ = some (.int .i64 tk) ∧ w'.cell? ⟨xb, 1, none⟩ = some (.string tnm)) ∧ (w'.cell? ⟨xb, 2, none⟩ = some (.int .i64 tz) ∧ w'.cell? ⟨w.heap.size + 1, 1, none⟩ = some (.slice (some ⟨qb, 0, none⟩) nb d2))) ∧ (w'.cell? ⟨qb, B * 3, none⟩ = some (.int .i64 sa) ∧ w'.cell? ⟨qb, B * 3 + 1, none⟩ = some (.int .i64 sb)) ∧ w'.cell? ⟨qb, B * 3 + 2, none⟩ = some (.int .i64 s3))) (by kernel_rfl) ?_ (fun hHeld => ?_)
      · exact ⟨⟨⟨z0, z1⟩, ⟨z2, y1⟩⟩, ⟨s0, s1⟩, s2⟩
      refine rgE_take (v := ?_) 0 16 rfl (by kernel_rfl) (by kernel_rfl) (by kernel_rfl) (by kernel_rfl) (by kernel_rfl) (fun _ _ _ h => h) (by kernel_rfl) ?_ (by assumption) ?_
      rotate_left
      · (intro w' hSw; (try dsimp only at hSw); go_simp; first | done | with_reducible rfl)
      simp only [Act.put, List.setIfInBounds_toArray, List.set_cons_zero, List.set_cons_succ]
      refine rgE_take (v := ?_) 1 16 rfl (by kernel_rfl) (by kernel_rfl) (by kernel_rfl) (by kernel_rfl) (by kernel_rfl) (fun _ _ _ h => h) (by kernel_rfl) ?_ (by assumption) ?_
      rotate_left
      · (intro w' hSw; (try dsimp only at hSw); go_simp; first | done | with_reducible rfl)
      simp only [Act.put, List.setIfInBounds_toArray, List.set_cons_zero, List.set_cons_succ]
      refine rgE_take (v := ?_) 2 16 rfl (by kernel_rfl) (by kernel_rfl) (by kernel_rfl) (by kernel_rfl) (by kernel_rfl) (fun _ _ _ h => h) (by kernel_rfl) ?_ (by assumption) ?_
      rotate_left
      · (intro w' hSw; (try dsimp only at hSw); go_simp; first | done | with_reducible rfl)
      simp only [Act.put, List.setIfInBounds_toArray, List.set_cons_zero, List.set_cons_succ]
      refine rgE_take (v := ?_) 3 16 rfl (by kernel_rfl) (by kernel_rfl) (by kernel_rfl) (by kernel_rfl) (by kernel_rfl) (fun _ _ _ h => h) (by kernel_rfl) ?_ (by assumption) ?_
      rotate_left
      · (intro w' hSw; (try dsimp only at hSw); go_simp; first | done | with_reducible rfl)
      simp only [Act.put, List.setIfInBounds_toArray, List.set_cons_zero, List.set_cons_succ]
      refine rgE_take (v := ?_) 4 16 rfl (by kernel_rfl) (by kernel_rfl) (by kernel_rfl) (by kernel_rfl) (by kernel_rfl) (fun _ _ _ h => h) (by kernel_rfl) ?_ (by assumption) ?_
      rotate_left
      · (intro w' hSw; (try dsimp only at hSw); go_simp; first | done | with_reducible rfl)
      simp only [Act.put, List.setIfInBounds_toArray, List.set_cons_zero, List.set_cons_succ]
      refine rgE_take (v := ?_) 5 16 rfl (by kernel_rfl) (by kernel_rfl) (by kernel_rfl) (by kernel_rfl) (by kernel_rfl) (fun _ _ _ h => h) (by kernel_rfl) ?_ (by assumption) ?_
      rotate_left
      · (intro w' hSw; (try dsimp only at hSw); go_simp; first | done | with_reducible rfl)
      simp only [Act.put, List.setIfInBounds_toArray, List.set_cons_zero, List.set_cons_succ]
      refine rgE_take (v := ?_) 6 16 rfl (by kernel_rfl) (by kernel_rfl) (by kernel_rfl) (by kernel_rfl) (by kernel_rfl) (fun _ _ _ h => h) (by kernel_rfl) ?_ (by assumption) ?_
      rotate_left
      · (intro w' hSw; (try dsimp only at hSw); go_simp; first | done | with_reducible rfl)
      simp only [Act.put, List.setIfInBounds_toArray, List.set_cons_zero, List.set_cons_succ]
      refine rgE_two 7 11 rfl rfl (by kernel_rfl) (by kernel_rfl) (by kernel_rfl) (by decide) (by decide) (fun K hK => ?_) (fun K hK => ?_)
      · skip
        go_simp
        refine (c_l15Step tk tnm tz sa sb s3 (some ⟨ag, 0, none⟩) ac am aas _ hk7 HLA.out.symm ham1 (by omega) (Rd.own (own_below HAS.out (Below.refl _ _).drew))).mono ?_
        rintro e w5 ⟨vz, na, nbb, nc, rfl, hb⟩
        have hbs : Below w4.heap.size w4 w5 := below_chain (Below.refl _ _).drew hb
        have HL5 := Lib.hid (HL4.out.below hbs)
        have HG5 := Lib.hid (own_below HG4.out hbs)
        have HZ5 := Lib.hid (Nat.le_trans HZ4.out hbs.size)
        replace z0 := cell_later hbs (by exact z0)
        replace z1 := cell_later hbs (by exact z1)
        replace z2 := cell_later hbs (by exact z2)
        replace y1 := cell_later hbs (by exact y1)
        replace s0 := cell_later hbs (by exact s0)
        replace s1 := cell_later hbs (by exact s1)
        replace s2 := cell_later hbs (by exact s2)
        clear hb hbs HL4 HG4 HZ4 HAS
        go_wp2
        clear hHeld
        refine hK.out _ _ (.inr (by exact ⟨⟨⟨z0, z1⟩, ⟨z2, y1⟩⟩, ⟨s0, s1⟩, s2⟩)) (fun hHeld => ?_)
        clear hK K
        try simp only [Act.put, List.setIfInBounds_toArray, List.set_cons_zero, List.set_cons_succ]
        refine rgE_take (v := ?_) 8 16 rfl (by kernel_rfl) (by kernel_rfl) (by kernel_rfl) (by kernel_rfl) (by kernel_rfl) (fun _ _ _ h => h) (by kernel_rfl) ?_ (by assumption) ?_
        rotate_left
        · (intro w' hSw; (try dsimp only at hSw); go_simp; first | done | with_reducible rfl)
        simp only [Act.put, List.setIfInBounds_toArray, List.set_cons_zero, List.set_cons_succ]
        refine rgE_take (v := ?_) 9 16 rfl (by kernel_rfl) (by kernel_rfl) (by kernel_rfl) (by kernel_rfl) (by kernel_rfl) (fun _ _ _ h => h) (by kernel_rfl) ?_ (by assumption) ?_
        rotate_left
        · (intro w' hSw; (try dsimp only at hSw); go_simp; first | done | with_reducible rfl)
        simp only [Act.put, List.setIfInBounds_toArray, List.set_cons_zero, List.set_cons_succ]
        refine rgE_take (v := ?_) 10 16 rfl (by kernel_rfl) (by kernel_rfl) (by kernel_rfl) (by kernel_rfl) (by kernel_rfl) (fun _ _ _ h => h) (by kernel_rfl) ?_ (by assumption) ?_
        rotate_left
        · (intro w' hSw; (try dsimp only at hSw); go_simp; first | done | with_reducible rfl)
        simp only [Act.put, List.setIfInBounds_toArray, List.set_cons_zero, List.set_cons_succ]
        refine rgE_run 11 rfl (by kernel_rfl) (by kernel_rfl) (by decide) (fun K hK => ?_)
        go_simp
        have BN := below_alloc (Below.refl w5.heap.size w5) (.cells #[.int .i64 0, .int .i64 0, .int .i64 0] 62)
        replace z0 := cell_later BN (by exact z0)
        replace z1 := cell_later BN (by exact z1)
        replace z2 := cell_later BN (by exact z2)
        replace y1 := cell_later BN (by exact y1)
        replace s0 := cell_later BN (by exact s0)
        replace s1 := cell_later BN (by exact s1)
        replace s2 := cell_later BN (by exact s2)
        clear BN
        clear hHeld
        refine hK.out _ _ (.inr (by exact ⟨⟨⟨z0, z1⟩, ⟨z2, y1⟩⟩, ⟨s0, s1⟩, s2⟩)) (fun hHeld => ?_)
        clear hK K
        try simp only [Act.put, List.setIfInBounds_toArray, List.set_cons_zero, List.set_cons_succ]
        refine rgE_take (v := ?_) 12 16 rfl (by kernel_rfl) (by kernel_rfl) (by kernel_rfl) (by kernel_rfl) (by kernel_rfl) (fun _ _ _ h => h) (by kernel_rfl) ?_ (by assumption) ?_
        rotate_left
        · (intro w' hSw; (try dsimp only at hSw); go_simp; first | done | with_reducible rfl)
        simp only [Act.put, List.setIfInBounds_toArray, List.set_cons_zero, List.set_cons_succ]
        refine rgE_last rfl (by kernel_rfl) (by kernel_rfl) (by kernel_rfl) (fun K hK => ?_)
        go_simp
        clear hHeld
        refine hK.out _ _ ?_
        clear hK K
        try simp only [Act.put, List.setIfInBounds_toArray, List.set_cons_zero, List.set_cons_succ]
        have BN := below_alloc (Below.refl w5.heap.size w5) (.cells #[.int .i64 na, .int .i64 nbb, .int .i64 nc] 62)
        have HL6 := Lib.hid (HL5.out.below BN)
        have HG6 := Lib.hid (own_below HG5.out BN)
        have HZ6 := Lib.hid (Nat.le_trans HZ5.out BN.size)
        have n0 : (w5.alloc (.cells #[.int .i64 na, .int .i64 nbb, .int .i64 nc] 62)).cell? ⟨w5.heap.size, 0, none⟩ = some (.int .i64 na) := by go_simp
        have n1 : (w5.alloc (.cells #[.int .i64 na, .int .i64 nbb, .int .i64 nc] 62)).cell? ⟨w5.heap.size, 1, none⟩ = some (.int .i64 nbb) := by go_simp
        have n2 : (w5.alloc (.cells #[.int .i64 na, .int .i64 nbb, .int .i64 nc] 62)).cell? ⟨w5.heap.size, 2, none⟩ = some (.int .i64 nc) := by go_simp
        clear BN HL5 HG5 HZ5
        have y1 := HL6.out.y1
        obtain ⟨o0, p0⟩ := own_cell HL6.out.m.b (j := B * 3) (by omega)
        clear s0 s1 s2 z0 z1 z2
        have s0 := p0
        obtain ⟨o1, s1⟩ := own_cell HL6.out.m.b (j := B * 3 + 1) (by omega)
        obtain ⟨o2, s2⟩ := own_cell HL6.out.m.b (j := B * 3 + 2) (by omega)
        clear p0
        have z0 := trivial
        have z1 := trivial
        have z2 := trivial
        go_upto_region 12 with (fail)
        generalize w5.alloc (.cells #[.int .i64 na, .int .i64 nbb, .int .i64 nc] 62) = w6 at *
        generalize w5.heap.size = nk at *
        have f0 := HL6.out.m.b.frozenAt (B * 3)
        have f1 := HL6.out.m.b.frozenAt (B * 3 + 1)
        have f2 := HL6.out.m.b.frozenAt (B * 3 + 2)
        have hpt := HL6.out.put hBn na nbb nc
        have HL8 := Lib.hid hpt.1
        have HG8 := Lib.hid (own_keep HG6.out HL6.out.m.b (by decide) (by rw [ob]; exact hpt.2))
        have HZ8 := Lib.hid (Nat.le_trans HZ6.out hpt.2.size)
        clear hpt
        go_upto_region 14 with (fail)
        generalize (((w6.setCell ⟨qb, B * 3, none⟩ (.int .i64 na)).setCell ⟨qb, B * 3 + 1, none⟩ (.int .i64 nbb)).setCell ⟨qb, B * 3 + 2, none⟩ (.int .i64 nc)) = w8 at *
        clear f0 f1 f2 s0 s1 s2 y1 z0 z1 z2 n0 n1 n2 HL6 HG6 HZ6
        have BV := below_alloc (Below.refl w8.heap.size w8) (.cells #[.int .i64 (vz)] 2)
        have HLV := Lib.hid (HL8.out.below BV)
        have HGV := Lib.hid (own_below HG8.out BV)
        have hzv := Nat.le_trans HZ8.out BV.size
        clear BV
        go_wp2_with (first
          | (at_builtin
             refine wpList_push_int _ rfl (.tmp 101) (.tmp 103) rfl (w.heap.size + 2) _ f zl (vz) w8.heap.size 1 rfl HGV.out rfl (by go_simp) (by omega) hzv ?_
             intro v7 w7 hown hgrow _ _
             obtain ⟨g7, c7, rfl⟩ := own_some1 hown
             have HL7 := Lib.hid (HLV.out.grow hgrow (fun q hq => (HGV.out.lt q hq).1))
             have HG7 := Lib.hid hown
             clear hown hgrow HLV HGV)
          )
        go_roundw
        case rel => exact ⟨k + 1, (B + 1), f + 1, c7, g7, zl ++ [vz], _, by omega, by omega, by go_num, by first | rfl | go_num, rfl, HBZ, HNR, HG7, HL7⟩
        case measure => simp [intOf]; omega
      · skip
        have BN := below_alloc (Below.refl w4.heap.size w4) (.cells #[.int .i64 0, .int .i64 0, .int .i64 0] 62)
        have HN4 : Hid (BBox (w4.alloc (.cells #[.int .i64 0, .int .i64 0, .int .i64 0] 62)) w4.heap.size w4.heap.size [.int .i64 0, .int .i64 0, .int .i64 0]) := Lib.hid (own_box w4 w4.heap.size 62 [.int .i64 0, .int .i64 0, .int .i64 0] 3 rfl (Nat.le_refl _))
        have HL4' := Lib.hid (HL4.out.below BN)
        have HG4' := Lib.hid (own_below HG4.out BN)
        have HZ4' := Lib.hid (Nat.le_trans HZ4.out BN.size)
        have HAS' := Lib.hid (own_below HAS.out BN)
        replace z0 := cell_later BN (by exact z0)
        replace z1 := cell_later BN (by exact z1)
        replace z2 := cell_later BN (by exact z2)
        replace y1 := cell_later BN (by exact y1)
        replace s0 := cell_later BN (by exact s0)
        replace s1 := cell_later BN (by exact s1)
        replace s2 := cell_later BN (by exact s2)
        clear BN HL4 HG4 HAS
        go_simp
        clear hHeld
        refine hK.out _ _ (.inr (by exact ⟨⟨⟨z0, z1⟩, ⟨z2, y1⟩⟩, ⟨s0, s1⟩, s2⟩)) (fun hHeld => ?_)
        clear hK K
        try simp only [Act.put, List.setIfInBounds_toArray, List.set_cons_zero, List.set_cons_succ]
        refine rgE_run 7 rfl (by kernel_rfl) (by kernel_rfl) (by decide) (fun K hK => ?_)
        go_simp
        refine (c_l15Step tk tnm tz sa sb s3 (some ⟨ag, 0, none⟩) ac am aas _ hk7 HLA.out.symm ham1 (by omega) (Rd.own (own_below HAS'.out (Below.refl _ _).drew))).mono ?_
        rintro e w5 ⟨vz, na, nbb, nc, rfl, hb⟩
        have hbs := below_chain (Below.refl (w4.alloc (.cells #[.int .i64 0, .int .i64 0, .int .i64 0] 62)).heap.size (w4.alloc (.cells #[.int .i64 0, .int .i64 0, .int .i64 0] 62))).drew hb
        have HL5 := Lib.hid (HL4'.out.below hbs)
        have HG5 := Lib.hid (own_below HG4'.out hbs)
        have HZ5 := Lib.hid (Nat.le_trans HZ4'.out hbs.size)
        have HN5 : Hid (BBox w5 w4.heap.size w4.heap.size [.int .i64 0, .int .i64 0, .int .i64 0]) := Lib.hid (own_below HN4.out hbs)
        replace z0 := cell_later hbs (by exact z0)
        replace z1 := cell_later hbs (by exact z1)
        replace z2 := cell_later hbs (by exact z2)
        replace y1 := cell_later hbs (by exact y1)
        replace s0 := cell_later hbs (by exact s0)
        replace s1 := cell_later hbs (by exact s1)
        replace s2 := cell_later hbs (by exact s2)
        clear hb hbs HL4' HG4' HZ4' HN4 HAS'
        go_wp2
        clear hHeld
        refine hK.out _ _ (.inr (by exact ⟨⟨⟨z0, z1⟩, ⟨z2, y1⟩⟩, ⟨s0, s1⟩, s2⟩)) (fun hHeld => ?_)
        clear hK K
        try simp only [Act.put, List.setIfInBounds_toArray, List.set_cons_zero, List.set_cons_succ]
        refine rgE_take (v := ?_) 8 16 rfl (by kernel_rfl) (by kernel_rfl) (by kernel_rfl) (by kernel_rfl) (by kernel_rfl) (fun _ _ _ h => h) (by kernel_rfl) ?_ (by assumption) ?_
        rotate_left
        · (intro w' hSw; (try dsimp only at hSw); go_simp; first | done | with_reducible rfl)
        simp only [Act.put, List.setIfInBounds_toArray, List.set_cons_zero, List.set_cons_succ]
        refine rgE_take (v := ?_) 9 16 rfl (by kernel_rfl) (by kernel_rfl) (by kernel_rfl) (by kernel_rfl) (by kernel_rfl) (fun _ _ _ h => h) (by kernel_rfl) ?_ (by assumption) ?_
        rotate_left
        · (intro w' hSw; (try dsimp only at hSw); go_simp; first | done | with_reducible rfl)
        simp only [Act.put, List.setIfInBounds_toArray, List.set_cons_zero, List.set_cons_succ]
        refine rgE_take (v := ?_) 10 16 rfl (by kernel_rfl) (by kernel_rfl) (by kernel_rfl) (by kernel_rfl) (by kernel_rfl) (fun _ _ _ h => h) (by kernel_rfl) ?_ (by assumption) ?_
        rotate_left
        · (intro w' hSw; (try dsimp only at hSw); go_simp; first | done | with_reducible rfl)
        simp only [Act.put, List.setIfInBounds_toArray, List.set_cons_zero, List.set_cons_succ]
        refine rgE_take (v := ?_) 12 16 rfl (by kernel_rfl) (by kernel_rfl) (by kernel_rfl) (by kernel_rfl) (by kernel_rfl) (fun _ _ _ h => h) (by kernel_rfl) ?_ (by assumption) ?_
        rotate_left
        · (intro w' hSw; (try dsimp only at hSw); go_simp; first | done | with_reducible rfl)
        simp only [Act.put, List.setIfInBounds_toArray, List.set_cons_zero, List.set_cons_succ]
        obtain ⟨⟨m0, m1, m2⟩, ⟨r0, r1, r2⟩, _, _⟩ := HN5.out.c
        have hnf := HN5.out.fill (.int .i64 na) (.int .i64 nbb) (.int .i64 nc)
        have HL6 := Lib.hid (HL5.out.grow hnf.2 (fun q hq => by simp only [Option.some.injEq] at hq; have := HZ4.out; omega))
        have HG6 := Lib.hid (own_keep HG5.out HN5.out (by decide) (by simpa [Value.ownBlock] using hnf.2))
        have HZ6 := Lib.hid (Nat.le_trans HZ5.out hnf.2.size)
        have HN6 := Lib.hid hnf.1
        clear hnf HN5
        refine rgE_last rfl (by kernel_rfl) (by kernel_rfl) (by kernel_rfl) (fun K hK => ?_)
        go_simp
        clear hHeld
        refine hK.out _ _ ?_
        clear hK K
        try simp only [Act.put, List.setIfInBounds_toArray, List.set_cons_zero, List.set_cons_succ]
        go_upto_region 12 with (fail)
        generalize (((w5.setCell ⟨w4.heap.size, 0, none⟩ (.int .i64 na)).setCell ⟨w4.heap.size, 1, none⟩ (.int .i64 nbb)).setCell ⟨w4.heap.size, 2, none⟩ (.int .i64 nc)) = w6 at *
        clear m0 m1 m2 r0 r1 r2 s0 s1 s2 y1 z0 z1 z2 HL5 HG5 HZ5 HZ4
        obtain ⟨⟨n0, n1, n2⟩, _, _, _⟩ := HN6.out.c
        have y1 := HL6.out.y1
        obtain ⟨o0, s0⟩ := own_cell HL6.out.m.b (j := B * 3) (by omega)
        obtain ⟨o1, s1⟩ := own_cell HL6.out.m.b (j := B * 3 + 1) (by omega)
        obtain ⟨o2, s2⟩ := own_cell HL6.out.m.b (j := B * 3 + 2) (by omega)
        have z0 := trivial
        have z1 := trivial
        have z2 := trivial
        generalize w4.heap.size = nk at *
        have f0 := HL6.out.m.b.frozenAt (B * 3)
        have f1 := HL6.out.m.b.frozenAt (B * 3 + 1)
        have f2 := HL6.out.m.b.frozenAt (B * 3 + 2)
        have hpt := HL6.out.put hBn na nbb nc
        have HL8 := Lib.hid hpt.1
        have HG8 := Lib.hid (own_keep HG6.out HL6.out.m.b (by decide) (by rw [ob]; exact hpt.2))
        have HZ8 := Lib.hid (Nat.le_trans HZ6.out hpt.2.size)
        clear hpt
        go_upto_region 14 with (fail)
        generalize (((w6.setCell ⟨qb, B * 3, none⟩ (.int .i64 na)).setCell ⟨qb, B * 3 + 1, none⟩ (.int .i64 nbb)).setCell ⟨qb, B * 3 + 2, none⟩ (.int .i64 nc)) = w8 at *
        clear f0 f1 f2 s0 s1 s2 y1 z0 z1 z2 n0 n1 n2 HL6 HG6 HZ6
        have BV := below_alloc (Below.refl w8.heap.size w8) (.cells #[.int .i64 (vz)] 2)
        have HLV := Lib.hid (HL8.out.below BV)
        have HGV := Lib.hid (own_below HG8.out BV)
        have hzv := Nat.le_trans HZ8.out BV.size
        clear BV
        go_wp2_with (first
          | (at_builtin
             refine wpList_push_int _ rfl (.tmp 101) (.tmp 103) rfl (w.heap.size + 2) _ f zl (vz) w8.heap.size 1 rfl HGV.out rfl (by go_simp) (by omega) hzv ?_
             intro v7 w7 hown hgrow _ _
             obtain ⟨g7, c7, rfl⟩ := own_some1 hown
             have HL7 := Lib.hid (HLV.out.grow hgrow (fun q hq => (HGV.out.lt q hq).1))
             have HG7 := Lib.hid hown
             clear hown hgrow HLV HGV)
          )
        go_roundw
        case rel => exact ⟨k + 1, (B + 1), f + 1, c7, g7, zl ++ [vz], _, by omega, by omega, by go_num, by first | rfl | go_num, rfl, HBZ, HNR, HG7, HL7⟩
        case measure => simp [intOf]; omega
    · skip
      obtain rfl : k = tn := by omega
      have hrd := hrn.out
      rw [List.drop_of_length_le (by have := HTN.out; omega)] at hrd
      simp only [runH, Option.some.injEq] at hrd
      obtain rfl : sn = 1 := by omega
      obtain ⟨z, hz⟩ : ∃ z, zs[0]? = some z := ⟨_, List.getElem?_eq_getElem (by have := hg.out.1; rw [ints_length] at this; omega)⟩
      obtain ⟨b9, o9, e, _, u0⟩ := (Rd.own hg.out).int hz
      simp only [Option.some.injEq, Addr.mk.injEq, and_true] at e
      obtain ⟨rfl, rfl⟩ := e
      simp only [Nat.add_zero] at u0
      have HL := hl
      clear hz hrd hrn hg hl hB
      go_wp2_with (fail)
      go_ret
      exact ⟨z, _, rfl, HL.out.m, HL.out.g⟩
end Go.Proofs.YteengjcplmjakaaGreatDoor

/- IsCode on the program's side, over exact terms (printed by kcode.py out of CMn CIb CIc CIh CIe). Condition: the lists' sizes; the keywords lie there. -/
namespace Go.Proofs.YteengjcplmjakaaGreatDoor
open Go.RowKit

set_option maxRecDepth 100000 in
theorem c_IsBlock (t : Tm) (w : World) (hs : t.nm.size ≤ 1048576) (hk : KwR w) : Calls Tryz.prog 97 #[.agg #[.int .i64 t.k, .string t.nm, .int .i64 t.n]] w fun e w' => e = .returned (.bool (blkB t)) ∧ Below w.heap.size w w' := by
  have HT := Lib.hid (fun w (h : KwR w) => c_isTerm t.k t.nm t.n w hs h)
  have HV : Hid ((trmT t.k t.nm t.n && decide (7 ≤ t.k)) = blkB t) := Lib.hid rfl
  have HK := Lib.hid hk
  clear hk
  obtain ⟨k, nm, n⟩ := t
  dsimp only at hs HT HV ⊢
  generalize trmT k nm n = b at *
  go_enter Tryz.func97, Tryz.ntmps97
  go_wp2_with (fail)
  refine (HT.out _ (HK.out.below (below_alloc (Below.refl _ _) _))).mono ?_
  rintro e w1 ⟨rfl, hb⟩
  have HB := Lib.hid (below_chain (below_alloc (Below.refl _ _) _) hb)
  have k0 : w1.cell? ⟨w.heap.size, 0, none⟩ = some (.int .i64 k) := cell_later hb (by go_simp)
  clear hb HT
  cases b
  · go_wp2_with (fail)
    go_ret
    exact ⟨ret_bool (by rw [← HV.out]; rfl), HB.out⟩
  · go_wp2_with (fail)
    go_ret
    exact ⟨ret_bool (by rw [← HV.out]; simp), HB.out⟩
end Go.Proofs.YteengjcplmjakaaGreatDoor

/- The code of a sound program is a code, plainly. No condition but that the program is sound. -/
namespace Go.Proofs.YteengjcplmjakaaGreatDoor
open Go.RowKit

theorem run_one {p : Prg} (h : (wrB p && fltB p) = true) : ∀ l ∈ p.ls, runH l.ts 0 = some 1 := by
  intro l hl
  rw [Bool.and_eq_true] at h
  obtain ⟨hw, _⟩ := h
  unfold wrB at hw
  simp only [Bool.and_eq_true] at hw
  have h1 := List.all_eq_true.1 hw.2.2.2.2.2.1 l hl
  unfold linB exB at h1
  simp only [Bool.and_eq_true] at h1
  have h0 := h1.2.1
  unfold exF at h0
  split at h0
  · rename_i n e
    rw [e]
    simpa using h0
  · cases h0
end Go.Proofs.YteengjcplmjakaaGreatDoor

/- likeInts and sum; the times of a program's steps, plainly. Condition: the lengths; the numbers' bounds. -/
namespace Go.Proofs.YteengjcplmjakaaGreatDoor
open Go.RowKit

set_option maxRecDepth 100000 in
theorem c_likeInts (A A' : Option Addr) (c c' n n' : Nat) (zs : List Int) (w : World) (hn : n = zs.length) (hn' : n' = zs.length) (hs : zs.length ≤ 1048576) (hr : Rd w A (ints zs)) (hr' : Rd w A' (ints zs)) :
    Calls Tryz.prog 16 #[.slice A n c, .slice A' n' c'] w fun e w' => e = .returned (.bool true) ∧ Below w.heap.size w w' := by
  obtain rfl : n = n' := by omega
  have HN := Lib.hid hn
  have hs2 : n ≤ 1048576 := by omega
  clear hn hn' hs
  go_enter Tryz.func16, Tryz.ntmps16
  go_wp2
  go_loopw [5] (fun v wr => ∃ k : Nat, k ≤ n ∧ v = .int .i64 k ∧ Below w.heap.size w wr) (fun v _ => n - (intOf v).toNat)
  case atStart => exact ⟨0, Nat.zero_le _, rfl, by (repeat (first | exact Below.refl _ _ | assumption | refine below_alloc ?_ _ | refine below_drewN ?_ _ | refine below_set ?_ _ (by simp; try omega) | refine Below.drew ?_))⟩
  case round =>
    obtain ⟨k, hk, rfl, hb⟩ := hrel
    by_cases hlt : k < n
    · obtain ⟨z, hz⟩ : ∃ z, zs[k]? = some z := ⟨_, List.getElem?_eq_getElem (by have := HN.out; omega)⟩
      obtain ⟨b1, o1, rfl, _, g1⟩ := (hr.below hb).int hz
      obtain ⟨b2, o2, rfl, _, g2⟩ := (hr'.below hb).int hz
      have hk0 : (0 : Int) ≤ (k : Int) := by omega
      have hk1 : (k : Int) < n := by omega
      have HB := Lib.hid hb
      clear hz hr hr' hb
      go_wp2_with (fail)
      go_region_held3 (fun w' => w'.cell? ⟨b1, o1 + k, none⟩ = some (.int .i64 z) ∧ w'.cell? ⟨b2, o2 + k, none⟩ = some (.int .i64 z)) (exact ⟨g1, g2⟩) (fail)
      go_wp2_with (fail)
      go_roundw
      case rel => exact ⟨k + 1, by omega, by go_num, HB.out.drew⟩
      case measure => simp [intOf]; omega
    · obtain rfl : k = n := by omega
      go_wp2
      go_ret
      exact ⟨rfl, hb⟩
end Go.Proofs.YteengjcplmjakaaGreatDoor

/- The first memory on both sides; BlocksIn, IsFaulty; memories compared (printed by FbM.py). Condition: the program is sound, or told not to be. -/
namespace Go.Proofs.YteengjcplmjakaaGreatDoor
open Go.RowKit

theorem wp_make_full (w : World) {o : Oper} {a : Act} {K : Act → World → Prop} {Q : Exit → Act → World → Prop}
    (l c : Operand) (t : TypeId) (hop : o.op = Op.makeSlice t l c)
    (base : Nat) (e : TypeId) (i : TypeInfo) (z : Value) (size : Nat) (h1 : Tryz.prog.underlying t = some (.slice e)) (h2 : Tryz.prog.info? e = some i) (h3 : i.zero = some z) (h4 : i.size = size)
    (kl kc : IntKind) (L C : Int) (n : Nat) (hl : a.eval l = .int kl L) (hc : a.eval c = .int kc C) (hL : L = (n : Int)) (hC : C = (n : Int)) (b2 : i.bytes * n ≤ 281474976710656) (b3 : n ≤ maxLen) (b4 : base ≤ w.heap.size)
    (hK : ∀ w', w'.ownsRow base e size (.slice (some ⟨w.heap.size, 0, none⟩) n n) n (madeCells z.cells (n * size)).toList → w.grownBy w' none → K (a.put o.dst (.slice (some ⟨w.heap.size, 0, none⟩) n n)) w') :
    o.wp Tryz.prog a w K Q := by
  obtain ⟨w', hrun, r1, r2⟩ := run_make_full (P := Tryz.prog) w base t e i z size h1 h2 h3 h4 kl kc n b2 b3 b4
  subst hL
  subst hC
  unfold Oper.wp
  simp [execOp, hop, hl, hc, hrun, Result.andThen]
  exact hK w' r1 r2
theorem bs_rep (n : Nat) : bsCells (List.replicate n ⟨0, 0, 0⟩) = List.replicate (n * 3) (.int .i64 0) := by
  induction n with
  | zero => rfl
  | succ n ih =>
    rw [List.replicate_succ]
    have e : ∀ (x : Bs) l, bsCells (x :: l) = x.cells ++ bsCells l := fun x l => by simp [bsCells]
    rw [e, ih, show (n + 1) * 3 = 3 + n * 3 by omega, ← List.replicate_append_replicate]
    rfl
theorem made_bs (n : Nat) : (madeCells (Value.agg #[.int .i64 0, .int .i64 0, .int .i64 0]).cells (n * 3)).toList = bsCells (List.replicate n ⟨0, 0, 0⟩) := by
  rw [bs_rep]
  refine List.ext_getElem (by simp [size_madeCells]) fun j h1 h2 => ?_
  have : j % 3 = 0 ∨ j % 3 = 1 ∨ j % 3 = 2 := by omega
  rcases this with h | h | h <;> simp [madeCells, Value.cells, h]
/-- A memory of zeros. -/
def zMem (nv nb : Nat) : Mem := ⟨List.replicate nv 0, List.replicate nb ⟨0, 0, 0⟩⟩
theorem zMem_ok {nv nb : Nat} (h1 : nv ≤ 1048576) (h2 : nb ≤ 1048576) : MeOk (zMem nv nb) := ⟨by simpa [zMem] using h1, by simpa [zMem] using h2⟩
theorem retMe_z {nv nb d1 d2 : Nat} {x1 x2 : Option Addr} {w w' : World} (hv : w'.ownsRow w.heap.size 2 1 (.slice x1 nv d1) nv (ints (List.replicate nv 0))) (hb : w'.ownsRow w.heap.size 62 3 (.slice x2 nb d2) nb (bsCells (List.replicate nb ⟨0, 0, 0⟩))) (hB : Below w.heap.size w w') :
    RetMe (zMem nv nb) w (.returned (.agg #[.slice x1 nv d1, .slice x2 nb d2])) w' :=
  ⟨x1, x2, d1, d2, by simp [mv, zMem], ⟨by simpa [zMem] using hv, by simpa [zMem] using hb⟩, hB⟩
set_option maxHeartbeats 4000000 in
set_option maxRecDepth 100000 in
theorem c_l16First (p : Prg) (a1 a2 a3 a4 : Option Addr) (c1 c2 c3 c4 : Nat) (w : World) (hbd : PgB p) (h : PgR w a1 a2 a3 a4 p) :
    Calls Tryz.prog 65 #[pv p a1 a2 a3 a4 c1 c2 c3 c4] w (RetMe (zMem p.vs.length (blk p).length) w) := by
  have HBLK := Lib.hid (fun w h => c_l14Blocks p a1 a2 a3 a4 c1 c2 c3 c4 w hbd h)
  have hnb := blk_len hbd
  have hnv := hbd.v
  have H := Lib.hid h
  clear hbd h
  generalize blk p = ts at *
  have B0 := below_alloc (below_alloc (Below.refl w.heap.size w) (.cells #[.string p.nm, .slice a1 p.ins.length c1, .slice a2 p.vs.length c2, .slice a3 p.os.length c3, .string p.gd, .slice a4 p.ls.length c4] 27)) (.cells #[.slice none 0 0, .slice none 0 0] 48)
  have HP : Hid (PB ((w.alloc (.cells #[.string p.nm, .slice a1 p.ins.length c1, .slice a2 p.vs.length c2, .slice a3 p.os.length c3, .string p.gd, .slice a4 p.ls.length c4] 27)).alloc (.cells #[.slice none 0 0, .slice none 0 0] 48)) w.heap.size p a1 a2 a3 a4 c1 c2 c3 c4) := Lib.hid ⟨by go_simp, by go_simp, by go_simp, by go_simp, by go_simp, by go_simp⟩
  have HX : Hid (MBox ((w.alloc (.cells #[.string p.nm, .slice a1 p.ins.length c1, .slice a2 p.vs.length c2, .slice a3 p.os.length c3, .string p.gd, .slice a4 p.ls.length c4] 27)).alloc (.cells #[.slice none 0 0, .slice none 0 0] 48)) w.heap.size (w.heap.size + 1) [.slice none 0 0, .slice none 0 0]) := Lib.hid (by
    have h := own_box (w.alloc (.cells #[.string p.nm, .slice a1 p.ins.length c1, .slice a2 p.vs.length c2, .slice a3 p.os.length c3, .string p.gd, .slice a4 p.ls.length c4] 27)) w.heap.size 48 [.slice none 0 0, .slice none 0 0] 2 rfl (by simp)
    simpa [MBox] using h)
  have HB := Lib.hid B0
  have H0 := Lib.hid (H.out.below B0)
  have Ws := B0.size
  clear B0 H
  go_enter Tryz.func65, Tryz.ntmps65
  dsimp only [pv]
  go_upto_region 1 with (fail)
  generalize (w.alloc (.cells #[.string p.nm, .slice a1 p.ins.length c1, .slice a2 p.vs.length c2, .slice a3 p.os.length c3, .string p.gd, .slice a4 p.ls.length c4] 27)).alloc (.cells #[.slice none 0 0, .slice none 0 0] 48) = W at *
  obtain ⟨k0, k1, k2, k3, k4, k5⟩ := HP.out
  clear HP
  obtain ⟨i0, hi, hz0, hz1, hz2⟩ := info_parts info_int64
  obtain ⟨j0, gi, gz0, gz1, gz2⟩ := info_parts info_iBlockState
  have HBW := Lib.hid (Below.refl W.heap.size W)
  refine wp_region_heldE 9 (S := (fun w' => ((w'.cell? ⟨w.heap.size, 0, none⟩ = some (.string p.nm) ∧ w'.cell? ⟨w.heap.size, 1, none⟩ = some (.slice a1 p.ins.length c1)) ∧ (w'.cell? ⟨w.heap.size, 2, none⟩ = some (.slice a2 p.vs.length c2) ∧ w'.cell? ⟨w.heap.size, 3, none⟩ = some (.slice a3 p.os.length c3))) ∧ w'.cell? ⟨w.heap.size, 4, none⟩ = some (.string p.gd) ∧ w'.cell? ⟨w.heap.size, 5, none⟩ = some (.slice a4 p.ls.length c4))) (by kernel_rfl) ?_ (fun hHeld => ?_)
  · exact ⟨⟨⟨k0, k1⟩, ⟨k2, k3⟩⟩, k4, k5⟩
  refine rgE_take (v := ?_) 0 12 rfl (by kernel_rfl) (by kernel_rfl) (by kernel_rfl) (by kernel_rfl) (by kernel_rfl) (fun _ _ _ h => h) (by kernel_rfl) ?_ (by assumption) ?_
  rotate_left
  · (intro w' hSw; (try dsimp only at hSw); go_simp; first | done | with_reducible rfl)
  simp only [Act.put, List.setIfInBounds_toArray, List.set_cons_zero, List.set_cons_succ]
  refine rgE_take (v := ?_) 1 12 rfl (by kernel_rfl) (by kernel_rfl) (by kernel_rfl) (by kernel_rfl) (by kernel_rfl) (fun _ _ _ h => h) (by kernel_rfl) ?_ (by assumption) ?_
  rotate_left
  · (intro w' hSw; (try dsimp only at hSw); go_simp; first | done | with_reducible rfl)
  simp only [Act.put, List.setIfInBounds_toArray, List.set_cons_zero, List.set_cons_succ]
  refine rgE_take (v := ?_) 2 12 rfl (by kernel_rfl) (by kernel_rfl) (by kernel_rfl) (by kernel_rfl) (by kernel_rfl) (fun _ _ _ h => h) (by kernel_rfl) ?_ (by assumption) ?_
  rotate_left
  · (intro w' hSw; (try dsimp only at hSw); go_simp; first | done | with_reducible rfl)
  simp only [Act.put, List.setIfInBounds_toArray, List.set_cons_zero, List.set_cons_succ]
  refine rgE_take (v := ?_) 4 12 rfl (by kernel_rfl) (by kernel_rfl) (by kernel_rfl) (by kernel_rfl) (by kernel_rfl) (fun _ _ _ h => h) (by kernel_rfl) ?_ (by assumption) ?_
  rotate_left
  · (intro w' hSw; (try dsimp only at hSw); go_simp; first | done | with_reducible rfl)
  simp only [Act.put, List.setIfInBounds_toArray, List.set_cons_zero, List.set_cons_succ]
  refine rgE_two 3 5 rfl rfl (by kernel_rfl) (by kernel_rfl) (by kernel_rfl) (by decide) (by decide) (fun K hK => ?_) (fun K hK => ?_)
  · skip
    refine wp_make_full _ (.tmp 5) (.tmp 5) _ rfl w.heap.size 2 i0 _ 1 Tryz.underlying29 hi hz0 hz1 .i64 .i64 _ _ p.vs.length rfl rfl (by first | rfl | (simp; done) | omega) (by first | rfl | (simp; done) | omega) (by rw [hz2]; omega) (by unfold maxLen; omega) Ws ?_
    intro v1 hown hgrow
    have HVO : Hid (v1.ownsRow w.heap.size 2 1 (.slice (some ⟨W.heap.size, 0, none⟩) p.vs.length p.vs.length) p.vs.length (ints (List.replicate p.vs.length 0))) := Lib.hid (by rw [← made_intQ]; exact hown)
    have hb := below_of_grown (Below.refl W.heap.size W).drew hgrow (by simp)
    clear hown hgrow
    have HBWn := Lib.hid (below_chain HBW.out hb)
    clear HBW
    have HBW := HBWn
    clear HBWn
    replace k0 := cell_later hb (by exact k0)
    replace k1 := cell_later hb (by exact k1)
    replace k2 := cell_later hb (by exact k2)
    replace k3 := cell_later hb (by exact k3)
    replace k4 := cell_later hb (by exact k4)
    replace k5 := cell_later hb (by exact k5)
    have HXn := Lib.hid (own_below HX.out hb)
    clear HX
    have HX := HXn
    clear HXn
    have HBn := Lib.hid (below_chain HB.out hb)
    clear HB
    have HB := HBn
    clear HBn
    have v1s := Nat.le_trans Ws hb.size
    clear hb
    clear hHeld
    refine hK.out _ _ (.inr (by exact ⟨⟨⟨k0, k1⟩, ⟨k2, k3⟩⟩, k4, k5⟩)) (fun hHeld => ?_)
    clear hK K
    try simp only [Act.put, List.setIfInBounds_toArray, List.set_cons_zero, List.set_cons_succ]
    refine rgE_run 5 rfl (by kernel_rfl) (by kernel_rfl) (by decide) (fun K hK => ?_)
    go_simp
    refine (HBLK.out _ (H0.out.below HBW.out)).mono ?_
    rintro e v2 ⟨A2, cc, rfl, _, hb⟩
    have HBWn := Lib.hid (below_chain HBW.out hb)
    clear HBW
    have HBW := HBWn
    clear HBWn
    replace k0 := cell_later hb (by exact k0)
    replace k1 := cell_later hb (by exact k1)
    replace k2 := cell_later hb (by exact k2)
    replace k3 := cell_later hb (by exact k3)
    replace k4 := cell_later hb (by exact k4)
    replace k5 := cell_later hb (by exact k5)
    have HXn := Lib.hid (own_below HX.out hb)
    clear HX
    have HX := HXn
    clear HXn
    have HVOn := Lib.hid (own_below HVO.out hb)
    clear HVO
    have HVO := HVOn
    clear HVOn
    have HBn := Lib.hid (below_chain HB.out hb)
    clear HB
    have HB := HBn
    clear HBn
    have v2s := Nat.le_trans v1s hb.size
    clear hb
    go_wp2
    clear hHeld
    refine hK.out _ _ (.inr (by exact ⟨⟨⟨k0, k1⟩, ⟨k2, k3⟩⟩, k4, k5⟩)) (fun hHeld => ?_)
    clear hK K
    try simp only [Act.put, List.setIfInBounds_toArray, List.set_cons_zero, List.set_cons_succ]
    refine rgE_take (v := ?_) 6 12 rfl (by kernel_rfl) (by kernel_rfl) (by kernel_rfl) (by kernel_rfl) (by kernel_rfl) (fun _ _ _ h => h) (by kernel_rfl) ?_ (by assumption) ?_
    rotate_left
    · (intro w' hSw; (try dsimp only at hSw); go_simp; first | done | with_reducible rfl)
    simp only [Act.put, List.setIfInBounds_toArray, List.set_cons_zero, List.set_cons_succ]
    refine rgE_run 7 rfl (by kernel_rfl) (by kernel_rfl) (by decide) (fun K hK => ?_)
    refine wp_make_full _ (.tmp 9) (.tmp 9) _ rfl w.heap.size 62 j0 _ 3 Tryz.underlying46 gi gz0 gz1 .i64 .i64 _ _ ts.length rfl rfl (by first | rfl | (simp; done) | omega) (by first | rfl | (simp; done) | omega) (by rw [gz2]; omega) (by unfold maxLen; omega) v2s ?_
    intro v3 hown hgrow
    have HSO : Hid (v3.ownsRow w.heap.size 62 3 (.slice (some ⟨v2.heap.size, 0, none⟩) ts.length ts.length) ts.length (bsCells (List.replicate ts.length ⟨0, 0, 0⟩))) := Lib.hid (by rw [← made_bs]; exact hown)
    have hb := below_of_grown (Below.refl v2.heap.size v2) hgrow (by simp)
    clear hown hgrow
    have HBWn := Lib.hid (below_chain HBW.out hb)
    clear HBW
    have HBW := HBWn
    clear HBWn
    replace k0 := cell_later hb (by exact k0)
    replace k1 := cell_later hb (by exact k1)
    replace k2 := cell_later hb (by exact k2)
    replace k3 := cell_later hb (by exact k3)
    replace k4 := cell_later hb (by exact k4)
    replace k5 := cell_later hb (by exact k5)
    have HXn := Lib.hid (own_below HX.out hb)
    clear HX
    have HX := HXn
    clear HXn
    have HVOn := Lib.hid (own_below HVO.out hb)
    clear HVO
    have HVO := HVOn
    clear HVOn
    have HBn := Lib.hid (below_chain HB.out hb)
    clear HB
    have HB := HBn
    clear HBn
    have v3s := Nat.le_trans v2s hb.size
    clear hb
    clear hHeld
    refine hK.out _ _ (.inr (by exact ⟨⟨⟨k0, k1⟩, ⟨k2, k3⟩⟩, k4, k5⟩)) (fun hHeld => ?_)
    clear hK K
    try simp only [Act.put, List.setIfInBounds_toArray, List.set_cons_zero, List.set_cons_succ]
    refine rgE_take (v := ?_) 8 12 rfl (by kernel_rfl) (by kernel_rfl) (by kernel_rfl) (by kernel_rfl) (by kernel_rfl) (fun _ _ _ h => h) (by kernel_rfl) ?_ (by assumption) ?_
    rotate_left
    · (intro w' hSw; (try dsimp only at hSw); go_simp; first | done | with_reducible rfl)
    simp only [Act.put, List.setIfInBounds_toArray, List.set_cons_zero, List.set_cons_succ]
    obtain ⟨⟨m0, m1⟩, ⟨f0, f1⟩, hlt⟩ := MBox.c HX.out
    have z0 := MBox.put HX.out 0 (.slice (some ⟨W.heap.size, 0, none⟩) p.vs.length p.vs.length)
    have z1 := MBox.put z0.1 1 (.slice (some ⟨v2.heap.size, 0, none⟩) ts.length ts.length)
    have zg := grown_trans z0.2 z1.2
    have Y0 := Lib.hid (own_keep HVO.out HX.out (by decide) zg)
    have Y1 := Lib.hid (own_keep HSO.out HX.out (by decide) zg)
    have YB := Lib.hid (below_of_grown HB.out zg (fun k hk => by simp at hk; omega))
    have YC := Lib.hid z1.1
    clear z0 z1 zg HVO HSO HX HB
    refine rgE_last rfl (by kernel_rfl) (by kernel_rfl) (by kernel_rfl) (fun K hK => ?_)
    go_simp
    clear hHeld
    refine hK.out _ _ ?_
    clear hK K
    try simp only [Act.put, List.setIfInBounds_toArray, List.set_cons_zero, List.set_cons_succ]
    go_wp2_with (fail)
    generalize (v3.setCell ⟨w.heap.size + 1, 0, none⟩ (.slice (some ⟨W.heap.size, 0, none⟩) p.vs.length p.vs.length)).setCell ⟨w.heap.size + 1, 1, none⟩ (.slice (some ⟨v2.heap.size, 0, none⟩) ts.length ts.length) = WF at *
    clear m0 m1 f0 f1 hlt
    have zc := YC.out
    simp only [List.set_cons_zero, List.set_cons_succ] at zc
    obtain ⟨⟨r0, r1⟩, _⟩ := MBox.c zc
    refine bodyPost_ret (v := .agg #[.slice (some ⟨W.heap.size, 0, none⟩) p.vs.length p.vs.length, .slice (some ⟨v2.heap.size, 0, none⟩) ts.length ts.length]) (by simp [results, Tryz.results65, go_sem, r0, r1]) rfl (retMe_z Y0.out Y1.out YB.out)
  · skip
    go_simp
    refine (HBLK.out _ (H0.out.below HBW.out.drew)).mono ?_
    rintro e v1 ⟨A2, cc, rfl, _, hb⟩
    replace hb := below_chain (Below.refl W.heap.size W).drew hb
    have HBWn := Lib.hid (below_chain HBW.out hb)
    clear HBW
    have HBW := HBWn
    clear HBWn
    replace k0 := cell_later hb (by exact k0)
    replace k1 := cell_later hb (by exact k1)
    replace k2 := cell_later hb (by exact k2)
    replace k3 := cell_later hb (by exact k3)
    replace k4 := cell_later hb (by exact k4)
    replace k5 := cell_later hb (by exact k5)
    have HXn := Lib.hid (own_below HX.out hb)
    clear HX
    have HX := HXn
    clear HXn
    have HBn := Lib.hid (below_chain HB.out hb)
    clear HB
    have HB := HBn
    clear HBn
    have v1s := Nat.le_trans Ws hb.size
    clear hb
    go_wp2
    clear hHeld
    refine hK.out _ _ (.inr (by exact ⟨⟨⟨k0, k1⟩, ⟨k2, k3⟩⟩, k4, k5⟩)) (fun hHeld => ?_)
    clear hK K
    try simp only [Act.put, List.setIfInBounds_toArray, List.set_cons_zero, List.set_cons_succ]
    refine rgE_take (v := ?_) 6 12 rfl (by kernel_rfl) (by kernel_rfl) (by kernel_rfl) (by kernel_rfl) (by kernel_rfl) (fun _ _ _ h => h) (by kernel_rfl) ?_ (by assumption) ?_
    rotate_left
    · (intro w' hSw; (try dsimp only at hSw); go_simp; first | done | with_reducible rfl)
    simp only [Act.put, List.setIfInBounds_toArray, List.set_cons_zero, List.set_cons_succ]
    refine rgE_two 3 7 rfl rfl (by kernel_rfl) (by kernel_rfl) (by kernel_rfl) (by decide) (by decide) (fun K hK => ?_) (fun K hK => ?_)
    · skip
      refine wp_make_full _ (.tmp 5) (.tmp 5) _ rfl w.heap.size 2 i0 _ 1 Tryz.underlying29 hi hz0 hz1 .i64 .i64 _ _ p.vs.length rfl rfl (by first | rfl | (simp; done) | omega) (by first | rfl | (simp; done) | omega) (by rw [hz2]; omega) (by unfold maxLen; omega) v1s ?_
      intro v2 hown hgrow
      have HVO : Hid (v2.ownsRow w.heap.size 2 1 (.slice (some ⟨v1.heap.size, 0, none⟩) p.vs.length p.vs.length) p.vs.length (ints (List.replicate p.vs.length 0))) := Lib.hid (by rw [← made_intQ]; exact hown)
      have hb := below_of_grown (Below.refl v1.heap.size v1) hgrow (by simp)
      clear hown hgrow
      have HBWn := Lib.hid (below_chain HBW.out hb)
      clear HBW
      have HBW := HBWn
      clear HBWn
      replace k0 := cell_later hb (by exact k0)
      replace k1 := cell_later hb (by exact k1)
      replace k2 := cell_later hb (by exact k2)
      replace k3 := cell_later hb (by exact k3)
      replace k4 := cell_later hb (by exact k4)
      replace k5 := cell_later hb (by exact k5)
      have HXn := Lib.hid (own_below HX.out hb)
      clear HX
      have HX := HXn
      clear HXn
      have HBn := Lib.hid (below_chain HB.out hb)
      clear HB
      have HB := HBn
      clear HBn
      have v2s := Nat.le_trans v1s hb.size
      clear hb
      clear hHeld
      refine hK.out _ _ (.inr (by exact ⟨⟨⟨k0, k1⟩, ⟨k2, k3⟩⟩, k4, k5⟩)) (fun hHeld => ?_)
      clear hK K
      try simp only [Act.put, List.setIfInBounds_toArray, List.set_cons_zero, List.set_cons_succ]
      refine rgE_run 7 rfl (by kernel_rfl) (by kernel_rfl) (by decide) (fun K hK => ?_)
      refine wp_make_full _ (.tmp 9) (.tmp 9) _ rfl w.heap.size 62 j0 _ 3 Tryz.underlying46 gi gz0 gz1 .i64 .i64 _ _ ts.length rfl rfl (by first | rfl | (simp; done) | omega) (by first | rfl | (simp; done) | omega) (by rw [gz2]; omega) (by unfold maxLen; omega) v2s ?_
      intro v3 hown hgrow
      have HSO : Hid (v3.ownsRow w.heap.size 62 3 (.slice (some ⟨v2.heap.size, 0, none⟩) ts.length ts.length) ts.length (bsCells (List.replicate ts.length ⟨0, 0, 0⟩))) := Lib.hid (by rw [← made_bs]; exact hown)
      have hb := below_of_grown (Below.refl v2.heap.size v2) hgrow (by simp)
      clear hown hgrow
      have HBWn := Lib.hid (below_chain HBW.out hb)
      clear HBW
      have HBW := HBWn
      clear HBWn
      replace k0 := cell_later hb (by exact k0)
      replace k1 := cell_later hb (by exact k1)
      replace k2 := cell_later hb (by exact k2)
      replace k3 := cell_later hb (by exact k3)
      replace k4 := cell_later hb (by exact k4)
      replace k5 := cell_later hb (by exact k5)
      have HXn := Lib.hid (own_below HX.out hb)
      clear HX
      have HX := HXn
      clear HXn
      have HVOn := Lib.hid (own_below HVO.out hb)
      clear HVO
      have HVO := HVOn
      clear HVOn
      have HBn := Lib.hid (below_chain HB.out hb)
      clear HB
      have HB := HBn
      clear HBn
      have v3s := Nat.le_trans v2s hb.size
      clear hb
      clear hHeld
      refine hK.out _ _ (.inr (by exact ⟨⟨⟨k0, k1⟩, ⟨k2, k3⟩⟩, k4, k5⟩)) (fun hHeld => ?_)
      clear hK K
      try simp only [Act.put, List.setIfInBounds_toArray, List.set_cons_zero, List.set_cons_succ]
      refine rgE_take (v := ?_) 8 12 rfl (by kernel_rfl) (by kernel_rfl) (by kernel_rfl) (by kernel_rfl) (by kernel_rfl) (fun _ _ _ h => h) (by kernel_rfl) ?_ (by assumption) ?_
      rotate_left
      · (intro w' hSw; (try dsimp only at hSw); go_simp; first | done | with_reducible rfl)
      simp only [Act.put, List.setIfInBounds_toArray, List.set_cons_zero, List.set_cons_succ]
      obtain ⟨⟨m0, m1⟩, ⟨f0, f1⟩, hlt⟩ := MBox.c HX.out
      have z0 := MBox.put HX.out 0 (.slice (some ⟨v1.heap.size, 0, none⟩) p.vs.length p.vs.length)
      have z1 := MBox.put z0.1 1 (.slice (some ⟨v2.heap.size, 0, none⟩) ts.length ts.length)
      have zg := grown_trans z0.2 z1.2
      have Y0 := Lib.hid (own_keep HVO.out HX.out (by decide) zg)
      have Y1 := Lib.hid (own_keep HSO.out HX.out (by decide) zg)
      have YB := Lib.hid (below_of_grown HB.out zg (fun k hk => by simp at hk; omega))
      have YC := Lib.hid z1.1
      clear z0 z1 zg HVO HSO HX HB
      refine rgE_last rfl (by kernel_rfl) (by kernel_rfl) (by kernel_rfl) (fun K hK => ?_)
      go_simp
      clear hHeld
      refine hK.out _ _ ?_
      clear hK K
      try simp only [Act.put, List.setIfInBounds_toArray, List.set_cons_zero, List.set_cons_succ]
      go_wp2_with (fail)
      generalize (v3.setCell ⟨w.heap.size + 1, 0, none⟩ (.slice (some ⟨v1.heap.size, 0, none⟩) p.vs.length p.vs.length)).setCell ⟨w.heap.size + 1, 1, none⟩ (.slice (some ⟨v2.heap.size, 0, none⟩) ts.length ts.length) = WF at *
      clear m0 m1 f0 f1 hlt
      have zc := YC.out
      simp only [List.set_cons_zero, List.set_cons_succ] at zc
      obtain ⟨⟨r0, r1⟩, _⟩ := MBox.c zc
      refine bodyPost_ret (v := .agg #[.slice (some ⟨v1.heap.size, 0, none⟩) p.vs.length p.vs.length, .slice (some ⟨v2.heap.size, 0, none⟩) ts.length ts.length]) (by simp [results, Tryz.results65, go_sem, r0, r1]) rfl (retMe_z Y0.out Y1.out YB.out)
    · skip
      refine wp_make_full _ (.tmp 9) (.tmp 9) _ rfl w.heap.size 62 j0 _ 3 Tryz.underlying46 gi gz0 gz1 .i64 .i64 _ _ ts.length rfl rfl (by first | rfl | (simp; done) | omega) (by first | rfl | (simp; done) | omega) (by rw [gz2]; omega) (by unfold maxLen; omega) v1s ?_
      intro v2 hown hgrow
      have HSO : Hid (v2.ownsRow w.heap.size 62 3 (.slice (some ⟨v1.heap.size, 0, none⟩) ts.length ts.length) ts.length (bsCells (List.replicate ts.length ⟨0, 0, 0⟩))) := Lib.hid (by rw [← made_bs]; exact hown)
      have hb := below_of_grown (Below.refl v1.heap.size v1) hgrow (by simp)
      clear hown hgrow
      have HBWn := Lib.hid (below_chain HBW.out hb)
      clear HBW
      have HBW := HBWn
      clear HBWn
      replace k0 := cell_later hb (by exact k0)
      replace k1 := cell_later hb (by exact k1)
      replace k2 := cell_later hb (by exact k2)
      replace k3 := cell_later hb (by exact k3)
      replace k4 := cell_later hb (by exact k4)
      replace k5 := cell_later hb (by exact k5)
      have HXn := Lib.hid (own_below HX.out hb)
      clear HX
      have HX := HXn
      clear HXn
      have HBn := Lib.hid (below_chain HB.out hb)
      clear HB
      have HB := HBn
      clear HBn
      have v2s := Nat.le_trans v1s hb.size
      clear hb
      clear hHeld
      refine hK.out _ _ (.inr (by exact ⟨⟨⟨k0, k1⟩, ⟨k2, k3⟩⟩, k4, k5⟩)) (fun hHeld => ?_)
      clear hK K
      try simp only [Act.put, List.setIfInBounds_toArray, List.set_cons_zero, List.set_cons_succ]
      refine rgE_run 3 rfl (by kernel_rfl) (by kernel_rfl) (by decide) (fun K hK => ?_)
      refine wp_make_full _ (.tmp 5) (.tmp 5) _ rfl w.heap.size 2 i0 _ 1 Tryz.underlying29 hi hz0 hz1 .i64 .i64 _ _ p.vs.length rfl rfl (by first | rfl | (simp; done) | omega) (by first | rfl | (simp; done) | omega) (by rw [hz2]; omega) (by unfold maxLen; omega) v2s ?_
      intro v3 hown hgrow
      have HVO : Hid (v3.ownsRow w.heap.size 2 1 (.slice (some ⟨v2.heap.size, 0, none⟩) p.vs.length p.vs.length) p.vs.length (ints (List.replicate p.vs.length 0))) := Lib.hid (by rw [← made_intQ]; exact hown)
      have hb := below_of_grown (Below.refl v2.heap.size v2) hgrow (by simp)
      clear hown hgrow
      have HBWn := Lib.hid (below_chain HBW.out hb)
      clear HBW
      have HBW := HBWn
      clear HBWn
      replace k0 := cell_later hb (by exact k0)
      replace k1 := cell_later hb (by exact k1)
      replace k2 := cell_later hb (by exact k2)
      replace k3 := cell_later hb (by exact k3)
      replace k4 := cell_later hb (by exact k4)
      replace k5 := cell_later hb (by exact k5)
      have HXn := Lib.hid (own_below HX.out hb)
      clear HX
      have HX := HXn
      clear HXn
      have HSOn := Lib.hid (own_below HSO.out hb)
      clear HSO
      have HSO := HSOn
      clear HSOn
      have HBn := Lib.hid (below_chain HB.out hb)
      clear HB
      have HB := HBn
      clear HBn
      have v3s := Nat.le_trans v2s hb.size
      clear hb
      clear hHeld
      refine hK.out _ _ (.inr (by exact ⟨⟨⟨k0, k1⟩, ⟨k2, k3⟩⟩, k4, k5⟩)) (fun hHeld => ?_)
      clear hK K
      try simp only [Act.put, List.setIfInBounds_toArray, List.set_cons_zero, List.set_cons_succ]
      refine rgE_take (v := ?_) 8 12 rfl (by kernel_rfl) (by kernel_rfl) (by kernel_rfl) (by kernel_rfl) (by kernel_rfl) (fun _ _ _ h => h) (by kernel_rfl) ?_ (by assumption) ?_
      rotate_left
      · (intro w' hSw; (try dsimp only at hSw); go_simp; first | done | with_reducible rfl)
      simp only [Act.put, List.setIfInBounds_toArray, List.set_cons_zero, List.set_cons_succ]
      obtain ⟨⟨m0, m1⟩, ⟨f0, f1⟩, hlt⟩ := MBox.c HX.out
      have z0 := MBox.put HX.out 0 (.slice (some ⟨v2.heap.size, 0, none⟩) p.vs.length p.vs.length)
      have z1 := MBox.put z0.1 1 (.slice (some ⟨v1.heap.size, 0, none⟩) ts.length ts.length)
      have zg := grown_trans z0.2 z1.2
      have Y0 := Lib.hid (own_keep HVO.out HX.out (by decide) zg)
      have Y1 := Lib.hid (own_keep HSO.out HX.out (by decide) zg)
      have YB := Lib.hid (below_of_grown HB.out zg (fun k hk => by simp at hk; omega))
      have YC := Lib.hid z1.1
      clear z0 z1 zg HVO HSO HX HB
      refine rgE_last rfl (by kernel_rfl) (by kernel_rfl) (by kernel_rfl) (fun K hK => ?_)
      go_simp
      clear hHeld
      refine hK.out _ _ ?_
      clear hK K
      try simp only [Act.put, List.setIfInBounds_toArray, List.set_cons_zero, List.set_cons_succ]
      go_wp2_with (fail)
      generalize (v3.setCell ⟨w.heap.size + 1, 0, none⟩ (.slice (some ⟨v2.heap.size, 0, none⟩) p.vs.length p.vs.length)).setCell ⟨w.heap.size + 1, 1, none⟩ (.slice (some ⟨v1.heap.size, 0, none⟩) ts.length ts.length) = WF at *
      clear m0 m1 f0 f1 hlt
      have zc := YC.out
      simp only [List.set_cons_zero, List.set_cons_succ] at zc
      obtain ⟨⟨r0, r1⟩, _⟩ := MBox.c zc
      refine bodyPost_ret (v := .agg #[.slice (some ⟨v2.heap.size, 0, none⟩) p.vs.length p.vs.length, .slice (some ⟨v1.heap.size, 0, none⟩) ts.length ts.length]) (by simp [results, Tryz.results65, go_sem, r0, r1]) rfl (retMe_z Y0.out Y1.out YB.out)
set_option maxHeartbeats 4000000 in
set_option maxRecDepth 100000 in
theorem c_newMemory (nv nb : Nat) (w : World) (hnv : nv ≤ 1600) (hnb : nb ≤ 1600) :
    Calls Tryz.prog 111 #[.int .i64 nv, .int .i64 nb] w (RetMe (zMem nv nb) w) := by
  have B0 := below_alloc (Below.refl w.heap.size w) (.cells #[.slice none 0 0, .slice none 0 0] 48)
  have HX : Hid (MBox (w.alloc (.cells #[.slice none 0 0, .slice none 0 0] 48)) w.heap.size w.heap.size [.slice none 0 0, .slice none 0 0]) := Lib.hid (own_box w w.heap.size 48 [.slice none 0 0, .slice none 0 0] 2 rfl (Nat.le_refl _))
  have HB := Lib.hid B0
  have Ws := B0.size
  clear B0
  go_enter Tryz.func111, Tryz.ntmps111
  go_upto_region 1 with (fail)
  generalize w.alloc (.cells #[.slice none 0 0, .slice none 0 0] 48) = W at *
  obtain ⟨i0, hi, hz0, hz1, hz2⟩ := info_parts info_int64
  obtain ⟨j0, gi, gz0, gz1, gz2⟩ := info_parts info_iBlockState
  refine wp_region_heldE 5 (S := (fun _ => True)) (by kernel_rfl) ?_ (fun hHeld => ?_)
  · exact trivial
  refine rgE_take (v := ?_) 0 12 rfl (by kernel_rfl) (by kernel_rfl) (by kernel_rfl) (by kernel_rfl) (by kernel_rfl) (fun _ _ _ h => h) (by kernel_rfl) ?_ (by assumption) ?_
  rotate_left
  · (intro w' hSw; (try dsimp only at hSw); go_simp; first | done | with_reducible rfl)
  simp only [Act.put, List.setIfInBounds_toArray, List.set_cons_zero, List.set_cons_succ]
  refine rgE_take (v := ?_) 2 12 rfl (by kernel_rfl) (by kernel_rfl) (by kernel_rfl) (by kernel_rfl) (by kernel_rfl) (fun _ _ _ h => h) (by kernel_rfl) ?_ (by assumption) ?_
  rotate_left
  · (intro w' hSw; (try dsimp only at hSw); go_simp; first | done | with_reducible rfl)
  simp only [Act.put, List.setIfInBounds_toArray, List.set_cons_zero, List.set_cons_succ]
  refine rgE_two 1 3 rfl rfl (by kernel_rfl) (by kernel_rfl) (by kernel_rfl) (by decide) (by decide) (fun K hK => ?_) (fun K hK => ?_)
  · skip
    refine wp_make_full _ (.tmp 5) (.tmp 5) _ rfl w.heap.size 2 i0 _ 1 Tryz.underlying29 hi hz0 hz1 .i64 .i64 _ _ nv rfl rfl (by first | rfl | (simp; done) | omega) (by first | rfl | (simp; done) | omega) (by rw [hz2]; omega) (by unfold maxLen; omega) Ws ?_
    intro v1 hown hgrow
    have HVO : Hid (v1.ownsRow w.heap.size 2 1 (.slice (some ⟨W.heap.size, 0, none⟩) nv nv) nv (ints (List.replicate nv 0))) := Lib.hid (by rw [← made_intQ]; exact hown)
    have hb := below_of_grown (Below.refl W.heap.size W).drew hgrow (by simp)
    clear hown hgrow
    have HXn := Lib.hid (own_below HX.out hb)
    clear HX
    have HX := HXn
    clear HXn
    have HBn := Lib.hid (below_chain HB.out hb)
    clear HB
    have HB := HBn
    clear HBn
    have v1s := Nat.le_trans Ws hb.size
    clear hb
    clear hHeld
    refine hK.out _ _ (.inr trivial) (fun hHeld => ?_)
    clear hK K
    try simp only [Act.put, List.setIfInBounds_toArray, List.set_cons_zero, List.set_cons_succ]
    refine rgE_run 3 rfl (by kernel_rfl) (by kernel_rfl) (by decide) (fun K hK => ?_)
    refine wp_make_full _ (.tmp 7) (.tmp 7) _ rfl w.heap.size 62 j0 _ 3 Tryz.underlying46 gi gz0 gz1 .i64 .i64 _ _ nb rfl rfl (by first | rfl | (simp; done) | omega) (by first | rfl | (simp; done) | omega) (by rw [gz2]; omega) (by unfold maxLen; omega) v1s ?_
    intro v2 hown hgrow
    have HSO : Hid (v2.ownsRow w.heap.size 62 3 (.slice (some ⟨v1.heap.size, 0, none⟩) nb nb) nb (bsCells (List.replicate nb ⟨0, 0, 0⟩))) := Lib.hid (by rw [← made_bs]; exact hown)
    have hb := below_of_grown (Below.refl v1.heap.size v1) hgrow (by simp)
    clear hown hgrow
    have HXn := Lib.hid (own_below HX.out hb)
    clear HX
    have HX := HXn
    clear HXn
    have HVOn := Lib.hid (own_below HVO.out hb)
    clear HVO
    have HVO := HVOn
    clear HVOn
    have HBn := Lib.hid (below_chain HB.out hb)
    clear HB
    have HB := HBn
    clear HBn
    have v2s := Nat.le_trans v1s hb.size
    clear hb
    clear hHeld
    refine hK.out _ _ (.inr trivial) (fun hHeld => ?_)
    clear hK K
    try simp only [Act.put, List.setIfInBounds_toArray, List.set_cons_zero, List.set_cons_succ]
    refine rgE_take (v := ?_) 4 12 rfl (by kernel_rfl) (by kernel_rfl) (by kernel_rfl) (by kernel_rfl) (by kernel_rfl) (fun _ _ _ h => h) (by kernel_rfl) ?_ (by assumption) ?_
    rotate_left
    · (intro w' hSw; (try dsimp only at hSw); go_simp; first | done | with_reducible rfl)
    simp only [Act.put, List.setIfInBounds_toArray, List.set_cons_zero, List.set_cons_succ]
    obtain ⟨⟨m0, m1⟩, ⟨f0, f1⟩, hlt⟩ := MBox.c HX.out
    have z0 := MBox.put HX.out 0 (.slice (some ⟨W.heap.size, 0, none⟩) nv nv)
    have z1 := MBox.put z0.1 1 (.slice (some ⟨v1.heap.size, 0, none⟩) nb nb)
    have zg := grown_trans z0.2 z1.2
    have Y0 := Lib.hid (own_keep HVO.out HX.out (by decide) zg)
    have Y1 := Lib.hid (own_keep HSO.out HX.out (by decide) zg)
    have YB := Lib.hid (below_of_grown HB.out zg (fun k hk => by simp at hk; omega))
    have YC := Lib.hid z1.1
    clear z0 z1 zg HVO HSO HX HB
    refine rgE_last rfl (by kernel_rfl) (by kernel_rfl) (by kernel_rfl) (fun K hK => ?_)
    go_simp
    clear hHeld
    refine hK.out _ _ ?_
    clear hK K
    try simp only [Act.put, List.setIfInBounds_toArray, List.set_cons_zero, List.set_cons_succ]
    go_wp2_with (fail)
    generalize (v2.setCell ⟨w.heap.size, 0, none⟩ (.slice (some ⟨W.heap.size, 0, none⟩) nv nv)).setCell ⟨w.heap.size, 1, none⟩ (.slice (some ⟨v1.heap.size, 0, none⟩) nb nb) = WF at *
    clear m0 m1 f0 f1 hlt
    have zc := YC.out
    simp only [List.set_cons_zero, List.set_cons_succ] at zc
    obtain ⟨⟨r0, r1⟩, _⟩ := MBox.c zc
    refine bodyPost_ret (v := .agg #[.slice (some ⟨W.heap.size, 0, none⟩) nv nv, .slice (some ⟨v1.heap.size, 0, none⟩) nb nb]) (by simp [results, Tryz.results111, go_sem, r0, r1]) rfl (retMe_z Y0.out Y1.out YB.out)
  · skip
    refine wp_make_full _ (.tmp 7) (.tmp 7) _ rfl w.heap.size 62 j0 _ 3 Tryz.underlying46 gi gz0 gz1 .i64 .i64 _ _ nb rfl rfl (by first | rfl | (simp; done) | omega) (by first | rfl | (simp; done) | omega) (by rw [gz2]; omega) (by unfold maxLen; omega) Ws ?_
    intro v1 hown hgrow
    have HSO : Hid (v1.ownsRow w.heap.size 62 3 (.slice (some ⟨W.heap.size, 0, none⟩) nb nb) nb (bsCells (List.replicate nb ⟨0, 0, 0⟩))) := Lib.hid (by rw [← made_bs]; exact hown)
    have hb := below_of_grown (Below.refl W.heap.size W).drew hgrow (by simp)
    clear hown hgrow
    have HXn := Lib.hid (own_below HX.out hb)
    clear HX
    have HX := HXn
    clear HXn
    have HBn := Lib.hid (below_chain HB.out hb)
    clear HB
    have HB := HBn
    clear HBn
    have v1s := Nat.le_trans Ws hb.size
    clear hb
    clear hHeld
    refine hK.out _ _ (.inr trivial) (fun hHeld => ?_)
    clear hK K
    try simp only [Act.put, List.setIfInBounds_toArray, List.set_cons_zero, List.set_cons_succ]
    refine rgE_run 1 rfl (by kernel_rfl) (by kernel_rfl) (by decide) (fun K hK => ?_)
    refine wp_make_full _ (.tmp 5) (.tmp 5) _ rfl w.heap.size 2 i0 _ 1 Tryz.underlying29 hi hz0 hz1 .i64 .i64 _ _ nv rfl rfl (by first | rfl | (simp; done) | omega) (by first | rfl | (simp; done) | omega) (by rw [hz2]; omega) (by unfold maxLen; omega) v1s ?_
    intro v2 hown hgrow
    have HVO : Hid (v2.ownsRow w.heap.size 2 1 (.slice (some ⟨v1.heap.size, 0, none⟩) nv nv) nv (ints (List.replicate nv 0))) := Lib.hid (by rw [← made_intQ]; exact hown)
    have hb := below_of_grown (Below.refl v1.heap.size v1) hgrow (by simp)
    clear hown hgrow
    have HXn := Lib.hid (own_below HX.out hb)
    clear HX
    have HX := HXn
    clear HXn
    have HSOn := Lib.hid (own_below HSO.out hb)
    clear HSO
    have HSO := HSOn
    clear HSOn
    have HBn := Lib.hid (below_chain HB.out hb)
    clear HB
    have HB := HBn
    clear HBn
    have v2s := Nat.le_trans v1s hb.size
    clear hb
    clear hHeld
    refine hK.out _ _ (.inr trivial) (fun hHeld => ?_)
    clear hK K
    try simp only [Act.put, List.setIfInBounds_toArray, List.set_cons_zero, List.set_cons_succ]
    refine rgE_take (v := ?_) 4 12 rfl (by kernel_rfl) (by kernel_rfl) (by kernel_rfl) (by kernel_rfl) (by kernel_rfl) (fun _ _ _ h => h) (by kernel_rfl) ?_ (by assumption) ?_
    rotate_left
    · (intro w' hSw; (try dsimp only at hSw); go_simp; first | done | with_reducible rfl)
    simp only [Act.put, List.setIfInBounds_toArray, List.set_cons_zero, List.set_cons_succ]
    obtain ⟨⟨m0, m1⟩, ⟨f0, f1⟩, hlt⟩ := MBox.c HX.out
    have z0 := MBox.put HX.out 0 (.slice (some ⟨v1.heap.size, 0, none⟩) nv nv)
    have z1 := MBox.put z0.1 1 (.slice (some ⟨W.heap.size, 0, none⟩) nb nb)
    have zg := grown_trans z0.2 z1.2
    have Y0 := Lib.hid (own_keep HVO.out HX.out (by decide) zg)
    have Y1 := Lib.hid (own_keep HSO.out HX.out (by decide) zg)
    have YB := Lib.hid (below_of_grown HB.out zg (fun k hk => by simp at hk; omega))
    have YC := Lib.hid z1.1
    clear z0 z1 zg HVO HSO HX HB
    refine rgE_last rfl (by kernel_rfl) (by kernel_rfl) (by kernel_rfl) (fun K hK => ?_)
    go_simp
    clear hHeld
    refine hK.out _ _ ?_
    clear hK K
    try simp only [Act.put, List.setIfInBounds_toArray, List.set_cons_zero, List.set_cons_succ]
    go_wp2_with (fail)
    generalize (v2.setCell ⟨w.heap.size, 0, none⟩ (.slice (some ⟨v1.heap.size, 0, none⟩) nv nv)).setCell ⟨w.heap.size, 1, none⟩ (.slice (some ⟨W.heap.size, 0, none⟩) nb nb) = WF at *
    clear m0 m1 f0 f1 hlt
    have zc := YC.out
    simp only [List.set_cons_zero, List.set_cons_succ] at zc
    obtain ⟨⟨r0, r1⟩, _⟩ := MBox.c zc
    refine bodyPost_ret (v := .agg #[.slice (some ⟨v1.heap.size, 0, none⟩) nv nv, .slice (some ⟨W.heap.size, 0, none⟩) nb nb]) (by simp [results, Tryz.results111, go_sem, r0, r1]) rfl (retMe_z Y0.out Y1.out YB.out)
end Go.Proofs.YteengjcplmjakaaGreatDoor

/- append of a row of states to a row of the call's own; l16Own (printed by FbC.py). No condition but the sizes. -/
namespace Go.Proofs.YteengjcplmjakaaGreatDoor
open Go.RowKit

theorem bs_cell1 {ys : List Bs} {u : Value} (hu : u ∈ bsCells ys) : u.oneCell' = true := by
  unfold bsCells at hu
  obtain ⟨t, _, hu⟩ := List.mem_flatMap.1 hu
  simp only [Bs.cells, List.mem_cons, List.not_mem_nil, or_false] at hu
  rcases hu with rfl | rfl | rfl <;> rfl
theorem bsCells_append (a b : List Bs) : bsCells (a ++ b) = bsCells a ++ bsCells b := by simp [bsCells]
theorem wp_app_bs (w : World) {o : Oper} {a : Act} {K : Act → World → Prop} {Q : Exit → Act → World → Prop} (s x : Operand)
    (ho : o.op = .call { callee := .builtin .append, args := #[s, x], argTypes := #[46, 46] })
    (base b2 : Nat) (v : Value) (n : Nat) (xs : List Bs) (hs : a.eval s = v) (hown : w.ownsRow base 62 3 v n (bsCells xs))
    (A : Option Addr) (m c : Nat) (ys : List Bs) (hx : a.eval x = .slice A m c) (hr : w.ownsRow b2 62 3 (.slice A m c) m (bsCells ys)) (hb : n + m ≤ 4000000) (hbase : base ≤ w.heap.size)
    (h : ∀ v' w', w'.ownsRow base 62 3 v' (n + m) (bsCells (xs ++ ys)) → w.grownBy w' v.ownBlock → K (a.put o.dst v') w') : o.wp Tryz.prog a w K Q := by
  obtain ⟨i0, hi, hz0, hz1, hz2⟩ := info_parts info_iBlockState
  have hl : ys.length = m := by have := hr.1; rw [bsCells_length] at this; omega
  rcases hr.2 with ⟨h1, h2⟩ | ⟨g, cap, cur, h1, _⟩
  · simp only [Value.slice.injEq] at h1
    obtain ⟨rfl, rfl, rfl⟩ := h1
    obtain rfl : ys = [] := List.eq_nil_of_length_eq_zero hl
    have hrun := run_append_owned_none (P := Tryz.prog) (w := w) base 46 o.type 62 i0 3 Tryz.underlying46 hi v n (bsCells xs) hown
    unfold Oper.wp
    simp [execOp, ho, resolve, invoke, builtin, hs, hx, hrun, Result.andThen]
    exact h v w (by simpa using hown) (grown_refl _ _)
  · simp only [Value.slice.injEq, true_and] at h1
    obtain ⟨rfl, rfl⟩ := h1
    have hR := Rd.own hr
    obtain ⟨v', w', hrun, h1, h2, _⟩ := run_append_own (P := Tryz.prog) w base 46 o.type 62 i0 _ 3 24 Tryz.underlying46 hi hz0 hz1 hz2 rfl (by decide) v n (bsCells xs) hown ⟨g, 0, none⟩ m c (bsCells ys) (by rw [bsCells_length, hl]) (by
      intro j u hu
      rcases hR with h0 | ⟨b, off, e, _, hc⟩
      · rw [h0] at hu; simp at hu
      · simp only [Option.some.injEq] at e
        rw [e, Addr.add_lit]
        exact hc j u hu) (fun u hu => bs_cell1 hu) (by unfold maxLen; omega) (by omega) hbase
    unfold Oper.wp execOp
    simp only [ho, resolve, invoke, builtin, Sem.run_bind, Sem.run_pure, Result.andThen_ok, List.map_toArray, List.map_cons, List.map_nil, hs, hx, hrun]
    exact h v' w' (by rw [bsCells_append]; exact h1) h2
theorem own_litB0 (w : World) : (w.alloc (.cells #[] 62)).ownsRow w.heap.size 62 3 (.slice (some ⟨w.heap.size, 0, none⟩) 0 0) 0 (bsCells []) := by
  have h := World.ownsRow_lit (e := 62) (size := 3) (base := w.heap.size) w #[] 0 (Nat.le_refl _) (by decide) (by simp)
  simpa [bsCells] using h
/-- A memory of the call's own. -/
def MemP (nv nb : Nat) (vs : List Int) (bs : List Bs) (w : World) (e : Ending) (w' : World) : Prop :=
  ∃ x1 x2 d1 d2, e = .returned (.agg #[.slice x1 nv d1, .slice x2 nb d2]) ∧ MemW w w' x1 x2 d1 d2 nv nb vs bs
set_option maxHeartbeats 4000000 in
set_option maxRecDepth 100000 in
theorem c_l16Own (x1 x2 : Option Addr) (d1 d2 nv nb : Nat) (vs : List Int) (bs : List Bs) (w0 w : World) (hnv : nv ≤ 1048576) (hnb : nb ≤ 1048576) (hx : MemW w0 w x1 x2 d1 d2 nv nb vs bs) :
    Calls Tryz.prog 194 #[.agg #[.slice x1 nv d1, .slice x2 nb d2]] w (MemP nv nb vs bs w) := by
  have B0 := below_alloc (below_alloc (Below.refl w.heap.size w) (.cells #[.slice x1 nv d1, .slice x2 nb d2] 48)) (.cells #[.slice none 0 0, .slice none 0 0] 48)
  have HX : Hid (MBox ((w.alloc (.cells #[.slice x1 nv d1, .slice x2 nb d2] 48)).alloc (.cells #[.slice none 0 0, .slice none 0 0] 48)) w.heap.size (w.heap.size + 1) [.slice none 0 0, .slice none 0 0]) := Lib.hid (by
    have h := own_box (w.alloc (.cells #[.slice x1 nv d1, .slice x2 nb d2] 48)) w.heap.size 48 [.slice none 0 0, .slice none 0 0] 2 rfl (by simp)
    simpa [MBox] using h)
  have HB := Lib.hid B0
  have HLV : Hid (nv = vs.length) := Lib.hid hx.lenv.symm
  have HV := Lib.hid (own_below hx.v B0)
  have HS := Lib.hid (own_below hx.b B0)
  have y0 : ((w.alloc (.cells #[.slice x1 nv d1, .slice x2 nb d2] 48)).alloc (.cells #[.slice none 0 0, .slice none 0 0] 48)).cell? ⟨w.heap.size, 0, none⟩ = some (.slice x1 nv d1) := by go_simp
  have y1 : ((w.alloc (.cells #[.slice x1 nv d1, .slice x2 nb d2] 48)).alloc (.cells #[.slice none 0 0, .slice none 0 0] 48)).cell? ⟨w.heap.size, 1, none⟩ = some (.slice x2 nb d2) := by go_simp
  clear B0 hx
  go_enter Tryz.func194, Tryz.ntmps194
  go_upto_region 1 with (fail)
  generalize (w.alloc (.cells #[.slice x1 nv d1, .slice x2 nb d2] 48)).alloc (.cells #[.slice none 0 0, .slice none 0 0] 48) = W at *
  refine wp_region_heldE 8 (S := (fun w' => w'.cell? ⟨w.heap.size, 0, none⟩ = some (.slice x1 nv d1) ∧ w'.cell? ⟨w.heap.size, 1, none⟩ = some (.slice x2 nb d2))) (by kernel_rfl) ?_ (fun hHeld => ?_)
  · exact ⟨y0, y1⟩
  refine rgE_take (v := ?_) 0 12 rfl (by kernel_rfl) (by kernel_rfl) (by kernel_rfl) (by kernel_rfl) (by kernel_rfl) (fun _ _ _ h => h) (by kernel_rfl) ?_ (by assumption) ?_
  rotate_left
  · (intro w' hSw; (try dsimp only at hSw); go_simp; first | done | with_reducible rfl)
  simp only [Act.put, List.setIfInBounds_toArray, List.set_cons_zero, List.set_cons_succ]
  refine rgE_take (v := ?_) 1 12 rfl (by kernel_rfl) (by kernel_rfl) (by kernel_rfl) (by kernel_rfl) (by kernel_rfl) (fun _ _ _ h => h) (by kernel_rfl) ?_ (by assumption) ?_
  rotate_left
  · (intro w' hSw; (try dsimp only at hSw); go_simp; first | done | with_reducible rfl)
  simp only [Act.put, List.setIfInBounds_toArray, List.set_cons_zero, List.set_cons_succ]
  refine rgE_take (v := ?_) 4 12 rfl (by kernel_rfl) (by kernel_rfl) (by kernel_rfl) (by kernel_rfl) (by kernel_rfl) (fun _ _ _ h => h) (by kernel_rfl) ?_ (by assumption) ?_
  rotate_left
  · (intro w' hSw; (try dsimp only at hSw); go_simp; first | done | with_reducible rfl)
  simp only [Act.put, List.setIfInBounds_toArray, List.set_cons_zero, List.set_cons_succ]
  refine rgE_take (v := ?_) 5 12 rfl (by kernel_rfl) (by kernel_rfl) (by kernel_rfl) (by kernel_rfl) (by kernel_rfl) (fun _ _ _ h => h) (by kernel_rfl) ?_ (by assumption) ?_
  rotate_left
  · (intro w' hSw; (try dsimp only at hSw); go_simp; first | done | with_reducible rfl)
  simp only [Act.put, List.setIfInBounds_toArray, List.set_cons_zero, List.set_cons_succ]
  refine rgE_two 2 3 rfl rfl (by kernel_rfl) (by kernel_rfl) (by kernel_rfl) (by decide) (by decide) (fun K hK => ?_) (fun K hK => ?_)
  · skip
    go_simp
    refine (c_l01OwnQ w0.heap.size nv d1 x1 vs _ HLV.out (by omega) (own_below HV.out (Below.refl _ _).drew)).mono ?_
    rintro e v1 ⟨g2, gc, rfl, ho, hb⟩
    replace hb := below_chain (Below.refl W.heap.size W).drew hb
    have HVO := Lib.hid (own_mono ho (base' := w.heap.size) (Nat.le_trans HB.out.size (by first | exact Nat.le_refl _ | simp)))
    clear ho
    replace y0 := cell_later hb (by exact y0)
    replace y1 := cell_later hb (by exact y1)
    have HXn := Lib.hid (own_below HX.out hb)
    clear HX
    have HX := HXn
    clear HXn
    have HVn := Lib.hid (own_below HV.out hb)
    clear HV
    have HV := HVn
    clear HVn
    have HSn := Lib.hid (own_below HS.out hb)
    clear HS
    have HS := HSn
    clear HSn
    have HBn := Lib.hid (below_chain HB.out hb)
    clear HB
    have HB := HBn
    clear HBn
    clear hb
    go_wp2
    clear hHeld
    refine hK.out _ _ (.inr (by exact ⟨y0, y1⟩)) (fun hHeld => ?_)
    clear hK K
    try simp only [Act.put, List.setIfInBounds_toArray, List.set_cons_zero, List.set_cons_succ]
    refine rgE_run 3 rfl (by kernel_rfl) (by kernel_rfl) (by decide) (fun K hK => ?_)
    have HNE : Hid (v1.heap.size ≠ w.heap.size) := Lib.hid (by have := World.block_lt_of_cell? _ _ y0; dsimp only at this; omega)
    have hb : Below v1.heap.size v1 (v1.alloc (.cells #[] 62)) := below_alloc (Below.refl _ _) _
    have HE : Hid ((v1.alloc (.cells #[] 62)).ownsRow w.heap.size 62 3 (.slice (some ⟨v1.heap.size, 0, none⟩) 0 0) 0 (bsCells [])) := Lib.hid (own_mono (own_litB0 v1) HB.out.size)
    replace y0 := cell_later hb (by exact y0)
    replace y1 := cell_later hb (by exact y1)
    have HXn := Lib.hid (own_below HX.out hb)
    clear HX
    have HX := HXn
    clear HXn
    have HVn := Lib.hid (own_below HV.out hb)
    clear HV
    have HV := HVn
    clear HVn
    have HSn := Lib.hid (own_below HS.out hb)
    clear HS
    have HS := HSn
    clear HSn
    have HVOn := Lib.hid (own_below HVO.out hb)
    clear HVO
    have HVO := HVOn
    clear HVOn
    have HBn := Lib.hid (below_chain HB.out hb)
    clear HB
    have HB := HBn
    clear HBn
    clear hb
    go_simp
    generalize (v1.alloc (.cells #[] 62)) = v2 at *
    generalize v1.heap.size = e2 at *
    clear hHeld
    refine hK.out _ _ (.inr (by exact ⟨y0, y1⟩)) (fun hHeld => ?_)
    clear hK K
    try simp only [Act.put, List.setIfInBounds_toArray, List.set_cons_zero, List.set_cons_succ]
    have HYQ : Hid (∀ q, (Value.slice (some ⟨e2, 0, none⟩) 0 0).ownBlock = some q → q ≠ w.heap.size) := Lib.hid (fun q hq e => HNE.out (by simp only [Value.ownBlock, Option.some.injEq] at hq; omega))
    refine rgE_run 6 rfl (by kernel_rfl) (by kernel_rfl) (by decide) (fun K hK => ?_)
    refine wp_app_bs _ (.tmp 6) (.tmp 8) rfl w.heap.size w0.heap.size _ 0 [] rfl HE.out x2 nb d2 bs rfl HS.out (by omega) HB.out.size ?_
    intro v' v3 hown hgrow
    rw [Nat.zero_add, List.nil_append] at hown
    obtain ⟨A2, c2, rfl⟩ := own_shape hown
    have HSO := Lib.hid hown
    have HQ := Lib.hid (fun q (hq : (Value.slice (some ⟨e2, 0, none⟩) 0 0).ownBlock = some q) => HE.out.lt q hq)
    have hqy := World.block_lt_of_cell? _ _ y0
    have hyq := HYQ.out
    have HXn := Lib.hid (own_keep HX.out HE.out (by decide) hgrow)
    clear HX
    have HX := HXn
    clear HXn
    have HVn := Lib.hid (own_keep HV.out HE.out (by decide) hgrow)
    clear HV
    have HV := HVn
    clear HVn
    have HVOn := Lib.hid (own_keep HVO.out HE.out (by decide) hgrow)
    clear HVO
    have HVO := HVOn
    clear HVOn
    have HBn := Lib.hid (below_of_grown HB.out hgrow (fun q hq => (HQ.out q hq).1))
    replace y0 := cell_mark' y0 hgrow (fun q hq e => hyq q hq e)
    replace y1 := cell_mark' y1 hgrow (fun q hq e => hyq q hq e)
    clear HB
    have HB := HBn
    clear HBn hown hgrow HE HQ hyq HYQ
    clear hHeld
    refine hK.out _ _ (.inr (by exact ⟨y0, y1⟩)) (fun hHeld => ?_)
    clear hK K
    try simp only [Act.put, List.setIfInBounds_toArray, List.set_cons_zero, List.set_cons_succ]
    refine rgE_take (v := ?_) 7 12 rfl (by kernel_rfl) (by kernel_rfl) (by kernel_rfl) (by kernel_rfl) (by kernel_rfl) (fun _ _ _ h => h) (by kernel_rfl) ?_ (by assumption) ?_
    rotate_left
    · (intro w' hSw; (try dsimp only at hSw); go_simp; first | done | with_reducible rfl)
    simp only [Act.put, List.setIfInBounds_toArray, List.set_cons_zero, List.set_cons_succ]
    obtain ⟨⟨m0, m1⟩, ⟨f0, f1⟩, hlt⟩ := MBox.c HX.out
    have z0 := MBox.put HX.out 0 (.slice (some ⟨g2, 0, none⟩) nv gc)
    have z1 := MBox.put z0.1 1 (.slice A2 nb c2)
    have zg := grown_trans z0.2 z1.2
    have Y0 := Lib.hid (own_keep HVO.out HX.out (by decide) zg)
    have Y1 := Lib.hid (own_keep HSO.out HX.out (by decide) zg)
    have YB := Lib.hid (below_of_grown HB.out zg (fun k hk => by simp at hk; omega))
    have YC := Lib.hid z1.1
    clear z0 z1 zg HVO HSO HX HB
    refine rgE_last rfl (by kernel_rfl) (by kernel_rfl) (by kernel_rfl) (fun K hK => ?_)
    go_simp
    clear hHeld
    refine hK.out _ _ ?_
    clear hK K
    try simp only [Act.put, List.setIfInBounds_toArray, List.set_cons_zero, List.set_cons_succ]
    go_wp2_with (fail)
    generalize (v3.setCell ⟨w.heap.size + 1, 0, none⟩ (.slice (some ⟨g2, 0, none⟩) nv gc)).setCell ⟨w.heap.size + 1, 1, none⟩ (.slice A2 nb c2) = WF at *
    clear m0 m1 f0 f1 hlt
    have zc := YC.out
    simp only [List.set_cons_zero, List.set_cons_succ] at zc
    obtain ⟨⟨r0, r1⟩, _⟩ := MBox.c zc
    refine bodyPost_ret (v := .agg #[.slice (some ⟨g2, 0, none⟩) nv gc, .slice A2 nb c2]) (by simp [results, Tryz.results194, go_sem, r0, r1]) rfl ⟨_, _, _, _, rfl, Y0.out, Y1.out, YB.out⟩
  · skip
    have HNE : Hid (W.heap.size ≠ w.heap.size) := Lib.hid (by have := World.block_lt_of_cell? _ _ y0; dsimp only at this; omega)
    have hb : Below W.heap.size W (W.alloc (.cells #[] 62)).drew := (below_alloc (Below.refl _ _) _).drew
    have HE : Hid ((W.alloc (.cells #[] 62)).drew.ownsRow w.heap.size 62 3 (.slice (some ⟨W.heap.size, 0, none⟩) 0 0) 0 (bsCells [])) := Lib.hid (own_mono (own_below (own_litB0 W) (Below.refl _ _).drew) HB.out.size)
    replace y0 := cell_later hb (by exact y0)
    replace y1 := cell_later hb (by exact y1)
    have HXn := Lib.hid (own_below HX.out hb)
    clear HX
    have HX := HXn
    clear HXn
    have HVn := Lib.hid (own_below HV.out hb)
    clear HV
    have HV := HVn
    clear HVn
    have HSn := Lib.hid (own_below HS.out hb)
    clear HS
    have HS := HSn
    clear HSn
    have HBn := Lib.hid (below_chain HB.out hb)
    clear HB
    have HB := HBn
    clear HBn
    clear hb
    go_simp
    generalize (W.alloc (.cells #[] 62)).drew = v1 at *
    generalize W.heap.size = e2 at *
    clear hHeld
    refine hK.out _ _ (.inr (by exact ⟨y0, y1⟩)) (fun hHeld => ?_)
    clear hK K
    try simp only [Act.put, List.setIfInBounds_toArray, List.set_cons_zero, List.set_cons_succ]
    have HYQ : Hid (∀ q, (Value.slice (some ⟨e2, 0, none⟩) 0 0).ownBlock = some q → q ≠ w.heap.size) := Lib.hid (fun q hq e => HNE.out (by simp only [Value.ownBlock, Option.some.injEq] at hq; omega))
    refine rgE_run 2 rfl (by kernel_rfl) (by kernel_rfl) (by decide) (fun K hK => ?_)
    go_simp
    refine (c_l01OwnQ w0.heap.size nv d1 x1 vs _ HLV.out (by omega) HV.out).mono ?_
    rintro e v2 ⟨g2, gc, rfl, ho, hb⟩
    have HVO := Lib.hid (own_mono ho (base' := w.heap.size) (Nat.le_trans HB.out.size (by first | exact Nat.le_refl _ | simp)))
    clear ho
    replace y0 := cell_later hb (by exact y0)
    replace y1 := cell_later hb (by exact y1)
    have HXn := Lib.hid (own_below HX.out hb)
    clear HX
    have HX := HXn
    clear HXn
    have HVn := Lib.hid (own_below HV.out hb)
    clear HV
    have HV := HVn
    clear HVn
    have HSn := Lib.hid (own_below HS.out hb)
    clear HS
    have HS := HSn
    clear HSn
    have HEn := Lib.hid (own_below HE.out hb)
    clear HE
    have HE := HEn
    clear HEn
    have HBn := Lib.hid (below_chain HB.out hb)
    clear HB
    have HB := HBn
    clear HBn
    clear hb
    go_wp2
    clear hHeld
    refine hK.out _ _ (.inr (by exact ⟨y0, y1⟩)) (fun hHeld => ?_)
    clear hK K
    try simp only [Act.put, List.setIfInBounds_toArray, List.set_cons_zero, List.set_cons_succ]
    refine rgE_run 6 rfl (by kernel_rfl) (by kernel_rfl) (by decide) (fun K hK => ?_)
    refine wp_app_bs _ (.tmp 6) (.tmp 8) rfl w.heap.size w0.heap.size _ 0 [] rfl HE.out x2 nb d2 bs rfl HS.out (by omega) HB.out.size ?_
    intro v' v3 hown hgrow
    rw [Nat.zero_add, List.nil_append] at hown
    obtain ⟨A2, c2, rfl⟩ := own_shape hown
    have HSO := Lib.hid hown
    have HQ := Lib.hid (fun q (hq : (Value.slice (some ⟨e2, 0, none⟩) 0 0).ownBlock = some q) => HE.out.lt q hq)
    have hqy := World.block_lt_of_cell? _ _ y0
    have hyq := HYQ.out
    have HXn := Lib.hid (own_keep HX.out HE.out (by decide) hgrow)
    clear HX
    have HX := HXn
    clear HXn
    have HVn := Lib.hid (own_keep HV.out HE.out (by decide) hgrow)
    clear HV
    have HV := HVn
    clear HVn
    have HVOn := Lib.hid (own_keep HVO.out HE.out (by decide) hgrow)
    clear HVO
    have HVO := HVOn
    clear HVOn
    have HBn := Lib.hid (below_of_grown HB.out hgrow (fun q hq => (HQ.out q hq).1))
    replace y0 := cell_mark' y0 hgrow (fun q hq e => hyq q hq e)
    replace y1 := cell_mark' y1 hgrow (fun q hq e => hyq q hq e)
    clear HB
    have HB := HBn
    clear HBn hown hgrow HE HQ hyq HYQ
    clear hHeld
    refine hK.out _ _ (.inr (by exact ⟨y0, y1⟩)) (fun hHeld => ?_)
    clear hK K
    try simp only [Act.put, List.setIfInBounds_toArray, List.set_cons_zero, List.set_cons_succ]
    refine rgE_take (v := ?_) 7 12 rfl (by kernel_rfl) (by kernel_rfl) (by kernel_rfl) (by kernel_rfl) (by kernel_rfl) (fun _ _ _ h => h) (by kernel_rfl) ?_ (by assumption) ?_
    rotate_left
    · (intro w' hSw; (try dsimp only at hSw); go_simp; first | done | with_reducible rfl)
    simp only [Act.put, List.setIfInBounds_toArray, List.set_cons_zero, List.set_cons_succ]
    obtain ⟨⟨m0, m1⟩, ⟨f0, f1⟩, hlt⟩ := MBox.c HX.out
    have z0 := MBox.put HX.out 0 (.slice (some ⟨g2, 0, none⟩) nv gc)
    have z1 := MBox.put z0.1 1 (.slice A2 nb c2)
    have zg := grown_trans z0.2 z1.2
    have Y0 := Lib.hid (own_keep HVO.out HX.out (by decide) zg)
    have Y1 := Lib.hid (own_keep HSO.out HX.out (by decide) zg)
    have YB := Lib.hid (below_of_grown HB.out zg (fun k hk => by simp at hk; omega))
    have YC := Lib.hid z1.1
    clear z0 z1 zg HVO HSO HX HB
    refine rgE_last rfl (by kernel_rfl) (by kernel_rfl) (by kernel_rfl) (fun K hK => ?_)
    go_simp
    clear hHeld
    refine hK.out _ _ ?_
    clear hK K
    try simp only [Act.put, List.setIfInBounds_toArray, List.set_cons_zero, List.set_cons_succ]
    go_wp2_with (fail)
    generalize (v3.setCell ⟨w.heap.size + 1, 0, none⟩ (.slice (some ⟨g2, 0, none⟩) nv gc)).setCell ⟨w.heap.size + 1, 1, none⟩ (.slice A2 nb c2) = WF at *
    clear m0 m1 f0 f1 hlt
    have zc := YC.out
    simp only [List.set_cons_zero, List.set_cons_succ] at zc
    obtain ⟨⟨r0, r1⟩, _⟩ := MBox.c zc
    refine bodyPost_ret (v := .agg #[.slice (some ⟨g2, 0, none⟩) nv gc, .slice A2 nb c2]) (by simp [results, Tryz.results194, go_sem, r0, r1]) rfl ⟨_, _, _, _, rfl, Y0.out, Y1.out, YB.out⟩
end Go.Proofs.YteengjcplmjakaaGreatDoor
