/- How programs and memories read as arguments of the laws, and what the listed table gives. No condition. -/
import Derived.Test.YtackekfjalaacaaGreatDoorOpenR
import Derived.Test.YtackekfjalaacaaGreatDoorH2
import Derived.LaidMore
import Derived.MakeChecks
namespace Go.Proofs.YtackekfjalaacaaGreatDoor
open Go.ChangeShapes Go.WideShapes Go.ChangeAt Go.RowKit Go.Deep

theorem cells_lTerm : Tryz.prog.cellsOf 152 = 3 := by kernel_rfl
theorem cells_lLine : Tryz.prog.cellsOf 89 = 2 := by kernel_rfl
theorem cells_lPrg : Tryz.prog.cellsOf 25 = 6 := by kernel_rfl
theorem cells_lTermS : Tryz.prog.cellsOf 87 = 1 := by kernel_rfl
theorem cells_lLineS : Tryz.prog.cellsOf 23 = 1 := by kernel_rfl
theorem cells_strS : Tryz.prog.cellsOf 22 = 1 := by kernel_rfl
theorem cells_string : Tryz.prog.cellsOf 9 = 1 := by kernel_rfl
theorem cells_keys : Tryz.prog.cellsOf 163 = 17 := by kernel_rfl
section
variable {H : Type} {enc : TypeId × Value → H} {W : World} {base : Nat} {spare : Nat → Bool} {held : Bool}
set_option maxRecDepth 100000 in
theorem trod_tm {n : Nat} {cs : List Value} {x : DataW H × List MemPlace} (h : DataW.trod enc Tryz.prog W base spare held n 152 cs = some x) :
    ∃ s : Tm, cs = s.cells ∧ s.nm.size ≤ 9223372036854775807 := by
  obtain ⟨xs, m, _, _, hl, hlen, hg⟩ := DataW.trod_struct Tryz.underlying152 h
  rw [cells_lTerm] at hl
  match cs, hl, xs, hlen with
  | [c0, c1, c2], _, [y0, y1, y2], _ =>
    have g0 : DataW.trod enc Tryz.prog W base spare held m 2 (List.take (Tryz.prog.cellsOf 2) [c0, c1, c2]) = some y0 := hg 0 _ rfl
    have g1 : DataW.trod enc Tryz.prog W base spare held m 9 (List.take (Tryz.prog.cellsOf 9) [c1, c2]) = some y1 := hg 1 _ rfl
    have g2 : DataW.trod enc Tryz.prog W base spare held m 2 (List.take (Tryz.prog.cellsOf 2) [c2]) = some y2 := hg 2 _ rfl
    rw [cells_int64] at g0 g2
    rw [cells_string] at g1
    obtain ⟨k, e0, _, w0⟩ := DataW.trod_int Tryz.underlying2 g0
    obtain ⟨s, e1, _, w1⟩ := DataW.trod_string Tryz.underlying9 g1
    obtain ⟨r, e2, _, w2⟩ := DataW.trod_int Tryz.underlying2 g2
    simp at e0 e1 e2
    subst e0 e1 e2
    unfold maxLen at w1
    exact ⟨⟨k, s, r⟩, rfl, by dsimp only; omega⟩
theorem trod_tmS {n : Nat} {c0 : Value} {x : DataW H × List MemPlace} (h : DataW.trod enc Tryz.prog W 0 (fun _ => true) true n 87 [c0] = some x) :
    ∃ (A : Option Addr) (n c : Nat) (l : List Tm), c0 = .slice A n c ∧ n = l.length ∧ n ≤ 9223372036854775807 ∧ Rd W A (tmCells l) ∧ ∀ t ∈ l, t.nm.size ≤ 9223372036854775807 :=
  open_rows Tm.cells (fun s => s.nm.size ≤ 9223372036854775807) Tryz.underlying87 cells_lTerm (by omega) (fun _ => rfl) (fun _ _ _ h => trod_tm h) h
theorem sts_flat (l : List ByteArray) : l.flatMap (fun z => [Value.string z]) = sts l := by
  induction l with
  | nil => rfl
  | cons a t ih => rw [List.flatMap_cons, ih]; rfl
theorem trod_strS {n : Nat} {c0 : Value} {x : DataW H × List MemPlace} (h : DataW.trod enc Tryz.prog W 0 (fun _ => true) true n 22 [c0] = some x) :
    ∃ (A : Option Addr) (n c : Nat) (l : List ByteArray), c0 = .slice A n c ∧ n = l.length ∧ n ≤ 9223372036854775807 ∧ Rd W A (sts l) ∧ ∀ z ∈ l, z.size ≤ 9223372036854775807 := by
  have := open_rows (fun z : ByteArray => [Value.string z]) (fun z => z.size ≤ 9223372036854775807) Tryz.underlying22 cells_string (by omega) (fun _ => rfl) (fun _ cs _ h => by
    obtain ⟨k, e0, _, w0⟩ := DataW.trod_string Tryz.underlying9 h
    unfold maxLen at w0
    exact ⟨k, e0, by omega⟩) h
  obtain ⟨A, n, c, l, e, h1, h2, h3, h4⟩ := this
  refine ⟨A, n, c, l, e, h1, h2, ?_, h4⟩
  rwa [sts_flat] at h3
set_option maxRecDepth 100000 in
theorem trod_line {n : Nat} {cs : List Value} {x : DataW H × List MemPlace} (h : DataW.trod enc Tryz.prog W 0 (fun _ => true) true n 89 cs = some x) :
    ∃ d : LiD, cs = d.cells ∧ LinSz d.l ∧ Rd W d.a (tmCells d.l.ts) := by
  obtain ⟨xs, m, _, _, hl, hlen, hg⟩ := DataW.trod_struct Tryz.underlying89 h
  rw [cells_lLine] at hl
  match cs, hl, xs, hlen with
  | [c0, c1], _, [y0, y1], _ =>
    have g0 : DataW.trod enc Tryz.prog W 0 (fun _ => true) true m 9 (List.take (Tryz.prog.cellsOf 9) [c0, c1]) = some y0 := hg 0 _ rfl
    have g1 : DataW.trod enc Tryz.prog W 0 (fun _ => true) true m 87 (List.take (Tryz.prog.cellsOf 87) [c1]) = some y1 := hg 1 _ rfl
    rw [cells_string] at g0
    rw [cells_lTermS] at g1
    obtain ⟨s, e0, _, w0⟩ := DataW.trod_string Tryz.underlying9 g0
    obtain ⟨A1, n1, c1', l1, rfl, rfl, hm1, hr1, hw1⟩ := trod_tmS g1
    simp at e0
    subst e0
    unfold maxLen at w0
    exact ⟨⟨⟨s, l1⟩, A1, c1'⟩, rfl, ⟨by dsimp only; omega, hm1, hw1⟩, hr1⟩
theorem trod_lineS {n : Nat} {c0 : Value} {x : DataW H × List MemPlace} (h : DataW.trod enc Tryz.prog W 0 (fun _ => true) true n 23 [c0] = some x) :
    ∃ (A : Option Addr) (n c : Nat) (l : List Lin), c0 = .slice A n c ∧ n = l.length ∧ n ≤ 9223372036854775807 ∧ Ll W A l ∧ ∀ r ∈ l, LinSz r := by
  obtain ⟨A, n, c, l, rfl, h1, h2, h3, h4⟩ := open_rows LiD.cells (fun d => LinSz d.l ∧ Rd W d.a (tmCells d.l.ts)) Tryz.underlying23 cells_lLine (by omega) (fun _ => rfl) (fun _ _ _ h => trod_line h) h
  refine ⟨A, n, c, l.map LiD.l, rfl, by simp [h1], h2, ⟨l, rfl, h3, fun d hd => (h4 d hd).2⟩, fun r hr => ?_⟩
  obtain ⟨d, hd, rfl⟩ := List.mem_map.1 hr
  exact (h4 d hd).1
set_option maxRecDepth 100000 in
theorem open_program {v : Value} {d : DataW H} {p : List MemPlace} (hv : Value.okWide Tryz.prog W .any base 25 v) (h : DataW.Trod enc Tryz.prog W 0 (fun _ => true) true 25 v d p) :
    ∃ (p : Prg) (a1 a2 a3 a4 : Option Addr) (c1 c2 c3 c4 : Nat), v = pv p a1 a2 a3 a4 c1 c2 c3 c4 ∧ PgSz p ∧ PgR W a1 a2 a3 a4 p := by
  obtain ⟨cs, rfl, hsz⟩ := okWide_struct Tryz.underlying25 hv
  obtain ⟨fuel, hf⟩ := h
  rw [cells_lPrg] at hsz
  obtain ⟨xs, m, _, _, hl, hlen, hg⟩ := DataW.trod_struct Tryz.underlying25 hf
  obtain ⟨L⟩ := cs
  match L, hsz, xs, hlen with
  | [c0, c1, c2, c3, c4, c5], _, [y0, y1, y2, y3, y4, y5], _ =>
    have g0 : DataW.trod enc Tryz.prog W 0 (fun _ => true) true m 9 (List.take (Tryz.prog.cellsOf 9) [c0, c1, c2, c3, c4, c5]) = some y0 := hg 0 _ rfl
    have g1 : DataW.trod enc Tryz.prog W 0 (fun _ => true) true m 22 (List.take (Tryz.prog.cellsOf 22) [c1, c2, c3, c4, c5]) = some y1 := hg 1 _ rfl
    have g2 : DataW.trod enc Tryz.prog W 0 (fun _ => true) true m 22 (List.take (Tryz.prog.cellsOf 22) [c2, c3, c4, c5]) = some y2 := hg 2 _ rfl
    have g3 : DataW.trod enc Tryz.prog W 0 (fun _ => true) true m 22 (List.take (Tryz.prog.cellsOf 22) [c3, c4, c5]) = some y3 := hg 3 _ rfl
    have g4 : DataW.trod enc Tryz.prog W 0 (fun _ => true) true m 9 (List.take (Tryz.prog.cellsOf 9) [c4, c5]) = some y4 := hg 4 _ rfl
    have g5 : DataW.trod enc Tryz.prog W 0 (fun _ => true) true m 23 (List.take (Tryz.prog.cellsOf 23) [c5]) = some y5 := hg 5 _ rfl
    rw [cells_string] at g0 g4
    rw [cells_strS] at g1 g2 g3
    rw [cells_lLineS] at g5
    obtain ⟨s0, e0, _, w0⟩ := DataW.trod_string Tryz.underlying9 g0
    obtain ⟨s4, e4, _, w4⟩ := DataW.trod_string Tryz.underlying9 g4
    obtain ⟨A1, n1, q1, l1, rfl, hn1, hm1, hr1, hw1⟩ := trod_strS g1
    obtain ⟨A2, n2, q2, l2, rfl, hn2, hm2, hr2, hw2⟩ := trod_strS g2
    obtain ⟨A3, n3, q3, l3, rfl, hn3, hm3, hr3, hw3⟩ := trod_strS g3
    obtain ⟨A5, n5, q5, l5, rfl, hn5, hm5, hr5, hw5⟩ := trod_lineS g5
    simp at e0 e4
    subst e0 e4 hn1 hn2 hn3 hn5
    unfold maxLen at w0 w4
    exact ⟨⟨s0, l1, l2, l3, s4, l5⟩, A1, A2, A3, A5, q1, q2, q3, q5, rfl, ⟨by dsimp only; omega, ⟨hm1, hw1⟩, ⟨hm2, hw2⟩, ⟨hm3, hw3⟩, by dsimp only; omega, hm5, hw5⟩, ⟨hr1, hr2, hr3, hr5⟩⟩
end
set_option maxRecDepth 100000 in
theorem open_str {H : Type} {enc : TypeId × Value → H} {W : World} {base : Nat} {v : Value} {d : DataW H} {p : List MemPlace} (hv : Value.okWide Tryz.prog W .any base 9 v) (h : DataW.Trod enc Tryz.prog W 0 (fun _ => true) true 9 v d p) : ∃ s : ByteArray, v = .string s ∧ s.size ≤ 9223372036854775807 := by
  obtain ⟨s, rfl⟩ := okWide_string Tryz.underlying9 hv
  obtain ⟨fuel, hf⟩ := h
  obtain ⟨s', e, _, hs⟩ := DataW.trod_string Tryz.underlying9 hf
  have e2 : s = s' := by simpa [Value.cells] using e
  subst e2
  exact ⟨s, rfl, by unfold maxLen at hs; omega⟩
theorem g_keys : Tryz.prog.globalNamed "loop.example/g00916/impl.keywords" = some 0 := by kernel_rfl
theorem g_keysType : (Tryz.prog.globals[0]?).map (·.type) = some 163 := by kernel_rfl
theorem keys_datum : (Rows.laid_loop_example_g00916_impl_keywords : DataW Unit) = .agg (kws.map fun s => .lit (.string s.data.toList)) := by rfl
/-- What the condition gives the walks: the keywords' cells hold the keywords. -/
theorem keys_of {W : World} (h : laidMetH Tryz.prog [("loop.example/g00916/impl.keywords", Rows.laid_loop_example_g00916_impl_keywords)] W) : KwR W := by
  rw [MakeChecks.laidMetH_plain _ _ _ (by kernel_rfl)] at h
  obtain ⟨ps, ⟨g0, t0, cs0, f0, p0, q0, hg0, ht0, hv0, hd0, _⟩, _, _⟩ := h
  obtain rfl := Option.some.inj (g_keys.symm.trans hg0)
  obtain rfl := Option.some.inj (g_keysType.symm.trans ht0)
  obtain ⟨xs, m1, _, hx, hlen, hn, hel⟩ := DataW.trod_array Tryz.underlying163 hd0
  rw [cells_keys] at hlen
  rw [keys_datum] at hx
  simp only [Prod.mk.injEq, DataW.agg.injEq] at hx
  obtain ⟨hx, _⟩ := hx
  refine rd_of fun k u hu => ?_
  have hk : k < 17 := by
    have := (List.getElem?_eq_some_iff.1 hu).1
    simpa [sts, kws] using this
  obtain ⟨x, hxk⟩ : ∃ x, xs[k]? = some x := ⟨_, List.getElem?_eq_getElem (by omega)⟩
  obtain ⟨t, ht⟩ : ∃ t, kws[k]? = some t := ⟨_, List.getElem?_eq_getElem (by simpa [kws] using hk)⟩
  have hu2 : u = .string t := by
    unfold sts at hu
    rw [List.getElem?_map, ht] at hu
    simpa using hu.symm
  have h1 := hel k hk
  rw [hxk, cells_string, Nat.mul_one] at h1
  obtain ⟨s, e, e2, _⟩ := DataW.trod_string Tryz.underlying9 h1
  have h3 : (kws.map fun s => (DataW.lit (.string s.data.toList) : DataW Unit))[k]? = (xs.map (·.1))[k]? := by rw [hx]
  rw [List.getElem?_map, List.getElem?_map, ht, hxk, e2] at h3
  simp only [Option.map_some, Option.some.injEq, DataW.lit.injEq, Lit.string.injEq] at h3
  have hst : s = t := by
    obtain ⟨⟨s⟩⟩ := s
    obtain ⟨⟨t⟩⟩ := t
    simp only at h3
    rw [h3]
  subst hst
  subst hu2
  show W.cell? _ = _
  have hadd : (⟨0, 0, none⟩ : Addr).add k = ⟨0, k, none⟩ := by rw [add_plain']; simp
  rw [hadd, World.var?_cell hg0 hv0 k]
  have : (cs0.toList.drop k)[0]? = some (Value.string s) := by
    have h2 : ((cs0.toList.drop k).take 1)[0]? = some (Value.string s) := by rw [e]; rfl
    rwa [List.getElem?_take, if_pos (by decide)] at h2
  rw [List.getElem?_drop] at this
  simpa using this
set_option maxRecDepth 100000 in
/-- The heap that the program's own start leaves meets the condition. -/
theorem door_met (os : Os) (args : Array Value) : laidMetH Tryz.prog [("loop.example/g00916/impl.keywords", Rows.laid_loop_example_g00916_impl_keywords)] ((World.doorLaid Tryz.prog 400 os).forCall (fun _ _ => 0) ⟨#[], args, []⟩).memory :=
  laidMetH_of_parts3 (fuel := 8) (laidMet_of_run' 8 (by kernel_rfl) (by kernel_rfl)) (by kernel_rfl) (by kernel_rfl)
end Go.Proofs.YtackekfjalaacaaGreatDoor
