/- How codes read as arguments of the laws, and what the listed table gives. No condition. -/
import Derived.Test.YtdkclhbonmpcbaaDoorOpenR
import Derived.Test.YtdkclhbonmpcbaaDoorCWd
import Derived.LaidMore
import Derived.MakeChecks
namespace Go.Proofs.YtdkclhbonmpcbaaDoor
open Go.ChangeShapes Go.WideShapes Go.ChangeAt Go.RowKit Go.Deep

theorem cells_lTerm : Tryd.prog.cellsOf 57 = 3 := by kernel_rfl
theorem cells_lIns : Tryd.prog.cellsOf 65 = 2 := by kernel_rfl
theorem cells_lCode : Tryd.prog.cellsOf 25 = 5 := by kernel_rfl
theorem cells_lTermS : Tryd.prog.cellsOf 22 = 1 := by kernel_rfl
theorem cells_lInsS : Tryd.prog.cellsOf 23 = 1 := by kernel_rfl
theorem cells_string : Tryd.prog.cellsOf 9 = 1 := by kernel_rfl
theorem cells_keys : Tryd.prog.cellsOf 85 = 17 := by kernel_rfl
section
variable {H : Type} {enc : TypeId × Value → H} {W : World} {base : Nat} {spare : Nat → Bool} {held : Bool}
set_option maxRecDepth 100000 in
theorem trod_tm {n : Nat} {cs : List Value} {x : DataW H × List MemPlace} (h : DataW.trod enc Tryd.prog W base spare held n 57 cs = some x) :
    ∃ s : Tm, cs = s.cells ∧ s.nm.size ≤ 9223372036854775807 := by
  obtain ⟨xs, m, _, _, hl, hlen, hg⟩ := DataW.trod_struct Tryd.underlying57 h
  rw [cells_lTerm] at hl
  match cs, hl, xs, hlen with
  | [c0, c1, c2], _, [y0, y1, y2], _ =>
    have g0 : DataW.trod enc Tryd.prog W base spare held m 2 (List.take (Tryd.prog.cellsOf 2) [c0, c1, c2]) = some y0 := hg 0 _ rfl
    have g1 : DataW.trod enc Tryd.prog W base spare held m 9 (List.take (Tryd.prog.cellsOf 9) [c1, c2]) = some y1 := hg 1 _ rfl
    have g2 : DataW.trod enc Tryd.prog W base spare held m 2 (List.take (Tryd.prog.cellsOf 2) [c2]) = some y2 := hg 2 _ rfl
    rw [cells_int64] at g0 g2
    rw [cells_string] at g1
    obtain ⟨k, e0, _, w0⟩ := DataW.trod_int Tryd.underlying2 g0
    obtain ⟨s, e1, _, w1⟩ := DataW.trod_string Tryd.underlying9 g1
    obtain ⟨r, e2, _, w2⟩ := DataW.trod_int Tryd.underlying2 g2
    simp at e0 e1 e2
    subst e0 e1 e2
    unfold maxLen at w1
    exact ⟨⟨k, s, r⟩, rfl, by dsimp only; omega⟩
set_option maxRecDepth 100000 in
theorem trod_ins {n : Nat} {cs : List Value} {x : DataW H × List MemPlace} (h : DataW.trod enc Tryd.prog W base spare held n 65 cs = some x) :
    ∃ s : Ins, cs = s.cells ∧ True := by
  obtain ⟨xs, m, _, _, hl, hlen, hg⟩ := DataW.trod_struct Tryd.underlying65 h
  rw [cells_lIns] at hl
  match cs, hl, xs, hlen with
  | [c0, c1], _, [y0, y1], _ =>
    have g0 : DataW.trod enc Tryd.prog W base spare held m 2 (List.take (Tryd.prog.cellsOf 2) [c0, c1]) = some y0 := hg 0 _ rfl
    have g1 : DataW.trod enc Tryd.prog W base spare held m 2 (List.take (Tryd.prog.cellsOf 2) [c1]) = some y1 := hg 1 _ rfl
    rw [cells_int64] at g0 g1
    obtain ⟨k, e0, _, w0⟩ := DataW.trod_int Tryd.underlying2 g0
    obtain ⟨l, e1, _, w1⟩ := DataW.trod_int Tryd.underlying2 g1
    simp at e0 e1
    subst e0 e1
    exact ⟨⟨k, l⟩, rfl, trivial⟩
theorem trod_tmS {n : Nat} {c0 : Value} {x : DataW H × List MemPlace} (h : DataW.trod enc Tryd.prog W 0 (fun _ => true) true n 22 [c0] = some x) :
    ∃ (A : Option Addr) (n c : Nat) (l : List Tm), c0 = .slice A n c ∧ n = l.length ∧ n ≤ 9223372036854775807 ∧ Rd W A (tmCells l) ∧ ∀ t ∈ l, t.nm.size ≤ 9223372036854775807 :=
  open_rows Tm.cells (fun s => s.nm.size ≤ 9223372036854775807) Tryd.underlying22 cells_lTerm (by omega) (fun _ => rfl) (fun _ _ _ h => trod_tm h) h
theorem trod_insS {n : Nat} {c0 : Value} {x : DataW H × List MemPlace} (h : DataW.trod enc Tryd.prog W 0 (fun _ => true) true n 23 [c0] = some x) :
    ∃ (A : Option Addr) (n c : Nat) (l : List Ins), c0 = .slice A n c ∧ n = l.length ∧ n ≤ 9223372036854775807 ∧ Rd W A (insCells l) ∧ ∀ t ∈ l, True :=
  open_rows Ins.cells (fun _ => True) Tryd.underlying23 cells_lIns (by omega) (fun _ => rfl) (fun _ _ _ h => trod_ins h) h
set_option maxRecDepth 100000 in
theorem open_code {v : Value} {d : DataW H} {p : List MemPlace} (hv : Value.okWide Tryd.prog W .any base 25 v) (h : DataW.Trod enc Tryd.prog W 0 (fun _ => true) true 25 v d p) :
    ∃ c ab as_ cb cs, v = cv c ab as_ cb cs ∧ CdSz c ∧ CdR W ab as_ c := by
  obtain ⟨cs, rfl, hsz⟩ := okWide_struct Tryd.underlying25 hv
  obtain ⟨fuel, hf⟩ := h
  rw [cells_lCode] at hsz
  obtain ⟨xs, m, _, _, hl, hlen, hg⟩ := DataW.trod_struct Tryd.underlying25 hf
  obtain ⟨L⟩ := cs
  match L, hsz, xs, hlen with
  | [c0, c1, c2, c3, c4], _, [y0, y1, y2, y3, y4], _ =>
    have g0 : DataW.trod enc Tryd.prog W 0 (fun _ => true) true m 2 (List.take (Tryd.prog.cellsOf 2) [c0, c1, c2, c3, c4]) = some y0 := hg 0 _ rfl
    have g1 : DataW.trod enc Tryd.prog W 0 (fun _ => true) true m 2 (List.take (Tryd.prog.cellsOf 2) [c1, c2, c3, c4]) = some y1 := hg 1 _ rfl
    have g2 : DataW.trod enc Tryd.prog W 0 (fun _ => true) true m 2 (List.take (Tryd.prog.cellsOf 2) [c2, c3, c4]) = some y2 := hg 2 _ rfl
    have g3 : DataW.trod enc Tryd.prog W 0 (fun _ => true) true m 22 (List.take (Tryd.prog.cellsOf 22) [c3, c4]) = some y3 := hg 3 _ rfl
    have g4 : DataW.trod enc Tryd.prog W 0 (fun _ => true) true m 23 (List.take (Tryd.prog.cellsOf 23) [c4]) = some y4 := hg 4 _ rfl
    rw [cells_int64] at g0 g1 g2
    rw [cells_lTermS] at g3
    rw [cells_lInsS] at g4
    obtain ⟨ci, e0, _, _⟩ := DataW.trod_int Tryd.underlying2 g0
    obtain ⟨cvv, e1, _, _⟩ := DataW.trod_int Tryd.underlying2 g1
    obtain ⟨co, e2, _, _⟩ := DataW.trod_int Tryd.underlying2 g2
    obtain ⟨A3, n3, q3, l3, rfl, hn3, hm3, hr3, hw3⟩ := trod_tmS g3
    obtain ⟨A4, n4, q4, l4, rfl, hn4, hm4, hr4, _⟩ := trod_insS g4
    simp at e0 e1 e2
    subst e0 e1 e2 hn3 hn4
    exact ⟨⟨ci, cvv, co, l3, l4⟩, A3, A4, q3, q4, rfl, ⟨hm3, hm4, hw3⟩, ⟨hr3, hr4⟩⟩
end
theorem g_keys : Tryd.prog.globalNamed "loop.example/g00916/impl.keywords" = some 0 := by kernel_rfl
theorem g_keysType : (Tryd.prog.globals[0]?).map (·.type) = some 85 := by kernel_rfl
/-- What the condition gives the walks: the keywords' cells hold strings. -/
theorem keys_of {W : World} (h : laidMetH Tryd.prog [("loop.example/g00916/impl.keywords", Rows.laid_loop_example_g00916_impl_keywords)] W) : Strs W 0 17 := by
  rw [MakeChecks.laidMetH_plain _ _ _ (by kernel_rfl)] at h
  obtain ⟨ps, ⟨g0, t0, cs0, f0, p0, q0, hg0, ht0, hv0, hd0, _⟩, _, _⟩ := h
  obtain rfl := Option.some.inj (g_keys.symm.trans hg0)
  obtain rfl := Option.some.inj (g_keysType.symm.trans ht0)
  obtain ⟨xs, m1, rfl, _, hlen, hn, hel⟩ := DataW.trod_array Tryd.underlying85 hd0
  rw [cells_keys] at hlen
  intro k hk
  obtain ⟨x, hx⟩ : ∃ x, xs[k]? = some x := ⟨_, List.getElem?_eq_getElem (by omega)⟩
  have h1 := hel k hk
  rw [hx, cells_string, Nat.mul_one] at h1
  obtain ⟨s, e, _, _⟩ := DataW.trod_string Tryd.underlying9 h1
  refine ⟨s, ?_⟩
  rw [World.var?_cell hg0 hv0 k]
  have : (cs0.toList.drop k)[0]? = some (Value.string s) := by
    have h2 : ((cs0.toList.drop k).take 1)[0]? = some (Value.string s) := by rw [e]; rfl
    rwa [List.getElem?_take, if_pos (by decide)] at h2
  rw [List.getElem?_drop] at this
  simpa using this
set_option maxRecDepth 100000 in
/-- The heap that the program's own start leaves meets the condition. -/
theorem door_met (os : Os) (args : Array Value) : laidMetH Tryd.prog [("loop.example/g00916/impl.keywords", Rows.laid_loop_example_g00916_impl_keywords)] ((World.doorLaid Tryd.prog 400 os).forCall (fun _ _ => 0) ⟨#[], args, []⟩).memory :=
  laidMetH_of_parts3 (fuel := 8) (laidMet_of_run' 8 (by kernel_rfl) (by kernel_rfl)) (by kernel_rfl) (by kernel_rfl)
end Go.Proofs.YtdkclhbonmpcbaaDoor
