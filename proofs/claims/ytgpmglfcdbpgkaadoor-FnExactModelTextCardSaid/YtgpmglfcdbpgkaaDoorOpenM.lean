/- How a model, tests and lists read as arguments of the laws. No condition. -/
import Derived.Test.YtgpmglfcdbpgkaaDoorOpenR
import Derived.Test.YtgpmglfcdbpgkaaDoorMSz
namespace Go.Proofs.YtgpmglfcdbpgkaaDoor
open Go.ChangeShapes Go.WideShapes Go.ChangeAt Go.RowKit Go.Deep

theorem cells_lTest : Tryd.prog.cellsOf 88 = 3 := by kernel_rfl
theorem cells_lAssign : Tryd.prog.cellsOf 90 = 2 := by kernel_rfl
theorem cells_lRule : Tryd.prog.cellsOf 54 = 3 := by kernel_rfl
theorem cells_lModel : Tryd.prog.cellsOf 25 = 3 := by kernel_rfl
theorem cells_lTestS : Tryd.prog.cellsOf 51 = 1 := by kernel_rfl
theorem cells_lAssignS : Tryd.prog.cellsOf 52 = 1 := by kernel_rfl
theorem cells_lRuleS : Tryd.prog.cellsOf 23 = 1 := by kernel_rfl
theorem cells_intS : Tryd.prog.cellsOf 22 = 1 := by kernel_rfl
theorem cells_bool : Tryd.prog.cellsOf 4 = 1 := by kernel_rfl
theorem cells_string : Tryd.prog.cellsOf 9 = 1 := by kernel_rfl
section
variable {H : Type} {enc : TypeId × Value → H} {W : World} {base : Nat} {spare : Nat → Bool} {held : Bool}
set_option maxRecDepth 100000 in
theorem trod_tst {n : Nat} {cs : List Value} {x : DataW H × List MemPlace} (h : DataW.trod enc Tryd.prog W base spare held n 88 cs = some x) :
    ∃ s : Tst, cs = s.cells ∧ wfB s.v ∧ wfB s.x := by
  obtain ⟨xs, m, _, _, hl, hlen, hg⟩ := DataW.trod_struct Tryd.underlying88 h
  rw [cells_lTest] at hl
  match cs, hl, xs, hlen with
  | [c0, c1, c2], _, [y0, y1, y2], _ =>
    have g0 : DataW.trod enc Tryd.prog W base spare held m 2 (List.take (Tryd.prog.cellsOf 2) [c0, c1, c2]) = some y0 := hg 0 _ rfl
    have g1 : DataW.trod enc Tryd.prog W base spare held m 2 (List.take (Tryd.prog.cellsOf 2) [c1, c2]) = some y1 := hg 1 _ rfl
    have g2 : DataW.trod enc Tryd.prog W base spare held m 4 (List.take (Tryd.prog.cellsOf 4) [c2]) = some y2 := hg 2 _ rfl
    rw [cells_int64] at g0 g1
    rw [cells_bool] at g2
    obtain ⟨k, e0, _, w0⟩ := DataW.trod_int Tryd.underlying2 g0
    obtain ⟨l, e1, _, w1⟩ := DataW.trod_int Tryd.underlying2 g1
    obtain ⟨r, e2, _⟩ := DataW.trod_bool Tryd.underlying4 g2
    simp at e0 e1 e2
    subst e0 e1 e2
    exact ⟨⟨k, l, r⟩, rfl, w0, w1⟩
set_option maxRecDepth 100000 in
theorem trod_asg {n : Nat} {cs : List Value} {x : DataW H × List MemPlace} (h : DataW.trod enc Tryd.prog W base spare held n 90 cs = some x) :
    ∃ s : Asg, cs = s.cells ∧ wfB s.v ∧ wfB s.x := by
  obtain ⟨xs, m, _, _, hl, hlen, hg⟩ := DataW.trod_struct Tryd.underlying90 h
  rw [cells_lAssign] at hl
  match cs, hl, xs, hlen with
  | [c0, c1], _, [y0, y1], _ =>
    have g0 : DataW.trod enc Tryd.prog W base spare held m 2 (List.take (Tryd.prog.cellsOf 2) [c0, c1]) = some y0 := hg 0 _ rfl
    have g1 : DataW.trod enc Tryd.prog W base spare held m 2 (List.take (Tryd.prog.cellsOf 2) [c1]) = some y1 := hg 1 _ rfl
    rw [cells_int64] at g0 g1
    obtain ⟨k, e0, _, w0⟩ := DataW.trod_int Tryd.underlying2 g0
    obtain ⟨l, e1, _, w1⟩ := DataW.trod_int Tryd.underlying2 g1
    simp at e0 e1
    subst e0 e1
    exact ⟨⟨k, l⟩, rfl, w0, w1⟩
def TstOk (l : List Tst) : Prop := ∀ s ∈ l, wfB s.v ∧ wfB s.x
def AsgOk (l : List Asg) : Prop := ∀ s ∈ l, wfB s.v ∧ wfB s.x
theorem trod_testS {n : Nat} {c0 : Value} {x : DataW H × List MemPlace} (h : DataW.trod enc Tryd.prog W 0 (fun _ => true) true n 51 [c0] = some x) :
    ∃ (A : Option Addr) (n c : Nat) (l : List Tst), c0 = .slice A n c ∧ n = l.length ∧ n ≤ 9223372036854775807 ∧ Rd W A (tstCells l) ∧ TstOk l :=
  open_rows Tst.cells (fun s => wfB s.v ∧ wfB s.x) Tryd.underlying51 cells_lTest (by omega) (fun _ => rfl) (fun _ _ _ h => trod_tst h) h
theorem trod_asgS {n : Nat} {c0 : Value} {x : DataW H × List MemPlace} (h : DataW.trod enc Tryd.prog W 0 (fun _ => true) true n 52 [c0] = some x) :
    ∃ (A : Option Addr) (n c : Nat) (l : List Asg), c0 = .slice A n c ∧ n = l.length ∧ n ≤ 9223372036854775807 ∧ Rd W A (asgCells l) ∧ AsgOk l :=
  open_rows Asg.cells (fun s => wfB s.v ∧ wfB s.x) Tryd.underlying52 cells_lAssign (by omega) (fun _ => rfl) (fun _ _ _ h => trod_asg h) h
theorem ints_flat (l : List Int) : l.flatMap (fun z => [Value.int .i64 z]) = ints l := by
  induction l with
  | nil => rfl
  | cons a t ih => rw [List.flatMap_cons, ih]; rfl
theorem trod_intS {n : Nat} {c0 : Value} {x : DataW H × List MemPlace} (h : DataW.trod enc Tryd.prog W 0 (fun _ => true) true n 22 [c0] = some x) :
    ∃ (A : Option Addr) (n c : Nat) (l : List Int), c0 = .slice A n c ∧ n = l.length ∧ n ≤ 9223372036854775807 ∧ Rd W A (ints l) ∧ ∀ z ∈ l, wfB z := by
  have := open_rows (fun z : Int => [Value.int .i64 z]) wfB Tryd.underlying22 cells_int64 (by omega) (fun _ => rfl) (fun _ cs _ h => by
    obtain ⟨k, e0, _, w0⟩ := DataW.trod_int Tryd.underlying2 h
    exact ⟨k, e0, w0⟩) h
  obtain ⟨A, n, c, l, e, h1, h2, h3, h4⟩ := this
  refine ⟨A, n, c, l, e, h1, h2, ?_, h4⟩
  rwa [ints_flat] at h3
/-- What is known of an argument's rule. -/
def RuDOk (W : World) (d : RuD) : Prop := SzOk d.r ∧ Rd W d.ag (tstCells d.r.gs) ∧ Rd W d.ae (asgCells d.r.es) ∧ TstOk d.r.gs ∧ AsgOk d.r.es
set_option maxRecDepth 100000 in
theorem trod_rule {n : Nat} {cs : List Value} {x : DataW H × List MemPlace} (h : DataW.trod enc Tryd.prog W 0 (fun _ => true) true n 54 cs = some x) :
    ∃ d : RuD, cs = d.cells ∧ RuDOk W d := by
  obtain ⟨xs, m, _, _, hl, hlen, hg⟩ := DataW.trod_struct Tryd.underlying54 h
  rw [cells_lRule] at hl
  match cs, hl, xs, hlen with
  | [c0, c1, c2], _, [y0, y1, y2], _ =>
    have g0 : DataW.trod enc Tryd.prog W 0 (fun _ => true) true m 9 (List.take (Tryd.prog.cellsOf 9) [c0, c1, c2]) = some y0 := hg 0 _ rfl
    have g1 : DataW.trod enc Tryd.prog W 0 (fun _ => true) true m 51 (List.take (Tryd.prog.cellsOf 51) [c1, c2]) = some y1 := hg 1 _ rfl
    have g2 : DataW.trod enc Tryd.prog W 0 (fun _ => true) true m 52 (List.take (Tryd.prog.cellsOf 52) [c2]) = some y2 := hg 2 _ rfl
    rw [cells_string] at g0
    rw [cells_lTestS] at g1
    rw [cells_lAssignS] at g2
    obtain ⟨s, e0, _, w0⟩ := DataW.trod_string Tryd.underlying9 g0
    obtain ⟨A1, n1, c1', l1, rfl, rfl, hm1, hr1, hw1⟩ := trod_testS g1
    obtain ⟨A2, n2, c2', l2, rfl, rfl, hm2, hr2, hw2⟩ := trod_asgS g2
    simp at e0
    subst e0
    unfold maxLen at w0
    exact ⟨⟨⟨s, l1, l2⟩, A1, c1', A2, c2'⟩, rfl, ⟨by omega, hm1, hm2⟩, hr1, hr2, hw1, hw2⟩
def RulWf (l : List Rul) : Prop := ∀ r ∈ l, TstOk r.gs ∧ AsgOk r.es
theorem trod_ruleS {n : Nat} {c0 : Value} {x : DataW H × List MemPlace} (h : DataW.trod enc Tryd.prog W 0 (fun _ => true) true n 23 [c0] = some x) :
    ∃ (A : Option Addr) (n c : Nat) (l : List Rul), c0 = .slice A n c ∧ n = l.length ∧ n ≤ 9223372036854775807 ∧ Rl W A l ∧ (∀ r ∈ l, SzOk r) ∧ RulWf l := by
  obtain ⟨A, n, c, l, rfl, h1, h2, h3, h4⟩ := open_rows RuD.cells (RuDOk W) Tryd.underlying23 cells_lRule (by omega) (fun _ => rfl) (fun _ _ _ h => trod_rule h) h
  refine ⟨A, n, c, l.map RuD.r, rfl, by simp [h1], h2, ⟨l, rfl, h3, fun d hd => ⟨(h4 d hd).2.1, (h4 d hd).2.2.1⟩⟩, fun r hr => ?_, fun r hr => ?_⟩
  · obtain ⟨d, hd, rfl⟩ := List.mem_map.1 hr
    exact (h4 d hd).1
  · obtain ⟨d, hd, rfl⟩ := List.mem_map.1 hr
    exact (h4 d hd).2.2.2
/-- The numbers of a model are those of a run. -/
structure MWf (m : Mdl) : Prop where
  sz : ∀ z ∈ m.sz, wfB z
  st : ∀ z ∈ m.st, wfB z
  rs : RulWf m.rs
set_option maxRecDepth 100000 in
theorem open_model {v : Value} {d : DataW H} {p : List MemPlace} (hv : Value.okWide Tryd.prog W .any base 25 v) (h : DataW.Trod enc Tryd.prog W 0 (fun _ => true) true 25 v d p) :
    ∃ (m : Mdl) (az ax ar : Option Addr) (cz cs cr : Nat), v = mv m az ax ar cz cs cr ∧ MSzOk m ∧ Md W az ax ar m ∧ MWf m := by
  obtain ⟨cs, rfl, hsz⟩ := okWide_struct Tryd.underlying25 hv
  obtain ⟨fuel, hf⟩ := h
  rw [cells_lModel] at hsz
  obtain ⟨xs, m, _, _, hl, hlen, hg⟩ := DataW.trod_struct Tryd.underlying25 hf
  obtain ⟨L⟩ := cs
  match L, hsz, xs, hlen with
  | [c0, c1, c2], _, [y0, y1, y2], _ =>
    have g0 : DataW.trod enc Tryd.prog W 0 (fun _ => true) true m 22 (List.take (Tryd.prog.cellsOf 22) [c0, c1, c2]) = some y0 := hg 0 _ rfl
    have g1 : DataW.trod enc Tryd.prog W 0 (fun _ => true) true m 22 (List.take (Tryd.prog.cellsOf 22) [c1, c2]) = some y1 := hg 1 _ rfl
    have g2 : DataW.trod enc Tryd.prog W 0 (fun _ => true) true m 23 (List.take (Tryd.prog.cellsOf 23) [c2]) = some y2 := hg 2 _ rfl
    rw [cells_intS] at g0 g1
    rw [cells_lRuleS] at g2
    obtain ⟨A0, n0, c0', l0, rfl, rfl, hm0, hr0, hw0⟩ := trod_intS g0
    obtain ⟨A1, n1, c1', l1, rfl, rfl, hm1, hr1, hw1⟩ := trod_intS g1
    obtain ⟨A2, n2, c2', l2, rfl, rfl, hm2, hr2, hs2, hw2⟩ := trod_ruleS g2
    exact ⟨⟨l0, l1, l2⟩, A0, A1, A2, c0', c1', c2', rfl, ⟨hm0, hm1, hm2, hs2⟩, ⟨hr0, hr1, hr2⟩, ⟨hw0, hw1, hw2⟩⟩
set_option maxRecDepth 100000 in
theorem open_testS {v : Value} {d : DataW H} {p : List MemPlace} (hv : Value.okWide Tryd.prog W .any base 51 v) (h : DataW.Trod enc Tryd.prog W 0 (fun _ => true) true 51 v d p) :
    ∃ (A : Option Addr) (n c : Nat) (l : List Tst), v = .slice A n c ∧ n = l.length ∧ n ≤ 9223372036854775807 ∧ Rd W A (tstCells l) ∧ TstOk l := by
  obtain ⟨A, n, c, rfl⟩ := okWide_slice Tryd.underlying51 hv
  obtain ⟨fuel, hf⟩ := h
  exact trod_testS (c0 := .slice A n c) hf
end
end Go.Proofs.YtgpmglfcdbpgkaaDoor
