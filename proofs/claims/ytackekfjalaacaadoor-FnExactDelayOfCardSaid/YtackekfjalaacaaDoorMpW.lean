/- Maps entry by entry: the laws at the operations, for the walk. No condition but the keys' sizes. -/
import Derived.Test.YtackekfjalaacaaDoorMpR
namespace Go.Proofs.YtackekfjalaacaaDoor
open Go.RowKit Go.Maps
open Go.ChangeMaps (setBlock)

theorem grown_setBlock {w : World} {bm : Nat} {l : List En} {c : Nat} (h : MpA w bm l c) (o : Obj) : w.grownBy (setBlock w bm o) (some bm) :=
  ⟨rfl, rfl, rfl, by simp [setBlock], fun i _ hi => ChangeMaps.heap_setBlock_other h.1 o (fun e => hi (by rw [e]))⟩
theorem size_setBlock (w : World) (b : Nat) (o : Obj) : (setBlock w b o).heap.size = w.heap.size := by simp [setBlock]
theorem MpA.put {w : World} {bm : Nat} {l : List En} {c : Nat} (h : MpA w bm l c) {s : ByteArray} (v : Int) (hs : s.size ≤ maxLen) : MpA (setBlock w bm (.map (ents (putE l c s v)) (putC l c s))) bm (putE l c s v) (putC l c s) :=
  ⟨ChangeMaps.heap_setBlock_same h.1 _, h.2.put v hs⟩
theorem MpA.del {w : World} {bm : Nat} {l : List En} {c : Nat} (h : MpA w bm l c) (s : ByteArray) : MpA (setBlock w bm (.map (ents (delE l s)) c)) bm (delE l s) c :=
  ⟨ChangeMaps.heap_setBlock_same h.1 _, h.2.del s⟩
theorem mok_nil : MOk [] 0 := ⟨.nil, .nil, by simp, by simp⟩
theorem MpA.made (w : World) : MpA (w.alloc (.map #[] 0)) w.heap.size [] 0 := ⟨(MapKept.heap_alloc w _).1, mok_nil⟩
section
variable {P : Program} {T K E : TypeId} (w : World) {ops : Array Oper} {rest : List Oper} {o : Oper} {a : Act} {Q : Exit → Act → World → Prop}
/-- 'v, ok := m[k]'. -/
theorem wpList_lookE2 (hg : o.guard = none) (m x : Operand) (hop : o.op = Op.lookup T m x true) (hk : P.underlying K = some .string) (ht : P.underlying T = some (.map K E)) (hz : (zeroValue E).run P w = .ok (.int .i64 0) w)
    (bm : Nat) (l : List En) (c : Nat) (hm : a.eval m = .map (some bm)) (h : MpA w bm l c) (s : ByteArray) (hx : a.eval x = .string s) (hs : s.size ≤ maxLen)
    (hK : wpList P ops Q rest (a.put o.dst (.tuple #[.int .i64 ((getE l s).getD 0), .bool (getE l s).isSome])) w) : wpList P ops Q (o :: rest) a w := by
  refine wpList_plain hg fun K' hK' => ?_
  have hrun := run_lookE true hk ht hz h.1 h.2 hs
  rw [if_pos rfl] at hrun
  unfold Oper.wp
  simp [execOp, hop, hm, hx, hrun, Result.andThen]
  exact hK' _ _ hK
/-- 'm[k]'. -/
theorem wpList_lookE1 (hg : o.guard = none) (m x : Operand) (hop : o.op = Op.lookup T m x false) (hk : P.underlying K = some .string) (ht : P.underlying T = some (.map K E)) (hz : (zeroValue E).run P w = .ok (.int .i64 0) w)
    (bm : Nat) (l : List En) (c : Nat) (hm : a.eval m = .map (some bm)) (h : MpA w bm l c) (s : ByteArray) (hx : a.eval x = .string s) (hs : s.size ≤ maxLen)
    (hK : wpList P ops Q rest (a.put o.dst (.int .i64 ((getE l s).getD 0))) w) : wpList P ops Q (o :: rest) a w := by
  refine wpList_plain hg fun K' hK' => ?_
  have hrun := run_lookE false hk ht hz h.1 h.2 hs
  rw [if_neg (by decide)] at hrun
  unfold Oper.wp
  simp [execOp, hop, hm, hx, hrun, Result.andThen]
  exact hK' _ _ hK
/-- 'm[k] = v'. -/
theorem wpList_putE (hg : o.guard = none) (m x v : Operand) (hop : o.op = Op.mapUpdate T m x v) (hk : P.underlying K = some .string) (ht : P.underlying T = some (.map K E))
    (bm : Nat) (l : List En) (c : Nat) (hm : a.eval m = .map (some bm)) (h : MpA w bm l c) (s : ByteArray) (z : Int) (hx : a.eval x = .string s) (hv : a.eval v = .int .i64 z) (hs : s.size ≤ maxLen)
    (hK : ∀ w', MpA w' bm (putE l c s z) (putC l c s) → w.grownBy w' (some bm) → w'.heap.size = w.heap.size → wpList P ops Q rest (a.put o.dst undef) w') : wpList P ops Q (o :: rest) a w := by
  refine wpList_plain hg fun K' hK' => ?_
  have hrun := run_putE hk ht h.1 h.2 hs z
  unfold Oper.wp
  simp [execOp, hop, hm, hx, hv, hrun, Result.andThen]
  exact hK' _ _ (hK _ (h.put z hs) (grown_setBlock h _) (size_setBlock _ _ _))
/-- 'delete(m, k)'. -/
theorem wpList_delE (hg : o.guard = none) (m x : Operand) (hop : o.op = Op.call { callee := Callee.builtin Builtin.delete, args := #[m, x], argTypes := #[T, K] }) (hk : P.underlying K = some .string) (ht : P.underlying T = some (.map K E))
    (bm : Nat) (l : List En) (c : Nat) (hm : a.eval m = .map (some bm)) (h : MpA w bm l c) (s : ByteArray) (hx : a.eval x = .string s) (hs : s.size ≤ maxLen)
    (hK : ∀ w', MpA w' bm (delE l s) c → w.grownBy w' (some bm) → w'.heap.size = w.heap.size → wpList P ops Q rest (a.put o.dst (.tuple #[])) w') : wpList P ops Q (o :: rest) a w := by
  refine wpList_plain hg fun K' hK' => ?_
  have hrun := run_delE hk ht h.1 h.2 hs o.type
  unfold Oper.wp
  simp [execOp, hop, resolve, invoke, builtin, hm, hx, hrun, Result.andThen]
  exact hK' _ _ (hK _ (h.del s) (grown_setBlock h _) (size_setBlock _ _ _))
/-- 'range m'. -/
theorem wpList_rangeE (hg : o.guard = none) (m : Operand) (hop : o.op = Op.range T m) (ht : P.underlying T = some (.map K E)) (bm : Nat) (l : List En) (c : Nat) (hm : a.eval m = .map (some bm)) (h : MpA w bm l c)
    (hK : ∀ w', MpA w' bm l c → Itr w' bm w.heap.size l c [] → w.grownBy w' none → w'.heap.size = w.heap.size + 1 → wpList P ops Q rest (a.put o.dst (.pointer (some ⟨w.heap.size, 0, none⟩))) w') : wpList P ops Q (o :: rest) a w := by
  refine wpList_plain hg fun K' hK' => ?_
  have hrun := run_range_map (P := P) w T K E bm (ents l) c ht h.1
  unfold Oper.wp
  simp [execOp, hop, hm, hrun, Result.andThen]
  exact hK' _ _ (hK _ (h.kept (World.grownBy_alloc w _ none) (by simp)) ⟨⟨c, (MapKept.heap_alloc w _).1, .inl rfl⟩, .nil, by simp⟩ (World.grownBy_alloc w _ none) (by simp))
/-- The step. -/
theorem wpList_nextE (hg : o.guard = none) (it : Operand) (hop : o.op = Op.next it false) (bm r : Nat) (l : List En) (c since : Nat) (seen : List Nat) (hit : a.eval it = .pointer (some ⟨r, 0, none⟩)) (h : MpA w bm l c) (hi : Itr w bm r l since seen)
    (hDone : ∀ w', w.grownBy w' none → w'.heap.size = w.heap.size → (∀ x ∈ l, x.b < since → x.b ∈ seen) → wpList P ops Q rest (a.put o.dst (.tuple #[.bool false])) w')
    (hMore : ∀ (x : En) (w' : World), x ∈ l → ¬ x.b ∈ seen → MpA w' bm l c → Itr w' bm r l since (seen ++ [x.b]) → w.grownBy w' (some r) → w'.heap.size = w.heap.size → (Instr.entry (.pointer (some ⟨r, 0, none⟩))).run P w' = .ok (.tuple #[.string x.s, .int .i64 x.v]) w' →
      wpList P ops Q rest (a.put o.dst (.tuple #[.bool true, .string x.s, .int .i64 x.v])) w') : wpList P ops Q (o :: rest) a w := by
  refine wpList_plain hg fun K' hK' => ?_
  unfold Oper.wp
  have hne := hi.ne h
  rcases run_nextE (P := P) h hi o.type with ⟨w1, hal, hrun, hall⟩ | ⟨x, hx, hns, w1, hal, hrun⟩
  · simp [execOp, hop, hit, hrun, Result.andThen]
    refine hK' _ _ (hDone w1 ?_ ?_ hall)
    · rcases hal with rfl | rfl
      · exact ⟨rfl, rfl, rfl, Nat.le_refl _, fun _ _ _ => rfl⟩
      · exact ⟨rfl, rfl, rfl, Nat.le_refl _, fun _ _ _ => rfl⟩
    · rcases hal with rfl | rfl <;> rfl
  · simp [execOp, hop, hit, hrun, Result.andThen]
    obtain ⟨⟨c0, hr, _⟩, hnd, hsub⟩ := hi
    have hr1 : w1.heap[r]? = some (.mapIter (some bm) since seen.toArray c0) := by rcases hal with rfl | rfl <;> exact hr
    have hb1 : w1.heap[bm]? = some (.map (ents l) c) := by rcases hal with rfl | rfl <;> exact h.1
    have hset := MapKept.heap_set (o' := .mapIter (some bm) since (seen ++ [x.b]).toArray c) hr1
    have hm' : MpA (setBlock w1 r (.mapIter (some bm) since (seen ++ [x.b]).toArray c)) bm l c := ⟨(hset.2 bm (fun e => hne e.symm)).trans hb1, h.2⟩
    have hnd' : (seen ++ [x.b]).Nodup := by
      rw [List.nodup_append]
      refine ⟨hnd, by simp, fun y hy z hz e => ?_⟩
      rw [List.mem_singleton] at hz
      subst hz
      exact hns (e ▸ hy)
    refine hK' _ _ (hMore x _ hx hns hm' ⟨⟨c, hset.1, .inr ⟨x, hx, h.2.old x hx⟩⟩, hnd', fun b hb => ?_⟩ ?_ ?_ (run_entryE hm' hx hset.1))
    · rcases List.mem_append.1 hb with hb | hb
      · exact hsub b hb
      · rw [List.mem_singleton] at hb; subst hb; exact ⟨x, hx, rfl⟩
    · rcases hal with rfl | rfl <;> exact ⟨rfl, rfl, rfl, by simp [setBlock], fun i _ hi => hset.2 i (fun e1 => hi (by rw [e1]))⟩
    · rcases hal with rfl | rfl <;> simp [setBlock]
end
end Go.Proofs.YtackekfjalaacaaDoor
