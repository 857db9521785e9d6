/- Maps to int64 as functions of the key's value: made, asked with ok, written. Condition: the key has a key law. -/
import Derived.Test.YtndihacmlkgkbaaDgI
import Derived.Maps.OwnSet
import Derived.DeepKeys4
namespace Go.Proofs.Ytndihacmlkgkbaa
open Go.RowKit Go.Maps Go.WideMaps

/-- Block b is a map of at most n entries that holds f's values. -/
def MapI (k : TypeId) (w : World) (b n : Nat) (f : Value → Option Int) : Prop :=
  ∃ D : DataW Unit, w.ownsMap Try.prog k (plainElem Try.prog 2) b n D ∧ ∀ v kl, keyOf Try.prog k v = some kl → ∀ zd, D.atKey kl zd = (match f v with | some z => .lit (.int .i64 z) | none => zd)
theorem zeroI (w : World) : (zeroValue 2).run Try.prog w = .ok (.int .i64 0) w := by kernel_rfl
section
variable {k : TypeId} {w w' : World} {b n : Nat} {f : Value → Option Int}
theorem MapI.made (k : TypeId) (w : World) : MapI k (w.alloc (.map #[] 0)) w.heap.size 0 (fun _ => none) :=
  ⟨_, World.ownsMap_made _ _ _ _, fun v kl _ zd => by rw [atKey_of_not_has (by rfl)]⟩
theorem MapI.lt (h : MapI k w b n f) : b < w.heap.size := by
  obtain ⟨D, hd, _⟩ := h
  exact hd.lt
theorem MapI.grown {row : Option Nat} (h : MapI k w b n f) (hg : w.grownBy w' row) (hne : some b ≠ row) : MapI k w' b n f := by
  obtain ⟨D, hd, h1⟩ := h
  exact ⟨D, hd.kept hg hne, h1⟩
theorem MapI.below (h : MapI k w b n f) (hb : Below w.heap.size w w') : MapI k w' b n f := h.grown (grown_of_below hb none) (by simp)
theorem MapI.fr {P : Nat → Obj → Prop} (h : MapI k w b n f) (hf : Fr P w w') (hp : ∀ es c, ¬ P b (.map es c)) : MapI k w' b n f := by
  obtain ⟨D, hd, h1⟩ := h
  exact ⟨D, hf.map hd hp, h1⟩
theorem MapI.mono (h : MapI k w b n f) {n' : Nat} (hn : n ≤ n') : MapI k w b n' f := by
  obtain ⟨D, hd, h1⟩ := h
  exact ⟨D, hd.mono hn, h1⟩
theorem MapI.look {t : TypeId} (K : Keyed Try.prog k) (ht : Try.prog.underlying t = some (.map k 2)) (h : MapI k w b n f) {v : Value} {kl : Lit} (hk : keyOf Try.prog k v = some kl) :
    (Instr.lookup t (.map (some b)) v true).run Try.prog w = .ok (match f v with | some z => .tuple #[.int .i64 z, .bool true] | none => .tuple #[.int .i64 0, .bool false]) w := by
  obtain ⟨D, ⟨es, clock, hb, F, _, rfl⟩, h1⟩ := h
  have h2 := h1 v kl hk
  rcases fit_look true K ht (zeroI w) hb F hk with ⟨hrun, _, hat⟩ | ⟨e0, y, _, _, hrun, hRv, hat, _⟩
  · rw [hrun]
    have h3 := h2 (.lit (.bool true))
    rw [hat] at h3
    rcases hf : f v with _ | z
    · rfl
    · rw [hf] at h3
      simp at h3
  · rw [hrun]
    have h3 := h2 (.lit (.bool true))
    have h4 := h2 (.lit (.bool false))
    rw [hat] at h3 h4
    rcases hf : f v with _ | z
    · rw [hf] at h3 h4
      rw [h3] at h4
      simp at h4
    · rw [hf] at h3
      obtain ⟨c, hc, hy, _⟩ := plainElem_int_inv Try.underlying2 hRv
      rw [hy] at h3
      simp only [DataW.lit.injEq, Lit.int.injEq, true_and] at h3
      simp [hc, h3]
theorem MapI.look0 {t : TypeId} (K : Keyed Try.prog k) (ht : Try.prog.underlying t = some (.map k 2)) (h : MapI k w b n f) {v : Value} {kl : Lit} (hk : keyOf Try.prog k v = some kl) :
    (Instr.lookup t (.map (some b)) v false).run Try.prog w = .ok (.int .i64 ((f v).getD 0)) w := by
  obtain ⟨D, ⟨es, clock, hb, F, _, rfl⟩, h1⟩ := h
  have h2 := h1 v kl hk
  rcases fit_look false K ht (zeroI w) hb F hk with ⟨hrun, _, hat⟩ | ⟨e0, y, _, _, hrun, hRv, hat, _⟩
  · rw [hrun]
    have h3 := h2 (.lit (.bool true))
    rw [hat] at h3
    rcases hf : f v with _ | z
    · rfl
    · rw [hf] at h3
      simp at h3
  · rw [hrun]
    have h3 := h2 (.lit (.bool true))
    have h4 := h2 (.lit (.bool false))
    rw [hat] at h3 h4
    rcases hf : f v with _ | z
    · rw [hf] at h3 h4
      rw [h3] at h4
      simp at h4
    · rw [hf] at h3
      obtain ⟨c, hc, hy, _⟩ := plainElem_int_inv Try.underlying2 hRv
      rw [hy] at h3
      simp only [DataW.lit.injEq, Lit.int.injEq, true_and] at h3
      simp [hc, h3]
/-- What a written map holds. -/
def putF (k : TypeId) (f : Value → Option Int) (v : Value) (z : Int) (f' : Value → Option Int) : Prop := f' v = some z ∧ ∀ u kl, keyOf Try.prog k u = some kl → u ≠ v → f' u = f u
theorem MapI.put_ (K : Keyed Try.prog k) {v : Value} {kl : Lit} (hk : keyOf Try.prog k v = some kl) {z : Int} {f' : Value → Option Int} (hf : putF k f v z f') {D : DataW Unit} (hm : IsMap D)
    (h1 : ∀ u kl, keyOf Try.prog k u = some kl → ∀ zd, D.atKey kl zd = (match f u with | some z => .lit (.int .i64 z) | none => zd)) : ∀ u kl', keyOf Try.prog k u = some kl' → ∀ zd, (D.put kl (.lit (.int .i64 z))).atKey kl' zd = (match f' u with | some z => .lit (.int .i64 z) | none => zd) := by
  intro u kl' hu zd
  by_cases e : u = v
  · subst e
    rw [hk] at hu
    simp only [Option.some.injEq] at hu
    subst hu
    rw [atKey_put_same hm (K.key hk), hf.1]
  · have hne : kl' ≠ kl := fun e2 => e (K.inj hu (e2 ▸ hk))
    rw [atKey_put_other hne, h1 u kl' hu, hf.2 u kl' hu e]
theorem MapI.put {t : TypeId} (K : Keyed Try.prog k) (ht : Try.prog.underlying t = some (.map k 2)) (h : MapI k w b n f) {v : Value} {kl : Lit} (hk : keyOf Try.prog k v = some kl) {z : Int} (hz : (Lit.int .i64 z).wf = true) (hn : n ≤ 1099511627776) {f' : Value → Option Int} (hf : putF k f v z f') :
    ∃ w', (Instr.mapUpdate t (.map (some b)) v (.int .i64 z)).run Try.prog w = .ok () w' ∧ MapI k w' b (n + 1) f' ∧ w.grownBy w' (some b) := by
  obtain ⟨D, hd, h1⟩ := h
  obtain ⟨w', hrun, hd', hg⟩ := hd.update K ht (by unfold maxLen; omega) hk (plainElem_int Try.underlying2 hz)
  exact ⟨w', hrun, ⟨_, hd', MapI.put_ K hk hf hd.isMap h1⟩, hg⟩
end
def wfI (z : Int) : Prop := (Lit.int .i64 z).wf = true
theorem laidOut9 : laidOutB Try.prog = true := by kernel_rfl
theorem rowNode : (57 : TypeId) < Try.prog.types.size := of_decide_eq_true (by kernel_rfl)
theorem wideNode : (match Try.prog.underlying 57 with | some (.array _ _) | some (.struct _) => true | _ => false) = true := by rw [Try.underlying57]
set_option maxRecDepth 100000 in
theorem lawNode : Keyed Try.prog 57 := Keyed.of_law (deep_law_laid laidOut9 (m := 2) (by omega) rowNode (by kernel_rfl) wideNode)
theorem lawInt : Keyed Try.prog 2 := int_keyed Try.underlying2
theorem cellsK_int64 : Try.prog.cellsOf 2 = 1 := by kernel_rfl
theorem cells_iNode : Try.prog.cellsOf 57 = 3 := by kernel_rfl
theorem keyTypeNode : Try.prog.keyType 57 = true := by kernel_rfl
theorem lits_int {d : Nat} {z : Int} (h : wfI z) : Try.prog.keyLits (d + 1) 2 [.int .i64 z] = some [.int .i64 z] := by
  unfold wfI at h
  simp [Program.keyLits, Try.underlying2, h]
theorem keyNode {i a b : Int} (h0 : wfI i) (h1 : wfI a) (h2 : wfI b) : ∃ kl, keyOf Try.prog 57 (.agg #[.int .i64 i, .int .i64 a, .int .i64 b]) = some kl := by
  obtain ⟨d, hd⟩ : ∃ d, Try.prog.types.size = d + 1 := Nat.exists_eq_succ_of_ne_zero (fun h => absurd rowNode (by rw [h]; exact Nat.not_lt_zero _))
  have hf : Value.formed Try.prog 57 (.agg #[.int .i64 i, .int .i64 a, .int .i64 b]) = true := by simp [Value.formed, Try.underlying57, cells_iNode]
  unfold keyOf
  rw [Try.underlying57]
  simp only [keyTypeNode, hf, Bool.and_self, if_true, hd]
  unfold Program.keyLits
  simp [Try.underlying57, Value.cells, cells_iNode, cellsK_int64, lits_int h0, lits_int h1, lits_int h2]
end Go.Proofs.Ytndihacmlkgkbaa
