/- Contract of the program's NotDiagram. Condition: the size; a nil list has no room. -/
import Derived.Test.YtndihacmlkgkbaaDgA
import Derived.Lib.SliceRun
import Derived.Laws.OwnMore
import Derived.Deep.Cut
import Derived.Deep.CutRange
import Derived.Deep.CutBlock
namespace Go.Proofs.Ytndihacmlkgkbaa
open Go.RowKit

theorem news_rd {w : World} {A : Option Addr} {ys : List Value} {ad : Addr} (hr : Rd w A ys) (hA : A = some ad) : ∀ j u, ys[j]? = some u → w.cell? (ad.add j) = some u := by
  intro j u hu
  rcases hr with h | ⟨b, off, e, _, hc⟩
  · rw [h] at hu; simp at hu
  · rw [hA] at e
    simp only [Option.some.injEq] at e
    subst e
    rw [Addr.add_lit]
    exact hc j u hu
theorem wpList_append_nds (w : World) {ops : Array Oper} {rest : List Oper} {o : Oper} {a : Act} {Q : Exit → Act → World → Prop} (hgd : o.guard = none) (s x : Operand)
    (ho : o.op = .call { callee := .builtin .append, args := #[s, x], argTypes := #[27, 27] })
    (base : Nat) (v : Value) (n : Nat) (zs ys : List Nd) (ad : Addr) (m c : Nat) (hs : a.eval s = v) (hown : w.ownsRow base 57 3 v n (ndCells zs))
    (hx : a.eval x = .slice (some ad) m c) (hr : Rd w (some ad) (ndCells ys)) (hm : m = ys.length) (hn : n + m ≤ 1000000) (hbase : base ≤ w.heap.size)
    (h : ∀ v' w', w'.ownsRow base 57 3 v' (n + m) (ndCells (zs ++ ys)) → w.grownBy w' v.ownBlock → wpList Try.prog ops Q rest (a.put o.dst v') w') : wpList Try.prog ops Q (o :: rest) a w := by
  obtain ⟨i0, hi, hz0, hz1, hz2⟩ := info_parts info_iNode
  refine wpList_append_own w hgd s x 27 ho base 57 i0 _ 3 24 Try.underlying27 hi hz0 hz1 hz2 rfl (by decide) v n (ndCells zs) hs hown ad m c (ndCells ys) hx (by rw [ndCells_length, hm]) (news_rd hr rfl) ?_ (by unfold maxLen; omega) (by omega) hbase ?_
  · intro u hu
    obtain ⟨t, _, hu⟩ := List.mem_flatMap.1 hu
    simp only [Nd.cells, List.mem_cons, List.not_mem_nil, or_false] at hu
    rcases hu with rfl | rfl | rfl <;> rfl
  · intro v' w' h1 h2 _
    refine h v' w' ?_ h2
    have e : ndCells (zs ++ ys) = ndCells zs ++ ndCells ys := by simp [ndCells]
    rw [e]
    exact h1
set_option maxRecDepth 100000 in
theorem c_CloneNd (A : Option Addr) (c n : Nat) (l : List Nd) (w : World) (hn : n = l.length) (hs : n ≤ 100000) (hr : Rd w A (ndCells l)) (hA : A = none → n = 0 ∧ c = 0) :
    Calls Try.prog 55 #[.slice A n c] w fun e w' => ∃ A' c', e = .returned (.slice A' n c') ∧ w'.ownsRow w.heap.size 57 3 (.slice A' n c') n (ndCells l) ∧ Below w.heap.size w w' := by
  have q22 : ∀ (w : World) (a : Option Addr) (n c n' c' : Nat), (binOp .eql 27 (.slice a n c) (.slice none n' c')).run Try.prog w = .ok (.bool a.isNone) w := fun w a n c n' c' => Lib.run_eql_slice_nil w _ _ a n c n' c' Try.underlying27
  cases A with
  | none =>
    obtain ⟨rfl, rfl⟩ := hA rfl
    have HN : Hid (l = []) := Lib.hid (List.eq_nil_of_length_eq_zero hn.symm)
    clear hn hr hA
    rw [HN.out]
    go_enter Try.func55, Try.ntmps55
    go_wp2_with (fail)
    go_ret
    exact ⟨none, 0, rfl, own_nil _ _ _ _, Below.refl _ _⟩
  | some ad =>
    obtain ⟨b, off, s⟩ := ad
    have HN := Lib.hid hn
    have HR := Lib.hid hr
    clear hn hr hA
    go_enter Try.func55, Try.ntmps55
    go_wp2_with (first
      | (at_builtin
         refine wpList_append_nds _ (by rfl) (.tmp 5) (.tmp 6) (by rfl) w.heap.size (.slice (some ⟨w.heap.size, 0, none⟩) 0 0) 0 [] l ⟨b, off, s⟩ n c (by rfl) (nd_nil w _ rfl _ (Nat.le_refl _)) (by rfl) (HR.out.alloc _) HN.out (by omega) (by simp) ?_
         intro v' w1 hown hgrow
         have HO := Lib.hid hown
         have HB := Lib.hid (show Below w.heap.size w w1 from ((Below.refl _ w).alloc (Nat.le_refl _) _).grown hgrow (by simp) (by intro k hk; simp [Value.ownBlock] at hk; omega))
         clear hown hgrow)
      )
    go_ret
    obtain ⟨A', c', rfl⟩ := own_shape HO.out
    exact ⟨A', c', by rw [Nat.zero_add]; rfl, by simpa using HO.out, HB.out⟩
def notK (l : List Nd) (k : Nat) : List Nd := (l.take k).map flipN ++ l.drop k
theorem notK_zero (l : List Nd) : notK l 0 = l := by simp [notK]
theorem notK_all {l : List Nd} {k : Nat} (h : l.length ≤ k) : notK l k = l.map flipN := by simp [notK, List.take_of_length_le h, List.drop_eq_nil_of_le h]
theorem nd_set2 (P S : List Nd) (x : Nd) (a b : Int) : ((ndCells (P ++ x :: S)).set (P.length * 3 + 1) (.int .i64 a)).set (P.length * 3 + 2) (.int .i64 b) = ndCells (P ++ ⟨x.i, a, b⟩ :: S) := by
  have hl := ndCells_length P
  have e : ∀ y, ndCells (P ++ y :: S) = ndCells P ++ ([.int .i64 y.i, .int .i64 y.lo, .int .i64 y.hi] ++ ndCells S) := fun y => by simp [ndCells, Nd.cells]
  rw [e, e, List.set_append_right _ _ (by omega), hl, List.set_append_right _ _ (by omega), hl, Nat.add_sub_cancel_left, Nat.add_sub_cancel_left]
  rfl
theorem notK_step {l : List Nd} {k : Nat} {x : Nd} (hx : l[k]? = some x) : ((ndCells (notK l k)).set (k * 3 + 1) (.int .i64 (flipI x.lo))).set (k * 3 + 2) (.int .i64 (flipI x.hi)) = ndCells (notK l (k + 1)) := by
  obtain ⟨hk, e⟩ := List.getElem?_eq_some_iff.1 hx
  have hd : l.drop k = x :: l.drop (k + 1) := by rw [List.drop_eq_getElem_cons hk, e]
  have hlen : ((l.take k).map flipN).length = k := by rw [List.length_map, List.length_take]; omega
  have h := nd_set2 ((l.take k).map flipN) (l.drop (k + 1)) x (flipI x.lo) (flipI x.hi)
  rw [hlen] at h
  unfold notK
  rw [hd, h, List.take_add_one, hx, List.map_append, List.append_assoc]
  rfl
theorem notK_get {l : List Nd} {k : Nat} {x : Nd} (hx : l[k]? = some x) : (notK l k)[k]? = some x := by
  obtain ⟨hk, e⟩ := List.getElem?_eq_some_iff.1 hx
  have hlen : ((l.take k).map flipN).length = k := by rw [List.length_map, List.length_take]; omega
  unfold notK
  rw [List.getElem?_append_right (by omega), hlen, Nat.sub_self, List.getElem?_drop, Nat.add_zero, hx]
end Go.Proofs.Ytndihacmlkgkbaa
