/- Contracts of length, newForest, node. Condition: the sizes; int64 arguments. -/
import Derived.Test.YtndihacmlkgkbaaDgF
namespace Go.Proofs.Ytndihacmlkgkbaa
open Go.RowKit Go.Maps Go.WideMaps

theorem c_length (A : Option Addr) (c n : Nat) (w : World) : Calls Try.prog 44 #[.slice A n c] w fun e w' => e = .returned (.int .i64 n) ∧ w = w' := by
  go_enter Try.func44, Try.ntmps44
  go_wp2
  go_ret
  exact ⟨rfl, rfl⟩
section
variable {kt : TypeId} {b n : Nat} {f : Value → Option Int}
theorem wpList_lookI (w : World) {ops : Array Oper} {rest : List Oper} {o : Oper} {a : Act} {Q : Exit → Act → World → Prop} {t : TypeId} (hgd : o.guard = none) (m x : Operand) (hop : o.op = Op.lookup t m x true)
    (hm : a.eval m = .map (some b)) (u : Value) (hx : a.eval x = u) (r : Value) (hrun : (Instr.lookup t (.map (some b)) u true).run Try.prog w = .ok r w)
    (h : wpList Try.prog ops Q rest (a.put o.dst r) w) : wpList Try.prog ops Q (o :: rest) a w := by
  refine wpList_plain hgd fun K' hK' => ?_
  unfold Oper.wp
  simp only [execOp, hop, hm, hx, hrun, Sem.run_bind, Sem.run_pure, Result.andThen_ok]
  exact hK' _ _ h
theorem wpList_look0I (w : World) {ops : Array Oper} {rest : List Oper} {o : Oper} {a : Act} {Q : Exit → Act → World → Prop} {t : TypeId} (hgd : o.guard = none) (m x : Operand) (hop : o.op = Op.lookup t m x false)
    (hm : a.eval m = .map (some b)) (u : Value) (hx : a.eval x = u) (r : Value) (hrun : (Instr.lookup t (.map (some b)) u false).run Try.prog w = .ok r w)
    (h : wpList Try.prog ops Q rest (a.put o.dst r) w) : wpList Try.prog ops Q (o :: rest) a w := by
  refine wpList_plain hgd fun K' hK' => ?_
  unfold Oper.wp
  simp only [execOp, hop, hm, hx, hrun, Sem.run_bind, Sem.run_pure, Result.andThen_ok]
  exact hK' _ _ h
theorem wpList_insI (w w2 : World) {ops : Array Oper} {rest : List Oper} {o : Oper} {a : Act} {Q : Exit → Act → World → Prop} {t : TypeId} (hgd : o.guard = none) (m x y : Operand) (hop : o.op = Op.insert t m x y)
    (hm : a.eval m = .map (some b)) (u v : Value) (hx : a.eval x = u) (hy : a.eval y = v) (hrun : (Instr.mapUpdate t (.map (some b)) u v).run Try.prog w = .ok () w2)
    (h : wpList Try.prog ops Q rest (a.put o.dst undef) w2) : wpList Try.prog ops Q (o :: rest) a w := by
  refine wpList_plain hgd fun K' hK' => ?_
  unfold Oper.wp
  simp [execOp, hop, hm, hx, hy, hrun, Result.andThen]
  exact hK' _ _ h
theorem wpList_updI (w w2 : World) {ops : Array Oper} {rest : List Oper} {o : Oper} {a : Act} {Q : Exit → Act → World → Prop} {t : TypeId} (hgd : o.guard = none) (m x y : Operand) (hop : o.op = Op.mapUpdate t m x y)
    (hm : a.eval m = .map (some b)) (u v : Value) (hx : a.eval x = u) (hy : a.eval y = v) (hrun : (Instr.mapUpdate t (.map (some b)) u v).run Try.prog w = .ok () w2)
    (h : wpList Try.prog ops Q rest (a.put o.dst undef) w2) : wpList Try.prog ops Q (o :: rest) a w := by
  refine wpList_plain hgd fun K' hK' => ?_
  unfold Oper.wp
  simp [execOp, hop, hm, hx, hy, hrun, Result.andThen]
  exact hK' _ _ h
end
/-- The row that a value leads to is the old one, or a new one. -/
def RC (w : World) (v v' : Value) : Prop := v'.ownBlock = v.ownBlock ∨ ∃ q, v'.ownBlock = some q ∧ w.heap.size ≤ q
theorem RC.refl (w : World) (v : Value) : RC w v v := .inl rfl
theorem RC.trans {w w1 : World} {v v1 v2 : Value} (h : RC w v v1) (h2 : RC w1 v1 v2) (hs : w.heap.size ≤ w1.heap.size) : RC w v v2 := by
  rcases h2 with h2 | ⟨q, h2, h3⟩
  · rcases h with h | ⟨q, h, h3⟩
    · exact .inl (h2.trans h)
    · exact .inr ⟨q, h2.trans h, h3⟩
  · exact .inr ⟨q, h2, Nat.le_trans hs h3⟩
/-- What may change: blocks of a kind, and the row. -/
def PR (lo : Nat) (K : Nat → Obj → Prop) (row : Option Nat) (k : Nat) (o : Obj) : Prop := lo ≤ k ∧ (K k o ∨ row = some k)
theorem Fr.rows {lo : Nat} {K : Nat → Obj → Prop} {v v1 : Value} {w w1 w2 : World} (h : Fr (PR lo K v.ownBlock) w w1) (hr : RC w v v1) (h2 : Fr (PR lo K v1.ownBlock) w1 w2) : Fr (PR lo K v.ownBlock) w w2 :=
  ⟨h2.os.trans h.os, h2.tape.trans h.tape, h2.output.trans h.output, Nat.le_trans h.size h2.size, fun k o hk => by
    rcases h.blk k o hk with h3 | h3
    · rcases h2.blk k o h3 with h4 | ⟨h4, h5 | h5⟩
      · exact .inl h4
      · exact .inr ⟨h4, .inl h5⟩
      · rcases hr with hr | ⟨q, hr, h6⟩
        · exact .inr ⟨h4, .inr (hr ▸ h5)⟩
        · have := heap_at hk
          rw [hr] at h5
          simp only [Option.some.injEq] at h5
          omega
    · exact .inr h3⟩
theorem PR.below {lo : Nat} {K : Nat → Obj → Prop} {row : Option Nat} {w a : World} (h : Fr (PR lo K row) w a) (hl : lo ≤ w.heap.size) : Below lo w a := h.below (fun _ _ hp => hp.1) hl
/-- Rows of other kinds, and other rows, stay. -/
theorem PR.own {lo : Nat} {K : Nat → Obj → Prop} {row : Option Nat} {w a : World} {base : Nat} {e : TypeId} {size n : Nat} {v : Value} {xs : List Value} (h : Fr (PR lo K row) w a) (ho : w.ownsRow base e size v n xs) (hk : ∀ g cur fz, v.ownBlock = some g → ¬ K g (.cells cur e fz)) (hr : ∀ q, v.ownBlock = some q → row ≠ some q) : a.ownsRow base e size v n xs :=
  h.own ho (fun g cur fz _ hg hp => hp.2.elim (hk g cur fz hg) (hr g hg))
theorem PR.cell {lo : Nat} {K : Nat → Obj → Prop} {row : Option Nat} {w a : World} {k off : Nat} {e : TypeId} {cur : Array Value} {fz : Nat × Nat} {x : Value} (h : Fr (PR lo K row) w a) (hc : w.cell? ⟨k, off, none⟩ = some x) (ho : w.heap[k]? = some (.cells cur e fz)) (hk : ¬ K k (.cells cur e fz)) (hr : row ≠ some k) : a.cell? ⟨k, off, none⟩ = some x :=
  h.cell hc (fun o ho2 hp => by
    simp only at ho2
    rw [ho] at ho2
    simp only [Option.some.injEq] at ho2
    subst ho2
    exact hp.2.elim hk hr)
/-- A forest with its nodes, in a box at bf with a map at bm. -/
def FO (lo : Nat) (w : World) (bf bm : Nat) (X : Int) (v : Value) (out : List Nd) : Prop :=
  w.ownsRow lo 94 3 (.slice (some ⟨bf, 0, none⟩) 1 1) 1 [.int .i64 X, v, .map (some bm)] ∧ w.ownsRow lo 57 3 v out.length (ndCells out) ∧ MapI 57 w bm out.length (knF out) ∧ lo ≤ bm
def KF (bm k : Nat) (o : Obj) : Prop := (∃ c fz, o = .cells c 94 fz) ∨ (k = bm ∧ ∃ es c, o = .map es c)
theorem FO.below {lo bf bm : Nat} {X : Int} {v : Value} {w w' : World} {out : List Nd} (h : FO lo w bf bm X v out) (hb : Below w.heap.size w w') : FO lo w' bf bm X v out :=
  ⟨own_below h.1 hb, own_below h.2.1 hb, h.2.2.1.below hb, h.2.2.2⟩
theorem FO.fr {lo bf bm : Nat} {X : Int} {v : Value} {P : Nat → Obj → Prop} {w w' : World} {out : List Nd} (h : FO lo w bf bm X v out) (hf : Fr P w w') (hp : ∀ k c fz, ¬ P k (.cells c 94 fz)) (hq : ∀ k c fz, v.ownBlock = some k → ¬ P k (.cells c 57 fz)) (hm : ∀ es c, ¬ P bm (.map es c)) : FO lo w' bf bm X v out :=
  ⟨hf.own h.1 (fun g c fz _ _ => hp g c fz), hf.own h.2.1 (fun g c fz _ hg => hq g c fz hg), h.2.2.1.fr hf hm, h.2.2.2⟩
set_option maxRecDepth 100000 in
theorem c_newForest (X : Int) (w : World) :
    Calls Try.prog 45 #[.int .i64 X] w fun e w' => e = .returned (.pointer (some ⟨w.heap.size + 1, 0, none⟩)) ∧ FO w.heap.size w' (w.heap.size + 1) w.heap.size X (.slice none 0 0) [] ∧ Below w.heap.size w w' := by
  have hmm := @run_makeMap Try.prog
  have hM := MapI.made 57 w
  have hor : ((w.alloc (.map #[] 0)).alloc (.cells #[.int .i64 X, .slice none 0 0, .map (some w.heap.size)] 94)).ownsRow w.heap.size 94 3 (.slice (some ⟨w.heap.size + 1, 0, none⟩) 1 1) 1 [.int .i64 X, .slice none 0 0, .map (some w.heap.size)] := by
    have h := World.ownsRow_lit (e := 94) (size := 3) (base := w.heap.size) (w.alloc (.map #[] 0)) #[.int .i64 X, .slice none 0 0, .map (some w.heap.size)] 1 (by simp) (by decide) (by simp)
    simpa using h
  have HB2 := Lib.hid (below_alloc (below_alloc (Below.refl w.heap.size w) (.map #[] 0)) (.cells #[.int .i64 X, .slice none 0 0, .map (some w.heap.size)] 94))
  have HF : Hid (FO w.heap.size ((w.alloc (.map #[] 0)).alloc (.cells #[.int .i64 X, .slice none 0 0, .map (some w.heap.size)] 94)) (w.heap.size + 1) w.heap.size X (.slice none 0 0) []) := Lib.hid
    ⟨hor, own_nil _ _ _ _, by rw [knF_nil]; exact hM.below (below_alloc (Below.refl _ _) _), Nat.le_refl _⟩
  clear hM hor
  go_enter Try.func45, Try.ntmps45
  go_wp2
  go_ret
  exact ⟨rfl, HF.out, HB2.out⟩
end Go.Proofs.Ytndihacmlkgkbaa
