/- Contract of canonical's closure, which calls itself. Condition: the nodes are different and lead to earlier ones; the sizes. -/
import Derived.Test.YtndihacmlkgkbaaDgO
namespace Go.Proofs.Ytndihacmlkgkbaa
open Go.RowKit Go.Maps Go.WideMaps

def KV (bp bD k : Nat) (o : Obj) : Prop := (k = bD ∧ ∃ c fz, o = .cells c 29 fz) ∨ (k = bp ∧ ∃ es c, o = .map es c)
def visF (bP bF bV bD : Nat) : Value := .func (.func 71) #[] #[.pointer (some ⟨bP, 0, none⟩), .pointer (some ⟨bF, 0, none⟩), .pointer (some ⟨bV, 0, none⟩), .pointer (some ⟨bD, 0, none⟩)]
/-- The boxes that the closure has captured. -/
structure VB (lo : Nat) (w : World) (bP bF bV bD bp bf : Nat) (X : Int) (v : Value) (st : Cs) : Prop where
  p : w.ownsRow lo 96 1 (.slice (some ⟨bP, 0, none⟩) 1 1) 1 [.map (some bp)]
  q : w.ownsRow lo 62 1 (.slice (some ⟨bF, 0, none⟩) 1 1) 1 [.pointer (some ⟨bf, 0, none⟩)]
  fn : w.ownsRow lo 64 1 (.slice (some ⟨bV, 0, none⟩) 1 1) 1 [visF bP bF bV bD]
  d : w.ownsRow lo 29 3 (.slice (some ⟨bD, 0, none⟩) 1 1) 1 [.int .i64 X, v, .int .i64 0]
  r : w.ownsRow lo 57 3 v st.2.length (ndCells st.2)
  m : MapI 2 w bp (st.2.length + 2) (plF st.1)
  l : lo ≤ bp
theorem VB.below {lo bP bF bV bD bp bf : Nat} {X : Int} {v : Value} {st : Cs} {w w' : World} (h : VB lo w bP bF bV bD bp bf X v st) (hb : Below w.heap.size w w') : VB lo w' bP bF bV bD bp bf X v st :=
  ⟨own_below h.p hb, own_below h.q hb, own_below h.fn hb, own_below h.d hb, own_below h.r hb, h.m.below hb, h.l⟩
theorem keyInt {z : Int} (h : wfI z) : keyOf Try.prog 2 (.int .i64 z) = some (.int .i64 z) := by
  rw [keyOf_int Try.underlying2]
  unfold wfI at h
  simp [mapKey, Try.underlying2, h]
theorem wfI_nat {r : Nat} (h : r ≤ 9223372036854775807) : wfI r := by
  simp [wfI, Lit.wf, IntKind.min, IntKind.max, IntKind.signed, IntKind.bits]
  omega
theorem enter_of {f : FuncId} {fn : Func} {c : Code} (hf : Try.prog.funcs[f]? = some fn) (hname : (fn.name == "runtime.NumGoroutine") = false) (hb : fn.body = some c) (args : Array Value) (w : World) :
    (callFunc f args).run Try.prog w = .ok (.enter f args) w := by
  have h1 : fn.name ≠ "runtime.NumGoroutine" := by simpa using hname
  simp [callFunc, hf, h1, hb]
theorem cell_of {w : World} {k j : Nat} {cur : Array Value} {e : TypeId} {fz : Nat × Nat} {x : Value} (h : w.heap[k]? = some (.cells cur e fz)) (hx : cur[j]? = some x) : w.cell? ⟨k, j, none⟩ = some x := by
  simp [World.cell?, h, hx]
theorem PR.box {lo : Nat} {K : Nat → Obj → Prop} {row : Option Nat} {w a : World} {k : Nat} {o : Obj} (h : Fr (PR lo K row) w a) (ho : w.heap[k]? = some o) (hk : ¬ K k o) (hr : row ≠ some k) : a.heap[k]? = some o :=
  (h.blk k o ho).elim id (fun h2 => h2.2.elim (fun h3 => absurd h3 hk) (fun h3 => absurd h3 hr))
theorem wpList_push_nd (w : World) {ops : Array Oper} {rest : List Oper} {o : Oper} {a : Act} {Q : Exit → Act → World → Prop} (hgd : o.guard = none) (s x : Operand)
    (ho : o.op = .call { callee := .builtin .append, args := #[s, x], argTypes := #[27, 27] })
    (base : Nat) (v : Value) (l : List Nd) (y : Nd) (g c : Nat) (hs : a.eval s = v) (hown : w.ownsRow base 57 3 v l.length (ndCells l))
    (hx : a.eval x = .slice (some ⟨g, 0, none⟩) 1 c) (h0 : w.cell? ⟨g, 0, none⟩ = some (.int .i64 y.i)) (h1 : w.cell? ⟨g, 1, none⟩ = some (.int .i64 y.lo)) (h2 : w.cell? ⟨g, 2, none⟩ = some (.int .i64 y.hi)) (hn : l.length ≤ 1099511627776) (hbase : base ≤ w.heap.size)
    (h : ∀ v' w', w'.ownsRow base 57 3 v' (l ++ [y]).length (ndCells (l ++ [y])) → w.grownBy w' v.ownBlock → (v'.ownBlock = v.ownBlock ∨ v'.ownBlock = some w.heap.size) → wpList Try.prog ops Q rest (a.put o.dst v') w') : wpList Try.prog ops Q (o :: rest) a w :=
  wpList_plain hgd fun _ hK' => wp_push_nd w s x ho base v l y g c hs hown hx h0 h1 h2 hn hbase fun v' w' a1 a2 a3 => hK' _ _ (h v' w' a1 a2 a3)
theorem own_other {w w' : World} {b1 b2 s1 s2 n1 n2 : Nat} {e1 e2 : TypeId} {v1 v2 : Value} {x1 x2 : List Value} (h1 : w.ownsRow b1 e1 s1 v1 n1 x1) (h2 : w.ownsRow b2 e2 s2 v2 n2 x2) (he : e1 ≠ e2) (hg : w.grownBy w' v2.ownBlock) : w'.ownsRow b1 e1 s1 v1 n1 x1 := by
  refine h1.kept hg ?_
  rcases hv : v1.ownBlock with _ | q
  · exact .inl rfl
  · exact .inr (fun e => own_ne h1 h2 he q hv e.symm)
/-- A node is appended, and stored in the diagram's box. -/
theorem VB.push {lo bP bF bV bD bp bf : Nat} {X : Int} {v v3 : Value} {st : Cs} {y : Nd} {w w3 : World} (h : VB lo w bP bF bV bD bp bf X v st) (ho : w3.ownsRow lo 57 3 v3 (st.2 ++ [y]).length (ndCells (st.2 ++ [y]))) (hg : w.grownBy w3 v.ownBlock) :
    VB lo (w3.setCell ⟨bD, 1, none⟩ v3) bP bF bV bD bp bf X v3 (st.1, st.2 ++ [y]) ∧ MapI 2 (w3.setCell ⟨bD, 1, none⟩ v3) bp (st.2.length + 2) (plF st.1) ∧ Fr (PR lo (KV bp bD) v.ownBlock) w (w3.setCell ⟨bD, 1, none⟩ v3) ∧ w3.cell? ⟨bD, 1, none⟩ = some v := by
  have hp := own_other h.p h.r (by decide) hg
  have hq := own_other h.q h.r (by decide) hg
  have hf := own_other h.fn h.r (by decide) hg
  have hd := own_other h.d h.r (by decide) hg
  have hm := h.m.grown hg (fun e => h.m.ne h.r bp e.symm rfl)
  have hst := hd.stored 1 v3
  have hp2 := own_other hp hd (by decide) hst.2
  have hq2 := own_other hq hd (by decide) hst.2
  have hf2 := own_other hf hd (by decide) hst.2
  have hr2 := own_other ho hd (by decide) hst.2
  have hm2 := hm.grown hst.2 (fun e => hm.ne hd bp e.symm rfl)
  have hd2 := hst.1
  simp only [List.set_cons_zero, List.set_cons_succ] at hd2
  refine ⟨⟨hp2, hq2, hf2, hd2, hr2, hm2.mono (by simp), h.l⟩, hm2, ?_, hd.cellAt 1 (by decide)⟩
  refine (Fr.of_grown hg (fun q o hq ho => ⟨(h.r.lt q hq).1, .inr hq⟩)).trans (Fr.of_grown hst.2 (fun q o hq ho => ?_))
  obtain ⟨h1, cur, h2⟩ := own_kind hd hq ho
  exact ⟨h1, .inl (.inl ⟨by simpa [Value.ownBlock] using hq.symm, cur, _, h2⟩)⟩
/-- The map of places is written. -/
theorem VB.put {lo bP bF bV bD bp bf : Nat} {X : Int} {v : Value} {st : Cs} {names : List Int} {w w5 : World} (h : VB lo w bP bF bV bD bp bf X v st) (hm : MapI 2 w5 bp (st.2.length + 2) (plF names)) (hg : w.grownBy w5 (some bp)) :
    VB lo w5 bP bF bV bD bp bf X v (names, st.2) ∧ Fr (PR lo (KV bp bD) v.ownBlock) w w5 :=
  ⟨⟨h.p.kept hg (.inr fun e => h.m.ne h.p bp e rfl), h.q.kept hg (.inr fun e => h.m.ne h.q bp e rfl), h.fn.kept hg (.inr fun e => h.m.ne h.fn bp e rfl), h.d.kept hg (.inr fun e => h.m.ne h.d bp e rfl), h.r.kept hg (.inr fun e => h.m.ne h.r bp e rfl), hm, h.l⟩,
    Fr.of_grown hg (fun q o hq ho => by
      simp only [Option.some.injEq] at hq
      subst hq
      exact ⟨h.l, .inl (.inr ⟨rfl, h.m.at_ ho⟩)⟩)⟩
/-- Visiting a new reference appends a node. -/
theorem wlk_step {nodes : List Nd} (hg : Good nodes) (hn : nodes.Nodup) {f : Nat} {st : Cs} {k : Nat} {x : Nd} (hx : nodes[k]? = some x) (hf : k + 2 < f + 1) (hI : CInv nodes st) (h0 : ¬ 0 < st.1.getD (k + 2) 0) :
    wlk nodes (f + 1) st (k + 2) = (((wlk nodes f (wlk nodes f st x.lo.toNat).1 x.hi.toNat).1.1.set (k + 2) (((wlk nodes f (wlk nodes f st x.lo.toNat).1 x.hi.toNat).1.2.length : Int) + 2), (wlk nodes f (wlk nodes f st x.lo.toNat).1 x.hi.toNat).1.2 ++ [⟨x.i, (wlk nodes f st x.lo.toNat).2, (wlk nodes f (wlk nodes f st x.lo.toNat).1 x.hi.toNat).2⟩]), ((wlk nodes f (wlk nodes f st x.lo.toNat).1 x.hi.toNat).1.2.length : Int) + 2) := by
  have hk := (List.getElem?_eq_some_iff.1 hx).1
  obtain ⟨g1, g2, g3, g4, g5⟩ := hg _ x hx
  obtain ⟨ea, wa⟩ := wlk_same hg hn f st x.lo.toNat (by omega) (by omega) hI
  obtain ⟨eb, _⟩ := wlk_same hg hn f (wlk nodes f st x.lo.toNat).1 x.hi.toNat (by omega) (by omega) wa.inv
  rw [← (wlk_same hg hn (f + 1) st (k + 2) hf (by omega) hI).1, wlkI, if_neg (by omega), if_neg h0]
  simp only [Nat.add_sub_cancel, getD_nd hx]
  rw [ea, eb]
set_option maxHeartbeats 1000000 in
set_option maxRecDepth 100000 in
theorem c_visit (lo bP bF bV bD bp bf : Nat) (X : Int) (A : Option Addr) (c n : Nat) (nodes : List Nd) (W0 : World) (hn : n = nodes.length) (hs : n ≤ 1099511627000) (hg : Good nodes) (hnd : nodes.Nodup) (hf0 : W0.cell? ⟨bf, 1, none⟩ = some (.slice A n c)) (hrd : Rd W0 A (ndCells nodes)) (hlo : W0.heap.size ≤ lo) :
    ∀ (f : Nat) (st : Cs) (r : Nat) (v : Value) (w : World), r < f → r < n + 2 → CInv nodes st → (∀ q, 0 ≤ st.1.getD q 0) → st.2.length ≤ cnt st.1 → Below W0.heap.size W0 w → lo ≤ w.heap.size → VB lo w bP bF bV bD bp bf X v st →
    Calls Try.prog 71 #[.int .i64 r, .pointer (some ⟨bP, 0, none⟩), .pointer (some ⟨bF, 0, none⟩), .pointer (some ⟨bV, 0, none⟩), .pointer (some ⟨bD, 0, none⟩)] w fun e w' => e = .returned (.int .i64 (wlk nodes f st r).2) ∧ ∃ v', VB lo w' bP bF bV bD bp bf X v' (wlk nodes f st r).1 ∧ Fr (PR lo (KV bp bD) v.ownBlock) w w' ∧ RC w v v'
  | 0, _, _, _, _, h, _, _, _, _, _, _, _ => by omega
  | f + 1, st, r, v, w, hf, hr, hI, hnn, hc, hb, hlw, hV => by
    have HVB := Lib.hid hV
    have p0 := hV.p.cellAt 0 (by decide)
    simp only [List.getElem?_cons_zero] at p0
    have hkl := keyInt (wfI_nat (show r ≤ 9223372036854775807 by omega))
    have hk := hV.m.look lawInt Try.underlying96 hkl
    by_cases h2 : r < 2
    · have HW : Hid (wlk nodes (f + 1) st r = (st, (r : Int))) := Lib.hid (by unfold wlk; rw [if_pos h2])
      rw [plF_lo _ h2] at hk
      dsimp only at hk
      clear hrd hg hnn hc hI hV
      rw [HW.out]
      go_enter Try.func71, Try.ntmps71
      go_wp2_with (first
        | (at_lookup
           refine wpList_lookI _ rfl (.tmp 13) (.tmp 14) rfl rfl (.int .i64 r) rfl _ hk ?_))
      go_ret
      exact ⟨rfl, _, HVB.out, Fr.refl _ _, RC.refl _ _⟩
    · by_cases h3 : 0 < st.1.getD r 0
      · have HW : Hid (wlk nodes (f + 1) st r = (st, st.1.getD r 0)) := Lib.hid (by unfold wlk; rw [if_neg h2, if_pos h3])
        rw [plF_hi _ h2, if_neg (by omega)] at hk
        dsimp only at hk
        clear hrd hg hnn hc hI hV
        rw [HW.out]
        go_enter Try.func71, Try.ntmps71
        go_wp2_with (first
          | (at_lookup
             refine wpList_lookI _ rfl (.tmp 13) (.tmp 14) rfl rfl (.int .i64 r) rfl _ hk ?_))
        go_ret
        exact ⟨rfl, _, HVB.out, Fr.refl _ _, RC.refl _ _⟩
      · rw [plF_hi _ h2, if_pos (by have := hnn r; omega)] at hk
        dsimp only at hk
        have hz0 : st.1.getD r 0 = 0 := by have := hnn r; omega
        obtain ⟨k, rfl⟩ : ∃ k, r = k + 2 := ⟨r - 2, by omega⟩
        obtain ⟨x, hx⟩ : ∃ x, nodes[k]? = some x := ⟨_, List.getElem?_eq_getElem (by omega)⟩
        obtain ⟨q1, q2, q3, q4, q5⟩ := hg _ x hx
        have hV2 := wlk_step hg hnd hx hf hI h3
        obtain ⟨b1, o1, rfl, hb1, g3, g4, g5⟩ := hrd.nd hx
        obtain ⟨i, lo', hi'⟩ := x
        obtain ⟨a, rfl⟩ : ∃ a : Nat, lo' = a := ⟨lo'.toNat, by dsimp only at q1; omega⟩
        obtain ⟨b, rfl⟩ : ∃ b : Nat, hi' = b := ⟨hi'.toNat, by dsimp only at q3; omega⟩
        dsimp only at q1 q2 q3 q4 q5 g3 g4 g5 hV2
        simp only [Int.toNat_natCast] at hV2
        obtain ⟨-, wa⟩ := wlk_same hg hnd f st a (by omega) (by omega) hI
        have HWa := Lib.hid (wlk_bd hg f st a (by omega) (by omega) hI.len hnn hc)
        obtain ⟨-, wb⟩ := wlk_same hg hnd f (wlk nodes f st a).1 b (by omega) (by omega) wa.inv
        have HWb := Lib.hid (wlk_bd hg f (wlk nodes f st a).1 b (by omega) (by omega) (by rw [HWa.out.len]) HWa.out.nn HWa.out.c)
        have HIA := Lib.hid (fun w1 => c_visit lo bP bF bV bD bp bf X (some ⟨b1, o1, none⟩) c n nodes W0 hn hs hg hnd hf0 hrd hlo f st a v w1 (by omega) (by omega) hI hnn hc)
        have HIB := Lib.hid (fun v1 w1 => c_visit lo bP bF bV bD bp bf X (some ⟨b1, o1, none⟩) c n nodes W0 hn hs hg hnd hf0 hrd hlo f (wlk nodes f st a).1 b v1 w1 (by omega) (by omega) wa.inv HWa.out.nn HWa.out.c)
        have HINV := Lib.hid wb.inv
        have hz1 : (wlk nodes f (wlk nodes f st a).1 b).1.1.getD (k + 2) 0 = 0 := by rw [wb.hi _ (by omega), wa.hi _ (by omega)]; exact hz0
        have HZ1 := Lib.hid hz1
        have HV := Lib.hid hV2
        clear hV2 wa wb hz1 hz0
        generalize wlk nodes f st a = A1 at *
        generalize wlk nodes f A1.1 b = B1 at *
        have hkN : (k : Int) < n := by omega
        have hk2 : ((k + 2 : Nat) : Int) = (k : Int) + 2 := by omega
        have e1 := (hb.cell (p := ⟨bf, 1, none⟩) (World.block_lt_of_cell? _ _ hf0)).trans hf0
        have e3 := (hb.cell (p := ⟨b1, o1 + k * 3, none⟩) hb1).trans g3
        have e4 := (hb.cell (p := ⟨b1, o1 + k * 3 + 1, none⟩) hb1).trans g4
        have e5 := (hb.cell (p := ⟨b1, o1 + k * 3 + 2, none⟩) hb1).trans g5
        have qq0 := hV.q.cellAt 0 (by decide)
        have v0 := hV.fn.cellAt 0 (by decide)
        simp only [List.getElem?_cons_zero] at qq0 v0
        have lP := (own_ge hV.p).2
        have lF := (own_ge hV.q).2
        have lV := (own_ge hV.fn).2
        have lD := (own_ge hV.d).2
        have HKL := Lib.hid hkl
        have HBW := Lib.hid hb
        have HNN := Lib.hid hn
        have hal := below_alloc (Below.refl w.heap.size w) (.cells #[.int .i64 i, .int .i64 a, .int .i64 b] 57)
        have HAL := Lib.hid hal
        have HVA := Lib.hid (hV.below hal)
        have hbox : (w.alloc (.cells #[.int .i64 i, .int .i64 a, .int .i64 b] 57)).heap[w.heap.size]? = some (.cells #[.int .i64 i, .int .i64 a, .int .i64 b] 57) := by
          show (w.heap.push _)[w.heap.size]? = _
          exact Array.getElem?_push_size
        have HBOX := Lib.hid hbox
        have HVL := Lib.hid (fun q hq => (hV.r.lt q hq).2)
        clear hV hrd hg hnd hnn hc hI hb g3 g4 g5 hx h3 hn hf0 hkl hal hbox HVB
        rw [hk2] at hk ⊢
        unfold visF at v0
        go_enter Try.func71, Try.ntmps71
        have HK := Lib.hid hk
        clear hk
        go_wp2_with (first
          | (at_lookup
             refine wpList_lookI _ rfl (.tmp 13) (.tmp 14) rfl rfl (.int .i64 ((k : Int) + 2)) rfl _ HK.out ?_))
        have HBA := Lib.hid (below_chain HBW.out HAL.out)
        refine (HIA.out _ HBA.out (Nat.le_trans hlw HAL.out.size) HVA.out).mono ?_
        rintro e w1 ⟨rfl, v1, hV1, hF1, hR1⟩
        have hrow : v.ownBlock ≠ some w.heap.size := fun e => by have := HVL.out _ e; omega
        have HBX1 := Lib.hid (PR.box hF1 HBOX.out (by rintro (⟨_, c, fz, h⟩ | ⟨_, es, c, h⟩) <;> simp at h) hrow)
        have hlw0 : lo ≤ (w.alloc (.cells #[.int .i64 i, .int .i64 a, .int .i64 b] 57)).heap.size := Nat.le_trans hlw HAL.out.size
        have HB1 := Lib.hid (HBA.out.trans ((PR.below hF1 hlw0).mono hlo))
        have hlw1 : lo ≤ w1.heap.size := Nat.le_trans hlw0 hF1.size
        have m0 := cell_of (j := 0) HBX1.out rfl
        have m2 := cell_of (j := 2) HBX1.out rfl
        have n0 := hV1.fn.cellAt 0 (by decide)
        simp only [List.getElem?_cons_zero] at n0
        unfold visF at n0
        have hrow1 : v1.ownBlock ≠ some w.heap.size := fun e => by
          rcases hR1 with h | ⟨q, h, h2⟩
          · exact hrow (h.symm.trans e)
          · rw [h] at e
            simp only [Option.some.injEq] at e
            simp only [World.size_alloc] at h2
            omega
        have HV1 := Lib.hid hV1
        have HF1 := Lib.hid hF1
        have HR1 := Lib.hid hR1
        have hs1 : w.heap.size < w1.heap.size := Nat.lt_of_lt_of_le (by simp) hF1.size
        clear hV1 hF1 hR1 HIA HVA HBOX e1 e3 e4 e5 p0 qq0 v0 lP lF lV lD
        go_wp2_with (fail)
        refine (HIB.out v1 w1 HB1.out hlw1 HV1.out).mono ?_
        rintro e w2 ⟨rfl, v2, hV2, hF2, hR2⟩
        have HBX2 := Lib.hid (PR.box hF2 HBX1.out (by rintro (⟨_, c, fz, h⟩ | ⟨_, es, c, h⟩) <;> simp at h) hrow1)
        have HF2 := Lib.hid (HF1.out.rows HR1.out hF2)
        have HR2 := Lib.hid (HR1.out.trans hR2 HF1.out.size)
        have hlw2 : lo ≤ w2.heap.size := Nat.le_trans hlw1 hF2.size
        have r0 := cell_of (j := 0) HBX2.out rfl
        have hBl : B1.1.2.length ≤ 1099511627005 := by
          have h1 := HWb.out.c
          have h2 := cnt_le B1.1.1
          rw [HWb.out.len] at h2
          have := HNN.out
          omega
        obtain ⟨A2, c2, rfl⟩ := own_shape hV2.r
        have d1 := hV2.d.cellAt 1 (by decide)
        simp only [List.getElem?_cons_zero, List.getElem?_cons_succ] at d1
        have lD := (own_ge hV2.d).2
        have hal2 := below_alloc (Below.refl w2.heap.size w2) (.cells #[.int .i64 i, .int .i64 A1.2, .int .i64 B1.2] 57)
        have HVA := Lib.hid (hV2.below hal2)
        have HAL2 := Lib.hid hal2
        have z0 : (w2.alloc (.cells #[.int .i64 i, .int .i64 A1.2, .int .i64 B1.2] 57)).cell? ⟨w2.heap.size, 0, none⟩ = some (.int .i64 i) := by go_simp
        have z1 : (w2.alloc (.cells #[.int .i64 i, .int .i64 A1.2, .int .i64 B1.2] 57)).cell? ⟨w2.heap.size, 1, none⟩ = some (.int .i64 A1.2) := by go_simp
        have z2 : (w2.alloc (.cells #[.int .i64 i, .int .i64 A1.2, .int .i64 B1.2] 57)).cell? ⟨w2.heap.size, 2, none⟩ = some (.int .i64 B1.2) := by go_simp
        have hszA : lo ≤ (w2.alloc (.cells #[.int .i64 i, .int .i64 A1.2, .int .i64 B1.2] 57)).heap.size := by simp; omega
        clear hV2 hF2 hR2 HIB HV1 HBX1 HF1 HR1 hal2 m0 m2 n0 hrow hrow1 HBA HB1
        go_wp2_with (first
          | (at_builtin
             refine wpList_push_nd _ rfl (.tmp 37) (.tmp 43) rfl lo (.slice A2 B1.1.2.length c2) B1.1.2 ⟨i, A1.2, B1.2⟩ w2.heap.size 1 rfl HVA.out.r rfl z0 z1 z2 (by omega) hszA ?_
             intro v3 w3 ho3 hg3 hv3
             obtain ⟨hP1, hP2, hP3, k1⟩ := VB.push HVA.out ho3 hg3
             have f1 : w3.frozen? ⟨bD, 1, none⟩ = false := (own_other HVA.out.d HVA.out.r (by decide) hg3).frozenAt 1
             have HP1 := Lib.hid hP1
             have HP2 := Lib.hid hP2
             have HP3 := Lib.hid hP3
             have HR3 := Lib.hid (show RC w2 (.slice A2 B1.1.2.length c2) v3 from hv3.elim .inl (fun h => .inr ⟨_, h, HAL2.out.size⟩))
             have hszW3 := hP3.size
             obtain ⟨A3, c3, rfl⟩ := own_shape ho3
             clear ho3 hg3 hv3 hP1 hP2 hP3 z0 z1 z2 d1 r0
             generalize hN3 : (B1.1.2 ++ [(⟨i, A1.2, B1.2⟩ : Nd)]).length = N3 at *
             rw [List.length_append, List.length_singleton] at hN3
             have HN3 := Lib.hid hN3
             clear hN3))
        have hn3 : N3 ≤ 1099511627006 := by have := HN3.out; omega
        generalize w3.setCell ⟨bD, 1, none⟩ (.slice A3 N3 c3) = W4 at *
        have p0 := HP1.out.p.cellAt 0 (by decide)
        have d1 := HP1.out.d.cellAt 1 (by decide)
        simp only [List.getElem?_cons_zero, List.getElem?_cons_succ] at p0 d1
        have hlen : (B1.1.2 ++ [(⟨i, A1.2, B1.2⟩ : Nd)]).length = B1.1.2.length + 1 := by simp
        have hn4 : (B1.1.2.length : Int) + 2 = (N3 : Int) + 1 := by have := HN3.out; omega
        have hwz : (Lit.int .i64 ((N3 : Int) + 1)).wf = true := by
          simp [Lit.wf, IntKind.min, IntKind.max, IntKind.signed, IntKind.bits]
          omega
        have hw3 : IntKind.i64.wrap ((N3 : Int) + 1) = (N3 : Int) + 1 := IntWalk.i64_in _ (by omega)
        rw [hn4] at HV
        clear hn4
        have hkr : k + 2 < B1.1.1.length := by rw [HINV.out.len]; have := HNN.out; omega
        obtain ⟨w5, hz1, hz2, hz3⟩ := (HP2.out.below (Below.refl W4.heap.size W4).drew).put lawInt Try.underlying96 HKL.out hwz (by omega) (plF_put (v := (N3 : Int) + 1) h2 hkr (by omega))
        obtain ⟨hQ1, hQ2⟩ := VB.put (names := B1.1.1.set (k + 2) ((N3 : Int) + 1)) (HP1.out.below (Below.refl W4.heap.size W4).drew) (by rw [hlen]; exact hz2) hz3
        have hlk := hQ1.m.look0 lawInt Try.underlying96 HKL.out
        dsimp only at hlk
        rw [plF_hi _ h2, getD_set_eq hkr, if_neg (show ¬ (N3 : Int) + 1 = 0 by omega), Option.getD_some, hk2] at hlk
        have HLK := Lib.hid hlk
        clear hlk
        have HQ1 := Lib.hid hQ1
        have HPR := Lib.hid (show Fr (PR lo (KV bp bD) (Value.slice A2 B1.1.2.length c2).ownBlock) w2 W4 from (Fr.of_below HAL2.out).trans HP3.out)
        have HFQ := Lib.hid ((HPR.out.trans (Fr.of_below (Below.refl W4.heap.size W4).drew)).rows HR3.out hQ2)
        have p5 := hQ1.p.cellAt 0 (by decide)
        simp only [List.getElem?_cons_zero] at p5
        rw [hk2] at hz1
        have HZ := Lib.hid hz1
        clear hz1 hz2 hz3 hQ1 hQ2 HP1 HP2 HP3 HVA HAL2 hwz
        refine wp_region_heldE 6 (S := (fun w' => w'.cell? ⟨bP, 0, none⟩ = some (.map (some bp)) ∧ w'.cell? ⟨bD, 1, none⟩ = some (.slice A3 N3 c3))) (by kernel_rfl) ?_ (fun hHeld => ?_)
        · exact ⟨p0, d1⟩
        refine rgE_take (v := ?_) 0 12 rfl (by kernel_rfl) (by kernel_rfl) (by kernel_rfl) (by kernel_rfl) (by kernel_rfl) (fun _ _ _ h => h) (by kernel_rfl) ?_ (by assumption) ?_
        rotate_left
        · (intro w' hSw; (try dsimp only at hSw); go_simp; first | done | with_reducible rfl)
        simp only [Act.put, List.setIfInBounds_toArray, List.set_cons_zero, List.set_cons_succ]
        refine rgE_take (v := ?_) 1 12 rfl (by kernel_rfl) (by kernel_rfl) (by kernel_rfl) (by kernel_rfl) (by kernel_rfl) (fun _ _ _ h => h) (by kernel_rfl) ?_ (by assumption) ?_
        rotate_left
        · (intro w' hSw; (try dsimp only at hSw); go_simp; first | done | with_reducible rfl)
        simp only [Act.put, List.setIfInBounds_toArray, List.set_cons_zero, List.set_cons_succ]
        refine rgE_take (v := ?_) 2 12 rfl (by kernel_rfl) (by kernel_rfl) (by kernel_rfl) (by kernel_rfl) (by kernel_rfl) (fun _ _ _ h => h) (by kernel_rfl) ?_ (by assumption) ?_
        rotate_left
        · (intro w' hSw; (try dsimp only at hSw); go_simp; first | done | with_reducible rfl)
        simp only [Act.put, List.setIfInBounds_toArray, List.set_cons_zero, List.set_cons_succ]
        refine rgE_take (v := ?_) 3 12 rfl (by kernel_rfl) (by kernel_rfl) (by kernel_rfl) (by kernel_rfl) (by kernel_rfl) (fun _ _ _ h => h) (by kernel_rfl) ?_ (by assumption) ?_
        rotate_left
        · (intro w' hSw; (try dsimp only at hSw); go_simp; first | done | with_reducible rfl)
        simp only [Act.put, List.setIfInBounds_toArray, List.set_cons_zero, List.set_cons_succ]
        refine rgE_run 4 rfl (by kernel_rfl) (by kernel_rfl) (by decide) (fun K hK => ?_)
        go_simp
        refine (c_length _ _ _ _).mono ?_
        rintro e w' ⟨rfl, rfl⟩
        clear hHeld
        refine hK.out _ _ (.inr ⟨p0, d1⟩) (fun hHeld => ?_)
        clear hK K
        try simp only [Act.put, List.setIfInBounds_toArray, List.set_cons_zero, List.set_cons_succ]
        refine rgE_take (v := ?_) 5 12 rfl (by kernel_rfl) (by kernel_rfl) (by kernel_rfl) (by kernel_rfl) (by kernel_rfl) (fun _ _ _ h => h) (by kernel_rfl) ?_ (by assumption) ?_
        rotate_left
        · (intro w' hSw; (try dsimp only at hSw); go_simp; first | done | with_reducible rfl)
        simp only [Act.put, List.setIfInBounds_toArray, List.set_cons_zero, List.set_cons_succ]
        have hz1 := HZ.out
        refine rgE_last rfl (by kernel_rfl) (by kernel_rfl) (by kernel_rfl) (fun K hK => ?_)
        go_simp
        clear hHeld
        refine hK.out _ _ ?_
        clear hK K
        try simp only [Act.put, List.setIfInBounds_toArray, List.set_cons_zero, List.set_cons_succ]
        clear hz1
        go_wp2_with (first
          | (at_lookup
             refine wpList_look0I _ rfl (.tmp 52) (.tmp 53) rfl rfl (.int .i64 ((k : Int) + 2)) rfl _ HLK.out ?_))
        go_ret
        exact ⟨by rw [HV.out]; rfl, _, by rw [HV.out]; exact HQ1.out, (Fr.of_below HAL.out).trans (HF2.out.rows HR2.out HFQ.out), ((RC.refl w v).trans (HR2.out.trans HR3.out HF2.out.size) HAL.out.size)⟩
end Go.Proofs.Ytndihacmlkgkbaa
