/- Contracts and helpers (joined texts, part 6). The conditions stand at each theorem. -/
import Derived.Test.YtdjehopcpjkgjaaGreatH5
import Derived.Maps.OwnSet
import Derived.Test.YtdjehopcpjkgjaaGreatH4
/- A set of states as a map from their texts to true: made, asked, written; and the text of a state. Condition: each value of a state lies in 0 .. 255. -/
namespace Go.Proofs.YtdjehopcpjkgjaaGreat
open Go.RowKit Go.Maps Go.WideMaps

theorem plainElem_bool_inv {P : Program} {e : TypeId} (he : P.underlying e = some .bool) {v : Value} {z : DataW Unit × List MemPlace} (h : plainElem P e v = some z) : ∃ x, v = .bool x ∧ z = (.lit (.bool x), []) := by
  unfold plainElem at h
  split at h
  · cases h; exact ⟨_, rfl, rfl⟩
  · rename_i he2; rw [he] at he2; cases he2
  · rename_i he2; rw [he] at he2; cases he2
  · cases h
def In8 (vs : List Int) : Prop := ∀ z ∈ vs, 0 ≤ z ∧ z < 256
def keyV (vs : List Int) : List UInt8 := vs.map fun n => UInt8.ofNat n.toNat
theorem keyV_inj : ∀ {a b : List Int}, In8 a → In8 b → keyV a = keyV b → a = b
  | [], [], _, _, _ => rfl
  | [], _ :: _, _, _, h => by simp [keyV] at h
  | _ :: _, [], _, _, h => by simp [keyV] at h
  | x :: a, y :: b, ha, hb, h => by
    simp only [keyV, List.map_cons, List.cons.injEq] at h
    have h1 := congrArg UInt8.toNat h.1
    have hx := ha x (List.mem_cons_self ..)
    have hy := hb y (List.mem_cons_self ..)
    rw [UInt8.toNat_ofNat', UInt8.toNat_ofNat', Nat.mod_eq_of_lt (by omega), Nat.mod_eq_of_lt (by omega)] at h1
    rw [keyV_inj (fun z hz => ha z (List.mem_cons_of_mem _ hz)) (fun z hz => hb z (List.mem_cons_of_mem _ hz)) h.2, show x = y by omega]
theorem lawS : Keyed Tryz.prog 9 := string_keyed Tryz.underlying9
theorem zeroB (w : World) : (zeroValue 4).run Tryz.prog w = .ok (.bool false) w := by kernel_rfl
/-- Block b is a map of at most n entries that holds true at the texts of the states S alone. -/
def SetM (w : World) (b n : Nat) (S : List (List Int)) : Prop :=
  (∀ s ∈ S, In8 s) ∧ ∃ D : DataW Unit, w.ownsMap Tryz.prog 9 (plainElem Tryz.prog 4) b n D ∧ ∀ vs, In8 vs → D.atKey (.string (keyV vs)) (.lit (.bool false)) = .lit (.bool (decide (vs ∈ S)))
theorem SetM.made (w : World) : SetM (w.alloc (.map #[] 0)) w.heap.size 0 [] :=
  ⟨by simp, _, World.ownsMap_made _ _ _ _, fun vs _ => by rw [atKey_of_not_has (by rfl)]; rfl⟩
theorem SetM.lt {w : World} {b n : Nat} {S : List (List Int)} (h : SetM w b n S) : b < w.heap.size := by
  obtain ⟨_, D, hd, _⟩ := h
  exact hd.lt
theorem SetM.grown {w w' : World} {b n : Nat} {S : List (List Int)} {row : Option Nat} (h : SetM w b n S) (hg : w.grownBy w' row) (hne : some b ≠ row) : SetM w' b n S := by
  obtain ⟨h0, D, hd, h1⟩ := h
  exact ⟨h0, D, hd.kept hg hne, h1⟩
theorem SetM.below {w w' : World} {b n : Nat} {S : List (List Int)} (h : SetM w b n S) (hb : Below w.heap.size w w') : SetM w' b n S := h.grown (grown_of_below hb none) (by simp)
theorem keyOf_state {vs : List Int} (hl : vs.length ≤ 1048576) : keyOf Tryz.prog 9 (.string (strOfNums vs)) = some (.string (keyV vs)) :=
  keyOf_string_mk Tryz.underlying9 (by rw [strOfNums_size]; unfold maxLen; omega)
theorem SetM.look {w : World} {b n : Nat} {S : List (List Int)} (h : SetM w b n S) {vs : List Int} (hv : In8 vs) (hl : vs.length ≤ 1048576) :
    (Instr.lookup 122 (.map (some b)) (.string (strOfNums vs)) false).run Tryz.prog w = .ok (.bool (decide (vs ∈ S))) w := by
  obtain ⟨h0, D, hd, h1⟩ := h
  obtain ⟨v, ps, hrun, hR⟩ := hd.lookup lawS Tryz.underlying122 (zeroB w) (plainElem_bool Tryz.underlying4 false) (keyOf_state hl)
  rw [h1 vs hv] at hR
  obtain ⟨x, rfl, hx⟩ := plainElem_bool_inv Tryz.underlying4 hR
  simp only [Prod.mk.injEq, DataW.lit.injEq, Lit.bool.injEq] at hx
  rw [hrun, hx.1]
theorem SetM.put {w : World} {b n : Nat} {S : List (List Int)} (h : SetM w b n S) {vs : List Int} (hv : In8 vs) (hl : vs.length ≤ 1048576) (hn : n ≤ 1048576) :
    ∃ w', (Instr.mapUpdate 122 (.map (some b)) (.string (strOfNums vs)) (.bool true)).run Tryz.prog w = .ok () w' ∧ SetM w' b (n + 1) (S ++ [vs]) ∧ w.grownBy w' (some b) := by
  obtain ⟨h0, D, hd, h1⟩ := h
  obtain ⟨w', hrun, hd', hg⟩ := hd.update lawS Tryz.underlying122 (by unfold maxLen; omega) (keyOf_state hl) (plainElem_bool Tryz.underlying4 true)
  have hkl : WideAt.IsKeyLit (.string (keyV vs)) := by simp [WideAt.IsKeyLit]
  refine ⟨w', hrun, ⟨fun s hs => ?_, _, hd', fun us hu => ?_⟩, hg⟩
  · rcases List.mem_append.1 hs with hs | hs
    · exact h0 s hs
    · simp only [List.mem_singleton] at hs; subst hs; exact hv
  · by_cases e : us = vs
    · subst e
      rw [atKey_put_same hd.isMap hkl]
      simp
    · have hne : Lit.string (keyV us) ≠ Lit.string (keyV vs) := fun h => e (keyV_inj hu hv (by injection h))
      rw [atKey_put_other hne, h1 us hu]
      rw [show decide (us ∈ S ++ [vs]) = decide (us ∈ S) by simp [e]]
theorem wpList_look_set (w : World) {ops : Array Oper} {rest : List Oper} {o : Oper} {a : Act} {Q : Exit → Act → World → Prop} (hgd : o.guard = none) (m x : Operand) (hop : o.op = Op.lookup 122 m x false)
    (b n : Nat) (S : List (List Int)) (hm : a.eval m = .map (some b)) (hown : SetM w b n S) (vs : List Int) (hx : a.eval x = .string (strOfNums vs)) (hv : In8 vs) (hl : vs.length ≤ 1048576)
    (h : wpList Tryz.prog ops Q rest (a.put o.dst (.bool (decide (vs ∈ S)))) w) : wpList Tryz.prog ops Q (o :: rest) a w := by
  refine wpList_plain hgd fun K' hK' => ?_
  have hrun := hown.look hv hl
  unfold Oper.wp
  simp only [execOp, hop, hm, hx, hrun, Sem.run_bind, Sem.run_pure, Result.andThen_ok]
  exact hK' _ _ h
theorem wpList_put_set (w : World) {ops : Array Oper} {rest : List Oper} {o : Oper} {a : Act} {Q : Exit → Act → World → Prop} (hgd : o.guard = none) (m x y : Operand) (hop : o.op = Op.mapUpdate 122 m x y)
    (b n : Nat) (S : List (List Int)) (hm : a.eval m = .map (some b)) (hown : SetM w b n S) (vs : List Int) (hx : a.eval x = .string (strOfNums vs)) (hy : a.eval y = .bool true) (hv : In8 vs) (hl : vs.length ≤ 1048576) (hn : n ≤ 1048576)
    (h : ∀ w', SetM w' b (n + 1) (S ++ [vs]) → w.grownBy w' (some b) → wpList Tryz.prog ops Q rest (a.put o.dst undef) w') : wpList Tryz.prog ops Q (o :: rest) a w := by
  refine wpList_plain hgd fun K' hK' => ?_
  obtain ⟨w', hrun, r1, r2⟩ := hown.put hv hl hn
  unfold Oper.wp
  simp [execOp, hop, hm, hx, hy, hrun, Result.andThen]
  exact hK' _ _ (h w' r1 r2)
theorem wpList_insert_set (w : World) {ops : Array Oper} {rest : List Oper} {o : Oper} {a : Act} {Q : Exit → Act → World → Prop} (hgd : o.guard = none) (m x y : Operand) (hop : o.op = Op.insert 122 m x y)
    (b n : Nat) (S : List (List Int)) (hm : a.eval m = .map (some b)) (hown : SetM w b n S) (vs : List Int) (hx : a.eval x = .string (strOfNums vs)) (hy : a.eval y = .bool true) (hv : In8 vs) (hl : vs.length ≤ 1048576) (hn : n ≤ 1048576)
    (h : ∀ w', SetM w' b (n + 1) (S ++ [vs]) → w.grownBy w' (some b) → wpList Tryz.prog ops Q rest (a.put o.dst undef) w') : wpList Tryz.prog ops Q (o :: rest) a w := by
  refine wpList_plain hgd fun K' hK' => ?_
  obtain ⟨w', hrun, r1, r2⟩ := hown.put hv hl hn
  unfold Oper.wp
  simp [execOp, hop, hm, hx, hy, hrun, Result.andThen]
  exact hK' _ _ (h w' r1 r2)
theorem in8_of {sz vs : List Int} (h : stB sz vs = true) (hs : SzsOk sz) : In8 vs := by
  intro z hz
  unfold stB at h
  simp only [Bool.and_eq_true, decide_eq_true_eq] at h
  obtain ⟨i, hi, rfl⟩ := List.getElem_of_mem hz
  have h2 := h.2
  unfold stK at h2
  rw [List.all_eq_true] at h2
  have h3 := h2 i (List.mem_range.2 hi)
  rw [getD_of (List.getElem?_eq_getElem hi)] at h3
  have h4 := hs (sz.getD i 0) (by rw [getD_of (List.getElem?_eq_getElem (by omega : i < sz.length))]; exact List.getElem_mem _)
  unfold inB at h3
  rw [decide_eq_true_eq] at h3
  omega
theorem info_byte : (Tryz.prog.info? 5).map (fun i => (i.zero, i.size, i.bytes)) = some (some (.int .u8 0), 1, 1) := by kernel_rfl
def bytesC (zs : List Int) : List Value := zs.map (Value.int .u8)
theorem bytesC_length (zs : List Int) : (bytesC zs).length = zs.length := by simp [bytesC]
theorem bytesC_get {zs : List Int} {j : Nat} {z : Int} (h : zs[j]? = some z) : (bytesC zs)[j]? = some (.int .u8 z) := by simp [bytesC, h]
set_option maxHeartbeats 1000000 in
set_option maxRecDepth 100000 in
theorem c_stateKey (A : Option Addr) (c n : Nat) (vs : List Int) (w : World) (hn : n = vs.length) (hl : n ≤ 1048576) (h8 : In8 vs) (hv : Rd w A (ints vs)) :
    Calls Tryz.prog 90 #[.slice A n c] w fun e w' => e = .returned (.string (strOfNums vs)) ∧ Below w.heap.size w w' := by
  obtain ⟨i0, hi, hz0, hz1, hz2⟩ := info_parts info_byte
  have HN := Lib.hid hn
  have HZ : (bytesC vs).length = n := by rw [bytesC_length, hn]
  have H8 := Lib.hid h8
  have HV := Lib.hid hv
  clear hn h8 hv
  go_enter Tryz.func90, Tryz.ntmps90
  go_wp2_with (first
    | (at_make
       refine wpList_make_full _ rfl (.tmp 7) (.tmp 7) _ rfl w.heap.size 5 i0 _ 1 Tryz.underlying116 hi hz0 hz1 .i64 .i64 _ _ n rfl rfl rfl rfl (by rw [hz2]; omega) (by unfold maxLen; omega) (Nat.le_refl _) ?_
       intro w1 hown hgrow)
    )
  have hb1 : Below w.heap.size w w1 := below_of_grown (Below.refl _ _) hgrow (by simp)
  have hZ : (madeCells (Value.int .u8 0).cells (n * 1)).toList.length = n := by simp [size_madeCells]
  generalize (madeCells (Value.int .u8 0).cells (n * 1)).toList = Z at hown hZ
  have hLZ := Lib.hid (HZ.trans hZ.symm)
  have HZZ := Lib.hid HZ
  clear hZ HZ hgrow
  go_loopw [11] (fun i wr => ∃ k : Nat, k ≤ n ∧ i = .int .i64 k ∧ wr.ownsRow w.heap.size 5 1 (.slice (some ⟨w.heap.size, 0, none⟩) n n) n (mix (bytesC vs) Z k) ∧ Below w.heap.size w wr) (fun i _ => n - (intOf i).toNat)
  case atStart => exact ⟨0, Nat.zero_le _, rfl, by rw [mix_zero]; exact hown, hb1⟩
  case round =>
    obtain ⟨k, hk, rfl, ho, hb⟩ := hrel
    clear hown hb1
    by_cases hlt : k < n
    · obtain ⟨z, hz⟩ : ∃ z, vs[k]? = some z := ⟨_, List.getElem?_eq_getElem (by have := HN.out; omega)⟩
      have h8z := H8.out z (List.mem_of_getElem? hz)
      obtain ⟨b, off, rfl, _, g0⟩ := (HV.out.below hb).int hz
      have hwr : IntKind.u8.wrap z = z := by simp [IntKind.wrap, IntKind.bits, IntKind.signed]; omega
      have f0 := ho.frozenAt k
      obtain ⟨old, hold⟩ := own_cell ho (j := k) (by omega)
      have hst := (ho.stored k (.int .u8 z)).1
      rw [mix_set hLZ.out (bytesC_get hz)] at hst
      have HST := Lib.hid hst
      have HB := Lib.hid hb
      clear hst ho hb hz
      go_wp2
      go_roundw
      case rel => exact ⟨k + 1, by omega, by go_num, HST.out, below_set HB.out _ (Nat.le_refl _)⟩
      case measure => simp [intOf]; omega
    · have : k = n := by omega
      subst this
      rw [mix_all (by rw [HZZ.out]; exact Nat.le_refl _) (by rw [← hLZ.out, HZZ.out]; exact Nat.le_refl _)] at ho
      have hback := run_convert_bytes_arg wr 116 5 Tryz.underlying116 Tryz.underlying5 w.heap.size 0 k k vs HN.out.symm (fun i hi => by
        have := ho.cells (g := w.heap.size) rfl i (.int .u8 (vs.getD i 0)) (by rw [bytesC_get (z := vs.getD i 0)]; rw [List.getD_eq_getElem?_getD, List.getElem?_eq_getElem (by have := HN.out; omega)]; rfl)
        rwa [Addr.add_lit] at this) 9 Tryz.underlying9
      have HB := Lib.hid hb
      clear ho hb
      go_wp2
      go_ret
      exact ⟨rfl, HB.out⟩
end Go.Proofs.YtdjehopcpjkgjaaGreat

/- Lists of reached states in memory (program): how they read, how they are owned, how one is appended. No condition but the sizes. -/
namespace Go.Proofs.YtdjehopcpjkgjaaGreat
open Go.RowKit

/-- A reached state as it lies in memory. -/
structure RcD where
  x : Rc
  a : Option Addr
  c : Nat
def RcD.vv (d : RcD) : Value := .slice d.a d.x.v.length d.c
def RcD.cells (d : RcD) : List Value := [d.vv, .int .i64 d.x.f, .int .i64 d.x.r, .int .i64 d.x.d]
def rcC (ds : List RcD) : List Value := ds.flatMap RcD.cells
theorem rcC_length (l : List RcD) : (rcC l).length = l.length * 4 := by
  induction l with
  | nil => rfl
  | cons s t ih => simp only [rcC, List.flatMap_cons, List.length_append, List.length_cons] at ih ⊢; rw [ih]; simp [RcD.cells]; omega
theorem rcC_snoc (l : List RcD) (d : RcD) : rcC (l ++ [d]) = rcC l ++ d.cells := by simp [rcC]
theorem rcC_get {s : RcD} {i : Nat} (hi : i < 4) : ∀ {l : List RcD} {k : Nat}, l[k]? = some s → (rcC l)[k * 4 + i]? = s.cells[i]?
  | [], k, h => by simp at h
  | t :: l, 0, h => by
    simp only [List.getElem?_cons_zero, Option.some.injEq] at h
    subst h
    simp only [rcC, List.flatMap_cons, Nat.zero_mul, Nat.zero_add]
    rw [List.getElem?_append_left (by simp [RcD.cells]; omega)]
  | t :: l, k + 1, h => by
    simp only [List.getElem?_cons_succ] at h
    have := rcC_get hi h
    simp only [rcC, List.flatMap_cons] at this ⊢
    rw [List.getElem?_append_right (by simp [RcD.cells]; omega), ← this]
    congr 1
    simp [RcD.cells]; omega
theorem rcC_at {s : RcD} {l : List RcD} {k : Nat} (h : l[k]? = some s) : (rcC l)[k * 4]? = some s.vv ∧ (rcC l)[k * 4 + 1]? = some (.int .i64 s.x.f) ∧ (rcC l)[k * 4 + 2]? = some (.int .i64 s.x.r) ∧ (rcC l)[k * 4 + 3]? = some (.int .i64 s.x.d) :=
  ⟨rcC_get (i := 0) (by omega) h, rcC_get (i := 1) (by omega) h, rcC_get (i := 2) (by omega) h, rcC_get (i := 3) (by omega) h⟩
/-- The slice value `.slice A L.length c` holds the reached states L. -/
def RdRc (w : World) (A : Option Addr) (L : List Rc) : Prop :=
  ∃ ds : List RcD, ds.map RcD.x = L ∧ Rd w A (rcC ds) ∧ ∀ d ∈ ds, Rd w d.a (ints d.x.v)
theorem RdRc.below {w w1 : World} {A : Option Addr} {L : List Rc} (h : RdRc w A L) (hb : Below w.heap.size w w1) : RdRc w1 A L := by
  obtain ⟨ds, e, h1, h2⟩ := h
  exact ⟨ds, e, h1.below hb, fun d hd => (h2 d hd).below hb⟩
theorem RdRc.at {w : World} {A : Option Addr} {L : List Rc} {k : Nat} {x : Rc} (h : RdRc w A L) (hk : L[k]? = some x) : ∃ b off a c, A = some ⟨b, off, none⟩ ∧ b < w.heap.size ∧ w.cell? ⟨b, off + k * 4, none⟩ = some (.slice a x.v.length c) ∧ w.cell? ⟨b, off + k * 4 + 1, none⟩ = some (.int .i64 x.f) ∧ w.cell? ⟨b, off + k * 4 + 2, none⟩ = some (.int .i64 x.r) ∧ w.cell? ⟨b, off + k * 4 + 3, none⟩ = some (.int .i64 x.d) ∧ Rd w a (ints x.v) := by
  obtain ⟨ds, rfl, h1, h2⟩ := h
  rw [List.getElem?_map, Option.map_eq_some_iff] at hk
  obtain ⟨d, hd, rfl⟩ := hk
  obtain ⟨u0, u1, u2, u3⟩ := rcC_at hd
  obtain ⟨b, off, rfl, hb, hc⟩ := h1.some_ (by intro e; rw [e] at u0; simp at u0)
  exact ⟨b, off, d.a, d.c, rfl, hb, hc _ _ u0, hc _ _ u1, hc _ _ u2, hc _ _ u3, h2 d (List.mem_of_getElem? hd)⟩
/-- The reached states are the call's own, each in a block below hi, no two in one; and so is the row of their records. -/
def OwnRc (w : World) (base hi : Nat) (v : Value) (L : List Rc) : Prop :=
  ∃ ds : List RcD, ds.map RcD.x = L ∧ w.ownsRow base 94 4 v L.length (rcC ds) ∧ (∀ d ∈ ds, w.ownsRow base 2 1 d.vv d.x.v.length (ints d.x.v) ∧ ∀ q, d.vv.ownBlock = some q → q < hi) ∧ ds.Pairwise fun a b => ∀ q, a.vv.ownBlock = some q → b.vv.ownBlock ≠ some q
theorem OwnRc.below {w w1 : World} {base hi : Nat} {v : Value} {L : List Rc} (h : OwnRc w base hi v L) (hb : Below w.heap.size w w1) : OwnRc w1 base hi v L := by
  obtain ⟨ds, e, h1, h2, h3⟩ := h
  exact ⟨ds, e, own_below h1 hb, fun d hd => ⟨own_below (h2 d hd).1 hb, (h2 d hd).2⟩, h3⟩
theorem OwnRc.grown {w w1 : World} {base hi : Nat} {v : Value} {L : List Rc} {row : Option Nat} (h : OwnRc w base hi v L) (hg : w.grownBy w1 row) (hr : ∀ q, row = some q → q < base) : OwnRc w1 base hi v L := by
  obtain ⟨ds, e, h1, h2, h3⟩ := h
  have key : ∀ {e : TypeId} {size n : Nat} {v : Value} {xs : List Value}, w.ownsRow base e size v n xs → w1.ownsRow base e size v n xs := fun ho => ho.kept hg (by
    rename_i v _
    rcases hv : v.ownBlock with _ | q
    · exact .inl rfl
    · exact .inr fun h' => by have := hr q h'.symm; have := (ho.lt q hv).1; omega)
  exact ⟨ds, e, key h1, fun d hd => ⟨key (h2 d hd).1, (h2 d hd).2⟩, h3⟩
theorem OwnRc.mono {w : World} {base base' hi hi' : Nat} {v : Value} {L : List Rc} (h : OwnRc w base hi v L) (hb : base' ≤ base) (hh : hi ≤ hi') : OwnRc w base' hi' v L := by
  obtain ⟨ds, e, h1, h2, h3⟩ := h
  exact ⟨ds, e, own_mono h1 hb, fun d hd => ⟨own_mono (h2 d hd).1 hb, fun q hq => Nat.lt_of_lt_of_le ((h2 d hd).2 q hq) hh⟩, h3⟩
theorem OwnRc.rd {w : World} {base hi n c : Nat} {A : Option Addr} {L : List Rc} (h : OwnRc w base hi (.slice A n c) L) (hn : n = L.length) : RdRc w A L := by
  obtain ⟨ds, e, h1, h2, _⟩ := h
  subst hn
  exact ⟨ds, e, Rd.own h1, fun d hd => Rd.own (h2 d hd).1⟩
theorem OwnRc.form1 {w : World} {base hi : Nat} {v : Value} {L : List Rc} (h : OwnRc w base hi v L) (hn : 0 < L.length) : ∃ g c, v = .slice (some ⟨g, 0, none⟩) L.length c := by
  obtain ⟨ds, _, h1, _⟩ := h
  rcases h1.2 with ⟨e, e2⟩ | ⟨g, cap, cur, e, _⟩
  · omega
  · exact ⟨g, cap, e⟩
theorem OwnRc.ge {w : World} {base hi : Nat} {v : Value} {L : List Rc} (h : OwnRc w base hi v L) : ∀ q, v.ownBlock = some q → base ≤ q ∧ q < w.heap.size := by
  obtain ⟨ds, _, h1, _⟩ := h
  exact fun q hq => h1.lt q hq
theorem ownRc_nil (w : World) (base hi : Nat) : OwnRc w base hi (.slice none 0 0) [] := ⟨[], rfl, World.ownsRow_nil _ _ _ _, by simp, List.Pairwise.nil⟩
theorem ownRc_one {w : World} {base hi g c n : Nat} {l : List Int} (h : w.ownsRow base 2 1 (.slice (some ⟨g, 0, none⟩) n c) n (ints l)) (hn : n = l.length) (hb : base ≤ w.heap.size) (hh : g < hi) (f r d : Int) (t : List Int) :
    OwnRc (w.alloc (.cells #[.slice (some ⟨g, 0, none⟩) n c, .int .i64 f, .int .i64 r, .int .i64 d] 94)) base hi (.slice (some ⟨w.heap.size, 0, none⟩) 1 1) [⟨l, f, r, d, t⟩] := by
  subst hn
  refine ⟨[⟨⟨l, f, r, d, t⟩, some ⟨g, 0, none⟩, c⟩], rfl, ?_, fun x hx => ?_, List.pairwise_singleton _ _⟩
  · exact World.ownsRow_lit (e := 94) (size := 4) (base := base) w #[.slice (some ⟨g, 0, none⟩) l.length c, .int .i64 f, .int .i64 r, .int .i64 d] 1 hb (by decide) (by simp)
  · simp only [List.mem_singleton] at hx
    subst hx
    exact ⟨own_below h (below_alloc (Below.refl _ _) _), fun q hq => by simp [RcD.vv, Value.ownBlock] at hq; omega⟩
theorem info_rc : (Tryz.prog.info? 94).map (fun i => (i.zero, i.size, i.bytes)) = some (some (.agg #[.slice none 0 0, .int .i64 0, .int .i64 0, .int .i64 0]), 4, 48) := by kernel_rfl
/-- append of one reached state to a list of the call's own. -/
theorem wpList_push_rc (w : World) {ops : Array Oper} {rest : List Oper} {o : Oper} {a : Act} {Q : Exit → Act → World → Prop} (hgd : o.guard = none) (s x : Operand)
    (ho : o.op = .call { callee := .builtin .append, args := #[s, x], argTypes := #[59, 59] })
    (base hi hi' : Nat) (v : Value) (L : List Rc) (d : RcD) (g c : Nat) (hs : a.eval s = v) (hown : OwnRc w base hi v L)
    (hx : a.eval x = .slice (some ⟨g, 0, none⟩) 1 c) (hc0 : w.cell? ⟨g, 0, none⟩ = some d.vv) (hc1 : w.cell? ⟨g, 1, none⟩ = some (.int .i64 d.x.f)) (hc2 : w.cell? ⟨g, 2, none⟩ = some (.int .i64 d.x.r)) (hc3 : w.cell? ⟨g, 3, none⟩ = some (.int .i64 d.x.d))
    (hd : w.ownsRow base 2 1 d.vv d.x.v.length (ints d.x.v)) (hfr : ∀ q, d.vv.ownBlock = some q → hi ≤ q ∧ q < hi') (hle : hi ≤ hi') (hn : L.length ≤ 1048577) (hbase : base ≤ w.heap.size)
    (h : ∀ v' w', OwnRc w' base hi' v' (L ++ [d.x]) → w.grownBy w' v.ownBlock → wpList Tryz.prog ops Q rest (a.put o.dst v') w') : wpList Tryz.prog ops Q (o :: rest) a w := by
  obtain ⟨i0, hi, hz0, hz1, hz2⟩ := info_parts info_rc
  obtain ⟨ds, rfl, h1, h2, h3⟩ := hown
  rw [List.length_map] at h1 hn
  refine wpList_push w hgd s x 59 ho base 94 i0 _ 4 48 Tryz.underlying59 hi hz0 hz1 hz2 rfl (by decide) v ds.length (rcC ds) hs h1 ⟨g, 0, none⟩ c d.cells hx rfl ?_ ?_ (by unfold maxLen; omega) (by omega) hbase ?_
  · intro j u hu
    rw [Addr.add_lit, Nat.zero_add]
    match j, hu with
    | 0, hu => simp only [RcD.cells, List.getElem?_cons_zero, Option.some.injEq] at hu; rw [← hu]; exact hc0
    | 1, hu => simp only [RcD.cells, List.getElem?_cons_succ, List.getElem?_cons_zero, Option.some.injEq] at hu; rw [← hu]; exact hc1
    | 2, hu => simp only [RcD.cells, List.getElem?_cons_succ, List.getElem?_cons_zero, Option.some.injEq] at hu; rw [← hu]; exact hc2
    | 3, hu => simp only [RcD.cells, List.getElem?_cons_succ, List.getElem?_cons_zero, Option.some.injEq] at hu; rw [← hu]; exact hc3
    | j + 4, hu => simp [RcD.cells] at hu
  · intro u hu
    simp only [RcD.cells, List.mem_cons, List.not_mem_nil, or_false] at hu
    rcases hu with rfl | rfl | rfl | rfl <;> rfl
  · intro v' w' hown1 hgrow _ _
    refine h v' w' ⟨ds ++ [d], by simp, ?_, fun d' hd' => ?_, ?_⟩ hgrow
    · rw [rcC_snoc]
      simpa using hown1
    · rcases List.mem_append.1 hd' with hd' | hd'
      · exact ⟨own_keep (h2 d' hd').1 h1 (by decide) hgrow, fun q hq => Nat.lt_of_lt_of_le ((h2 d' hd').2 q hq) hle⟩
      · simp only [List.mem_singleton] at hd'
        subst hd'
        exact ⟨own_keep hd h1 (by decide) hgrow, fun q hq => (hfr q hq).2⟩
    · rw [List.pairwise_append]
      refine ⟨h3, List.pairwise_singleton _ _, fun a' ha' b' hb' q hq hq2 => ?_⟩
      simp only [List.mem_singleton] at hb'
      subst hb'
      have := (h2 a' ha').2 q hq
      have := (hfr q hq2).1
      omega
theorem own_map {w w1 : World} {b n base size n1 : Nat} {S : List (List Int)} {e : TypeId} {v : Value} {xs : List Value} (h : w.ownsRow base e size v n1 xs) (hs : SetM w b n S) (hg : w.grownBy w1 (some b)) : w1.ownsRow base e size v n1 xs := by
  obtain ⟨_, D, ⟨es, clock, hb, _⟩, _⟩ := hs
  refine h.kept hg ?_
  rcases h.2 with ⟨e, _⟩ | ⟨g, cap, cur, e, _, hgg, _⟩
  · exact .inl (by rw [e]; rfl)
  · refine .inr fun h' => ?_
    rw [e] at h'
    simp only [Value.ownBlock, Option.some.injEq] at h'
    subst h'
    rw [hb] at hgg
    cases hgg
theorem OwnRc.map {w w1 : World} {b n base hi : Nat} {S : List (List Int)} {v : Value} {L : List Rc} (h : OwnRc w base hi v L) (hs : SetM w b n S) (hg : w.grownBy w1 (some b)) : OwnRc w1 base hi v L := by
  obtain ⟨ds, e, h1, h2, h3⟩ := h
  exact ⟨ds, e, own_map h1 hs hg, fun d hd => ⟨own_map (h2 d hd).1 hs hg, (h2 d hd).2⟩, h3⟩
theorem OwnRc.ne {w : World} {base hi base2 size n : Nat} {e : TypeId} {v v2 : Value} {L : List Rc} {xs : List Value} (h : OwnRc w base hi v L) (h2 : w.ownsRow base2 e size v2 n xs) (he : e ≠ 94) : ∀ q, v.ownBlock = some q → v2.ownBlock = some q → False := by
  obtain ⟨ds, _, h1, _⟩ := h
  exact fun q h3 h4 => own_ne h2 h1 he q h4 h3
theorem OwnRc.keep {w w' : World} {base hi base2 size n : Nat} {e : TypeId} {v v2 : Value} {L : List Rc} {xs : List Value} (h : OwnRc w base hi v L) (h2 : w.ownsRow base2 e size v2 n xs) (he : e ≠ 94) (hg : w.grownBy w' v.ownBlock) : w'.ownsRow base2 e size v2 n xs := by
  obtain ⟨ds, _, h1, _⟩ := h
  exact own_keep h2 h1 he hg
theorem SetM.keep {w w' : World} {b n base hi : Nat} {S : List (List Int)} {v : Value} {L : List Rc} (h : SetM w b n S) (ho : OwnRc w base hi v L) (hg : w.grownBy w' v.ownBlock) : SetM w' b n S := by
  refine h.grown hg fun e => ?_
  obtain ⟨_, D, ⟨es, clock, hb, _⟩, _⟩ := h
  obtain ⟨ds, _, h1, _⟩ := ho
  rcases h1.2 with ⟨e2, _⟩ | ⟨g, cap, cur, e2, _, hgg, _⟩
  · rw [e2] at e; cases e
  · rw [e2] at e
    simp only [Value.ownBlock, Option.some.injEq] at e
    subst e
    rw [hb] at hgg
    cases hgg
theorem SetM.cellNe {w : World} {b n : Nat} {S : List (List Int)} (h : SetM w b n S) {a : Addr} {v : Value} (hc : w.cell? a = some v) : b ≠ a.block := by
  obtain ⟨_, D, ⟨es, clock, hb, _⟩, _⟩ := h
  rintro rfl
  simp [World.cell?, hb] at hc
end Go.Proofs.YtdjehopcpjkgjaaGreat

/- explore (program): the walk. Condition: the model is one, the lengths are those that the laws let by. -/
namespace Go.Proofs.YtdjehopcpjkgjaaGreat
open Go.RowKit

/-- What explore hands back: the reached states, its own, and whether they are not too many. -/
def RetXp (n : Nat) (L : List Rc) (b : Bool) (w : World) (e : Ending) (w' : World) : Prop :=
  ∃ A cap, e = .returned (.tuple #[.slice A n cap, .bool b]) ∧ OwnRc w' w.heap.size w'.heap.size (.slice A n cap) L ∧ Below w.heap.size w w'
theorem hasV_false {acc : List Rc} {v : List Int} (h : ¬ v ∈ acc.map Rc.v) : hasV acc v = false := by
  rcases hh : hasV acc v with _ | _
  · rfl
  · exact absurd (hasV_iff.1 hh) h
theorem rs_200 {m : Mdl} (h : mdB m = true) : m.rs.length ≤ 200 := by
  unfold mdB at h
  simp only [Bool.and_eq_true, decide_eq_true_eq] at h
  exact h.2.2.2.1
set_option maxHeartbeats 4000000 in
set_option maxRecDepth 100000 in
theorem c_explore (m : Mdl) (az ax ar : Option Addr) (cz cs cr : Nat) (w : World) (hok : MOk m) (hmd : mdB m = true) (h : Md w az ax ar m) :
    Calls Tryz.prog 63 #[mv m az ax ar cz cs cr] w (RetXp (xpL m).length (xpL m) (xpO m) w) := by
  have hmm := @run_makeMap Tryz.prog
  have HM := Lib.hid h
  have hrl := hok.1.2.2.1
  have hr2 := rs_200 hmd
  have hst0 := st_of hmd
  have HVL := Lib.hid (fun (v : List Int) (hv : stB m.sz v = true) => show v.length = m.st.length by rw [st_len hv, st_len hst0])
  have HVP := vs_pos hmd hst0
  have H8 := Lib.hid (fun (v : List Int) (hv : stB m.sz v = true) => in8_of hv (md_szs hmd))
  have HENL := Lib.hid (fun (v : List Int) (hv : stB m.sz v = true) a c w' h hv' => show Calls Tryz.prog 40 #[mv m az ax ar cz cs cr, .slice a m.st.length c] w' (RetI2 (enL v m.rs).length (enL v m.rs) w') by
    have := c_enabled m az ax ar cz cs cr a c v w' hrl (by rw [HVL.out v hv]; exact hok.1.2.1) (gs_of hmd hv hok) h hv'
    rw [HVL.out v hv] at this
    exact this)
  have HKEY := Lib.hid (fun (v : List Int) (hv : stB m.sz v = true) a c w' h => c_stateKey a c m.st.length v w' (HVL.out v hv).symm hok.1.2.1 (H8.out v hv) h)
  have HAP := Lib.hid (fun (v : List Int) (hv : stB m.sz v = true) (r : Rul) (hr : r ∈ m.rs) nm ag ae gn cg ce b off c w' hv' he => c_apply nm ag ae gn cg r.es.length ce r.es b off c m.st.length v w' (HVL.out v hv).symm hok.1.2.1 rfl (hok.1.2.2.2 r hr).2 (by have := es_of hmd hv hr; rwa [HVL.out v hv] at this) hv' he)
  have HST := Lib.hid (fun k => sqM_st hmd k)
  have HSX := Lib.hid (fun k x hx j => exM_st hmd (k := k) (x := x) hx j)
  have HS0 := Lib.hid hst0
  have HAS := Lib.hid (fun (v : List Int) (hv : stB m.sz v = true) (r : Rul) (hr : r ∈ m.rs) => st_apR hmd hv hr)
  obtain ⟨bs, os, has, _, _⟩ := HM.out.s.some_ (by intro e; have h5 := ints_length m.st; rw [e] at h5; simp at h5; omega)
  subst has
  have HCLN := Lib.hid (fun w' h => c_Clone bs os cs m.st.length m.st w' rfl (by omega) h)
  have HENN := Lib.hid (fun v => show (enL v m.rs).length ≤ m.rs.length from enK_len v m.rs m.rs.length)
  have HEY := Lib.hid (fun v y (hy : y ∈ enL v m.rs) => en_rul hy)
  have HDN := Lib.hid (fun k h1 h2 => xp_done (m := m) (k := k) h1 h2)
  have HOV := Lib.hid (fun k j x h1 h2 h3 => xp_over (m := m) (k := k) (j := j) (x := x) h1 h2 h3)
  have HST1 := Lib.hid (rfl : m.st = m.st)
  generalize xpL m = XL at *
  generalize xpO m = XO at *
  clear h hok hmd hst0
  dsimp only [mv] at *
  generalize m.sz.length = sn at *
  generalize hstn : m.st.length = tn at *
  have HSTN := Lib.hid hstn
  clear hstn
  generalize hrn : m.rs.length = rn at *
  have HRN := Lib.hid hrn
  clear hrn
  have HR := Lib.hid HM.out.r
  have HX := Lib.hid HM.out.s
  go_enter Tryz.func63, Tryz.ntmps63
  go_wp2_with (fail)
  refine (HCLN.out _ (HX.out.alloc _)).mono ?_
  rintro e w1 ⟨g, c', rfl, ho, hb⟩
  have k0 : w1.cell? ⟨w.heap.size, 0, none⟩ = some (.slice az sn cz) := cell_later hb (by go_simp)
  have k1 : w1.cell? ⟨w.heap.size, 1, none⟩ = some (.slice (some ⟨bs, os, none⟩) tn cs) := cell_later hb (by go_simp)
  have k2 : w1.cell? ⟨w.heap.size, 2, none⟩ = some (.slice ar rn cr) := cell_later hb (by go_simp)
  have hsz1 := World.block_lt_of_cell? _ _ k2
  dsimp only at hsz1
  have HB1 := Lib.hid (below_chain (by (repeat (first | exact Below.refl _ _ | assumption | refine below_alloc ?_ _ | refine below_drewN ?_ _ | refine below_set ?_ _ (by simp; try omega) | refine Below.drew ?_)) : Below w.heap.size w _) hb)
  have HOW := Lib.hid (ownRc_one (hi := w1.heap.size) (own_mono ho (show w.heap.size + 1 ≤ _ by simp)) HSTN.out.symm (by omega) (ho.lt g rfl).2 (-1) 0 0 [])
  clear ho hb
  go_wp2_with (fail)
  refine (HKEY.out m.st HS0.out _ _ _ (by exact (HX.out.below HB1.out |>.alloc _ |>.alloc _))).mono ?_
  rintro e w2 ⟨rfl, hb⟩
  have hs2 := hb.size
  simp only [World.size_alloc] at hs2
  have HSM := Lib.hid ((SetM.made (w1.alloc (.cells #[.slice (some ⟨g, 0, none⟩) tn c', .int .i64 (-1), .int .i64 0, .int .i64 0] 94))).below hb)
  simp only [World.size_alloc] at HSM
  have HO2 := Lib.hid (HOW.out.below (below_chain (below_alloc (Below.refl _ _) _) hb))
  have HB2 := Lib.hid (below_chain (below_alloc (below_alloc HB1.out _) _) hb)
  replace k0 := cell_later hb (cell_later (below_alloc (below_alloc (Below.refl _ _) _) _) k0)
  replace k1 := cell_later hb (cell_later (below_alloc (below_alloc (Below.refl _ _) _) _) k1)
  replace k2 := cell_later hb (cell_later (below_alloc (below_alloc (Below.refl _ _) _) _) k2)
  clear hb HOW HB1
  go_wp2_with (first
    | (refine wpList_insert_set _ rfl (.tmp 16) (.tmp 19) (.const (.bool true)) rfl (w1.heap.size + 1) 0 [] rfl HSM.out m.st rfl rfl (H8.out _ HS0.out) (by have := HSTN.out; omega) (by omega) ?_
       intro w3 hsm hg
       have HSM3 := Lib.hid hsm
       have HO3 := Lib.hid ((HO2.out.map HSM.out hg).mono (Nat.le_refl _) (show w1.heap.size ≤ w3.heap.size from by have := hg.size; omega))
       have hs3 := hg.size
       have HB3 := Lib.hid (below_of_grown HB2.out hg (by intro q hq; simp at hq; omega))
       replace k0 := hg.cell k0 (fun h => HSM.out.cellNe k0 (by simpa using h.symm))
       replace k1 := hg.cell k1 (fun h => HSM.out.cellNe k1 (by simpa using h.symm))
       replace k2 := hg.cell k2 (fun h => HSM.out.cellNe k2 (by simpa using h.symm))
       clear hsm hg))
  have HSZ := Lib.hid (show sqM m 0 = [⟨m.st, -1, 0, 0, []⟩] from rfl)
  obtain ⟨mb, hmb⟩ : ∃ mb, mb = w1.heap.size + 1 := ⟨_, rfl⟩
  rw [← hmb] at HSM3 ⊢
  have hmb1 : w.heap.size + 1 < mb := by omega
  clear hmb HSM HO2 HB2
  go_loopw [4, 6] (fun v i wr => ∃ k : Nat, i = .int .i64 k ∧ k ≤ (sqM m k).length ∧ (sqM m k).length ≤ 4000 ∧ Hid (OwnRc wr (w.heap.size + 1) wr.heap.size v (sqM m k)) ∧ Hid (SetM wr mb (sqM m k).length ((sqM m k).map Rc.v)) ∧ wr.cell? ⟨w.heap.size, 0, none⟩ = some (.slice az sn cz) ∧ wr.cell? ⟨w.heap.size, 1, none⟩ = some (.slice (some ⟨bs, os, none⟩) tn cs) ∧ wr.cell? ⟨w.heap.size, 2, none⟩ = some (.slice ar rn cr) ∧ Below w.heap.size w wr) (fun _ i _ => 4001 - (intOf i).toNat)
  case atStart => exact ⟨0, rfl, Nat.zero_le _, by rw [HSZ.out]; simp, Lib.hid (by rw [HSZ.out]; exact HO3.out), Lib.hid (by rw [HSZ.out]; exact HSM3.out), k0, k1, k2, HB3.out⟩
  case round =>
    clear HO3 HSM3 HB3 k0 k1 k2 hs2 hs3 HSZ
    obtain ⟨k, rfl, hk, hln, ho, hsm, k0, k1, k2, hb⟩ := hrel
    obtain ⟨lg, lc, rfl⟩ := ho.out.form1 (sq_pos k)
    obtain ⟨wo, rfl⟩ : ∃ wo, wo = wr := ⟨_, rfl⟩
    by_cases hlt : k < (sqM m k).length
    · obtain ⟨x, hx⟩ : ∃ x, (sqM m k)[k]? = some x := ⟨_, List.getElem?_eq_getElem hlt⟩
      have hmx := List.mem_of_getElem? hx
      have hxs := HST.out k x hmx
      have hdi := (inv_sq k).di k x hx
      have HX1 := Lib.hid hx
      have HXS := Lib.hid hxs
      have HMX := Lib.hid hmx
      obtain ⟨b, off, xa, xc, hlg, _, s0, s1, s2, s3, hxv⟩ := (ho.out.rd rfl).at hx
      simp only [Option.some.injEq, Addr.mk.injEq, and_true] at hlg
      obtain ⟨rfl, rfl⟩ := hlg
      rw [HVL.out _ hxs, Nat.zero_add] at s0
      have HXV := Lib.hid hxv
      have HBE := Lib.hid hb
      have hblk := (ho.out.ge lg rfl)
      clear hx hmx hxs hb hxv s1 s2 s3
      have HLN := Lib.hid (rfl : (sqM m k).length = (sqM m k).length)
      generalize hlnn : (sqM m k).length = ln at *
      replace HLN := Lib.hid hlnn
      clear hlnn
      have HRL := Lib.hid (HENN.out x.v)
      have HEN := Lib.hid (fun a c w' h hv => HENL.out x.v HXS.out a c w' h hv)
      obtain ⟨R, hR⟩ : ∃ R, R = enL x.v m.rs := ⟨_, rfl⟩
      rw [← hR] at HRL HEN
      have HRE := Lib.hid hR
      clear hR
      generalize hrll : R.length = rl at *
      have HRLN := Lib.hid hrll
      clear hrll
      have hrl2 : rl ≤ rn := HRL.out
      go_wp2
      refine wp_region_held_drew (S := (fun w' => w'.cell? ⟨lg, k * 4, none⟩ = some (.slice xa tn xc) ∧ w'.cell? ⟨w.heap.size, 0, none⟩ = some (.slice az sn cz) ∧ w'.cell? ⟨w.heap.size, 1, none⟩ = some (.slice (some ⟨bs, os, none⟩) tn cs) ∧ w'.cell? ⟨w.heap.size, 2, none⟩ = some (.slice ar rn cr))) (by kernel_rfl) ?_ (fun hHeld => ?_)
      · exact ⟨s0, k0, k1, k2⟩
      refine rg_take (v := ?_) 0 rfl (by kernel_rfl) (by kernel_rfl) (by kernel_rfl) (fun _ _ _ h => h) (by kernel_rfl) ?_ (by assumption) ?_
      rotate_left
      · (intro w' hSw; (try dsimp only at hSw); go_simp; first | done | with_reducible rfl)
      simp only [Act.put, List.setIfInBounds_toArray, List.set_cons_zero, List.set_cons_succ]
      refine rg_take (v := ?_) 1 rfl (by kernel_rfl) (by kernel_rfl) (by kernel_rfl) (fun _ _ _ h => h) (by kernel_rfl) ?_ (by assumption) ?_
      rotate_left
      · (intro w' hSw; (try dsimp only at hSw); go_simp; first | done | with_reducible rfl)
      simp only [Act.put, List.setIfInBounds_toArray, List.set_cons_zero, List.set_cons_succ]
      refine rg_take (v := ?_) 2 rfl (by kernel_rfl) (by kernel_rfl) (by kernel_rfl) (fun _ _ _ h => h) (by kernel_rfl) ?_ (by assumption) ?_
      rotate_left
      · (intro w' hSw; (try dsimp only at hSw); go_simp; first | done | with_reducible rfl)
      simp only [Act.put, List.setIfInBounds_toArray, List.set_cons_zero, List.set_cons_succ]
      refine rg_take (v := ?_) 3 rfl (by kernel_rfl) (by kernel_rfl) (by kernel_rfl) (fun _ _ _ h => h) (by kernel_rfl) ?_ (by assumption) ?_
      rotate_left
      · (intro w' hSw; (try dsimp only at hSw); go_simp; first | done | with_reducible rfl)
      simp only [Act.put, List.setIfInBounds_toArray, List.set_cons_zero, List.set_cons_succ]
      refine rg_take (v := ?_) 4 rfl (by kernel_rfl) (by kernel_rfl) (by kernel_rfl) (fun _ _ _ h => h) (by kernel_rfl) ?_ (by assumption) ?_
      rotate_left
      · (intro w' hSw; (try dsimp only at hSw); go_simp; first | done | with_reducible rfl)
      simp only [Act.put, List.setIfInBounds_toArray, List.set_cons_zero, List.set_cons_succ]
      refine rg_take (v := ?_) 5 rfl (by kernel_rfl) (by kernel_rfl) (by kernel_rfl) (fun _ _ _ h => h) (by kernel_rfl) ?_ (by assumption) ?_
      rotate_left
      · (intro w' hSw; (try dsimp only at hSw); go_simp; first | done | with_reducible rfl)
      simp only [Act.put, List.setIfInBounds_toArray, List.set_cons_zero, List.set_cons_succ]
      refine rg_take (v := ?_) 8 rfl (by kernel_rfl) (by kernel_rfl) (by kernel_rfl) (fun _ _ _ h => h) (by kernel_rfl) ?_ (by assumption) ?_
      rotate_left
      · (intro w' hSw; (try dsimp only at hSw); go_simp; first | done | with_reducible rfl)
      simp only [Act.put, List.setIfInBounds_toArray, List.set_cons_zero, List.set_cons_succ]
      refine rg_run 6 rfl (by kernel_rfl) (by kernel_rfl) (fun K hK => ?_)
      go_simp
      refine (HEN.out _ _ _ (by exact HM.out.below HBE.out.drew) (by exact HXV.out.drew)).mono ?_
      rintro e w4 ⟨Ar, rc, rfl, hor, hb⟩
      have HB4 := Lib.hid (below_chain (by exact HBE.out.drew) hb)
      have HST4 := Lib.hid (show Below wo.heap.size wo w4 from below_chain (by exact (Below.refl _ _).drew) hb)
      have HOR := Lib.hid hor
      replace s0 := cell_later hb (by exact s0)
      replace k0 := cell_later hb (by exact k0)
      replace k1 := cell_later hb (by exact k1)
      replace k2 := cell_later hb (by exact k2)
      clear hb hor
      go_wp2
      clear hHeld
      refine hK.out _ _ ⟨s0, k0, k1, k2⟩ (fun hHeld => ?_)
      clear hK K
      try simp only [Act.put, List.setIfInBounds_toArray, List.set_cons_zero, List.set_cons_succ]
      refine rg_take (v := ?_) 7 rfl (by kernel_rfl) (by kernel_rfl) (by kernel_rfl) (fun _ _ _ h => h) (by kernel_rfl) ?_ (by assumption) ?_
      rotate_left
      · (intro w' hSw; (try dsimp only at hSw); go_simp; first | done | with_reducible rfl)
      simp only [Act.put, List.setIfInBounds_toArray, List.set_cons_zero, List.set_cons_succ]
      refine wpAnyH_done (by kernel_rfl) ?_ _
      clear hHeld
      have HO4 := Lib.hid (ho.out.below HST4.out)
      have HSM4 := Lib.hid (hsm.out.below HST4.out)
      have hs4 := HST4.out.size
      have hor1 : Hid (∀ q, (Value.slice Ar rl rc).ownBlock = some q → wo.heap.size ≤ q ∧ q < w4.heap.size) := Lib.hid (HOR.out.lt)
      have HXV4 := Lib.hid (HXV.out.below HST4.out)
      clear ho hsm HST4 HXV HBE
      go_wp2
      have HZ0 := Lib.hid (exM_zero m k x)
      go_loopw [4, 35] (fun v j wi => ∃ q : Nat, q ≤ rl ∧ j = .int .i64 q ∧ Hid (OwnRc wi (w.heap.size + 1) wi.heap.size v (exM m k x q)) ∧ Hid (SetM wi mb (exM m k x q).length ((exM m k x q).map Rc.v)) ∧ Hid (wi.ownsRow wo.heap.size 2 1 (.slice Ar rl rc) rl (ints R)) ∧ wi.cell? ⟨w.heap.size, 0, none⟩ = some (.slice az sn cz) ∧ wi.cell? ⟨w.heap.size, 1, none⟩ = some (.slice (some ⟨bs, os, none⟩) tn cs) ∧ wi.cell? ⟨w.heap.size, 2, none⟩ = some (.slice ar rn cr) ∧ Below w.heap.size w wi) (fun _ j _ => rl - (intOf j).toNat)
      case atStart => exact ⟨0, Nat.zero_le _, rfl, Lib.hid (by rw [HZ0.out, ← HLN.out]; exact (HLN.out ▸ HO4.out).mono (Nat.le_refl _) hs4), Lib.hid (by rw [HZ0.out]; exact HLN.out ▸ HSM4.out), HOR, k0, k1, k2, HB4.out⟩
      case round =>
        clear HO4 HSM4 HOR HB4 k0 k1 k2 s0 HXV4
        obtain ⟨q, hq, rfl, ho, hsm, hor, k0, k1, k2, hb⟩ := hrel
        obtain ⟨wi, rfl⟩ : ∃ wi, wi = wr := ⟨_, rfl⟩
        have hxq := exM_len m k x q
        rw [HLN.out] at hxq
        obtain ⟨lg2, lc2, rfl⟩ := ho.out.form1 (by have := (List.getElem?_eq_some_iff.1 (exM_at (j := q) HX1.out)).1; omega)
        by_cases hltq : q < rl
        · obtain ⟨y, hy⟩ : ∃ y, R[q]? = some y := ⟨_, List.getElem?_eq_getElem (by have := HRLN.out; omega)⟩
          obtain ⟨hy0, hy1, hy2, hy3, hy4⟩ := HEY.out x.v y (by rw [← HRE.out]; exact List.mem_of_getElem? hy)
          obtain ⟨kk, rfl⟩ : ∃ kk : Nat, y = kk := ⟨y.toNat, by omega⟩
          rw [Int.toNat_natCast] at hy3
          have hkk : kk < rn := by omega
          have HEXS := Lib.hid (exM_succ (m := m) (k := k) (j := q) (x := x) (y := (kk : Int)) (by rw [← HRE.out]; exact hy))
          obtain ⟨r, hr⟩ : ∃ r, r = arR m (kk : Int) := ⟨_, rfl⟩
          rw [← hr] at hy2 hy3 hy4 HEXS
          have HMR := Lib.hid hy2
          obtain ⟨rb, ro, ag, cg, ae, ce, har, hrb, g0, g1, g2, hg, he⟩ := (HR.out.below hb).at hy3
          obtain ⟨tb, to, htb, htbl, t0⟩ := (Rd.own hor.out).int hy
          obtain ⟨b, off, xa2, xc2, hlg, _, s0, s1, s2, s3, hxv⟩ := (ho.out.rd rfl).at (exM_at (j := q) HX1.out)
          simp only [Option.some.injEq, Addr.mk.injEq, and_true] at hlg
          obtain ⟨rfl, rfl⟩ := hlg
          rw [HVL.out _ HXS.out, Nat.zero_add] at s0
          rw [Nat.zero_add] at s3
          obtain ⟨xb, xo, rfl, _, _⟩ := hxv.some_ (by intro e; have h5 := ints_length x.v; rw [e, HVL.out _ HXS.out] at h5; simp at h5; omega)
          subst har
          subst htb
          have HGG := Lib.hid hg
          have HEE := Lib.hid he
          have HXV := Lib.hid hxv
          have HBI := Lib.hid hb
          have HAPL := Lib.hid (fun nm gn b off c w' hv he => HAP.out x.v HXS.out r HMR.out nm ag ae gn cg ce b off c w' hv he)
          have HNS := Lib.hid (HAS.out x.v HXS.out r HMR.out)
          have HLQ := Lib.hid (rfl : (exM m k x q).length = (exM m k x q).length)
          have hoge := ho.out.ge lg2 rfl
          generalize hlqq : (exM m k x q).length = lq at *
          replace HLQ := Lib.hid hlqq
          clear hlqq hy hy2 hy3 hy4 hr hg he hxv hb s1 s2
          have hk0 : (0 : Int) ≤ (k : Int) := by omega
          have hk1 : (k : Int) < (lq : Int) := by have := (List.getElem?_eq_some_iff.1 (exM_at (j := q) HX1.out)).1; rw [HLQ.out] at this; omega
          have hq0 : (0 : Int) ≤ (q : Int) := by omega
          have hq1 : (q : Int) < (rl : Int) := by omega
          have hkk0 : (0 : Int) ≤ (kk : Int) := by omega
          have hkk1 : (kk : Int) < (rn : Int) := by omega
          generalize r.gs.length = gn at *
          generalize r.es.length = en at *
          go_wp2
          refine wp_region_held_drew (S := (fun w' => w'.cell? ⟨lg2, k * 4, none⟩ = some (.slice (some ⟨xb, xo, none⟩) tn xc2) ∧ w'.cell? ⟨w.heap.size, 2, none⟩ = some (.slice (some ⟨rb, ro, none⟩) rn cr) ∧ w'.cell? ⟨rb, ro + kk * 3, none⟩ = some (.string r.nm) ∧ w'.cell? ⟨rb, ro + kk * 3 + 1, none⟩ = some (.slice ag gn cg) ∧ w'.cell? ⟨rb, ro + kk * 3 + 2, none⟩ = some (.slice ae en ce))) (by kernel_rfl) ?_ (fun hHeld => ?_)
          · exact ⟨s0, k2, g0, g1, g2⟩
          refine rg_take (v := ?_) 0 rfl (by kernel_rfl) (by kernel_rfl) (by kernel_rfl) (fun _ _ _ h => h) (by kernel_rfl) ?_ (by assumption) ?_
          rotate_left
          · (intro w' hSw; (try dsimp only at hSw); go_simp; first | done | with_reducible rfl)
          simp only [Act.put, List.setIfInBounds_toArray, List.set_cons_zero, List.set_cons_succ]
          refine rg_take (v := ?_) 1 rfl (by kernel_rfl) (by kernel_rfl) (by kernel_rfl) (fun _ _ _ h => h) (by kernel_rfl) ?_ (by assumption) ?_
          rotate_left
          · (intro w' hSw; (try dsimp only at hSw); go_simp; first | done | with_reducible rfl)
          simp only [Act.put, List.setIfInBounds_toArray, List.set_cons_zero, List.set_cons_succ]
          refine rg_take (v := ?_) 2 rfl (by kernel_rfl) (by kernel_rfl) (by kernel_rfl) (fun _ _ _ h => h) (by kernel_rfl) ?_ (by assumption) ?_
          rotate_left
          · (intro w' hSw; (try dsimp only at hSw); go_simp; first | done | with_reducible rfl)
          simp only [Act.put, List.setIfInBounds_toArray, List.set_cons_zero, List.set_cons_succ]
          refine rg_take (v := ?_) 3 rfl (by kernel_rfl) (by kernel_rfl) (by kernel_rfl) (fun _ _ _ h => h) (by kernel_rfl) ?_ (by assumption) ?_
          rotate_left
          · (intro w' hSw; (try dsimp only at hSw); go_simp; first | done | with_reducible rfl)
          simp only [Act.put, List.setIfInBounds_toArray, List.set_cons_zero, List.set_cons_succ]
          refine rg_take (v := ?_) 4 rfl (by kernel_rfl) (by kernel_rfl) (by kernel_rfl) (fun _ _ _ h => h) (by kernel_rfl) ?_ (by assumption) ?_
          rotate_left
          · (intro w' hSw; (try dsimp only at hSw); go_simp; first | done | with_reducible rfl)
          simp only [Act.put, List.setIfInBounds_toArray, List.set_cons_zero, List.set_cons_succ]
          refine rg_take (v := ?_) 5 rfl (by kernel_rfl) (by kernel_rfl) (by kernel_rfl) (fun _ _ _ h => h) (by kernel_rfl) ?_ (by assumption) ?_
          rotate_left
          · (intro w' hSw; (try dsimp only at hSw); go_simp; first | done | with_reducible rfl)
          simp only [Act.put, List.setIfInBounds_toArray, List.set_cons_zero, List.set_cons_succ]
          refine rg_take (v := ?_) 6 rfl (by kernel_rfl) (by kernel_rfl) (by kernel_rfl) (fun _ _ _ h => h) (by kernel_rfl) ?_ (by assumption) ?_
          rotate_left
          · (intro w' hSw; (try dsimp only at hSw); go_simp; first | done | with_reducible rfl)
          simp only [Act.put, List.setIfInBounds_toArray, List.set_cons_zero, List.set_cons_succ]
          refine rg_take (v := ?_) 7 rfl (by kernel_rfl) (by kernel_rfl) (by kernel_rfl) (fun _ _ _ h => h) (by kernel_rfl) ?_ (by assumption) ?_
          rotate_left
          · (intro w' hSw; (try dsimp only at hSw); go_simp; first | done | with_reducible rfl)
          simp only [Act.put, List.setIfInBounds_toArray, List.set_cons_zero, List.set_cons_succ]
          refine rg_take (v := ?_) 8 rfl (by kernel_rfl) (by kernel_rfl) (by kernel_rfl) (fun _ _ _ h => h) (by kernel_rfl) ?_ (by assumption) ?_
          rotate_left
          · (intro w' hSw; (try dsimp only at hSw); go_simp; first | done | with_reducible rfl)
          simp only [Act.put, List.setIfInBounds_toArray, List.set_cons_zero, List.set_cons_succ]
          refine rg_take (v := ?_) 9 rfl (by kernel_rfl) (by kernel_rfl) (by kernel_rfl) (fun _ _ _ h => h) (by kernel_rfl) ?_ (by assumption) ?_
          rotate_left
          · (intro w' hSw; (try dsimp only at hSw); go_simp; first | done | with_reducible rfl)
          simp only [Act.put, List.setIfInBounds_toArray, List.set_cons_zero, List.set_cons_succ]
          refine rg_run 10 rfl (by kernel_rfl) (by kernel_rfl) (fun K hK => ?_)
          go_simp
          refine (HAPL.out _ _ _ _ _ _ (by exact HXV.out.drew) (by exact HEE.out.drew)).mono ?_
          rintro e w5 ⟨g3, c3, rfl, hog, hb⟩
          have HB5 := Lib.hid (below_chain (by exact HBI.out.drew) hb)
          have HST5 := Lib.hid (show Below wi.heap.size wi w5 from below_chain (by exact (Below.refl _ _).drew) hb)
          have hg3 : wi.heap.size ≤ g3 ∧ g3 < w5.heap.size := hog.lt g3 rfl
          have HOG := Lib.hid hog
          replace s0 := cell_later hb (by exact s0)
          replace s3 := cell_later hb (by exact s3)
          replace k0 := cell_later hb (by exact k0)
          replace k1 := cell_later hb (by exact k1)
          replace k2 := cell_later hb (by exact k2)
          replace g0 := cell_later hb (by exact g0)
          replace g1 := cell_later hb (by exact g1)
          replace g2 := cell_later hb (by exact g2)
          clear hb hog
          go_wp2
          clear hHeld
          refine hK.out _ _ ⟨s0, k2, g0, g1, g2⟩ (fun hHeld => ?_)
          clear hK K
          try simp only [Act.put, List.setIfInBounds_toArray, List.set_cons_zero, List.set_cons_succ]
          refine rg_take (v := ?_) 11 rfl (by kernel_rfl) (by kernel_rfl) (by kernel_rfl) (fun _ _ _ h => h) (by kernel_rfl) ?_ (by assumption) ?_
          rotate_left
          · (intro w' hSw; (try dsimp only at hSw); go_simp; first | done | with_reducible rfl)
          simp only [Act.put, List.setIfInBounds_toArray, List.set_cons_zero, List.set_cons_succ]
          refine wpAnyH_done (by kernel_rfl) ?_ _
          clear hHeld
          go_wp2_with (fail)
          refine (HKEY.out (apL x.v r.es) HNS.out _ _ _ (Rd.own HOG.out)).mono ?_
          rintro e w6 ⟨rfl, hb⟩
          have HB6 := Lib.hid (below_chain HB5.out hb)
          have HST6 := Lib.hid (below_chain HST5.out hb)
          have HOG6 := Lib.hid (own_below HOG.out hb)
          replace s3 := cell_later hb s3
          replace k0 := cell_later hb k0
          replace k1 := cell_later hb k1
          replace k2 := cell_later hb k2
          have hs6 := hb.size
          have hs5 := HST5.out.size
          clear hb HB5 HOG s0 g0 g1 g2
          have HO6 := Lib.hid (ho.out.below HST6.out)
          have HSM6 := Lib.hid (hsm.out.below HST6.out)
          have HOR6 := Lib.hid (own_below hor.out HST6.out)
          clear ho hsm hor HST5 HST6
          have HL8 := Lib.hid (H8.out _ HNS.out)
          have HLL := Lib.hid (HVL.out _ HNS.out)
          by_cases hmem : apL x.v r.es ∈ (exM m k x q).map Rc.v
          · have hdec : decide (apL x.v r.es ∈ (exM m k x q).map Rc.v) = true := decide_eq_true hmem
            have HE := Lib.hid (show exM m k x (q + 1) = exM m k x q by rw [HEXS.out]; unfold addR; rw [if_pos (hasV_iff.2 hmem)])
            have HDEC := Lib.hid hdec
            clear hdec hmem
            go_wp2_with (first
              | (at_lookup
                 refine wpList_look_set _ rfl (.tmp 52) (.tmp 53) rfl mb lq ((exM m k x q).map Rc.v) rfl HSM6.out (apL x.v r.es) rfl HL8.out (by have := HLL.out; omega) ?_
                 rw [HDEC.out]))
            go_roundw
            case rel => exact ⟨q + 1, by omega, by go_num, Lib.hid (by rw [HE.out]; exact HO6.out.mono (Nat.le_refl _) (by omega)), Lib.hid (by rw [HE.out, HLQ.out]; exact HSM6.out), HOR6, k0, k1, k2, HB6.out⟩
            case measure => simp [intOf]; omega
          · have HE := Lib.hid (show exM m k x (q + 1) = exM m k x q ++ [⟨apL x.v r.es, k, kk, x.d + 1, x.t ++ [(kk : Int)]⟩] by rw [HEXS.out]; unfold addR; rw [hasV_false hmem]; rfl)
            have HDEC := Lib.hid (show decide (apL x.v r.es ∈ (exM m k x q).map Rc.v) = false from decide_eq_false hmem)
            clear hmem
            have hxd0 := hdi.1
            have hxd1 : x.d ≤ 4000 := by omega
            go_wp2_with (first
              | (at_lookup
                 refine wpList_look_set _ rfl (.tmp 52) (.tmp 53) rfl mb lq ((exM m k x q).map Rc.v) rfl HSM6.out (apL x.v r.es) rfl HL8.out (by have := HLL.out; omega) ?_
                 rw [HDEC.out])
              | (at_mapUpdate
                 refine wpList_put_set _ rfl (.tmp 56) (.tmp 57) (.const (.bool true)) rfl mb lq ((exM m k x q).map Rc.v) rfl HSM6.out (apL x.v r.es) rfl rfl HL8.out (by have := HLL.out; omega) (by omega) ?_
                 intro w7 hsm hg
                 have HSM7 := Lib.hid hsm
                 have HO7 := Lib.hid (HO6.out.map HSM6.out hg)
                 have HOR7 := Lib.hid (own_map HOR6.out HSM6.out hg)
                 have HOG7 := Lib.hid (own_map HOG6.out HSM6.out hg)
                 have hs7 := hg.size
                 have HB7 := Lib.hid (below_of_grown HB6.out hg (by intro q hq; simp at hq; omega))
                 replace s3 := hg.cell s3 (fun h => HSM6.out.cellNe s3 (by simpa using h.symm))
                 replace k0 := hg.cell k0 (fun h => HSM6.out.cellNe k0 (by simpa using h.symm))
                 replace k1 := hg.cell k1 (fun h => HSM6.out.cellNe k1 (by simpa using h.symm))
                 replace k2 := hg.cell k2 (fun h => HSM6.out.cellNe k2 (by simpa using h.symm))
                 have HAA := Lib.hid (below_alloc (Below.refl w7.heap.size w7) (Obj.cells #[Value.slice (some ⟨g3, 0, none⟩) tn c3, .int .i64 k, .int .i64 kk, .int .i64 (x.d + 1)] 94))
                 clear hsm hg)
              | (at_builtin
                 refine wpList_push_rc _ rfl (.tmp 58) (.tmp 69) rfl (w.heap.size + 1) wi.heap.size w7.heap.size (.slice (some ⟨lg2, 0, none⟩) lq lc2) (exM m k x q) ⟨⟨apL x.v r.es, k, kk, x.d + 1, x.t ++ [(kk : Int)]⟩, some ⟨g3, 0, none⟩, c3⟩ w7.heap.size 1 rfl (HO7.out.below HAA.out) rfl (by dsimp only [RcD.vv]; rw [HLL.out]; go_simp) (by dsimp only; go_simp) (by dsimp only; go_simp) (by dsimp only; go_simp) (by dsimp only [RcD.vv]; rw [HLL.out]; exact own_mono (own_below HOG7.out HAA.out) (show w.heap.size + 1 ≤ wi.drew.heap.size by show w.heap.size + 1 ≤ wi.heap.size; omega)) (fun q hq => by simp [RcD.vv, Value.ownBlock] at hq; omega) (by omega) (by rw [HLQ.out]; omega) (by simp; omega) ?_
                 intro v1 w8 hown1 hgrow
                 have HW1 := Lib.hid hown1
                 have hs8 : w7.heap.size ≤ w8.heap.size := Nat.le_trans (by simp) hgrow.size
                 have HB8 := Lib.hid (below_of_grown (below_chain HB7.out HAA.out) hgrow (fun q hq => by simp [Value.ownBlock] at hq; omega))
                 have HSM8 := Lib.hid ((HSM7.out.below HAA.out).keep (HO7.out.below HAA.out) hgrow)
                 have HOR8 := Lib.hid ((HO7.out.below HAA.out).keep (own_below HOR7.out HAA.out) (by decide) hgrow)
                 replace k0 := hgrow.cell (cell_later HAA.out k0) (by simp [Value.ownBlock]; omega)
                 replace k1 := hgrow.cell (cell_later HAA.out k1) (by simp [Value.ownBlock]; omega)
                 replace k2 := hgrow.cell (cell_later HAA.out k2) (by simp [Value.ownBlock]; omega)
                 clear hown1 hgrow))
            go_roundw
            case rel => exact ⟨q + 1, by omega, by go_num, Lib.hid (by rw [HE.out]; exact HW1.out.mono (Nat.le_refl _) hs8), Lib.hid (by rw [HE.out, List.length_append, List.map_append, HLQ.out]; exact HSM8.out), HOR8, k0, k1, k2, HB8.out⟩
            case measure => simp [intOf]; omega
        · obtain rfl : q = rl := by omega
          have HALL := Lib.hid (exM_all (j := q) HX1.out (by rw [← HRE.out, HRLN.out]; exact Nat.le_refl _))
          rcases Nat.lt_or_ge 4000 (exM m k x q).length with h4 | h4
          · obtain ⟨e1, e2⟩ := HOV.out k q x (by omega) HX1.out h4
            subst e1 e2
            have HBB := Lib.hid hb
            generalize (exM m k x q).length = lq at *
            have h4i : (4000 : Int) < (lq : Int) := by omega
            clear ho hsm hor hb
            go_wp2
            go_ret2
            exact ⟨none, 0, rfl, ownRc_nil _ _ _, HBB.out⟩
          · have h5 := HALL.out
            have hkl : k + 1 ≤ (sqM m (k + 1)).length := by rw [← h5]; have := (List.getElem?_eq_some_iff.1 (exM_at (j := q) HX1.out)).1; omega
            have h4' : (sqM m (k + 1)).length ≤ 4000 := by rw [← h5]; exact h4
            have HO := Lib.hid ho.out
            have HS := Lib.hid hsm.out
            rw [h5] at HO HS
            have HBB := Lib.hid hb
            have HQ := Lib.hid (show (exM m k x q).length = (sqM m (k + 1)).length by rw [h5])
            generalize hlqq : (exM m k x q).length = lq at *
            have h4i : ¬ (4000 : Int) < (lq : Int) := by omega
            clear ho hsm hor hb h5 hlqq
            go_wp2
            go_roundw
            case rel => exact ⟨k + 1, by go_num, hkl, h4', Lib.hid (by have := HO.out; rw [← HQ.out] at this; exact this), HS, k0, k1, k2, HBB.out⟩
            case measure => simp [intOf]; omega
    · have hkk : (sqM m k).length = k := by omega
      obtain ⟨e1, e2⟩ := HDN.out k hkk (by omega)
      have HO := Lib.hid ho.out
      have HBB := Lib.hid hb
      have HL := Lib.hid (show XL.length = k by rw [e2]; exact hkk)
      rw [← e2] at HO
      subst e1
      rw [hkk]
      have hki : ¬ (k : Int) < (k : Int) := by omega
      generalize XL.length = xn at *
      have e3 := HL.out
      subst e3
      clear ho hsm hb e2 hkk
      go_wp2
      go_ret2
      exact ⟨_, lc, rfl, HO.out.mono (by omega) (Nat.le_refl _), HBB.out⟩
end Go.Proofs.YtdjehopcpjkgjaaGreat

/- l20Compare, l20Place (reference): lists in lexicographic order, the place of one in an ascending list. Condition: all lists are of one length. -/
namespace Go.Proofs.YtdjehopcpjkgjaaGreat
open Go.RowKit

theorem cmp_step {a b : List Int} {k : Nat} {x y : Int} (ha : a[k]? = some x) (hb : b[k]? = some y) : cmpL (a.drop k) (b.drop k) = if x < y then -1 else if y < x then 1 else cmpL (a.drop (k + 1)) (b.drop (k + 1)) := by
  obtain ⟨h1, rfl⟩ := List.getElem?_eq_some_iff.1 ha
  obtain ⟨h2, rfl⟩ := List.getElem?_eq_some_iff.1 hb
  rw [List.drop_eq_getElem_cons h1, List.drop_eq_getElem_cons h2]
  rfl
set_option maxHeartbeats 1000000 in
set_option maxRecDepth 100000 in
theorem c_l20Compare (A A' : Option Addr) (c c' n : Nat) (a b : List Int) (w : World) (hn : a.length = n) (hn' : b.length = n) (hl : n ≤ 1048576) (ha : Rd w A (ints a)) (hb : Rd w A' (ints b)) :
    Calls Tryz.prog 69 #[.slice A n c, .slice A' n c'] w fun e w' => e = .returned (.int .i64 (cmpL a b)) ∧ Below w.heap.size w w' := by
  have HN := Lib.hid hn
  have HN' := Lib.hid hn'
  have HA := Lib.hid ha
  have HB := Lib.hid hb
  have HC := Lib.hid (show cmpL a b = cmpL (a.drop 0) (b.drop 0) from rfl)
  clear hn hn' ha hb
  generalize cmpL a b = C at *
  go_enter Tryz.func69, Tryz.ntmps69
  go_wp2
  go_loopw [5] (fun i wr => ∃ k : Nat, k ≤ n ∧ i = .int .i64 k ∧ Hid (C = cmpL (a.drop k) (b.drop k)) ∧ Below w.heap.size w wr) (fun i _ => n - (intOf i).toNat)
  case atStart => exact ⟨0, Nat.zero_le _, rfl, HC, Below.refl _ _⟩
  case round =>
    obtain ⟨k, hk, rfl, hc, hb⟩ := hrel
    by_cases hlt : k < n
    · obtain ⟨x, hx⟩ : ∃ z, a[k]? = some z := ⟨_, List.getElem?_eq_getElem (by have := HN.out; omega)⟩
      obtain ⟨y, hy⟩ : ∃ z, b[k]? = some z := ⟨_, List.getElem?_eq_getElem (by have := HN'.out; omega)⟩
      have HS := Lib.hid (hc.out.trans (cmp_step hx hy))
      obtain ⟨b1, o1, rfl, _, g0⟩ := (HA.out.below hb).int hx
      obtain ⟨b2, o2, rfl, _, g1⟩ := (HB.out.below hb).int hy
      have HBB := Lib.hid hb
      clear hx hy hb hc HA HB
      rcases Int.lt_trichotomy x y with h | h | h
      · have e := HS.out
        rw [if_pos h] at e
        subst e
        have h2 : ¬ y ≤ x := by omega
        go_wp2
        refine wp_region_quiet_lit (by kernel_rfl) (by kernel_rfl) ?_
        (repeat (any_goals (first | go_big_quiet_step (fail) | quiet_step (fail) | (refine wpQuiet_step (fun K hK => ?_); go_simp; split <;> (refine hK _ ?_; clear hK K)))))
        all_goals (refine wpQuiet_nil ?_; intro _ hw'; obtain ⟨nq, hw''⟩ := hw'; subst hw'')
        go_wp2
        go_ret
        exact ⟨rfl, below_drewN HBB.out _⟩
      · subst h
        have e := HS.out
        rw [if_neg (by omega), if_neg (by omega)] at e
        have HE := Lib.hid e
        clear e HS
        have h2 : ¬ x < x := by omega
        go_wp2
        refine wp_region_quiet_lit (by kernel_rfl) (by kernel_rfl) ?_
        (repeat (any_goals (first | go_big_quiet_step (fail) | quiet_step (fail) | (refine wpQuiet_step (fun K hK => ?_); go_simp; split <;> (refine hK _ ?_; clear hK K)))))
        all_goals (refine wpQuiet_nil ?_; intro _ hw'; obtain ⟨nq, hw''⟩ := hw'; subst hw'')
        go_wp2
        refine wp_region_quiet_lit (by kernel_rfl) (by kernel_rfl) ?_
        (repeat (any_goals (first | go_big_quiet_step (fail) | quiet_step (fail) | (refine wpQuiet_step (fun K hK => ?_); go_simp; split <;> (refine hK _ ?_; clear hK K)))))
        all_goals (refine wpQuiet_nil ?_; intro _ hw'; obtain ⟨nq, hw''⟩ := hw'; subst hw'')
        go_wp2
        go_roundw
        case rel => exact ⟨k + 1, by omega, by go_num, HE, (by first | exact below_drewN HBB.out _ | exact below_drewN (below_drewN HBB.out _) _)⟩
        case measure => simp [intOf]; omega
      · have e := HS.out
        rw [if_neg (by omega), if_pos h] at e
        subst e
        have h2 : ¬ x < y := by omega
        go_wp2
        refine wp_region_quiet_lit (by kernel_rfl) (by kernel_rfl) ?_
        (repeat (any_goals (first | go_big_quiet_step (fail) | quiet_step (fail) | (refine wpQuiet_step (fun K hK => ?_); go_simp; split <;> (refine hK _ ?_; clear hK K)))))
        all_goals (refine wpQuiet_nil ?_; intro _ hw'; obtain ⟨nq, hw''⟩ := hw'; subst hw'')
        go_wp2
        refine wp_region_quiet_lit (by kernel_rfl) (by kernel_rfl) ?_
        (repeat (any_goals (first | go_big_quiet_step (fail) | quiet_step (fail) | (refine wpQuiet_step (fun K hK => ?_); go_simp; split <;> (refine hK _ ?_; clear hK K)))))
        all_goals (refine wpQuiet_nil ?_; intro _ hw'; obtain ⟨nq, hw''⟩ := hw'; subst hw'')
        go_wp2
        go_ret
        exact ⟨rfl, (by first | exact below_drewN HBB.out _ | exact below_drewN (below_drewN HBB.out _) _)⟩
    · have hkn : k = n := by omega
      have HE := Lib.hid (show C = 0 by
        rw [hc.out, List.drop_eq_nil_of_le (by have := HN.out; omega), List.drop_eq_nil_of_le (by have := HN'.out; omega)]
        rfl)
      have HBB := Lib.hid hb
      clear hc HC hb
      have e := HE.out
      subst e
      subst hkn
      go_wp2
      go_ret
      exact ⟨rfl, HBB.out⟩
end Go.Proofs.YtdjehopcpjkgjaaGreat

/- l20Place (reference): the place of a list in an ascending one, by halves. Condition: all lists are of one length. -/
namespace Go.Proofs.YtdjehopcpjkgjaaGreat
open Go.RowKit

theorem lb_cases {L : List (List Int)} {x y : List Int} {i : Nat} (ha : Asc L) (hy : L[i]? = some y) : (i < lbL L x ∧ cmpL y x < 0) ∨ (lbL L x ≤ i ∧ ¬ cmpL y x < 0) := by
  rcases Nat.lt_or_ge i (lbL L x) with h | h
  · exact .inl ⟨h, by have := lb_lt h hy; simpa [ltL] using this⟩
  · exact .inr ⟨h, by have := lb_ge ha h hy; simpa [ltL] using this⟩
theorem lb_in {L : List (List Int)} {x y : List Int} (ha : Asc L) (hy : L[lbL L x]? = some y) : decide (x ∈ L) = decide (cmpL y x = 0) := by
  rw [decide_eq_decide]
  refine ⟨fun h => ?_, fun h => ?_⟩
  · rw [(lb_mem ha).1 h] at hy
    simp only [Option.some.injEq] at hy
    rw [hy]
    exact cmpL_self _
  · rw [← cmpL_zero h]
    exact List.mem_of_getElem? hy
theorem lb_out {L : List (List Int)} {x : List Int} (ha : Asc L) (h : L.length ≤ lbL L x) : decide (x ∈ L) = false := by
  rw [decide_eq_false_iff_not]
  intro hx
  have := (List.getElem?_eq_some_iff.1 ((lb_mem ha).1 hx)).1
  omega
/-- What l20Place hands back. -/
def RetPl (p : Nat) (b : Bool) (w : World) (e : Ending) (w' : World) : Prop := e = .returned (.tuple #[.int .i64 p, .bool b]) ∧ Below w.heap.size w w'
set_option maxHeartbeats 1000000 in
set_option maxRecDepth 100000 in
theorem c_l20Place (A A' : Option Addr) (c c' N n : Nat) (L : List (List Int)) (x : List Int) (w : World) (hN : L.length = N) (hNl : N ≤ 1048576) (hn : ∀ l ∈ L, l.length = n) (hx : x.length = n) (hl : n ≤ 1048576) (hasc : Asc L) (ha : RdS w A L) (hb : Rd w A' (ints x)) :
    Calls Tryz.prog 47 #[.slice A N c, .slice A' n c'] w (RetPl (lbL L x) (decide (x ∈ L)) w) := by
  have HN := Lib.hid hN
  have HA := Lib.hid ha
  have HX := Lib.hid hb
  have HLB := Lib.hid (lb_le L x)
  have HCS := Lib.hid (fun i y hy => lb_cases (x := x) (i := i) (y := y) hasc hy)
  have HIN := Lib.hid (fun y hy => lb_in (x := x) (y := y) hasc hy)
  have HOUT := Lib.hid (fun h => lb_out (x := x) hasc h)
  have HCP := Lib.hid (fun y (hy : y ∈ L) a c w' h => c_l20Compare a A' c c' n y x w' (hn y hy) hx hl h)
  have HLL := Lib.hid (fun (i : Nat) y (hy : L[i]? = some y) => hn y (List.mem_of_getElem? hy))
  have hlb := HLB.out
  rw [hN] at hlb
  generalize lbL L x = P at *
  generalize decide (x ∈ L) = D at *
  clear hN hn hx hasc ha hb
  go_enter Tryz.func47, Tryz.ntmps47
  go_wp2
  go_loopw [6, 7] (fun lo hi wr => ∃ a b : Nat, a ≤ P ∧ P ≤ b ∧ b ≤ N ∧ lo = .int .i64 a ∧ hi = .int .i64 b ∧ Below w.heap.size w wr) (fun lo hi _ => (intOf hi - intOf lo).toNat)
  case atStart => exact ⟨0, N, Nat.zero_le _, hlb, Nat.le_refl _, rfl, rfl, Below.refl _ _⟩
  case round =>
    obtain ⟨a, b, h1, h2, h3, rfl, rfl, hb⟩ := hrel
    by_cases hlt : a < b
    · obtain ⟨md, hmd⟩ : ∃ md, md = (a + b) / 2 := ⟨_, rfl⟩
      have hmdi : ((a : Int) + (b : Int)) / 2 = (md : Int) := by omega
      have hm1 : a ≤ md := by omega
      have hm2 : md < b := by omega
      clear hmd
      obtain ⟨y, hy⟩ : ∃ z, L[md]? = some z := ⟨_, List.getElem?_eq_getElem (by have := HN.out; omega)⟩
      obtain ⟨b1, o1, a1, c1, rfl, _, g0, hyv⟩ := (HA.out.below hb).at hy
      rw [HLL.out _ y hy] at g0
      have HB := Lib.hid hb
      have HY := Lib.hid hyv
      have HC := Lib.hid (fun w' h => HCP.out y (List.mem_of_getElem? hy) a1 c1 w' h)
      have hcs := HCS.out md y hy
      clear hb hyv hy
      have HMI := Lib.hid hmdi
      have q0 : (0 : Int) ≤ (md : Int) := by omega
      have q1 : (md : Int) < (N : Int) := by omega
      rcases hcs with ⟨h4, h5⟩ | ⟨h4, h5⟩
      · go_wp2_with (fail)
        try rw [HMI.out]
        refine (HC.out _ (by exact HY.out) (by exact HX.out.below HB.out)).mono ?_
        rintro e w1 ⟨rfl, hb⟩
        have HB1 := Lib.hid (below_chain HB.out hb)
        clear hb hmdi
        go_wp2
        go_roundw
        case rel => exact ⟨md + 1, b, by omega, h2, h3, by go_num, rfl, HB1.out⟩
        case measure => simp [intOf]; omega
      · go_wp2_with (fail)
        refine (HC.out _ (by exact HY.out) (by exact HX.out.below HB.out)).mono ?_
        rintro e w1 ⟨rfl, hb⟩
        have HB1 := Lib.hid (below_chain HB.out hb)
        clear hb hmdi
        go_wp2
        go_roundw
        case rel => exact ⟨a, md, h1, h4, by omega, rfl, by rw [HMI.out], HB1.out⟩
        case measure => simp [intOf]; omega
    · obtain rfl : a = P := by omega
      have HB := Lib.hid hb
      clear hb h2
      by_cases hPN : a < N
      · obtain ⟨y, hy⟩ : ∃ z, L[a]? = some z := ⟨_, List.getElem?_eq_getElem (by have := HN.out; omega)⟩
        obtain ⟨b1, o1, a1, c1, rfl, _, g0, hyv⟩ := (HA.out.below HB.out).at hy
        rw [HLL.out _ y hy] at g0
        have HY := Lib.hid hyv
        have HC := Lib.hid (fun w' h => HCP.out y (List.mem_of_getElem? hy) a1 c1 w' h)
        have HD := Lib.hid (HIN.out y hy)
        clear hyv hy
        go_wp2_with (fail)
        refine (HC.out _ (by exact HY.out) (by exact HX.out.below HB.out)).mono ?_
        rintro e w1 ⟨rfl, hb⟩
        have HB1 := Lib.hid (below_chain HB.out hb)
        clear hb
        go_wp2
        go_ret2
        have e := HD.out
        subst e
        exact ⟨rfl, HB1.out⟩
      · have HD := Lib.hid (HOUT.out (by rw [HN.out]; omega))
        go_wp2
        go_ret2
        have e := HD.out
        subst e
        exact ⟨rfl, HB.out⟩
end Go.Proofs.YtdjehopcpjkgjaaGreat

/- l20Insert (reference): an ascending list of states with one more. Condition: all lists are of one length. -/
namespace Go.Proofs.YtdjehopcpjkgjaaGreat
open Go.RowKit

/-- Lists of the call's own (rows may be shared with other lists). -/
def OwnQ (w : World) (base : Nat) (v : Value) (L : List (List Int)) : Prop :=
  ∃ ds : List IvD, ds.map IvD.l = L ∧ w.ownsRow base 22 1 v L.length (rowsC ds) ∧ ∀ d ∈ ds, w.ownsRow base 2 1 d.v d.l.length (ints d.l)
theorem OwnQ.below {w w1 : World} {base : Nat} {v : Value} {L : List (List Int)} (h : OwnQ w base v L) (hb : Below w.heap.size w w1) : OwnQ w1 base v L := by
  obtain ⟨ds, e, h1, h2⟩ := h
  exact ⟨ds, e, own_below h1 hb, fun d hd => own_below (h2 d hd) hb⟩
theorem OwnQ.mono {w : World} {base base' : Nat} {v : Value} {L : List (List Int)} (h : OwnQ w base v L) (hb : base' ≤ base) : OwnQ w base' v L := by
  obtain ⟨ds, e, h1, h2⟩ := h
  exact ⟨ds, e, own_mono h1 hb, fun d hd => own_mono (h2 d hd) hb⟩
theorem OwnQ.rd {w : World} {base n c : Nat} {A : Option Addr} {L : List (List Int)} (h : OwnQ w base (.slice A n c) L) (hn : n = L.length) : RdS w A L := by
  obtain ⟨ds, e, h1, h2⟩ := h
  subst hn
  exact ⟨ds, e, Rd.own h1, fun d hd => Rd.own (h2 d hd)⟩
theorem OwnQ.form {w : World} {base : Nat} {v : Value} {L : List (List Int)} (h : OwnQ w base v L) : (v = .slice none 0 0 ∧ L = []) ∨ ∃ g c, v = .slice (some ⟨g, 0, none⟩) L.length c := by
  obtain ⟨ds, e0, h1, _⟩ := h
  rcases h1.2 with ⟨e, e2⟩ | ⟨g, cap, cur, e, _⟩
  · exact .inl ⟨e, List.eq_nil_of_length_eq_zero e2⟩
  · exact .inr ⟨_, _, e⟩
theorem OwnQ.ge {w : World} {base : Nat} {v : Value} {L : List (List Int)} (h : OwnQ w base v L) : ∀ q, v.ownBlock = some q → base ≤ q ∧ q < w.heap.size := by
  obtain ⟨ds, _, h1, _⟩ := h
  exact fun q hq => h1.lt q hq
/-- What l20Insert hands back. -/
def RetIn (base : Nat) (v0 : Value) (n : Nat) (L : List (List Int)) (w : World) (e : Ending) (w' : World) : Prop :=
  ∃ A c, e = .returned (.slice A n c) ∧ OwnQ w' base (.slice A n c) L ∧ (Value.slice A n c = v0 ∨ ∀ q, (Value.slice A n c).ownBlock = some q → w.heap.size ≤ q) ∧ Below w.heap.size w w'
theorem news_rd {w : World} {A : Option Addr} {xs : List Value} {ad : Addr} (hr : Rd w A xs) (hA : A = some ad) : ∀ j u, xs[j]? = some u → w.cell? (ad.add j) = some u := by
  intro j u hu
  rcases hr with h | ⟨b, off, e, _, hc⟩
  · rw [h] at hu; simp at hu
  · rw [hA] at e
    simp only [Option.some.injEq] at e
    subst e
    rw [Addr.add_lit]
    exact hc j u hu
/-- append of rows to a row of slices of the call's own. -/
theorem wp_append_rows (w : World) {o : Oper} {a : Act} {K : Act → World → Prop} {Q : Exit → Act → World → Prop} (s x : Operand)
    (ho : o.op = .call { callee := .builtin .append, args := #[s, x], argTypes := #[27, 27] })
    (base : Nat) (v : Value) (n : Nat) (xs : List Value) (hs : a.eval s = v) (hown : w.ownsRow base 22 1 v n xs)
    (ad : Addr) (m c : Nat) (news : List Value) (hx : a.eval x = .slice (some ad) m c) (hr : Rd w (some ad) news) (hm : news.length = m) (h1 : ∀ u ∈ news, u.oneCell' = true) (hn : n + m ≤ 1000000000) (hbase : base ≤ w.heap.size)
    (h : ∀ v' w', w'.ownsRow base 22 1 v' (n + m) (xs ++ news) → w.grownBy w' v.ownBlock → (v' = .slice none 0 0 ↔ v = .slice none 0 0 ∧ m = 0) → K (a.put o.dst v') w') : o.wp Tryz.prog a w K Q := by
  obtain ⟨i0, hi, hz0, hz1, hz2⟩ := info_parts info_intS
  exact wp_append_own w s x 27 ho base 22 i0 (.slice none 0 0) 1 24 Tryz.underlying27 hi hz0 hz1 hz2 rfl (by decide) v n xs hs hown ad m c news hx (by omega) (news_rd hr rfl) h1 (by unfold maxLen; omega) (by omega) hbase h
theorem rg_two {P : Program} {l : List Oper} {Q : Exit → Act → World → Prop} {md : Region.Mode} {S : World → Prop} {fuel : Nat} {listed : Array Bool} {a : Act} {w : World} {oi oj : Oper} (i j : Nat) (hi : nthO l i = some oi) (hj : nthO l j = some oj) (hr : Region.ready md l.toArray listed = [i, j])
    (hwi : Region.wanted oi (yielded l.toArray a.tmps) = true) (hwj : Region.wanted oj (yielded l.toArray a.tmps) = true)
    (h : ∀ K' : Act → World → Prop, Shut (∀ a w, S w → (S w → wpAnyH P md l.toArray Q S fuel (listed.setIfInBounds i true) a w) → K' a w) → Oper.wp P oi a w K' Q)
    (h' : ∀ K' : Act → World → Prop, Shut (∀ a w, S w → (S w → wpAnyH P md l.toArray Q S fuel (listed.setIfInBounds j true) a w) → K' a w) → Oper.wp P oj a w K' Q) : wpAnyH P md l.toArray Q S (fuel + 1) listed a w :=
  wpAnyH_ready hr (by simp) (AllReadyH.cons (nthO_get hi) (fun K hK => by rw [if_pos hwi]; exact h K hK) (AllReadyH.cons (nthO_get hj) (fun K hK => by rw [if_pos hwj]; exact h' K hK) AllReadyH.nil))
theorem one_at {w : World} {g : Nat} {u : Value} (h : w.cell? ⟨g, 0, none⟩ = some u) : ∀ j x, [u][j]? = some x → w.cell? ⟨g, 0 + j, none⟩ = some x := by
  intro j x hx
  match j, hx with
  | 0, hx =>
    simp only [List.getElem?_cons_zero, Option.some.injEq] at hx
    rw [← hx]
    exact h
  | j + 1, hx => simp at hx
theorem rows_one (ds : List IvD) : ∀ u ∈ rowsC ds, u.oneCell' = true := by
  intro u hu
  obtain ⟨d, _, rfl⟩ := List.mem_map.1 hu
  rfl
set_option maxHeartbeats 2000000 in
set_option maxRecDepth 100000 in
theorem c_l20Insert (g c N n base : Nat) (L : List (List Int)) (d : IvD) (w : World) (hN : L.length = N) (hNl : N ≤ 1048576) (hn : ∀ l ∈ L, l.length = n) (hx : d.l.length = n) (hl : n ≤ 1048576) (hasc : Asc L) (ha : OwnQ w base (.slice (some ⟨g, 0, none⟩) N c) L) (hb : w.ownsRow base 2 1 d.v d.l.length (ints d.l)) (hbase : base ≤ w.heap.size) :
    Calls Tryz.prog 26 #[.slice (some ⟨g, 0, none⟩) N c, .slice d.a n d.c] w (RetIn base (.slice (some ⟨g, 0, none⟩) N c) (insQ L d.l).length (insQ L d.l) w) := by
  have HP := Lib.hid (fun w' h h' => c_l20Place (some ⟨g, 0, none⟩) d.a c d.c N n L d.l w' hN hNl hn hx hl hasc h h')
  have HA := Lib.hid ha
  have HX := Lib.hid hb
  have HN := Lib.hid hN
  have hlb := lb_le L d.l
  rw [hN] at hlb
  by_cases hmem : d.l ∈ L
  · rw [show insQ L d.l = L by unfold insQ; rw [if_pos hmem], hN]
    rw [decide_eq_true hmem] at HP
    clear hmem hN hn hx hasc ha hb
    generalize lbL L d.l = P at *
    go_enter Tryz.func26, Tryz.ntmps26
    go_wp2_with (fail)
    refine (HP.out _ (HA.out.rd HN.out.symm) (Rd.own HX.out)).mono ?_
    rintro e w1 ⟨rfl, hb⟩
    have HB1 := Lib.hid hb
    clear hb
    go_wp2
    go_ret
    exact ⟨_, _, rfl, HA.out.below HB1.out, .inl rfl, HB1.out⟩
  · have HQ := Lib.hid (show insQ L d.l = L.take (lbL L d.l) ++ d.l :: L.drop (lbL L d.l) by unfold insQ; rw [if_neg hmem])
    rw [decide_eq_false hmem] at HP
    generalize insQ L d.l = R at *
    obtain ⟨ds, hds, hrow, hrs⟩ := ha
    rw [hN] at hrow
    have hdl : ds.length = N := by rw [← hN, ← hds, List.length_map]
    have hcap := own_cap hrow
    unfold maxLen at hcap
    have HXL := Lib.hid hx
    have HRW := Lib.hid hrow
    have HRS := Lib.hid hrs
    have HDS := Lib.hid hds
    have HDL := Lib.hid hdl
    clear hmem hn hx hasc hb hrow hrs hds hdl
    clear hN
    generalize lbL L d.l = P at *
    obtain ⟨ad, had, hrd⟩ : ∃ ad : Addr, (if c = P then some (⟨g, 0, none⟩ : Addr) else some ⟨g, P, none⟩) = some ad ∧ Hid (Rd w (some ad) (rowsC (ds.drop P))) := by
      by_cases h : c = P
      · refine ⟨⟨g, 0, none⟩, by simp [h], Lib.hid (.inl ?_)⟩
        rw [List.drop_eq_nil_of_le (by have := HDL.out; omega)]
        rfl
      · refine ⟨⟨g, P, none⟩, by simp [h], Lib.hid ?_⟩
        have := (Rd.own HRW.out).cut P
        rw [Nat.zero_add] at this
        unfold rowsC at this ⊢
        rwa [← List.map_drop] at this
    have hP0 : (0 : Int) ≤ (P : Int) := by omega
    have hP1 : P ≤ c := by omega
    go_enter Tryz.func26, Tryz.ntmps26
    go_wp2_with (fail)
    refine (HP.out _ (HA.out.rd HN.out.symm) (Rd.own HX.out)).mono ?_
    rintro e w1 ⟨rfl, hb⟩
    have HB1 := Lib.hid hb
    have HA1 := Lib.hid (HA.out.below hb)
    have HX1 := Lib.hid (own_below HX.out hb)
    have HRW1 := Lib.hid (own_below HRW.out hb)
    have HRD1 := Lib.hid (hrd.out.below hb)
    have hs1 := hb.size
    have HX0 := Lib.hid HX.out
    clear hb HA HX HP hrd
    have hRL : R.length = P + 1 + (N - P) := by
      have e := HQ.out
      rw [e, List.length_append, List.length_cons, List.length_take, List.length_drop, HN.out]
      omega
    have HF := Lib.hid (fun (v : Value) (w' : World) (h : w'.ownsRow w1.heap.size 22 1 v (P + 1 + (N - P)) (rowsC (ds.take P) ++ [d.v] ++ rowsC (ds.drop P))) => show ∃ A c', v = .slice A R.length c' by
      rw [hRL]
      rcases h.2 with ⟨h1, h2⟩ | ⟨g, cap, cur, h1, _⟩
      · omega
      · exact ⟨_, _, h1⟩)
    have HEND := Lib.hid (fun (A : Option Addr) (c' : Nat) (w' : World) (h : w'.ownsRow w1.heap.size 22 1 (.slice A R.length c') (P + 1 + (N - P)) (rowsC (ds.take P) ++ [d.v] ++ rowsC (ds.drop P))) (hb : Below w1.heap.size w1 w') => show RetIn base (.slice (some ⟨g, 0, none⟩) N c) R.length R w (.returned (.slice A R.length c')) w' from
      ⟨A, c', rfl, ⟨ds.take P ++ d :: ds.drop P, by rw [List.map_append, List.map_cons, List.map_take, List.map_drop, HDS.out, HQ.out], by
        have e : rowsC (ds.take P ++ d :: ds.drop P) = rowsC (ds.take P) ++ [d.v] ++ rowsC (ds.drop P) := by simp [rowsC]
        rw [e, hRL]
        rw [hRL] at h
        exact own_mono h (by omega), fun d' hd' => by
        have hbw := below_chain HB1.out hb
        rcases List.mem_append.1 hd' with h1 | h1
        · exact own_below (HRS.out d' (List.mem_of_mem_take h1)) hbw
        · rcases List.mem_cons.1 h1 with rfl | h1
          · exact own_below HX0.out hbw
          · exact own_below (HRS.out d' (List.mem_of_mem_drop h1)) hbw⟩, .inr fun q hq => by have := (h.lt q hq).1; omega, below_chain HB1.out hb⟩)
    have HRLN := Lib.hid hRL
    clear hRL
    generalize R.length = rl at *
    have HRT := Lib.hid (show Rd w1 (some ⟨g, 0, none⟩) (rowsC (ds.take P)) by
      have := own_prefix HRW1.out hlb
      rw [Nat.mul_one] at this
      have h2 := Rd.own this
      unfold rowsC at h2 ⊢
      rwa [← List.map_take] at h2)
    have HDV := Lib.hid (show d.v = .slice d.a n d.c by unfold IvD.v; rw [HXL.out])
    go_wp2
    refine wp_region_held_drew (S := (fun w' => True)) (by kernel_rfl) ?_ (fun hHeld => ?_)
    · exact trivial
    refine rg_take (v := ?_) 1 rfl (by kernel_rfl) (by kernel_rfl) (by kernel_rfl) (fun _ _ _ h => h) (by kernel_rfl) ?_ (by assumption) ?_
    rotate_left
    · (intro w' hSw; (try dsimp only at hSw); go_simp; first | done | with_reducible rfl)
    simp only [Act.put, List.setIfInBounds_toArray, List.set_cons_zero, List.set_cons_succ]
    refine rg_take (v := ?_) 2 rfl (by kernel_rfl) (by kernel_rfl) (by kernel_rfl) (fun _ _ _ h => h) (by kernel_rfl) ?_ (by assumption) ?_
    rotate_left
    · (intro w' hSw; (try dsimp only at hSw); go_simp; first | done | with_reducible rfl)
    simp only [Act.put, List.setIfInBounds_toArray, List.set_cons_zero, List.set_cons_succ]
    refine rg_take (v := ?_) 3 rfl (by kernel_rfl) (by kernel_rfl) (by kernel_rfl) (fun _ _ _ h => h) (by kernel_rfl) ?_ (by assumption) ?_
    rotate_left
    · (intro w' hSw; (try dsimp only at hSw); go_simp; first | done | with_reducible rfl)
    simp only [Act.put, List.setIfInBounds_toArray, List.set_cons_zero, List.set_cons_succ]
    refine rg_take (v := ?_) 5 rfl (by kernel_rfl) (by kernel_rfl) (by kernel_rfl) (fun _ _ _ h => h) (by kernel_rfl) ?_ (by assumption) ?_
    rotate_left
    · (intro w' hSw; (try dsimp only at hSw); go_simp; first | done | with_reducible rfl)
    simp only [Act.put, List.setIfInBounds_toArray, List.set_cons_zero, List.set_cons_succ]
    refine rg_take (v := ?_) 8 rfl (by kernel_rfl) (by kernel_rfl) (by kernel_rfl) (fun _ _ _ h => h) (by kernel_rfl) ?_ (by assumption) ?_
    rotate_left
    · (intro w' hSw; (try dsimp only at hSw); go_simp; first | done | with_reducible rfl)
    simp only [Act.put, List.setIfInBounds_toArray, List.set_cons_zero, List.set_cons_succ]
    refine rg_take (v := ?_) 9 rfl (by kernel_rfl) (by kernel_rfl) (by kernel_rfl) (fun _ _ _ h => h) (by kernel_rfl) ?_ (by assumption) ?_
    rotate_left
    · (intro w' hSw; (try dsimp only at hSw); go_simp; first | done | with_reducible rfl)
    simp only [Act.put, List.setIfInBounds_toArray, List.set_cons_zero, List.set_cons_succ]
    refine rg_take (v := ?_) 10 rfl (by kernel_rfl) (by kernel_rfl) (by kernel_rfl) (fun _ _ _ h => h) (by kernel_rfl) ?_ (by assumption) ?_
    rotate_left
    · (intro w' hSw; (try dsimp only at hSw); go_simp; first | done | with_reducible rfl)
    simp only [Act.put, List.setIfInBounds_toArray, List.set_cons_zero, List.set_cons_succ]
    refine rg_two 0 6 rfl rfl (by kernel_rfl) (by kernel_rfl) (by kernel_rfl) (fun K hK => ?_) (fun K hK => ?_)
    · go_simp
      clear hHeld
      refine hK.out _ _ trivial (fun hHeld => ?_)
      clear hK K
      try simp only [Act.put, List.setIfInBounds_toArray, List.set_cons_zero, List.set_cons_succ]
      refine rg_two 4 6 rfl rfl (by kernel_rfl) (by kernel_rfl) (by kernel_rfl) (fun K hK => ?_) (fun K hK => ?_)
      · skip
        refine wp_append_rows _ (.tmp 15) (.tmp 18) rfl w1.heap.size (.slice (some ⟨w1.heap.size, 0, none⟩) 0 0) 0 [] rfl (World.ownsRow_made w1.drew #[] 0 (Nat.le_refl _) (Nat.zero_le _) rfl) ⟨g, 0, none⟩ P c (rowsC (ds.take P)) rfl (HRT.out.below (below_alloc (Below.refl _ _).drew _)) (by rw [rowsC_length, List.length_take, HDL.out]; omega) (rows_one _) (by omega) (by simp <;> omega) ?_
        intro v4 w4 ho4 hg4 hn4
        rw [Nat.zero_add, List.nil_append] at ho4
        clear hHeld
        refine hK.out _ _ trivial (fun hHeld => ?_)
        clear hK K
        try simp only [Act.put, List.setIfInBounds_toArray, List.set_cons_zero, List.set_cons_succ]
        refine rg_run 6 rfl (by kernel_rfl) (by kernel_rfl) (fun K hK => ?_)
        go_simp
        clear hHeld
        refine hK.out _ _ trivial (fun hHeld => ?_)
        clear hK K
        try simp only [Act.put, List.setIfInBounds_toArray, List.set_cons_zero, List.set_cons_succ]
        have HO4 := Lib.hid (own_below ho4 (below_alloc (Below.refl _ _) (Obj.cells #[Value.slice d.a n d.c] 22)))
        have HBZ := Lib.hid (below_alloc (show Below w1.heap.size w1 w4 from (below_alloc (Below.refl _ _).drew _).grown hg4 (by simp) (fun q hq => by simp [Value.ownBlock] at hq; omega)) (Obj.cells #[Value.slice d.a n d.c] 22))
        have HC4 := Lib.hid (show (w4.alloc (Obj.cells #[Value.slice d.a n d.c] 22)).cell? ⟨w4.heap.size, 0, none⟩ = some d.v by rw [HDV.out]; go_simp)
        clear ho4 hg4 hn4
        refine rg_run 7 rfl (by kernel_rfl) (by kernel_rfl) (fun K hK => ?_)
        refine wp_append_rows _ (.tmp 19) (.tmp 21) rfl w1.heap.size v4 P (rowsC (ds.take P)) rfl HO4.out ⟨w4.heap.size, 0, none⟩ 1 1 [d.v] rfl (.inr ⟨_, 0, rfl, World.block_lt_of_cell? _ _ HC4.out, one_at HC4.out⟩) rfl (by intro u hu; simp only [List.mem_singleton] at hu; subst hu; rfl) (by omega) HBZ.out.size ?_
        intro v7 w7 ho7 hg7 hn7
        have HO7 := Lib.hid ho7
        have HB7 := Lib.hid (HBZ.out.grown hg7 HBZ.out.size (fun q hq => (HO4.out.lt q hq).1))
        clear ho7 hg7 hn7 HO4 HBZ HC4
        clear hHeld
        refine hK.out _ _ trivial (fun hHeld => ?_)
        clear hK K
        try simp only [Act.put, List.setIfInBounds_toArray, List.set_cons_zero, List.set_cons_succ]
        refine rg_run 11 rfl (by kernel_rfl) (by kernel_rfl) (fun K hK => ?_)
        refine wp_append_rows _ (.tmp 22) (.tmp 25) rfl w1.heap.size v7 (P + 1) (rowsC (ds.take P) ++ [d.v]) rfl HO7.out ad (N - P) (c - P) (rowsC (ds.drop P)) rfl (HRD1.out.below HB7.out) (by rw [rowsC_length, List.length_drop, HDL.out]) (rows_one _) (by omega) HB7.out.size ?_
        intro v11 w11 ho11 hg11 hn11
        have HO11 := Lib.hid ho11
        have HB11 := Lib.hid (HB7.out.grown hg11 HB7.out.size (fun q hq => (HO7.out.lt q hq).1))
        clear ho11 hg11 hn11 HO7 HB7
        clear hHeld
        refine hK.out _ _ trivial (fun hHeld => ?_)
        clear hK K
        try simp only [Act.put, List.setIfInBounds_toArray, List.set_cons_zero, List.set_cons_succ]
        refine rg_take (v := ?_) 12 rfl (by kernel_rfl) (by kernel_rfl) (by kernel_rfl) (fun _ _ _ h => h) (by kernel_rfl) ?_ (by assumption) ?_
        rotate_left
        · (intro w' hSw; (try dsimp only at hSw); go_simp; first | done | with_reducible rfl)
        simp only [Act.put, List.setIfInBounds_toArray, List.set_cons_zero, List.set_cons_succ]
        refine wpAnyH_done (by kernel_rfl) ?_ _
        clear hHeld
        obtain ⟨A11, c11, hv11⟩ := HF.out v11 w11 HO11.out
        subst hv11
        go_wp2
        go_ret
        exact HEND.out _ _ _ HO11.out HB11.out
      · skip
        go_simp
        clear hHeld
        refine hK.out _ _ trivial (fun hHeld => ?_)
        clear hK K
        try simp only [Act.put, List.setIfInBounds_toArray, List.set_cons_zero, List.set_cons_succ]
        refine rg_run 4 rfl (by kernel_rfl) (by kernel_rfl) (fun K hK => ?_)
        refine wp_append_rows _ (.tmp 15) (.tmp 18) rfl w1.heap.size (.slice (some ⟨w1.heap.size, 0, none⟩) 0 0) 0 [] rfl ((World.ownsRow_made w1.drew #[] 0 (Nat.le_refl _) (Nat.zero_le _) rfl).alloc _) ⟨g, 0, none⟩ P c (rowsC (ds.take P)) rfl (HRT.out.below (below_alloc (below_alloc (Below.refl _ _).drew _) _)) (by rw [rowsC_length, List.length_take, HDL.out]; omega) (rows_one _) (by omega) (by simp <;> omega) ?_
        intro v4 w4 ho4 hg4 hn4
        rw [Nat.zero_add, List.nil_append] at ho4
        clear hHeld
        refine hK.out _ _ trivial (fun hHeld => ?_)
        clear hK K
        try simp only [Act.put, List.setIfInBounds_toArray, List.set_cons_zero, List.set_cons_succ]
        have HO4 := Lib.hid (ho4)
        have HBZ := Lib.hid ((below_alloc (below_alloc (Below.refl _ _).drew _) _).grown hg4 (by simp; omega) (fun q hq => by simp [Value.ownBlock] at hq; omega))
        have HC4 := Lib.hid (show w4.cell? ⟨w1.heap.size + 1, 0, none⟩ = some d.v from hg4.cell (show ((w1.drew.alloc (Obj.cells #[] 22)).alloc (Obj.cells #[Value.slice d.a n d.c] 22)).cell? ⟨w1.heap.size + 1, 0, none⟩ = some d.v by rw [HDV.out]; go_simp) (by simp [Value.ownBlock] <;> omega))
        clear ho4 hg4 hn4
        refine rg_run 7 rfl (by kernel_rfl) (by kernel_rfl) (fun K hK => ?_)
        refine wp_append_rows _ (.tmp 19) (.tmp 21) rfl w1.heap.size v4 P (rowsC (ds.take P)) rfl HO4.out ⟨w1.heap.size + 1, 0, none⟩ 1 1 [d.v] rfl (.inr ⟨_, 0, rfl, World.block_lt_of_cell? _ _ HC4.out, one_at HC4.out⟩) rfl (by intro u hu; simp only [List.mem_singleton] at hu; subst hu; rfl) (by omega) HBZ.out.size ?_
        intro v7 w7 ho7 hg7 hn7
        have HO7 := Lib.hid ho7
        have HB7 := Lib.hid (HBZ.out.grown hg7 HBZ.out.size (fun q hq => (HO4.out.lt q hq).1))
        clear ho7 hg7 hn7 HO4 HBZ HC4
        clear hHeld
        refine hK.out _ _ trivial (fun hHeld => ?_)
        clear hK K
        try simp only [Act.put, List.setIfInBounds_toArray, List.set_cons_zero, List.set_cons_succ]
        refine rg_run 11 rfl (by kernel_rfl) (by kernel_rfl) (fun K hK => ?_)
        refine wp_append_rows _ (.tmp 22) (.tmp 25) rfl w1.heap.size v7 (P + 1) (rowsC (ds.take P) ++ [d.v]) rfl HO7.out ad (N - P) (c - P) (rowsC (ds.drop P)) rfl (HRD1.out.below HB7.out) (by rw [rowsC_length, List.length_drop, HDL.out]) (rows_one _) (by omega) HB7.out.size ?_
        intro v11 w11 ho11 hg11 hn11
        have HO11 := Lib.hid ho11
        have HB11 := Lib.hid (HB7.out.grown hg11 HB7.out.size (fun q hq => (HO7.out.lt q hq).1))
        clear ho11 hg11 hn11 HO7 HB7
        clear hHeld
        refine hK.out _ _ trivial (fun hHeld => ?_)
        clear hK K
        try simp only [Act.put, List.setIfInBounds_toArray, List.set_cons_zero, List.set_cons_succ]
        refine rg_take (v := ?_) 12 rfl (by kernel_rfl) (by kernel_rfl) (by kernel_rfl) (fun _ _ _ h => h) (by kernel_rfl) ?_ (by assumption) ?_
        rotate_left
        · (intro w' hSw; (try dsimp only at hSw); go_simp; first | done | with_reducible rfl)
        simp only [Act.put, List.setIfInBounds_toArray, List.set_cons_zero, List.set_cons_succ]
        refine wpAnyH_done (by kernel_rfl) ?_ _
        clear hHeld
        obtain ⟨A11, c11, hv11⟩ := HF.out v11 w11 HO11.out
        subst hv11
        go_wp2
        go_ret
        exact HEND.out _ _ _ HO11.out HB11.out
    · skip
      go_simp
      clear hHeld
      refine hK.out _ _ trivial (fun hHeld => ?_)
      clear hK K
      try simp only [Act.put, List.setIfInBounds_toArray, List.set_cons_zero, List.set_cons_succ]
      refine rg_run 0 rfl (by kernel_rfl) (by kernel_rfl) (fun K hK => ?_)
      go_simp
      clear hHeld
      refine hK.out _ _ trivial (fun hHeld => ?_)
      clear hK K
      try simp only [Act.put, List.setIfInBounds_toArray, List.set_cons_zero, List.set_cons_succ]
      refine rg_run 4 rfl (by kernel_rfl) (by kernel_rfl) (fun K hK => ?_)
      refine wp_append_rows _ (.tmp 15) (.tmp 18) rfl w1.heap.size (.slice (some ⟨w1.heap.size + 1, 0, none⟩) 0 0) 0 [] rfl (by have h := World.ownsRow_made (e := 22) (size := 1) (base := w1.heap.size) (w1.drew.alloc (Obj.cells #[Value.slice d.a n d.c] 22)) #[] 0 (by simp) (Nat.zero_le _) rfl; rw [World.size_alloc] at h; exact h) ⟨g, 0, none⟩ P c (rowsC (ds.take P)) rfl (HRT.out.below (below_alloc (below_alloc (Below.refl _ _).drew _) _)) (by rw [rowsC_length, List.length_take, HDL.out]; omega) (rows_one _) (by omega) (by simp <;> omega) ?_
      intro v4 w4 ho4 hg4 hn4
      rw [Nat.zero_add, List.nil_append] at ho4
      clear hHeld
      refine hK.out _ _ trivial (fun hHeld => ?_)
      clear hK K
      try simp only [Act.put, List.setIfInBounds_toArray, List.set_cons_zero, List.set_cons_succ]
      have HO4 := Lib.hid (ho4)
      have HBZ := Lib.hid ((below_alloc (below_alloc (Below.refl _ _).drew _) _).grown hg4 (by simp; omega) (fun q hq => by simp [Value.ownBlock] at hq; omega))
      have HC4 := Lib.hid (show w4.cell? ⟨w1.heap.size, 0, none⟩ = some d.v from hg4.cell (show ((w1.drew.alloc (Obj.cells #[Value.slice d.a n d.c] 22)).alloc (Obj.cells #[] 22)).cell? ⟨w1.heap.size, 0, none⟩ = some d.v by rw [HDV.out]; go_simp) (by simp [Value.ownBlock] <;> omega))
      clear ho4 hg4 hn4
      refine rg_run 7 rfl (by kernel_rfl) (by kernel_rfl) (fun K hK => ?_)
      refine wp_append_rows _ (.tmp 19) (.tmp 21) rfl w1.heap.size v4 P (rowsC (ds.take P)) rfl HO4.out ⟨w1.heap.size, 0, none⟩ 1 1 [d.v] rfl (.inr ⟨_, 0, rfl, World.block_lt_of_cell? _ _ HC4.out, one_at HC4.out⟩) rfl (by intro u hu; simp only [List.mem_singleton] at hu; subst hu; rfl) (by omega) HBZ.out.size ?_
      intro v7 w7 ho7 hg7 hn7
      have HO7 := Lib.hid ho7
      have HB7 := Lib.hid (HBZ.out.grown hg7 HBZ.out.size (fun q hq => (HO4.out.lt q hq).1))
      clear ho7 hg7 hn7 HO4 HBZ HC4
      clear hHeld
      refine hK.out _ _ trivial (fun hHeld => ?_)
      clear hK K
      try simp only [Act.put, List.setIfInBounds_toArray, List.set_cons_zero, List.set_cons_succ]
      refine rg_run 11 rfl (by kernel_rfl) (by kernel_rfl) (fun K hK => ?_)
      refine wp_append_rows _ (.tmp 22) (.tmp 25) rfl w1.heap.size v7 (P + 1) (rowsC (ds.take P) ++ [d.v]) rfl HO7.out ad (N - P) (c - P) (rowsC (ds.drop P)) rfl (HRD1.out.below HB7.out) (by rw [rowsC_length, List.length_drop, HDL.out]) (rows_one _) (by omega) HB7.out.size ?_
      intro v11 w11 ho11 hg11 hn11
      have HO11 := Lib.hid ho11
      have HB11 := Lib.hid (HB7.out.grown hg11 HB7.out.size (fun q hq => (HO7.out.lt q hq).1))
      clear ho11 hg11 hn11 HO7 HB7
      clear hHeld
      refine hK.out _ _ trivial (fun hHeld => ?_)
      clear hK K
      try simp only [Act.put, List.setIfInBounds_toArray, List.set_cons_zero, List.set_cons_succ]
      refine rg_take (v := ?_) 12 rfl (by kernel_rfl) (by kernel_rfl) (by kernel_rfl) (fun _ _ _ h => h) (by kernel_rfl) ?_ (by assumption) ?_
      rotate_left
      · (intro w' hSw; (try dsimp only at hSw); go_simp; first | done | with_reducible rfl)
      simp only [Act.put, List.setIfInBounds_toArray, List.set_cons_zero, List.set_cons_succ]
      refine wpAnyH_done (by kernel_rfl) ?_ _
      clear hHeld
      obtain ⟨A11, c11, hv11⟩ := HF.out v11 w11 HO11.out
      subst hv11
      go_wp2
      go_ret
      exact HEND.out _ _ _ HO11.out HB11.out
end Go.Proofs.YtdjehopcpjkgjaaGreat
