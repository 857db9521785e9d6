/- Contracts and helpers (joined texts, part 5). The conditions stand at each theorem. -/
import Derived.Test.YteengjcplmjakaaGreatDoorH4
/- A memory drawn: some rows of the call's own (printed by FbH.py). Condition: a source at hand; the program's rows. -/
namespace Go.Proofs.YteengjcplmjakaaGreatDoor
open Go.RowKit

theorem wp_push_intZ (w : World) {o : Oper} {a : Act} {K : Act → World → Prop} {Q : Exit → Act → World → Prop} (s x : Operand)
    (ho : o.op = .call { callee := .builtin .append, args := #[s, x], argTypes := #[29, 29] })
    (base : Nat) (v : Value) (n : Nat) (l : List Int) (z : Int) (g c : Nat) (hs : a.eval s = v) (hown : w.ownsRow base 2 1 v n (ints l))
    (hx : a.eval x = .slice (some ⟨g, 0, none⟩) 1 c) (h0 : w.cell? ⟨g, 0, none⟩ = some (.int .i64 z)) (hn : n ≤ 1099511627776) (hbase : base ≤ w.heap.size)
    (h : ∀ v' w', w'.ownsRow base 2 1 v' (n + 1) (ints (l ++ [z])) → w.grownBy w' v.ownBlock → K (a.put o.dst v') w') : o.wp Tryz.prog a w K Q := by
  obtain ⟨i0, hi, hz0, hz1, hz2⟩ := info_parts info_int64
  refine wp_push w s x 29 ho base 2 i0 (.int .i64 0) 1 8 Tryz.underlying29 hi hz0 hz1 hz2 rfl (by decide) v n (ints l) hs hown ⟨g, 0, none⟩ c [.int .i64 z] hx rfl ?_ ?_ (by unfold maxLen; omega) (by omega) hbase ?_
  · intro j u hu
    match j, hu with
    | 0, hu =>
      simp only [List.getElem?_cons_zero, Option.some.injEq] at hu
      rw [← hu]
      simpa [Addr.add] using h0
  · intro u hu
    simp only [List.mem_singleton] at hu
    subst hu; rfl
  · intro v' w' h1 h2 h3 _
    exact h v' w' (by simpa [ints] using h1) h2
theorem own_litB1 (w : World) : (w.alloc (.cells #[.int .i64 0, .int .i64 0, .int .i64 0] 62)).ownsRow w.heap.size 62 3 (.slice (some ⟨w.heap.size, 0, none⟩) 1 1) 1 (bsCells [⟨0, 0, 0⟩]) := by
  have h := World.ownsRow_lit (e := 62) (size := 3) (base := w.heap.size) w #[.int .i64 0, .int .i64 0, .int .i64 0] 1 (Nat.le_refl _) (by decide) (by simp)
  simpa [bsCells, Bs.cells] using h
theorem own_someZ {w : World} {base : Nat} {e : TypeId} {size n c : Nat} {A : Option Addr} {xs : List Value} (h : w.ownsRow base e size (.slice A n c) n xs) (hn : 0 < n) : ∃ g, A = some ⟨g, 0, none⟩ := by
  obtain ⟨m, rfl⟩ : ∃ m, n = m + 1 := ⟨n - 1, by omega⟩
  obtain ⟨g, cap, e⟩ := own_form h
  simp only [Value.slice.injEq] at e
  exact ⟨g, e.1⟩
/-- What lies there ahead of the drawn memory: the program, its box, the result's box, the source. -/
structure DpW (B base : Nat) (w wr : World) (p : Prg) (a1 a2 a3 a4 : Option Addr) (c1 c2 c3 c4 : Nat) (ds : List LiD) : Prop where
  o : POwn wr base a1 a2 a3 a4 c1 c2 c3 c4 p ds
  r : MBox wr w.heap.size (w.heap.size + 1) [.slice none 0 0, .slice none 0 0]
  p : PBox wr w.heap.size w.heap.size [.string p.nm, .slice a1 p.ins.length c1, .slice a2 p.vs.length c2, .slice a3 p.os.length c3, .string p.gd, .slice a4 p.ls.length c4]
  d : DW B w wr
  z : w.heap.size + 1 < wr.heap.size
/-- The drawn memory in its box. -/
structure DmW (B : Nat) (w wr : World) (p : Prg) (a1 a2 a3 a4 : Option Addr) (c1 c2 c3 c4 : Nat) (xb : Nat) (x1 x2 : Option Addr) (d1 d2 n1 n2 : Nat) (vs : List Int) (bs : List Bs) : Prop where
  v : wr.ownsRow w.heap.size 2 1 (.slice x1 n1 d1) n1 (ints vs)
  b : wr.ownsRow w.heap.size 62 3 (.slice x2 n2 d2) n2 (bsCells bs)
  x : MBox wr w.heap.size xb [.slice x1 n1 d1, .slice x2 n2 d2]
  r : MBox wr w.heap.size (w.heap.size + 1) [.slice none 0 0, .slice none 0 0]
  p : PBox wr w.heap.size w.heap.size [.string p.nm, .slice a1 p.ins.length c1, .slice a2 p.vs.length c2, .slice a3 p.os.length c3, .string p.gd, .slice a4 p.ls.length c4]
  d : DW B w wr
  ne : xb ≠ w.heap.size + 1
/-- A drawn memory: rows of the call's own; the source goes on. -/
def DrM (B : Nat) (w : World) (e : Ending) (w' : World) : Prop :=
  ∃ m x1 x2 d1 d2, e = .returned (mv m x1 x2 d1 d2) ∧ MeOwn w' w.heap.size x1 x2 d1 d2 m ∧ MeOk m ∧ DW B w w'
section
variable {B base : Nat} {w wr w2 : World} {p : Prg} {a1 a2 a3 a4 : Option Addr} {c1 c2 c3 c4 : Nat} {ds : List LiD} {xb : Nat} {x1 x2 : Option Addr} {d1 d2 n1 n2 : Nat} {vs : List Int} {bs : List Bs}
theorem POwn.dw (h : POwn w base a1 a2 a3 a4 c1 c2 c3 c4 p ds) (hd : DW B w w2) (hB : B < base) : POwn w2 base a1 a2 a3 a4 c1 c2 c3 c4 p ds := by
  have hr := h.rows.dw hd hB
  exact ⟨hr.i, hr.v, hr.o, hr.l, h.e, hr.d⟩
theorem DpW.below (h : DpW B base w wr p a1 a2 a3 a4 c1 c2 c3 c4 ds) (hb : Below wr.heap.size wr w2) (hB : B < w.heap.size) : DpW B base w w2 p a1 a2 a3 a4 c1 c2 c3 c4 ds :=
  ⟨h.o.below hb, own_below h.r hb, own_below h.p hb, h.d.below hB hb, Nat.lt_of_lt_of_le h.z hb.size⟩
theorem DpW.dw (h : DpW B base w wr p a1 a2 a3 a4 c1 c2 c3 c4 ds) (hd : DW B wr w2) (hB : B < w.heap.size) (hB2 : B < base) : DpW B base w w2 p a1 a2 a3 a4 c1 c2 c3 c4 ds :=
  ⟨h.o.dw hd hB2, hd.own h.r hB, hd.own h.p hB, h.d.then_ hd, Nat.lt_of_lt_of_le h.z hd.g.size⟩
theorem DmW.below (h : DmW B w wr p a1 a2 a3 a4 c1 c2 c3 c4 xb x1 x2 d1 d2 n1 n2 vs bs) (hb : Below wr.heap.size wr w2) (hB : B < w.heap.size) : DmW B w w2 p a1 a2 a3 a4 c1 c2 c3 c4 xb x1 x2 d1 d2 n1 n2 vs bs :=
  ⟨own_below h.v hb, own_below h.b hb, own_below h.x hb, own_below h.r hb, own_below h.p hb, h.d.below hB hb, h.ne⟩
theorem DmW.dw (h : DmW B w wr p a1 a2 a3 a4 c1 c2 c3 c4 xb x1 x2 d1 d2 n1 n2 vs bs) (hd : DW B wr w2) (hB : B < w.heap.size) : DmW B w w2 p a1 a2 a3 a4 c1 c2 c3 c4 xb x1 x2 d1 d2 n1 n2 vs bs :=
  ⟨hd.own h.v hB, hd.own h.b hB, hd.own h.x hB, hd.own h.r hB, hd.own h.p hB, h.d.then_ hd, h.ne⟩
/-- The memory is stored in its box. -/
theorem DpW.put {u0 u1 : Value} (h : DpW B base w wr p a1 a2 a3 a4 c1 c2 c3 c4 ds) (hx : MBox wr w.heap.size xb [u0, u1]) (h1 : wr.ownsRow w.heap.size 2 1 (.slice x1 n1 d1) n1 (ints vs)) (h2 : wr.ownsRow w.heap.size 62 3 (.slice x2 n2 d2) n2 (bsCells bs)) (hne : w.heap.size + 1 < xb) (hB : B < w.heap.size) :
    DmW B w ((wr.setCell ⟨xb, 0, none⟩ (.slice x1 n1 d1)).setCell ⟨xb, 1, none⟩ (.slice x2 n2 d2)) p a1 a2 a3 a4 c1 c2 c3 c4 xb x1 x2 d1 d2 n1 n2 vs bs := by
  have z0 := MBox.put hx 0 (.slice x1 n1 d1)
  have z1 := MBox.put z0.1 1 (.slice x2 n2 d2)
  have zg := grown_trans z0.2 z1.2
  refine ⟨own_keep h1 hx (by decide) zg, own_keep h2 hx (by decide) zg, by simpa using z1.1, MBox.keep h.r zg (by omega), own_keep h.p hx (by decide) zg, h.d.far hB zg (fun q hq => ?_), by omega⟩
  simp only [Option.some.injEq] at hq
  omega
/-- A value of the memory is stored. -/
theorem DmW.putV {g : Nat} (h : DmW B w wr p a1 a2 a3 a4 c1 c2 c3 c4 xb (some ⟨g, 0, none⟩) x2 d1 d2 n1 n2 vs bs) (hB : B < w.heap.size) (k : Nat) (z : Int) :
    DmW B w (wr.setCell ⟨g, k, none⟩ (.int .i64 z)) p a1 a2 a3 a4 c1 c2 c3 c4 xb (some ⟨g, 0, none⟩) x2 d1 d2 n1 n2 (vs.set k z) bs := by
  have z0 := World.ownsRow.stored h.v k (.int .i64 z)
  have e : (ints vs).set k (.int .i64 z) = ints (vs.set k z) := by simp [ints, List.map_set]
  rw [e] at z0
  refine ⟨z0.1, own_keep h.b h.v (by decide) z0.2, own_keep h.x h.v (by decide) z0.2, own_keep h.r h.v (by decide) z0.2, own_keep h.p h.v (by decide) z0.2, h.d.far hB z0.2 (fun q hq => ?_), h.ne⟩
  have := (own_ge h.v).1
  simp only [Option.some.injEq] at hq
  omega
/-- The first block's number is stored. -/
theorem DmW.putB {g : Nat} (h : DmW B w wr p a1 a2 a3 a4 c1 c2 c3 c4 xb x1 (some ⟨g, 0, none⟩) d1 d2 n1 n2 vs bs) (hn : 0 < n2) (hB : B < w.heap.size) (z : Int) :
    ∃ bs2, DmW B w (wr.setCell ⟨g, 0, none⟩ (.int .i64 z)) p a1 a2 a3 a4 c1 c2 c3 c4 xb x1 (some ⟨g, 0, none⟩) d1 d2 n1 n2 vs bs2 := by
  have z0 := World.ownsRow.stored h.b 0 (.int .i64 z)
  have hl := h.b.1
  rw [bsCells_length] at hl
  match bs, hl, h, z0 with
  | [], hl, _, _ => simp at hl; omega
  | ⟨u, v, x⟩ :: l, _, h, z0 =>
    refine ⟨⟨z, v, x⟩ :: l, own_keep h.v h.b (by decide) z0.2, ?_, own_keep h.x h.b (by decide) z0.2, own_keep h.r h.b (by decide) z0.2, own_keep h.p h.b (by decide) z0.2, h.d.far hB z0.2 (fun q hq => ?_), h.ne⟩
    · have := z0.1
      simpa [bsCells, Bs.cells] using this
    · have := (own_ge h.b).1
      simp only [Option.some.injEq] at hq
      omega
theorem DmW.at {g : Nat} (h : DmW B w wr p a1 a2 a3 a4 c1 c2 c3 c4 xb (some ⟨g, 0, none⟩) x2 d1 d2 n1 n2 vs bs) {k : Nat} (hk : k < n1) : (∃ u, wr.cell? ⟨g, k, none⟩ = some u) ∧ wr.frozen? ⟨g, k, none⟩ = false :=
  ⟨⟨_, (World.ownsRow.cellAt h.v k (by omega)).trans (List.getElem?_eq_getElem (by have := h.v.1; omega))⟩, h.v.frozenAt k⟩
theorem DmW.b0 {g : Nat} (h : DmW B w wr p a1 a2 a3 a4 c1 c2 c3 c4 xb x1 (some ⟨g, 0, none⟩) d1 d2 n1 n2 vs bs) (hn : 0 < n2) : (∃ u, wr.cell? ⟨g, 0, none⟩ = some u) ∧ wr.frozen? ⟨g, 0, none⟩ = false :=
  ⟨⟨_, (World.ownsRow.cellAt h.b 0 (by omega)).trans (List.getElem?_eq_getElem (by have := h.b.1; omega))⟩, h.b.frozenAt 0⟩
/-- The result is stored. -/
theorem fin_mem {u0 u1 : Value} (hr : MBox wr w.heap.size (w.heap.size + 1) [u0, u1]) (h1 : wr.ownsRow w.heap.size 2 1 (.slice x1 n1 d1) n1 (ints vs)) (h2 : wr.ownsRow w.heap.size 62 3 (.slice x2 n2 d2) n2 (bsCells bs)) (hd : DW B w wr) (hB : B < w.heap.size) (hn1 : n1 ≤ 1048576) (hn2 : n2 ≤ 1048576) :
    ∃ WF, WF = (wr.setCell ⟨w.heap.size + 1, 0, none⟩ (.slice x1 n1 d1)).setCell ⟨w.heap.size + 1, 1, none⟩ (.slice x2 n2 d2) ∧ WF.cell? ⟨w.heap.size + 1, 0, none⟩ = some (.slice x1 n1 d1) ∧ WF.cell? ⟨w.heap.size + 1, 1, none⟩ = some (.slice x2 n2 d2) ∧ DrM B w (.returned (.agg #[.slice x1 n1 d1, .slice x2 n2 d2])) WF := by
  have z0 := MBox.put hr 0 (.slice x1 n1 d1)
  have z1 := MBox.put z0.1 1 (.slice x2 n2 d2)
  have zg := grown_trans z0.2 z1.2
  have zc := z1.1
  simp only [List.set_cons_zero, List.set_cons_succ] at zc
  obtain ⟨⟨r0, r1⟩, _⟩ := MBox.c zc
  have l1 : vs.length = n1 := by have := h1.1; rw [ints_length] at this; omega
  have l2 : bs.length = n2 := by have := h2.1; rw [bsCells_length] at this; omega
  have y1 := own_keep h1 hr (by decide) zg
  have y2 := own_keep h2 hr (by decide) zg
  subst l1
  subst l2
  refine ⟨_, rfl, r0, r1, ⟨vs, bs⟩, x1, x2, d1, d2, rfl, ⟨y1, y2⟩, ⟨hn1, hn2⟩, hd.far hB zg (fun q hq => ?_)⟩
  simp only [Option.some.injEq] at hq
  omega
end
set_option maxHeartbeats 8000000 in
set_option maxRecDepth 100000 in
theorem c_l16DrawMemory (B base : Nat) (p : Prg) (a1 a2 a3 a4 : Option Addr) (c1 c2 c3 c4 : Nat) (ds : List LiD) (w : World) (h : Src w B) (hs : PgOk p) (ho : POwn w base a1 a2 a3 a4 c1 c2 c3 c4 p ds) (hbase : B < base) :
    Calls Tryz.prog 104 #[.pointer (some ⟨B, 0, none⟩), pv p a1 a2 a3 a4 c1 c2 c3 c4] w (DrM B w) := by
  have HDL := Lib.hid (fun w h => c_l16DrawList B p a1 a2 a3 a4 c1 c2 c3 c4 w h hs.i.1)
  have hz : PgZ a1 a2 a3 c1 c2 c3 := ⟨own_none ho.i, own_none ho.v, own_none ho.o⟩
  have HMA := Lib.hid (fun A n c L w h hn hn2 hll hL => c_MemoryAfter p a1 a2 a3 a4 A c1 c2 c3 c4 c n L w hs hz h hn hn2 hll hL)
  have hpi : p.ins.length ≤ 1048576 := hs.i.1
  have hpv : p.vs.length ≤ 1048576 := hs.v.1
  have hBl := h.lt
  have B0 := below_alloc (Below.refl w.heap.size w) (.cells #[.string p.nm, .slice a1 p.ins.length c1, .slice a2 p.vs.length c2, .slice a3 p.os.length c3, .string p.gd, .slice a4 p.ls.length c4] 27)
  have B1 := below_alloc (Below.refl (w.alloc (.cells #[.string p.nm, .slice a1 p.ins.length c1, .slice a2 p.vs.length c2, .slice a3 p.os.length c3, .string p.gd, .slice a4 p.ls.length c4] 27)).heap.size (w.alloc (.cells #[.string p.nm, .slice a1 p.ins.length c1, .slice a2 p.vs.length c2, .slice a3 p.os.length c3, .string p.gd, .slice a4 p.ls.length c4] 27))) (.cells #[.slice none 0 0, .slice none 0 0] 48)
  have HR : MBox ((w.alloc (.cells #[.string p.nm, .slice a1 p.ins.length c1, .slice a2 p.vs.length c2, .slice a3 p.os.length c3, .string p.gd, .slice a4 p.ls.length c4] 27)).alloc (.cells #[.slice none 0 0, .slice none 0 0] 48)) w.heap.size (w.heap.size + 1) [.slice none 0 0, .slice none 0 0] := by
    have h := own_box (w.alloc (.cells #[.string p.nm, .slice a1 p.ins.length c1, .slice a2 p.vs.length c2, .slice a3 p.os.length c3, .string p.gd, .slice a4 p.ls.length c4] 27)) w.heap.size 48 [.slice none 0 0, .slice none 0 0] 2 rfl (by simp)
    simpa [MBox] using h
  have HP : PBox ((w.alloc (.cells #[.string p.nm, .slice a1 p.ins.length c1, .slice a2 p.vs.length c2, .slice a3 p.os.length c3, .string p.gd, .slice a4 p.ls.length c4] 27)).alloc (.cells #[.slice none 0 0, .slice none 0 0] 48)) w.heap.size w.heap.size [.string p.nm, .slice a1 p.ins.length c1, .slice a2 p.vs.length c2, .slice a3 p.os.length c3, .string p.gd, .slice a4 p.ls.length c4] := own_below (own_box w w.heap.size 27 [.string p.nm, .slice a1 p.ins.length c1, .slice a2 p.vs.length c2, .slice a3 p.os.length c3, .string p.gd, .slice a4 p.ls.length c4] 6 rfl (Nat.le_refl _)) B1
  have HPre : Hid (DpW B base w ((w.alloc (.cells #[.string p.nm, .slice a1 p.ins.length c1, .slice a2 p.vs.length c2, .slice a3 p.os.length c3, .string p.gd, .slice a4 p.ls.length c4] 27)).alloc (.cells #[.slice none 0 0, .slice none 0 0] 48)) p a1 a2 a3 a4 c1 c2 c3 c4 ds) := Lib.hid ⟨ho.below (below_chain B0 B1), HR, HP, (DW.start h).below hBl (below_chain B0 B1), by simp⟩
  clear B0 B1 HR HP h ho hs hz
  go_enter Tryz.func104, Tryz.ntmps104
  dsimp only [pv] at *
  go_upto_region 1 with (fail)
  generalize (w.alloc (.cells #[.string p.nm, .slice a1 p.ins.length c1, .slice a2 p.vs.length c2, .slice a3 p.os.length c3, .string p.gd, .slice a4 p.ls.length c4] 27)).alloc (.cells #[.slice none 0 0, .slice none 0 0] 48) = W at *
  obtain ⟨⟨k0, k1, k2, k3, k4, k5⟩, _, _⟩ := PBox.c HPre.out.p
  go_cut [5, 6] from 8 to 15 (fun xp cd wx => ∃ (xb n1 n2 d1 d2 : Nat) (x1 x2 : Option Addr) (code : Int) (vs : List Int) (bs : List Bs), xp = .pointer (some ⟨xb, 0, none⟩) ∧ cd = .int .i64 code ∧ n1 ≤ 20 ∧ n2 ≤ 1600 ∧ Hid (DmW B w wx p a1 a2 a3 a4 c1 c2 c3 c4 xb x1 x2 d1 d2 n1 n2 vs bs))
  case first =>
    refine wp_region_held_drew (S := (fun w' => w'.cell? ⟨w.heap.size, 0, none⟩ = some (.string p.nm) ∧ w'.cell? ⟨w.heap.size, 1, none⟩ = some (.slice a1 p.ins.length c1) ∧ w'.cell? ⟨w.heap.size, 2, none⟩ = some (.slice a2 p.vs.length c2) ∧ w'.cell? ⟨w.heap.size, 3, none⟩ = some (.slice a3 p.os.length c3) ∧ w'.cell? ⟨w.heap.size, 4, none⟩ = some (.string p.gd) ∧ w'.cell? ⟨w.heap.size, 5, none⟩ = some (.slice a4 p.ls.length c4))) (by kernel_rfl) ?_ (fun hHeld => ?_)
    · exact ⟨k0, k1, k2, k3, k4, k5⟩
    refine rg_take (v := ?_) 0 rfl (by kernel_rfl) (by kernel_rfl) (by kernel_rfl) (fun _ _ _ h => h) (by kernel_rfl) ?_ (by assumption) ?_
    rotate_left
    · (intro w' hSw; (try dsimp only at hSw); go_simp; first | done | with_reducible rfl)
    simp only [Act.put, List.setIfInBounds_toArray, List.set_cons_zero, List.set_cons_succ]
    refine rg_take (v := ?_) 1 rfl (by kernel_rfl) (by kernel_rfl) (by kernel_rfl) (fun _ _ _ h => h) (by kernel_rfl) ?_ (by assumption) ?_
    rotate_left
    · (intro w' hSw; (try dsimp only at hSw); go_simp; first | done | with_reducible rfl)
    simp only [Act.put, List.setIfInBounds_toArray, List.set_cons_zero, List.set_cons_succ]
    refine rg_take (v := ?_) 2 rfl (by kernel_rfl) (by kernel_rfl) (by kernel_rfl) (fun _ _ _ h => h) (by kernel_rfl) ?_ (by assumption) ?_
    rotate_left
    · (intro w' hSw; (try dsimp only at hSw); go_simp; first | done | with_reducible rfl)
    simp only [Act.put, List.setIfInBounds_toArray, List.set_cons_zero, List.set_cons_succ]
    refine rg_twoT 3 8 rfl rfl (by kernel_rfl) (by kernel_rfl) (by kernel_rfl) (fun K hK => ?_) (fun K hK => ?_)
    · go_simp
      refine (HDL.out _ HPre.out.d.s.drew).mono ?_
      rintro e wa ⟨O, q, oc, L, rfl, hq, hq2, hlo, hlb, hd⟩
      have HLL := Lib.hid (fun l hl => Nat.le_trans (hlb l hl) (show p.ins.length + 1 ≤ 100000000 by omega))
      have HLQ := Lib.hid hq
      have hdd := ((DW.start HPre.out.d.s).drew HPre.out.d.s.lt).then_ hd
      have HA := Lib.hid (HPre.out.dw hdd hBl hbase)
      have HLS := Lib.hid hlo.rd
      clear hlb hq hlo hd hdd HPre k0 k1 k2 k3 k4 k5
      obtain ⟨⟨k0, k1, k2, k3, k4, k5⟩, _, _⟩ := PBox.c HA.out.p
      go_wp2
      clear hHeld
      refine hK.out _ _ (by exact ⟨k0, k1, k2, k3, k4, k5⟩) (fun hHeld => ?_)
      clear hK K
      try simp only [Act.put, List.setIfInBounds_toArray, List.set_cons_zero, List.set_cons_succ]
      refine rg_twoT 4 8 rfl rfl (by kernel_rfl) (by kernel_rfl) (by kernel_rfl) (fun K hK => ?_) (fun K hK => ?_)
      · go_simp
        refine (HMA.out O q oc L _ HA.out.o.pg HLQ.out hq2 HLL.out HLS.out).mono ?_
        rintro e wb ⟨x1, x2, n1, n2, d1, d2, code, vs, bs, rfl, hm, hn1, hn2⟩
        have HV := Lib.hid (own_mono hm.v (base' := w.heap.size) HA.out.d.g.size)
        have HBS := Lib.hid (own_mono hm.b (base' := w.heap.size) HA.out.d.g.size)
        have hb := hm.w
        have HB := Lib.hid (HA.out.below hb hBl)
        clear hm hb HA HLS k0 k1 k2 k3 k4 k5
        obtain ⟨⟨k0, k1, k2, k3, k4, k5⟩, _, _⟩ := PBox.c HB.out.p
        go_wp2
        clear hHeld
        refine hK.out _ _ (by exact ⟨k0, k1, k2, k3, k4, k5⟩) (fun hHeld => ?_)
        clear hK K
        try simp only [Act.put, List.setIfInBounds_toArray, List.set_cons_zero, List.set_cons_succ]
        refine rg_take (v := ?_) 5 rfl (by kernel_rfl) (by kernel_rfl) (by kernel_rfl) (fun _ _ _ h => h) (by kernel_rfl) ?_ (by assumption) ?_
        rotate_left
        · (intro w' hSw; (try dsimp only at hSw); go_simp; first | done | with_reducible rfl)
        simp only [Act.put, List.setIfInBounds_toArray, List.set_cons_zero, List.set_cons_succ]
        refine rg_take (v := ?_) 6 rfl (by kernel_rfl) (by kernel_rfl) (by kernel_rfl) (fun _ _ _ h => h) (by kernel_rfl) ?_ (by assumption) ?_
        rotate_left
        · (intro w' hSw; (try dsimp only at hSw); go_simp; first | done | with_reducible rfl)
        simp only [Act.put, List.setIfInBounds_toArray, List.set_cons_zero, List.set_cons_succ]
        refine rg_take (v := ?_) 7 rfl (by kernel_rfl) (by kernel_rfl) (by kernel_rfl) (fun _ _ _ h => h) (by kernel_rfl) ?_ (by assumption) ?_
        rotate_left
        · (intro w' hSw; (try dsimp only at hSw); go_simp; first | done | with_reducible rfl)
        simp only [Act.put, List.setIfInBounds_toArray, List.set_cons_zero, List.set_cons_succ]
        refine rg_run 8 rfl (by kernel_rfl) (by kernel_rfl) (fun K hK => ?_)
        go_simp
        have BN := below_alloc (Below.refl wb.heap.size wb) (.cells #[.slice none 0 0, .slice none 0 0] 48)
        have HB2 := Lib.hid (HB.out.below BN hBl)
        have HX2 : Hid (MBox (wb.alloc (.cells #[.slice none 0 0, .slice none 0 0] 48)) w.heap.size wb.heap.size [.slice none 0 0, .slice none 0 0]) := Lib.hid (own_box wb w.heap.size 48 [.slice none 0 0, .slice none 0 0] 2 rfl HB.out.d.g.size)
        have hne : w.heap.size + 1 < wb.heap.size := HB.out.z
        replace k0 := cell_later BN (by exact k0)
        replace k1 := cell_later BN (by exact k1)
        replace k2 := cell_later BN (by exact k2)
        replace k3 := cell_later BN (by exact k3)
        replace k4 := cell_later BN (by exact k4)
        replace k5 := cell_later BN (by exact k5)
        have HV2 := Lib.hid (own_below HV.out BN)
        have HBS2 := Lib.hid (own_below HBS.out BN)
        clear HV HBS
        clear BN HB
        generalize wb.alloc (.cells #[.slice none 0 0, .slice none 0 0] 48) = wc at *
        generalize wb.heap.size = xb at *
        clear hHeld
        refine hK.out _ _ (by exact ⟨k0, k1, k2, k3, k4, k5⟩) (fun hHeld => ?_)
        clear hK K
        try simp only [Act.put, List.setIfInBounds_toArray, List.set_cons_zero, List.set_cons_succ]
        obtain ⟨⟨m0, m1⟩, ⟨f0, f1⟩, _⟩ := MBox.c HX2.out
        have HM := Lib.hid (HB2.out.put HX2.out HV2.out HBS2.out hne hBl)
        clear k0 k1 k2 k3 k4 k5
        obtain ⟨⟨k0, k1, k2, k3, k4, k5⟩, _, _⟩ := PBox.c HM.out.p
        refine rg_run 9 rfl (by kernel_rfl) (by kernel_rfl) (fun K hK => ?_)
        go_simp
        clear hHeld
        refine hK.out _ _ (by exact ⟨k0, k1, k2, k3, k4, k5⟩) (fun hHeld => ?_)
        clear hK K
        try simp only [Act.put, List.setIfInBounds_toArray, List.set_cons_zero, List.set_cons_succ]
        refine rg_take (v := ?_) 10 rfl (by kernel_rfl) (by kernel_rfl) (by kernel_rfl) (fun _ _ _ h => h) (by kernel_rfl) ?_ (by assumption) ?_
        rotate_left
        · (intro w' hSw; (try dsimp only at hSw); go_simp; first | done | with_reducible rfl)
        simp only [Act.put, List.setIfInBounds_toArray, List.set_cons_zero, List.set_cons_succ]
        refine wpAnyH_done (by kernel_rfl) ?_ _
        clear hHeld
        generalize (wc.setCell ⟨xb, 0, none⟩ (.slice x1 n1 d1)).setCell ⟨xb, 1, none⟩ (.slice x2 n2 d2) = WX at *
        clear m0 m1 f0 f1 k0 k1 k2 k3 k4 k5
        go_wp2
        go_meet
        case rel => exact ⟨xb, n1, n2, d1, d2, x1, x2, code, vs, bs, rfl, rfl, hn1, hn2, HM⟩
      · go_simp
        have BN := below_alloc (Below.refl wa.heap.size wa) (.cells #[.slice none 0 0, .slice none 0 0] 48)
        have HB2 := Lib.hid (HA.out.below BN hBl)
        have HX2 : Hid (MBox (wa.alloc (.cells #[.slice none 0 0, .slice none 0 0] 48)) w.heap.size wa.heap.size [.slice none 0 0, .slice none 0 0]) := Lib.hid (own_box wa w.heap.size 48 [.slice none 0 0, .slice none 0 0] 2 rfl HA.out.d.g.size)
        have hne : w.heap.size + 1 < wa.heap.size := HA.out.z
        replace k0 := cell_later BN (by exact k0)
        replace k1 := cell_later BN (by exact k1)
        replace k2 := cell_later BN (by exact k2)
        replace k3 := cell_later BN (by exact k3)
        replace k4 := cell_later BN (by exact k4)
        replace k5 := cell_later BN (by exact k5)
        clear BN HA
        have HLS2 := Lib.hid (HLS.out.below (below_alloc (Below.refl wa.heap.size wa) (.cells #[.slice none 0 0, .slice none 0 0] 48)))
        clear HLS
        have HLS := HLS2
        clear HLS2
        generalize wa.alloc (.cells #[.slice none 0 0, .slice none 0 0] 48) = wc at *
        generalize wa.heap.size = xb at *
        clear hHeld
        refine hK.out _ _ (by exact ⟨k0, k1, k2, k3, k4, k5⟩) (fun hHeld => ?_)
        clear hK K
        try simp only [Act.put, List.setIfInBounds_toArray, List.set_cons_zero, List.set_cons_succ]
        refine rg_run 4 rfl (by kernel_rfl) (by kernel_rfl) (fun K hK => ?_)
        go_simp
        refine (HMA.out O q oc L _ HB2.out.o.pg HLQ.out hq2 HLL.out HLS.out).mono ?_
        rintro e wb ⟨x1, x2, n1, n2, d1, d2, code, vs, bs, rfl, hm, hn1, hn2⟩
        have HV := Lib.hid (own_mono hm.v (base' := w.heap.size) HB2.out.d.g.size)
        have HBS := Lib.hid (own_mono hm.b (base' := w.heap.size) HB2.out.d.g.size)
        have hb := hm.w
        have HB := Lib.hid (HB2.out.below hb hBl)
        have HX : Hid (MBox _ _ _ _) := Lib.hid (own_below HX2.out hb)
        clear hm hb HB2 HX2 HLS k0 k1 k2 k3 k4 k5
        obtain ⟨⟨k0, k1, k2, k3, k4, k5⟩, _, _⟩ := PBox.c HB.out.p
        go_wp2
        clear hHeld
        refine hK.out _ _ (by exact ⟨k0, k1, k2, k3, k4, k5⟩) (fun hHeld => ?_)
        clear hK K
        try simp only [Act.put, List.setIfInBounds_toArray, List.set_cons_zero, List.set_cons_succ]
        refine rg_take (v := ?_) 5 rfl (by kernel_rfl) (by kernel_rfl) (by kernel_rfl) (fun _ _ _ h => h) (by kernel_rfl) ?_ (by assumption) ?_
        rotate_left
        · (intro w' hSw; (try dsimp only at hSw); go_simp; first | done | with_reducible rfl)
        simp only [Act.put, List.setIfInBounds_toArray, List.set_cons_zero, List.set_cons_succ]
        refine rg_take (v := ?_) 6 rfl (by kernel_rfl) (by kernel_rfl) (by kernel_rfl) (fun _ _ _ h => h) (by kernel_rfl) ?_ (by assumption) ?_
        rotate_left
        · (intro w' hSw; (try dsimp only at hSw); go_simp; first | done | with_reducible rfl)
        simp only [Act.put, List.setIfInBounds_toArray, List.set_cons_zero, List.set_cons_succ]
        refine rg_take (v := ?_) 7 rfl (by kernel_rfl) (by kernel_rfl) (by kernel_rfl) (fun _ _ _ h => h) (by kernel_rfl) ?_ (by assumption) ?_
        rotate_left
        · (intro w' hSw; (try dsimp only at hSw); go_simp; first | done | with_reducible rfl)
        simp only [Act.put, List.setIfInBounds_toArray, List.set_cons_zero, List.set_cons_succ]
        obtain ⟨⟨m0, m1⟩, ⟨f0, f1⟩, _⟩ := MBox.c HX.out
        have HM := Lib.hid (HB.out.put HX.out HV.out HBS.out hne hBl)
        clear k0 k1 k2 k3 k4 k5
        obtain ⟨⟨k0, k1, k2, k3, k4, k5⟩, _, _⟩ := PBox.c HM.out.p
        refine rg_run 9 rfl (by kernel_rfl) (by kernel_rfl) (fun K hK => ?_)
        go_simp
        clear hHeld
        refine hK.out _ _ (by exact ⟨k0, k1, k2, k3, k4, k5⟩) (fun hHeld => ?_)
        clear hK K
        try simp only [Act.put, List.setIfInBounds_toArray, List.set_cons_zero, List.set_cons_succ]
        refine rg_take (v := ?_) 10 rfl (by kernel_rfl) (by kernel_rfl) (by kernel_rfl) (fun _ _ _ h => h) (by kernel_rfl) ?_ (by assumption) ?_
        rotate_left
        · (intro w' hSw; (try dsimp only at hSw); go_simp; first | done | with_reducible rfl)
        simp only [Act.put, List.setIfInBounds_toArray, List.set_cons_zero, List.set_cons_succ]
        refine wpAnyH_done (by kernel_rfl) ?_ _
        clear hHeld
        generalize (wb.setCell ⟨xb, 0, none⟩ (.slice x1 n1 d1)).setCell ⟨xb, 1, none⟩ (.slice x2 n2 d2) = WX at *
        clear m0 m1 f0 f1 k0 k1 k2 k3 k4 k5
        go_wp2
        go_meet
        case rel => exact ⟨xb, n1, n2, d1, d2, x1, x2, code, vs, bs, rfl, rfl, hn1, hn2, HM⟩
    · go_simp
      have BN : Below W.heap.size W (W.alloc (.cells #[.slice none 0 0, .slice none 0 0] 48)).drew := (below_alloc (Below.refl _ _) _).drew
      have HB2 := Lib.hid (HPre.out.below BN hBl)
      have HX2 : Hid (MBox (W.alloc (.cells #[.slice none 0 0, .slice none 0 0] 48)).drew w.heap.size W.heap.size [.slice none 0 0, .slice none 0 0]) := Lib.hid (own_below (own_box W w.heap.size 48 [.slice none 0 0, .slice none 0 0] 2 rfl HPre.out.d.g.size) (Below.refl _ _).drew)
      have hne : w.heap.size + 1 < W.heap.size := HPre.out.z
      replace k0 := cell_later BN (by exact k0)
      replace k1 := cell_later BN (by exact k1)
      replace k2 := cell_later BN (by exact k2)
      replace k3 := cell_later BN (by exact k3)
      replace k4 := cell_later BN (by exact k4)
      replace k5 := cell_later BN (by exact k5)
      clear BN HPre
      generalize (W.alloc (.cells #[.slice none 0 0, .slice none 0 0] 48)).drew = wc at *
      generalize W.heap.size = xb at *
      clear hHeld
      refine hK.out _ _ (by exact ⟨k0, k1, k2, k3, k4, k5⟩) (fun hHeld => ?_)
      clear hK K
      try simp only [Act.put, List.setIfInBounds_toArray, List.set_cons_zero, List.set_cons_succ]
      refine rg_run 3 rfl (by kernel_rfl) (by kernel_rfl) (fun K hK => ?_)
      go_simp
      refine (HDL.out _ HB2.out.d.s).mono ?_
      rintro e wa ⟨O, q, oc, L, rfl, hq, hq2, hlo, hlb, hd⟩
      have HLL := Lib.hid (fun l hl => Nat.le_trans (hlb l hl) (show p.ins.length + 1 ≤ 100000000 by omega))
      have HLQ := Lib.hid hq
      have hdd := hd
      have HA := Lib.hid (HB2.out.dw hdd hBl hbase)
      have HX3 : Hid (MBox _ _ _ _) := Lib.hid (hdd.own HX2.out hBl)
      have HLS := Lib.hid hlo.rd
      clear hlb hq hlo hd hdd HB2 HX2 k0 k1 k2 k3 k4 k5
      obtain ⟨⟨k0, k1, k2, k3, k4, k5⟩, _, _⟩ := PBox.c HA.out.p
      go_wp2
      clear hHeld
      refine hK.out _ _ (by exact ⟨k0, k1, k2, k3, k4, k5⟩) (fun hHeld => ?_)
      clear hK K
      try simp only [Act.put, List.setIfInBounds_toArray, List.set_cons_zero, List.set_cons_succ]
      refine rg_run 4 rfl (by kernel_rfl) (by kernel_rfl) (fun K hK => ?_)
      go_simp
      refine (HMA.out O q oc L _ HA.out.o.pg HLQ.out hq2 HLL.out HLS.out).mono ?_
      rintro e wb ⟨x1, x2, n1, n2, d1, d2, code, vs, bs, rfl, hm, hn1, hn2⟩
      have HV := Lib.hid (own_mono hm.v (base' := w.heap.size) HA.out.d.g.size)
      have HBS := Lib.hid (own_mono hm.b (base' := w.heap.size) HA.out.d.g.size)
      have hb := hm.w
      have HB := Lib.hid (HA.out.below hb hBl)
      have HX : Hid (MBox _ _ _ _) := Lib.hid (own_below HX3.out hb)
      clear hm hb HA HX3 HLS k0 k1 k2 k3 k4 k5
      obtain ⟨⟨k0, k1, k2, k3, k4, k5⟩, _, _⟩ := PBox.c HB.out.p
      go_wp2
      clear hHeld
      refine hK.out _ _ (by exact ⟨k0, k1, k2, k3, k4, k5⟩) (fun hHeld => ?_)
      clear hK K
      try simp only [Act.put, List.setIfInBounds_toArray, List.set_cons_zero, List.set_cons_succ]
      refine rg_take (v := ?_) 5 rfl (by kernel_rfl) (by kernel_rfl) (by kernel_rfl) (fun _ _ _ h => h) (by kernel_rfl) ?_ (by assumption) ?_
      rotate_left
      · (intro w' hSw; (try dsimp only at hSw); go_simp; first | done | with_reducible rfl)
      simp only [Act.put, List.setIfInBounds_toArray, List.set_cons_zero, List.set_cons_succ]
      refine rg_take (v := ?_) 6 rfl (by kernel_rfl) (by kernel_rfl) (by kernel_rfl) (fun _ _ _ h => h) (by kernel_rfl) ?_ (by assumption) ?_
      rotate_left
      · (intro w' hSw; (try dsimp only at hSw); go_simp; first | done | with_reducible rfl)
      simp only [Act.put, List.setIfInBounds_toArray, List.set_cons_zero, List.set_cons_succ]
      refine rg_take (v := ?_) 7 rfl (by kernel_rfl) (by kernel_rfl) (by kernel_rfl) (fun _ _ _ h => h) (by kernel_rfl) ?_ (by assumption) ?_
      rotate_left
      · (intro w' hSw; (try dsimp only at hSw); go_simp; first | done | with_reducible rfl)
      simp only [Act.put, List.setIfInBounds_toArray, List.set_cons_zero, List.set_cons_succ]
      obtain ⟨⟨m0, m1⟩, ⟨f0, f1⟩, _⟩ := MBox.c HX.out
      have HM := Lib.hid (HB.out.put HX.out HV.out HBS.out hne hBl)
      clear k0 k1 k2 k3 k4 k5
      obtain ⟨⟨k0, k1, k2, k3, k4, k5⟩, _, _⟩ := PBox.c HM.out.p
      refine rg_run 9 rfl (by kernel_rfl) (by kernel_rfl) (fun K hK => ?_)
      go_simp
      clear hHeld
      refine hK.out _ _ (by exact ⟨k0, k1, k2, k3, k4, k5⟩) (fun hHeld => ?_)
      clear hK K
      try simp only [Act.put, List.setIfInBounds_toArray, List.set_cons_zero, List.set_cons_succ]
      refine rg_take (v := ?_) 10 rfl (by kernel_rfl) (by kernel_rfl) (by kernel_rfl) (fun _ _ _ h => h) (by kernel_rfl) ?_ (by assumption) ?_
      rotate_left
      · (intro w' hSw; (try dsimp only at hSw); go_simp; first | done | with_reducible rfl)
      simp only [Act.put, List.setIfInBounds_toArray, List.set_cons_zero, List.set_cons_succ]
      refine wpAnyH_done (by kernel_rfl) ?_ _
      clear hHeld
      generalize (wb.setCell ⟨xb, 0, none⟩ (.slice x1 n1 d1)).setCell ⟨xb, 1, none⟩ (.slice x2 n2 d2) = WX at *
      clear m0 m1 f0 f1 k0 k1 k2 k3 k4 k5
      go_wp2
      go_meet
      case rel => exact ⟨xb, n1, n2, d1, d2, x1, x2, code, vs, bs, rfl, rfl, hn1, hn2, HM⟩
  case rest =>
    obtain ⟨xb, n1, n2, d1, d2, x1, x2, code, vs, bs, rfl, rfl, hn1, hn2, HM⟩ := hcut
    clear HDL HMA HPre k0 k1 k2 k3 k4 k5 hpi
    by_cases hc : code = 0
    · subst hc
      go_wp2_with (fail)
      refine (c_NextD B 30 _ HM.out.d.s (by omega)).mono ?_
      rintro e w2 ⟨r, rfl, hr0, hr1, _, hd2⟩
      have HM2 := Lib.hid (HM.out.dw hd2 hBl)
      clear hd2 HM
      have HM := HM2
      clear HM2
      have hr30 := hr1 (by omega)
      clear hr1
      by_cases e0 : r = 0
      · subst e0
        clear hr0 hr30
        go_upto_region 6 with (fail)
        have HX : Hid (MBox _ _ _ _) := Lib.hid HM.out.x
        have HR : Hid (MBox _ _ _ _) := Lib.hid HM.out.r
        have HV := Lib.hid HM.out.v
        have HBb := Lib.hid HM.out.b
        have HD := Lib.hid HM.out.d
        clear HM
        obtain ⟨⟨y0, y1⟩, _, _⟩ := MBox.c HX.out
        have HLV : Hid (n1 = vs.length) := Lib.hid (by have := HV.out.1; rw [ints_length] at this; omega)
        refine wp_region_heldE 8 (S := (fun w' => w'.cell? ⟨xb, 0, none⟩ = some (.slice x1 n1 d1) ∧ w'.cell? ⟨xb, 1, none⟩ = some (.slice x2 n2 d2))) (by kernel_rfl) ?_ (fun hHeld => ?_)
        · exact ⟨y0, y1⟩
        refine rgE_take (v := ?_) 0 12 rfl (by kernel_rfl) (by kernel_rfl) (by kernel_rfl) (by kernel_rfl) (by kernel_rfl) (fun _ _ _ h => h) (by kernel_rfl) ?_ (by assumption) ?_
        rotate_left
        · (intro w' hSw; (try dsimp only at hSw); go_simp; first | done | with_reducible rfl)
        simp only [Act.put, List.setIfInBounds_toArray, List.set_cons_zero, List.set_cons_succ]
        refine rgE_take (v := ?_) 1 12 rfl (by kernel_rfl) (by kernel_rfl) (by kernel_rfl) (by kernel_rfl) (by kernel_rfl) (fun _ _ _ h => h) (by kernel_rfl) ?_ (by assumption) ?_
        rotate_left
        · (intro w' hSw; (try dsimp only at hSw); go_simp; first | done | with_reducible rfl)
        simp only [Act.put, List.setIfInBounds_toArray, List.set_cons_zero, List.set_cons_succ]
        refine rgE_take (v := ?_) 5 12 rfl (by kernel_rfl) (by kernel_rfl) (by kernel_rfl) (by kernel_rfl) (by kernel_rfl) (fun _ _ _ h => h) (by kernel_rfl) ?_ (by assumption) ?_
        rotate_left
        · (intro w' hSw; (try dsimp only at hSw); go_simp; first | done | with_reducible rfl)
        simp only [Act.put, List.setIfInBounds_toArray, List.set_cons_zero, List.set_cons_succ]
        refine rgE_take (v := ?_) 6 12 rfl (by kernel_rfl) (by kernel_rfl) (by kernel_rfl) (by kernel_rfl) (by kernel_rfl) (fun _ _ _ h => h) (by kernel_rfl) ?_ (by assumption) ?_
        rotate_left
        · (intro w' hSw; (try dsimp only at hSw); go_simp; first | done | with_reducible rfl)
        simp only [Act.put, List.setIfInBounds_toArray, List.set_cons_zero, List.set_cons_succ]
        refine rgE_two 2 3 rfl rfl (by kernel_rfl) (by kernel_rfl) (by kernel_rfl) (by decide) (by decide) (fun K hK => ?_) (fun K hK => ?_)
        · skip
          go_simp
          refine (c_l01OwnQ w.heap.size n1 d1 x1 vs _ HLV.out (by omega) (own_below HV.out (Below.refl _ _).drew)).mono ?_
          rintro e v1 ⟨g2, gc, rfl, ho, hb⟩
          replace hb := below_chain (Below.refl w2.heap.size w2).drew hb
          have HO := Lib.hid (own_mono ho (base' := w.heap.size) HD.out.g.size)
          clear ho
          have HXn := Lib.hid (own_below HX.out hb)
          clear HX
          have HX := HXn
          clear HXn
          have HRn := Lib.hid (own_below HR.out hb)
          clear HR
          have HR := HRn
          clear HRn
          have HVn := Lib.hid (own_below HV.out hb)
          clear HV
          have HV := HVn
          clear HVn
          have HBbn := Lib.hid (own_below HBb.out hb)
          clear HBb
          have HBb := HBbn
          clear HBbn
          have HDn := Lib.hid (HD.out.below hBl hb)
          clear HD
          have HD := HDn
          clear HDn
          clear hb
          clear y0 y1
          obtain ⟨⟨y0, y1⟩, _, _⟩ := MBox.c HX.out
          go_wp2
          clear hHeld
          refine hK.out _ _ (.inr (by exact ⟨y0, y1⟩)) (fun hHeld => ?_)
          clear hK K
          try simp only [Act.put, List.setIfInBounds_toArray, List.set_cons_zero, List.set_cons_succ]
          refine rgE_run 3 rfl (by kernel_rfl) (by kernel_rfl) (by decide) (fun K hK => ?_)
          have hb : Below v1.heap.size v1 (v1.alloc (.cells #[.int .i64 0] 2)) := below_alloc (Below.refl _ _) _
          have c0 : (v1.alloc (.cells #[.int .i64 0] 2)).cell? ⟨v1.heap.size, 0, none⟩ = some (.int .i64 0) := by go_simp
          have HXn := Lib.hid (own_below HX.out hb)
          clear HX
          have HX := HXn
          clear HXn
          have HRn := Lib.hid (own_below HR.out hb)
          clear HR
          have HR := HRn
          clear HRn
          have HVn := Lib.hid (own_below HV.out hb)
          clear HV
          have HV := HVn
          clear HVn
          have HBbn := Lib.hid (own_below HBb.out hb)
          clear HBb
          have HBb := HBbn
          clear HBbn
          have HDn := Lib.hid (HD.out.below hBl hb)
          clear HD
          have HD := HDn
          clear HDn
          have HOn := Lib.hid (own_below HO.out hb)
          clear HO
          have HO := HOn
          clear HOn
          clear hb y0 y1
          go_simp
          generalize v1.alloc (.cells #[.int .i64 0] 2) = v2 at *
          generalize v1.heap.size = e2 at *
          obtain ⟨⟨y0, y1⟩, _, _⟩ := MBox.c HX.out
          clear hHeld
          refine hK.out _ _ (.inr (by exact ⟨y0, y1⟩)) (fun hHeld => ?_)
          clear hK K
          try simp only [Act.put, List.setIfInBounds_toArray, List.set_cons_zero, List.set_cons_succ]
          refine rgE_run 4 rfl (by kernel_rfl) (by kernel_rfl) (by decide) (fun K hK => ?_)
          refine wp_push_intZ _ (.tmp 29) (.tmp 30) rfl w.heap.size _ n1 vs 0 e2 1 rfl HO.out rfl c0 (by omega) HD.out.g.size ?_
          intro v' v3 hown hgrow
          obtain ⟨A2, c2, rfl⟩ := own_shape hown
          have HP := Lib.hid hown
          have HXn := Lib.hid (own_keep HX.out HO.out (by decide) hgrow)
          clear HX
          have HX := HXn
          clear HXn
          have HRn := Lib.hid (own_keep HR.out HO.out (by decide) hgrow)
          clear HR
          have HR := HRn
          clear HRn
          have HBbn := Lib.hid (own_keep HBb.out HO.out (by decide) hgrow)
          clear HBb
          have HBb := HBbn
          clear HBbn
          have HDn := Lib.hid (HD.out.far hBl hgrow (fun q hq => (HO.out.lt q hq).1))
          clear HD
          have HD := HDn
          clear HDn
          clear hown hgrow HV HO c0
          clear y0 y1
          obtain ⟨⟨y0, y1⟩, _, _⟩ := MBox.c HX.out
          clear hHeld
          refine hK.out _ _ (.inr (by exact ⟨y0, y1⟩)) (fun hHeld => ?_)
          clear hK K
          try simp only [Act.put, List.setIfInBounds_toArray, List.set_cons_zero, List.set_cons_succ]
          refine rgE_take (v := ?_) 7 12 rfl (by kernel_rfl) (by kernel_rfl) (by kernel_rfl) (by kernel_rfl) (by kernel_rfl) (fun _ _ _ h => h) (by kernel_rfl) ?_ (by assumption) ?_
          rotate_left
          · (intro w' hSw; (try dsimp only at hSw); go_simp; first | done | with_reducible rfl)
          simp only [Act.put, List.setIfInBounds_toArray, List.set_cons_zero, List.set_cons_succ]
          obtain ⟨WF, hWF, r0, r1, hfin⟩ := fin_mem (x1 := A2) (n1 := (n1 + 1)) (d1 := c2) (x2 := x2) (n2 := n2) (d2 := d2) HR.out HP.out HBb.out HD.out hBl (by omega) (by omega)
          have HF := Lib.hid hWF
          have HFIN := Lib.hid hfin
          clear hWF hfin
          obtain ⟨⟨m0, m1⟩, ⟨f0, f1⟩, _⟩ := MBox.c HR.out
          refine rgE_last rfl (by kernel_rfl) (by kernel_rfl) (by kernel_rfl) (fun K hK => ?_)
          go_simp
          clear hHeld
          refine hK.out _ _ ?_
          clear hK K
          try simp only [Act.put, List.setIfInBounds_toArray, List.set_cons_zero, List.set_cons_succ]
          rw [← HF.out]
          clear m0 m1 f0 f1
          go_wp2_with (fail)
          refine bodyPost_ret (v := .agg #[.slice A2 (n1 + 1) c2, .slice x2 n2 d2]) (by simp [results, Tryz.results104, go_sem, r0, r1]) rfl HFIN.out
        · skip
          have hb : Below w2.heap.size w2 (w2.alloc (.cells #[.int .i64 0] 2)).drew := (below_alloc (Below.refl _ _) _).drew
          have c0 : (w2.alloc (.cells #[.int .i64 0] 2)).drew.cell? ⟨w2.heap.size, 0, none⟩ = some (.int .i64 0) := by go_simp
          have HXn := Lib.hid (own_below HX.out hb)
          clear HX
          have HX := HXn
          clear HXn
          have HRn := Lib.hid (own_below HR.out hb)
          clear HR
          have HR := HRn
          clear HRn
          have HVn := Lib.hid (own_below HV.out hb)
          clear HV
          have HV := HVn
          clear HVn
          have HBbn := Lib.hid (own_below HBb.out hb)
          clear HBb
          have HBb := HBbn
          clear HBbn
          have HDn := Lib.hid (HD.out.below hBl hb)
          clear HD
          have HD := HDn
          clear HDn
          clear hb y0 y1
          go_simp
          generalize (w2.alloc (.cells #[.int .i64 0] 2)).drew = v1 at *
          generalize w2.heap.size = e2 at *
          obtain ⟨⟨y0, y1⟩, _, _⟩ := MBox.c HX.out
          clear hHeld
          refine hK.out _ _ (.inr (by exact ⟨y0, y1⟩)) (fun hHeld => ?_)
          clear hK K
          try simp only [Act.put, List.setIfInBounds_toArray, List.set_cons_zero, List.set_cons_succ]
          refine rgE_run 2 rfl (by kernel_rfl) (by kernel_rfl) (by decide) (fun K hK => ?_)
          go_simp
          refine (c_l01OwnQ w.heap.size n1 d1 x1 vs _ HLV.out (by omega) HV.out).mono ?_
          rintro e v2 ⟨g2, gc, rfl, ho, hb⟩
          have HO := Lib.hid (own_mono ho (base' := w.heap.size) HD.out.g.size)
          replace c0 := cell_later hb c0
          clear ho
          have HXn := Lib.hid (own_below HX.out hb)
          clear HX
          have HX := HXn
          clear HXn
          have HRn := Lib.hid (own_below HR.out hb)
          clear HR
          have HR := HRn
          clear HRn
          have HVn := Lib.hid (own_below HV.out hb)
          clear HV
          have HV := HVn
          clear HVn
          have HBbn := Lib.hid (own_below HBb.out hb)
          clear HBb
          have HBb := HBbn
          clear HBbn
          have HDn := Lib.hid (HD.out.below hBl hb)
          clear HD
          have HD := HDn
          clear HDn
          clear hb
          clear y0 y1
          obtain ⟨⟨y0, y1⟩, _, _⟩ := MBox.c HX.out
          go_wp2
          clear hHeld
          refine hK.out _ _ (.inr (by exact ⟨y0, y1⟩)) (fun hHeld => ?_)
          clear hK K
          try simp only [Act.put, List.setIfInBounds_toArray, List.set_cons_zero, List.set_cons_succ]
          refine rgE_run 4 rfl (by kernel_rfl) (by kernel_rfl) (by decide) (fun K hK => ?_)
          refine wp_push_intZ _ (.tmp 29) (.tmp 30) rfl w.heap.size _ n1 vs 0 e2 1 rfl HO.out rfl c0 (by omega) HD.out.g.size ?_
          intro v' v3 hown hgrow
          obtain ⟨A2, c2, rfl⟩ := own_shape hown
          have HP := Lib.hid hown
          have HXn := Lib.hid (own_keep HX.out HO.out (by decide) hgrow)
          clear HX
          have HX := HXn
          clear HXn
          have HRn := Lib.hid (own_keep HR.out HO.out (by decide) hgrow)
          clear HR
          have HR := HRn
          clear HRn
          have HBbn := Lib.hid (own_keep HBb.out HO.out (by decide) hgrow)
          clear HBb
          have HBb := HBbn
          clear HBbn
          have HDn := Lib.hid (HD.out.far hBl hgrow (fun q hq => (HO.out.lt q hq).1))
          clear HD
          have HD := HDn
          clear HDn
          clear hown hgrow HV HO c0
          clear y0 y1
          obtain ⟨⟨y0, y1⟩, _, _⟩ := MBox.c HX.out
          clear hHeld
          refine hK.out _ _ (.inr (by exact ⟨y0, y1⟩)) (fun hHeld => ?_)
          clear hK K
          try simp only [Act.put, List.setIfInBounds_toArray, List.set_cons_zero, List.set_cons_succ]
          refine rgE_take (v := ?_) 7 12 rfl (by kernel_rfl) (by kernel_rfl) (by kernel_rfl) (by kernel_rfl) (by kernel_rfl) (fun _ _ _ h => h) (by kernel_rfl) ?_ (by assumption) ?_
          rotate_left
          · (intro w' hSw; (try dsimp only at hSw); go_simp; first | done | with_reducible rfl)
          simp only [Act.put, List.setIfInBounds_toArray, List.set_cons_zero, List.set_cons_succ]
          obtain ⟨WF, hWF, r0, r1, hfin⟩ := fin_mem (x1 := A2) (n1 := (n1 + 1)) (d1 := c2) (x2 := x2) (n2 := n2) (d2 := d2) HR.out HP.out HBb.out HD.out hBl (by omega) (by omega)
          have HF := Lib.hid hWF
          have HFIN := Lib.hid hfin
          clear hWF hfin
          obtain ⟨⟨m0, m1⟩, ⟨f0, f1⟩, _⟩ := MBox.c HR.out
          refine rgE_last rfl (by kernel_rfl) (by kernel_rfl) (by kernel_rfl) (fun K hK => ?_)
          go_simp
          clear hHeld
          refine hK.out _ _ ?_
          clear hK K
          try simp only [Act.put, List.setIfInBounds_toArray, List.set_cons_zero, List.set_cons_succ]
          rw [← HF.out]
          clear m0 m1 f0 f1
          go_wp2_with (fail)
          refine bodyPost_ret (v := .agg #[.slice A2 (n1 + 1) c2, .slice x2 n2 d2]) (by simp [results, Tryz.results104, go_sem, r0, r1]) rfl HFIN.out
      have n0 : (r == 0) = false := by simpa using e0
      by_cases e1 : r = 1
      · subst e1
        clear hr0 hr30 e0 n0
        go_upto_region 8 with (fail)
        have HX : Hid (MBox _ _ _ _) := Lib.hid HM.out.x
        have HR : Hid (MBox _ _ _ _) := Lib.hid HM.out.r
        have HV := Lib.hid HM.out.v
        have HBb := Lib.hid HM.out.b
        have HD := Lib.hid HM.out.d
        clear HM
        obtain ⟨⟨y0, y1⟩, _, _⟩ := MBox.c HX.out
        refine wp_region_heldE 10 (S := (fun w' => w'.cell? ⟨xb, 0, none⟩ = some (.slice x1 n1 d1) ∧ w'.cell? ⟨xb, 1, none⟩ = some (.slice x2 n2 d2))) (by kernel_rfl) ?_ (fun hHeld => ?_)
        · exact ⟨y0, y1⟩
        refine rgE_take (v := ?_) 0 12 rfl (by kernel_rfl) (by kernel_rfl) (by kernel_rfl) (by kernel_rfl) (by kernel_rfl) (fun _ _ _ h => h) (by kernel_rfl) ?_ (by assumption) ?_
        rotate_left
        · (intro w' hSw; (try dsimp only at hSw); go_simp; first | done | with_reducible rfl)
        simp only [Act.put, List.setIfInBounds_toArray, List.set_cons_zero, List.set_cons_succ]
        refine rgE_take (v := ?_) 1 12 rfl (by kernel_rfl) (by kernel_rfl) (by kernel_rfl) (by kernel_rfl) (by kernel_rfl) (fun _ _ _ h => h) (by kernel_rfl) ?_ (by assumption) ?_
        rotate_left
        · (intro w' hSw; (try dsimp only at hSw); go_simp; first | done | with_reducible rfl)
        simp only [Act.put, List.setIfInBounds_toArray, List.set_cons_zero, List.set_cons_succ]
        refine rgE_take (v := ?_) 3 12 rfl (by kernel_rfl) (by kernel_rfl) (by kernel_rfl) (by kernel_rfl) (by kernel_rfl) (fun _ _ _ h => h) (by kernel_rfl) ?_ (by assumption) ?_
        rotate_left
        · (intro w' hSw; (try dsimp only at hSw); go_simp; first | done | with_reducible rfl)
        simp only [Act.put, List.setIfInBounds_toArray, List.set_cons_zero, List.set_cons_succ]
        refine rgE_take (v := ?_) 4 12 rfl (by kernel_rfl) (by kernel_rfl) (by kernel_rfl) (by kernel_rfl) (by kernel_rfl) (fun _ _ _ h => h) (by kernel_rfl) ?_ (by assumption) ?_
        rotate_left
        · (intro w' hSw; (try dsimp only at hSw); go_simp; first | done | with_reducible rfl)
        simp only [Act.put, List.setIfInBounds_toArray, List.set_cons_zero, List.set_cons_succ]
        refine rgE_take (v := ?_) 6 12 rfl (by kernel_rfl) (by kernel_rfl) (by kernel_rfl) (by kernel_rfl) (by kernel_rfl) (fun _ _ _ h => h) (by kernel_rfl) ?_ (by assumption) ?_
        rotate_left
        · (intro w' hSw; (try dsimp only at hSw); go_simp; first | done | with_reducible rfl)
        simp only [Act.put, List.setIfInBounds_toArray, List.set_cons_zero, List.set_cons_succ]
        refine rgE_two 2 7 rfl rfl (by kernel_rfl) (by kernel_rfl) (by kernel_rfl) (by decide) (by decide) (fun K hK => ?_) (fun K hK => ?_)
        · skip
          have hb : Below w2.heap.size w2 (w2.alloc (.cells #[] 62)).drew := (below_alloc (Below.refl _ _) _).drew
          have HE : Hid ((w2.alloc (.cells #[] 62)).drew.ownsRow w.heap.size 62 3 (.slice (some ⟨w2.heap.size, 0, none⟩) 0 0) 0 (bsCells [])) := Lib.hid (own_mono (own_below (own_litB0 w2) (Below.refl _ _).drew) HD.out.g.size)
          have HXn := Lib.hid (own_below HX.out hb)
          clear HX
          have HX := HXn
          clear HXn
          have HRn := Lib.hid (own_below HR.out hb)
          clear HR
          have HR := HRn
          clear HRn
          have HVn := Lib.hid (own_below HV.out hb)
          clear HV
          have HV := HVn
          clear HVn
          have HBbn := Lib.hid (own_below HBb.out hb)
          clear HBb
          have HBb := HBbn
          clear HBbn
          have HDn := Lib.hid (HD.out.below hBl hb)
          clear HD
          have HD := HDn
          clear HDn
          clear hb y0 y1
          go_simp
          generalize (w2.alloc (.cells #[] 62)).drew = v1 at *
          generalize w2.heap.size = e2 at *
          obtain ⟨⟨y0, y1⟩, _, _⟩ := MBox.c HX.out
          clear hHeld
          refine hK.out _ _ (.inr (by exact ⟨y0, y1⟩)) (fun hHeld => ?_)
          clear hK K
          try simp only [Act.put, List.setIfInBounds_toArray, List.set_cons_zero, List.set_cons_succ]
          refine rgE_two 5 7 rfl rfl (by kernel_rfl) (by kernel_rfl) (by kernel_rfl) (by decide) (by decide) (fun K hK => ?_) (fun K hK => ?_)
          · skip
            refine wp_app_bs _ (.tmp 39) (.tmp 41) rfl w.heap.size w.heap.size (.slice (some ⟨e2, 0, none⟩) 0 0) 0 [] rfl HE.out x2 n2 d2 bs rfl HBb.out (by omega) HD.out.g.size ?_
            intro v' v2 hown hgrow
            rw [Nat.zero_add, List.nil_append] at hown
            obtain ⟨A2, c2, rfl⟩ := own_shape hown
            have HG := Lib.hid hown
            have HXn := Lib.hid (own_keep HX.out HE.out (by decide) hgrow)
            clear HX
            have HX := HXn
            clear HXn
            have HRn := Lib.hid (own_keep HR.out HE.out (by decide) hgrow)
            clear HR
            have HR := HRn
            clear HRn
            have HVn := Lib.hid (own_keep HV.out HE.out (by decide) hgrow)
            clear HV
            have HV := HVn
            clear HVn
            have HDn := Lib.hid (HD.out.far hBl hgrow (fun q hq => (HE.out.lt q hq).1))
            clear HD
            have HD := HDn
            clear HDn
            clear hown hgrow HE HBb
            clear y0 y1
            obtain ⟨⟨y0, y1⟩, _, _⟩ := MBox.c HX.out
            clear hHeld
            refine hK.out _ _ (.inr (by exact ⟨y0, y1⟩)) (fun hHeld => ?_)
            clear hK K
            try simp only [Act.put, List.setIfInBounds_toArray, List.set_cons_zero, List.set_cons_succ]
            refine rgE_run 7 rfl (by kernel_rfl) (by kernel_rfl) (by decide) (fun K hK => ?_)
            have hb : Below v2.heap.size v2 (v2.alloc (.cells #[.int .i64 0, .int .i64 0, .int .i64 0] 62)) := below_alloc (Below.refl _ _) _
            have HF1 : Hid ((v2.alloc (.cells #[.int .i64 0, .int .i64 0, .int .i64 0] 62)).ownsRow w.heap.size 62 3 (.slice (some ⟨v2.heap.size, 0, none⟩) 1 1) 1 (bsCells [⟨0, 0, 0⟩])) := Lib.hid (own_mono (own_litB1 v2) HD.out.g.size)
            have HXn := Lib.hid (own_below HX.out hb)
            clear HX
            have HX := HXn
            clear HXn
            have HRn := Lib.hid (own_below HR.out hb)
            clear HR
            have HR := HRn
            clear HRn
            have HVn := Lib.hid (own_below HV.out hb)
            clear HV
            have HV := HVn
            clear HVn
            have HDn := Lib.hid (HD.out.below hBl hb)
            clear HD
            have HD := HDn
            clear HDn
            have HGn := Lib.hid (own_below HG.out hb)
            clear HG
            have HG := HGn
            clear HGn
            clear hb y0 y1
            go_simp
            generalize v2.alloc (.cells #[.int .i64 0, .int .i64 0, .int .i64 0] 62) = v3 at *
            generalize v2.heap.size = z2 at *
            obtain ⟨⟨y0, y1⟩, _, _⟩ := MBox.c HX.out
            clear hHeld
            refine hK.out _ _ (.inr (by exact ⟨y0, y1⟩)) (fun hHeld => ?_)
            clear hK K
            try simp only [Act.put, List.setIfInBounds_toArray, List.set_cons_zero, List.set_cons_succ]
            refine rgE_run 8 rfl (by kernel_rfl) (by kernel_rfl) (by decide) (fun K hK => ?_)
            refine wp_app_bs _ (.tmp 42) (.tmp 44) rfl w.heap.size w.heap.size _ n2 bs rfl HG.out _ 1 1 [⟨0, 0, 0⟩] rfl HF1.out (by omega) HD.out.g.size ?_
            intro v' v4 hown hgrow
            obtain ⟨A3, c3', rfl⟩ := own_shape hown
            have HS := Lib.hid hown
            have HXn := Lib.hid (own_keep HX.out HG.out (by decide) hgrow)
            clear HX
            have HX := HXn
            clear HXn
            have HRn := Lib.hid (own_keep HR.out HG.out (by decide) hgrow)
            clear HR
            have HR := HRn
            clear HRn
            have HVn := Lib.hid (own_keep HV.out HG.out (by decide) hgrow)
            clear HV
            have HV := HVn
            clear HVn
            have HDn := Lib.hid (HD.out.far hBl hgrow (fun q hq => (HG.out.lt q hq).1))
            clear HD
            have HD := HDn
            clear HDn
            clear hown hgrow HG HF1
            clear y0 y1
            obtain ⟨⟨y0, y1⟩, _, _⟩ := MBox.c HX.out
            clear hHeld
            refine hK.out _ _ (.inr (by exact ⟨y0, y1⟩)) (fun hHeld => ?_)
            clear hK K
            try simp only [Act.put, List.setIfInBounds_toArray, List.set_cons_zero, List.set_cons_succ]
            refine rgE_take (v := ?_) 9 12 rfl (by kernel_rfl) (by kernel_rfl) (by kernel_rfl) (by kernel_rfl) (by kernel_rfl) (fun _ _ _ h => h) (by kernel_rfl) ?_ (by assumption) ?_
            rotate_left
            · (intro w' hSw; (try dsimp only at hSw); go_simp; first | done | with_reducible rfl)
            simp only [Act.put, List.setIfInBounds_toArray, List.set_cons_zero, List.set_cons_succ]
            obtain ⟨WF, hWF, r0, r1, hfin⟩ := fin_mem (x1 := x1) (n1 := n1) (d1 := d1) (x2 := A3) (n2 := (n2 + 1)) (d2 := c3') HR.out HV.out HS.out HD.out hBl (by omega) (by omega)
            have HF := Lib.hid hWF
            have HFIN := Lib.hid hfin
            clear hWF hfin
            obtain ⟨⟨m0, m1⟩, ⟨f0, f1⟩, _⟩ := MBox.c HR.out
            refine rgE_last rfl (by kernel_rfl) (by kernel_rfl) (by kernel_rfl) (fun K hK => ?_)
            go_simp
            clear hHeld
            refine hK.out _ _ ?_
            clear hK K
            try simp only [Act.put, List.setIfInBounds_toArray, List.set_cons_zero, List.set_cons_succ]
            rw [← HF.out]
            clear m0 m1 f0 f1
            go_wp2_with (fail)
            refine bodyPost_ret (v := .agg #[.slice x1 n1 d1, .slice A3 (n2 + 1) c3']) (by simp [results, Tryz.results104, go_sem, r0, r1]) rfl HFIN.out
          · skip
            have hb : Below v1.heap.size v1 (v1.alloc (.cells #[.int .i64 0, .int .i64 0, .int .i64 0] 62)) := below_alloc (Below.refl _ _) _
            have HF1 : Hid ((v1.alloc (.cells #[.int .i64 0, .int .i64 0, .int .i64 0] 62)).ownsRow w.heap.size 62 3 (.slice (some ⟨v1.heap.size, 0, none⟩) 1 1) 1 (bsCells [⟨0, 0, 0⟩])) := Lib.hid (own_mono (own_litB1 v1) HD.out.g.size)
            have hne : e2 ≠ v1.heap.size := by have := (HE.out.lt _ rfl).2; dsimp only at this; omega
            have HXn := Lib.hid (own_below HX.out hb)
            clear HX
            have HX := HXn
            clear HXn
            have HRn := Lib.hid (own_below HR.out hb)
            clear HR
            have HR := HRn
            clear HRn
            have HVn := Lib.hid (own_below HV.out hb)
            clear HV
            have HV := HVn
            clear HVn
            have HBbn := Lib.hid (own_below HBb.out hb)
            clear HBb
            have HBb := HBbn
            clear HBbn
            have HDn := Lib.hid (HD.out.below hBl hb)
            clear HD
            have HD := HDn
            clear HDn
            have HEn := Lib.hid (own_below HE.out hb)
            clear HE
            have HE := HEn
            clear HEn
            clear hb y0 y1
            go_simp
            generalize (v1.alloc (.cells #[.int .i64 0, .int .i64 0, .int .i64 0] 62)) = v2 at *
            generalize v1.heap.size = z2 at *
            obtain ⟨⟨y0, y1⟩, _, _⟩ := MBox.c HX.out
            clear hHeld
            refine hK.out _ _ (.inr (by exact ⟨y0, y1⟩)) (fun hHeld => ?_)
            clear hK K
            try simp only [Act.put, List.setIfInBounds_toArray, List.set_cons_zero, List.set_cons_succ]
            refine rgE_run 5 rfl (by kernel_rfl) (by kernel_rfl) (by decide) (fun K hK => ?_)
            refine wp_app_bs _ (.tmp 39) (.tmp 41) rfl w.heap.size w.heap.size (.slice (some ⟨e2, 0, none⟩) 0 0) 0 [] rfl HE.out x2 n2 d2 bs rfl HBb.out (by omega) HD.out.g.size ?_
            intro v' v3 hown hgrow
            rw [Nat.zero_add, List.nil_append] at hown
            obtain ⟨A2, c2, rfl⟩ := own_shape hown
            have HG := Lib.hid hown
            have HXn := Lib.hid (own_keep HX.out HE.out (by decide) hgrow)
            clear HX
            have HX := HXn
            clear HXn
            have HRn := Lib.hid (own_keep HR.out HE.out (by decide) hgrow)
            clear HR
            have HR := HRn
            clear HRn
            have HVn := Lib.hid (own_keep HV.out HE.out (by decide) hgrow)
            clear HV
            have HV := HVn
            clear HVn
            have HDn := Lib.hid (HD.out.far hBl hgrow (fun q hq => (HE.out.lt q hq).1))
            clear HD
            have HD := HDn
            clear HDn
            have HF1n := Lib.hid (HF1.out.kept hgrow (.inr (fun e => hne (by simpa [Value.ownBlock] using e.symm))))
            clear HF1
            have HF1 := HF1n
            clear HF1n hne
            clear hown hgrow HE HBb
            clear y0 y1
            obtain ⟨⟨y0, y1⟩, _, _⟩ := MBox.c HX.out
            clear hHeld
            refine hK.out _ _ (.inr (by exact ⟨y0, y1⟩)) (fun hHeld => ?_)
            clear hK K
            try simp only [Act.put, List.setIfInBounds_toArray, List.set_cons_zero, List.set_cons_succ]
            refine rgE_run 8 rfl (by kernel_rfl) (by kernel_rfl) (by decide) (fun K hK => ?_)
            refine wp_app_bs _ (.tmp 42) (.tmp 44) rfl w.heap.size w.heap.size _ n2 bs rfl HG.out _ 1 1 [⟨0, 0, 0⟩] rfl HF1.out (by omega) HD.out.g.size ?_
            intro v' v4 hown hgrow
            obtain ⟨A3, c3', rfl⟩ := own_shape hown
            have HS := Lib.hid hown
            have HXn := Lib.hid (own_keep HX.out HG.out (by decide) hgrow)
            clear HX
            have HX := HXn
            clear HXn
            have HRn := Lib.hid (own_keep HR.out HG.out (by decide) hgrow)
            clear HR
            have HR := HRn
            clear HRn
            have HVn := Lib.hid (own_keep HV.out HG.out (by decide) hgrow)
            clear HV
            have HV := HVn
            clear HVn
            have HDn := Lib.hid (HD.out.far hBl hgrow (fun q hq => (HG.out.lt q hq).1))
            clear HD
            have HD := HDn
            clear HDn
            clear hown hgrow HG HF1
            clear y0 y1
            obtain ⟨⟨y0, y1⟩, _, _⟩ := MBox.c HX.out
            clear hHeld
            refine hK.out _ _ (.inr (by exact ⟨y0, y1⟩)) (fun hHeld => ?_)
            clear hK K
            try simp only [Act.put, List.setIfInBounds_toArray, List.set_cons_zero, List.set_cons_succ]
            refine rgE_take (v := ?_) 9 12 rfl (by kernel_rfl) (by kernel_rfl) (by kernel_rfl) (by kernel_rfl) (by kernel_rfl) (fun _ _ _ h => h) (by kernel_rfl) ?_ (by assumption) ?_
            rotate_left
            · (intro w' hSw; (try dsimp only at hSw); go_simp; first | done | with_reducible rfl)
            simp only [Act.put, List.setIfInBounds_toArray, List.set_cons_zero, List.set_cons_succ]
            obtain ⟨WF, hWF, r0, r1, hfin⟩ := fin_mem (x1 := x1) (n1 := n1) (d1 := d1) (x2 := A3) (n2 := (n2 + 1)) (d2 := c3') HR.out HV.out HS.out HD.out hBl (by omega) (by omega)
            have HF := Lib.hid hWF
            have HFIN := Lib.hid hfin
            clear hWF hfin
            obtain ⟨⟨m0, m1⟩, ⟨f0, f1⟩, _⟩ := MBox.c HR.out
            refine rgE_last rfl (by kernel_rfl) (by kernel_rfl) (by kernel_rfl) (fun K hK => ?_)
            go_simp
            clear hHeld
            refine hK.out _ _ ?_
            clear hK K
            try simp only [Act.put, List.setIfInBounds_toArray, List.set_cons_zero, List.set_cons_succ]
            rw [← HF.out]
            clear m0 m1 f0 f1
            go_wp2_with (fail)
            refine bodyPost_ret (v := .agg #[.slice x1 n1 d1, .slice A3 (n2 + 1) c3']) (by simp [results, Tryz.results104, go_sem, r0, r1]) rfl HFIN.out
        · skip
          have hb : Below w2.heap.size w2 (w2.alloc (.cells #[.int .i64 0, .int .i64 0, .int .i64 0] 62)).drew := (below_alloc (Below.refl _ _) _).drew
          have HF1 : Hid ((w2.alloc (.cells #[.int .i64 0, .int .i64 0, .int .i64 0] 62)).drew.ownsRow w.heap.size 62 3 (.slice (some ⟨w2.heap.size, 0, none⟩) 1 1) 1 (bsCells [⟨0, 0, 0⟩])) := Lib.hid (own_mono (own_below (own_litB1 w2) (Below.refl _ _).drew) HD.out.g.size)
          have HXn := Lib.hid (own_below HX.out hb)
          clear HX
          have HX := HXn
          clear HXn
          have HRn := Lib.hid (own_below HR.out hb)
          clear HR
          have HR := HRn
          clear HRn
          have HVn := Lib.hid (own_below HV.out hb)
          clear HV
          have HV := HVn
          clear HVn
          have HBbn := Lib.hid (own_below HBb.out hb)
          clear HBb
          have HBb := HBbn
          clear HBbn
          have HDn := Lib.hid (HD.out.below hBl hb)
          clear HD
          have HD := HDn
          clear HDn
          clear hb y0 y1
          go_simp
          generalize (w2.alloc (.cells #[.int .i64 0, .int .i64 0, .int .i64 0] 62)).drew = v1 at *
          generalize w2.heap.size = z2 at *
          obtain ⟨⟨y0, y1⟩, _, _⟩ := MBox.c HX.out
          clear hHeld
          refine hK.out _ _ (.inr (by exact ⟨y0, y1⟩)) (fun hHeld => ?_)
          clear hK K
          try simp only [Act.put, List.setIfInBounds_toArray, List.set_cons_zero, List.set_cons_succ]
          refine rgE_run 2 rfl (by kernel_rfl) (by kernel_rfl) (by decide) (fun K hK => ?_)
          have hne : v1.heap.size ≠ z2 := by have := (HF1.out.lt _ rfl).2; dsimp only at this; omega
          have hb : Below v1.heap.size v1 (v1.alloc (.cells #[] 62)) := below_alloc (Below.refl _ _) _
          have HE : Hid ((v1.alloc (.cells #[] 62)).ownsRow w.heap.size 62 3 (.slice (some ⟨v1.heap.size, 0, none⟩) 0 0) 0 (bsCells [])) := Lib.hid (own_mono (own_litB0 v1) HD.out.g.size)
          have HXn := Lib.hid (own_below HX.out hb)
          clear HX
          have HX := HXn
          clear HXn
          have HRn := Lib.hid (own_below HR.out hb)
          clear HR
          have HR := HRn
          clear HRn
          have HVn := Lib.hid (own_below HV.out hb)
          clear HV
          have HV := HVn
          clear HVn
          have HBbn := Lib.hid (own_below HBb.out hb)
          clear HBb
          have HBb := HBbn
          clear HBbn
          have HDn := Lib.hid (HD.out.below hBl hb)
          clear HD
          have HD := HDn
          clear HDn
          have HF1n := Lib.hid (own_below HF1.out hb)
          clear HF1
          have HF1 := HF1n
          clear HF1n
          clear hb y0 y1
          go_simp
          generalize v1.alloc (.cells #[] 62) = v2 at *
          generalize v1.heap.size = e2 at *
          obtain ⟨⟨y0, y1⟩, _, _⟩ := MBox.c HX.out
          clear hHeld
          refine hK.out _ _ (.inr (by exact ⟨y0, y1⟩)) (fun hHeld => ?_)
          clear hK K
          try simp only [Act.put, List.setIfInBounds_toArray, List.set_cons_zero, List.set_cons_succ]
          refine rgE_run 5 rfl (by kernel_rfl) (by kernel_rfl) (by decide) (fun K hK => ?_)
          refine wp_app_bs _ (.tmp 39) (.tmp 41) rfl w.heap.size w.heap.size (.slice (some ⟨e2, 0, none⟩) 0 0) 0 [] rfl HE.out x2 n2 d2 bs rfl HBb.out (by omega) HD.out.g.size ?_
          intro v' v3 hown hgrow
          rw [Nat.zero_add, List.nil_append] at hown
          obtain ⟨A2, c2, rfl⟩ := own_shape hown
          have HG := Lib.hid hown
          have HXn := Lib.hid (own_keep HX.out HE.out (by decide) hgrow)
          clear HX
          have HX := HXn
          clear HXn
          have HRn := Lib.hid (own_keep HR.out HE.out (by decide) hgrow)
          clear HR
          have HR := HRn
          clear HRn
          have HVn := Lib.hid (own_keep HV.out HE.out (by decide) hgrow)
          clear HV
          have HV := HVn
          clear HVn
          have HDn := Lib.hid (HD.out.far hBl hgrow (fun q hq => (HE.out.lt q hq).1))
          clear HD
          have HD := HDn
          clear HDn
          have HF1n := Lib.hid (HF1.out.kept hgrow (.inr (fun e => hne (by simpa [Value.ownBlock] using e.symm))))
          clear HF1
          have HF1 := HF1n
          clear HF1n hne
          clear hown hgrow HE HBb
          clear y0 y1
          obtain ⟨⟨y0, y1⟩, _, _⟩ := MBox.c HX.out
          clear hHeld
          refine hK.out _ _ (.inr (by exact ⟨y0, y1⟩)) (fun hHeld => ?_)
          clear hK K
          try simp only [Act.put, List.setIfInBounds_toArray, List.set_cons_zero, List.set_cons_succ]
          refine rgE_run 8 rfl (by kernel_rfl) (by kernel_rfl) (by decide) (fun K hK => ?_)
          refine wp_app_bs _ (.tmp 42) (.tmp 44) rfl w.heap.size w.heap.size _ n2 bs rfl HG.out _ 1 1 [⟨0, 0, 0⟩] rfl HF1.out (by omega) HD.out.g.size ?_
          intro v' v4 hown hgrow
          obtain ⟨A3, c3', rfl⟩ := own_shape hown
          have HS := Lib.hid hown
          have HXn := Lib.hid (own_keep HX.out HG.out (by decide) hgrow)
          clear HX
          have HX := HXn
          clear HXn
          have HRn := Lib.hid (own_keep HR.out HG.out (by decide) hgrow)
          clear HR
          have HR := HRn
          clear HRn
          have HVn := Lib.hid (own_keep HV.out HG.out (by decide) hgrow)
          clear HV
          have HV := HVn
          clear HVn
          have HDn := Lib.hid (HD.out.far hBl hgrow (fun q hq => (HG.out.lt q hq).1))
          clear HD
          have HD := HDn
          clear HDn
          clear hown hgrow HG HF1
          clear y0 y1
          obtain ⟨⟨y0, y1⟩, _, _⟩ := MBox.c HX.out
          clear hHeld
          refine hK.out _ _ (.inr (by exact ⟨y0, y1⟩)) (fun hHeld => ?_)
          clear hK K
          try simp only [Act.put, List.setIfInBounds_toArray, List.set_cons_zero, List.set_cons_succ]
          refine rgE_take (v := ?_) 9 12 rfl (by kernel_rfl) (by kernel_rfl) (by kernel_rfl) (by kernel_rfl) (by kernel_rfl) (fun _ _ _ h => h) (by kernel_rfl) ?_ (by assumption) ?_
          rotate_left
          · (intro w' hSw; (try dsimp only at hSw); go_simp; first | done | with_reducible rfl)
          simp only [Act.put, List.setIfInBounds_toArray, List.set_cons_zero, List.set_cons_succ]
          obtain ⟨WF, hWF, r0, r1, hfin⟩ := fin_mem (x1 := x1) (n1 := n1) (d1 := d1) (x2 := A3) (n2 := (n2 + 1)) (d2 := c3') HR.out HV.out HS.out HD.out hBl (by omega) (by omega)
          have HF := Lib.hid hWF
          have HFIN := Lib.hid hfin
          clear hWF hfin
          obtain ⟨⟨m0, m1⟩, ⟨f0, f1⟩, _⟩ := MBox.c HR.out
          refine rgE_last rfl (by kernel_rfl) (by kernel_rfl) (by kernel_rfl) (fun K hK => ?_)
          go_simp
          clear hHeld
          refine hK.out _ _ ?_
          clear hK K
          try simp only [Act.put, List.setIfInBounds_toArray, List.set_cons_zero, List.set_cons_succ]
          rw [← HF.out]
          clear m0 m1 f0 f1
          go_wp2_with (fail)
          refine bodyPost_ret (v := .agg #[.slice x1 n1 d1, .slice A3 (n2 + 1) c3']) (by simp [results, Tryz.results104, go_sem, r0, r1]) rfl HFIN.out
      have n1' : (r == 1) = false := by simpa using e1
      by_cases e2 : r = 2
      · subst e2
        clear hr0 hr30 e0 n0 e1 n1'
        by_cases hlt : 0 < n2
        · skip
          have hlt1 : (0 : Int) < (n2 : Int) := by omega
          obtain ⟨g, rfl⟩ := own_someZ HM.out.b hlt
          obtain ⟨⟨y0, y1⟩, _, _⟩ := MBox.c HM.out.x
          go_upto_region 11 with (fail)
          refine wp_region_heldE 7 (S := (fun w' => w'.cell? ⟨xb, 1, none⟩ = some (.slice (some ⟨g, 0, none⟩) n2 d2))) (by kernel_rfl) ?_ (fun hHeld => ?_)
          · exact y1
          refine rgE_take (v := ?_) 0 12 rfl (by kernel_rfl) (by kernel_rfl) (by kernel_rfl) (by kernel_rfl) (by kernel_rfl) (fun _ _ _ h => h) (by kernel_rfl) ?_ (by assumption) ?_
          rotate_left
          · (intro w' hSw; (try dsimp only at hSw); go_simp; first | done | with_reducible rfl)
          simp only [Act.put, List.setIfInBounds_toArray, List.set_cons_zero, List.set_cons_succ]
          refine rgE_take (v := ?_) 1 12 rfl (by kernel_rfl) (by kernel_rfl) (by kernel_rfl) (by kernel_rfl) (by kernel_rfl) (fun _ _ _ h => h) (by kernel_rfl) ?_ (by assumption) ?_
          rotate_left
          · (intro w' hSw; (try dsimp only at hSw); go_simp; first | done | with_reducible rfl)
          simp only [Act.put, List.setIfInBounds_toArray, List.set_cons_zero, List.set_cons_succ]
          refine rgE_take (v := ?_) 2 12 rfl (by kernel_rfl) (by kernel_rfl) (by kernel_rfl) (by kernel_rfl) (by kernel_rfl) (fun _ _ _ h => h) (by kernel_rfl) ?_ (by assumption) ?_
          rotate_left
          · (intro w' hSw; (try dsimp only at hSw); go_simp; first | done | with_reducible rfl)
          simp only [Act.put, List.setIfInBounds_toArray, List.set_cons_zero, List.set_cons_succ]
          refine rgE_run 3 rfl (by kernel_rfl) (by kernel_rfl) (by decide) (fun K hK => ?_)
          go_simp
          have hb : Below w2.heap.size w2 (w2.alloc (.cells #[.int .i64 (-1), .int .i64 1, .int .i64 9] 2)).drew := (below_alloc (Below.refl _ _) _).drew
          have HM1 := Lib.hid (HM.out.below hb hBl)
          have HN : Hid (Rd (w2.alloc (.cells #[.int .i64 (-1), .int .i64 1, .int .i64 9] 2)).drew (some ⟨w2.heap.size, 0, none⟩) (ints [-1, 1, 9])) := Lib.hid (Rd.drew (by exact rd_litI w2 [-1, 1, 9] 2 (by decide)))
          have hgB : w2.heap.size ≠ B := by have := HM.out.d.g.size; omega
          generalize (w2.alloc (.cells #[.int .i64 (-1), .int .i64 1, .int .i64 9] 2)).drew = v1 at *
          generalize w2.heap.size = e2 at *
          clear HM hb y0 y1
          obtain ⟨⟨y0, y1⟩, _, _⟩ := MBox.c HM1.out.x
          clear hHeld
          refine hK.out _ _ (.inr (by exact y1)) (fun hHeld => ?_)
          clear hK K
          try simp only [Act.put, List.setIfInBounds_toArray, List.set_cons_zero, List.set_cons_succ]
          refine rgE_run 4 rfl (by kernel_rfl) (by kernel_rfl) (by decide) (fun K hK => ?_)
          go_simp
          refine (c_PickIn B e2 3 3 [-1, 1, 9] _ HM1.out.d.s hgB rfl (by omega) (by omega) HN.out).mono ?_
          rintro e v2 ⟨z, _, rfl, hd⟩
          have HM2 := Lib.hid (HM1.out.dw hd hBl)
          clear hd HM1 HN hgB y0 y1
          obtain ⟨⟨y0, y1⟩, _, _⟩ := MBox.c HM2.out.x
          go_wp2
          clear hHeld
          refine hK.out _ _ (.inr (by exact y1)) (fun hHeld => ?_)
          clear hK K
          try simp only [Act.put, List.setIfInBounds_toArray, List.set_cons_zero, List.set_cons_succ]
          refine rgE_take (v := ?_) 5 12 rfl (by kernel_rfl) (by kernel_rfl) (by kernel_rfl) (by kernel_rfl) (by kernel_rfl) (fun _ _ _ h => h) (by kernel_rfl) ?_ (by assumption) ?_
          rotate_left
          · (intro w' hSw; (try dsimp only at hSw); go_simp; first | done | with_reducible rfl)
          simp only [Act.put, List.setIfInBounds_toArray, List.set_cons_zero, List.set_cons_succ]
          refine rgE_take (v := ?_) 6 12 rfl (by kernel_rfl) (by kernel_rfl) (by kernel_rfl) (by kernel_rfl) (by kernel_rfl) (fun _ _ _ h => h) (by kernel_rfl) ?_ (by assumption) ?_
          rotate_left
          · (intro w' hSw; (try dsimp only at hSw); go_simp; first | done | with_reducible rfl)
          simp only [Act.put, List.setIfInBounds_toArray, List.set_cons_zero, List.set_cons_succ]
          obtain ⟨⟨u, hu⟩, hf⟩ := HM2.out.b0 hlt
          obtain ⟨bs2, hm⟩ := HM2.out.putB hlt hBl z
          have HM := Lib.hid hm
          clear hm HM2
          refine rgE_last rfl (by kernel_rfl) (by kernel_rfl) (by kernel_rfl) (fun K hK => ?_)
          go_simp
          clear hHeld
          refine hK.out _ _ ?_
          clear hK K
          try simp only [Act.put, List.setIfInBounds_toArray, List.set_cons_zero, List.set_cons_succ]
          generalize v2.setCell ⟨g, 0, none⟩ (.int .i64 z) = w9 at *
          clear hu hf y0 y1
          obtain ⟨⟨q0, q1⟩, _, _⟩ := MBox.c HM.out.x
          obtain ⟨WF, hWF, r0, r1, hfin⟩ := fin_mem (x1 := x1) (n1 := n1) (d1 := d1) (x2 := (some ⟨g, 0, none⟩)) (n2 := n2) (d2 := d2) HM.out.r HM.out.v HM.out.b HM.out.d hBl (by omega) (by omega)
          have HF := Lib.hid hWF
          have HFIN := Lib.hid hfin
          clear hWF hfin
          obtain ⟨⟨m0, m1⟩, ⟨f0, f1⟩, _⟩ := MBox.c HM.out.r
          go_wp2_with (fail)
          rw [← HF.out]
          clear m0 m1 f0 f1
          refine bodyPost_ret (v := .agg #[.slice x1 n1 d1, .slice (some ⟨g, 0, none⟩) n2 d2]) (by simp [results, Tryz.results104, go_sem, r0, r1]) rfl HFIN.out
        · skip
          have hlt1 : ¬ (0 : Int) < (n2 : Int) := by omega
          obtain ⟨⟨q0, q1⟩, _, _⟩ := MBox.c HM.out.x
          obtain ⟨WF, hWF, r0, r1, hfin⟩ := fin_mem (x1 := x1) (n1 := n1) (d1 := d1) (x2 := x2) (n2 := n2) (d2 := d2) HM.out.r HM.out.v HM.out.b HM.out.d hBl (by omega) (by omega)
          have HF := Lib.hid hWF
          have HFIN := Lib.hid hfin
          clear hWF hfin
          obtain ⟨⟨m0, m1⟩, ⟨f0, f1⟩, _⟩ := MBox.c HM.out.r
          go_wp2_with (fail)
          rw [← HF.out]
          clear m0 m1 f0 f1
          refine bodyPost_ret (v := .agg #[.slice x1 n1 d1, .slice x2 n2 d2]) (by simp [results, Tryz.results104, go_sem, r0, r1]) rfl HFIN.out
      have n2' : (r == 2) = false := by simpa using e2
      by_cases e3 : r = 3
      · subst e3
        clear hr0 hr30 e0 n0 e1 n1' e2 n2'
        go_wp2_with (fail)
        go_loopw [7] (fun i wr => ∃ (k : Nat) (zs : List Int), k ≤ n1 ∧ i = .int .i64 k ∧ Hid (DmW B w wr p a1 a2 a3 a4 c1 c2 c3 c4 xb x1 x2 d1 d2 n1 n2 zs bs)) (fun i _ => n1 - (intOf i).toNat)
        case atStart => exact ⟨0, vs, Nat.zero_le _, rfl, HM⟩
        case round =>
          obtain ⟨k, zs, hk, rfl, hm⟩ := hrel
          clear HM
          have HM := hm
          clear hm
          by_cases hlt : k < n1
          · skip
            have hk0 : (0 : Int) ≤ (k : Int) := by omega
            have hk1 : (k : Int) < (n1 : Int) := by omega
            obtain ⟨g, rfl⟩ := own_someZ HM.out.v (by omega)
            obtain ⟨⟨y0, y1⟩, _, _⟩ := MBox.c HM.out.x
            go_upto_region 16 with (fail)
            refine wp_region_heldE 6 (S := (fun w' => w'.cell? ⟨xb, 0, none⟩ = some (.slice (some ⟨g, 0, none⟩) n1 d1))) (by kernel_rfl) ?_ (fun hHeld => ?_)
            · exact y0
            refine rgE_take (v := ?_) 0 12 rfl (by kernel_rfl) (by kernel_rfl) (by kernel_rfl) (by kernel_rfl) (by kernel_rfl) (fun _ _ _ h => h) (by kernel_rfl) ?_ (by assumption) ?_
            rotate_left
            · (intro w' hSw; (try dsimp only at hSw); go_simp; first | done | with_reducible rfl)
            simp only [Act.put, List.setIfInBounds_toArray, List.set_cons_zero, List.set_cons_succ]
            refine rgE_take (v := ?_) 1 12 rfl (by kernel_rfl) (by kernel_rfl) (by kernel_rfl) (by kernel_rfl) (by kernel_rfl) (fun _ _ _ h => h) (by kernel_rfl) ?_ (by assumption) ?_
            rotate_left
            · (intro w' hSw; (try dsimp only at hSw); go_simp; first | done | with_reducible rfl)
            simp only [Act.put, List.setIfInBounds_toArray, List.set_cons_zero, List.set_cons_succ]
            refine rgE_take (v := ?_) 2 12 rfl (by kernel_rfl) (by kernel_rfl) (by kernel_rfl) (by kernel_rfl) (by kernel_rfl) (fun _ _ _ h => h) (by kernel_rfl) ?_ (by assumption) ?_
            rotate_left
            · (intro w' hSw; (try dsimp only at hSw); go_simp; first | done | with_reducible rfl)
            simp only [Act.put, List.setIfInBounds_toArray, List.set_cons_zero, List.set_cons_succ]
            refine rgE_take (v := ?_) 3 12 rfl (by kernel_rfl) (by kernel_rfl) (by kernel_rfl) (by kernel_rfl) (by kernel_rfl) (fun _ _ _ h => h) (by kernel_rfl) ?_ (by assumption) ?_
            rotate_left
            · (intro w' hSw; (try dsimp only at hSw); go_simp; first | done | with_reducible rfl)
            simp only [Act.put, List.setIfInBounds_toArray, List.set_cons_zero, List.set_cons_succ]
            refine rgE_run 4 rfl (by kernel_rfl) (by kernel_rfl) (by decide) (fun K hK => ?_)
            go_simp
            refine (c_NextD B 2 _ HM.out.d.s.drew (by omega)).mono ?_
            rintro e v2 ⟨z, rfl, _, _, _, hd⟩
            have hdd := ((DW.start HM.out.d.s).drew HM.out.d.s.lt).then_ hd
            have HM2 := Lib.hid (HM.out.dw hdd hBl)
            clear hd hdd HM y0 y1
            obtain ⟨⟨y0, y1⟩, _, _⟩ := MBox.c HM2.out.x
            go_wp2
            clear hHeld
            refine hK.out _ _ (.inr (by exact y0)) (fun hHeld => ?_)
            clear hK K
            try simp only [Act.put, List.setIfInBounds_toArray, List.set_cons_zero, List.set_cons_succ]
            refine rgE_take (v := ?_) 5 12 rfl (by kernel_rfl) (by kernel_rfl) (by kernel_rfl) (by kernel_rfl) (by kernel_rfl) (fun _ _ _ h => h) (by kernel_rfl) ?_ (by assumption) ?_
            rotate_left
            · (intro w' hSw; (try dsimp only at hSw); go_simp; first | done | with_reducible rfl)
            simp only [Act.put, List.setIfInBounds_toArray, List.set_cons_zero, List.set_cons_succ]
            obtain ⟨⟨u, hu⟩, hf⟩ := HM2.out.at hlt
            have HM := Lib.hid (HM2.out.putV hBl k z)
            clear HM2
            refine rgE_last rfl (by kernel_rfl) (by kernel_rfl) (by kernel_rfl) (fun K hK => ?_)
            go_simp
            clear hHeld
            refine hK.out _ _ ?_
            clear hK K
            try simp only [Act.put, List.setIfInBounds_toArray, List.set_cons_zero, List.set_cons_succ]
            generalize v2.setCell ⟨g, k, none⟩ (.int .i64 z) = w9 at *
            clear hu hf y0 y1
            go_wp2_with (fail)
            go_roundw
            case rel => exact ⟨k + 1, _, by omega, by go_num, HM⟩
            case measure => simp [intOf]; omega
          · skip
            obtain rfl : n1 = k := by omega
            obtain ⟨⟨q0, q1⟩, _, _⟩ := MBox.c HM.out.x
            obtain ⟨WF, hWF, r0, r1, hfin⟩ := fin_mem (x1 := x1) (n1 := n1) (d1 := d1) (x2 := x2) (n2 := n2) (d2 := d2) HM.out.r HM.out.v HM.out.b HM.out.d hBl (by omega) (by omega)
            have HF := Lib.hid hWF
            have HFIN := Lib.hid hfin
            clear hWF hfin
            obtain ⟨⟨m0, m1⟩, ⟨f0, f1⟩, _⟩ := MBox.c HM.out.r
            go_wp2_with (fail)
            rw [← HF.out]
            clear m0 m1 f0 f1
            refine bodyPost_ret (v := .agg #[.slice x1 n1 d1, .slice x2 n2 d2]) (by simp [results, Tryz.results104, go_sem, r0, r1]) rfl HFIN.out
      have n3' : (r == 3) = false := by simpa using e3
      obtain ⟨⟨q0, q1⟩, _, _⟩ := MBox.c HM.out.x
      obtain ⟨WF, hWF, r0, r1, hfin⟩ := fin_mem (x1 := x1) (n1 := n1) (d1 := d1) (x2 := x2) (n2 := n2) (d2 := d2) HM.out.r HM.out.v HM.out.b HM.out.d hBl (by omega) (by omega)
      have HF := Lib.hid hWF
      have HFIN := Lib.hid hfin
      clear hWF hfin
      obtain ⟨⟨m0, m1⟩, ⟨f0, f1⟩, _⟩ := MBox.c HM.out.r
      go_wp2_with (fail)
      rw [← HF.out]
      clear m0 m1 f0 f1
      refine bodyPost_ret (v := .agg #[.slice x1 n1 d1, .slice x2 n2 d2]) (by simp [results, Tryz.results104, go_sem, r0, r1]) rfl HFIN.out
    · have hcb : (code == 0) = false := by simpa using hc
      have hcn : (code != 0) = true := by simpa using hc
      obtain ⟨i0, hi, hz0, hz1, hz2⟩ := info_parts info_int64
      obtain ⟨⟨k0, k1, k2, k3, k4, k5⟩, _, _⟩ := PBox.c HM.out.p
      go_upto_region 3 with (fail)
      go_wp2_with (first
        | (at_make
           refine wpList_make_full _ rfl (.tmp 20) (.tmp 20) _ rfl w.heap.size 2 i0 _ 1 Tryz.underlying29 hi hz0 hz1 .i64 .i64 _ _ p.vs.length rfl rfl rfl rfl (by rw [hz2]; omega) (by unfold maxLen; omega) HM.out.d.g.size ?_
           intro w5 hown hgrow
           have hb5 := below_of_grown (Below.refl wc.heap.size wc) hgrow (by simp)
           rw [made_intQ] at hown
           have HM5 := Lib.hid (HM.out.below hb5 hBl)
           have HO5 := Lib.hid hown
           clear hown hgrow hb5 HM k0 k1 k2 k3 k4 k5
           generalize List.replicate p.vs.length (0 : Int) = rz at *
           obtain ⟨WF, hWF, r0, r1, hfin⟩ := fin_mem (x2 := none) (n2 := 0) (d2 := 0) (bs := []) HM5.out.r HO5.out (World.ownsRow_nil w5 w.heap.size 62 3 : w5.ownsRow w.heap.size 62 3 (.slice none 0 0) 0 (bsCells [])) HM5.out.d hBl hpv (by omega)
           have HF := Lib.hid hWF
           have HFIN := Lib.hid hfin
           clear hWF hfin
           obtain ⟨⟨m0, m1⟩, ⟨f0, f1⟩, _⟩ := MBox.c HM5.out.r)
        )
      rw [← HF.out]
      clear m0 m1 f0 f1
      refine bodyPost_ret (v := .agg #[.slice (some ⟨wc.heap.size, 0, none⟩) p.vs.length p.vs.length, .slice none 0 0]) (by simp [results, Tryz.results104, go_sem, r0, r1]) rfl HFIN.out
end Go.Proofs.YteengjcplmjakaaGreatDoor

/- A program and a memory drawn from bytes (printed by FbJ.py). Condition: at most 4096 bytes. -/
namespace Go.Proofs.YteengjcplmjakaaGreatDoor
open Go.RowKit

section
variable {B base b2 b : Nat} {w w2 : World} {p : Prg} {a1 a2 a3 a4 : Option Addr} {c1 c2 c3 c4 : Nat} {ds : List LiD} {x : List Value} {x1 x2 : Option Addr} {d1 d2 : Nat} {m : Mem}
theorem POwn.mono2 (h : POwn w base a1 a2 a3 a4 c1 c2 c3 c4 p ds) (hb : b2 ≤ base) : POwn w b2 a1 a2 a3 a4 c1 c2 c3 c4 p ds := by
  have hr := h.rows.mono hb
  exact ⟨hr.i, hr.v, hr.o, hr.l, h.e, hr.d⟩
theorem POwn.pbox (h : POwn w base a1 a2 a3 a4 c1 c2 c3 c4 p ds) (hx : PBox w b2 b x) (hg : w.grownBy w2 (some b)) : POwn w2 base a1 a2 a3 a4 c1 c2 c3 c4 p ds := by
  have hr := h.rows.box hx hg
  exact ⟨hr.i, hr.v, hr.o, hr.l, h.e, hr.d⟩
theorem POwn.mbox (h : POwn w base a1 a2 a3 a4 c1 c2 c3 c4 p ds) (hx : MBox w b2 b x) (hg : w.grownBy w2 (some b)) : POwn w2 base a1 a2 a3 a4 c1 c2 c3 c4 p ds :=
  ⟨own_keep h.i hx (by decide) hg, own_keep h.v hx (by decide) hg, own_keep h.o hx (by decide) hg, own_keep h.l hx (by decide) hg, h.e, fun d hd => own_keep (h.d d hd) hx (by decide) hg⟩
theorem MeOwn.mono2 (h : MeOwn w base x1 x2 d1 d2 m) (hb : b2 ≤ base) : MeOwn w b2 x1 x2 d1 d2 m := ⟨own_mono h.v hb, own_mono h.b hb⟩
theorem MeOwn.pbox (h : MeOwn w base x1 x2 d1 d2 m) (hx : PBox w b2 b x) (hg : w.grownBy w2 (some b)) : MeOwn w2 base x1 x2 d1 d2 m := ⟨own_keep h.v hx (by decide) hg, own_keep h.b hx (by decide) hg⟩
theorem MeOwn.mbox (h : MeOwn w base x1 x2 d1 d2 m) (hx : MBox w b2 b x) (hg : w.grownBy w2 (some b)) : MeOwn w2 base x1 x2 d1 d2 m := ⟨own_keep h.v hx (by decide) hg, own_keep h.b hx (by decide) hg⟩
end
/-- A program and a memory, rows of the call's own. -/
def DfP (w : World) (e : Ending) (w' : World) : Prop :=
  ∃ p a1 a2 a3 a4 c1 c2 c3 c4 ds m x1 x2 d1 d2, e = .returned (.tuple #[pv p a1 a2 a3 a4 c1 c2 c3 c4, mv m x1 x2 d1 d2]) ∧ POwn w' w.heap.size a1 a2 a3 a4 c1 c2 c3 c4 p ds ∧ PgOk p ∧ MeOwn w' w.heap.size x1 x2 d1 d2 m ∧ MeOk m ∧ Below w.heap.size w w'
set_option maxHeartbeats 8000000 in
set_option maxRecDepth 100000 in
theorem c_DrawIsSuitable (A : Option Addr) (c n : Nat) (w : World) (hn : n ≤ 4096) (hb : Bytes w w.heap.size A n) :
    Calls Tryz.prog 60 #[.slice A n c] w (DfP w) := by
  have Ba := below_alloc (Below.refl w.heap.size w) (.cells #[.string ⟨#[]⟩, .slice none 0 0, .slice none 0 0, .slice none 0 0, .string ⟨#[]⟩, .slice none 0 0] 27)
  have Bb := below_alloc (Below.refl (w.alloc (.cells #[.string ⟨#[]⟩, .slice none 0 0, .slice none 0 0, .slice none 0 0, .string ⟨#[]⟩, .slice none 0 0] 27)).heap.size (w.alloc (.cells #[.string ⟨#[]⟩, .slice none 0 0, .slice none 0 0, .slice none 0 0, .string ⟨#[]⟩, .slice none 0 0] 27))) (.cells #[.slice none 0 0, .slice none 0 0] 48)
  have HX0 : Hid (PBox ((w.alloc (.cells #[.string ⟨#[]⟩, .slice none 0 0, .slice none 0 0, .slice none 0 0, .string ⟨#[]⟩, .slice none 0 0] 27)).alloc (.cells #[.slice none 0 0, .slice none 0 0] 48)) w.heap.size w.heap.size [.string ⟨#[]⟩, .slice none 0 0, .slice none 0 0, .slice none 0 0, .string ⟨#[]⟩, .slice none 0 0]) := Lib.hid (own_below (own_box w w.heap.size 27 [.string ⟨#[]⟩, .slice none 0 0, .slice none 0 0, .slice none 0 0, .string ⟨#[]⟩, .slice none 0 0] 6 rfl (Nat.le_refl _)) Bb)
  have HR0 : Hid (MBox ((w.alloc (.cells #[.string ⟨#[]⟩, .slice none 0 0, .slice none 0 0, .slice none 0 0, .string ⟨#[]⟩, .slice none 0 0] 27)).alloc (.cells #[.slice none 0 0, .slice none 0 0] 48)) w.heap.size (w.heap.size + 1) [.slice none 0 0, .slice none 0 0]) := Lib.hid (by
    have h := own_box (w.alloc (.cells #[.string ⟨#[]⟩, .slice none 0 0, .slice none 0 0, .slice none 0 0, .string ⟨#[]⟩, .slice none 0 0] 27)) w.heap.size 48 [.slice none 0 0, .slice none 0 0] 2 rfl (by simp)
    simpa [MBox] using h)
  have B0 := Lib.hid (below_chain Ba Bb)
  have hsA : ((w.alloc (.cells #[.string ⟨#[]⟩, .slice none 0 0, .slice none 0 0, .slice none 0 0, .string ⟨#[]⟩, .slice none 0 0] 27)).alloc (.cells #[.slice none 0 0, .slice none 0 0] 48)).heap.size = w.heap.size + 2 := by simp
  have HY := Lib.hid (hb.later B0.out B0.out.size)
  clear Ba Bb hb
  go_enter Tryz.func60, Tryz.ntmps60
  go_upto_region 1 with (fail)
  generalize ((w.alloc (.cells #[.string ⟨#[]⟩, .slice none 0 0, .slice none 0 0, .slice none 0 0, .string ⟨#[]⟩, .slice none 0 0] 27)).alloc (.cells #[.slice none 0 0, .slice none 0 0] 48)) = W at *
  go_wp2_with (fail)
  refine (c_From A c n _ hn HY.out).mono ?_
  rintro e w1 ⟨rfl, hs1, hb1⟩
  rw [hsA] at hs1
  have HB1 := Lib.hid (below_chain B0.out hb1)
  have HX1 : Hid (PBox _ _ _ _) := Lib.hid (own_below HX0.out hb1)
  have HR1 : Hid (MBox _ _ _ _) := Lib.hid (own_below HR0.out hb1)
  have HS1 := Lib.hid (DW.start hs1)
  have hlt1 := hs1.lt
  clear hs1 hb1 HX0 HR0 B0 HY
  rw [hsA]
  clear hsA
  go_wp2_with (fail)
  refine (c_l14Draw (w.heap.size + 2) _ HS1.out.s).mono ?_
  rintro e w2 ⟨p, a1, a2, a3, a4, c1, c2, c3, c4, ds, rfl, ho, hok, _, hd2⟩
  have HX2 : Hid (PBox _ _ _ _) := Lib.hid (hd2.own2 HX1.out (fun q hq e => by simp only [Value.ownBlock, Option.some.injEq] at hq; omega))
  have HR2 : Hid (MBox _ _ _ _) := Lib.hid (hd2.own2 HR1.out (fun q hq e => by simp only [Value.ownBlock, Option.some.injEq] at hq; omega))
  have HD2 := Lib.hid (HS1.out.then_ hd2)
  have hsw2 := HD2.out.g.size
  have HO2 := Lib.hid ho
  have HK := Lib.hid hok
  clear ho hok hd2 HX1 HR1 HS1
  dsimp only [pv]
  have BA := below_alloc (Below.refl w2.heap.size w2) (.cells #[.string p.nm, .slice a1 p.ins.length c1, .slice a2 p.vs.length c2, .slice a3 p.os.length c3, .string p.gd, .slice a4 p.ls.length c4] 27)
  have HO3 := Lib.hid (HO2.out.below BA)
  have HP3 : Hid (PBox (w2.alloc (.cells #[.string p.nm, .slice a1 p.ins.length c1, .slice a2 p.vs.length c2, .slice a3 p.os.length c3, .string p.gd, .slice a4 p.ls.length c4] 27)) w1.heap.size w2.heap.size [.string p.nm, .slice a1 p.ins.length c1, .slice a2 p.vs.length c2, .slice a3 p.os.length c3, .string p.gd, .slice a4 p.ls.length c4]) := Lib.hid (own_box w2 w1.heap.size 27 [.string p.nm, .slice a1 p.ins.length c1, .slice a2 p.vs.length c2, .slice a3 p.os.length c3, .string p.gd, .slice a4 p.ls.length c4] 6 rfl hsw2)
  have HX3 : Hid (PBox _ _ _ _) := Lib.hid (own_below HX2.out BA)
  have HR3 : Hid (MBox _ _ _ _) := Lib.hid (own_below HR2.out BA)
  have HD3 := Lib.hid (HD2.out.below hlt1 BA)
  clear BA HO2 HX2 HR2 HD2
  go_upto_region 3 with (fail)
  generalize w2.alloc (.cells #[.string p.nm, .slice a1 p.ins.length c1, .slice a2 p.vs.length c2, .slice a3 p.os.length c3, .string p.gd, .slice a4 p.ls.length c4] 27) = w3 at *
  generalize w2.heap.size = pb at *
  have hpw : w.heap.size + 2 < pb := by omega
  obtain ⟨⟨k0, k1, k2, k3, k4, k5⟩, _, hltb⟩ := PBox.c HP3.out
  refine wp_region_held_drew (S := (fun w' => w'.cell? ⟨pb, 0, none⟩ = some (.string p.nm) ∧ w'.cell? ⟨pb, 1, none⟩ = some (.slice a1 p.ins.length c1) ∧ w'.cell? ⟨pb, 2, none⟩ = some (.slice a2 p.vs.length c2) ∧ w'.cell? ⟨pb, 3, none⟩ = some (.slice a3 p.os.length c3) ∧ w'.cell? ⟨pb, 4, none⟩ = some (.string p.gd) ∧ w'.cell? ⟨pb, 5, none⟩ = some (.slice a4 p.ls.length c4))) (by kernel_rfl) ?_ (fun hHeld => ?_)
  · exact ⟨k0, k1, k2, k3, k4, k5⟩
  refine rg_take (v := ?_) 0 rfl (by kernel_rfl) (by kernel_rfl) (by kernel_rfl) (fun _ _ _ h => h) (by kernel_rfl) ?_ (by assumption) ?_
  rotate_left
  · (intro w' hSw; (try dsimp only at hSw); go_simp; first | done | with_reducible rfl)
  simp only [Act.put, List.setIfInBounds_toArray, List.set_cons_zero, List.set_cons_succ]
  refine rg_take (v := ?_) 1 rfl (by kernel_rfl) (by kernel_rfl) (by kernel_rfl) (fun _ _ _ h => h) (by kernel_rfl) ?_ (by assumption) ?_
  rotate_left
  · (intro w' hSw; (try dsimp only at hSw); go_simp; first | done | with_reducible rfl)
  simp only [Act.put, List.setIfInBounds_toArray, List.set_cons_zero, List.set_cons_succ]
  refine rg_take (v := ?_) 2 rfl (by kernel_rfl) (by kernel_rfl) (by kernel_rfl) (fun _ _ _ h => h) (by kernel_rfl) ?_ (by assumption) ?_
  rotate_left
  · (intro w' hSw; (try dsimp only at hSw); go_simp; first | done | with_reducible rfl)
  simp only [Act.put, List.setIfInBounds_toArray, List.set_cons_zero, List.set_cons_succ]
  refine rg_run 3 rfl (by kernel_rfl) (by kernel_rfl) (fun K hK => ?_)
  go_simp
  refine (c_l16DrawMemory (w.heap.size + 2) w1.heap.size p a1 a2 a3 a4 c1 c2 c3 c4 ds _ HD3.out.s.drew HK.out (HO3.out.below (Below.refl _ _).drew) hlt1).mono ?_
  rintro e w5 ⟨m, x1, x2, d1, d2, rfl, hme, hmk, hd⟩
  have hdd := ((DW.start HD3.out.s).drew HD3.out.s.lt).then_ hd
  have HMK := Lib.hid hmk
  have HO5 := Lib.hid ((HO3.out.dw hdd hlt1).mono2 (show w.heap.size ≤ w1.heap.size by omega))
  have HM5 := Lib.hid (hme.mono2 (b2 := w.heap.size) (by have := HD3.out.g.size; simp; omega))
  have HP5 : Hid (PBox _ _ _ _) := Lib.hid (hdd.own HP3.out hlt1)
  have HX5 : Hid (PBox _ _ _ _) := Lib.hid (hdd.own2 HX3.out (fun q hq e => by simp only [Value.ownBlock, Option.some.injEq] at hq; omega))
  have HR5 : Hid (MBox _ _ _ _) := Lib.hid (hdd.own2 HR3.out (fun q hq e => by simp only [Value.ownBlock, Option.some.injEq] at hq; omega))
  have HB5 := Lib.hid (DW.bel HB1.out (HD3.out.then_ hdd) (by omega) rfl)
  clear k0 k1 k2 k3 k4 k5 hltb hdd hd hme hmk HO3 HP3 HX3 HR3 HD3 HB1
  obtain ⟨⟨k0, k1, k2, k3, k4, k5⟩, _, hltb⟩ := PBox.c HP5.out
  dsimp only [mv]
  go_wp2
  clear hHeld
  refine hK.out _ _ (by exact ⟨k0, k1, k2, k3, k4, k5⟩) (fun hHeld => ?_)
  clear hK K
  try simp only [Act.put, List.setIfInBounds_toArray, List.set_cons_zero, List.set_cons_succ]
  obtain ⟨⟨y0, y1, y2, y3, y4, y5⟩, ⟨f0, f1, f2, f3, f4, f5⟩, hlta⟩ := PBox.c HX5.out
  have hz := PBox.fill HX5.out (.string p.nm) (.slice a1 p.ins.length c1) (.slice a2 p.vs.length c2) (.slice a3 p.os.length c3) (.string p.gd) (.slice a4 p.ls.length c4)
  have HO6 := Lib.hid (HO5.out.pbox HX5.out hz.2)
  have HM6 := Lib.hid (HM5.out.pbox HX5.out hz.2)
  have HB6 := Lib.hid (below_of_grown HB5.out hz.2 (fun q hq => by simp only [Option.some.injEq] at hq; omega))
  have HX6 := Lib.hid hz.1
  have HR6 : Hid (MBox _ _ _ _) := Lib.hid (own_keep HR5.out HX5.out (by decide) hz.2)
  have HP6 : Hid (PBox _ _ _ _) := Lib.hid (PBox.keep HP5.out hz.2 (by omega))
  clear k0 k1 k2 k3 k4 k5
  obtain ⟨⟨k0, k1, k2, k3, k4, k5⟩, _, _⟩ := PBox.c HP6.out
  clear HO5 HM5 HB5 HX5 HR5 HP5 hz
  refine rg_run 4 rfl (by kernel_rfl) (by kernel_rfl) (fun K hK => ?_)
  go_simp
  clear hHeld
  refine hK.out _ _ (by exact ⟨k0, k1, k2, k3, k4, k5⟩) (fun hHeld => ?_)
  clear hK K
  try simp only [Act.put, List.setIfInBounds_toArray, List.set_cons_zero, List.set_cons_succ]
  generalize (((((w5.setCell ⟨w.heap.size, 0, none⟩ (.string p.nm)).setCell ⟨w.heap.size, 1, none⟩ (.slice a1 p.ins.length c1)).setCell ⟨w.heap.size, 2, none⟩ (.slice a2 p.vs.length c2)).setCell ⟨w.heap.size, 3, none⟩ (.slice a3 p.os.length c3)).setCell ⟨w.heap.size, 4, none⟩ (.string p.gd)).setCell ⟨w.heap.size, 5, none⟩ (.slice a4 p.ls.length c4) = w6 at *
  clear y0 y1 y2 y3 y4 y5 f0 f1 f2 f3 f4 f5 hlta
  obtain ⟨⟨m0, m1⟩, ⟨f0, f1⟩, _⟩ := MBox.c HR6.out
  have z0 := MBox.put HR6.out 0 (.slice x1 m.vs.length d1)
  have z1 := MBox.put z0.1 1 (.slice x2 m.bs.length d2)
  have zg := grown_trans z0.2 z1.2
  have HO7 := Lib.hid (HO6.out.mbox HR6.out zg)
  have HM7 := Lib.hid (HM6.out.mbox HR6.out zg)
  have HB7 := Lib.hid (below_of_grown HB6.out zg (fun q hq => by simp only [Option.some.injEq] at hq; omega))
  have HR7 := Lib.hid z1.1
  have HX7 : Hid (PBox _ _ _ _) := Lib.hid (own_keep HX6.out HR6.out (by decide) zg)
  have HP7 : Hid (PBox _ _ _ _) := Lib.hid (own_keep HP6.out HR6.out (by decide) zg)
  clear k0 k1 k2 k3 k4 k5
  obtain ⟨⟨k0, k1, k2, k3, k4, k5⟩, _, _⟩ := PBox.c HP7.out
  clear HO6 HM6 HB6 HX6 HR6 HP6 z0 z1 zg
  refine rg_run 5 rfl (by kernel_rfl) (by kernel_rfl) (fun K hK => ?_)
  go_simp
  clear hHeld
  refine hK.out _ _ (by exact ⟨k0, k1, k2, k3, k4, k5⟩) (fun hHeld => ?_)
  clear hK K
  try simp only [Act.put, List.setIfInBounds_toArray, List.set_cons_zero, List.set_cons_succ]
  refine wpAnyH_done (by kernel_rfl) ?_ _
  clear hHeld
  generalize (w6.setCell ⟨w.heap.size + 1, 0, none⟩ (.slice x1 m.vs.length d1)).setCell ⟨w.heap.size + 1, 1, none⟩ (.slice x2 m.bs.length d2) = w7 at *
  clear m0 m1 f0 f1 k0 k1 k2 k3 k4 k5
  go_wp2_with (fail)
  have zc := HR7.out
  simp only [List.set_cons_zero, List.set_cons_succ] at zc
  obtain ⟨⟨s0, s1⟩, _⟩ := MBox.c zc
  obtain ⟨⟨r0, r1, r2, r3, r4, r5⟩, _⟩ := PBox.c HX7.out
  refine bodyPost_ret (v := .tuple #[.agg #[.string p.nm, .slice a1 p.ins.length c1, .slice a2 p.vs.length c2, .slice a3 p.os.length c3, .string p.gd, .slice a4 p.ls.length c4], .agg #[.slice x1 m.vs.length d1, .slice x2 m.bs.length d2]]) (by simp [results, Tryz.results60, go_sem, r0, r1, r2, r3, r4, r5, s0, s1]) rfl ⟨p, a1, a2, a3, a4, c1, c2, c3, c4, ds, m, x1, x2, d1, d2, rfl, HO7.out, HK.out, HM7.out, HMK.out, HB7.out⟩
set_option maxHeartbeats 8000000 in
set_option maxRecDepth 100000 in
theorem c_DrawFaultyPairs (A : Option Addr) (c n : Nat) (w : World) (hn : n ≤ 4096) (hb : Bytes w w.heap.size A n) :
    Calls Tryz.prog 20 #[.slice A n c] w (DfP w) := by
  have Ba := below_alloc (Below.refl w.heap.size w) (.cells #[.string ⟨#[]⟩, .slice none 0 0, .slice none 0 0, .slice none 0 0, .string ⟨#[]⟩, .slice none 0 0] 27)
  have Bb := below_alloc (Below.refl (w.alloc (.cells #[.string ⟨#[]⟩, .slice none 0 0, .slice none 0 0, .slice none 0 0, .string ⟨#[]⟩, .slice none 0 0] 27)).heap.size (w.alloc (.cells #[.string ⟨#[]⟩, .slice none 0 0, .slice none 0 0, .slice none 0 0, .string ⟨#[]⟩, .slice none 0 0] 27))) (.cells #[.slice none 0 0, .slice none 0 0] 48)
  have HX0 : Hid (PBox ((w.alloc (.cells #[.string ⟨#[]⟩, .slice none 0 0, .slice none 0 0, .slice none 0 0, .string ⟨#[]⟩, .slice none 0 0] 27)).alloc (.cells #[.slice none 0 0, .slice none 0 0] 48)) w.heap.size w.heap.size [.string ⟨#[]⟩, .slice none 0 0, .slice none 0 0, .slice none 0 0, .string ⟨#[]⟩, .slice none 0 0]) := Lib.hid (own_below (own_box w w.heap.size 27 [.string ⟨#[]⟩, .slice none 0 0, .slice none 0 0, .slice none 0 0, .string ⟨#[]⟩, .slice none 0 0] 6 rfl (Nat.le_refl _)) Bb)
  have HR0 : Hid (MBox ((w.alloc (.cells #[.string ⟨#[]⟩, .slice none 0 0, .slice none 0 0, .slice none 0 0, .string ⟨#[]⟩, .slice none 0 0] 27)).alloc (.cells #[.slice none 0 0, .slice none 0 0] 48)) w.heap.size (w.heap.size + 1) [.slice none 0 0, .slice none 0 0]) := Lib.hid (by
    have h := own_box (w.alloc (.cells #[.string ⟨#[]⟩, .slice none 0 0, .slice none 0 0, .slice none 0 0, .string ⟨#[]⟩, .slice none 0 0] 27)) w.heap.size 48 [.slice none 0 0, .slice none 0 0] 2 rfl (by simp)
    simpa [MBox] using h)
  have B0 := Lib.hid (below_chain Ba Bb)
  have hsA : ((w.alloc (.cells #[.string ⟨#[]⟩, .slice none 0 0, .slice none 0 0, .slice none 0 0, .string ⟨#[]⟩, .slice none 0 0] 27)).alloc (.cells #[.slice none 0 0, .slice none 0 0] 48)).heap.size = w.heap.size + 2 := by simp
  have HY := Lib.hid (hb.later B0.out B0.out.size)
  clear Ba Bb hb
  go_enter Tryz.func20, Tryz.ntmps20
  go_upto_region 1 with (fail)
  generalize ((w.alloc (.cells #[.string ⟨#[]⟩, .slice none 0 0, .slice none 0 0, .slice none 0 0, .string ⟨#[]⟩, .slice none 0 0] 27)).alloc (.cells #[.slice none 0 0, .slice none 0 0] 48)) = W at *
  go_wp2_with (fail)
  refine (c_DrawIsSuitable A c n _ hn HY.out).mono ?_
  rintro e w5 ⟨p, a1, a2, a3, a4, c1, c2, c3, c4, ds, m, x1, x2, d1, d2, rfl, ho, hok, hme, hmk, hb⟩
  have HK := Lib.hid hok
  have HMK := Lib.hid hmk
  have HO5 := Lib.hid (ho.mono2 B0.out.size)
  have HM5 := Lib.hid (hme.mono2 B0.out.size)
  have HX5 : Hid (PBox _ _ _ _) := Lib.hid (own_below HX0.out hb)
  have HR5 : Hid (MBox _ _ _ _) := Lib.hid (own_below HR0.out hb)
  have HB5 := Lib.hid (below_chain B0.out hb)
  clear ho hok hme hmk hb HX0 HR0 B0 HY hsA
  dsimp only [pv, mv]
  obtain ⟨⟨y0, y1, y2, y3, y4, y5⟩, ⟨f0, f1, f2, f3, f4, f5⟩, hlta⟩ := PBox.c HX5.out
  have hz := PBox.fill HX5.out (.string p.nm) (.slice a1 p.ins.length c1) (.slice a2 p.vs.length c2) (.slice a3 p.os.length c3) (.string p.gd) (.slice a4 p.ls.length c4)
  have HO6 := Lib.hid (HO5.out.pbox HX5.out hz.2)
  have HM6 := Lib.hid (HM5.out.pbox HX5.out hz.2)
  have HB6 := Lib.hid (below_of_grown HB5.out hz.2 (fun q hq => by simp only [Option.some.injEq] at hq; omega))
  have HX6 := Lib.hid hz.1
  have HR6 : Hid (MBox _ _ _ _) := Lib.hid (own_keep HR5.out HX5.out (by decide) hz.2)
  obtain ⟨⟨m0, m1⟩, ⟨g0, g1⟩, _⟩ := MBox.c HR5.out
  have z0 := MBox.put HR6.out 0 (.slice x1 m.vs.length d1)
  have z1 := MBox.put z0.1 1 (.slice x2 m.bs.length d2)
  have zg := grown_trans z0.2 z1.2
  have HO7 := Lib.hid (HO6.out.mbox HR6.out zg)
  have HM7 := Lib.hid (HM6.out.mbox HR6.out zg)
  have HB7 := Lib.hid (below_of_grown HB6.out zg (fun q hq => by simp only [Option.some.injEq] at hq; omega))
  have HR7 := Lib.hid z1.1
  have HX7 : Hid (PBox _ _ _ _) := Lib.hid (own_keep HX6.out HR6.out (by decide) zg)
  clear HO5 HM5 HB5 HX5 HR5 HO6 HM6 HB6 HX6 HR6 z0 z1 zg hz
  go_wp2_with (fail)
  generalize ((((((w5.setCell ⟨w.heap.size, 0, none⟩ (.string p.nm)).setCell ⟨w.heap.size, 1, none⟩ (.slice a1 p.ins.length c1)).setCell ⟨w.heap.size, 2, none⟩ (.slice a2 p.vs.length c2)).setCell ⟨w.heap.size, 3, none⟩ (.slice a3 p.os.length c3)).setCell ⟨w.heap.size, 4, none⟩ (.string p.gd)).setCell ⟨w.heap.size, 5, none⟩ (.slice a4 p.ls.length c4)) = w6 at *
  generalize (w6.setCell ⟨w.heap.size + 1, 0, none⟩ (.slice x1 m.vs.length d1)).setCell ⟨w.heap.size + 1, 1, none⟩ (.slice x2 m.bs.length d2) = w7 at *
  clear m0 m1 g0 g1 y0 y1 y2 y3 y4 y5 f0 f1 f2 f3 f4 f5 hlta
  have zc := HR7.out
  simp only [List.set_cons_zero, List.set_cons_succ] at zc
  obtain ⟨⟨s0, s1⟩, _⟩ := MBox.c zc
  obtain ⟨⟨r0, r1, r2, r3, r4, r5⟩, _⟩ := PBox.c HX7.out
  refine bodyPost_ret (v := .tuple #[.agg #[.string p.nm, .slice a1 p.ins.length c1, .slice a2 p.vs.length c2, .slice a3 p.os.length c3, .string p.gd, .slice a4 p.ls.length c4], .agg #[.slice x1 m.vs.length d1, .slice x2 m.bs.length d2]]) (by simp [results, Tryz.results20, go_sem, r0, r1, r2, r3, r4, r5, s0, s1]) rfl ⟨p, a1, a2, a3, a4, c1, c2, c3, c4, ds, m, x1, x2, d1, d2, rfl, HO7.out, HK.out, HM7.out, HMK.out, HB7.out⟩
end Go.Proofs.YteengjcplmjakaaGreatDoor
