/- Contracts and helpers (joined texts, part 13). The conditions stand at each theorem. -/
import Derived.Test.YtaloheljfefdeaaH12
import Derived.Deep.Cut
import Derived.Deep.CutRange
import Derived.Deep.CutBlock
import Derived.Laws.AppendOwnNone
/- l20Draw: what holds between its steps. No condition. -/
namespace Go.Proofs.Ytaloheljfefdeaa
open Go.RowKit

/-- The model under way in the box p, the result's box, and the source. -/
structure DKf (B p : Nat) (w wr : World) (az ax ar : Option Addr) (cz cs cr sn tn rn : Nat) (m : Mdl) (ds : List RuD) : Prop where
  b : MBox wr w.heap.size p (.slice az sn cz) (.slice ax tn cs) (.slice ar rn cr)
  m : DMd B w.heap.size wr az ax ar cz cs cr sn tn rn m ds
  n1 : 1 ≤ sn
  n2 : sn ≤ 10
  t1 : 1 ≤ tn
  t2 : tn ≤ 10
  r2 : rn ≤ 300
  x : MBox wr w.heap.size w.heap.size (.slice none 0 0) (.slice none 0 0) (.slice none 0 0)
  lt : w.heap.size < p
  bl : B < w.heap.size
  d : DW B w wr
def DK (B p N : Nat) (w wr : World) : Prop := ∃ az ax ar cz cs cr sn tn rn m ds, DKf B p w wr az ax ar cz cs cr sn tn rn m ds ∧ sn ≤ N ∧ rn ≤ 8 ∧ ∀ d ∈ ds, d.r.gs.length ≤ 100 ∧ d.r.es.length ≤ 100 ∧ d.r.nm.size ≤ 100
section
variable {B p : Nat} {w wr wx : World} {az ax ar : Option Addr} {cz cs cr sn tn rn : Nat} {m : Mdl} {ds : List RuD}
theorem DKf.then_ (h : DKf B p w wr az ax ar cz cs cr sn tn rn m ds) (hd : DW B wr wx) : DKf B p w wx az ax ar cz cs cr sn tn rn m ds :=
  ⟨hd.own h.b h.bl, h.m.far hd, h.n1, h.n2, h.t1, h.t2, h.r2, hd.own h.x h.bl, h.lt, h.bl, h.d.then_ hd⟩
theorem DKf.hB (h : DKf B p w wr az ax ar cz cs cr sn tn rn m ds) : B < wr.heap.size := Nat.lt_of_lt_of_le h.bl h.d.g.size
theorem DKf.alloc (h : DKf B p w wr az ax ar cz cs cr sn tn rn m ds) (o : Obj) : DKf B p w (wr.alloc o) az ax ar cz cs cr sn tn rn m ds := h.then_ ((DW.start h.d.s).alloc h.hB o)
theorem DKf.drew (h : DKf B p w wr az ax ar cz cs cr sn tn rn m ds) : DKf B p w wr.drew az ax ar cz cs cr sn tn rn m ds := h.then_ ((DW.start h.d.s).drew h.hB)
theorem DKf.formZ (h : DKf B p w wr az ax ar cz cs cr sn tn rn m ds) : ∃ g, az = some ⟨g, 0, none⟩ := by
  have hz := h.m.o.z
  have hn := h.m.z
  have h1 := h.n1
  obtain ⟨k, hk⟩ : ∃ k, m.sz.length = k + 1 := ⟨m.sz.length - 1, by omega⟩
  rw [hk] at hz
  obtain ⟨g, cap, hv⟩ := own_form hz
  simp only [Value.slice.injEq] at hv
  exact ⟨g, hv.1⟩
theorem DKf.formS (h : DKf B p w wr az ax ar cz cs cr sn tn rn m ds) : ∃ g, ax = some ⟨g, 0, none⟩ := by
  have hz := h.m.o.s
  have hn := h.m.s
  have h1 := h.t1
  obtain ⟨k, hk⟩ : ∃ k, m.st.length = k + 1 := ⟨m.st.length - 1, by omega⟩
  rw [hk] at hz
  obtain ⟨g, cap, hv⟩ := own_form hz
  simp only [Value.slice.injEq] at hv
  exact ⟨g, hv.1⟩
end
/-- The first size is set. -/
theorem DKf.setZ {B p : Nat} {w wr : World} {g : Nat} {ax ar : Option Addr} {cz cs cr sn tn rn : Nat} {m : Mdl} {ds : List RuD} (h : DKf B p w wr (some ⟨g, 0, none⟩) ax ar cz cs cr sn tn rn m ds) {z : Int} (hz : z ≤ 9223372036854775807) :
    DKf B p w (wr.setCell ⟨g, 0, none⟩ (.int .i64 z)) (some ⟨g, 0, none⟩) ax ar cz cs cr sn tn rn { m with sz := m.sz.set 0 z } ds := by
  have hst := h.m.o.z.stored 0 (.int .i64 z)
  rw [ints_set] at hst
  have hl : (m.sz.set 0 z).length = m.sz.length := List.length_set
  have hg := (own_ge h.m.o.z).1
  have hsz := h.m.z
  refine ⟨own_keep h.b h.m.o.z (by decide) hst.2, ⟨⟨?_, ?_, own_keep h.m.o.r h.m.o.z (by decide) hst.2, h.m.o.e, fun d hd => ⟨own_keep (h.m.o.d d hd).1 h.m.o.z (by decide) hst.2, own_keep (h.m.o.d d hd).2 h.m.o.z (by decide) hst.2⟩⟩, by rw [← hsz]; exact hl, h.m.s, h.m.r, h.m.sep, ?_, h.m.rb, h.m.B⟩, h.n1, h.n2, h.t1, h.t2, h.r2, own_keep h.x h.m.o.z (by decide) hst.2, h.lt, h.bl, h.d.far h.bl hst.2 (fun q hq => by simp at hq; omega)⟩
  · show World.ownsRow _ _ _ _ (.slice _ (m.sz.set 0 z).length cz) (m.sz.set 0 z).length _
    rw [hl]
    exact hst.1
  · refine kept_ne h.m.o.s hst.2 (fun q hq e => ?_)
    have := h.m.sep q (by rw [hsz] at *; simpa [Value.ownBlock] using e)
    rw [← h.m.s] at this
    exact this hq
  · intro y hy
    rcases List.mem_or_eq_of_mem_set hy with hy | hy
    · exact h.m.zb y hy
    · rw [hy]; exact hz
/-- The first start is set. -/
theorem DKf.setS {B p : Nat} {w wr : World} {g : Nat} {az ar : Option Addr} {cz cs cr sn tn rn : Nat} {m : Mdl} {ds : List RuD} (h : DKf B p w wr az (some ⟨g, 0, none⟩) ar cz cs cr sn tn rn m ds) (z : Int) :
    DKf B p w (wr.setCell ⟨g, 0, none⟩ (.int .i64 z)) az (some ⟨g, 0, none⟩) ar cz cs cr sn tn rn { m with st := m.st.set 0 z } ds := by
  have hst := h.m.o.s.stored 0 (.int .i64 z)
  rw [ints_set] at hst
  have hl : (m.st.set 0 z).length = m.st.length := List.length_set
  have hg := (own_ge h.m.o.s).1
  have hsz := h.m.s
  refine ⟨own_keep h.b h.m.o.s (by decide) hst.2, ⟨⟨?_, ?_, own_keep h.m.o.r h.m.o.s (by decide) hst.2, h.m.o.e, fun d hd => ⟨own_keep (h.m.o.d d hd).1 h.m.o.s (by decide) hst.2, own_keep (h.m.o.d d hd).2 h.m.o.s (by decide) hst.2⟩⟩, h.m.z, by rw [← hsz]; exact hl, h.m.r, h.m.sep, h.m.zb, h.m.rb, h.m.B⟩, h.n1, h.n2, h.t1, h.t2, h.r2, own_keep h.x h.m.o.s (by decide) hst.2, h.lt, h.bl, h.d.far h.bl hst.2 (fun q hq => by simp at hq; omega)⟩
  · refine kept_ne h.m.o.z hst.2 (fun q hq e => ?_)
    have := h.m.sep q (by rw [← h.m.z]; exact hq)
    exact this (by simpa [Value.ownBlock] using e)
  · show World.ownsRow _ _ _ _ (.slice _ (m.st.set 0 z).length cs) (m.st.set 0 z).length _
    rw [hl]
    exact hst.1
/-- The first rule is under way in the box q. -/
structure DRf (B p q : Nat) (w wr : World) (az ax ar : Option Addr) (cz cs cr sn tn rn : Nat) (m : Mdl) (ds : List RuD) (d : RuD) : Prop where
  k : DKf B p w wr az ax ar cz cs cr sn tn rn m ds
  b : wr.ownsRow w.heap.size 54 1 (.slice (some ⟨q, 0, none⟩) 3 3) 3 [.string d.r.nm, d.vg, d.ve]
  n : Nest wr w.heap.size d
  g : d.r.gs.length ≤ 1000 ∧ d.r.es.length ≤ 1000 ∧ d.r.nm.size ≤ 1000
  a : ∀ x, (Value.slice ar rn cr).ownBlock = some x → x < q
  r1 : 1 ≤ rn
  r2 : rn ≤ 8
def DR (B p q : Nat) (w wr : World) : Prop := ∃ az ax ar cz cs cr sn tn rn m ds d, DRf B p q w wr az ax ar cz cs cr sn tn rn m ds d
theorem DRf.then_ {B p q : Nat} {w wr wx : World} {az ax ar : Option Addr} {cz cs cr sn tn rn : Nat} {m : Mdl} {ds : List RuD} {d : RuD} (h : DRf B p q w wr az ax ar cz cs cr sn tn rn m ds d) (hd : DW B wr wx) : DRf B p q w wx az ax ar cz cs cr sn tn rn m ds d :=
  ⟨h.k.then_ hd, hd.own h.b h.k.bl, ⟨hd.own h.n.1 h.k.bl, hd.own h.n.2 h.k.bl⟩, h.g, h.a, h.r1, h.r2⟩
theorem DRf.c {B p q : Nat} {w wr : World} {az ax ar : Option Addr} {cz cs cr sn tn rn : Nat} {m : Mdl} {ds : List RuD} {d : RuD} (h : DRf B p q w wr az ax ar cz cs cr sn tn rn m ds d) :
    wr.cell? ⟨q, 0, none⟩ = some (.string d.r.nm) ∧ wr.cell? ⟨q, 1, none⟩ = some d.vg ∧ wr.cell? ⟨q, 2, none⟩ = some d.ve ∧ wr.frozen? ⟨q, 0, none⟩ = false ∧ wr.frozen? ⟨q, 1, none⟩ = false ∧ wr.frozen? ⟨q, 2, none⟩ = false ∧ w.heap.size ≤ q ∧ q < wr.heap.size :=
  ⟨h.b.cellAt 0 (by decide), h.b.cellAt 1 (by decide), h.b.cellAt 2 (by decide), h.b.frozenAt 0, h.b.frozenAt 1, h.b.frozenAt 2, own_ge h.b⟩
theorem rbox_new {w : World} (x y z : Value) : (w.alloc (.cells #[x, y, z] 54)).ownsRow w.heap.size 54 1 (.slice (some ⟨w.heap.size, 0, none⟩) 3 3) 3 [x, y, z] := by
  have h := World.ownsRow_lit (e := 54) (size := 1) (base := w.heap.size) w #[x, y, z] 3 (by simp) (by decide) (by simp)
  simpa using h
/-- One cell of the box q is set: the rule d becomes d'. -/
theorem DRf.set {B p q : Nat} {w wr : World} {az ax ar : Option Addr} {cz cs cr sn tn rn : Nat} {m : Mdl} {ds : List RuD} {d d' : RuD} (h : DRf B p q w wr az ax ar cz cs cr sn tn rn m ds d) (i : Nat) (v : Value)
    (he : ([.string d.r.nm, d.vg, d.ve] : List Value).set i v = [.string d'.r.nm, d'.vg, d'.ve]) (hn : Nest wr w.heap.size d') (hg : d'.r.gs.length ≤ 1000 ∧ d'.r.es.length ≤ 1000 ∧ d'.r.nm.size ≤ 1000) :
    DRf B p q w (wr.setCell ⟨q, i, none⟩ v) az ax ar cz cs cr sn tn rn m ds d' := by
  have hst := h.b.stored i v
  rw [he] at hst
  have hbq := own_ge h.b
  have hb : wr.ownsRow w.heap.size 54 1 (.slice (some ⟨q, 0, none⟩) 3 3) 3 _ := h.b
  have hgr : wr.grownBy (wr.setCell ⟨q, i, none⟩ v) (Value.slice (some ⟨q, 0, none⟩) 3 3).ownBlock := hst.2
  have k1 : ∀ {b1 : Nat} {e1 : TypeId} {s1 n1 : Nat} {v1 : Value} {x1 : List Value}, e1 ≠ 54 → wr.ownsRow b1 e1 s1 v1 n1 x1 → (wr.setCell ⟨q, i, none⟩ v).ownsRow b1 e1 s1 v1 n1 x1 := fun he h1 => own_keep h1 hb he hgr
  refine ⟨⟨k1 (by decide) h.k.b, ⟨⟨k1 (by decide) h.k.m.o.z, k1 (by decide) h.k.m.o.s, kept_ne h.k.m.o.r hst.2 (fun x hx e => ?_), h.k.m.o.e, fun d hd => ⟨k1 (by decide) (h.k.m.o.d d hd).1, k1 (by decide) (h.k.m.o.d d hd).2⟩⟩, h.k.m.z, h.k.m.s, h.k.m.r, h.k.m.sep, h.k.m.zb, h.k.m.rb, h.k.m.B⟩, h.k.n1, h.k.n2, h.k.t1, h.k.t2, h.k.r2, k1 (by decide) h.k.x, h.k.lt, h.k.bl, h.k.d.far h.k.bl hst.2 (fun x hx => by simp at hx; omega)⟩, hst.1, ⟨k1 (by decide) hn.1, k1 (by decide) hn.2⟩, hg, h.a, h.r1, h.r2⟩
  have := h.a x (by rw [← h.k.m.r]; exact hx)
  simp at e
  omega
/-- The box gets other values. -/
theorem DKf.box {B p : Nat} {w wr : World} {az ax ar az' ax' ar' : Option Addr} {cz cs cr sn tn rn cz' cs' cr' sn' tn' rn' : Nat} {m m' : Mdl} {ds ds' : List RuD} (h : DKf B p w wr az ax ar cz cs cr sn tn rn m ds)
    (hm : DMd B w.heap.size wr az' ax' ar' cz' cs' cr' sn' tn' rn' m' ds') (h1 : 1 ≤ sn') (h2 : sn' ≤ 10) (h3 : 1 ≤ tn') (h4 : tn' ≤ 10) (h5 : rn' ≤ 300) :
    DKf B p w (set3 wr p (.slice az' sn' cz') (.slice ax' tn' cs') (.slice ar' rn' cr')) az' ax' ar' cz' cs' cr' sn' tn' rn' m' ds' := by
  obtain ⟨hb, hg⟩ := MBox.set3 h.b (.slice az' sn' cz') (.slice ax' tn' cs') (.slice ar' rn' cr')
  have hlt := h.lt
  have hbx : wr.grownBy (set3 wr p (.slice az' sn' cz') (.slice ax' tn' cs') (.slice ar' rn' cr')) (Value.slice (some ⟨p, 0, none⟩) 3 3).ownBlock := hg
  have hbo : wr.ownsRow w.heap.size 27 1 (.slice (some ⟨p, 0, none⟩) 3 3) 3 _ := h.b
  exact ⟨hb, ⟨⟨own_keep hm.o.z hbo (by decide) hbx, own_keep hm.o.s hbo (by decide) hbx, own_keep hm.o.r hbo (by decide) hbx, hm.o.e, fun d hd => ⟨own_keep (hm.o.d d hd).1 hbo (by decide) hbx, own_keep (hm.o.d d hd).2 hbo (by decide) hbx⟩⟩, hm.z, hm.s, hm.r, hm.sep, hm.zb, hm.rb, hm.B⟩,
    h1, h2, h3, h4, h5, MBox.kept h.x hg (fun q hq => by simp at hq; omega), h.lt, h.bl, h.d.set3 h.bl _ _ _ (Nat.le_of_lt h.lt)⟩
/-- Other sizes. -/
theorem DMd.newZ {B base : Nat} {w : World} {az ax ar az' : Option Addr} {cz cs cr sn tn rn cz' sn' : Nat} {m : Mdl} {ds : List RuD} (h : DMd B base w az ax ar cz cs cr sn tn rn m ds) {zs : List Int} (hz : zs.length = sn') (ho : w.ownsRow base 2 1 (.slice az' sn' cz') sn' (ints zs))
    (hsep : ∀ q, (Value.slice az' sn' cz').ownBlock = some q → (Value.slice ax tn cs).ownBlock ≠ some q) (hb : ∀ z ∈ zs, z ≤ 9223372036854775807) : DMd B base w az' ax ar cz' cs cr sn' tn rn { m with sz := zs } ds := by
  refine ⟨⟨?_, h.o.s, h.o.r, h.o.e, h.o.d⟩, hz, h.s, h.r, hsep, hb, h.rb, h.B⟩
  show World.ownsRow _ _ _ _ (.slice az' zs.length cz') zs.length _
  rw [hz]
  exact ho
theorem strs4_at {w : World} (r : Nat) (hr : r < 4) : ∃ nm : ByteArray, nm.size ≤ 100 ∧ (w.alloc (Obj.cells #[Value.string ⟨#[]⟩, Value.string ⟨#[115, 105, 120, 116, 101, 101, 110, 95, 108, 101, 116, 116, 101, 114, 115, 48]⟩, Value.string ⟨#[115, 101, 118, 101, 110, 116, 101, 101, 110, 95, 108, 101, 116, 116, 101, 114, 115]⟩, Value.string ⟨#[71, 111]⟩] 9)).cell? ⟨w.heap.size, r, none⟩ = some (.string nm) := by
  match r, hr with
  | 0, _ => exact ⟨⟨#[]⟩, by decide, by go_simp⟩
  | 1, _ => exact ⟨⟨#[115, 105, 120, 116, 101, 101, 110, 95, 108, 101, 116, 116, 101, 114, 115, 48]⟩, by decide, by go_simp⟩
  | 2, _ => exact ⟨⟨#[115, 101, 118, 101, 110, 116, 101, 101, 110, 95, 108, 101, 116, 116, 101, 114, 115]⟩, by decide, by go_simp⟩
  | 3, _ => exact ⟨⟨#[71, 111]⟩, by decide, by go_simp⟩
theorem tst_zero (i : Nat) (hi : i < 3) : (Tst.cells ⟨0, 0, false⟩)[i]? = some ((#[.int .i64 0, .int .i64 0, .bool false] : Array Value)[i]!) := by
  match i, hi with
  | 0, _ => rfl
  | 1, _ => rfl
  | 2, _ => rfl
theorem made_tst (n : Nat) : (madeCells (Value.agg #[.int .i64 0, .int .i64 0, .bool false]).cells (n * 3)).toList = tstCells (List.replicate n ⟨0, 0, false⟩) := by
  refine List.ext_getElem (by simp [size_madeCells, tstCells_length]) fun j h1 h2 => ?_
  have hj : j < n * 3 := by simpa [size_madeCells] using h1
  have hk : (List.replicate n (⟨0, 0, false⟩ : Tst))[j / 3]? = some ⟨0, 0, false⟩ := by rw [List.getElem?_replicate, if_pos (by omega)]
  have h3 := tstCells_get (i := j % 3) (Nat.mod_lt _ (by decide)) hk
  rw [show j / 3 * 3 + j % 3 = j by omega, tst_zero _ (Nat.mod_lt _ (by decide)), List.getElem?_eq_getElem h2] at h3
  rw [Option.some.inj h3]
  simp only [madeCells, Array.toList_map, List.getElem_map, Value.cells]
  simp only [Array.getElem_toList, Array.getElem_range]
  rfl
theorem own_none {w : World} {base : Nat} {e : TypeId} {size n c : Nat} {xs : List Value} (h : w.ownsRow base e size (.slice none n c) n xs) : n = 0 ∧ c = 0 := by
  rcases h.2 with ⟨hv, hn⟩ | ⟨g, cap, cur, hv, _⟩
  · simp only [Value.slice.injEq, true_and] at hv
    exact hv
  · simp at hv
theorem wpList_append_asg (w : World) {ops : Array Oper} {rest : List Oper} {o : Oper} {a : Act} {Q : Exit → Act → World → Prop} (hgd : o.guard = none) (s x : Operand)
    (ho : o.op = .call { callee := .builtin .append, args := #[s, x], argTypes := #[52, 52] })
    (base : Nat) (v : Value) (n : Nat) (zs ys : List Asg) (ad : Addr) (m c : Nat) (hs : a.eval s = v) (hown : w.ownsRow base 104 2 v n (asgCells zs))
    (hx : a.eval x = .slice (some ad) m c) (hr : Rd w (some ad) (asgCells ys)) (hm : m = ys.length) (hn : n + m ≤ 1000000) (hbase : base ≤ w.heap.size)
    (h : ∀ v' w', w'.ownsRow base 104 2 v' (n + m) (asgCells (zs ++ ys)) → w.grownBy w' v.ownBlock → wpList Try.prog ops Q rest (a.put o.dst v') w') : wpList Try.prog ops Q (o :: rest) a w := by
  obtain ⟨i0, hi, hz0, hz1, hz2⟩ := info_parts info_iAssign
  refine wpList_append_own w hgd s x 52 ho base 104 i0 _ 2 16 Try.underlying52 hi hz0 hz1 hz2 rfl (by decide) v n (asgCells zs) hs hown ad m c (asgCells ys) hx (by rw [asgCells_length, hm]) (news_rd hr rfl) ?_ (by unfold maxLen; omega) (by omega) hbase ?_
  · intro u hu
    obtain ⟨t, _, hu⟩ := List.mem_flatMap.1 hu
    simp only [Asg.cells, List.mem_cons, List.not_mem_nil, or_false] at hu
    rcases hu with rfl | rfl <;> rfl
  · intro v' w' h1 h2 _
    refine h v' w' ?_ h2
    have e : asgCells (zs ++ ys) = asgCells zs ++ asgCells ys := by simp [asgCells]
    rw [e]
    exact h1
theorem wpList_append_rul (w : World) {ops : Array Oper} {rest : List Oper} {o : Oper} {a : Act} {Q : Exit → Act → World → Prop} (hgd : o.guard = none) (s x : Operand)
    (ho : o.op = .call { callee := .builtin .append, args := #[s, x], argTypes := #[25, 25] })
    (base : Nat) (v : Value) (n : Nat) (zs ys : List RuD) (ad : Addr) (m c : Nat) (hs : a.eval s = v) (hown : w.ownsRow base 54 3 v n (rudCells zs))
    (hx : a.eval x = .slice (some ad) m c) (hr : Rd w (some ad) (rudCells ys)) (hm : m = ys.length) (hn : n + m ≤ 1000000) (hbase : base ≤ w.heap.size)
    (h : ∀ v' w', w'.ownsRow base 54 3 v' (n + m) (rudCells (zs ++ ys)) → w.grownBy w' v.ownBlock → wpList Try.prog ops Q rest (a.put o.dst v') w') : wpList Try.prog ops Q (o :: rest) a w := by
  obtain ⟨i0, hi, hz0, hz1, hz2⟩ := info_parts info_iRule
  refine wpList_append_own w hgd s x 25 ho base 54 i0 _ 3 64 Try.underlying25 hi hz0 hz1 hz2 rfl (by decide) v n (rudCells zs) hs hown ad m c (rudCells ys) hx (by rw [rudCells_length, hm]) (news_rd hr rfl) ?_ (by unfold maxLen; omega) (by omega) hbase ?_
  · intro u hu
    obtain ⟨t, _, hu⟩ := List.mem_flatMap.1 hu
    simp only [RuD.cells, List.mem_cons, List.not_mem_nil, or_false] at hu
    rcases hu with rfl | rfl | rfl <;> rfl
  · intro v' w' h1 h2 _
    refine h v' w' ?_ h2
    have e : rudCells (zs ++ ys) = rudCells zs ++ rudCells ys := by simp [rudCells]
    rw [e]
    exact h1
theorem rud_set0 {d1 d : RuD} {l : List RuD} : (((rudCells (d1 :: l)).set 0 (.string d.r.nm)).set 1 d.vg).set 2 d.ve = rudCells (d :: l) := by
  simp [rudCells, RuD.cells]
theorem rul_first {w : World} {base g n c : Nat} {ds : List RuD} {d1 d : RuD} {l : List RuD} (hds : ds = d1 :: l) (h : w.ownsRow base 54 3 (.slice (some ⟨g, 0, none⟩) n c) n (rudCells ds)) :
    (set3 w g (.string d.r.nm) d.vg d.ve).ownsRow base 54 3 (.slice (some ⟨g, 0, none⟩) n c) n (rudCells (d :: l)) ∧ w.grownBy (set3 w g (.string d.r.nm) d.vg d.ve) (some g) := by
  subst hds
  have h0 := h.stored 0 (.string d.r.nm)
  have h1 := h0.1.stored 1 d.vg
  have h2 := h1.1.stored 2 d.ve
  rw [rud_set0] at h2
  exact ⟨h2.1, grown_trans (grown_trans h0.2 h1.2) h2.2⟩
/-- Other rules. -/
theorem DMd.newR {B base : Nat} {w : World} {az ax ar ar' : Option Addr} {cz cs cr sn tn rn cr' rn' : Nat} {m : Mdl} {ds dl : List RuD} (h : DMd B base w az ax ar cz cs cr sn tn rn m ds) (hl : dl.length = rn') (ho : w.ownsRow base 54 3 (.slice ar' rn' cr') rn' (rudCells dl))
    (hn : ∀ d ∈ dl, Nest w base d ∧ d.r.gs.length ≤ 1000 ∧ d.r.es.length ≤ 1000 ∧ d.r.nm.size ≤ 1000) : DMd B base w az ax ar' cz cs cr' sn tn rn' { m with rs := dl.map RuD.r } dl := by
  refine ⟨⟨h.o.z, h.o.s, ?_, rfl, fun d hd => (hn d hd).1⟩, h.z, h.s, by rw [List.length_map, hl], h.sep, h.zb, fun d hd => (hn d hd).2, h.B⟩
  show World.ownsRow _ _ _ _ (.slice ar' (dl.map RuD.r).length cr') (dl.map RuD.r).length _
  rw [List.length_map, hl]
  exact ho
def lenV : Value → Nat
  | .slice _ n _ => n
  | _ => 0
theorem wp_append_tst (w : World) {o : Oper} {a : Act} {K : Act → World → Prop} {Q : Exit → Act → World → Prop} (s x : Operand)
    (ho : o.op = .call { callee := .builtin .append, args := #[s, x], argTypes := #[28, 28] })
    (base : Nat) (v : Value) (n : Nat) (zs ys : List Tst) (ad : Addr) (m c : Nat) (hs : a.eval s = v) (hown : w.ownsRow base 100 3 v n (tstCells zs))
    (hx : a.eval x = .slice (some ad) m c) (hr : Rd w (some ad) (tstCells ys)) (hm : m = ys.length) (hn : n + m ≤ 1000000) (hbase : base ≤ w.heap.size)
    (h : ∀ v' w', w'.ownsRow base 100 3 v' (n + m) (tstCells (zs ++ ys)) → w.grownBy w' v.ownBlock → K (a.put o.dst v') w') : o.wp Try.prog a w K Q := by
  obtain ⟨i0, hi, hz0, hz1, hz2⟩ := info_parts info_iTest
  refine wp_append_own w s x 28 ho base 100 i0 _ 3 24 Try.underlying28 hi hz0 hz1 hz2 rfl (by decide) v n (tstCells zs) hs hown ad m c (tstCells ys) hx (by rw [tstCells_length, hm]) (news_rd hr rfl) ?_ (by unfold maxLen; omega) (by omega) hbase ?_
  · intro u hu
    obtain ⟨t, _, hu⟩ := List.mem_flatMap.1 hu
    simp only [Tst.cells, List.mem_cons, List.not_mem_nil, or_false] at hu
    rcases hu with rfl | rfl | rfl <;> rfl
  · intro v' w' h1 h2 _
    refine h v' w' ?_ h2
    have e : tstCells (zs ++ ys) = tstCells zs ++ tstCells ys := by simp [tstCells]
    rw [e]
    exact h1
theorem wp_push_tst (w : World) {o : Oper} {a : Act} {K : Act → World → Prop} {Q : Exit → Act → World → Prop} (s x : Operand)
    (ho : o.op = .call { callee := .builtin .append, args := #[s, x], argTypes := #[28, 28] })
    (base : Nat) (v : Value) (n : Nat) (l : List Tst) (t : Tst) (g c : Nat) (hs : a.eval s = v) (hown : w.ownsRow base 100 3 v n (tstCells l))
    (hx : a.eval x = .slice (some ⟨g, 0, none⟩) 1 c) (h0 : w.cell? ⟨g, 0, none⟩ = some (.int .i64 t.v)) (h1 : w.cell? ⟨g, 1, none⟩ = some (.int .i64 t.x)) (h2 : w.cell? ⟨g, 2, none⟩ = some (.bool t.q)) (hn : n ≤ 1048577) (hbase : base ≤ w.heap.size)
    (h : ∀ v' w', w'.ownsRow base 100 3 v' (n + 1) (tstCells (l ++ [t])) → w.grownBy w' v.ownBlock → K (a.put o.dst v') w') : o.wp Try.prog a w K Q := by
  obtain ⟨i0, hi, hz0, hz1, hz2⟩ := info_parts info_iTest
  refine wp_push w s x 28 ho base 100 i0 _ 3 24 Try.underlying28 hi hz0 hz1 hz2 rfl (by decide) v n (tstCells l) hs hown ⟨g, 0, none⟩ c t.cells hx rfl ?_ ?_ (by unfold maxLen; omega) (by omega) hbase ?_
  · intro j u hu
    match j, hu with
    | 0, hu => simp only [Tst.cells, List.getElem?_cons_zero, Option.some.injEq] at hu; rw [← hu]; simpa [Addr.add] using h0
    | 1, hu => simp only [Tst.cells, List.getElem?_cons_succ, List.getElem?_cons_zero, Option.some.injEq] at hu; rw [← hu]; simpa [Addr.add] using h1
    | 2, hu => simp only [Tst.cells, List.getElem?_cons_succ, List.getElem?_cons_zero, Option.some.injEq] at hu; rw [← hu]; simpa [Addr.add] using h2
  · intro u hu
    simp only [Tst.cells, List.mem_cons, List.not_mem_nil, or_false] at hu
    rcases hu with rfl | rfl | rfl <;> rfl
  · intro v' w' hown1 hgrow _ _
    refine h v' w' ?_ hgrow
    have e : tstCells (l ++ [t]) = tstCells l ++ t.cells := by simp [tstCells]
    rw [e]
    exact hown1
end Go.Proofs.Ytaloheljfefdeaa

/- l20Draw: between the orders of the region of a further test. No condition. -/
namespace Go.Proofs.Ytaloheljfefdeaa
open Go.RowKit

structure T14 (B q p : Nat) (w2 C : World) (vg bz : Value) : Prop where
  c : C.cell? ⟨q, 1, none⟩ = some vg
  b : C.cell? ⟨p, 0, none⟩ = some bz
  d : DW B w2 C
theorem T14.alloc {B q p : Nat} {w2 C : World} {vg bz : Value} (h : T14 B q p w2 C vg bz) (hB : B < w2.heap.size) (o : Obj) : T14 B q p w2 (C.alloc o) vg bz :=
  ⟨cell_later (below_alloc (Below.refl _ _) o) h.c, cell_later (below_alloc (Below.refl _ _) o) h.b, h.d.alloc hB o⟩
theorem T14.drew {B q p : Nat} {w2 C : World} {vg bz : Value} (h : T14 B q p w2 C vg bz) (hB : B < w2.heap.size) : T14 B q p w2 C.drew vg bz := ⟨h.c, h.b, h.d.drew hB⟩
theorem T14.far {B q p : Nat} {w2 C C' : World} {vg bz : Value} (h : T14 B q p w2 C vg bz) (hB : B < w2.heap.size) (hq : q < w2.heap.size) (hp : p < w2.heap.size) {row : Option Nat} (hg : C.grownBy C' row) (hr : ∀ x, row = some x → w2.heap.size ≤ x) : T14 B q p w2 C' vg bz :=
  ⟨hg.cell h.c (fun e => by have := hr _ e.symm; dsimp only at this; omega), hg.cell h.b (fun e => by have := hr _ e.symm; dsimp only at this; omega), h.d.far hB hg hr⟩
theorem tst_lit (C : World) (g : Nat) (hg : g = C.heap.size) (x y : Int) (z : Bool) : (C.alloc (Obj.cells #[.int .i64 x, .int .i64 y, .bool z] 100)).cell? ⟨g, 0, none⟩ = some (.int .i64 x) ∧ (C.alloc (Obj.cells #[.int .i64 x, .int .i64 y, .bool z] 100)).cell? ⟨g, 1, none⟩ = some (.int .i64 y) ∧ (C.alloc (Obj.cells #[.int .i64 x, .int .i64 y, .bool z] 100)).cell? ⟨g, 2, none⟩ = some (.bool z) := by
  subst hg
  exact ⟨by go_simp, by go_simp, by go_simp⟩
theorem tst_nil (C : World) (g : Nat) (hg : g = C.heap.size) (base : Nat) (hb : base ≤ C.heap.size) : (C.alloc (Obj.cells #[] 100)).ownsRow base 100 3 (.slice (some ⟨g, 0, none⟩) 0 0) 0 (tstCells []) := by
  subst hg
  have := World.ownsRow_made (e := 100) (size := 3) (base := base) C #[] 0 hb (Nat.zero_le _) rfl
  simpa [tstCells] using this
theorem wp_append_tst_any (w : World) {o : Oper} {a : Act} {K : Act → World → Prop} {Q : Exit → Act → World → Prop} (s x : Operand)
    (ho : o.op = .call { callee := .builtin .append, args := #[s, x], argTypes := #[28, 28] })
    (base : Nat) (v : Value) (n : Nat) (zs ys : List Tst) (A : Option Addr) (m c : Nat) (hs : a.eval s = v) (hown : w.ownsRow base 100 3 v n (tstCells zs))
    (hx : a.eval x = .slice A m c) (hr : Rd w A (tstCells ys)) (hA : A = none → m = 0 ∧ c = 0) (hm : m = ys.length) (hn : n + m ≤ 1000000) (hbase : base ≤ w.heap.size)
    (h : ∀ v' w', w'.ownsRow base 100 3 v' (n + m) (tstCells (zs ++ ys)) → w.grownBy w' v.ownBlock → K (a.put o.dst v') w') : o.wp Try.prog a w K Q := by
  cases A with
  | some ad => exact wp_append_tst w s x ho base v n zs ys ad m c hs hown hx hr hm hn hbase h
  | none =>
    obtain ⟨rfl, rfl⟩ := hA rfl
    obtain ⟨i0, hi, hz0, hz1, hz2⟩ := info_parts info_iTest
    have hrun := run_append_owned_none (P := Try.prog) (w := w) base 28 o.type 100 i0 3 Try.underlying28 hi v n _ hown
    have hy : ys = [] := List.eq_nil_of_length_eq_zero hm.symm
    unfold Oper.wp
    simp [execOp, ho, resolve, invoke, builtin, hs, hx, hrun, Result.andThen]
    exact h _ _ (by rw [hy, List.append_nil]; exact hown) (grown_refl _ _)
end Go.Proofs.Ytaloheljfefdeaa
