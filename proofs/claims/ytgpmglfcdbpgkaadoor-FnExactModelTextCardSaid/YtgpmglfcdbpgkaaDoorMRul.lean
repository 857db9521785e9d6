/- Contracts of the laws' own copies of rules. No condition but the lists' sizes. -/
import Derived.Test.YtgpmglfcdbpgkaaDoorRowM
namespace Go.Proofs.YtgpmglfcdbpgkaaDoor
open Go.RowKit

/-- A rule. -/
structure Rul where
  nm : ByteArray
  gs : List Tst
  es : List Asg
/-- A rule as it lies in memory. -/
structure RuD where
  r : Rul
  ag : Option Addr
  cg : Nat
  ae : Option Addr
  ce : Nat
def RuD.vg (d : RuD) : Value := .slice d.ag d.r.gs.length d.cg
def RuD.ve (d : RuD) : Value := .slice d.ae d.r.es.length d.ce
def RuD.cells (d : RuD) : List Value := [.string d.r.nm, d.vg, d.ve]
def rudCells (ds : List RuD) : List Value := ds.flatMap RuD.cells
theorem rudCells_length (l : List RuD) : (rudCells l).length = l.length * 3 := by
  induction l with
  | nil => rfl
  | cons s t ih => simp only [rudCells, List.flatMap_cons, List.length_append, List.length_cons] at ih ⊢; rw [ih]; simp [RuD.cells]; omega
theorem rudCells_snoc (l : List RuD) (d : RuD) : rudCells (l ++ [d]) = rudCells l ++ [.string d.r.nm, d.vg, d.ve] := by simp [rudCells, RuD.cells]
theorem rudCells_get {s : RuD} {i : Nat} (hi : i < 3) : ∀ {l : List RuD} {k : Nat}, l[k]? = some s → (rudCells l)[k * 3 + i]? = s.cells[i]?
  | [], k, h => by simp at h
  | t :: l, 0, h => by
    simp only [List.getElem?_cons_zero, Option.some.injEq] at h
    subst h
    simp only [rudCells, List.flatMap_cons, Nat.zero_mul, Nat.zero_add]
    rw [List.getElem?_append_left (by simp [RuD.cells]; omega)]
  | t :: l, k + 1, h => by
    simp only [List.getElem?_cons_succ] at h
    have := rudCells_get hi h
    simp only [rudCells, List.flatMap_cons] at this ⊢
    rw [List.getElem?_append_right (by simp [RuD.cells]; omega), ← this]
    congr 1
    simp [RuD.cells]; omega
theorem rudCells_at {s : RuD} {l : List RuD} {k : Nat} (h : l[k]? = some s) : (rudCells l)[k * 3]? = some (.string s.r.nm) ∧ (rudCells l)[k * 3 + 1]? = some s.vg ∧ (rudCells l)[k * 3 + 2]? = some s.ve :=
  ⟨rudCells_get (i := 0) (by omega) h, rudCells_get (i := 1) (by omega) h, rudCells_get (i := 2) (by omega) h⟩
/-- The slice value `.slice A l.length c` holds the rules l. -/
def Rl (w : World) (A : Option Addr) (l : List Rul) : Prop :=
  ∃ ds : List RuD, ds.map RuD.r = l ∧ Rd w A (rudCells ds) ∧ ∀ d ∈ ds, Rd w d.ag (tstCells d.r.gs) ∧ Rd w d.ae (asgCells d.r.es)
theorem Rl.below {w w1 : World} {A : Option Addr} {l : List Rul} (h : Rl w A l) (hb : Below w.heap.size w w1) : Rl w1 A l := by
  obtain ⟨ds, e, h1, h2⟩ := h
  exact ⟨ds, e, h1.below hb, fun d hd => ⟨(h2 d hd).1.below hb, (h2 d hd).2.below hb⟩⟩
theorem Rl.alloc {w : World} {A : Option Addr} {l : List Rul} (h : Rl w A l) (o : Obj) : Rl (w.alloc o) A l := h.below (below_alloc (Below.refl _ _) o)
/-- What one rule of the list reads. -/
theorem Rl.at {w : World} {A : Option Addr} {l : List Rul} {k : Nat} {r : Rul} (h : Rl w A l) (hk : l[k]? = some r) : ∃ b off ag cg ae ce, A = some ⟨b, off, none⟩ ∧ b < w.heap.size ∧ w.cell? ⟨b, off + k * 3, none⟩ = some (.string r.nm) ∧
    w.cell? ⟨b, off + k * 3 + 1, none⟩ = some (.slice ag r.gs.length cg) ∧ w.cell? ⟨b, off + k * 3 + 2, none⟩ = some (.slice ae r.es.length ce) ∧ Rd w ag (tstCells r.gs) ∧ Rd w ae (asgCells r.es) := by
  obtain ⟨ds, rfl, h1, h2⟩ := h
  rw [List.getElem?_map, Option.map_eq_some_iff] at hk
  obtain ⟨d, hd, rfl⟩ := hk
  obtain ⟨u0, u1, u2⟩ := rudCells_at hd
  obtain ⟨b, off, rfl, hb, hc⟩ := h1.some_ (by intro e; rw [e] at u0; simp at u0)
  have hm := h2 d (List.mem_of_getElem? hd)
  exact ⟨b, off, d.ag, d.cg, d.ae, d.ce, rfl, hb, hc _ _ u0, hc _ _ u1, hc _ _ u2, hm.1, hm.2⟩
/-- The two rows behind a rule are the call's own. -/
def Nest (w : World) (base : Nat) (d : RuD) : Prop := w.ownsRow base 60 3 d.vg d.r.gs.length (tstCells d.r.gs) ∧ w.ownsRow base 44 2 d.ve d.r.es.length (asgCells d.r.es)
theorem Nest.below {w w1 : World} {base : Nat} {d : RuD} (h : Nest w base d) (hb : Below w.heap.size w w1) : Nest w1 base d := ⟨own_below h.1 hb, own_below h.2 hb⟩
theorem Nest.mono {w : World} {base base' : Nat} {d : RuD} (h : Nest w base d) (hb : base' ≤ base) : Nest w base' d := ⟨own_mono h.1 hb, own_mono h.2 hb⟩
theorem kept_far {w w' : World} {row : Option Nat} {base : Nat} {e : TypeId} {size n : Nat} {v : Value} {xs : List Value} (h : w.ownsRow base e size v n xs) (hg : w.grownBy w' row) (hlt : ∀ q, row = some q → q < base) : w'.ownsRow base e size v n xs := by
  refine h.kept hg ?_
  rcases hv : v.ownBlock with _ | q
  · exact .inl rfl
  · refine .inr fun h' => ?_
    have := (h.lt q hv).1
    have := hlt q h'.symm
    omega
theorem Nest.far {w w1 : World} {base : Nat} {d : RuD} {row : Option Nat} (h : Nest w base d) (hg : w.grownBy w1 row) (hlt : ∀ q, row = some q → q < base) : Nest w1 base d := ⟨kept_far h.1 hg hlt, kept_far h.2 hg hlt⟩
theorem grown_trans {w a b : World} {row : Option Nat} (h : w.grownBy a row) (h2 : a.grownBy b row) : w.grownBy b row :=
  ⟨h2.os.trans h.os, h2.tape.trans h.tape, h2.output.trans h.output, Nat.le_trans h.size h2.size, fun k hk hne => (h2.block k (Nat.lt_of_lt_of_le hk h.size) hne).trans (h.block k hk hne)⟩
theorem app_set {xs Z : List Value} {m : Nat} (u : Value) (hx : xs.length = m) (hz : m < Z.length) : (xs ++ Z.drop m).set m u = (xs ++ [u]) ++ Z.drop (m + 1) := by
  have hz' : Z.drop m = Z[m] :: Z.drop (m + 1) := List.drop_eq_getElem_cons hz
  rw [List.set_append_right _ _ (by omega), hx, Nat.sub_self, hz', List.set_cons_zero]
  simp
theorem app_set3 {xs Z : List Value} {m : Nat} (u0 u1 u2 : Value) (hx : xs.length = m) (hz : m + 3 ≤ Z.length) : ((((xs ++ Z.drop m).set m u0).set (m + 1) u1).set (m + 2) u2) = (xs ++ [u0, u1, u2]) ++ Z.drop (m + 3) := by
  rw [app_set u0 hx (by omega), app_set u1 (by simp [hx]) (by omega), app_set u2 (by simp [hx]) (by omega)]
  simp
/-- What is handed back is a rule with rows of the call's own. -/
def RetRul (r : Rul) (w : World) (e : Ending) (w' : World) : Prop :=
  ∃ d : RuD, d.r = r ∧ e = .returned (.agg #[.string r.nm, d.vg, d.ve]) ∧ Nest w' w.heap.size d ∧ Below w.heap.size w w'
set_option maxRecDepth 100000 in
theorem c_toRule (r : Rul) (ag ae : Option Addr) (cg ce : Nat) (w : World) (hsg : r.gs.length ≤ 1048576) (hse : r.es.length ≤ 1048576) (hg : Rd w ag (tstCells r.gs)) (he : Rd w ae (asgCells r.es)) :
    Calls Tryd.prog 25 #[.agg #[.string r.nm, .slice ag r.gs.length cg, .slice ae r.es.length ce]] w (RetRul r w) := by
  obtain ⟨nm, gs, es⟩ := r
  simp only at hsg hse hg he ⊢
  have HE := Lib.hid he
  clear he
  go_enter Tryd.func25, Tryd.ntmps25
  go_wp2_with (first
    | (go_at_call 42
       refine (c_toTestS _ _ _ gs _ rfl hsg (((hg.alloc _).alloc _).alloc _)).mono ?_
       rintro e w1 ⟨A1, c1, rfl, ho, hb⟩
       have kr : w1.cell? ⟨w.heap.size, 2, none⟩ = some (.slice ae es.length ce) := cell_later hb (by go_simp)
       have o0 : w1.cell? ⟨w.heap.size + 1 + 1, 0, none⟩ = some (.string nm) := cell_later hb (by go_simp)
       have o1 : w1.cell? ⟨w.heap.size + 1 + 1, 1, none⟩ = some (.slice none 0 0) := cell_later hb (by go_simp)
       have o2 : w1.cell? ⟨w.heap.size + 1 + 1, 2, none⟩ = some (.slice none 0 0) := cell_later hb (by go_simp)
       have p0 : w1.cell? ⟨w.heap.size + 1, 0, none⟩ = some (.string ⟨#[]⟩) := cell_later hb (by go_simp)
       have p1 : w1.cell? ⟨w.heap.size + 1, 1, none⟩ = some (.slice none 0 0) := cell_later hb (by go_simp)
       have p2 : w1.cell? ⟨w.heap.size + 1, 2, none⟩ = some (.slice none 0 0) := cell_later hb (by go_simp)
       have f1 : w1.frozen? ⟨w.heap.size + 1 + 1, 1, none⟩ = false := frozen_later hb (by simp) (by go_simp)
       have f2 : w1.frozen? ⟨w.heap.size + 1 + 1, 2, none⟩ = false := frozen_later hb (by simp) (by go_simp)
       have e0 : w1.frozen? ⟨w.heap.size + 1, 0, none⟩ = false := frozen_later hb (by simp) (by go_simp)
       have e1 : w1.frozen? ⟨w.heap.size + 1, 1, none⟩ = false := frozen_later hb (by simp) (by go_simp)
       have e2 : w1.frozen? ⟨w.heap.size + 1, 2, none⟩ = false := frozen_later hb (by simp) (by go_simp)
       have B := Lib.hid (below_chain (by (repeat (first | exact Below.refl _ _ | assumption | refine below_alloc ?_ _ | refine below_drewN ?_ _ | refine below_set ?_ _ (by simp; try omega) | refine Below.drew ?_)) : Below w.heap.size w _) hb)
       have HO := Lib.hid ho
       have hz := World.block_lt_of_cell? _ _ o0
       clear hb ho hg)
    | (go_at_call 43
       refine (c_toAssignS _ _ _ es _ rfl hse (HE.out.below (below_set B.out _ (by simp; try omega)))).mono ?_
       rintro e w2 ⟨A2, c2, rfl, ho2, hb2⟩
       have q0 : w2.cell? ⟨w.heap.size + 1 + 1, 0, none⟩ = some (.string nm) := cell_later hb2 (by go_simp)
       have q1 : w2.cell? ⟨w.heap.size + 1 + 1, 1, none⟩ = some (.slice A1 gs.length c1) := cell_later hb2 (by go_simp)
       have q2 : w2.cell? ⟨w.heap.size + 1 + 1, 2, none⟩ = some (.slice none 0 0) := cell_later hb2 (by go_simp)
       have r0 : w2.cell? ⟨w.heap.size + 1, 0, none⟩ = some (.string ⟨#[]⟩) := cell_later hb2 (by go_simp)
       have r1 : w2.cell? ⟨w.heap.size + 1, 1, none⟩ = some (.slice none 0 0) := cell_later hb2 (by go_simp)
       have r2 : w2.cell? ⟨w.heap.size + 1, 2, none⟩ = some (.slice none 0 0) := cell_later hb2 (by go_simp)
       have g2 : w2.frozen? ⟨w.heap.size + 1 + 1, 2, none⟩ = false := frozen_later hb2 (by simp; omega) (by go_simp)
       have h0 : w2.frozen? ⟨w.heap.size + 1, 0, none⟩ = false := frozen_later hb2 (by simp; omega) (by go_simp)
       have h1 : w2.frozen? ⟨w.heap.size + 1, 1, none⟩ = false := frozen_later hb2 (by simp; omega) (by go_simp)
       have h2 : w2.frozen? ⟨w.heap.size + 1, 2, none⟩ = false := frozen_later hb2 (by simp; omega) (by go_simp)
       have B2 := Lib.hid (below_chain (below_set B.out _ (by simp; try omega)) hb2)
       have HO1 := Lib.hid (own_below (ownsRow_setCell_below HO.out (by simp) _) hb2)
       have HO2 := Lib.hid ho2
       have hz2 := World.block_lt_of_cell? _ _ q0
       clear hb2 ho2 kr o0 o1 o2 p0 p1 p2 f1 f2 e0 e1 e2 B HO)
    )
  refine bodyPost_ret (v := .agg #[.string nm, .slice A1 gs.length c1, .slice A2 es.length c2]) (by simp [results, Tryd.results25, go_sem, r0, r1, r2]) rfl ⟨⟨⟨nm, gs, es⟩, A1, c1, A2, c2⟩, rfl, rfl, ⟨?_, ?_⟩, ?_⟩
  · exact own_mono (ownsRow_setCell_below (ownsRow_setCell_below (ownsRow_setCell_below (ownsRow_setCell_below HO1.out (by simp) _) (by simp) _) (by simp) _) (by simp) _) (by simp; omega)
  · exact own_mono (ownsRow_setCell_below (ownsRow_setCell_below (ownsRow_setCell_below (ownsRow_setCell_below HO2.out (by simp; omega) _) (by simp; omega) _) (by simp; omega) _) (by simp; omega) _) (by simp; omega)
  · exact below_set (below_set (below_set (below_set B2.out _ (by simp; try omega)) _ (by simp; try omega)) _ (by simp; try omega)) _ (by simp; try omega)
theorem info_iRule : (Tryd.prog.info? 41).map (fun i => (i.zero, i.size, i.bytes)) = some (some (.agg #[.string ⟨#[]⟩, .slice none 0 0, .slice none 0 0]), 3, 64) := by kernel_rfl
/-- What is handed back is a list of rules of the call's own. -/
def RetRuls (l : List Rul) (w : World) (e : Ending) (w' : World) : Prop :=
  ∃ A c, ∃ ds : List RuD, e = .returned (.slice A l.length c) ∧ ds.map RuD.r = l ∧ w'.ownsRow w.heap.size 41 3 (.slice A l.length c) l.length (rudCells ds) ∧ (∀ d ∈ ds, Nest w' w.heap.size d) ∧ Below w.heap.size w w'
def RulOk (l : List Rul) : Prop := l.length ≤ 1048576 ∧ ∀ r ∈ l, r.gs.length ≤ 1048576 ∧ r.es.length ≤ 1048576
set_option maxRecDepth 100000 in
theorem c_toRuleS (A : Option Addr) (c n : Nat) (l : List Rul) (w : World) (hn : n = l.length) (hs : RulOk l) (hr : Rl w A l) :
    Calls Tryd.prog 16 #[.slice A n c] w (RetRuls l w) := by
  obtain ⟨i0, hi, hz0, hz1, hz2⟩ := info_parts info_iRule
  have HN := Lib.hid hn
  have HS := Lib.hid hs.2
  have hs1 : n ≤ 1048576 := by rw [hn]; exact hs.1
  clear hn hs
  go_enter Tryd.func16, Tryd.ntmps16
  go_wp2_with (first
    | (at_make
       refine wpList_make_full _ rfl (.tmp 6) (.tmp 6) _ rfl w.heap.size 41 i0 _ 3 Tryd.underlying28 hi hz0 hz1 .i64 .i64 _ _ n rfl rfl rfl rfl (by rw [hz2]; omega) (by unfold maxLen; omega) (Nat.le_refl _) ?_
       intro w1 hown hgrow)
    )
  have hb1 : Below w.heap.size w w1 := below_of_grown (Below.refl _ _) hgrow (by simp)
  have hZ : (madeCells (Value.agg #[.string ⟨#[]⟩, .slice none 0 0, .slice none 0 0]).cells (n * 3)).toList.length = n * 3 := by simp [size_madeCells]
  generalize (madeCells (Value.agg #[.string ⟨#[]⟩, .slice none 0 0, .slice none 0 0]).cells (n * 3)).toList = Z at hown hZ
  have HZ := Lib.hid hZ
  clear hZ hgrow
  go_loopw [4] (fun i wr => ∃ k : Nat, k ≤ n ∧ i = .int .i64 k ∧ (∃ ds : List RuD, ds.map RuD.r = l.take k ∧ wr.ownsRow w.heap.size 41 3 (.slice (some ⟨w.heap.size, 0, none⟩) n n) n (rudCells ds ++ Z.drop (k * 3)) ∧ (∀ d ∈ ds, Nest wr (w.heap.size + 1) d)) ∧ Below w.heap.size w wr ∧ w.heap.size < wr.heap.size) (fun i _ => n - (intOf i).toNat)
  case atStart => exact ⟨0, Nat.zero_le _, rfl, ⟨[], by simp, by simpa [rudCells] using hown, by simp⟩, hb1, (hown.lt _ rfl).2⟩
  case round =>
    obtain ⟨k, hk, rfl, ⟨ds, hds, ho, hnest⟩, hb, hsz⟩ := hrel
    clear hown hb1
    have HD := Lib.hid hds
    have HNE := Lib.hid hnest
    clear hds hnest
    by_cases hlt : k < n
    · obtain ⟨r, hr0⟩ : ∃ s, l[k]? = some s := ⟨_, List.getElem?_eq_getElem (by have := HN.out; omega)⟩
      obtain ⟨b, off, ag, cg, ae, ce, rfl, _, g0, g1, g2, hrg, hre⟩ := (hr.below hb).at hr0
      have hok := HS.out r (List.mem_of_getElem? hr0)
      have HR := Lib.hid hr0
      have HOK := Lib.hid hok
      have HRG := Lib.hid hrg
      have HRE := Lib.hid hre
      have HO := Lib.hid ho
      have HB := Lib.hid hb
      clear hr0 ho hb hr hrg hre hok
      go_wp2_with (first
        | (go_at_call 25
           refine (c_toRule r _ _ _ _ _ HOK.out.1 HOK.out.2 HRG.out HRE.out).mono ?_
           rintro e w2 ⟨⟨r', A1, c1, A2, c2⟩, hdr, rfl, hd2, hb2⟩
           change r' = r at hdr
           subst r'
           dsimp only [RuD.vg, RuD.ve]
           have ho1 := own_below HO.out hb2
           have f0 := ho1.frozenAt (k * 3)
           obtain ⟨o0, e0⟩ := own_cell ho1 (j := k * 3) (by omega)
           have f1 := ho1.frozenAt (k * 3 + 1)
           obtain ⟨o1, e1⟩ := own_cell ho1 (j := k * 3 + 1) (by omega)
           have f2 := ho1.frozenAt (k * 3 + 2)
           obtain ⟨o2, e2⟩ := own_cell ho1 (j := k * 3 + 2) (by omega)
           have HST := Lib.hid (((ho1.stored (k * 3) (.string r.nm)).1.stored (k * 3 + 1) (.slice A1 r.gs.length c1)).1.stored (k * 3 + 2) (.slice A2 r.es.length c2)).1
           have HG := Lib.hid (grown_trans (grown_trans (ho1.stored (k * 3) (.string r.nm)).2 ((ho1.stored (k * 3) (.string r.nm)).1.stored (k * 3 + 1) (.slice A1 r.gs.length c1)).2) (((ho1.stored (k * 3) (.string r.nm)).1.stored (k * 3 + 1) (.slice A1 r.gs.length c1)).1.stored (k * 3 + 2) (.slice A2 r.es.length c2)).2)
           have HN2 := Lib.hid (fun d' hd' => (HNE.out d' hd').below hb2)
           have HD2 := Lib.hid (hd2.mono (show w.heap.size + 1 ≤ wr.heap.size from hsz))
           have HB2 := Lib.hid (below_chain HB.out hb2)
           have hsz2 := Nat.lt_of_lt_of_le hsz hb2.size
           clear ho1 hb2 hd2 g0 g1 g2 HNE HB HO)
        )
      go_roundw
      case rel =>
        have hlen : ds.length = k := by have := congrArg List.length HD.out; simp at this; have := HN.out; omega
        refine ⟨k + 1, by omega, by go_num, ⟨ds ++ [⟨r, A1, c1, A2, c2⟩], ?_, ?_, ?_⟩, below_set (below_set (below_set HB2.out _ (Nat.le_refl _)) _ (Nat.le_refl _)) _ (Nat.le_refl _), by simpa using hsz2⟩
        · rw [List.map_append, HD.out, List.take_add_one, HR.out]
          rfl
        · have := HST.out
          rw [app_set3 _ _ _ (by rw [rudCells_length, hlen]) (by rw [HZ.out]; omega), show k * 3 + 3 = (k + 1) * 3 by omega] at this
          rw [rudCells_snoc]
          exact this
        · intro d' hd'
          rw [List.mem_append, List.mem_singleton] at hd'
          have hlt2 : ∀ q, (Value.slice (some ⟨w.heap.size, 0, none⟩) n n).ownBlock = some q → q < w.heap.size + 1 := by intro q hq; simp [Value.ownBlock] at hq; omega
          rcases hd' with hd' | rfl
          · exact (HN2.out d' hd').far HG.out hlt2
          · exact HD2.out.far HG.out hlt2
      case measure => simp [intOf]; omega
    · have : k = n := by omega
      subst this
      have e := HN.out
      have hds := HD.out
      rw [List.take_of_length_le (by omega)] at hds
      have HO := Lib.hid ho
      have HB := Lib.hid hb
      clear ho hb hr
      go_wp2
      go_ret
      have ho := HO.out
      have hlen : ds.length = l.length := by rw [← hds]; simp
      rw [List.drop_eq_nil_of_le (by rw [HZ.out]; exact Nat.le_refl _), List.append_nil] at ho
      subst e
      exact ⟨_, _, ds, rfl, hds, ho, fun d hd => (HNE.out d hd).mono (by omega), HB.out⟩
end Go.Proofs.YtgpmglfcdbpgkaaDoor
