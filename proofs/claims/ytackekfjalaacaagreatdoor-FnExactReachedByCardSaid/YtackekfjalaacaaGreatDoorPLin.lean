/- Contracts of the laws' own copies, comparisons and sizes of lines. No condition but the lists' sizes. -/
import Derived.Test.YtackekfjalaacaaGreatDoorPSt
namespace Go.Proofs.YtackekfjalaacaaGreatDoor
open Go.RowKit

/-- A line. -/
structure Lin where
  tg : ByteArray
  ts : List Tm
/-- A line as it lies in memory. -/
structure LiD where
  l : Lin
  a : Option Addr
  c : Nat
def LiD.v (d : LiD) : Value := .slice d.a d.l.ts.length d.c
def LiD.cells (d : LiD) : List Value := [.string d.l.tg, d.v]
def lidCells (ds : List LiD) : List Value := ds.flatMap LiD.cells
theorem lidCells_length (l : List LiD) : (lidCells l).length = l.length * 2 := by
  induction l with
  | nil => rfl
  | cons s t ih => simp only [lidCells, List.flatMap_cons, List.length_append, List.length_cons] at ih ⊢; rw [ih]; simp [LiD.cells]; omega
theorem lidCells_snoc (l : List LiD) (d : LiD) : lidCells (l ++ [d]) = lidCells l ++ [.string d.l.tg, d.v] := by simp [lidCells, LiD.cells]
theorem lidCells_get {s : LiD} {i : Nat} (hi : i < 2) : ∀ {l : List LiD} {k : Nat}, l[k]? = some s → (lidCells l)[k * 2 + i]? = s.cells[i]?
  | [], k, h => by simp at h
  | t :: l, 0, h => by
    simp only [List.getElem?_cons_zero, Option.some.injEq] at h
    subst h
    simp only [lidCells, List.flatMap_cons, Nat.zero_mul, Nat.zero_add]
    rw [List.getElem?_append_left (by simp [LiD.cells]; omega)]
  | t :: l, k + 1, h => by
    simp only [List.getElem?_cons_succ] at h
    have := lidCells_get hi h
    simp only [lidCells, List.flatMap_cons] at this ⊢
    rw [List.getElem?_append_right (by simp [LiD.cells]; omega), ← this]
    congr 1
    simp [LiD.cells]; omega
theorem lidCells_at {s : LiD} {l : List LiD} {k : Nat} (h : l[k]? = some s) : (lidCells l)[k * 2]? = some (.string s.l.tg) ∧ (lidCells l)[k * 2 + 1]? = some s.v :=
  ⟨lidCells_get (i := 0) (by omega) h, lidCells_get (i := 1) (by omega) h⟩
/-- The slice value `.slice A l.length c` holds the lines l. -/
def Ll (w : World) (A : Option Addr) (l : List Lin) : Prop :=
  ∃ ds : List LiD, ds.map LiD.l = l ∧ Rd w A (lidCells ds) ∧ ∀ d ∈ ds, Rd w d.a (tmCells d.l.ts)
theorem Ll.below {w w1 : World} {A : Option Addr} {l : List Lin} (h : Ll w A l) (hb : Below w.heap.size w w1) : Ll w1 A l := by
  obtain ⟨ds, e, h1, h2⟩ := h
  exact ⟨ds, e, h1.below hb, fun d hd => (h2 d hd).below hb⟩
theorem Ll.alloc {w : World} {A : Option Addr} {l : List Lin} (h : Ll w A l) (o : Obj) : Ll (w.alloc o) A l := h.below (below_alloc (Below.refl _ _) o)
theorem Ll.drew {w : World} {A : Option Addr} {l : List Lin} (h : Ll w A l) : Ll w.drew A l := h.below (Below.refl _ _).drew
/-- What one line of the list reads. -/
theorem Ll.at {w : World} {A : Option Addr} {l : List Lin} {k : Nat} {r : Lin} (h : Ll w A l) (hk : l[k]? = some r) : ∃ b off a c, A = some ⟨b, off, none⟩ ∧ b < w.heap.size ∧ w.cell? ⟨b, off + k * 2, none⟩ = some (.string r.tg) ∧
    w.cell? ⟨b, off + k * 2 + 1, none⟩ = some (.slice a r.ts.length c) ∧ Rd w a (tmCells r.ts) := by
  obtain ⟨ds, rfl, h1, h2⟩ := h
  rw [List.getElem?_map, Option.map_eq_some_iff] at hk
  obtain ⟨d, hd, rfl⟩ := hk
  obtain ⟨u0, u1⟩ := lidCells_at hd
  obtain ⟨b, off, rfl, hb, hc⟩ := h1.some_ (by intro e; rw [e] at u0; simp at u0)
  exact ⟨b, off, d.a, d.c, rfl, hb, hc _ _ u0, hc _ _ u1, h2 d (List.mem_of_getElem? hd)⟩
/-- The row behind a line is the call's own. -/
def NestT (w : World) (base : Nat) (d : LiD) : Prop := w.ownsRow base 109 3 d.v d.l.ts.length (tmCells d.l.ts)
theorem NestT.below {w w1 : World} {base : Nat} {d : LiD} (h : NestT w base d) (hb : Below w.heap.size w w1) : NestT w1 base d := own_below h hb
theorem NestT.mono {w : World} {base base' : Nat} {d : LiD} (h : NestT w base d) (hb : base' ≤ base) : NestT w base' d := own_mono h hb
theorem kept_far {w w' : World} {row : Option Nat} {base : Nat} {e : TypeId} {size n : Nat} {v : Value} {xs : List Value} (h : w.ownsRow base e size v n xs) (hg : w.grownBy w' row) (hlt : ∀ q, row = some q → q < base) : w'.ownsRow base e size v n xs := by
  refine h.kept hg ?_
  rcases hv : v.ownBlock with _ | q
  · exact .inl rfl
  · refine .inr fun h' => ?_
    have := (h.lt q hv).1
    have := hlt q h'.symm
    omega
theorem NestT.far {w w1 : World} {base : Nat} {d : LiD} {row : Option Nat} (h : NestT w base d) (hg : w.grownBy w1 row) (hlt : ∀ q, row = some q → q < base) : NestT w1 base d := kept_far h hg hlt
theorem grown_trans {w a b : World} {row : Option Nat} (h : w.grownBy a row) (h2 : a.grownBy b row) : w.grownBy b row :=
  ⟨h2.os.trans h.os, h2.tape.trans h.tape, h2.output.trans h.output, Nat.le_trans h.size h2.size, fun k hk hne => (h2.block k (Nat.lt_of_lt_of_le hk h.size) hne).trans (h.block k hk hne)⟩
theorem app_set {xs Z : List Value} {m : Nat} (u : Value) (hx : xs.length = m) (hz : m < Z.length) : (xs ++ Z.drop m).set m u = (xs ++ [u]) ++ Z.drop (m + 1) := by
  have hz' : Z.drop m = Z[m] :: Z.drop (m + 1) := List.drop_eq_getElem_cons hz
  rw [List.set_append_right _ _ (by omega), hx, Nat.sub_self, hz', List.set_cons_zero]
  simp
theorem app_set2 {xs Z : List Value} {m : Nat} (u0 u1 : Value) (hx : xs.length = m) (hz : m + 2 ≤ Z.length) : (((xs ++ Z.drop m).set m u0).set (m + 1) u1) = (xs ++ [u0, u1]) ++ Z.drop (m + 2) := by
  rw [app_set u0 hx (by omega), app_set u1 (by simp [hx]) (by omega)]
  simp
/-- What is handed back is a line with a row of the call's own. -/
def RetLin (r : Lin) (w : World) (e : Ending) (w' : World) : Prop :=
  ∃ d : LiD, d.l = r ∧ e = .returned (.agg #[.string r.tg, d.v]) ∧ NestT w' w.heap.size d ∧ Below w.heap.size w w'
set_option maxRecDepth 100000 in
theorem c_toLine (r : Lin) (a : Option Addr) (c : Nat) (w : World) (hs : r.ts.length ≤ 1048576) (hg : Rd w a (tmCells r.ts)) :
    Calls Tryz.prog 60 #[.agg #[.string r.tg, .slice a r.ts.length c]] w (RetLin r w) := by
  obtain ⟨tg, ts⟩ := r
  simp only at hs hg ⊢
  go_enter Tryz.func60, Tryz.ntmps60
  go_wp2_with (first
    | (go_at_call 96
       refine (c_toTermS _ _ _ ts _ rfl hs (((hg.alloc _).alloc _).alloc _)).mono ?_
       rintro e w1 ⟨A1, c1, rfl, ho, hb⟩
       have o0 : w1.cell? ⟨w.heap.size + 1 + 1, 0, none⟩ = some (.string tg) := cell_later hb (by go_simp)
       have o1 : w1.cell? ⟨w.heap.size + 1 + 1, 1, none⟩ = some (.slice none 0 0) := cell_later hb (by go_simp)
       have p0 : w1.cell? ⟨w.heap.size + 1, 0, none⟩ = some (.string ⟨#[]⟩) := cell_later hb (by go_simp)
       have p1 : w1.cell? ⟨w.heap.size + 1, 1, none⟩ = some (.slice none 0 0) := cell_later hb (by go_simp)
       have f1 : w1.frozen? ⟨w.heap.size + 1 + 1, 1, none⟩ = false := frozen_later hb (by simp) (by go_simp)
       have e0 : w1.frozen? ⟨w.heap.size + 1, 0, none⟩ = false := frozen_later hb (by simp) (by go_simp)
       have e1 : w1.frozen? ⟨w.heap.size + 1, 1, none⟩ = false := frozen_later hb (by simp) (by go_simp)
       have B := Lib.hid (below_chain (by (repeat (first | exact Below.refl _ _ | assumption | refine below_alloc ?_ _ | refine below_drewN ?_ _ | refine below_set ?_ _ (by simp; try omega) | refine Below.drew ?_)) : Below w.heap.size w _) hb)
       have HO := Lib.hid ho
       have hz := World.block_lt_of_cell? _ _ o0
       clear hb ho hg)
    )
  refine bodyPost_ret (v := .agg #[.string tg, .slice A1 ts.length c1]) (by simp [results, Tryz.results60, go_sem, p0, p1]) rfl ⟨⟨⟨tg, ts⟩, A1, c1⟩, rfl, rfl, ?_, ?_⟩
  · exact own_mono (ownsRow_setCell_below (ownsRow_setCell_below (ownsRow_setCell_below HO.out (by simp) _) (by simp) _) (by simp) _) (by simp; omega)
  · exact below_set (below_set (below_set B.out _ (by simp; try omega)) _ (by simp; try omega)) _ (by simp; try omega)
theorem info_iLine : (Tryz.prog.info? 93).map (fun i => (i.zero, i.size, i.bytes)) = some (some (.agg #[.string ⟨#[]⟩, .slice none 0 0]), 2, 40) := by kernel_rfl
/-- What is handed back is a list of lines of the call's own. -/
def RetLins (l : List Lin) (w : World) (e : Ending) (w' : World) : Prop :=
  ∃ A c, ∃ ds : List LiD, e = .returned (.slice A l.length c) ∧ ds.map LiD.l = l ∧ w'.ownsRow w.heap.size 93 2 (.slice A l.length c) l.length (lidCells ds) ∧ (∀ d ∈ ds, NestT w' w.heap.size d) ∧ Below w.heap.size w w'
/-- The lines' lengths. -/
def LinOk (l : List Lin) : Prop := l.length ≤ 1048576 ∧ ∀ r ∈ l, r.tg.size ≤ 1048576 ∧ TmOk r.ts
set_option maxRecDepth 100000 in
theorem c_toLineS (A : Option Addr) (c n : Nat) (l : List Lin) (w : World) (hn : n = l.length) (hs : LinOk l) (hr : Ll w A l) :
    Calls Tryz.prog 32 #[.slice A n c] w (RetLins l w) := by
  obtain ⟨i0, hi, hz0, hz1, hz2⟩ := info_parts info_iLine
  have HN := Lib.hid hn
  have HS := Lib.hid hs.2
  have hs1 : n ≤ 1048576 := by rw [hn]; exact hs.1
  clear hn hs
  go_enter Tryz.func32, Tryz.ntmps32
  go_wp2_with (first
    | (at_make
       refine wpList_make_full _ rfl (.tmp 6) (.tmp 6) _ rfl w.heap.size 93 i0 _ 2 Tryz.underlying29 hi hz0 hz1 .i64 .i64 _ _ n rfl rfl rfl rfl (by rw [hz2]; omega) (by unfold maxLen; omega) (Nat.le_refl _) ?_
       intro w1 hown hgrow)
    )
  have hb1 : Below w.heap.size w w1 := below_of_grown (Below.refl _ _) hgrow (by simp)
  have hZ : (madeCells (Value.agg #[.string ⟨#[]⟩, .slice none 0 0]).cells (n * 2)).toList.length = n * 2 := by simp [size_madeCells]
  generalize (madeCells (Value.agg #[.string ⟨#[]⟩, .slice none 0 0]).cells (n * 2)).toList = Z at hown hZ
  have HZ := Lib.hid hZ
  clear hZ hgrow
  go_loopw [4] (fun i wr => ∃ k : Nat, k ≤ n ∧ i = .int .i64 k ∧ (∃ ds : List LiD, ds.map LiD.l = l.take k ∧ wr.ownsRow w.heap.size 93 2 (.slice (some ⟨w.heap.size, 0, none⟩) n n) n (lidCells ds ++ Z.drop (k * 2)) ∧ ∀ d ∈ ds, NestT wr (w.heap.size + 1) d) ∧ Below w.heap.size w wr ∧ w.heap.size < wr.heap.size) (fun i _ => n - (intOf i).toNat)
  case atStart => exact ⟨0, Nat.zero_le _, rfl, ⟨[], by simp, by simpa [lidCells] using hown, by simp⟩, hb1, (hown.lt _ rfl).2⟩
  case round =>
    obtain ⟨k, hk, rfl, ⟨ds, hds, ho, hnest⟩, hb, hsz⟩ := hrel
    clear hown hb1
    have HD := Lib.hid hds
    have HNE := Lib.hid hnest
    clear hds hnest
    by_cases hlt : k < n
    · obtain ⟨r, hr0⟩ : ∃ s, l[k]? = some s := ⟨_, List.getElem?_eq_getElem (by have := HN.out; omega)⟩
      obtain ⟨b, off, a, ca, rfl, _, g0, g1, hrg⟩ := (hr.below hb).at hr0
      have hok := HS.out r (List.mem_of_getElem? hr0)
      have HR := Lib.hid hr0
      have HOK := Lib.hid hok
      have HRG := Lib.hid hrg
      have HO := Lib.hid ho
      have HB := Lib.hid hb
      clear hr0 ho hb hr hrg hok
      go_wp2_with (first
        | (go_at_call 60
           refine (c_toLine r _ _ _ HOK.out.2.1 HRG.out).mono ?_
           rintro e w2 ⟨⟨r', A1, c1⟩, hdr, rfl, hd2, hb2⟩
           change r' = r at hdr
           subst r'
           dsimp only [LiD.v]
           have ho1 := own_below HO.out hb2
           have f0 := ho1.frozenAt (k * 2)
           obtain ⟨o0, e0⟩ := own_cell ho1 (j := k * 2) (by omega)
           have f1 := ho1.frozenAt (k * 2 + 1)
           obtain ⟨o1, e1⟩ := own_cell ho1 (j := k * 2 + 1) (by omega)
           have HST := Lib.hid ((ho1.stored (k * 2) (.string r.tg)).1.stored (k * 2 + 1) (.slice A1 r.ts.length c1)).1
           have HG := Lib.hid (grown_trans (ho1.stored (k * 2) (.string r.tg)).2 ((ho1.stored (k * 2) (.string r.tg)).1.stored (k * 2 + 1) (.slice A1 r.ts.length c1)).2)
           have HN2 := Lib.hid (fun d' hd' => (HNE.out d' hd').below hb2)
           have HD2 := Lib.hid (hd2.mono (show w.heap.size + 1 ≤ wr.heap.size from hsz))
           have HB2 := Lib.hid (below_chain HB.out hb2)
           have hsz2 := Nat.lt_of_lt_of_le hsz hb2.size
           clear ho1 hb2 hd2 g0 g1 HNE HB HO)
        )
      go_roundw
      case rel =>
        have hlen : ds.length = k := by have := congrArg List.length HD.out; simp at this; have := HN.out; omega
        refine ⟨k + 1, by omega, by go_num, ⟨ds ++ [⟨r, A1, c1⟩], ?_, ?_, ?_⟩, below_set (below_set HB2.out _ (Nat.le_refl _)) _ (Nat.le_refl _), by simpa using hsz2⟩
        · rw [List.map_append, HD.out, List.take_add_one, HR.out]
          rfl
        · have := HST.out
          rw [app_set2 _ _ (by rw [lidCells_length, hlen]) (by rw [HZ.out]; omega), show k * 2 + 2 = (k + 1) * 2 by omega] at this
          rw [lidCells_snoc]
          exact this
        · intro d' hd'
          rw [List.mem_append, List.mem_singleton] at hd'
          have hlt2 : ∀ q, (Value.slice (some ⟨w.heap.size, 0, none⟩) n n).ownBlock = some q → q < w.heap.size + 1 := by intro q hq; simp [Value.ownBlock] at hq; omega
          rcases hd' with hd' | rfl
          · exact (HN2.out d' hd').far HG.out hlt2
          · exact HD2.out.far HG.out hlt2
      case measure => simp [intOf]; omega
    · have : k = n := by omega
      subst this
      have e := HN.out
      have hds := HD.out
      rw [List.take_of_length_le (by omega)] at hds
      have HO := Lib.hid ho
      have HB := Lib.hid hb
      clear ho hb hr
      go_wp2
      go_ret
      have ho := HO.out
      have hlen : ds.length = l.length := by rw [← hds]; simp
      rw [List.drop_eq_nil_of_le (by rw [HZ.out]; exact Nat.le_refl _), List.append_nil] at ho
      subst e
      exact ⟨_, _, ds, rfl, hds, ho, fun d hd => (HNE.out d hd).mono (by omega), HB.out⟩
set_option maxRecDepth 100000 in
theorem c_eqLine (r : Lin) (a a' : Option Addr) (c c' : Nat) (w : World) (hs : r.ts.length ≤ 1048576) (hg : Rd w a (tmCells r.ts)) (hg' : Rd w a' (tmCells r.ts)) :
    Calls Tryz.prog 69 #[.agg #[.string r.tg, .slice a r.ts.length c], .agg #[.string r.tg, .slice a' r.ts.length c']] w fun e w' => e = .returned (.bool true) ∧ Below w.heap.size w w' := by
  obtain ⟨tg, ts⟩ := r
  simp only at hs hg hg' ⊢
  go_enter Tryz.func69, Tryz.ntmps69
  go_wp2_with (first
    | (go_at_call 101
       refine (c_eqTermS _ _ _ _ _ _ ts _ rfl rfl hs ((hg.alloc _).alloc _) ((hg'.alloc _).alloc _)).mono ?_
       rintro e w1 ⟨rfl, hb⟩
       have B := Lib.hid (below_chain (by (repeat (first | exact Below.refl _ _ | assumption | refine below_alloc ?_ _ | refine below_drewN ?_ _ | refine below_set ?_ _ (by simp; try omega) | refine Below.drew ?_)) : Below w.heap.size w _) hb)
       clear hb hg hg')
    )
  go_ret
  exact ⟨rfl, B.out⟩
set_option maxRecDepth 100000 in
theorem c_eqLineS (A A' : Option Addr) (c c' n n' : Nat) (l : List Lin) (w : World) (hn : n = l.length) (hn' : n' = l.length) (hs : LinOk l) (hr : Ll w A l) (hr' : Ll w A' l) :
    Calls Tryz.prog 38 #[.slice A n c, .slice A' n' c'] w fun e w' => e = .returned (.bool true) ∧ Below w.heap.size w w' := by
  subst hn
  subst hn'
  have HS := Lib.hid hs.2
  have hs1 := hs.1
  clear hs
  go_enter Tryz.func38, Tryz.ntmps38
  go_wp2
  go_loopw [5] (fun i wr => ∃ k : Nat, k ≤ l.length ∧ i = .int .i64 k ∧ Below w.heap.size w wr) (fun i _ => l.length - (intOf i).toNat)
  case atStart => exact ⟨0, Nat.zero_le _, rfl, Below.refl _ _⟩
  case round =>
    obtain ⟨k, hk, rfl, hb⟩ := hrel
    by_cases hlt : k < l.length
    · obtain ⟨r, hz⟩ : ∃ z, l[k]? = some z := ⟨_, List.getElem?_eq_getElem hlt⟩
      obtain ⟨b, off, a, ca, rfl, _, g0, g1, hg⟩ := (hr.below hb).at hz
      obtain ⟨b', off', a', ca', rfl, _, e0, e1, hg'⟩ := (hr'.below hb).at hz
      have HOK := Lib.hid (HS.out r (List.mem_of_getElem? hz))
      have HB := Lib.hid hb
      have H1 := Lib.hid hg
      have H3 := Lib.hid hg'
      clear hz hb hr hr' hg hg'
      go_wp2
      go_still_tail 8, (by kernel_rfl)
      change wpList _ _ _ _ _ wr.drew
      have HB2 := Lib.hid (below_drewN HB.out 1)
      go_wp2_with (first
        | (go_at_call 69
           refine (c_eqLine r _ _ _ _ _ HOK.out.2.1 H1.out.drew H3.out.drew).mono ?_
           rintro e w2 ⟨rfl, hb2⟩
           have HB3 := Lib.hid (below_chain HB.out.drew hb2)
           clear hb2)
        )
      go_roundw
      case rel => exact ⟨k + 1, by omega, by go_num, HB3.out⟩
      case measure => simp [intOf]; omega
    · have : k = l.length := by omega
      subst this
      go_wp2
      go_ret
      exact ⟨rfl, hb⟩
end Go.Proofs.YtackekfjalaacaaGreatDoor
