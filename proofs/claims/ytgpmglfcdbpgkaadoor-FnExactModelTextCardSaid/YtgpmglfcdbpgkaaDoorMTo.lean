/- Contract of the laws' own copy of a model. No condition but the lists' sizes. -/
import Derived.Test.YtgpmglfcdbpgkaaDoorMSz
namespace Go.Proofs.YtgpmglfcdbpgkaaDoor
open Go.RowKit

/-- The rows of a model are the call's own. -/
structure MOwn (w : World) (base : Nat) (az ax ar : Option Addr) (cz cs cr : Nat) (m : Mdl) (ds : List RuD) : Prop where
  z : w.ownsRow base 2 1 (.slice az m.sz.length cz) m.sz.length (ints m.sz)
  s : w.ownsRow base 2 1 (.slice ax m.st.length cs) m.st.length (ints m.st)
  r : w.ownsRow base 41 3 (.slice ar m.rs.length cr) m.rs.length (rudCells ds)
  e : ds.map RuD.r = m.rs
  d : ∀ d ∈ ds, Nest w base d
theorem Nest.rd {w : World} {base : Nat} {d : RuD} (h : Nest w base d) : Rd w d.ag (tstCells d.r.gs) ∧ Rd w d.ae (asgCells d.r.es) := ⟨Rd.own h.1, Rd.own h.2⟩
theorem MOwn.md {w : World} {base : Nat} {az ax ar : Option Addr} {cz cs cr : Nat} {m : Mdl} {ds : List RuD} (h : MOwn w base az ax ar cz cs cr m ds) : Md w az ax ar m :=
  ⟨Rd.own h.z, Rd.own h.s, ds, h.e, Rd.own h.r, fun d hd => (h.d d hd).rd⟩
theorem MOwn.below {w w1 : World} {base : Nat} {az ax ar : Option Addr} {cz cs cr : Nat} {m : Mdl} {ds : List RuD} (h : MOwn w base az ax ar cz cs cr m ds) (hb : Below w.heap.size w w1) : MOwn w1 base az ax ar cz cs cr m ds :=
  ⟨own_below h.z hb, own_below h.s hb, own_below h.r hb, h.e, fun d hd => (h.d d hd).below hb⟩
theorem Nest.set {w : World} {base : Nat} {d : RuD} (h : Nest w base d) {p : Addr} (hp : p.block < base) (v : Value) : Nest (w.setCell p v) base d := ⟨ownsRow_setCell_below h.1 hp v, ownsRow_setCell_below h.2 hp v⟩
/-- What is handed back is a model of the call's own. -/
def RetMdl (m : Mdl) (w : World) (e : Ending) (w' : World) : Prop :=
  ∃ az ax ar cz cs cr, ∃ ds : List RuD, e = .returned (mv m az ax ar cz cs cr) ∧ MOwn w' w.heap.size az ax ar cz cs cr m ds ∧ Below w.heap.size w w'
set_option maxHeartbeats 1000000 in
set_option maxRecDepth 100000 in
theorem c_toModel (m : Mdl) (az ax ar : Option Addr) (cz cs cr : Nat) (w : World) (hs : MdlOk m) (h : Md w az ax ar m) :
    Calls Tryd.prog 6 #[mv m az ax ar cz cs cr] w (RetMdl m w) := by
  obtain ⟨sz, st, rs⟩ := m
  have hs1 := hs.1
  have hs2 := hs.2.1
  have HS := Lib.hid hs.2.2
  have H := Lib.hid h
  clear hs h
  dsimp only [mv] at hs1 hs2 ⊢
  go_enter Tryd.func6, Tryd.ntmps6
  go_wp2_with (fail)
  refine (c_toInt64S _ _ _ sz _ rfl hs1 (((H.out.z.alloc _).alloc _).alloc _)).mono ?_
  rintro e w1 ⟨A1, c1, rfl, ho, hb⟩
  have kr1 : w1.cell? ⟨w.heap.size, 1, none⟩ = some (.slice ax st.length cs) := cell_later hb (by go_simp)
  have kr2 : w1.cell? ⟨w.heap.size, 2, none⟩ = some (.slice ar rs.length cr) := cell_later hb (by go_simp)
  have o0 : w1.cell? ⟨w.heap.size + 1 + 1, 0, none⟩ = some (.slice none 0 0) := cell_later hb (by go_simp)
  have o1 : w1.cell? ⟨w.heap.size + 1 + 1, 1, none⟩ = some (.slice none 0 0) := cell_later hb (by go_simp)
  have o2 : w1.cell? ⟨w.heap.size + 1 + 1, 2, none⟩ = some (.slice none 0 0) := cell_later hb (by go_simp)
  have p0 : w1.cell? ⟨w.heap.size + 1, 0, none⟩ = some (.slice none 0 0) := cell_later hb (by go_simp)
  have p1 : w1.cell? ⟨w.heap.size + 1, 1, none⟩ = some (.slice none 0 0) := cell_later hb (by go_simp)
  have p2 : w1.cell? ⟨w.heap.size + 1, 2, none⟩ = some (.slice none 0 0) := cell_later hb (by go_simp)
  have f0 : w1.frozen? ⟨w.heap.size + 1 + 1, 0, none⟩ = false := frozen_later hb (by simp) (by go_simp)
  have f1 : w1.frozen? ⟨w.heap.size + 1 + 1, 1, none⟩ = false := frozen_later hb (by simp) (by go_simp)
  have f2 : w1.frozen? ⟨w.heap.size + 1 + 1, 2, none⟩ = false := frozen_later hb (by simp) (by go_simp)
  have e0 : w1.frozen? ⟨w.heap.size + 1, 0, none⟩ = false := frozen_later hb (by simp) (by go_simp)
  have e1 : w1.frozen? ⟨w.heap.size + 1, 1, none⟩ = false := frozen_later hb (by simp) (by go_simp)
  have e2 : w1.frozen? ⟨w.heap.size + 1, 2, none⟩ = false := frozen_later hb (by simp) (by go_simp)
  have hz := World.block_lt_of_cell? _ _ o0
  have B := below_set (below_chain (by (repeat (first | exact Below.refl _ _ | assumption | refine below_alloc ?_ _ | refine below_drewN ?_ _ | refine below_set ?_ _ (by simp; try omega) | refine Below.drew ?_)) : Below w.heap.size w _) hb) (p := ⟨w.heap.size + 1 + 1, 0, none⟩) (.slice A1 sz.length c1) (by simp; try omega)
  have HO := Lib.hid (ownsRow_setCell_below ho (by simp : (⟨w.heap.size + 1 + 1, 0, none⟩ : Addr).block < _) (.slice A1 sz.length c1))
  clear hb ho
  go_wp2_with (fail)
  refine (c_toInt64S _ _ _ st _ rfl hs2 (H.out.s.below B)).mono ?_
  rintro e w2 ⟨A2, c2, rfl, ho, hb⟩
  have k2 : w2.cell? ⟨w.heap.size, 2, none⟩ = some (.slice ar rs.length cr) := cell_later hb (by go_simp)
  have q0 : w2.cell? ⟨w.heap.size + 1 + 1, 0, none⟩ = some (.slice A1 sz.length c1) := cell_later hb (by go_simp)
  have q1 : w2.cell? ⟨w.heap.size + 1 + 1, 1, none⟩ = some (.slice none 0 0) := cell_later hb (by go_simp)
  have q2 : w2.cell? ⟨w.heap.size + 1 + 1, 2, none⟩ = some (.slice none 0 0) := cell_later hb (by go_simp)
  have r0 : w2.cell? ⟨w.heap.size + 1, 0, none⟩ = some (.slice none 0 0) := cell_later hb (by go_simp)
  have r1 : w2.cell? ⟨w.heap.size + 1, 1, none⟩ = some (.slice none 0 0) := cell_later hb (by go_simp)
  have r2 : w2.cell? ⟨w.heap.size + 1, 2, none⟩ = some (.slice none 0 0) := cell_later hb (by go_simp)
  have g1 : w2.frozen? ⟨w.heap.size + 1 + 1, 1, none⟩ = false := frozen_later hb (by simp; omega) (by go_simp)
  have g2 : w2.frozen? ⟨w.heap.size + 1 + 1, 2, none⟩ = false := frozen_later hb (by simp; omega) (by go_simp)
  have h0 : w2.frozen? ⟨w.heap.size + 1, 0, none⟩ = false := frozen_later hb (by simp; omega) (by go_simp)
  have h1 : w2.frozen? ⟨w.heap.size + 1, 1, none⟩ = false := frozen_later hb (by simp; omega) (by go_simp)
  have h2 : w2.frozen? ⟨w.heap.size + 1, 2, none⟩ = false := frozen_later hb (by simp; omega) (by go_simp)
  have hz2 := World.block_lt_of_cell? _ _ q0
  have hz3 : w.heap.size + 1 + 1 < (w1.setCell ⟨w.heap.size + 1 + 1, 0, none⟩ (.slice A1 sz.length c1)).heap.size := by simp; omega
  replace B := below_set (below_chain B hb) (p := ⟨w.heap.size + 1 + 1, 1, none⟩) (.slice A2 st.length c2) (by simp; try omega)
  have HO1 := Lib.hid (ownsRow_setCell_below (own_below HO.out hb) (by simp : (⟨w.heap.size + 1 + 1, 1, none⟩ : Addr).block < _) (.slice A2 st.length c2))
  have HO2 := Lib.hid (ownsRow_setCell_below ho (by exact hz3 : (⟨w.heap.size + 1 + 1, 1, none⟩ : Addr).block < _) (.slice A2 st.length c2))
  clear hb ho HO kr1 kr2 o0 o1 o2 p0 p1 p2 f0 f1 f2 e0 e1 e2
  go_wp2_with (fail)
  refine (c_toRuleS _ _ _ rs _ rfl HS.out (H.out.r.below B)).mono ?_
  rintro e w3 ⟨A3, c3, ds, rfl, hds, ho, hn, hb⟩
  have k0 : w3.cell? ⟨w.heap.size + 1 + 1, 0, none⟩ = some (.slice A1 sz.length c1) := cell_later hb (by go_simp)
  have k1 : w3.cell? ⟨w.heap.size + 1 + 1, 1, none⟩ = some (.slice A2 st.length c2) := cell_later hb (by go_simp)
  have k3 : w3.cell? ⟨w.heap.size + 1 + 1, 2, none⟩ = some (.slice none 0 0) := cell_later hb (by go_simp)
  have s0 : w3.cell? ⟨w.heap.size + 1, 0, none⟩ = some (.slice none 0 0) := cell_later hb (by go_simp)
  have s1 : w3.cell? ⟨w.heap.size + 1, 1, none⟩ = some (.slice none 0 0) := cell_later hb (by go_simp)
  have s2 : w3.cell? ⟨w.heap.size + 1, 2, none⟩ = some (.slice none 0 0) := cell_later hb (by go_simp)
  have j2 : w3.frozen? ⟨w.heap.size + 1 + 1, 2, none⟩ = false := frozen_later hb (by simp; omega) (by go_simp)
  have t0 : w3.frozen? ⟨w.heap.size + 1, 0, none⟩ = false := frozen_later hb (by simp; omega) (by go_simp)
  have t1 : w3.frozen? ⟨w.heap.size + 1, 1, none⟩ = false := frozen_later hb (by simp; omega) (by go_simp)
  have t2 : w3.frozen? ⟨w.heap.size + 1, 2, none⟩ = false := frozen_later hb (by simp; omega) (by go_simp)
  have hz4 : w.heap.size + 1 + 1 < (w2.setCell ⟨w.heap.size + 1 + 1, 1, none⟩ (.slice A2 st.length c2)).heap.size := by simp; omega
  replace B := below_chain B hb
  have HP1 := Lib.hid (own_mono (own_below HO1.out hb) (show w.heap.size + 1 + 1 + 1 ≤ _ by simp))
  have HP2 := Lib.hid (own_mono (own_below HO2.out hb) (show w.heap.size + 1 + 1 + 1 ≤ _ from hz3))
  have HP3 := Lib.hid (own_mono ho (show w.heap.size + 1 + 1 + 1 ≤ _ from hz4))
  have HN3 := Lib.hid (fun d hd => (hn d hd).mono (show w.heap.size + 1 + 1 + 1 ≤ _ from hz4))
  have HDS := Lib.hid hds
  have HB3 := Lib.hid B
  clear hb ho hn hds HO1 HO2 k2 q0 q1 q2 r0 r1 r2 g1 g2 h0 h1 h2 B hz3 hz4 hz2 hz
  go_wp2_with (fail)
  refine bodyPost_ret (v := .agg #[.slice A1 sz.length c1, .slice A2 st.length c2, .slice A3 rs.length c3]) (by simp [results, Tryd.results6, go_sem, s0, s1, s2]) rfl ⟨A1, A2, A3, c1, c2, c3, ds, rfl, ⟨?_, ?_, ?_, HDS.out, ?_⟩, ?_⟩
  · exact own_mono (ownsRow_setCell_below (ownsRow_setCell_below (ownsRow_setCell_below (ownsRow_setCell_below HP1.out (by simp) _) (by simp) _) (by simp) _) (by simp) _) (by omega)
  · exact own_mono (ownsRow_setCell_below (ownsRow_setCell_below (ownsRow_setCell_below (ownsRow_setCell_below HP2.out (by simp) _) (by simp) _) (by simp) _) (by simp) _) (by omega)
  · exact own_mono (ownsRow_setCell_below (ownsRow_setCell_below (ownsRow_setCell_below (ownsRow_setCell_below HP3.out (by simp) _) (by simp) _) (by simp) _) (by simp) _) (by omega)
  · exact fun d hd => (((((HN3.out d hd).set (by simp) _).set (by simp) _).set (by simp) _).set (by simp) _).mono (by omega)
  · exact below_set (below_set (below_set (below_set HB3.out _ (by simp; try omega)) _ (by simp; try omega)) _ (by simp; try omega)) _ (by simp; try omega)
end Go.Proofs.YtgpmglfcdbpgkaaDoor
