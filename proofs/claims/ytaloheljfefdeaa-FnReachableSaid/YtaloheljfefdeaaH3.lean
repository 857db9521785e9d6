/- Contracts and helpers (joined texts, part 3). The conditions stand at each theorem. -/
import Derived.Test.YtaloheljfefdeaaH2
import Derived.Test.YtaloheljfefdeaaH0
/- isRule (program). Condition: the sizes lie in 1 .. 32. -/
namespace Go.Proofs.Ytaloheljfefdeaa
open Go.RowKit

set_option maxHeartbeats 3000000 in
set_option maxRecDepth 100000 in
theorem c_isRule (m : Mdl) (az ax ar : Option Addr) (cz cs cr : Nat) (r : Rul) (ag ae : Option Addr) (cg ce : Nat) (w : World) (hs : SzsOk m.sz) (hl : m.sz.length ≤ 1048576) (hlg : r.gs.length ≤ 1048576) (hle : r.es.length ≤ 1048576) (hnm : r.nm.size ≤ 9223372036854775807)
    (h : Rd w az (ints m.sz)) (hg : Rd w ag (tstCells r.gs)) (he : Rd w ae (asgCells r.es)) :
    Calls Try.prog 107 #[mv m az ax ar cz cs cr, .agg #[.string r.nm, .slice ag r.gs.length cg, .slice ae r.es.length ce]] w fun e w' => e = .returned (.bool (rlB m.sz r)) ∧ Below w.heap.size w w' := by
  have HH := Lib.hid (fun (w : World) (h : Rd w az (ints m.sz)) (v x : Int) => c_has m az ax ar cz cs cr v x w hs hl h)
  have HT := Lib.hid (fun (w : World) (h : Rd w az (ints m.sz)) (hv : Rd w ag (tstCells r.gs)) => c_areTests m az ax ar cz cs cr ag cg r.gs w hs hl hlg h hv)
  have HNM := Lib.hid (fun (w : World) => c_isRuleName r.nm w hnm)
  have HB0 := Lib.hid (show rlB m.sz r = (esK m.sz r.es r.es.length && (nmB r.nm && (tsB m.sz r.gs && decide (r.es.length ≤ 4)))) from rfl)
  generalize rlB m.sz r = R at HB0 ⊢
  obtain ⟨sz, st, rs⟩ := m
  obtain ⟨nm, gs, es⟩ := r
  dsimp only [mv] at *
  generalize sz.length = sn at *
  generalize st.length = tn at *
  generalize rs.length = rn at *
  generalize gs.length = gn at *
  generalize hvn : es.length = vn at *
  have HVN := Lib.hid hvn
  have HZ := Lib.hid h
  have HG := Lib.hid hg
  have HE := Lib.hid he
  clear h hg he hs hvn hnm
  go_enter Try.func107, Try.ntmps107
  go_wp2
  have HE1 := Lib.hid (HE.out.below (by (repeat (first | exact Below.refl _ _ | assumption | refine below_alloc ?_ _ | refine below_drewN ?_ _ | refine below_set ?_ _ (by simp; try omega) | refine Below.drew ?_)) : Below w.heap.size w _))
  go_loopw [10] (fun i wr => ∃ k : Nat, k ≤ vn ∧ i = .int .i64 k ∧ Hid (esK sz es k = true) ∧ wr.cell? ⟨w.heap.size, 0, none⟩ = some (.slice az sn cz) ∧ wr.cell? ⟨w.heap.size, 1, none⟩ = some (.slice ax tn cs) ∧ wr.cell? ⟨w.heap.size, 2, none⟩ = some (.slice ar rn cr)
    ∧ wr.cell? ⟨w.heap.size + 1, 0, none⟩ = some (.string nm) ∧ wr.cell? ⟨w.heap.size + 1, 1, none⟩ = some (.slice ag gn cg) ∧ wr.cell? ⟨w.heap.size + 1, 2, none⟩ = some (.slice ae vn ce) ∧ Below w.heap.size w wr) (fun i _ => vn - (intOf i).toNat)
  case atStart => exact ⟨0, Nat.zero_le _, rfl, Lib.hid rfl, by go_simp, by go_simp, by go_simp, by go_simp, by go_simp, by go_simp, by (repeat (first | exact Below.refl _ _ | assumption | refine below_alloc ?_ _ | refine below_drewN ?_ _ | refine below_set ?_ _ (by simp; try omega) | refine Below.drew ?_))⟩
  case round =>
    obtain ⟨k, hk, rfl, ha, k0, k1, k2, j0, j1, j2, hb⟩ := hrel
    by_cases hlt : k < vn
    · obtain ⟨a, hz⟩ : ∃ z, es[k]? = some z := ⟨_, List.getElem?_eq_getElem (by have := HVN.out; omega)⟩
      obtain ⟨b, off, hAe, _, g0, g1⟩ := (HE.out.below hb).asg hz
      have HZZ := Lib.hid hz
      have HC := Lib.hid (fun w h => HH.out w h a.v a.x)
      have HBE := Lib.hid hb
      rcases hin : hasB sz a.v a.x with _ | _
      · rw [hin] at HC
        have HI := Lib.hid hin
        subst hAe
        clear hin hz hb
        go_wp2
        have hal := below_alloc (Below.refl wr.heap.size wr) (Obj.cells #[Value.int IntKind.i64 a.v, Value.int IntKind.i64 a.x] 104)
        replace k0 := cell_later hal k0
        replace k1 := cell_later hal k1
        replace k2 := cell_later hal k2
        replace j0 := cell_later hal j0
        replace j1 := cell_later hal j1
        replace j2 := cell_later hal j2
        have p0 : (wr.alloc (Obj.cells #[Value.int IntKind.i64 a.v, Value.int IntKind.i64 a.x] 104)).cell? ⟨wr.heap.size, 0, none⟩ = some (.int .i64 a.v) := by go_simp
        have p1 : (wr.alloc (Obj.cells #[Value.int IntKind.i64 a.v, Value.int IntKind.i64 a.x] 104)).cell? ⟨wr.heap.size, 1, none⟩ = some (.int .i64 a.x) := by go_simp
        have HBA := Lib.hid (below_chain HBE.out hal)
        clear hal
        generalize wr.alloc (Obj.cells #[Value.int IntKind.i64 a.v, Value.int IntKind.i64 a.x] 104) = W at *
        refine wp_region_held_drew (S := (fun w' => w'.cell? ⟨w.heap.size, 0, none⟩ = some (.slice az sn cz) ∧ w'.cell? ⟨w.heap.size, 1, none⟩ = some (.slice ax tn cs) ∧ w'.cell? ⟨w.heap.size, 2, none⟩ = some (.slice ar rn cr) ∧ w'.cell? ⟨w.heap.size + 1, 2, none⟩ = some (.slice (some ⟨b, off, none⟩) vn ce) ∧ w'.cell? ⟨wr.heap.size, 0, none⟩ = some (.int .i64 a.v) ∧ w'.cell? ⟨wr.heap.size, 1, none⟩ = some (.int .i64 a.x))) (by kernel_rfl) ?_ (fun hHeld => ?_)
        · exact ⟨k0, k1, k2, j2, p0, p1⟩
        refine rg_take (v := ?_) 0 rfl (by kernel_rfl) (by kernel_rfl) (by kernel_rfl) (fun _ _ _ h => h) (by kernel_rfl) ?_ (by assumption) ?_
        rotate_left
        · (intro w' hSw; (try dsimp only at hSw); go_simp; first | done | with_reducible rfl)
        simp only [Act.put, List.setIfInBounds_toArray, List.set_cons_zero, List.set_cons_succ]
        refine rg_take (v := ?_) 1 rfl (by kernel_rfl) (by kernel_rfl) (by kernel_rfl) (fun _ _ _ h => h) (by kernel_rfl) ?_ (by assumption) ?_
        rotate_left
        · (intro w' hSw; (try dsimp only at hSw); go_simp; first | done | with_reducible rfl)
        simp only [Act.put, List.setIfInBounds_toArray, List.set_cons_zero, List.set_cons_succ]
        refine rg_take (v := ?_) 2 rfl (by kernel_rfl) (by kernel_rfl) (by kernel_rfl) (fun _ _ _ h => h) (by kernel_rfl) ?_ (by assumption) ?_
        rotate_left
        · (intro w' hSw; (try dsimp only at hSw); go_simp; first | done | with_reducible rfl)
        simp only [Act.put, List.setIfInBounds_toArray, List.set_cons_zero, List.set_cons_succ]
        refine rg_take (v := ?_) 3 rfl (by kernel_rfl) (by kernel_rfl) (by kernel_rfl) (fun _ _ _ h => h) (by kernel_rfl) ?_ (by assumption) ?_
        rotate_left
        · (intro w' hSw; (try dsimp only at hSw); go_simp; first | done | with_reducible rfl)
        simp only [Act.put, List.setIfInBounds_toArray, List.set_cons_zero, List.set_cons_succ]
        refine rg_take (v := ?_) 4 rfl (by kernel_rfl) (by kernel_rfl) (by kernel_rfl) (fun _ _ _ h => h) (by kernel_rfl) ?_ (by assumption) ?_
        rotate_left
        · (intro w' hSw; (try dsimp only at hSw); go_simp; first | done | with_reducible rfl)
        simp only [Act.put, List.setIfInBounds_toArray, List.set_cons_zero, List.set_cons_succ]
        refine rg_run 5 rfl (by kernel_rfl) (by kernel_rfl) (fun K hK => ?_)
        go_simp
        refine (HC.out _ (HZ.out.below (by exact HBA.out.drew))).mono ?_
        rintro e w2 ⟨rfl, hb⟩
        have HB2 := Lib.hid (below_chain (by exact HBA.out.drew) hb)
        have k0b := cell_later hb (by exact k0)
        have k1b := cell_later hb (by exact k1)
        have k2b := cell_later hb (by exact k2)
        have j0b := cell_later hb (by exact j0)
        have j1b := cell_later hb (by exact j1)
        have j2b := cell_later hb (by exact j2)
        have p0b := cell_later hb (by exact p0)
        have p1b := cell_later hb (by exact p1)
        clear hb
        go_wp2
        clear hHeld
        refine hK.out _ _ ⟨k0b, k1b, k2b, j2b, p0b, p1b⟩ (fun hHeld => ?_)
        clear hK K
        try simp only [Act.put, List.setIfInBounds_toArray, List.set_cons_zero, List.set_cons_succ]
        refine rg_take (v := ?_) 6 rfl (by kernel_rfl) (by kernel_rfl) (by kernel_rfl) (fun _ _ _ h => h) (by kernel_rfl) ?_ (by assumption) ?_
        rotate_left
        · (intro w' hSw; (try dsimp only at hSw); go_simp; first | done | with_reducible rfl)
        simp only [Act.put, List.setIfInBounds_toArray, List.set_cons_zero, List.set_cons_succ]
        refine rg_take (v := ?_) 7 rfl (by kernel_rfl) (by kernel_rfl) (by kernel_rfl) (fun _ _ _ h => h) (by kernel_rfl) ?_ (by assumption) ?_
        rotate_left
        · (intro w' hSw; (try dsimp only at hSw); go_simp; first | done | with_reducible rfl)
        simp only [Act.put, List.setIfInBounds_toArray, List.set_cons_zero, List.set_cons_succ]
        refine rg_skip 8 rfl (by kernel_rfl) (by kernel_rfl) (by kernel_rfl) (fun _ _ _ h => h) (by kernel_rfl) (by assumption) ?_
        simp only [Act.put, List.setIfInBounds_toArray, List.set_cons_zero, List.set_cons_succ]
        refine rg_skip 9 rfl (by kernel_rfl) (by kernel_rfl) (by kernel_rfl) (fun _ _ _ h => h) (by kernel_rfl) (by assumption) ?_
        simp only [Act.put, List.setIfInBounds_toArray, List.set_cons_zero, List.set_cons_succ]
        refine rg_skip 10 rfl (by kernel_rfl) (by kernel_rfl) (by kernel_rfl) (fun _ _ _ h => h) (by kernel_rfl) (by assumption) ?_
        simp only [Act.put, List.setIfInBounds_toArray, List.set_cons_zero, List.set_cons_succ]
        refine rg_skip 11 rfl (by kernel_rfl) (by kernel_rfl) (by kernel_rfl) (fun _ _ _ h => h) (by kernel_rfl) (by assumption) ?_
        simp only [Act.put, List.setIfInBounds_toArray, List.set_cons_zero, List.set_cons_succ]
        refine rg_skip 12 rfl (by kernel_rfl) (by kernel_rfl) (by kernel_rfl) (fun _ _ _ h => h) (by kernel_rfl) (by assumption) ?_
        simp only [Act.put, List.setIfInBounds_toArray, List.set_cons_zero, List.set_cons_succ]
        refine rg_skip 13 rfl (by kernel_rfl) (by kernel_rfl) (by kernel_rfl) (fun _ _ _ h => h) (by kernel_rfl) (by assumption) ?_
        simp only [Act.put, List.setIfInBounds_toArray, List.set_cons_zero, List.set_cons_succ]
        refine rg_skip 14 rfl (by kernel_rfl) (by kernel_rfl) (by kernel_rfl) (fun _ _ _ h => h) (by kernel_rfl) (by assumption) ?_
        simp only [Act.put, List.setIfInBounds_toArray, List.set_cons_zero, List.set_cons_succ]
        refine rg_skip 15 rfl (by kernel_rfl) (by kernel_rfl) (by kernel_rfl) (fun _ _ _ h => h) (by kernel_rfl) (by assumption) ?_
        simp only [Act.put, List.setIfInBounds_toArray, List.set_cons_zero, List.set_cons_succ]
        refine rg_skip 16 rfl (by kernel_rfl) (by kernel_rfl) (by kernel_rfl) (fun _ _ _ h => h) (by kernel_rfl) (by assumption) ?_
        simp only [Act.put, List.setIfInBounds_toArray, List.set_cons_zero, List.set_cons_succ]
        refine rg_skip 17 rfl (by kernel_rfl) (by kernel_rfl) (by kernel_rfl) (fun _ _ _ h => h) (by kernel_rfl) (by assumption) ?_
        simp only [Act.put, List.setIfInBounds_toArray, List.set_cons_zero, List.set_cons_succ]
        refine rg_skip 18 rfl (by kernel_rfl) (by kernel_rfl) (by kernel_rfl) (fun _ _ _ h => h) (by kernel_rfl) (by assumption) ?_
        simp only [Act.put, List.setIfInBounds_toArray, List.set_cons_zero, List.set_cons_succ]
        refine rg_skip 19 rfl (by kernel_rfl) (by kernel_rfl) (by kernel_rfl) (fun _ _ _ h => h) (by kernel_rfl) (by assumption) ?_
        simp only [Act.put, List.setIfInBounds_toArray, List.set_cons_zero, List.set_cons_succ]
        refine rg_skip 20 rfl (by kernel_rfl) (by kernel_rfl) (by kernel_rfl) (fun _ _ _ h => h) (by kernel_rfl) (by assumption) ?_
        simp only [Act.put, List.setIfInBounds_toArray, List.set_cons_zero, List.set_cons_succ]
        refine rg_skip 21 rfl (by kernel_rfl) (by kernel_rfl) (by kernel_rfl) (fun _ _ _ h => h) (by kernel_rfl) (by assumption) ?_
        simp only [Act.put, List.setIfInBounds_toArray, List.set_cons_zero, List.set_cons_succ]
        refine rg_take (v := ?_) 22 rfl (by kernel_rfl) (by kernel_rfl) (by kernel_rfl) (fun _ _ _ h => h) (by kernel_rfl) ?_ (by assumption) ?_
        rotate_left
        · (intro w' hSw; (try dsimp only at hSw); go_simp; first | done | with_reducible rfl)
        simp only [Act.put, List.setIfInBounds_toArray, List.set_cons_zero, List.set_cons_succ]
        refine wpAnyH_done (by kernel_rfl) ?_ _
        clear hHeld
        go_wp2
        go_ret
        exact ⟨ret_bool (by rw [HB0.out, esK_bad (esS_has HZZ.out HI.out) hlt, Bool.false_and]), HB2.out⟩
      · rw [hin] at HC
        have HI := Lib.hid hin
        clear hin hb
        rcases Nat.eq_zero_or_pos k with hk0 | hk0
        · have HE0 := Lib.hid (show esK sz es (k + 1) = true by subst hk0; rw [esK_succ, ha.out, esS_zero hz HI.out]; rfl)
          have hk1 : ¬ (0 : Int) < (k : Int) := by omega
          have hk2 : ¬ 0 < k := by omega
          subst hAe
          clear hk0 hz
          go_wp2
          have hal := below_alloc (Below.refl wr.heap.size wr) (Obj.cells #[Value.int IntKind.i64 a.v, Value.int IntKind.i64 a.x] 104)
          replace k0 := cell_later hal k0
          replace k1 := cell_later hal k1
          replace k2 := cell_later hal k2
          replace j0 := cell_later hal j0
          replace j1 := cell_later hal j1
          replace j2 := cell_later hal j2
          have p0 : (wr.alloc (Obj.cells #[Value.int IntKind.i64 a.v, Value.int IntKind.i64 a.x] 104)).cell? ⟨wr.heap.size, 0, none⟩ = some (.int .i64 a.v) := by go_simp
          have p1 : (wr.alloc (Obj.cells #[Value.int IntKind.i64 a.v, Value.int IntKind.i64 a.x] 104)).cell? ⟨wr.heap.size, 1, none⟩ = some (.int .i64 a.x) := by go_simp
          have HBA := Lib.hid (below_chain HBE.out hal)
          clear hal
          generalize wr.alloc (Obj.cells #[Value.int IntKind.i64 a.v, Value.int IntKind.i64 a.x] 104) = W at *
          refine wp_region_held_drew (S := (fun w' => w'.cell? ⟨w.heap.size, 0, none⟩ = some (.slice az sn cz) ∧ w'.cell? ⟨w.heap.size, 1, none⟩ = some (.slice ax tn cs) ∧ w'.cell? ⟨w.heap.size, 2, none⟩ = some (.slice ar rn cr) ∧ w'.cell? ⟨w.heap.size + 1, 2, none⟩ = some (.slice (some ⟨b, off, none⟩) vn ce) ∧ w'.cell? ⟨wr.heap.size, 0, none⟩ = some (.int .i64 a.v) ∧ w'.cell? ⟨wr.heap.size, 1, none⟩ = some (.int .i64 a.x))) (by kernel_rfl) ?_ (fun hHeld => ?_)
          · exact ⟨k0, k1, k2, j2, p0, p1⟩
          refine rg_take (v := ?_) 0 rfl (by kernel_rfl) (by kernel_rfl) (by kernel_rfl) (fun _ _ _ h => h) (by kernel_rfl) ?_ (by assumption) ?_
          rotate_left
          · (intro w' hSw; (try dsimp only at hSw); go_simp; first | done | with_reducible rfl)
          simp only [Act.put, List.setIfInBounds_toArray, List.set_cons_zero, List.set_cons_succ]
          refine rg_take (v := ?_) 1 rfl (by kernel_rfl) (by kernel_rfl) (by kernel_rfl) (fun _ _ _ h => h) (by kernel_rfl) ?_ (by assumption) ?_
          rotate_left
          · (intro w' hSw; (try dsimp only at hSw); go_simp; first | done | with_reducible rfl)
          simp only [Act.put, List.setIfInBounds_toArray, List.set_cons_zero, List.set_cons_succ]
          refine rg_take (v := ?_) 2 rfl (by kernel_rfl) (by kernel_rfl) (by kernel_rfl) (fun _ _ _ h => h) (by kernel_rfl) ?_ (by assumption) ?_
          rotate_left
          · (intro w' hSw; (try dsimp only at hSw); go_simp; first | done | with_reducible rfl)
          simp only [Act.put, List.setIfInBounds_toArray, List.set_cons_zero, List.set_cons_succ]
          refine rg_take (v := ?_) 3 rfl (by kernel_rfl) (by kernel_rfl) (by kernel_rfl) (fun _ _ _ h => h) (by kernel_rfl) ?_ (by assumption) ?_
          rotate_left
          · (intro w' hSw; (try dsimp only at hSw); go_simp; first | done | with_reducible rfl)
          simp only [Act.put, List.setIfInBounds_toArray, List.set_cons_zero, List.set_cons_succ]
          refine rg_take (v := ?_) 4 rfl (by kernel_rfl) (by kernel_rfl) (by kernel_rfl) (fun _ _ _ h => h) (by kernel_rfl) ?_ (by assumption) ?_
          rotate_left
          · (intro w' hSw; (try dsimp only at hSw); go_simp; first | done | with_reducible rfl)
          simp only [Act.put, List.setIfInBounds_toArray, List.set_cons_zero, List.set_cons_succ]
          refine rg_run 5 rfl (by kernel_rfl) (by kernel_rfl) (fun K hK => ?_)
          go_simp
          refine (HC.out _ (HZ.out.below (by exact HBA.out.drew))).mono ?_
          rintro e w2 ⟨rfl, hb⟩
          have HB2 := Lib.hid (below_chain (by exact HBA.out.drew) hb)
          have k0b := cell_later hb (by exact k0)
          have k1b := cell_later hb (by exact k1)
          have k2b := cell_later hb (by exact k2)
          have j0b := cell_later hb (by exact j0)
          have j1b := cell_later hb (by exact j1)
          have j2b := cell_later hb (by exact j2)
          have p0b := cell_later hb (by exact p0)
          have p1b := cell_later hb (by exact p1)
          clear hb
          go_wp2
          clear hHeld
          refine hK.out _ _ ⟨k0b, k1b, k2b, j2b, p0b, p1b⟩ (fun hHeld => ?_)
          clear hK K
          try simp only [Act.put, List.setIfInBounds_toArray, List.set_cons_zero, List.set_cons_succ]
          refine rg_take (v := ?_) 6 rfl (by kernel_rfl) (by kernel_rfl) (by kernel_rfl) (fun _ _ _ h => h) (by kernel_rfl) ?_ (by assumption) ?_
          rotate_left
          · (intro w' hSw; (try dsimp only at hSw); go_simp; first | done | with_reducible rfl)
          simp only [Act.put, List.setIfInBounds_toArray, List.set_cons_zero, List.set_cons_succ]
          refine rg_take (v := ?_) 7 rfl (by kernel_rfl) (by kernel_rfl) (by kernel_rfl) (fun _ _ _ h => h) (by kernel_rfl) ?_ (by assumption) ?_
          rotate_left
          · (intro w' hSw; (try dsimp only at hSw); go_simp; first | done | with_reducible rfl)
          simp only [Act.put, List.setIfInBounds_toArray, List.set_cons_zero, List.set_cons_succ]
          refine rg_take (v := ?_) 8 rfl (by kernel_rfl) (by kernel_rfl) (by kernel_rfl) (fun _ _ _ h => h) (by kernel_rfl) ?_ (by assumption) ?_
          rotate_left
          · (intro w' hSw; (try dsimp only at hSw); go_simp; first | done | with_reducible rfl)
          simp only [Act.put, List.setIfInBounds_toArray, List.set_cons_zero, List.set_cons_succ]
          refine rg_take (v := ?_) 9 rfl (by kernel_rfl) (by kernel_rfl) (by kernel_rfl) (fun _ _ _ h => h) (by kernel_rfl) ?_ (by assumption) ?_
          rotate_left
          · (intro w' hSw; (try dsimp only at hSw); go_simp; first | done | with_reducible rfl)
          simp only [Act.put, List.setIfInBounds_toArray, List.set_cons_zero, List.set_cons_succ]
          refine rg_take (v := ?_) 10 rfl (by kernel_rfl) (by kernel_rfl) (by kernel_rfl) (fun _ _ _ h => h) (by kernel_rfl) ?_ (by assumption) ?_
          rotate_left
          · (intro w' hSw; (try dsimp only at hSw); go_simp; first | done | with_reducible rfl)
          simp only [Act.put, List.setIfInBounds_toArray, List.set_cons_zero, List.set_cons_succ]
          refine rg_skip 11 rfl (by kernel_rfl) (by kernel_rfl) (by kernel_rfl) (fun _ _ _ h => h) (by kernel_rfl) (by assumption) ?_
          simp only [Act.put, List.setIfInBounds_toArray, List.set_cons_zero, List.set_cons_succ]
          refine rg_skip 12 rfl (by kernel_rfl) (by kernel_rfl) (by kernel_rfl) (fun _ _ _ h => h) (by kernel_rfl) (by assumption) ?_
          simp only [Act.put, List.setIfInBounds_toArray, List.set_cons_zero, List.set_cons_succ]
          refine rg_skip 13 rfl (by kernel_rfl) (by kernel_rfl) (by kernel_rfl) (fun _ _ _ h => h) (by kernel_rfl) (by assumption) ?_
          simp only [Act.put, List.setIfInBounds_toArray, List.set_cons_zero, List.set_cons_succ]
          refine rg_skip 14 rfl (by kernel_rfl) (by kernel_rfl) (by kernel_rfl) (fun _ _ _ h => h) (by kernel_rfl) (by assumption) ?_
          simp only [Act.put, List.setIfInBounds_toArray, List.set_cons_zero, List.set_cons_succ]
          refine rg_skip 15 rfl (by kernel_rfl) (by kernel_rfl) (by kernel_rfl) (fun _ _ _ h => h) (by kernel_rfl) (by assumption) ?_
          simp only [Act.put, List.setIfInBounds_toArray, List.set_cons_zero, List.set_cons_succ]
          refine rg_skip 16 rfl (by kernel_rfl) (by kernel_rfl) (by kernel_rfl) (fun _ _ _ h => h) (by kernel_rfl) (by assumption) ?_
          simp only [Act.put, List.setIfInBounds_toArray, List.set_cons_zero, List.set_cons_succ]
          refine rg_skip 17 rfl (by kernel_rfl) (by kernel_rfl) (by kernel_rfl) (fun _ _ _ h => h) (by kernel_rfl) (by assumption) ?_
          simp only [Act.put, List.setIfInBounds_toArray, List.set_cons_zero, List.set_cons_succ]
          refine rg_skip 18 rfl (by kernel_rfl) (by kernel_rfl) (by kernel_rfl) (fun _ _ _ h => h) (by kernel_rfl) (by assumption) ?_
          simp only [Act.put, List.setIfInBounds_toArray, List.set_cons_zero, List.set_cons_succ]
          refine rg_skip 19 rfl (by kernel_rfl) (by kernel_rfl) (by kernel_rfl) (fun _ _ _ h => h) (by kernel_rfl) (by assumption) ?_
          simp only [Act.put, List.setIfInBounds_toArray, List.set_cons_zero, List.set_cons_succ]
          refine rg_skip 20 rfl (by kernel_rfl) (by kernel_rfl) (by kernel_rfl) (fun _ _ _ h => h) (by kernel_rfl) (by assumption) ?_
          simp only [Act.put, List.setIfInBounds_toArray, List.set_cons_zero, List.set_cons_succ]
          refine rg_take (v := ?_) 21 rfl (by kernel_rfl) (by kernel_rfl) (by kernel_rfl) (fun _ _ _ h => h) (by kernel_rfl) ?_ (by assumption) ?_
          rotate_left
          · (intro w' hSw; (try dsimp only at hSw); go_simp; first | done | with_reducible rfl)
          simp only [Act.put, List.setIfInBounds_toArray, List.set_cons_zero, List.set_cons_succ]
          refine rg_take (v := ?_) 22 rfl (by kernel_rfl) (by kernel_rfl) (by kernel_rfl) (fun _ _ _ h => h) (by kernel_rfl) ?_ (by assumption) ?_
          rotate_left
          · (intro w' hSw; (try dsimp only at hSw); go_simp; first | done | with_reducible rfl)
          simp only [Act.put, List.setIfInBounds_toArray, List.set_cons_zero, List.set_cons_succ]
          refine wpAnyH_done (by kernel_rfl) ?_ _
          clear hHeld
          go_wp2
          go_roundw
          case rel => exact ⟨k + 1, by omega, by go_num, HE0, k0b, k1b, k2b, j0b, j1b, j2b, HB2.out⟩
          case measure => simp [intOf]; omega
        · obtain ⟨j, rfl⟩ : ∃ j, k = j + 1 := ⟨k - 1, by omega⟩
          obtain ⟨d, hd⟩ : ∃ z, es[j]? = some z := ⟨_, List.getElem?_eq_getElem (by have := HVN.out; omega)⟩
          obtain ⟨b', off', hAe', _, g2, _⟩ := (HE.out.below HBE.out).asg hd
          rw [hAe] at hAe'
          simp only [Option.some.injEq, Addr.mk.injEq, and_true] at hAe'
          obtain ⟨rfl, rfl⟩ := hAe'
          have HS := Lib.hid (esS_succ hz hd HI.out)
          have hw1 : IntKind.i64.wrap ((j : Int) + 1 - 1) = j := by rw [Int.add_sub_cancel]; exact IntWalk.i64_in _ (by omega)
          have hw2 : IntKind.i64.wrap (((j + 1 : Nat) : Int) - 1) = j := by rw [show ((j + 1 : Nat) : Int) - 1 = j by omega]; exact IntWalk.i64_in _ (by omega)
          have hw3 : IntKind.i64.wrap (j : Int) = j := IntWalk.i64_in _ (by omega)
          have hj0 : (0 : Int) ≤ (j : Int) := by omega
          have hj1 : (j : Int) < (vn : Int) := by omega
          have hj2 : (j : Int) ≤ (vn : Int) := by omega
          have hj3 : (0 : Int) < (j : Int) + 1 := by omega
          have hj4 : j < vn := by omega
          have hj5 : (0 : Int) ≤ (j : Int) + 1 := by omega
          have hj6 : (j : Int) + 1 < (vn : Int) := by omega
          subst hAe
          clear hk0 hz hd
          by_cases hlt2 : d.v < a.v
          · have HE0 := Lib.hid (show esK sz es (j + 1 + 1) = true by rw [esK_succ, ha.out, HS.out]; simpa using hlt2)
            have hn2 : ¬ a.v ≤ d.v := by omega
            clear hlt2
            go_wp2
            have hal := below_alloc (Below.refl wr.heap.size wr) (Obj.cells #[Value.int IntKind.i64 a.v, Value.int IntKind.i64 a.x] 104)
            replace k0 := cell_later hal k0
            replace k1 := cell_later hal k1
            replace k2 := cell_later hal k2
            replace j0 := cell_later hal j0
            replace j1 := cell_later hal j1
            replace j2 := cell_later hal j2
            replace g2 := cell_later hal g2
            have p0 : (wr.alloc (Obj.cells #[Value.int IntKind.i64 a.v, Value.int IntKind.i64 a.x] 104)).cell? ⟨wr.heap.size, 0, none⟩ = some (.int .i64 a.v) := by go_simp
            have p1 : (wr.alloc (Obj.cells #[Value.int IntKind.i64 a.v, Value.int IntKind.i64 a.x] 104)).cell? ⟨wr.heap.size, 1, none⟩ = some (.int .i64 a.x) := by go_simp
            have HBA := Lib.hid (below_chain HBE.out hal)
            clear hal
            generalize wr.alloc (Obj.cells #[Value.int IntKind.i64 a.v, Value.int IntKind.i64 a.x] 104) = W at *
            refine wp_region_held_drew (S := (fun w' => w'.cell? ⟨w.heap.size, 0, none⟩ = some (.slice az sn cz) ∧ w'.cell? ⟨w.heap.size, 1, none⟩ = some (.slice ax tn cs) ∧ w'.cell? ⟨w.heap.size, 2, none⟩ = some (.slice ar rn cr) ∧ w'.cell? ⟨w.heap.size + 1, 2, none⟩ = some (.slice (some ⟨b, off, none⟩) vn ce) ∧ w'.cell? ⟨wr.heap.size, 0, none⟩ = some (.int .i64 a.v) ∧ w'.cell? ⟨wr.heap.size, 1, none⟩ = some (.int .i64 a.x) ∧ w'.cell? ⟨b, off + j * 2, none⟩ = some (.int .i64 d.v))) (by kernel_rfl) ?_ (fun hHeld => ?_)
            · exact ⟨k0, k1, k2, j2, p0, p1, g2⟩
            refine rg_take (v := ?_) 0 rfl (by kernel_rfl) (by kernel_rfl) (by kernel_rfl) (fun _ _ _ h => h) (by kernel_rfl) ?_ (by assumption) ?_
            rotate_left
            · (intro w' hSw; (try dsimp only at hSw); go_simp; first | done | with_reducible rfl)
            simp only [Act.put, List.setIfInBounds_toArray, List.set_cons_zero, List.set_cons_succ]
            refine rg_take (v := ?_) 1 rfl (by kernel_rfl) (by kernel_rfl) (by kernel_rfl) (fun _ _ _ h => h) (by kernel_rfl) ?_ (by assumption) ?_
            rotate_left
            · (intro w' hSw; (try dsimp only at hSw); go_simp; first | done | with_reducible rfl)
            simp only [Act.put, List.setIfInBounds_toArray, List.set_cons_zero, List.set_cons_succ]
            refine rg_take (v := ?_) 2 rfl (by kernel_rfl) (by kernel_rfl) (by kernel_rfl) (fun _ _ _ h => h) (by kernel_rfl) ?_ (by assumption) ?_
            rotate_left
            · (intro w' hSw; (try dsimp only at hSw); go_simp; first | done | with_reducible rfl)
            simp only [Act.put, List.setIfInBounds_toArray, List.set_cons_zero, List.set_cons_succ]
            refine rg_take (v := ?_) 3 rfl (by kernel_rfl) (by kernel_rfl) (by kernel_rfl) (fun _ _ _ h => h) (by kernel_rfl) ?_ (by assumption) ?_
            rotate_left
            · (intro w' hSw; (try dsimp only at hSw); go_simp; first | done | with_reducible rfl)
            simp only [Act.put, List.setIfInBounds_toArray, List.set_cons_zero, List.set_cons_succ]
            refine rg_take (v := ?_) 4 rfl (by kernel_rfl) (by kernel_rfl) (by kernel_rfl) (fun _ _ _ h => h) (by kernel_rfl) ?_ (by assumption) ?_
            rotate_left
            · (intro w' hSw; (try dsimp only at hSw); go_simp; first | done | with_reducible rfl)
            simp only [Act.put, List.setIfInBounds_toArray, List.set_cons_zero, List.set_cons_succ]
            refine rg_run 5 rfl (by kernel_rfl) (by kernel_rfl) (fun K hK => ?_)
            go_simp
            refine (HC.out _ (HZ.out.below (by exact HBA.out.drew))).mono ?_
            rintro e w2 ⟨rfl, hb⟩
            have HB2 := Lib.hid (below_chain (by exact HBA.out.drew) hb)
            have k0b := cell_later hb (by exact k0)
            have k1b := cell_later hb (by exact k1)
            have k2b := cell_later hb (by exact k2)
            have j0b := cell_later hb (by exact j0)
            have j1b := cell_later hb (by exact j1)
            have j2b := cell_later hb (by exact j2)
            have p0b := cell_later hb (by exact p0)
            have p1b := cell_later hb (by exact p1)
            have g2b := cell_later hb (by exact g2)
            clear hb
            go_wp2
            clear hHeld
            refine hK.out _ _ ⟨k0b, k1b, k2b, j2b, p0b, p1b, g2b⟩ (fun hHeld => ?_)
            clear hK K
            try simp only [Act.put, List.setIfInBounds_toArray, List.set_cons_zero, List.set_cons_succ]
            refine rg_take (v := ?_) 6 rfl (by kernel_rfl) (by kernel_rfl) (by kernel_rfl) (fun _ _ _ h => h) (by kernel_rfl) ?_ (by assumption) ?_
            rotate_left
            · (intro w' hSw; (try dsimp only at hSw); go_simp; first | done | with_reducible rfl)
            simp only [Act.put, List.setIfInBounds_toArray, List.set_cons_zero, List.set_cons_succ]
            refine rg_take (v := ?_) 7 rfl (by kernel_rfl) (by kernel_rfl) (by kernel_rfl) (fun _ _ _ h => h) (by kernel_rfl) ?_ (by assumption) ?_
            rotate_left
            · (intro w' hSw; (try dsimp only at hSw); go_simp; first | done | with_reducible rfl)
            simp only [Act.put, List.setIfInBounds_toArray, List.set_cons_zero, List.set_cons_succ]
            refine rg_take (v := ?_) 8 rfl (by kernel_rfl) (by kernel_rfl) (by kernel_rfl) (fun _ _ _ h => h) (by kernel_rfl) ?_ (by assumption) ?_
            rotate_left
            · (intro w' hSw; (try dsimp only at hSw); go_simp; first | done | with_reducible rfl)
            simp only [Act.put, List.setIfInBounds_toArray, List.set_cons_zero, List.set_cons_succ]
            refine rg_take (v := ?_) 9 rfl (by kernel_rfl) (by kernel_rfl) (by kernel_rfl) (fun _ _ _ h => h) (by kernel_rfl) ?_ (by assumption) ?_
            rotate_left
            · (intro w' hSw; (try dsimp only at hSw); go_simp; first | done | with_reducible rfl)
            simp only [Act.put, List.setIfInBounds_toArray, List.set_cons_zero, List.set_cons_succ]
            refine rg_take (v := ?_) 10 rfl (by kernel_rfl) (by kernel_rfl) (by kernel_rfl) (fun _ _ _ h => h) (by kernel_rfl) ?_ (by assumption) ?_
            rotate_left
            · (intro w' hSw; (try dsimp only at hSw); go_simp; first | done | with_reducible rfl)
            simp only [Act.put, List.setIfInBounds_toArray, List.set_cons_zero, List.set_cons_succ]
            refine rg_take (v := ?_) 11 rfl (by kernel_rfl) (by kernel_rfl) (by kernel_rfl) (fun _ _ _ h => h) (by kernel_rfl) ?_ (by assumption) ?_
            rotate_left
            · (intro w' hSw; (try dsimp only at hSw); go_simp; first | done | with_reducible rfl)
            simp only [Act.put, List.setIfInBounds_toArray, List.set_cons_zero, List.set_cons_succ]
            refine rg_take (v := ?_) 12 rfl (by kernel_rfl) (by kernel_rfl) (by kernel_rfl) (fun _ _ _ h => h) (by kernel_rfl) ?_ (by assumption) ?_
            rotate_left
            · (intro w' hSw; (try dsimp only at hSw); go_simp; first | done | with_reducible rfl)
            simp only [Act.put, List.setIfInBounds_toArray, List.set_cons_zero, List.set_cons_succ]
            refine rg_take (v := ?_) 13 rfl (by kernel_rfl) (by kernel_rfl) (by kernel_rfl) (fun _ _ _ h => h) (by kernel_rfl) ?_ (by assumption) ?_
            rotate_left
            · (intro w' hSw; (try dsimp only at hSw); go_simp; first | done | with_reducible rfl)
            simp only [Act.put, List.setIfInBounds_toArray, List.set_cons_zero, List.set_cons_succ]
            refine rg_take (v := ?_) 14 rfl (by kernel_rfl) (by kernel_rfl) (by kernel_rfl) (fun _ _ _ h => h) (by kernel_rfl) ?_ (by assumption) ?_
            rotate_left
            · (intro w' hSw; (try dsimp only at hSw); go_simp; first | done | with_reducible rfl)
            simp only [Act.put, List.setIfInBounds_toArray, List.set_cons_zero, List.set_cons_succ]
            refine rg_take (v := ?_) 15 rfl (by kernel_rfl) (by kernel_rfl) (by kernel_rfl) (fun _ _ _ h => h) (by kernel_rfl) ?_ (by assumption) ?_
            rotate_left
            · (intro w' hSw; (try dsimp only at hSw); go_simp; first | done | with_reducible rfl)
            simp only [Act.put, List.setIfInBounds_toArray, List.set_cons_zero, List.set_cons_succ]
            refine rg_take (v := ?_) 16 rfl (by kernel_rfl) (by kernel_rfl) (by kernel_rfl) (fun _ _ _ h => h) (by kernel_rfl) ?_ (by assumption) ?_
            rotate_left
            · (intro w' hSw; (try dsimp only at hSw); go_simp; first | done | with_reducible rfl)
            simp only [Act.put, List.setIfInBounds_toArray, List.set_cons_zero, List.set_cons_succ]
            refine rg_take (v := ?_) 17 rfl (by kernel_rfl) (by kernel_rfl) (by kernel_rfl) (fun _ _ _ h => h) (by kernel_rfl) ?_ (by assumption) ?_
            rotate_left
            · (intro w' hSw; (try dsimp only at hSw); go_simp; first | done | with_reducible rfl)
            simp only [Act.put, List.setIfInBounds_toArray, List.set_cons_zero, List.set_cons_succ]
            refine rg_take (v := ?_) 18 rfl (by kernel_rfl) (by kernel_rfl) (by kernel_rfl) (fun _ _ _ h => h) (by kernel_rfl) ?_ (by assumption) ?_
            rotate_left
            · (intro w' hSw; (try dsimp only at hSw); go_simp; first | done | with_reducible rfl)
            simp only [Act.put, List.setIfInBounds_toArray, List.set_cons_zero, List.set_cons_succ]
            refine rg_take (v := ?_) 19 rfl (by kernel_rfl) (by kernel_rfl) (by kernel_rfl) (fun _ _ _ h => h) (by kernel_rfl) ?_ (by assumption) ?_
            rotate_left
            · (intro w' hSw; (try dsimp only at hSw); go_simp; first | done | with_reducible rfl)
            simp only [Act.put, List.setIfInBounds_toArray, List.set_cons_zero, List.set_cons_succ]
            refine rg_take (v := ?_) 20 rfl (by kernel_rfl) (by kernel_rfl) (by kernel_rfl) (fun _ _ _ h => h) (by kernel_rfl) ?_ (by assumption) ?_
            rotate_left
            · (intro w' hSw; (try dsimp only at hSw); go_simp; first | done | with_reducible rfl)
            simp only [Act.put, List.setIfInBounds_toArray, List.set_cons_zero, List.set_cons_succ]
            refine rg_take (v := ?_) 21 rfl (by kernel_rfl) (by kernel_rfl) (by kernel_rfl) (fun _ _ _ h => h) (by kernel_rfl) ?_ (by assumption) ?_
            rotate_left
            · (intro w' hSw; (try dsimp only at hSw); go_simp; first | done | with_reducible rfl)
            simp only [Act.put, List.setIfInBounds_toArray, List.set_cons_zero, List.set_cons_succ]
            refine rg_take (v := ?_) 22 rfl (by kernel_rfl) (by kernel_rfl) (by kernel_rfl) (fun _ _ _ h => h) (by kernel_rfl) ?_ (by assumption) ?_
            rotate_left
            · (intro w' hSw; (try dsimp only at hSw); go_simp; first | done | with_reducible rfl)
            simp only [Act.put, List.setIfInBounds_toArray, List.set_cons_zero, List.set_cons_succ]
            refine wpAnyH_done (by kernel_rfl) ?_ _
            clear hHeld
            go_wp2
            go_roundw
            case rel => exact ⟨j + 1 + 1, by omega, by go_num, HE0, k0b, k1b, k2b, j0b, j1b, j2b, HB2.out⟩
            case measure => simp [intOf]; omega
          · have HE0 := Lib.hid (show esS sz es (j + 1) = false by rw [HS.out]; simpa using hlt2)
            have hn2 : a.v ≤ d.v := by omega
            clear hlt2
            go_wp2
            have hal := below_alloc (Below.refl wr.heap.size wr) (Obj.cells #[Value.int IntKind.i64 a.v, Value.int IntKind.i64 a.x] 104)
            replace k0 := cell_later hal k0
            replace k1 := cell_later hal k1
            replace k2 := cell_later hal k2
            replace j0 := cell_later hal j0
            replace j1 := cell_later hal j1
            replace j2 := cell_later hal j2
            replace g2 := cell_later hal g2
            have p0 : (wr.alloc (Obj.cells #[Value.int IntKind.i64 a.v, Value.int IntKind.i64 a.x] 104)).cell? ⟨wr.heap.size, 0, none⟩ = some (.int .i64 a.v) := by go_simp
            have p1 : (wr.alloc (Obj.cells #[Value.int IntKind.i64 a.v, Value.int IntKind.i64 a.x] 104)).cell? ⟨wr.heap.size, 1, none⟩ = some (.int .i64 a.x) := by go_simp
            have HBA := Lib.hid (below_chain HBE.out hal)
            clear hal
            generalize wr.alloc (Obj.cells #[Value.int IntKind.i64 a.v, Value.int IntKind.i64 a.x] 104) = W at *
            refine wp_region_held_drew (S := (fun w' => w'.cell? ⟨w.heap.size, 0, none⟩ = some (.slice az sn cz) ∧ w'.cell? ⟨w.heap.size, 1, none⟩ = some (.slice ax tn cs) ∧ w'.cell? ⟨w.heap.size, 2, none⟩ = some (.slice ar rn cr) ∧ w'.cell? ⟨w.heap.size + 1, 2, none⟩ = some (.slice (some ⟨b, off, none⟩) vn ce) ∧ w'.cell? ⟨wr.heap.size, 0, none⟩ = some (.int .i64 a.v) ∧ w'.cell? ⟨wr.heap.size, 1, none⟩ = some (.int .i64 a.x) ∧ w'.cell? ⟨b, off + j * 2, none⟩ = some (.int .i64 d.v))) (by kernel_rfl) ?_ (fun hHeld => ?_)
            · exact ⟨k0, k1, k2, j2, p0, p1, g2⟩
            refine rg_take (v := ?_) 0 rfl (by kernel_rfl) (by kernel_rfl) (by kernel_rfl) (fun _ _ _ h => h) (by kernel_rfl) ?_ (by assumption) ?_
            rotate_left
            · (intro w' hSw; (try dsimp only at hSw); go_simp; first | done | with_reducible rfl)
            simp only [Act.put, List.setIfInBounds_toArray, List.set_cons_zero, List.set_cons_succ]
            refine rg_take (v := ?_) 1 rfl (by kernel_rfl) (by kernel_rfl) (by kernel_rfl) (fun _ _ _ h => h) (by kernel_rfl) ?_ (by assumption) ?_
            rotate_left
            · (intro w' hSw; (try dsimp only at hSw); go_simp; first | done | with_reducible rfl)
            simp only [Act.put, List.setIfInBounds_toArray, List.set_cons_zero, List.set_cons_succ]
            refine rg_take (v := ?_) 2 rfl (by kernel_rfl) (by kernel_rfl) (by kernel_rfl) (fun _ _ _ h => h) (by kernel_rfl) ?_ (by assumption) ?_
            rotate_left
            · (intro w' hSw; (try dsimp only at hSw); go_simp; first | done | with_reducible rfl)
            simp only [Act.put, List.setIfInBounds_toArray, List.set_cons_zero, List.set_cons_succ]
            refine rg_take (v := ?_) 3 rfl (by kernel_rfl) (by kernel_rfl) (by kernel_rfl) (fun _ _ _ h => h) (by kernel_rfl) ?_ (by assumption) ?_
            rotate_left
            · (intro w' hSw; (try dsimp only at hSw); go_simp; first | done | with_reducible rfl)
            simp only [Act.put, List.setIfInBounds_toArray, List.set_cons_zero, List.set_cons_succ]
            refine rg_take (v := ?_) 4 rfl (by kernel_rfl) (by kernel_rfl) (by kernel_rfl) (fun _ _ _ h => h) (by kernel_rfl) ?_ (by assumption) ?_
            rotate_left
            · (intro w' hSw; (try dsimp only at hSw); go_simp; first | done | with_reducible rfl)
            simp only [Act.put, List.setIfInBounds_toArray, List.set_cons_zero, List.set_cons_succ]
            refine rg_run 5 rfl (by kernel_rfl) (by kernel_rfl) (fun K hK => ?_)
            go_simp
            refine (HC.out _ (HZ.out.below (by exact HBA.out.drew))).mono ?_
            rintro e w2 ⟨rfl, hb⟩
            have HB2 := Lib.hid (below_chain (by exact HBA.out.drew) hb)
            have k0b := cell_later hb (by exact k0)
            have k1b := cell_later hb (by exact k1)
            have k2b := cell_later hb (by exact k2)
            have j0b := cell_later hb (by exact j0)
            have j1b := cell_later hb (by exact j1)
            have j2b := cell_later hb (by exact j2)
            have p0b := cell_later hb (by exact p0)
            have p1b := cell_later hb (by exact p1)
            have g2b := cell_later hb (by exact g2)
            clear hb
            go_wp2
            clear hHeld
            refine hK.out _ _ ⟨k0b, k1b, k2b, j2b, p0b, p1b, g2b⟩ (fun hHeld => ?_)
            clear hK K
            try simp only [Act.put, List.setIfInBounds_toArray, List.set_cons_zero, List.set_cons_succ]
            refine rg_take (v := ?_) 6 rfl (by kernel_rfl) (by kernel_rfl) (by kernel_rfl) (fun _ _ _ h => h) (by kernel_rfl) ?_ (by assumption) ?_
            rotate_left
            · (intro w' hSw; (try dsimp only at hSw); go_simp; first | done | with_reducible rfl)
            simp only [Act.put, List.setIfInBounds_toArray, List.set_cons_zero, List.set_cons_succ]
            refine rg_take (v := ?_) 7 rfl (by kernel_rfl) (by kernel_rfl) (by kernel_rfl) (fun _ _ _ h => h) (by kernel_rfl) ?_ (by assumption) ?_
            rotate_left
            · (intro w' hSw; (try dsimp only at hSw); go_simp; first | done | with_reducible rfl)
            simp only [Act.put, List.setIfInBounds_toArray, List.set_cons_zero, List.set_cons_succ]
            refine rg_take (v := ?_) 8 rfl (by kernel_rfl) (by kernel_rfl) (by kernel_rfl) (fun _ _ _ h => h) (by kernel_rfl) ?_ (by assumption) ?_
            rotate_left
            · (intro w' hSw; (try dsimp only at hSw); go_simp; first | done | with_reducible rfl)
            simp only [Act.put, List.setIfInBounds_toArray, List.set_cons_zero, List.set_cons_succ]
            refine rg_take (v := ?_) 9 rfl (by kernel_rfl) (by kernel_rfl) (by kernel_rfl) (fun _ _ _ h => h) (by kernel_rfl) ?_ (by assumption) ?_
            rotate_left
            · (intro w' hSw; (try dsimp only at hSw); go_simp; first | done | with_reducible rfl)
            simp only [Act.put, List.setIfInBounds_toArray, List.set_cons_zero, List.set_cons_succ]
            refine rg_take (v := ?_) 10 rfl (by kernel_rfl) (by kernel_rfl) (by kernel_rfl) (fun _ _ _ h => h) (by kernel_rfl) ?_ (by assumption) ?_
            rotate_left
            · (intro w' hSw; (try dsimp only at hSw); go_simp; first | done | with_reducible rfl)
            simp only [Act.put, List.setIfInBounds_toArray, List.set_cons_zero, List.set_cons_succ]
            refine rg_take (v := ?_) 11 rfl (by kernel_rfl) (by kernel_rfl) (by kernel_rfl) (fun _ _ _ h => h) (by kernel_rfl) ?_ (by assumption) ?_
            rotate_left
            · (intro w' hSw; (try dsimp only at hSw); go_simp; first | done | with_reducible rfl)
            simp only [Act.put, List.setIfInBounds_toArray, List.set_cons_zero, List.set_cons_succ]
            refine rg_take (v := ?_) 12 rfl (by kernel_rfl) (by kernel_rfl) (by kernel_rfl) (fun _ _ _ h => h) (by kernel_rfl) ?_ (by assumption) ?_
            rotate_left
            · (intro w' hSw; (try dsimp only at hSw); go_simp; first | done | with_reducible rfl)
            simp only [Act.put, List.setIfInBounds_toArray, List.set_cons_zero, List.set_cons_succ]
            refine rg_take (v := ?_) 13 rfl (by kernel_rfl) (by kernel_rfl) (by kernel_rfl) (fun _ _ _ h => h) (by kernel_rfl) ?_ (by assumption) ?_
            rotate_left
            · (intro w' hSw; (try dsimp only at hSw); go_simp; first | done | with_reducible rfl)
            simp only [Act.put, List.setIfInBounds_toArray, List.set_cons_zero, List.set_cons_succ]
            refine rg_take (v := ?_) 14 rfl (by kernel_rfl) (by kernel_rfl) (by kernel_rfl) (fun _ _ _ h => h) (by kernel_rfl) ?_ (by assumption) ?_
            rotate_left
            · (intro w' hSw; (try dsimp only at hSw); go_simp; first | done | with_reducible rfl)
            simp only [Act.put, List.setIfInBounds_toArray, List.set_cons_zero, List.set_cons_succ]
            refine rg_take (v := ?_) 15 rfl (by kernel_rfl) (by kernel_rfl) (by kernel_rfl) (fun _ _ _ h => h) (by kernel_rfl) ?_ (by assumption) ?_
            rotate_left
            · (intro w' hSw; (try dsimp only at hSw); go_simp; first | done | with_reducible rfl)
            simp only [Act.put, List.setIfInBounds_toArray, List.set_cons_zero, List.set_cons_succ]
            refine rg_take (v := ?_) 16 rfl (by kernel_rfl) (by kernel_rfl) (by kernel_rfl) (fun _ _ _ h => h) (by kernel_rfl) ?_ (by assumption) ?_
            rotate_left
            · (intro w' hSw; (try dsimp only at hSw); go_simp; first | done | with_reducible rfl)
            simp only [Act.put, List.setIfInBounds_toArray, List.set_cons_zero, List.set_cons_succ]
            refine rg_take (v := ?_) 17 rfl (by kernel_rfl) (by kernel_rfl) (by kernel_rfl) (fun _ _ _ h => h) (by kernel_rfl) ?_ (by assumption) ?_
            rotate_left
            · (intro w' hSw; (try dsimp only at hSw); go_simp; first | done | with_reducible rfl)
            simp only [Act.put, List.setIfInBounds_toArray, List.set_cons_zero, List.set_cons_succ]
            refine rg_take (v := ?_) 18 rfl (by kernel_rfl) (by kernel_rfl) (by kernel_rfl) (fun _ _ _ h => h) (by kernel_rfl) ?_ (by assumption) ?_
            rotate_left
            · (intro w' hSw; (try dsimp only at hSw); go_simp; first | done | with_reducible rfl)
            simp only [Act.put, List.setIfInBounds_toArray, List.set_cons_zero, List.set_cons_succ]
            refine rg_take (v := ?_) 19 rfl (by kernel_rfl) (by kernel_rfl) (by kernel_rfl) (fun _ _ _ h => h) (by kernel_rfl) ?_ (by assumption) ?_
            rotate_left
            · (intro w' hSw; (try dsimp only at hSw); go_simp; first | done | with_reducible rfl)
            simp only [Act.put, List.setIfInBounds_toArray, List.set_cons_zero, List.set_cons_succ]
            refine rg_take (v := ?_) 20 rfl (by kernel_rfl) (by kernel_rfl) (by kernel_rfl) (fun _ _ _ h => h) (by kernel_rfl) ?_ (by assumption) ?_
            rotate_left
            · (intro w' hSw; (try dsimp only at hSw); go_simp; first | done | with_reducible rfl)
            simp only [Act.put, List.setIfInBounds_toArray, List.set_cons_zero, List.set_cons_succ]
            refine rg_take (v := ?_) 21 rfl (by kernel_rfl) (by kernel_rfl) (by kernel_rfl) (fun _ _ _ h => h) (by kernel_rfl) ?_ (by assumption) ?_
            rotate_left
            · (intro w' hSw; (try dsimp only at hSw); go_simp; first | done | with_reducible rfl)
            simp only [Act.put, List.setIfInBounds_toArray, List.set_cons_zero, List.set_cons_succ]
            refine rg_take (v := ?_) 22 rfl (by kernel_rfl) (by kernel_rfl) (by kernel_rfl) (fun _ _ _ h => h) (by kernel_rfl) ?_ (by assumption) ?_
            rotate_left
            · (intro w' hSw; (try dsimp only at hSw); go_simp; first | done | with_reducible rfl)
            simp only [Act.put, List.setIfInBounds_toArray, List.set_cons_zero, List.set_cons_succ]
            refine wpAnyH_done (by kernel_rfl) ?_ _
            clear hHeld
            go_wp2
            go_ret
            exact ⟨ret_bool (by rw [HB0.out, esK_bad HE0.out hlt, Bool.false_and]), HB2.out⟩
    · obtain rfl : k = vn := by omega
      have HR := Lib.hid (show R = (nmB nm && (tsB sz gs && decide (k ≤ 4))) by rw [HB0.out, ha.out, Bool.true_and])
      have HBE := Lib.hid hb
      clear ha hb HE
      rcases hn : nmB nm with _ | _
      · rw [hn] at HNM
        have e := HR.out
        rw [hn, Bool.false_and] at e
        subst e
        clear HR hn
        go_wp2_with (first
          | (go_at_call 121
             refine (HNM.out _).mono ?_
             rintro e w2 ⟨rfl, rfl⟩))
        go_ret
        exact ⟨rfl, HBE.out⟩
      · rw [hn] at HNM
        have e := HR.out
        rw [hn, Bool.true_and] at e
        have HR2 := Lib.hid e
        clear HR hn e
        rcases ht : tsB sz gs with _ | _
        · rw [ht] at HT
          have e := HR2.out
          rw [ht, Bool.false_and] at e
          subst e
          clear HR2 ht
          go_wp2_with (first
            | (go_at_call 121
               refine (HNM.out _).mono ?_
               rintro e w2 ⟨rfl, rfl⟩)
            | (go_at_call 59
               refine (HT.out _ (HZ.out.below HBE.out) (HG.out.below HBE.out)).mono ?_
               rintro e w2 ⟨rfl, hb⟩
               have HB2 := Lib.hid (below_chain HBE.out hb)
               clear hb))
          go_ret
          exact ⟨rfl, HB2.out⟩
        · rw [ht] at HT
          have e := HR2.out
          rw [ht, Bool.true_and] at e
          subst e
          clear HR2 ht
          go_wp2_with (first
            | (go_at_call 121
               refine (HNM.out _).mono ?_
               rintro e w2 ⟨rfl, rfl⟩)
            | (go_at_call 59
               refine (HT.out _ (HZ.out.below HBE.out) (HG.out.below HBE.out)).mono ?_
               rintro e w2 ⟨rfl, hb⟩
               have HB2 := Lib.hid (below_chain HBE.out hb)
               have j2b := cell_later hb j2
               clear hb))
          go_ret
          exact ⟨ret_bool (by first | rfl | (congr 1; simp; try omega)), HB2.out⟩
end Go.Proofs.Ytaloheljfefdeaa

/- IsModel (program). Condition: the lengths are those that the laws let by. -/
namespace Go.Proofs.Ytaloheljfefdeaa
open Go.RowKit

def szB (sz : List Int) : Bool := !(sz.any fun z => !inB z 1 32)
def rsB (sz : List Int) (rs : List Rul) : Bool := !(rs.any fun r => !rlB sz r)
def mdB (m : Mdl) : Bool := szB m.sz && (inB m.sz.length 1 16 && (stB m.sz m.st && (decide (m.rs.length ≤ 200) && rsB m.sz m.rs)))
def MOk (m : Mdl) : Prop := MdlOk m ∧ ∀ r ∈ m.rs, r.nm.size ≤ 9223372036854775807
theorem szB_ok {sz : List Int} (h : sz.any (fun z => !inB z 1 32) = false) : SzsOk sz := by
  intro z hz
  rw [List.any_eq_false] at h
  have := h z hz
  simpa [inB] using this
theorem c_IsModel1 (n : Int) (w : World) : Calls Try.prog 104 #[.int .i64 n] w fun e w' => e = .returned (.bool (!inB n 1 32)) ∧ Below w.heap.size w w' := by
  go_enter Try.func104, Try.ntmps104
  go_wp2_with (first
    | (go_at_call 65
       refine (c_within _ _ _ _).mono ?_
       rintro e w' ⟨rfl, rfl⟩)
    )
  go_ret
  exact ⟨rfl, by (repeat (first | exact Below.refl _ _ | assumption | refine below_alloc ?_ _ | refine below_drewN ?_ _ | refine below_set ?_ _ (by simp; try omega) | refine Below.drew ?_))⟩
set_option maxRecDepth 100000 in
theorem c_IsModel2 (m : Mdl) (az ax ar : Option Addr) (cz cs cr : Nat) (p : Nat) (r : Rul) (ag ae : Option Addr) (cg ce : Nat) (w : World) (hs : SzsOk m.sz) (hl : m.sz.length ≤ 1048576) (hlg : r.gs.length ≤ 1048576) (hle : r.es.length ≤ 1048576) (hnm : r.nm.size ≤ 9223372036854775807)
    (h : Rd w az (ints m.sz)) (hg : Rd w ag (tstCells r.gs)) (he : Rd w ae (asgCells r.es))
    (k0 : w.cell? ⟨p, 0, none⟩ = some (.slice az m.sz.length cz)) (k1 : w.cell? ⟨p, 1, none⟩ = some (.slice ax m.st.length cs)) (k2 : w.cell? ⟨p, 2, none⟩ = some (.slice ar m.rs.length cr)) :
    Calls Try.prog 106 #[.agg #[.string r.nm, .slice ag r.gs.length cg, .slice ae r.es.length ce], .pointer (some ⟨p, 0, none⟩)] w fun e w' => e = .returned (.bool (!rlB m.sz r)) ∧ Below w.heap.size w w' := by
  have HH := Lib.hid (fun (w : World) (h : Rd w az (ints m.sz)) hg he => c_isRule m az ax ar cz cs cr r ag ae cg ce w hs hl hlg hle hnm h hg he)
  generalize rlB m.sz r = R at HH ⊢
  obtain ⟨sz, st, rs⟩ := m
  dsimp only [mv] at *
  have H := Lib.hid h
  have HG := Lib.hid hg
  have HE := Lib.hid he
  clear h hg he hs hnm
  have hp := World.block_lt_of_cell? _ _ k0
  generalize sz.length = a at *
  generalize st.length = b at *
  generalize rs.length = c at *
  generalize r.gs.length = gn at *
  generalize r.es.length = en at *
  generalize r.nm = nm at *
  go_enter Try.func106, Try.ntmps106
  go_wp2_with (fail)
  refine (HH.out _ (H.out.alloc _) (HG.out.alloc _) (HE.out.alloc _)).mono ?_
  rintro e w1 ⟨rfl, hb⟩
  have B := below_chain (below_alloc (Below.refl _ _) _) hb
  clear hb
  go_wp2
  go_ret
  exact ⟨rfl, B⟩
set_option maxHeartbeats 1000000 in
set_option maxRecDepth 100000 in
theorem c_IsModel (m : Mdl) (az ax ar : Option Addr) (cz cs cr : Nat) (w : World) (hok : MOk m) (h : Md w az ax ar m) :
    Calls Try.prog 62 #[mv m az ax ar cz cs cr] w fun e w' => e = .returned (.bool (mdB m)) ∧ Below w.heap.size w w' := by
  have hmf : ∀ (fn : Fn) (first cap : Array Value) (w : World), (Instr.makeFunc fn first cap).run Try.prog w = .ok (.func fn first cap) w := fun _ _ _ _ => rfl
  have HC1 := Lib.hid (fun w' hv => c_ContainsInt0 104 (fun z => !inB z 1 32) az cz m.sz w' hok.1.1 hv (Lib.hid fun wr t _ _ => c_IsModel1 t wr) (enter_of Try.func104 (by kernel_rfl) rfl))
  have HST := Lib.hid (fun w' hs hz hv => c_isState m az ax ar cz cs cr ax cs m.st w' hs hok.1.1 hok.1.2.1 hz hv)
  have HC2 := Lib.hid (fun w' x hv hc => c_ContainsRule 106 x (fun r => !rlB m.sz r) ar cr m.rs w' hok.1.2.2.1 hv hc (enter_of Try.func106 (by kernel_rfl) rfl))
  have HCL := Lib.hid (fun (hs : SzsOk m.sz) (wr : World) (p : Nat) (r : Rul) (hr : r ∈ m.rs) (ag ae : Option Addr) (cg ce : Nat) h hg he k0 k1 k2 => c_IsModel2 m az ax ar cz cs cr p r ag ae cg ce wr hs hok.1.1 (hok.1.2.2.2 r hr).1 (hok.1.2.2.2 r hr).2 (hok.2 r hr) h hg he k0 k1 k2)
  have HB0 := Lib.hid (show mdB m = (!(m.sz.any fun z => !inB z 1 32) && (inB m.sz.length 1 16 && (stB m.sz m.st && (decide (m.rs.length ≤ 200) && !(m.rs.any fun r => !rlB m.sz r))))) from rfl)
  have HZ := Lib.hid h.z
  have HX := Lib.hid h.s
  have HR := Lib.hid h.r
  have HSZ := Lib.hid (fun h => szB_ok (sz := m.sz) h)
  generalize mdB m = R at HB0 ⊢
  have hl1 := hok.1.1
  have hl2 := hok.1.2.1
  have hl3 := hok.1.2.2.1
  clear h hok
  obtain ⟨sz, st, rs⟩ := m
  dsimp only [mv] at *
  generalize sz.length = sn at *
  generalize st.length = tn at *
  generalize rs.length = rn at *
  generalize (sz.any fun z => !inB z 1 32) = A1 at *
  generalize stB sz st = A3 at *
  generalize (rs.any fun r => !rlB sz r) = A5 at *
  rcases h1 : inB sn 1 16 with _ | _
  · have e := HB0.out
    rw [h1, Bool.false_and, Bool.and_false] at e
    subst e
    clear HB0 HC1 HST HC2 HCL HSZ
    go_enter Try.func62, Try.ntmps62
    go_wp2_with (first
      | (go_at_call 65
         refine (c_within _ _ _ _).mono ?_
         rintro e w' ⟨rfl, rfl⟩)
      | (go_at_call 103
         refine (c_length _ _ _ _).mono ?_
         rintro e w' ⟨rfl, rfl⟩)
      )
    go_ret
    exact ⟨rfl, by (repeat (first | exact Below.refl _ _ | assumption | refine below_alloc ?_ _ | refine below_drewN ?_ _ | refine below_set ?_ _ (by simp; try omega) | refine Below.drew ?_))⟩
  have e1 := HB0.out
  rw [h1, Bool.true_and] at e1
  have HB1 := Lib.hid e1
  clear HB0 e1
  rcases A1 with _ | _
  · have hs := HSZ.out rfl
    have e2 := HB1.out
    rw [Bool.not_false, Bool.true_and] at e2
    have HB2 := Lib.hid e2
    have HS := Lib.hid hs
    clear HB1 e2 HSZ hs
    rcases A3 with _ | _
    · have e := HB2.out
      rw [Bool.false_and] at e
      subst e
      go_enter Try.func62, Try.ntmps62
      go_wp2_with (first
        | (go_at_call 65
           refine (c_within _ _ _ _).mono ?_
           rintro e w' ⟨rfl, rfl⟩)
        | (go_at_call 103
           refine (c_length _ _ _ _).mono ?_
           rintro e w' ⟨rfl, rfl⟩)
        )
      refine (HC1.out _ (HZ.out.alloc _)).mono ?_
      rintro e w1 ⟨rfl, hb⟩
      have k0 : w1.cell? ⟨w.heap.size, 0, none⟩ = some (.slice az sn cz) := cell_later hb (by go_simp)
      have k1 : w1.cell? ⟨w.heap.size, 1, none⟩ = some (.slice ax tn cs) := cell_later hb (by go_simp)
      have k2 : w1.cell? ⟨w.heap.size, 2, none⟩ = some (.slice ar rn cr) := cell_later hb (by go_simp)
      have HB := Lib.hid (below_chain (by (repeat (first | exact Below.refl _ _ | assumption | refine below_alloc ?_ _ | refine below_drewN ?_ _ | refine below_set ?_ _ (by simp; try omega) | refine Below.drew ?_)) : Below w.heap.size w _) hb)
      clear hb
      go_wp2_with (fail)
      refine (HST.out _ HS.out (HZ.out.below HB.out) (HX.out.below HB.out)).mono ?_
      rintro e w2 ⟨rfl, hb⟩
      have HBB := Lib.hid (below_chain HB.out hb)
      clear hb
      go_wp2
      go_ret
      exact ⟨rfl, HBB.out⟩
    have e := HB2.out
    rw [Bool.true_and] at e
    have HB3 := Lib.hid e
    clear e HB2
    by_cases h4 : rn ≤ 200
    · have e := HB3.out
      rw [decide_eq_true h4, Bool.true_and] at e
      subst e
      clear HB3
      go_enter Try.func62, Try.ntmps62
      go_wp2_with (first
        | (go_at_call 65
           refine (c_within _ _ _ _).mono ?_
           rintro e w' ⟨rfl, rfl⟩)
        | (go_at_call 103
           refine (c_length _ _ _ _).mono ?_
           rintro e w' ⟨rfl, rfl⟩)
        )
      refine (HC1.out _ (HZ.out.alloc _)).mono ?_
      rintro e w1 ⟨rfl, hb⟩
      have k0 : w1.cell? ⟨w.heap.size, 0, none⟩ = some (.slice az sn cz) := cell_later hb (by go_simp)
      have k1 : w1.cell? ⟨w.heap.size, 1, none⟩ = some (.slice ax tn cs) := cell_later hb (by go_simp)
      have k2 : w1.cell? ⟨w.heap.size, 2, none⟩ = some (.slice ar rn cr) := cell_later hb (by go_simp)
      have HB := Lib.hid (below_chain (by (repeat (first | exact Below.refl _ _ | assumption | refine below_alloc ?_ _ | refine below_drewN ?_ _ | refine below_set ?_ _ (by simp; try omega) | refine Below.drew ?_)) : Below w.heap.size w _) hb)
      clear hb
      go_wp2_with (fail)
      refine (HST.out _ HS.out (HZ.out.below HB.out) (HX.out.below HB.out)).mono ?_
      rintro e w2 ⟨rfl, hb⟩
      have HBB := Lib.hid (below_chain HB.out hb)
      replace k0 := cell_later hb k0
      replace k1 := cell_later hb k1
      replace k2 := cell_later hb k2
      clear hb
      go_wp2_with (fail)
      have HK0 := Lib.hid k0
      have HK1 := Lib.hid k1
      have HK2 := Lib.hid k2
      refine (HC2.out _ _ (HR.out.below HBB.out) (Lib.hid fun wr t ag ae cg ce ht hb hg he => HCL.out HS.out wr _ t ht ag ae cg ce ((HZ.out.below HBB.out).below hb) hg he (cell_later hb HK0.out) (cell_later hb HK1.out) (cell_later hb HK2.out))).mono ?_
      rintro e w3 ⟨rfl, hb⟩
      have HB4 := Lib.hid (below_chain HBB.out hb)
      clear hb
      go_wp2
      go_ret
      exact ⟨ret_bool (by simp), HB4.out⟩
    · have e := HB3.out
      rw [decide_eq_false h4, Bool.false_and] at e
      subst e
      clear HB3
      go_enter Try.func62, Try.ntmps62
      go_wp2_with (first
        | (go_at_call 65
           refine (c_within _ _ _ _).mono ?_
           rintro e w' ⟨rfl, rfl⟩)
        | (go_at_call 103
           refine (c_length _ _ _ _).mono ?_
           rintro e w' ⟨rfl, rfl⟩)
        )
      refine (HC1.out _ (HZ.out.alloc _)).mono ?_
      rintro e w1 ⟨rfl, hb⟩
      have k0 : w1.cell? ⟨w.heap.size, 0, none⟩ = some (.slice az sn cz) := cell_later hb (by go_simp)
      have k1 : w1.cell? ⟨w.heap.size, 1, none⟩ = some (.slice ax tn cs) := cell_later hb (by go_simp)
      have k2 : w1.cell? ⟨w.heap.size, 2, none⟩ = some (.slice ar rn cr) := cell_later hb (by go_simp)
      have HB := Lib.hid (below_chain (by (repeat (first | exact Below.refl _ _ | assumption | refine below_alloc ?_ _ | refine below_drewN ?_ _ | refine below_set ?_ _ (by simp; try omega) | refine Below.drew ?_)) : Below w.heap.size w _) hb)
      clear hb
      go_wp2_with (fail)
      refine (HST.out _ HS.out (HZ.out.below HB.out) (HX.out.below HB.out)).mono ?_
      rintro e w2 ⟨rfl, hb⟩
      have HBB := Lib.hid (below_chain HB.out hb)
      replace k0 := cell_later hb k0
      replace k1 := cell_later hb k1
      replace k2 := cell_later hb k2
      clear hb
      go_wp2
      go_ret
      exact ⟨rfl, HBB.out⟩
  · have e := HB1.out
    rw [Bool.not_true, Bool.false_and] at e
    subst e
    clear HB1
    go_enter Try.func62, Try.ntmps62
    go_wp2_with (first
      | (go_at_call 65
         refine (c_within _ _ _ _).mono ?_
         rintro e w' ⟨rfl, rfl⟩)
      | (go_at_call 103
         refine (c_length _ _ _ _).mono ?_
         rintro e w' ⟨rfl, rfl⟩)
      )
    refine (HC1.out _ (HZ.out.alloc _)).mono ?_
    rintro e w1 ⟨rfl, hb⟩
    have HB := Lib.hid (below_chain (by (repeat (first | exact Below.refl _ _ | assumption | refine below_alloc ?_ _ | refine below_drewN ?_ _ | refine below_set ?_ _ (by simp; try omega) | refine Below.drew ?_)) : Below w.heap.size w _) hb)
    clear hb
    go_wp2
    go_ret
    exact ⟨rfl, HB.out⟩
end Go.Proofs.Ytaloheljfefdeaa

/- IsModel (reference). Condition: the lengths are those that the laws let by. -/
namespace Go.Proofs.Ytaloheljfefdeaa
open Go.RowKit

set_option maxHeartbeats 2000000 in
set_option maxRecDepth 100000 in
theorem c_sIsModel (m : Mdl) (az ax ar : Option Addr) (cz cs cr : Nat) (w : World) (hok : MOk m) (h : Md w az ax ar m) :
    Calls Try.prog 85 #[mv m az ax ar cz cs cr] w fun e w' => e = .returned (.bool (mdB m)) ∧ Below w.heap.size w w' := by
  have HST := Lib.hid (fun w' hs hz hv => c_l20State m az ax ar cz cs cr ax cs m.st w' hs hok.1.1 hok.1.2.1 hz hv)
  have HCL := Lib.hid (fun (hs : SzsOk m.sz) (wr : World) (r : Rul) (hr : r ∈ m.rs) (ag ae : Option Addr) (cg ce : Nat) h hg he => c_l20Rule m az ax ar cz cs cr r ag ae cg ce wr hs hok.1.1 (hok.1.2.2.2 r hr).1 (hok.1.2.2.2 r hr).2 (hok.2 r hr) h hg he)
  have HB0 := Lib.hid (show mdB m = (!(m.sz.any fun z => !inB z 1 32) && (inB m.sz.length 1 16 && (stB m.sz m.st && (decide (m.rs.length ≤ 200) && !(m.rs.any fun r => !rlB m.sz r))))) from rfl)
  have HZ := Lib.hid h.z
  have HX := Lib.hid h.s
  have HR := Lib.hid h.r
  have HSZ := Lib.hid (fun h => szB_ok (sz := m.sz) h)
  generalize mdB m = R at HB0 ⊢
  have hl1 := hok.1.1
  have hl2 := hok.1.2.1
  have hl3 := hok.1.2.2.1
  clear h hok
  obtain ⟨sz, st, rs⟩ := m
  dsimp only [mv] at *
  generalize hsn : sz.length = sn at *
  generalize st.length = tn at *
  generalize hrn : rs.length = rn at *
  have HSN := Lib.hid hsn
  have HRN := Lib.hid hrn
  generalize stB sz st = A3 at *
  clear hsn hrn
  go_enter Try.func85, Try.ntmps85
  go_wp2
  go_loop [3] (fun i => ∃ k : Nat, k ≤ sn ∧ i = .int .i64 k ∧ Hid ((sz.take k).any (fun z => !inB z 1 32) = false)) (fun i => sn - (intOf i).toNat)
  case atStart => exact ⟨0, Nat.zero_le _, rfl, Lib.hid rfl⟩
  case round =>
    obtain ⟨k, hk, rfl, ha⟩ := hrel
    by_cases hlt : k < sn
    · obtain ⟨z, hz⟩ : ∃ z, sz[k]? = some z := ⟨_, List.getElem?_eq_getElem (by have := HSN.out; omega)⟩
      obtain ⟨b, off, rfl, hb', g0⟩ := HZ.out.int hz
      have g1 : (w.alloc (Obj.cells #[.slice (some ⟨b, off, none⟩) sn cz, .slice ax tn cs, .slice ar rn cr] 27)).cell? ⟨b, off + k, none⟩ = some (.int .i64 z) := cell_later (below_alloc (Below.refl _ _) _) g0
      have HZZ := Lib.hid hz
      clear hz g0
      rcases hin : inB z 1 32 with _ | _
      · have HI := Lib.hid hin
        go_wp2_with (first
          | (go_at_call 92
             refine (c_l01In _ _ _ _).mono ?_
             rintro e w' ⟨rfl, rfl⟩)
          )
        go_ret
        refine ⟨ret_bool ?_, by (repeat (first | exact Below.refl _ _ | assumption | refine below_alloc ?_ _ | refine below_drewN ?_ _ | refine below_set ?_ _ (by simp; try omega) | refine Below.drew ?_))⟩
        rw [HB0.out, List.any_eq_true.2 ⟨z, List.mem_of_getElem? HZZ.out, by rw [HI.out]; rfl⟩]
        rfl
      · have HI := Lib.hid hin
        go_wp2_with (first
          | (go_at_call 92
             refine (c_l01In _ _ _ _).mono ?_
             rintro e w' ⟨rfl, rfl⟩)
          )
        go_round
        case rel => exact ⟨k + 1, by omega, by go_num, Lib.hid (any_take_snoc HZZ.out ha.out (by rw [HI.out]; rfl))⟩
        case measure => simp [intOf]; omega
    · obtain rfl : k = sn := by omega
      have hA := ha.out
      rw [List.take_of_length_le (by have := HSN.out; omega)] at hA
      have HS := Lib.hid (HSZ.out hA)
      have HB1 := Lib.hid (show R = (inB k 1 16 && (A3 && (decide (rn ≤ 200) && !(rs.any fun r => !rlB sz r)))) by rw [HB0.out, hA]; rfl)
      clear hA ha HSZ HB0
      rcases h1 : inB k 1 16 with _ | _
      · have e := HB1.out
        rw [h1, Bool.false_and] at e
        subst e
        clear HB1 HST HCL
        go_wp2_with (first
          | (go_at_call 92
             refine (c_l01In _ _ _ _).mono ?_
             rintro e w' ⟨rfl, rfl⟩)
          )
        go_ret
        exact ⟨rfl, by (repeat (first | exact Below.refl _ _ | assumption | refine below_alloc ?_ _ | refine below_drewN ?_ _ | refine below_set ?_ _ (by simp; try omega) | refine Below.drew ?_))⟩
      have e1 := HB1.out
      rw [h1, Bool.true_and] at e1
      have HB2 := Lib.hid e1
      clear HB1 e1
      rcases A3 with _ | _
      · have e := HB2.out
        rw [Bool.false_and] at e
        subst e
        go_wp2_with (first
          | (go_at_call 92
             refine (c_l01In _ _ _ _).mono ?_
             rintro e w' ⟨rfl, rfl⟩)
          | (go_at_call 113
             refine (HST.out _ HS.out (HZ.out.alloc _) (HX.out.alloc _)).mono ?_
             rintro e w1 ⟨rfl, hb⟩
             have HB := Lib.hid (below_chain (by (repeat (first | exact Below.refl _ _ | assumption | refine below_alloc ?_ _ | refine below_drewN ?_ _ | refine below_set ?_ _ (by simp; try omega) | refine Below.drew ?_)) : Below w.heap.size w _) hb)
             clear hb)
          )
        go_ret
        exact ⟨rfl, HB.out⟩
      have e := HB2.out
      rw [Bool.true_and] at e
      have HB3 := Lib.hid e
      clear e HB2
      by_cases h4 : rn ≤ 200
      · have e := HB3.out
        rw [decide_eq_true h4, Bool.true_and] at e
        have HB4 := Lib.hid e
        clear HB3 e
        go_wp2_with (first
          | (go_at_call 92
             refine (c_l01In _ _ _ _).mono ?_
             rintro e w' ⟨rfl, rfl⟩)
          | (go_at_call 113
             refine (HST.out _ HS.out (HZ.out.alloc _) (HX.out.alloc _)).mono ?_
             rintro e w1 ⟨rfl, hb⟩
             have HB := Lib.hid (below_chain (by (repeat (first | exact Below.refl _ _ | assumption | refine below_alloc ?_ _ | refine below_drewN ?_ _ | refine below_set ?_ _ (by simp; try omega) | refine Below.drew ?_)) : Below w.heap.size w _) hb)
             have k0 : w1.cell? ⟨w.heap.size, 0, none⟩ = some (.slice az k cz) := cell_later hb (by go_simp)
             have k1 : w1.cell? ⟨w.heap.size, 1, none⟩ = some (.slice ax tn cs) := cell_later hb (by go_simp)
             have k2 : w1.cell? ⟨w.heap.size, 2, none⟩ = some (.slice ar rn cr) := cell_later hb (by go_simp)
             clear hb)
          )
        clear h1
        go_loopw [4] (fun i wr => ∃ j : Nat, j ≤ rn ∧ i = .int .i64 j ∧ Hid ((rs.take j).any (fun r => !rlB sz r) = false) ∧ wr.cell? ⟨w.heap.size, 0, none⟩ = some (.slice az k cz) ∧ wr.cell? ⟨w.heap.size, 1, none⟩ = some (.slice ax tn cs) ∧ wr.cell? ⟨w.heap.size, 2, none⟩ = some (.slice ar rn cr) ∧ Below w.heap.size w wr) (fun i _ => rn - (intOf i).toNat)
        case atStart => exact ⟨0, Nat.zero_le _, rfl, Lib.hid rfl, k0, k1, k2, HB.out⟩
        case round =>
          clear k0 k1 k2 HB
          obtain ⟨j, hj, rfl, ha, k0, k1, k2, hb⟩ := hrel
          by_cases hlt2 : j < rn
          · obtain ⟨r, hz⟩ : ∃ z, rs[j]? = some z := ⟨_, List.getElem?_eq_getElem (by have := HRN.out; omega)⟩
            obtain ⟨b, off, ag, cg, ae, ce, rfl, _, g0, g1, g2, hg, he⟩ := (HR.out.below hb).at hz
            have HZZ := Lib.hid hz
            have HBE := Lib.hid hb
            have HC := Lib.hid (fun w' h hg he => HCL.out HS.out w' r (List.mem_of_getElem? hz) ag ae cg ce h hg he)
            have HGG := Lib.hid hg
            have HEE := Lib.hid he
            clear hz hb hg he
            have hj0 : (0 : Int) ≤ (j : Int) := by omega
            have hj1 : (j : Int) < (rn : Int) := by omega
            generalize r.gs.length = gn at *
            generalize r.es.length = en at *
            rcases hin : rlB sz r with _ | _
            · rw [hin] at HC
              have HI := Lib.hid hin
              clear hin
              go_wp2
              refine wp_region_held_drew (S := (fun w' => w'.cell? ⟨w.heap.size, 0, none⟩ = some (.slice az k cz) ∧ w'.cell? ⟨w.heap.size, 1, none⟩ = some (.slice ax tn cs) ∧ w'.cell? ⟨w.heap.size, 2, none⟩ = some (.slice (some ⟨b, off, none⟩) rn cr) ∧ w'.cell? ⟨b, off + j * 3, none⟩ = some (.string r.nm) ∧ w'.cell? ⟨b, off + j * 3 + 1, none⟩ = some (.slice ag gn cg) ∧ w'.cell? ⟨b, off + j * 3 + 2, none⟩ = some (.slice ae en ce))) (by kernel_rfl) ?_ (fun hHeld => ?_)
              · exact ⟨k0, k1, k2, g0, g1, g2⟩
              refine rg_take (v := ?_) 0 rfl (by kernel_rfl) (by kernel_rfl) (by kernel_rfl) (fun _ _ _ h => h) (by kernel_rfl) ?_ (by assumption) ?_
              rotate_left
              · (intro w' hSw; (try dsimp only at hSw); go_simp; first | done | with_reducible rfl)
              simp only [Act.put, List.setIfInBounds_toArray, List.set_cons_zero, List.set_cons_succ]
              refine rg_take (v := ?_) 1 rfl (by kernel_rfl) (by kernel_rfl) (by kernel_rfl) (fun _ _ _ h => h) (by kernel_rfl) ?_ (by assumption) ?_
              rotate_left
              · (intro w' hSw; (try dsimp only at hSw); go_simp; first | done | with_reducible rfl)
              simp only [Act.put, List.setIfInBounds_toArray, List.set_cons_zero, List.set_cons_succ]
              refine rg_take (v := ?_) 2 rfl (by kernel_rfl) (by kernel_rfl) (by kernel_rfl) (fun _ _ _ h => h) (by kernel_rfl) ?_ (by assumption) ?_
              rotate_left
              · (intro w' hSw; (try dsimp only at hSw); go_simp; first | done | with_reducible rfl)
              simp only [Act.put, List.setIfInBounds_toArray, List.set_cons_zero, List.set_cons_succ]
              refine rg_take (v := ?_) 3 rfl (by kernel_rfl) (by kernel_rfl) (by kernel_rfl) (fun _ _ _ h => h) (by kernel_rfl) ?_ (by assumption) ?_
              rotate_left
              · (intro w' hSw; (try dsimp only at hSw); go_simp; first | done | with_reducible rfl)
              simp only [Act.put, List.setIfInBounds_toArray, List.set_cons_zero, List.set_cons_succ]
              refine rg_take (v := ?_) 4 rfl (by kernel_rfl) (by kernel_rfl) (by kernel_rfl) (fun _ _ _ h => h) (by kernel_rfl) ?_ (by assumption) ?_
              rotate_left
              · (intro w' hSw; (try dsimp only at hSw); go_simp; first | done | with_reducible rfl)
              simp only [Act.put, List.setIfInBounds_toArray, List.set_cons_zero, List.set_cons_succ]
              refine rg_take (v := ?_) 5 rfl (by kernel_rfl) (by kernel_rfl) (by kernel_rfl) (fun _ _ _ h => h) (by kernel_rfl) ?_ (by assumption) ?_
              rotate_left
              · (intro w' hSw; (try dsimp only at hSw); go_simp; first | done | with_reducible rfl)
              simp only [Act.put, List.setIfInBounds_toArray, List.set_cons_zero, List.set_cons_succ]
              refine rg_run 6 rfl (by kernel_rfl) (by kernel_rfl) (fun K hK => ?_)
              go_simp
              refine (HC.out _ (HZ.out.below (by exact HBE.out.drew)) HGG.out.drew HEE.out.drew).mono ?_
              rintro e w2 ⟨rfl, hb⟩
              have HB2 := Lib.hid (below_chain (by exact HBE.out.drew) hb)
              replace k0 := cell_later hb (by exact k0)
              replace k1 := cell_later hb (by exact k1)
              replace k2 := cell_later hb (by exact k2)
              replace g0 := cell_later hb (by exact g0)
              replace g1 := cell_later hb (by exact g1)
              replace g2 := cell_later hb (by exact g2)
              clear hb
              go_wp2
              clear hHeld
              refine hK.out _ _ ⟨k0, k1, k2, g0, g1, g2⟩ (fun hHeld => ?_)
              clear hK K
              try simp only [Act.put, List.setIfInBounds_toArray, List.set_cons_zero, List.set_cons_succ]
              refine rg_take (v := ?_) 7 rfl (by kernel_rfl) (by kernel_rfl) (by kernel_rfl) (fun _ _ _ h => h) (by kernel_rfl) ?_ (by assumption) ?_
              rotate_left
              · (intro w' hSw; (try dsimp only at hSw); go_simp; first | done | with_reducible rfl)
              simp only [Act.put, List.setIfInBounds_toArray, List.set_cons_zero, List.set_cons_succ]
              refine wpAnyH_done (by kernel_rfl) ?_ _
              clear hHeld
              go_wp2
              go_ret
              refine ⟨ret_bool ?_, HB2.out⟩
              rw [HB4.out, List.any_eq_true.2 ⟨r, List.mem_of_getElem? HZZ.out, by rw [HI.out]; rfl⟩]
              rfl
            · rw [hin] at HC
              have HI := Lib.hid hin
              clear hin
              go_wp2
              refine wp_region_held_drew (S := (fun w' => w'.cell? ⟨w.heap.size, 0, none⟩ = some (.slice az k cz) ∧ w'.cell? ⟨w.heap.size, 1, none⟩ = some (.slice ax tn cs) ∧ w'.cell? ⟨w.heap.size, 2, none⟩ = some (.slice (some ⟨b, off, none⟩) rn cr) ∧ w'.cell? ⟨b, off + j * 3, none⟩ = some (.string r.nm) ∧ w'.cell? ⟨b, off + j * 3 + 1, none⟩ = some (.slice ag gn cg) ∧ w'.cell? ⟨b, off + j * 3 + 2, none⟩ = some (.slice ae en ce))) (by kernel_rfl) ?_ (fun hHeld => ?_)
              · exact ⟨k0, k1, k2, g0, g1, g2⟩
              refine rg_take (v := ?_) 0 rfl (by kernel_rfl) (by kernel_rfl) (by kernel_rfl) (fun _ _ _ h => h) (by kernel_rfl) ?_ (by assumption) ?_
              rotate_left
              · (intro w' hSw; (try dsimp only at hSw); go_simp; first | done | with_reducible rfl)
              simp only [Act.put, List.setIfInBounds_toArray, List.set_cons_zero, List.set_cons_succ]
              refine rg_take (v := ?_) 1 rfl (by kernel_rfl) (by kernel_rfl) (by kernel_rfl) (fun _ _ _ h => h) (by kernel_rfl) ?_ (by assumption) ?_
              rotate_left
              · (intro w' hSw; (try dsimp only at hSw); go_simp; first | done | with_reducible rfl)
              simp only [Act.put, List.setIfInBounds_toArray, List.set_cons_zero, List.set_cons_succ]
              refine rg_take (v := ?_) 2 rfl (by kernel_rfl) (by kernel_rfl) (by kernel_rfl) (fun _ _ _ h => h) (by kernel_rfl) ?_ (by assumption) ?_
              rotate_left
              · (intro w' hSw; (try dsimp only at hSw); go_simp; first | done | with_reducible rfl)
              simp only [Act.put, List.setIfInBounds_toArray, List.set_cons_zero, List.set_cons_succ]
              refine rg_take (v := ?_) 3 rfl (by kernel_rfl) (by kernel_rfl) (by kernel_rfl) (fun _ _ _ h => h) (by kernel_rfl) ?_ (by assumption) ?_
              rotate_left
              · (intro w' hSw; (try dsimp only at hSw); go_simp; first | done | with_reducible rfl)
              simp only [Act.put, List.setIfInBounds_toArray, List.set_cons_zero, List.set_cons_succ]
              refine rg_take (v := ?_) 4 rfl (by kernel_rfl) (by kernel_rfl) (by kernel_rfl) (fun _ _ _ h => h) (by kernel_rfl) ?_ (by assumption) ?_
              rotate_left
              · (intro w' hSw; (try dsimp only at hSw); go_simp; first | done | with_reducible rfl)
              simp only [Act.put, List.setIfInBounds_toArray, List.set_cons_zero, List.set_cons_succ]
              refine rg_take (v := ?_) 5 rfl (by kernel_rfl) (by kernel_rfl) (by kernel_rfl) (fun _ _ _ h => h) (by kernel_rfl) ?_ (by assumption) ?_
              rotate_left
              · (intro w' hSw; (try dsimp only at hSw); go_simp; first | done | with_reducible rfl)
              simp only [Act.put, List.setIfInBounds_toArray, List.set_cons_zero, List.set_cons_succ]
              refine rg_run 6 rfl (by kernel_rfl) (by kernel_rfl) (fun K hK => ?_)
              go_simp
              refine (HC.out _ (HZ.out.below (by exact HBE.out.drew)) HGG.out.drew HEE.out.drew).mono ?_
              rintro e w2 ⟨rfl, hb⟩
              have HB2 := Lib.hid (below_chain (by exact HBE.out.drew) hb)
              replace k0 := cell_later hb (by exact k0)
              replace k1 := cell_later hb (by exact k1)
              replace k2 := cell_later hb (by exact k2)
              replace g0 := cell_later hb (by exact g0)
              replace g1 := cell_later hb (by exact g1)
              replace g2 := cell_later hb (by exact g2)
              clear hb
              go_wp2
              clear hHeld
              refine hK.out _ _ ⟨k0, k1, k2, g0, g1, g2⟩ (fun hHeld => ?_)
              clear hK K
              try simp only [Act.put, List.setIfInBounds_toArray, List.set_cons_zero, List.set_cons_succ]
              refine rg_take (v := ?_) 7 rfl (by kernel_rfl) (by kernel_rfl) (by kernel_rfl) (fun _ _ _ h => h) (by kernel_rfl) ?_ (by assumption) ?_
              rotate_left
              · (intro w' hSw; (try dsimp only at hSw); go_simp; first | done | with_reducible rfl)
              simp only [Act.put, List.setIfInBounds_toArray, List.set_cons_zero, List.set_cons_succ]
              refine wpAnyH_done (by kernel_rfl) ?_ _
              clear hHeld
              go_wp2
              go_roundw
              case rel => exact ⟨j + 1, by omega, by go_num, Lib.hid (any_take_snoc HZZ.out ha.out (by rw [HI.out]; rfl)), k0, k1, k2, HB2.out⟩
              case measure => simp [intOf]; omega
          · obtain rfl : j = rn := by omega
            have hA := ha.out
            rw [List.take_of_length_le (by have := HRN.out; omega)] at hA
            have HRR := Lib.hid (show R = true by rw [HB4.out, hA]; rfl)
            clear hA ha
            go_wp2
            go_ret
            exact ⟨ret_bool HRR.out.symm, hb⟩
      · have e := HB3.out
        rw [decide_eq_false h4, Bool.false_and] at e
        subst e
        clear HB3
        go_wp2_with (first
          | (go_at_call 92
             refine (c_l01In _ _ _ _).mono ?_
             rintro e w' ⟨rfl, rfl⟩)
          | (go_at_call 113
             refine (HST.out _ HS.out (HZ.out.alloc _) (HX.out.alloc _)).mono ?_
             rintro e w1 ⟨rfl, hb⟩
             have HB := Lib.hid (below_chain (by (repeat (first | exact Below.refl _ _ | assumption | refine below_alloc ?_ _ | refine below_drewN ?_ _ | refine below_set ?_ _ (by simp; try omega) | refine Below.drew ?_)) : Below w.heap.size w _) hb)
             have k2 : w1.cell? ⟨w.heap.size, 2, none⟩ = some (.slice ar rn cr) := cell_later hb (by go_simp)
             clear hb)
          )
        go_ret
        exact ⟨rfl, HB.out⟩
end Go.Proofs.Ytaloheljfefdeaa
