/- Contracts and helpers (joined texts, part 5). The conditions stand at each theorem. -/
import Derived.Test.YtaloheljfefdeaaH4
import Derived.Test.YtaloheljfefdeaaH0
import Derived.Test.YtaloheljfefdeaaH1
/- The state to which a rule leads: apply (program), l20Apply (reference). Condition: the effect's variables lie within the state. -/
namespace Go.Proofs.Ytaloheljfefdeaa
open Go.RowKit

def ap1 (vs : List Int) (a : Asg) : List Int := vs.set a.v.toNat a.x
def apL (vs : List Int) (es : List Asg) : List Int := es.foldl ap1 vs
theorem apL_snoc {vs : List Int} {es : List Asg} {k : Nat} {a : Asg} (h : es[k]? = some a) : apL vs (es.take (k + 1)) = (apL vs (es.take k)).set a.v.toNat a.x := by
  unfold apL
  rw [List.take_add_one, h, List.foldl_append]
  rfl
theorem apL_len : ∀ (es : List Asg) (vs : List Int), (apL vs es).length = vs.length
  | [], _ => rfl
  | a :: es, vs => by
    have := apL_len es (ap1 vs a)
    unfold apL at this ⊢
    rw [List.foldl_cons, this]
    simp [ap1]
/-- The effect's variables lie within the state. -/
def EsIn (n : Nat) (es : List Asg) : Prop := ∀ a ∈ es, 0 ≤ a.v ∧ a.v < n
theorem es_in {sz : List Int} {es : List Asg} (h : esK sz es es.length = true) : EsIn sz.length es := by
  intro a ha
  obtain ⟨k, hk, rfl⟩ := List.getElem_of_mem ha
  unfold esK at h
  rw [List.all_eq_true] at h
  have := h k (List.mem_range.2 hk)
  unfold esS at this
  rw [getDA (List.getElem?_eq_getElem hk)] at this
  simp [hasB, inB] at this
  omega
theorem ints_set (l : List Int) (j : Nat) (x : Int) : (ints l).set j (.int .i64 x) = ints (l.set j x) := by simp [ints, List.map_set]
/-- A list of the call's own of length n, in one block. -/
def RetI3 (n : Nat) (zs : List Int) (w : World) (e : Ending) (w' : World) : Prop :=
  ∃ g c, e = .returned (.slice (some ⟨g, 0, none⟩) n c) ∧ w'.ownsRow w.heap.size 2 1 (.slice (some ⟨g, 0, none⟩) n c) n (ints zs) ∧ Below w.heap.size w w'
set_option maxHeartbeats 1000000 in
set_option maxRecDepth 100000 in
theorem c_apply (nm : ByteArray) (ag ae : Option Addr) (gn cg en ce : Nat) (es : List Asg) (b off c vn : Nat) (vs : List Int) (w : World) (hvn : vn = vs.length) (hvl : vn ≤ 1048576) (hen : en = es.length) (hel : en ≤ 1048576) (hin : EsIn vn es) (hv : Rd w (some ⟨b, off, none⟩) (ints vs)) (he : Rd w ae (asgCells es)) :
    Calls Try.prog 68 #[.agg #[.string nm, .slice ag gn cg, .slice ae en ce], .slice (some ⟨b, off, none⟩) vn c] w (RetI3 vn (apL vs es) w) := by
  have HIN := Lib.hid hin
  have HE := Lib.hid he
  have HEN := Lib.hid hen
  have HVN := Lib.hid hvn
  have HCL := Lib.hid (fun w' h => c_Clone b off c vn vs w' hvn (by omega) h)
  have HV := Lib.hid hv
  clear hin he hen hvn hv
  go_enter Try.func68, Try.ntmps68
  go_wp2_with (fail)
  refine (HCL.out _ (HV.out.alloc _)).mono ?_
  rintro e w1 ⟨g, c', rfl, ho, hb⟩
  have k2 : w1.cell? ⟨w.heap.size, 2, none⟩ = some (.slice ae en ce) := cell_later hb (by go_simp)
  have HO0 := Lib.hid (own_mono ho (show w.heap.size + 1 ≤ _ by simp))
  have HB0 := Lib.hid (below_chain (by (repeat (first | exact Below.refl _ _ | assumption | refine below_alloc ?_ _ | refine below_drewN ?_ _ | refine below_set ?_ _ (by simp; try omega) | refine Below.drew ?_)) : Below w.heap.size w _) hb)
  have hg0 : w.heap.size + 1 ≤ g := by have := (ho.lt g rfl).1; simp at this; omega
  clear ho hb
  go_wp2
  clear k2
  go_loopw [13] (fun i wr => ∃ k : Nat, k ≤ en ∧ i = .int .i64 k ∧ Hid (wr.ownsRow (w.heap.size + 1) 2 1 (.slice (some ⟨g, 0, none⟩) vn c') vn (ints (apL vs (es.take k)))) ∧ Below w.heap.size w wr) (fun i _ => en - (intOf i).toNat)
  case atStart => exact ⟨0, Nat.zero_le _, rfl, HO0, HB0.out⟩
  case round =>
    clear HO0 HB0
    obtain ⟨k, hk, rfl, ho, hb⟩ := hrel
    by_cases hlt : k < en
    · obtain ⟨a, hz⟩ : ∃ z, es[k]? = some z := ⟨_, List.getElem?_eq_getElem (by have := HEN.out; omega)⟩
      obtain ⟨b2, off2, rfl, _, g0, g1⟩ := (HE.out.below hb).asg hz
      have hai := HIN.out a (List.mem_of_getElem? hz)
      have HS := Lib.hid (apL_snoc (vs := vs) hz)
      obtain ⟨av, ax⟩ := a
      dsimp only at *
      obtain ⟨j, rfl⟩ : ∃ j : Nat, av = j := ⟨av.toNat, by omega⟩
      have hj : j < vn := by omega
      have hj0 : (0 : Int) ≤ (j : Int) := by omega
      have hj1 : (j : Int) < (vn : Int) := by omega
      have HB := Lib.hid hb
      have ho1 := own_below ho.out (below_alloc (Below.refl wr.heap.size wr) (Obj.cells #[Value.int .i64 (j : Int), Value.int .i64 ax] 104))
      have f0 := ho1.frozenAt j
      obtain ⟨o0, e0⟩ := own_cell ho1 (j := j) (by omega)
      have hst := (ho1.stored j (.int .i64 ax)).1
      rw [ints_set] at hst
      have HST := Lib.hid hst
      clear hz hai hb ho ho1 hst
      go_wp2
      go_roundw
      case rel => exact ⟨k + 1, by omega, by go_num, Lib.hid (by rw [HS.out, Int.toNat_natCast]; exact HST.out), below_set (below_alloc HB.out _) _ (by dsimp only; omega)⟩
      case measure => simp [intOf]; omega
    · obtain rfl : k = en := by omega
      have hA := ho.out
      rw [List.take_of_length_le (by have := HEN.out; omega)] at hA
      have HA := Lib.hid hA
      have HB := Lib.hid hb
      clear hA ho hb
      go_wp2
      go_ret
      exact ⟨g, c', rfl, own_mono HA.out (by omega), HB.out⟩
set_option maxHeartbeats 1000000 in
set_option maxRecDepth 100000 in
theorem c_l20Apply (m : Mdl) (az ax ar : Option Addr) (cz cs cr : Nat) (k0 : Nat) (r : Rul) (b off c vn : Nat) (vs : List Int) (w : World) (hr : m.rs[k0]? = some r) (_hrl : m.rs.length ≤ 1048576) (hvn : vn = vs.length) (hvl : vn ≤ 1048576) (hel : r.es.length ≤ 1048576) (hin : EsIn vn r.es) (hv : Rd w (some ⟨b, off, none⟩) (ints vs)) (h : Rl w ar m.rs) :
    Calls Try.prog 77 #[mv m az ax ar cz cs cr, .slice (some ⟨b, off, none⟩) vn c, .int .i64 k0] w (RetI3 vn (apL vs r.es) w) := by
  have hk0 : k0 < m.rs.length := (List.getElem?_eq_some_iff.1 hr).1
  obtain ⟨bb, ob, ag, cg, ae, ce, rfl, hbb, g0, g1, g2, _, he⟩ := h.at hr
  have HIN := Lib.hid hin
  have HE := Lib.hid he
  have HVN := Lib.hid hvn
  have HCL := Lib.hid (fun w' h => c_l01Own b off c vn vs w' hvn (by omega) h)
  have HV := Lib.hid hv
  have HEN := Lib.hid (rfl : r.es.length = r.es.length)
  clear hin he hvn hv h hr
  dsimp only [mv] at *
  generalize m.sz.length = sn at *
  generalize m.st.length = tn at *
  generalize m.rs.length = rn at *
  generalize r.gs.length = gn at *
  generalize hen : r.es.length = en at *
  replace HEN := Lib.hid hen
  clear hen
  generalize r.es = es at *
  generalize r.nm = nm at *
  have hi0 : (0 : Int) ≤ (k0 : Int) := by omega
  have hi1 : (k0 : Int) < (rn : Int) := by omega
  go_enter Try.func77, Try.ntmps77
  go_wp2_with (fail)
  refine (HCL.out _ (HV.out.alloc _)).mono ?_
  rintro e w1 ⟨g, c', rfl, ho, hb⟩
  have k2 : w1.cell? ⟨w.heap.size, 2, none⟩ = some (.slice (some ⟨bb, ob, none⟩) rn cr) := cell_later hb (by go_simp)
  have HO0 := Lib.hid (own_mono ho (show w.heap.size + 1 ≤ _ by simp))
  have hst : Below w.heap.size w w1 := below_chain (by (repeat (first | exact Below.refl _ _ | assumption | refine below_alloc ?_ _ | refine below_drewN ?_ _ | refine below_set ?_ _ (by simp; try omega) | refine Below.drew ?_)) : Below w.heap.size w _) hb
  have HB0 := Lib.hid hst
  replace g2 := cell_later hst g2
  have hg0 : w.heap.size + 1 ≤ g := by have := (ho.lt g rfl).1; simp at this; omega
  clear ho hb hst g0 g1
  go_wp2
  clear k2 g2
  go_loopw [9] (fun i wr => ∃ k : Nat, k ≤ en ∧ i = .int .i64 k ∧ Hid (wr.ownsRow (w.heap.size + 1) 2 1 (.slice (some ⟨g, 0, none⟩) vn c') vn (ints (apL vs (es.take k)))) ∧ Below w.heap.size w wr) (fun i _ => en - (intOf i).toNat)
  case atStart => exact ⟨0, Nat.zero_le _, rfl, HO0, HB0.out⟩
  case round =>
    clear HO0 HB0
    obtain ⟨k, hk, rfl, ho, hb⟩ := hrel
    by_cases hlt : k < en
    · obtain ⟨a, hz⟩ : ∃ z, es[k]? = some z := ⟨_, List.getElem?_eq_getElem (by have := HEN.out; omega)⟩
      obtain ⟨b2, off2, hA2, hlt2, _, _⟩ := HE.out.asg hz
      obtain ⟨b3, off3, hA3, _, g0, g1⟩ := (HE.out.below hb).asg hz
      rw [hA2] at hA3
      simp only [Option.some.injEq, Addr.mk.injEq, and_true] at hA3
      obtain ⟨rfl, rfl⟩ := hA3
      subst hA2
      have hai := HIN.out a (List.mem_of_getElem? hz)
      have HS := Lib.hid (apL_snoc (vs := vs) hz)
      obtain ⟨av, ax⟩ := a
      dsimp only at *
      obtain ⟨j, rfl⟩ : ∃ j : Nat, av = j := ⟨av.toNat, by omega⟩
      have hj : j < vn := by omega
      have hj0 : (0 : Int) ≤ (j : Int) := by omega
      have hj1 : (j : Int) < (vn : Int) := by omega
      have hq0 : (0 : Int) ≤ (k : Int) := by omega
      have hq1 : (k : Int) < (en : Int) := by omega
      have HB := Lib.hid hb
      have f0 := ho.out.frozenAt j
      obtain ⟨o0, e0⟩ := own_cell ho.out (j := j) (by omega)
      have hst := (ho.out.stored j (.int .i64 ax)).1
      rw [ints_set] at hst
      have HST := Lib.hid hst
      clear hz hai hb ho hst
      go_wp2
      refine wp_region_held_drew (S := (fun w' => w'.cell? ⟨b2, off2 + k * 2, none⟩ = some (.int .i64 j) ∧ w'.cell? ⟨b2, off2 + k * 2 + 1, none⟩ = some (.int .i64 ax))) (by kernel_rfl) ?_ (fun hHeld => ?_)
      · exact ⟨g0, g1⟩
      refine rg_take (v := ?_) 0 rfl (by kernel_rfl) (by kernel_rfl) (by kernel_rfl) (fun _ _ _ h => h) (by kernel_rfl) ?_ (by assumption) ?_
      rotate_left
      · (intro w' hSw; (try dsimp only at hSw); go_simp; first | done | with_reducible rfl)
      simp only [Act.put, List.setIfInBounds_toArray, List.set_cons_zero, List.set_cons_succ]
      refine rg_take (v := ?_) 1 rfl (by kernel_rfl) (by kernel_rfl) (by kernel_rfl) (fun _ _ _ h => h) (by kernel_rfl) ?_ (by assumption) ?_
      rotate_left
      · (intro w' hSw; (try dsimp only at hSw); go_simp; first | done | with_reducible rfl)
      simp only [Act.put, List.setIfInBounds_toArray, List.set_cons_zero, List.set_cons_succ]
      refine rg_take (v := ?_) 2 rfl (by kernel_rfl) (by kernel_rfl) (by kernel_rfl) (fun _ _ _ h => h) (by kernel_rfl) ?_ (by assumption) ?_
      rotate_left
      · (intro w' hSw; (try dsimp only at hSw); go_simp; first | done | with_reducible rfl)
      simp only [Act.put, List.setIfInBounds_toArray, List.set_cons_zero, List.set_cons_succ]
      refine rg_take (v := ?_) 3 rfl (by kernel_rfl) (by kernel_rfl) (by kernel_rfl) (fun _ _ _ h => h) (by kernel_rfl) ?_ (by assumption) ?_
      rotate_left
      · (intro w' hSw; (try dsimp only at hSw); go_simp; first | done | with_reducible rfl)
      simp only [Act.put, List.setIfInBounds_toArray, List.set_cons_zero, List.set_cons_succ]
      refine rg_take (v := ?_) 4 rfl (by kernel_rfl) (by kernel_rfl) (by kernel_rfl) (fun _ _ _ h => h) (by kernel_rfl) ?_ (by assumption) ?_
      rotate_left
      · (intro w' hSw; (try dsimp only at hSw); go_simp; first | done | with_reducible rfl)
      simp only [Act.put, List.setIfInBounds_toArray, List.set_cons_zero, List.set_cons_succ]
      refine rg_take (v := ?_) 5 rfl (by kernel_rfl) (by kernel_rfl) (by kernel_rfl) (fun _ _ _ h => h) (by kernel_rfl) ?_ (by assumption) ?_
      rotate_left
      · (intro w' hSw; (try dsimp only at hSw); go_simp; first | done | with_reducible rfl)
      simp only [Act.put, List.setIfInBounds_toArray, List.set_cons_zero, List.set_cons_succ]
      refine rg_take (v := ?_) 6 rfl (by kernel_rfl) (by kernel_rfl) (by kernel_rfl) (fun _ _ _ h => h) (by kernel_rfl) ?_ (by assumption) ?_
      rotate_left
      · (intro w' hSw; (try dsimp only at hSw); go_simp; first | done | with_reducible rfl)
      simp only [Act.put, List.setIfInBounds_toArray, List.set_cons_zero, List.set_cons_succ]
      refine rg_take (v := ?_) 7 rfl (by kernel_rfl) (by kernel_rfl) (by kernel_rfl) (fun _ _ _ h => h) (by kernel_rfl) ?_ (by assumption) ?_
      rotate_left
      · (intro w' hSw; (try dsimp only at hSw); go_simp; first | done | with_reducible rfl)
      simp only [Act.put, List.setIfInBounds_toArray, List.set_cons_zero, List.set_cons_succ]
      refine rg_take (v := ?_) 8 rfl (by kernel_rfl) (by kernel_rfl) (by kernel_rfl) (fun _ _ _ h => h) (by kernel_rfl) ?_ (by assumption) ?_
      rotate_left
      · (intro w' hSw; (try dsimp only at hSw); go_simp; first | done | with_reducible rfl)
      simp only [Act.put, List.setIfInBounds_toArray, List.set_cons_zero, List.set_cons_succ]
      refine rg_take (v := ?_) 9 rfl (by kernel_rfl) (by kernel_rfl) (by kernel_rfl) (fun _ _ _ h => h) (by kernel_rfl) ?_ (by assumption) ?_
      rotate_left
      · (intro w' hSw; (try dsimp only at hSw); go_simp; first | done | with_reducible rfl)
      simp only [Act.put, List.setIfInBounds_toArray, List.set_cons_zero, List.set_cons_succ]
      refine rg_take (v := ?_) 10 rfl (by kernel_rfl) (by kernel_rfl) (by kernel_rfl) (fun _ _ _ h => h) (by kernel_rfl) ?_ (by assumption) ?_
      rotate_left
      · (intro w' hSw; (try dsimp only at hSw); go_simp; first | done | with_reducible rfl)
      simp only [Act.put, List.setIfInBounds_toArray, List.set_cons_zero, List.set_cons_succ]
      refine rg_take (v := ?_) 11 rfl (by kernel_rfl) (by kernel_rfl) (by kernel_rfl) (fun _ _ _ h => h) (by kernel_rfl) ?_ (by assumption) ?_
      rotate_left
      · (intro w' hSw; (try dsimp only at hSw); go_simp; first | done | with_reducible rfl)
      simp only [Act.put, List.setIfInBounds_toArray, List.set_cons_zero, List.set_cons_succ]
      refine rg_run 12 rfl (by kernel_rfl) (by kernel_rfl) (fun K hK => ?_)
      go_simp
      clear hHeld
      refine hK.out _ _ ⟨(World.cell?_setCell_far _ ⟨g, j, none⟩ ⟨b2, off2 + k * 2, none⟩ _ (by dsimp only; omega)).trans (by exact g0), (World.cell?_setCell_far _ ⟨g, j, none⟩ ⟨b2, off2 + k * 2 + 1, none⟩ _ (by dsimp only; omega)).trans (by exact g1)⟩ (fun hHeld => ?_)
      clear hK K
      try simp only [Act.put, List.setIfInBounds_toArray, List.set_cons_zero, List.set_cons_succ]
      refine wpAnyH_done (by kernel_rfl) ?_ _
      clear hHeld
      go_wp2
      go_roundw
      case rel => exact ⟨k + 1, by omega, by go_num, Lib.hid (by rw [HS.out, Int.toNat_natCast]; exact HST.out), below_set HB.out.drew _ (by dsimp only; omega)⟩
      case measure => simp [intOf]; omega
    · obtain rfl : k = en := by omega
      have hA := ho.out
      rw [List.take_of_length_le (by have := HEN.out; omega)] at hA
      have HA := Lib.hid hA
      have HB := Lib.hid hb
      clear hA ho hb
      go_wp2
      go_ret
      exact ⟨g, c', rfl, own_mono HA.out (by omega), HB.out⟩
end Go.Proofs.Ytaloheljfefdeaa

/- EnabledRules, on both sides. Condition: the lengths are those that the laws let by. -/
namespace Go.Proofs.Ytaloheljfefdeaa
open Go.RowKit

/-- What is handed back: a list of the call's own, and a code. -/
def RetIC (n : Nat) (zs : List Int) (c : Int) (w : World) (e : Ending) (w' : World) : Prop :=
  ∃ A cap, e = .returned (.tuple #[.slice A n cap, .int .i64 c]) ∧ w'.ownsRow w.heap.size 2 1 (.slice A n cap) n (ints zs) ∧ Below w.heap.size w w'
def erL (m : Mdl) (vs : List Int) : List Int := if mdB m && stB m.sz vs then enL vs m.rs else []
theorem retIC_nil {n : Nat} {zs : List Int} {c : Int} {w w' : World} (h : zs = []) (hn : n = zs.length) (hb : Below w.heap.size w w') : RetIC n zs c w (.returned (.tuple #[.slice none 0 0, .int .i64 c])) w' := by
  subst h
  subst hn
  exact ⟨none, 0, rfl, World.ownsRow_nil _ _ _ _, hb⟩
set_option maxHeartbeats 1000000 in
set_option maxRecDepth 100000 in
theorem c_EnabledRules (m : Mdl) (az ax ar : Option Addr) (cz cs cr : Nat) (A : Option Addr) (c : Nat) (vs : List Int) (w : World) (hok : MOk m) (hl : vs.length ≤ 1048576) (h : Md w az ax ar m) (hv : Rd w A (ints vs)) :
    Calls Try.prog 22 #[mv m az ax ar cz cs cr, .slice A vs.length c] w (RetIC (erL m vs).length (erL m vs) (stC m vs) w) := by
  have HC := Lib.hid (fun w' h hv => c_stateCode m az ax ar cz cs cr A c vs w' hok hl h hv)
  have HEN := Lib.hid (fun hgs w' h hv => c_enabled m az ax ar cz cs cr A c vs w' hok.1.2.2.1 hl hgs h hv)
  have HG := Lib.hid (fun h1 h2 => gs_of (m := m) (vs := vs) h1 h2 hok)
  have HSC := Lib.hid (show stC m vs = if mdB m then (if stB m.sz vs then 0 else 2) else 1 from rfl)
  have HER := Lib.hid (show erL m vs = if mdB m && stB m.sz vs then enL vs m.rs else [] from rfl)
  have HM := Lib.hid h
  have HV := Lib.hid hv
  generalize stC m vs = C at *
  generalize erL m vs = L at *
  generalize enL vs m.rs = L0 at *
  clear h hv hok
  rcases h1 : (mdB m && stB m.sz vs) with _ | _
  · have hC0 : C = 1 ∨ C = 2 := by
      have := HSC.out
      rcases hm : mdB m with _ | _
      · rw [hm] at this; left; simpa using this
      · rw [hm] at h1 this
        rw [Bool.true_and] at h1
        rw [h1] at this
        right; simpa using this
    have hL : L = [] := by have := HER.out; rw [h1] at this; simpa using this
    have HL := Lib.hid hL
    clear hL HEN HG HSC HER h1
    dsimp only [mv] at *
    generalize m.sz.length = sn at *
    generalize m.st.length = tn at *
    generalize m.rs.length = rn at *
    generalize vs.length = vn at *
    rcases hC0 with rfl | rfl
    all_goals
      go_enter Try.func22, Try.ntmps22
      go_wp2_with (fail)
      refine (HC.out _ (HM.out.alloc _) (HV.out.alloc _)).mono ?_
      rintro e w1 ⟨rfl, hb⟩
      have HB := Lib.hid (below_chain (by (repeat (first | exact Below.refl _ _ | assumption | refine below_alloc ?_ _ | refine below_drewN ?_ _ | refine below_set ?_ _ (by simp; try omega) | refine Below.drew ?_)) : Below w.heap.size w _) hb)
      clear hb
      go_wp2
      go_ret2
      exact retIC_nil HL.out rfl HB.out
  · have h2 := h1
    rw [Bool.and_eq_true] at h2
    have e := HSC.out
    rw [h2.1, h2.2] at e
    simp only [if_true] at e
    have e2 := HER.out
    rw [h1] at e2
    simp only [if_true] at e2
    have HGS := Lib.hid (HG.out h2.1 h2.2)
    have HEN2 := Lib.hid (fun w' h hv => HEN.out HGS.out w' h hv)
    subst e e2
    clear h1 h2 HSC HER HEN HG HGS
    dsimp only [mv] at *
    generalize m.sz.length = sn at *
    generalize m.st.length = tn at *
    generalize m.rs.length = rn at *
    generalize vs.length = vn at *
    go_enter Try.func22, Try.ntmps22
    go_wp2_with (fail)
    refine (HC.out _ (HM.out.alloc _) (HV.out.alloc _)).mono ?_
    rintro e w1 ⟨rfl, hb⟩
    have k0 : w1.cell? ⟨w.heap.size, 0, none⟩ = some (.slice az sn cz) := cell_later hb (by go_simp)
    have k1 : w1.cell? ⟨w.heap.size, 1, none⟩ = some (.slice ax tn cs) := cell_later hb (by go_simp)
    have k2 : w1.cell? ⟨w.heap.size, 2, none⟩ = some (.slice ar rn cr) := cell_later hb (by go_simp)
    have HB := Lib.hid (below_chain (by (repeat (first | exact Below.refl _ _ | assumption | refine below_alloc ?_ _ | refine below_drewN ?_ _ | refine below_set ?_ _ (by simp; try omega) | refine Below.drew ?_)) : Below w.heap.size w _) hb)
    clear hb
    go_wp2_with (fail)
    refine (HEN2.out _ (HM.out.below HB.out) (HV.out.below HB.out)).mono ?_
    rintro e w2 ⟨A1, c1, rfl, ho, hb⟩
    have HO := Lib.hid (own_mono ho (HB.out.size))
    have HB2 := Lib.hid (below_chain HB.out hb)
    clear ho hb
    go_wp2
    go_ret2
    exact ⟨A1, c1, rfl, HO.out, HB2.out⟩
set_option maxHeartbeats 1000000 in
set_option maxRecDepth 100000 in
theorem c_sEnabledRules (m : Mdl) (az ax ar : Option Addr) (cz cs cr : Nat) (A : Option Addr) (c : Nat) (vs : List Int) (w : World) (hok : MOk m) (hl : vs.length ≤ 1048576) (h : Md w az ax ar m) (hv : Rd w A (ints vs)) :
    Calls Try.prog 23 #[mv m az ax ar cz cs cr, .slice A vs.length c] w (RetIC (erL m vs).length (erL m vs) (stC m vs) w) := by
  have HC := Lib.hid (fun w' h hv => c_l20Code m az ax ar cz cs cr A c vs w' hok hl h hv)
  have HEN := Lib.hid (fun hgs w' h hv => c_l20Enabled m az ax ar cz cs cr A c vs w' hok.1.2.2.1 hl hgs h hv)
  have HG := Lib.hid (fun h1 h2 => gs_of (m := m) (vs := vs) h1 h2 hok)
  have HSC := Lib.hid (show stC m vs = if mdB m then (if stB m.sz vs then 0 else 2) else 1 from rfl)
  have HER := Lib.hid (show erL m vs = if mdB m && stB m.sz vs then enL vs m.rs else [] from rfl)
  have HM := Lib.hid h
  have HV := Lib.hid hv
  generalize stC m vs = C at *
  generalize erL m vs = L at *
  generalize enL vs m.rs = L0 at *
  clear h hv hok
  rcases h1 : (mdB m && stB m.sz vs) with _ | _
  · have hC0 : C = 1 ∨ C = 2 := by
      have := HSC.out
      rcases hm : mdB m with _ | _
      · rw [hm] at this; left; simpa using this
      · rw [hm] at h1 this
        rw [Bool.true_and] at h1
        rw [h1] at this
        right; simpa using this
    have hL : L = [] := by have := HER.out; rw [h1] at this; simpa using this
    have HL := Lib.hid hL
    clear hL HEN HG HSC HER h1
    dsimp only [mv] at *
    generalize m.sz.length = sn at *
    generalize m.st.length = tn at *
    generalize m.rs.length = rn at *
    generalize vs.length = vn at *
    rcases hC0 with rfl | rfl
    all_goals
      go_enter Try.func23, Try.ntmps23
      go_wp2_with (fail)
      refine (HC.out _ (HM.out.alloc _) (HV.out.alloc _)).mono ?_
      rintro e w1 ⟨rfl, hb⟩
      have HB := Lib.hid (below_chain (by (repeat (first | exact Below.refl _ _ | assumption | refine below_alloc ?_ _ | refine below_drewN ?_ _ | refine below_set ?_ _ (by simp; try omega) | refine Below.drew ?_)) : Below w.heap.size w _) hb)
      clear hb
      go_wp2
      go_ret2
      exact retIC_nil HL.out rfl HB.out
  · have h2 := h1
    rw [Bool.and_eq_true] at h2
    have e := HSC.out
    rw [h2.1, h2.2] at e
    simp only [if_true] at e
    have e2 := HER.out
    rw [h1] at e2
    simp only [if_true] at e2
    have HGS := Lib.hid (HG.out h2.1 h2.2)
    have HEN2 := Lib.hid (fun w' h hv => HEN.out HGS.out w' h hv)
    subst e e2
    clear h1 h2 HSC HER HEN HG HGS
    dsimp only [mv] at *
    generalize m.sz.length = sn at *
    generalize m.st.length = tn at *
    generalize m.rs.length = rn at *
    generalize vs.length = vn at *
    go_enter Try.func23, Try.ntmps23
    go_wp2_with (fail)
    refine (HC.out _ (HM.out.alloc _) (HV.out.alloc _)).mono ?_
    rintro e w1 ⟨rfl, hb⟩
    have k0 : w1.cell? ⟨w.heap.size, 0, none⟩ = some (.slice az sn cz) := cell_later hb (by go_simp)
    have k1 : w1.cell? ⟨w.heap.size, 1, none⟩ = some (.slice ax tn cs) := cell_later hb (by go_simp)
    have k2 : w1.cell? ⟨w.heap.size, 2, none⟩ = some (.slice ar rn cr) := cell_later hb (by go_simp)
    have HB := Lib.hid (below_chain (by (repeat (first | exact Below.refl _ _ | assumption | refine below_alloc ?_ _ | refine below_drewN ?_ _ | refine below_set ?_ _ (by simp; try omega) | refine Below.drew ?_)) : Below w.heap.size w _) hb)
    clear hb
    go_wp2_with (fail)
    refine (HEN2.out _ (HM.out.below HB.out) (HV.out.below HB.out)).mono ?_
    rintro e w2 ⟨A1, c1, rfl, ho, hb⟩
    have HO := Lib.hid (own_mono ho (HB.out.size))
    have HB2 := Lib.hid (below_chain HB.out hb)
    clear ho hb
    go_wp2
    go_ret2
    exact ⟨A1, c1, rfl, HO.out, HB2.out⟩
end Go.Proofs.Ytaloheljfefdeaa

/- ApplyRule, on both sides. Condition: the lengths are those that the laws let by. -/
namespace Go.Proofs.Ytaloheljfefdeaa
open Go.RowKit

theorem c_lengthR (A : Option Addr) (c n : Nat) (w : World) : Calls Try.prog 66 #[.slice A n c] w fun e w' => e = .returned (.int .i64 n) ∧ w = w' := by
  go_enter Try.func66, Try.ntmps66
  go_wp2
  go_ret
  exact ⟨rfl, rfl⟩
def arR (m : Mdl) (y : Int) : Rul := m.rs.getD y.toNat rul0
def arC (m : Mdl) (vs : List Int) (y : Int) : Int := if mdB m && stB m.sz vs then (if inB y 0 (m.rs.length - 1) then (if hlB vs (arR m y).gs then 0 else 5) else 4) else stC m vs
def arL (m : Mdl) (vs : List Int) (y : Int) : List Int := if mdB m && stB m.sz vs then (if inB y 0 (m.rs.length - 1) then (if hlB vs (arR m y).gs then apL vs (arR m y).es else []) else []) else []
theorem rl_of {m : Mdl} {r : Rul} (h : mdB m = true) (hr : r ∈ m.rs) : rlB m.sz r = true := by
  unfold mdB rsB at h
  simp only [Bool.and_eq_true, Bool.not_eq_true', List.any_eq_false] at h
  have h3 := h.2.2.2.2 r hr
  simpa using h3
theorem es_of {m : Mdl} {r : Rul} {vs : List Int} (h : mdB m = true) (h2 : stB m.sz vs = true) (hr : r ∈ m.rs) : EsIn vs.length r.es := by
  have h4 := rl_of h hr
  unfold rlB at h4
  simp only [Bool.and_eq_true] at h4
  rw [st_len h2]
  exact es_in h4.1
theorem vs_pos {m : Mdl} {vs : List Int} (h : mdB m = true) (h2 : stB m.sz vs = true) : 1 ≤ vs.length ∧ vs.length ≤ 16 := by
  rw [st_len h2]
  unfold mdB at h
  simp only [Bool.and_eq_true] at h
  have := h.2.1
  simp [inB] at this
  omega
set_option maxHeartbeats 2000000 in
set_option maxRecDepth 100000 in
theorem c_ApplyRule (m : Mdl) (az ax ar : Option Addr) (cz cs cr : Nat) (A : Option Addr) (c : Nat) (vs : List Int) (y : Int) (w : World) (hok : MOk m) (hl : vs.length ≤ 1048576) (h : Md w az ax ar m) (hv : Rd w A (ints vs)) :
    Calls Try.prog 30 #[mv m az ax ar cz cs cr, .slice A vs.length c, .int .i64 y] w (RetIC (arL m vs y).length (arL m vs y) (arC m vs y) w) := by
  have HC := Lib.hid (fun w' h hv => c_stateCode m az ax ar cz cs cr A c vs w' hok hl h hv)
  have HM := Lib.hid h
  have HV := Lib.hid hv
  have hrl := hok.1.2.2.1
  have hw : IntKind.i64.wrap ((m.rs.length : Int) - 1) = m.rs.length - 1 := IntWalk.i64_in _ (by omega)
  rcases h1 : (mdB m && stB m.sz vs) with _ | _
  · have hC0 : stC m vs = 1 ∨ stC m vs = 2 := by
      unfold stC
      rcases hm : mdB m with _ | _
      · left; rfl
      · rw [hm, Bool.true_and] at h1
        rw [h1]
        right; rfl
    have e1 : arC m vs y = stC m vs := by unfold arC; rw [h1]; rfl
    have e2 : arL m vs y = [] := by unfold arL; rw [h1]; rfl
    rw [e1, e2]
    clear e1 e2 h1 h hv hok
    generalize stC m vs = C at *
    dsimp only [mv] at *
    generalize m.sz.length = sn at *
    generalize m.st.length = tn at *
    generalize m.rs.length = rn at *
    generalize vs.length = vn at *
    rcases hC0 with rfl | rfl
    all_goals
      go_enter Try.func30, Try.ntmps30
      go_wp2_with (fail)
      refine (HC.out _ (HM.out.alloc _) (HV.out.alloc _)).mono ?_
      rintro e w1 ⟨rfl, hb⟩
      have HB := Lib.hid (below_chain (by (repeat (first | exact Below.refl _ _ | assumption | refine below_alloc ?_ _ | refine below_drewN ?_ _ | refine below_set ?_ _ (by simp; try omega) | refine Below.drew ?_)) : Below w.heap.size w _) hb)
      clear hb
      go_wp2
      go_ret2
      exact retIC_nil rfl rfl HB.out
  have h2 := h1
  rw [Bool.and_eq_true] at h2
  have e0 : stC m vs = 0 := by unfold stC; rw [h2.1, h2.2]; rfl
  rw [e0] at HC
  have HGS := Lib.hid (gs_of h2.1 h2.2 hok)
  have HMD := Lib.hid h2
  have HVP := Lib.hid (vs_pos h2.1 h2.2)
  rcases hin : inB y 0 (m.rs.length - 1) with _ | _
  · have e1 : arC m vs y = 4 := by unfold arC; rw [h1, hin]; rfl
    have e2 : arL m vs y = [] := by unfold arL; rw [h1, hin]; rfl
    rw [e1, e2]
    clear e1 e2 h1 h2 h hv hok HGS HVP HMD
    dsimp only [mv] at *
    generalize m.sz.length = sn at *
    generalize m.st.length = tn at *
    generalize m.rs.length = rn at *
    generalize vs.length = vn at *
    go_enter Try.func30, Try.ntmps30
    go_wp2_with (fail)
    refine (HC.out _ (HM.out.alloc _) (HV.out.alloc _)).mono ?_
    rintro e w1 ⟨rfl, hb⟩
    have k2 : w1.cell? ⟨w.heap.size, 2, none⟩ = some (.slice ar rn cr) := cell_later hb (by go_simp)
    have HB := Lib.hid (below_chain (by (repeat (first | exact Below.refl _ _ | assumption | refine below_alloc ?_ _ | refine below_drewN ?_ _ | refine below_set ?_ _ (by simp; try omega) | refine Below.drew ?_)) : Below w.heap.size w _) hb)
    clear hb
    go_wp2_with (first
      | (go_at_call 66
         refine (c_lengthR _ _ _ _).mono ?_
         rintro e w' ⟨rfl, rfl⟩)
      | (go_at_call 65
         refine (c_within _ _ _ _).mono ?_
         rintro e w' ⟨rfl, rfl⟩)
      )
    go_ret2
    exact retIC_nil rfl rfl HB.out
  have hyy : 0 ≤ y ∧ y < m.rs.length := by simp [inB] at hin; omega
  obtain ⟨k, rfl⟩ : ∃ k : Nat, y = k := ⟨y.toNat, by omega⟩
  have hk : k < m.rs.length := by omega
  obtain ⟨r, hz⟩ : ∃ z, m.rs[k]? = some z := ⟨_, List.getElem?_eq_getElem hk⟩
  have har : arR m k = r := by unfold arR; rw [Int.toNat_natCast]; exact getDR hz
  have hmem := List.mem_of_getElem? hz
  have HES := Lib.hid (es_of h2.1 h2.2 hmem)
  have HTS := Lib.hid (HGS.out r hmem)
  have hel := (hok.1.2.2.2 r hmem).2
  have hgl := (hok.1.2.2.2 r hmem).1
  have HZ := Lib.hid hz
  have hi0 : (0 : Int) ≤ (k : Int) := by omega
  have hi1 : (k : Int) < (m.rs.length : Int) := by omega
  have hHL := Lib.hid (fun ag cg w' hv hg => c_holds A c vs ag cg r.gs w' hl hgl HTS.out.1 hv hg)
  have e1 : arC m vs k = if hlB vs r.gs then 0 else 5 := by unfold arC; rw [h1, hin, har]; rfl
  have e2 : arL m vs k = if hlB vs r.gs then apL vs r.es else [] := by unfold arL; rw [h1, hin, har]; rfl
  rw [e1, e2]
  clear e1 e2 h1 h2 hv hok har hmem hz hyy HGS
  rcases hh : hlB vs r.gs with _ | _
  · rw [hh] at hHL
    rw [if_neg (by simp), if_neg (by simp)]
    obtain ⟨bb, ob, ag, cg, ae, ce, har, hbb, _, g1, _, hg, _⟩ := h.r.at HZ.out
    have HG := Lib.hid hg
    subst har
    clear h hg hh HZ HES HTS HVP HMD
    dsimp only [mv] at *
    generalize m.sz.length = sn at *
    generalize m.st.length = tn at *
    generalize m.rs.length = rn at *
    generalize vs.length = vn at *
    generalize r.gs.length = gn at *
    go_enter Try.func30, Try.ntmps30
    go_wp2_with (fail)
    refine (HC.out _ (HM.out.alloc _) (HV.out.alloc _)).mono ?_
    rintro e w1 ⟨rfl, hb⟩
    have k2 : w1.cell? ⟨w.heap.size, 2, none⟩ = some (.slice (some ⟨bb, ob, none⟩) rn cr) := cell_later hb (by go_simp)
    have hst : Below w.heap.size w w1 := below_chain (by (repeat (first | exact Below.refl _ _ | assumption | refine below_alloc ?_ _ | refine below_drewN ?_ _ | refine below_set ?_ _ (by simp; try omega) | refine Below.drew ?_)) : Below w.heap.size w _) hb
    replace g1 := cell_later hst g1
    have HB := Lib.hid hst
    clear hb hst
    go_wp2_with (first
      | (go_at_call 66
         refine (c_lengthR _ _ _ _).mono ?_
         rintro e w' ⟨rfl, rfl⟩)
      | (go_at_call 65
         refine (c_within _ _ _ _).mono ?_
         rintro e w' ⟨rfl, rfl⟩)
      )
    refine (hHL.out _ _ _ (HV.out.below HB.out) (HG.out.below HB.out)).mono ?_
    rintro e w2 ⟨rfl, hb⟩
    have HB2 := Lib.hid (below_chain HB.out hb)
    clear hb
    go_wp2
    go_ret2
    exact retIC_nil rfl rfl HB2.out
  · rw [hh] at hHL
    rw [if_pos rfl, if_pos rfl]
    obtain ⟨bb, ob, ag, cg, ae, ce, har, hbb, g0, g1, g2, hg, he⟩ := h.r.at HZ.out
    have HG := Lib.hid hg
    have HE := Lib.hid he
    obtain ⟨b, off, rfl, _, _⟩ := HV.out.some_ (by intro e; have := HVP.out.1; have h5 := ints_length vs; rw [e] at h5; simp at h5; omega)
    have HAP := Lib.hid (fun nm gn w' hv he => c_apply nm ag ae gn cg r.es.length ce r.es b off c vs.length vs w' rfl hl rfl hel HES.out hv he)
    have HAL := Lib.hid (apL_len r.es vs)
    subst har
    clear h hg he hh HZ HES HTS HVP HMD
    rw [HAL.out]
    dsimp only [mv] at *
    generalize m.sz.length = sn at *
    generalize m.st.length = tn at *
    generalize m.rs.length = rn at *
    generalize vs.length = vn at *
    generalize r.gs.length = gn at *
    generalize r.es.length = en at *
    go_enter Try.func30, Try.ntmps30
    go_wp2_with (fail)
    refine (HC.out _ (HM.out.alloc _) (HV.out.alloc _)).mono ?_
    rintro e w1 ⟨rfl, hb⟩
    have k2 : w1.cell? ⟨w.heap.size, 2, none⟩ = some (.slice (some ⟨bb, ob, none⟩) rn cr) := cell_later hb (by go_simp)
    have hst : Below w.heap.size w w1 := below_chain (by (repeat (first | exact Below.refl _ _ | assumption | refine below_alloc ?_ _ | refine below_drewN ?_ _ | refine below_set ?_ _ (by simp; try omega) | refine Below.drew ?_)) : Below w.heap.size w _) hb
    replace g0 := cell_later hst g0
    replace g1 := cell_later hst g1
    replace g2 := cell_later hst g2
    have HB := Lib.hid hst
    clear hb hst
    go_wp2_with (first
      | (go_at_call 66
         refine (c_lengthR _ _ _ _).mono ?_
         rintro e w' ⟨rfl, rfl⟩)
      | (go_at_call 65
         refine (c_within _ _ _ _).mono ?_
         rintro e w' ⟨rfl, rfl⟩)
      )
    refine (hHL.out _ _ _ (HV.out.below HB.out) (HG.out.below HB.out)).mono ?_
    rintro e w2 ⟨rfl, hb⟩
    have HB2 := Lib.hid (below_chain HB.out hb)
    replace k2 := cell_later hb k2
    replace g0 := cell_later hb g0
    replace g1 := cell_later hb g1
    replace g2 := cell_later hb g2
    clear hb
    go_wp2_with (fail)
    refine (HAP.out _ _ _ (HV.out.below HB2.out) (HE.out.below HB2.out)).mono ?_
    rintro e w3 ⟨g, c', rfl, ho, hb⟩
    have HO := Lib.hid (own_mono ho HB2.out.size)
    have HB3 := Lib.hid (below_chain HB2.out hb)
    clear ho hb
    go_wp2
    go_ret2
    exact ⟨_, c', rfl, HO.out, HB3.out⟩
end Go.Proofs.Ytaloheljfefdeaa

/- FollowTrace (program). Condition: the lengths are those that the laws let by. -/
namespace Go.Proofs.Ytaloheljfefdeaa
open Go.RowKit

def trS (m : Mdl) (tr : List Int) : Nat → List Int
  | 0 => m.st
  | k + 1 => apL (trS m tr k) (arR m (tr.getD k 0)).es
def trOK (m : Mdl) (tr : List Int) (k : Nat) : Bool := (List.range k).all fun j => hlB (trS m tr j) (arR m (tr.getD j 0)).gs
def trL (m : Mdl) (tr : List Int) (k : Nat) : List (List Int) := (List.range (k + 1)).map (trS m tr)
theorem trL_succ (m : Mdl) (tr : List Int) (k : Nat) : trL m tr (k + 1) = trL m tr k ++ [trS m tr (k + 1)] := by
  unfold trL
  rw [List.range_succ, List.map_append]
  rfl
theorem trL_len (m : Mdl) (tr : List Int) (k : Nat) : (trL m tr k).length = k + 1 := by simp [trL]
theorem trL_at (m : Mdl) (tr : List Int) (k j : Nat) (h : j ≤ k) : (trL m tr k)[j]? = some (trS m tr j) := by
  unfold trL
  rw [List.getElem?_map, List.getElem?_range (by omega)]
  rfl
theorem trS_len (m : Mdl) (tr : List Int) : ∀ k, (trS m tr k).length = m.st.length
  | 0 => rfl
  | k + 1 => by rw [trS, apL_len, trS_len m tr k]
theorem trOK_succ (m : Mdl) (tr : List Int) (k : Nat) : trOK m tr (k + 1) = (trOK m tr k && hlB (trS m tr k) (arR m (tr.getD k 0)).gs) := by simp [trOK, List.range_succ]
theorem trOK_bad {m : Mdl} {tr : List Int} {k n : Nat} (h : hlB (trS m tr k) (arR m (tr.getD k 0)).gs = false) (hk : k < n) : trOK m tr n = false := by
  unfold trOK
  rw [List.all_eq_false]
  exact ⟨k, List.mem_range.2 hk, by show ¬ hlB (trS m tr k) (arR m (tr.getD k 0)).gs = true; rw [h]; simp⟩
def trBad (m : Mdl) (tr : List Int) : Bool := tr.any fun y => !inB y 0 (m.rs.length - 1)
def ftC (m : Mdl) (tr : List Int) : Int := if mdB m then (if 4000 < tr.length then 3 else if trBad m tr then 4 else if trOK m tr tr.length then 0 else 5) else 1
def ftL (m : Mdl) (tr : List Int) : List (List Int) := if mdB m then (if 4000 < tr.length then [] else if trBad m tr then [] else if trOK m tr tr.length then trL m tr tr.length else []) else []
/-- What FollowTrace hands back: lists of the call's own, and a code. -/
def RetSC (n : Nat) (L : List (List Int)) (c : Int) (w : World) (e : Ending) (w' : World) : Prop :=
  ∃ A cap, e = .returned (.tuple #[.slice A n cap, .int .i64 c]) ∧ OwnS w' w.heap.size w'.heap.size (.slice A n cap) L ∧ Below w.heap.size w w'
theorem ownS_nil (w : World) (base hi : Nat) : OwnS w base hi (.slice none 0 0) [] := ⟨[], rfl, World.ownsRow_nil _ _ _ _, by simp, List.Pairwise.nil⟩
theorem retSC_nil {n : Nat} {L : List (List Int)} {c : Int} {w w' : World} (h : L = []) (hn : n = L.length) (hb : Below w.heap.size w w') : RetSC n L c w (.returned (.tuple #[.slice none 0 0, .int .i64 c])) w' := by
  subst h
  subst hn
  exact ⟨none, 0, rfl, ownS_nil _ _ _, hb⟩
set_option maxRecDepth 100000 in
theorem c_FollowTrace1 (p : Nat) (ar : Option Addr) (rn cr : Nat) (y : Int) (w : World) (hrn : rn ≤ 1048576) (k2 : w.cell? ⟨p, 2, none⟩ = some (.slice ar rn cr)) :
    Calls Try.prog 64 #[.int .i64 y, .pointer (some ⟨p, 0, none⟩)] w fun e w' => e = .returned (.bool (!inB y 0 (rn - 1))) ∧ Below w.heap.size w w' := by
  have hw : IntKind.i64.wrap ((rn : Int) - 1) = rn - 1 := IntWalk.i64_in _ (by omega)
  go_enter Try.func64, Try.ntmps64
  go_wp2_with (first
    | (go_at_call 66
       refine (c_lengthR _ _ _ _).mono ?_
       rintro e w' ⟨rfl, rfl⟩)
    | (go_at_call 65
       refine (c_within _ _ _ _).mono ?_
       rintro e w' ⟨rfl, rfl⟩)
    )
  go_ret
  exact ⟨rfl, Below.refl _ _⟩
end Go.Proofs.Ytaloheljfefdeaa

/- FollowTrace (program): the walk. Condition: the lengths are those that the laws let by. -/
namespace Go.Proofs.Ytaloheljfefdeaa
open Go.RowKit

theorem OwnS.form1 {w : World} {base hi : Nat} {v : Value} {L : List (List Int)} (h : OwnS w base hi v L) (hn : 0 < L.length) : ∃ g c, v = .slice (some ⟨g, 0, none⟩) L.length c := by
  obtain ⟨ds, _, h1, _⟩ := h
  rcases h1.2 with ⟨e, e2⟩ | ⟨g, cap, cur, e, _⟩
  · omega
  · exact ⟨g, cap, e⟩
theorem ownS_one {w : World} {base hi g c n : Nat} {l : List Int} (h : w.ownsRow base 2 1 (.slice (some ⟨g, 0, none⟩) n c) n (ints l)) (hn : n = l.length) (hb : base ≤ w.heap.size) (hh : g < hi) : OwnS (w.alloc (.cells #[.slice (some ⟨g, 0, none⟩) n c] 24)) base hi (.slice (some ⟨w.heap.size, 0, none⟩) 1 1) [l] := by
  subst hn
  refine ⟨[⟨l, some ⟨g, 0, none⟩, c⟩], rfl, ?_, fun d hd => ?_, List.pairwise_singleton _ _⟩
  · exact World.ownsRow_lit (e := 24) (size := 1) (base := base) w #[.slice (some ⟨g, 0, none⟩) l.length c] 1 hb (by decide) (by simp)
  · simp only [List.mem_singleton] at hd
    subst hd
    exact ⟨own_below h (below_alloc (Below.refl _ _) _), fun q hq => by simp [IvD.v, Value.ownBlock] at hq; omega⟩
theorem st_of {m : Mdl} (h : mdB m = true) : stB m.sz m.st = true := by
  unfold mdB at h
  simp only [Bool.and_eq_true] at h
  exact h.2.2.1
theorem bad_not {m : Mdl} {tr : List Int} {k : Nat} {y : Int} (h : trBad m tr = false) (hk : tr[k]? = some y) : 0 ≤ y ∧ y < m.rs.length := by
  unfold trBad at h
  rw [List.any_eq_false] at h
  have := h y (List.mem_of_getElem? hk)
  simp [inB] at this
  omega
set_option maxHeartbeats 2000000 in
set_option maxRecDepth 100000 in
theorem c_FollowTrace (m : Mdl) (az ax ar : Option Addr) (cz cs cr : Nat) (A : Option Addr) (c : Nat) (tr : List Int) (w : World) (hok : MOk m) (hl : tr.length ≤ 1048576) (h : Md w az ax ar m) (hv : Rd w A (ints tr)) :
    Calls Try.prog 17 #[mv m az ax ar cz cs cr, .slice A tr.length c] w (RetSC (ftL m tr).length (ftL m tr) (ftC m tr) w) := by
  have hmf : ∀ (fn : Fn) (first cap : Array Value) (w : World), (Instr.makeFunc fn first cap).run Try.prog w = .ok (.func fn first cap) w := fun _ _ _ _ => rfl
  have HI := Lib.hid (fun w' h => c_IsModel m az ax ar cz cs cr w' hok h)
  have HM := Lib.hid h
  have HV := Lib.hid hv
  have hrl := hok.1.2.2.1
  have HCC := Lib.hid (fun (w' : World) (x : Value) hv hc => c_ContainsInt1 64 x (fun y => !inB y 0 (m.rs.length - 1)) A c tr w' hl hv hc (enter_of Try.func64 (by kernel_rfl) rfl))
  have HBD := Lib.hid (show trBad m tr = tr.any (fun y => !inB y 0 (m.rs.length - 1)) from rfl)
  rcases hmd : mdB m with _ | _
  · rw [hmd] at HI
    have e1 : ftC m tr = 1 := by unfold ftC; rw [hmd]; rfl
    have e2 : ftL m tr = [] := by unfold ftL; rw [hmd]; rfl
    rw [e1, e2]
    clear e1 e2 h hv hok hmd HBD HCC
    dsimp only [mv] at *
    generalize m.sz.length = sn at *
    generalize m.st.length = tn at *
    generalize m.rs.length = rn at *
    generalize tr.length = ln at *
    go_enter Try.func17, Try.ntmps17
    go_wp2_with (fail)
    refine (HI.out _ (HM.out.alloc _)).mono ?_
    rintro e w1 ⟨rfl, hb⟩
    have HB := Lib.hid (below_chain (by (repeat (first | exact Below.refl _ _ | assumption | refine below_alloc ?_ _ | refine below_drewN ?_ _ | refine below_set ?_ _ (by simp; try omega) | refine Below.drew ?_)) : Below w.heap.size w _) hb)
    clear hb
    go_wp2
    go_ret2
    exact retSC_nil rfl rfl HB.out
  rw [hmd] at HI
  rcases Nat.lt_or_ge 4000 tr.length with h4 | h4
  · have e1 : ftC m tr = 3 := by unfold ftC; rw [hmd, if_pos rfl, if_pos h4]
    have e2 : ftL m tr = [] := by unfold ftL; rw [hmd, if_pos rfl, if_pos h4]
    rw [e1, e2]
    clear e1 e2 h hv hok hmd HBD HCC
    dsimp only [mv] at *
    generalize m.sz.length = sn at *
    generalize m.st.length = tn at *
    generalize m.rs.length = rn at *
    generalize tr.length = ln at *
    go_enter Try.func17, Try.ntmps17
    go_wp2_with (fail)
    refine (HI.out _ (HM.out.alloc _)).mono ?_
    rintro e w1 ⟨rfl, hb⟩
    have HB := Lib.hid (below_chain (by (repeat (first | exact Below.refl _ _ | assumption | refine below_alloc ?_ _ | refine below_drewN ?_ _ | refine below_set ?_ _ (by simp; try omega) | refine Below.drew ?_)) : Below w.heap.size w _) hb)
    clear hb
    go_wp2
    go_ret2
    exact retSC_nil rfl rfl HB.out
  have h4' : ¬ 4000 < tr.length := by omega
  rcases hbd : trBad m tr with _ | _
  rotate_left
  · have e1 : ftC m tr = 4 := by unfold ftC; rw [hmd, if_pos rfl, if_neg h4', hbd, if_pos rfl]
    have e2 : ftL m tr = [] := by unfold ftL; rw [hmd, if_pos rfl, if_neg h4', hbd, if_pos rfl]
    rw [e1, e2]
    have HBE := Lib.hid (HBD.out.symm.trans hbd)
    clear e1 e2 h hv hok hmd HBD h4' hbd
    dsimp only [mv] at *
    generalize m.sz.length = sn at *
    generalize m.st.length = tn at *
    generalize m.rs.length = rn at *
    generalize tr.length = ln at *
    go_enter Try.func17, Try.ntmps17
    go_wp2_with (fail)
    refine (HI.out _ (HM.out.alloc _)).mono ?_
    rintro e w1 ⟨rfl, hb⟩
    have k2 : w1.cell? ⟨w.heap.size, 2, none⟩ = some (.slice ar rn cr) := cell_later hb (by go_simp)
    have HB := Lib.hid (below_chain (by (repeat (first | exact Below.refl _ _ | assumption | refine below_alloc ?_ _ | refine below_drewN ?_ _ | refine below_set ?_ _ (by simp; try omega) | refine Below.drew ?_)) : Below w.heap.size w _) hb)
    clear hb
    have HK2 := Lib.hid k2
    go_wp2_with (fail)
    refine (HCC.out _ _ (HV.out.below HB.out) (Lib.hid fun wr y _ hb => c_FollowTrace1 _ ar rn cr y wr hrl (cell_later hb HK2.out))).mono ?_
    rintro e w2 ⟨rfl, hb⟩
    have HB2 := Lib.hid (below_chain HB.out hb)
    clear hb
    rw [HBE.out]
    go_wp2
    go_ret2
    exact retSC_nil rfl rfl HB2.out
  have HBE := Lib.hid (HBD.out.symm.trans hbd)
  have e1 : ftC m tr = if trOK m tr tr.length then 0 else 5 := by unfold ftC; rw [hmd, if_pos rfl, if_neg h4', hbd, if_neg (by simp)]
  have e2 : ftL m tr = if trOK m tr tr.length then trL m tr tr.length else [] := by unfold ftL; rw [hmd, if_pos rfl, if_neg h4', hbd, if_neg (by simp)]
  rw [e1, e2]
  have hst := st_of hmd
  have HVP := vs_pos hmd hst
  have HHL := Lib.hid (fun (k : Nat) (r : Rul) (hr : r ∈ m.rs) a c ag cg w' hv hg => show Calls Try.prog 51 #[.slice a m.st.length c, .slice ag r.gs.length cg] w' _ by
    have := c_holds a c (trS m tr k) ag cg r.gs w' (by rw [trS_len]; exact hok.1.2.1) ((gs_of hmd hst hok) r hr).2 (by rw [trS_len]; exact ((gs_of hmd hst hok) r hr).1) hv hg
    rw [trS_len] at this
    exact this)
  have HAP := Lib.hid (fun (k : Nat) (r : Rul) (hr : r ∈ m.rs) nm ag ae gn cg ce b off c w' hv he => c_apply nm ag ae gn cg r.es.length ce r.es b off c m.st.length (trS m tr k) w' (trS_len m tr k).symm hok.1.2.1 rfl (hok.1.2.2.2 r hr).2 (es_of hmd hst hr) hv he)
  have HYB := Lib.hid (fun (k : Nat) (y : Int) (hk : tr[k]? = some y) => bad_not hbd hk)
  have HAR := Lib.hid (fun (k kk : Nat) (r : Rul) (hk : tr[k]? = some (kk : Int)) (hr : m.rs[kk]? = some r) => show arR m (tr.getD k 0) = r by rw [getD_of hk]; unfold arR; rw [Int.toNat_natCast]; exact getDR hr)
  have HSL := Lib.hid (fun k => trS_len m tr k)
  obtain ⟨bs, os, has, _, _⟩ := HM.out.s.some_ (by intro e; have h5 := ints_length m.st; rw [e] at h5; simp at h5; omega)
  subst has
  have HCLN := Lib.hid (fun w' h => c_Clone bs os cs m.st.length m.st w' rfl (by omega) h)
  have HLN := Lib.hid (rfl : tr.length = tr.length)
  have HRC := Lib.hid (rfl : (if trOK m tr tr.length = true then (0 : Int) else 5) = if trOK m tr tr.length = true then (0 : Int) else 5)
  have HRL := Lib.hid (rfl : (if trOK m tr tr.length = true then trL m tr tr.length else []) = if trOK m tr tr.length = true then trL m tr tr.length else [])
  generalize hC : (if trOK m tr tr.length = true then (0 : Int) else 5) = C at HRC
  generalize hL : (if trOK m tr tr.length = true then trL m tr tr.length else []) = L at HRL
  replace HRC := Lib.hid hC
  replace HRL := Lib.hid hL
  clear hC hL e1 e2 h hv hok hmd HBD h4' hbd hst
  have hz0 : trS m tr 0 = m.st := rfl
  have HZ0 := Lib.hid hz0
  have HT0 := Lib.hid (show trL m tr 0 = [m.st] from rfl)
  clear hz0
  dsimp only [mv] at *
  generalize m.sz.length = sn at *
  generalize hstn : m.st.length = tn at *
  have HSTN := Lib.hid hstn
  clear hstn
  generalize hrn : m.rs.length = rn at *
  have HRN := Lib.hid hrn
  clear hrn
  generalize hln : tr.length = ln at *
  replace HLN := Lib.hid hln
  clear hln
  have HR := Lib.hid HM.out.r
  have HX := Lib.hid HM.out.s
  go_enter Try.func17, Try.ntmps17
  go_wp2_with (fail)
  refine (HI.out _ (HM.out.alloc _)).mono ?_
  rintro e w1 ⟨rfl, hb⟩
  have k1 : w1.cell? ⟨w.heap.size, 1, none⟩ = some (.slice (some ⟨bs, os, none⟩) tn cs) := cell_later hb (by go_simp)
  have k2 : w1.cell? ⟨w.heap.size, 2, none⟩ = some (.slice ar rn cr) := cell_later hb (by go_simp)
  have HB := Lib.hid (below_chain (by (repeat (first | exact Below.refl _ _ | assumption | refine below_alloc ?_ _ | refine below_drewN ?_ _ | refine below_set ?_ _ (by simp; try omega) | refine Below.drew ?_)) : Below w.heap.size w _) hb)
  clear hb
  have HK2 := Lib.hid k2
  go_wp2_with (fail)
  refine (HCC.out _ _ (HV.out.below HB.out) (Lib.hid fun wr y _ hb => c_FollowTrace1 _ ar rn cr y wr hrl (cell_later hb HK2.out))).mono ?_
  rintro e w2 ⟨rfl, hb⟩
  have HB2 := Lib.hid (below_chain HB.out hb)
  replace k1 := cell_later hb k1
  replace k2 := cell_later hb k2
  clear hb HK2
  rw [HBE.out]
  clear HBE HCC HI HM
  go_wp2_with (fail)
  refine (HCLN.out _ (HX.out.below HB2.out)).mono ?_
  rintro e w3 ⟨g, c', rfl, ho, hb⟩
  have hb2s : w.heap.size + 1 ≤ w2.heap.size := World.block_lt_of_cell? _ _ k2
  replace k2 := cell_later hb k2
  have hsz3 := World.block_lt_of_cell? _ _ k2
  dsimp only at hsz3
  have HB3 := Lib.hid (below_chain HB2.out hb)
  have hown := ownS_one (hi := w3.heap.size) (own_mono ho hb2s) HSTN.out.symm hsz3 (ho.lt g rfl).2
  have HOW := Lib.hid hown
  clear ho hb hown k1
  go_wp2
  go_loopw [6, 27] (fun v i wr => ∃ k : Nat, k ≤ ln ∧ i = .int .i64 k ∧ Hid (OwnS wr (w.heap.size + 1) wr.heap.size v (trL m tr k)) ∧ Hid (trOK m tr k = true) ∧ wr.cell? ⟨w.heap.size, 2, none⟩ = some (.slice ar rn cr) ∧ Below w.heap.size w wr) (fun _ i _ => ln - (intOf i).toNat)
  case atStart => exact ⟨0, Nat.zero_le _, rfl, Lib.hid (by rw [HT0.out]; exact HOW.out.mono (Nat.le_refl _) (by simp)), Lib.hid rfl, by go_simp, below_alloc HB3.out _⟩
  case round =>
    clear HOW k2
    obtain ⟨k, hk, rfl, ho, ha, k2, hb⟩ := hrel
    by_cases hlt : k < ln
    · obtain ⟨y, hz⟩ : ∃ z, tr[k]? = some z := ⟨_, List.getElem?_eq_getElem (by have := HLN.out; omega)⟩
      have hyb := HYB.out k y hz
      obtain ⟨kk, rfl⟩ : ∃ kk : Nat, y = kk := ⟨y.toNat, by omega⟩
      have hkk : kk < rn := by omega
      obtain ⟨r, hrz⟩ : ∃ z, m.rs[kk]? = some z := by
        obtain ⟨q, hq⟩ : ∃ z, m.rs[kk]? = some z := ⟨_, List.getElem?_eq_getElem (by have := HRN.out; omega)⟩
        exact ⟨q, hq⟩
      have HARR := Lib.hid (HAR.out k kk r hz hrz)
      have hmem := List.mem_of_getElem? hrz
      obtain ⟨bt, ot, rfl, _, t0⟩ := (HV.out.below hb).int hz
      obtain ⟨rb, ro, ag, cg, ae, ce, har, _, g0, g1, g2, hg, he⟩ := (HR.out.below hb).at hrz
      obtain ⟨rb0, _, _, _, _, _, har0, hrb, _⟩ := HR.out.at hrz
      rw [har] at har0
      simp only [Option.some.injEq, Addr.mk.injEq, and_true] at har0
      rw [← har0.1] at hrb
      clear har0
      obtain ⟨lg, c1, rfl⟩ := ho.out.form1 (by rw [trL_len]; omega)
      obtain ⟨lb, lo, sa, sc, hlg, _, s0, hsv⟩ := (ho.out.rd rfl).at (trL_at m tr k k (Nat.le_refl _))
      simp only [Option.some.injEq, Addr.mk.injEq, and_true] at hlg
      obtain ⟨rfl, rfl⟩ := hlg
      rw [HSL.out, Nat.zero_add] at s0
      have HOW := Lib.hid ho.out
      have HLL := Lib.hid (trL_len m tr k)
      rw [trL_len] at HOW ⊢
      have HBE := Lib.hid hb
      have HGG := Lib.hid hg
      have HEE := Lib.hid he
      have HSV := Lib.hid hsv
      have HC1 := Lib.hid (fun w' hv hg => HHL.out k r hmem sa sc ag cg w' hv hg)
      have HC2 := Lib.hid (fun nm gn b off c w' hv he => HAP.out k r hmem nm ag ae gn cg ce b off c w' hv he)
      subst har
      clear ho hb hg he hsv hz hrz hyb HAR HYB
      have hk0 : (0 : Int) ≤ (k : Int) := by omega
      have hk1 : (k : Int) < (k : Int) + 1 := by omega
      have hk2 : (k : Int) < (ln : Int) := by omega
      have hq0 : (0 : Int) ≤ (kk : Int) := by omega
      have hq1 : (kk : Int) < (rn : Int) := by omega
      have HHB := Lib.hid (show ∀ b, hlB (trS m tr k) r.gs = b → (hlB (trS m tr k) (arR m (tr.getD k 0)).gs = b) from fun b h => by rw [HARR.out]; exact h)
      have HNX := Lib.hid (show trS m tr (k + 1) = apL (trS m tr k) r.es by rw [trS, HARR.out])
      generalize r.gs.length = gn at *
      generalize r.es.length = en at *
      rcases hh : hlB (trS m tr k) r.gs with _ | _
      · rw [hh] at HC1
        have HD := Lib.hid (trOK_bad (HHB.out _ hh) hlt)
        clear hh
        go_wp2
        refine wp_region_held_drew (S := (fun w' => w'.cell? ⟨lg, k, none⟩ = some (.slice sa tn sc) ∧ w'.cell? ⟨w.heap.size, 2, none⟩ = some (.slice (some ⟨rb, ro, none⟩) rn cr) ∧ w'.cell? ⟨rb, ro + kk * 3 + 1, none⟩ = some (.slice ag gn cg))) (by kernel_rfl) ?_ (fun hHeld => ?_)
        · exact ⟨s0, k2, g1⟩
        refine rg_take (v := ?_) 0 rfl (by kernel_rfl) (by kernel_rfl) (by kernel_rfl) (fun _ _ _ h => h) (by kernel_rfl) ?_ (by assumption) ?_
        rotate_left
        · (intro w' hSw; (try dsimp only at hSw); go_simp; first | done | with_reducible rfl)
        simp only [Act.put, List.setIfInBounds_toArray, List.set_cons_zero, List.set_cons_succ]
        refine rg_take (v := ?_) 1 rfl (by kernel_rfl) (by kernel_rfl) (by kernel_rfl) (fun _ _ _ h => h) (by kernel_rfl) ?_ (by assumption) ?_
        rotate_left
        · (intro w' hSw; (try dsimp only at hSw); go_simp; first | done | with_reducible rfl)
        simp only [Act.put, List.setIfInBounds_toArray, List.set_cons_zero, List.set_cons_succ]
        refine rg_take (v := ?_) 2 rfl (by kernel_rfl) (by kernel_rfl) (by kernel_rfl) (fun _ _ _ h => h) (by kernel_rfl) ?_ (by assumption) ?_
        rotate_left
        · (intro w' hSw; (try dsimp only at hSw); go_simp; first | done | with_reducible rfl)
        simp only [Act.put, List.setIfInBounds_toArray, List.set_cons_zero, List.set_cons_succ]
        refine rg_take (v := ?_) 3 rfl (by kernel_rfl) (by kernel_rfl) (by kernel_rfl) (fun _ _ _ h => h) (by kernel_rfl) ?_ (by assumption) ?_
        rotate_left
        · (intro w' hSw; (try dsimp only at hSw); go_simp; first | done | with_reducible rfl)
        simp only [Act.put, List.setIfInBounds_toArray, List.set_cons_zero, List.set_cons_succ]
        refine rg_take (v := ?_) 4 rfl (by kernel_rfl) (by kernel_rfl) (by kernel_rfl) (fun _ _ _ h => h) (by kernel_rfl) ?_ (by assumption) ?_
        rotate_left
        · (intro w' hSw; (try dsimp only at hSw); go_simp; first | done | with_reducible rfl)
        simp only [Act.put, List.setIfInBounds_toArray, List.set_cons_zero, List.set_cons_succ]
        refine rg_take (v := ?_) 5 rfl (by kernel_rfl) (by kernel_rfl) (by kernel_rfl) (fun _ _ _ h => h) (by kernel_rfl) ?_ (by assumption) ?_
        rotate_left
        · (intro w' hSw; (try dsimp only at hSw); go_simp; first | done | with_reducible rfl)
        simp only [Act.put, List.setIfInBounds_toArray, List.set_cons_zero, List.set_cons_succ]
        refine rg_take (v := ?_) 6 rfl (by kernel_rfl) (by kernel_rfl) (by kernel_rfl) (fun _ _ _ h => h) (by kernel_rfl) ?_ (by assumption) ?_
        rotate_left
        · (intro w' hSw; (try dsimp only at hSw); go_simp; first | done | with_reducible rfl)
        simp only [Act.put, List.setIfInBounds_toArray, List.set_cons_zero, List.set_cons_succ]
        refine rg_take (v := ?_) 7 rfl (by kernel_rfl) (by kernel_rfl) (by kernel_rfl) (fun _ _ _ h => h) (by kernel_rfl) ?_ (by assumption) ?_
        rotate_left
        · (intro w' hSw; (try dsimp only at hSw); go_simp; first | done | with_reducible rfl)
        simp only [Act.put, List.setIfInBounds_toArray, List.set_cons_zero, List.set_cons_succ]
        refine rg_take (v := ?_) 8 rfl (by kernel_rfl) (by kernel_rfl) (by kernel_rfl) (fun _ _ _ h => h) (by kernel_rfl) ?_ (by assumption) ?_
        rotate_left
        · (intro w' hSw; (try dsimp only at hSw); go_simp; first | done | with_reducible rfl)
        simp only [Act.put, List.setIfInBounds_toArray, List.set_cons_zero, List.set_cons_succ]
        refine rg_take (v := ?_) 9 rfl (by kernel_rfl) (by kernel_rfl) (by kernel_rfl) (fun _ _ _ h => h) (by kernel_rfl) ?_ (by assumption) ?_
        rotate_left
        · (intro w' hSw; (try dsimp only at hSw); go_simp; first | done | with_reducible rfl)
        simp only [Act.put, List.setIfInBounds_toArray, List.set_cons_zero, List.set_cons_succ]
        refine rg_run 10 rfl (by kernel_rfl) (by kernel_rfl) (fun K hK => ?_)
        go_simp
        refine (HC1.out _ HSV.out.drew HGG.out.drew).mono ?_
        rintro e w4 ⟨rfl, hb⟩
        have HB4 := Lib.hid (below_chain (by exact HBE.out.drew) hb)
        replace s0 := cell_later hb (by exact s0)
        replace k2 := cell_later hb (by exact k2)
        replace g1 := cell_later hb (by exact g1)
        clear hb
        go_wp2
        clear hHeld
        refine hK.out _ _ ⟨s0, k2, g1⟩ (fun hHeld => ?_)
        clear hK K
        try simp only [Act.put, List.setIfInBounds_toArray, List.set_cons_zero, List.set_cons_succ]
        refine rg_take (v := ?_) 11 rfl (by kernel_rfl) (by kernel_rfl) (by kernel_rfl) (fun _ _ _ h => h) (by kernel_rfl) ?_ (by assumption) ?_
        rotate_left
        · (intro w' hSw; (try dsimp only at hSw); go_simp; first | done | with_reducible rfl)
        simp only [Act.put, List.setIfInBounds_toArray, List.set_cons_zero, List.set_cons_succ]
        refine wpAnyH_done (by kernel_rfl) ?_ _
        clear hHeld
        have e1 := HRC.out
        have e2 := HRL.out
        rw [HD.out, if_neg (by simp)] at e1 e2
        subst e1 e2
        go_wp2
        go_ret2
        exact retSC_nil rfl rfl HB4.out
      · rw [hh] at HC1
        have HD := Lib.hid (show trOK m tr (k + 1) = true by rw [trOK_succ, ha.out, HHB.out _ hh]; rfl)
        have HDL := Lib.hid (show trL m tr (k + 1) = trL m tr k ++ [apL (trS m tr k) r.es] by rw [trL_succ, HNX.out])
        have HAL := Lib.hid (show (apL (trS m tr k) r.es).length = tn by rw [apL_len, HSL.out])
        obtain ⟨sb, so, rfl, _, _⟩ := HSV.out.some_ (by intro e; have h5 := ints_length (trS m tr k); rw [e, HSL.out] at h5; simp at h5; omega)
        clear hh
        go_wp2
        refine wp_region_held_drew (S := (fun w' => w'.cell? ⟨lg, k, none⟩ = some (.slice (some ⟨sb, so, none⟩) tn sc) ∧ w'.cell? ⟨w.heap.size, 2, none⟩ = some (.slice (some ⟨rb, ro, none⟩) rn cr) ∧ w'.cell? ⟨rb, ro + kk * 3 + 1, none⟩ = some (.slice ag gn cg))) (by kernel_rfl) ?_ (fun hHeld => ?_)
        · exact ⟨s0, k2, g1⟩
        refine rg_take (v := ?_) 0 rfl (by kernel_rfl) (by kernel_rfl) (by kernel_rfl) (fun _ _ _ h => h) (by kernel_rfl) ?_ (by assumption) ?_
        rotate_left
        · (intro w' hSw; (try dsimp only at hSw); go_simp; first | done | with_reducible rfl)
        simp only [Act.put, List.setIfInBounds_toArray, List.set_cons_zero, List.set_cons_succ]
        refine rg_take (v := ?_) 1 rfl (by kernel_rfl) (by kernel_rfl) (by kernel_rfl) (fun _ _ _ h => h) (by kernel_rfl) ?_ (by assumption) ?_
        rotate_left
        · (intro w' hSw; (try dsimp only at hSw); go_simp; first | done | with_reducible rfl)
        simp only [Act.put, List.setIfInBounds_toArray, List.set_cons_zero, List.set_cons_succ]
        refine rg_take (v := ?_) 2 rfl (by kernel_rfl) (by kernel_rfl) (by kernel_rfl) (fun _ _ _ h => h) (by kernel_rfl) ?_ (by assumption) ?_
        rotate_left
        · (intro w' hSw; (try dsimp only at hSw); go_simp; first | done | with_reducible rfl)
        simp only [Act.put, List.setIfInBounds_toArray, List.set_cons_zero, List.set_cons_succ]
        refine rg_take (v := ?_) 3 rfl (by kernel_rfl) (by kernel_rfl) (by kernel_rfl) (fun _ _ _ h => h) (by kernel_rfl) ?_ (by assumption) ?_
        rotate_left
        · (intro w' hSw; (try dsimp only at hSw); go_simp; first | done | with_reducible rfl)
        simp only [Act.put, List.setIfInBounds_toArray, List.set_cons_zero, List.set_cons_succ]
        refine rg_take (v := ?_) 4 rfl (by kernel_rfl) (by kernel_rfl) (by kernel_rfl) (fun _ _ _ h => h) (by kernel_rfl) ?_ (by assumption) ?_
        rotate_left
        · (intro w' hSw; (try dsimp only at hSw); go_simp; first | done | with_reducible rfl)
        simp only [Act.put, List.setIfInBounds_toArray, List.set_cons_zero, List.set_cons_succ]
        refine rg_take (v := ?_) 5 rfl (by kernel_rfl) (by kernel_rfl) (by kernel_rfl) (fun _ _ _ h => h) (by kernel_rfl) ?_ (by assumption) ?_
        rotate_left
        · (intro w' hSw; (try dsimp only at hSw); go_simp; first | done | with_reducible rfl)
        simp only [Act.put, List.setIfInBounds_toArray, List.set_cons_zero, List.set_cons_succ]
        refine rg_take (v := ?_) 6 rfl (by kernel_rfl) (by kernel_rfl) (by kernel_rfl) (fun _ _ _ h => h) (by kernel_rfl) ?_ (by assumption) ?_
        rotate_left
        · (intro w' hSw; (try dsimp only at hSw); go_simp; first | done | with_reducible rfl)
        simp only [Act.put, List.setIfInBounds_toArray, List.set_cons_zero, List.set_cons_succ]
        refine rg_take (v := ?_) 7 rfl (by kernel_rfl) (by kernel_rfl) (by kernel_rfl) (fun _ _ _ h => h) (by kernel_rfl) ?_ (by assumption) ?_
        rotate_left
        · (intro w' hSw; (try dsimp only at hSw); go_simp; first | done | with_reducible rfl)
        simp only [Act.put, List.setIfInBounds_toArray, List.set_cons_zero, List.set_cons_succ]
        refine rg_take (v := ?_) 8 rfl (by kernel_rfl) (by kernel_rfl) (by kernel_rfl) (fun _ _ _ h => h) (by kernel_rfl) ?_ (by assumption) ?_
        rotate_left
        · (intro w' hSw; (try dsimp only at hSw); go_simp; first | done | with_reducible rfl)
        simp only [Act.put, List.setIfInBounds_toArray, List.set_cons_zero, List.set_cons_succ]
        refine rg_take (v := ?_) 9 rfl (by kernel_rfl) (by kernel_rfl) (by kernel_rfl) (fun _ _ _ h => h) (by kernel_rfl) ?_ (by assumption) ?_
        rotate_left
        · (intro w' hSw; (try dsimp only at hSw); go_simp; first | done | with_reducible rfl)
        simp only [Act.put, List.setIfInBounds_toArray, List.set_cons_zero, List.set_cons_succ]
        refine rg_run 10 rfl (by kernel_rfl) (by kernel_rfl) (fun K hK => ?_)
        go_simp
        refine (HC1.out _ HSV.out.drew HGG.out.drew).mono ?_
        rintro e w4 ⟨rfl, hb⟩
        have HB4 := Lib.hid (below_chain (by exact HBE.out.drew) hb)
        have HST := Lib.hid (show Below wr.heap.size wr w4 from below_chain (by exact (Below.refl _ _).drew) hb)
        replace s0 := cell_later hb (by exact s0)
        replace k2 := cell_later hb (by exact k2)
        replace g0 := cell_later hb (by exact g0)
        replace g1 := cell_later hb (by exact g1)
        replace g2 := cell_later hb (by exact g2)
        clear hb
        go_wp2
        clear hHeld
        refine hK.out _ _ ⟨s0, k2, g1⟩ (fun hHeld => ?_)
        clear hK K
        try simp only [Act.put, List.setIfInBounds_toArray, List.set_cons_zero, List.set_cons_succ]
        refine rg_take (v := ?_) 11 rfl (by kernel_rfl) (by kernel_rfl) (by kernel_rfl) (fun _ _ _ h => h) (by kernel_rfl) ?_ (by assumption) ?_
        rotate_left
        · (intro w' hSw; (try dsimp only at hSw); go_simp; first | done | with_reducible rfl)
        simp only [Act.put, List.setIfInBounds_toArray, List.set_cons_zero, List.set_cons_succ]
        refine wpAnyH_done (by kernel_rfl) ?_ _
        clear hHeld
        have HO4 := Lib.hid (HOW.out.below HST.out)
        have HS4 := Lib.hid (HSV.out.below HST.out)
        have HE4 := Lib.hid (HEE.out.below HST.out)
        have hs4 := HST.out.size
        have hs5 := HB4.out.size
        have hlg := (HOW.out.ge lg rfl).1
        have hlg2 := (HOW.out.ge lg rfl).2
        clear HC1 HOW HSV HEE HGG HST HBE
        go_wp2
        refine wp_region_held_drew (S := (fun w' => w'.cell? ⟨lg, k, none⟩ = some (.slice (some ⟨sb, so, none⟩) tn sc) ∧ w'.cell? ⟨w.heap.size, 2, none⟩ = some (.slice (some ⟨rb, ro, none⟩) rn cr) ∧ w'.cell? ⟨rb, ro + kk * 3, none⟩ = some (.string r.nm) ∧ w'.cell? ⟨rb, ro + kk * 3 + 1, none⟩ = some (.slice ag gn cg) ∧ w'.cell? ⟨rb, ro + kk * 3 + 2, none⟩ = some (.slice ae en ce))) (by kernel_rfl) ?_ (fun hHeld => ?_)
        · exact ⟨s0, k2, g0, g1, g2⟩
        refine rg_take (v := ?_) 0 rfl (by kernel_rfl) (by kernel_rfl) (by kernel_rfl) (fun _ _ _ h => h) (by kernel_rfl) ?_ (by assumption) ?_
        rotate_left
        · (intro w' hSw; (try dsimp only at hSw); go_simp; first | done | with_reducible rfl)
        simp only [Act.put, List.setIfInBounds_toArray, List.set_cons_zero, List.set_cons_succ]
        refine rg_take (v := ?_) 1 rfl (by kernel_rfl) (by kernel_rfl) (by kernel_rfl) (fun _ _ _ h => h) (by kernel_rfl) ?_ (by assumption) ?_
        rotate_left
        · (intro w' hSw; (try dsimp only at hSw); go_simp; first | done | with_reducible rfl)
        simp only [Act.put, List.setIfInBounds_toArray, List.set_cons_zero, List.set_cons_succ]
        refine rg_take (v := ?_) 2 rfl (by kernel_rfl) (by kernel_rfl) (by kernel_rfl) (fun _ _ _ h => h) (by kernel_rfl) ?_ (by assumption) ?_
        rotate_left
        · (intro w' hSw; (try dsimp only at hSw); go_simp; first | done | with_reducible rfl)
        simp only [Act.put, List.setIfInBounds_toArray, List.set_cons_zero, List.set_cons_succ]
        refine rg_take (v := ?_) 3 rfl (by kernel_rfl) (by kernel_rfl) (by kernel_rfl) (fun _ _ _ h => h) (by kernel_rfl) ?_ (by assumption) ?_
        rotate_left
        · (intro w' hSw; (try dsimp only at hSw); go_simp; first | done | with_reducible rfl)
        simp only [Act.put, List.setIfInBounds_toArray, List.set_cons_zero, List.set_cons_succ]
        refine rg_take (v := ?_) 4 rfl (by kernel_rfl) (by kernel_rfl) (by kernel_rfl) (fun _ _ _ h => h) (by kernel_rfl) ?_ (by assumption) ?_
        rotate_left
        · (intro w' hSw; (try dsimp only at hSw); go_simp; first | done | with_reducible rfl)
        simp only [Act.put, List.setIfInBounds_toArray, List.set_cons_zero, List.set_cons_succ]
        refine rg_take (v := ?_) 5 rfl (by kernel_rfl) (by kernel_rfl) (by kernel_rfl) (fun _ _ _ h => h) (by kernel_rfl) ?_ (by assumption) ?_
        rotate_left
        · (intro w' hSw; (try dsimp only at hSw); go_simp; first | done | with_reducible rfl)
        simp only [Act.put, List.setIfInBounds_toArray, List.set_cons_zero, List.set_cons_succ]
        refine rg_take (v := ?_) 6 rfl (by kernel_rfl) (by kernel_rfl) (by kernel_rfl) (fun _ _ _ h => h) (by kernel_rfl) ?_ (by assumption) ?_
        rotate_left
        · (intro w' hSw; (try dsimp only at hSw); go_simp; first | done | with_reducible rfl)
        simp only [Act.put, List.setIfInBounds_toArray, List.set_cons_zero, List.set_cons_succ]
        refine rg_take (v := ?_) 7 rfl (by kernel_rfl) (by kernel_rfl) (by kernel_rfl) (fun _ _ _ h => h) (by kernel_rfl) ?_ (by assumption) ?_
        rotate_left
        · (intro w' hSw; (try dsimp only at hSw); go_simp; first | done | with_reducible rfl)
        simp only [Act.put, List.setIfInBounds_toArray, List.set_cons_zero, List.set_cons_succ]
        refine rg_take (v := ?_) 8 rfl (by kernel_rfl) (by kernel_rfl) (by kernel_rfl) (fun _ _ _ h => h) (by kernel_rfl) ?_ (by assumption) ?_
        rotate_left
        · (intro w' hSw; (try dsimp only at hSw); go_simp; first | done | with_reducible rfl)
        simp only [Act.put, List.setIfInBounds_toArray, List.set_cons_zero, List.set_cons_succ]
        refine rg_take (v := ?_) 9 rfl (by kernel_rfl) (by kernel_rfl) (by kernel_rfl) (fun _ _ _ h => h) (by kernel_rfl) ?_ (by assumption) ?_
        rotate_left
        · (intro w' hSw; (try dsimp only at hSw); go_simp; first | done | with_reducible rfl)
        simp only [Act.put, List.setIfInBounds_toArray, List.set_cons_zero, List.set_cons_succ]
        refine rg_run 10 rfl (by kernel_rfl) (by kernel_rfl) (fun K hK => ?_)
        go_simp
        refine (HC2.out _ _ _ _ _ _ HS4.out.drew HE4.out.drew).mono ?_
        rintro e w5 ⟨g3, c3, rfl, hog, hb⟩
        have HB5 := Lib.hid (below_chain (by exact HB4.out.drew) hb)
        have HST5 := Lib.hid (show Below w4.heap.size w4 w5 from below_chain (by exact (Below.refl _ _).drew) hb)
        have hs6 := HST5.out.size
        have hg3 : w4.heap.size ≤ g3 ∧ g3 < w5.heap.size := hog.lt g3 rfl
        have HOG := Lib.hid hog
        replace s0 := cell_later hb (by exact s0)
        replace k2 := cell_later hb (by exact k2)
        replace g0 := cell_later hb (by exact g0)
        replace g1 := cell_later hb (by exact g1)
        replace g2 := cell_later hb (by exact g2)
        clear hb hog
        go_wp2
        clear hHeld
        refine hK.out _ _ ⟨s0, k2, g0, g1, g2⟩ (fun hHeld => ?_)
        clear hK K
        try simp only [Act.put, List.setIfInBounds_toArray, List.set_cons_zero, List.set_cons_succ]
        refine rg_run 11 rfl (by kernel_rfl) (by kernel_rfl) (fun K hK => ?_)
        go_simp
        have hal := below_alloc (Below.refl w5.heap.size w5) (Obj.cells #[Value.slice (some ⟨g3, 0, none⟩) tn c3] 24)
        replace s0 := cell_later hal s0
        replace k2 := cell_later hal k2
        replace g0 := cell_later hal g0
        replace g1 := cell_later hal g1
        replace g2 := cell_later hal g2
        clear hHeld
        refine hK.out _ _ ⟨s0, k2, g0, g1, g2⟩ (fun hHeld => ?_)
        clear hK K
        try simp only [Act.put, List.setIfInBounds_toArray, List.set_cons_zero, List.set_cons_succ]
        refine rg_run 12 rfl (by kernel_rfl) (by kernel_rfl) (fun K hK => ?_)
        refine wp_push_row _ (.tmp 44) (.tmp 55) rfl (w.heap.size + 1) wr.heap.size w5.heap.size (.slice (some ⟨lg, 0, none⟩) (k + 1) c1) (trL m tr k) ⟨apL (trS m tr k) r.es, some ⟨g3, 0, none⟩, c3⟩ w5.heap.size 1 rfl ((HO4.out.below HST5.out).below hal) rfl (by dsimp only [IvD.v]; rw [HAL.out]; go_simp) (by dsimp only [IvD.v]; rw [HAL.out]; exact own_mono (own_below HOG.out hal) (show w.heap.size + 1 ≤ w4.heap.size by omega)) (fun q hq => by simp [IvD.v, Value.ownBlock] at hq; omega) (by omega) (by rw [trL_len]; omega) (by simp; omega) ?_
        intro v1 w7 hown1 hgrow hold
        simp only [Act.put, List.setIfInBounds_toArray, List.set_cons_zero, List.set_cons_succ]
        have HW1 := Lib.hid hown1
        have HB7 := Lib.hid (below_of_grown (below_chain HB5.out hal) hgrow (fun q hq => by simp [Value.ownBlock] at hq; omega))
        have hs7 : w5.heap.size ≤ w7.heap.size := Nat.le_trans (by simp) hgrow.size
        replace s0 := (hold lg rfl k (by rw [trL_len]; omega)).trans s0
        replace k2 := hgrow.cell k2 (by simp [Value.ownBlock]; omega)
        replace g0 := hgrow.cell g0 (by simp [Value.ownBlock]; omega)
        replace g1 := hgrow.cell g1 (by simp [Value.ownBlock]; omega)
        replace g2 := hgrow.cell g2 (by simp [Value.ownBlock]; omega)
        clear hown1 hgrow hold hal
        clear hHeld
        refine hK.out _ _ ⟨s0, k2, g0, g1, g2⟩ (fun hHeld => ?_)
        clear hK K
        try simp only [Act.put, List.setIfInBounds_toArray, List.set_cons_zero, List.set_cons_succ]
        refine rg_take (v := ?_) 13 rfl (by kernel_rfl) (by kernel_rfl) (by kernel_rfl) (fun _ _ _ h => h) (by kernel_rfl) ?_ (by assumption) ?_
        rotate_left
        · (intro w' hSw; (try dsimp only at hSw); go_simp; first | done | with_reducible rfl)
        simp only [Act.put, List.setIfInBounds_toArray, List.set_cons_zero, List.set_cons_succ]
        refine wpAnyH_done (by kernel_rfl) ?_ _
        clear hHeld
        go_wp2
        go_roundw
        case rel => exact ⟨k + 1, by omega, by go_num, Lib.hid (by rw [HDL.out]; exact HW1.out.mono (Nat.le_refl _) hs7), HD, k2, HB7.out⟩
        case measure => simp [intOf]; omega
    · obtain rfl : k = ln := by omega
      have HRL2 := HRL.out
      have HRC2 := HRC.out
      rw [ha.out, if_pos rfl] at HRL2 HRC2
      obtain ⟨A1, c1, rfl⟩ := ho.out.form
      have HO := Lib.hid ho.out
      have HBB := Lib.hid hb
      rw [HRL2] at HO
      subst HRC2
      have HLL := Lib.hid (show (trL m tr k).length = L.length by rw [HRL2])
      clear ho hb HRL HRL2 HRC
      generalize (trL m tr k).length = n1 at *
      go_wp2
      go_ret2
      have e := HLL.out
      subst e
      exact ⟨A1, c1, rfl, HO.out.mono (by omega) (Nat.le_refl _), HBB.out⟩
end Go.Proofs.Ytaloheljfefdeaa
