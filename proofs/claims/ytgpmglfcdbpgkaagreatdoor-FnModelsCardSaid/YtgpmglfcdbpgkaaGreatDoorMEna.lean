/- The rules that are enabled in a state, on both sides. Condition: the tests' variables lie within the state. -/
import Derived.Test.YtgpmglfcdbpgkaaGreatDoorMHin
import Derived.Test.YtgpmglfcdbpgkaaGreatDoorIntsM
namespace Go.Proofs.YtgpmglfcdbpgkaaGreatDoor
open Go.RowKit

def rul0 : Rul := ⟨⟨#[]⟩, [], []⟩
def enK (vs : List Int) (rs : List Rul) (k : Nat) : List Int := ((List.range k).filter fun i => hlB vs (rs.getD i rul0).gs).map fun (i : Nat) => (i : Int)
theorem enK_zero (vs : List Int) (rs : List Rul) : enK vs rs 0 = [] := rfl
theorem getDR {l : List Rul} {k : Nat} {z : Rul} (h : l[k]? = some z) : l.getD k rul0 = z := by rw [List.getD_eq_getElem?_getD, h]; rfl
theorem enK_yes {vs : List Int} {rs : List Rul} {k : Nat} {r : Rul} (h : rs[k]? = some r) (h2 : hlB vs r.gs = true) : enK vs rs (k + 1) = enK vs rs k ++ [(k : Int)] := by
  unfold enK
  rw [List.range_succ, List.filter_append, List.map_append]
  simp [h, h2]
theorem enK_no {vs : List Int} {rs : List Rul} {k : Nat} {r : Rul} (h : rs[k]? = some r) (h2 : hlB vs r.gs = false) : enK vs rs (k + 1) = enK vs rs k := by
  unfold enK
  rw [List.range_succ, List.filter_append, List.map_append]
  simp [h, h2]
theorem enK_len (vs : List Int) (rs : List Rul) (k : Nat) : (enK vs rs k).length ≤ k := by
  unfold enK
  rw [List.length_map]
  have := List.length_filter_le (fun i => hlB vs (rs.getD i rul0).gs) (List.range k)
  simpa using this
def enL (vs : List Int) (rs : List Rul) : List Int := enK vs rs rs.length
/-- The tests of all rules speak of variables that are there, and are few. -/
def GsOk (n : Nat) (rs : List Rul) : Prop := ∀ r ∈ rs, TsIn n r.gs ∧ r.gs.length ≤ 1048576
theorem gs_of {m : Mdl} {vs : List Int} (h : mdB m = true) (h2 : stB m.sz vs = true) (hok : MOk m) : GsOk vs.length m.rs := by
  intro r hr
  refine ⟨?_, (hok.1.2.2.2 r hr).1⟩
  unfold mdB rsB at h
  simp only [Bool.and_eq_true, Bool.not_eq_true', List.any_eq_false] at h
  have h3 := h.2.2.2.2 r hr
  have h4 : rlB m.sz r = true := by simpa using h3
  unfold rlB at h4
  simp only [Bool.and_eq_true] at h4
  rw [st_len h2]
  exact tsIn_of h4.2.2.1
set_option maxHeartbeats 1000000 in
set_option maxRecDepth 100000 in
theorem c_l20Enabled (m : Mdl) (az ax ar : Option Addr) (cz cs cr : Nat) (A : Option Addr) (c : Nat) (vs : List Int) (w : World) (hrn : m.rs.length ≤ 1048576) (hl : vs.length ≤ 1048576) (hgs : GsOk vs.length m.rs) (h : Md w az ax ar m) (hv : Rd w A (ints vs)) :
    Calls Tryz.prog 43 #[mv m az ax ar cz cs cr, .slice A vs.length c] w (RetInts (enL vs m.rs) w) := by
  have HR := Lib.hid h.r
  have HV := Lib.hid hv
  have HG := Lib.hid hgs
  have HH := Lib.hid (fun (r : Rul) (hr : r ∈ m.rs) ag cg w' hv hg => c_l20Holds A c vs ag cg r.gs w' hl (hgs r hr).2 (hgs r hr).1 hv hg)
  have HL := Lib.hid (show enL vs m.rs = enK vs m.rs m.rs.length from rfl)
  generalize enL vs m.rs = R at HL ⊢
  clear h hv hgs
  dsimp only [mv] at *
  generalize m.sz.length = sn at *
  generalize m.st.length = tn at *
  generalize m.rs = rs at *
  generalize hrs : rs.length = rn at *
  have HRN := Lib.hid hrs
  generalize vs.length = vn at *
  clear hrs
  go_enter Tryz.func43, Tryz.ntmps43
  go_wp2
  have hown0 : ((w.alloc (Obj.cells #[.slice az sn cz, .slice ax tn cs, .slice ar rn cr] 25)).alloc (Obj.cells #[] 2)).ownsRow (w.heap.size + 1) 2 1 (.slice (some ⟨w.heap.size + 1, 0, none⟩) 0 0) 0 (ints []) := by
    have h := World.ownsRow_made (e := 2) (size := 1) (base := w.heap.size + 1) (w.alloc (Obj.cells #[.slice az sn cz, .slice ax tn cs, .slice ar rn cr] 25)) #[] 0 (by simp) (by unfold maxLen; omega) (by simp)
    simpa [ints] using h
  go_loopw [5, 6] (fun v i wr => ∃ k : Nat, k ≤ rn ∧ i = .int .i64 k ∧ wr.cell? ⟨w.heap.size, 2, none⟩ = some (.slice ar rn cr) ∧ wr.ownsRow (w.heap.size + 1) 2 1 v (enK vs rs k).length (ints (enK vs rs k)) ∧ Below w.heap.size w wr ∧ w.heap.size + 1 ≤ wr.heap.size) (fun _ i _ => rn - (intOf i).toNat)
  case atStart => exact ⟨0, Nat.zero_le _, rfl, by go_simp, by rw [enK_zero]; exact hown0, by (repeat (first | exact Below.refl _ _ | assumption | refine below_alloc ?_ _ | refine below_drewN ?_ _ | refine below_set ?_ _ (by simp; try omega) | refine Below.drew ?_)), by simp⟩
  case round =>
    obtain ⟨k, hk, rfl, e0, ho, hb, hsz⟩ := hrel
    clear hown0
    by_cases hlt : k < rn
    · obtain ⟨r, hz⟩ : ∃ z, rs[k]? = some z := ⟨_, List.getElem?_eq_getElem (by have := HRN.out; omega)⟩
      have hlen := enK_len vs rs k
      obtain ⟨b, off, ag, cg, ae, ce, rfl, _, g0, g1, g2, hg, he⟩ := (HR.out.below hb).at hz
      have HZ := Lib.hid hz
      have HO := Lib.hid ho
      have HB := Lib.hid hb
      have HGG := Lib.hid hg
      have HC := Lib.hid (fun w' hv hg => HH.out r (List.mem_of_getElem? hz) ag cg w' hv hg)
      have hk0 : (0 : Int) ≤ (k : Int) := by omega
      have hk1 : (k : Int) < (rn : Int) := by omega
      have hge : Hid (∀ q, u5.ownBlock = some q → w.heap.size + 1 ≤ q) := Lib.hid fun q hq => (ho.lt q hq).1
      have hrow : Hid (∀ q, u5.ownBlock = some q → w.heap.size ≤ q) := Lib.hid fun q hq => by have := (ho.lt q hq).1; omega
      clear hz ho hb hg he
      have hyes := Lib.hid (fun h => enK_yes (vs := vs) HZ.out h)
      have hno := Lib.hid (fun h => enK_no (vs := vs) HZ.out h)
      generalize r.gs.length = gn at *
      generalize r.es.length = en at *
      rcases hh : hlB vs r.gs with _ | _
      · rw [hh] at HC
        have HD := Lib.hid (hno.out hh)
        clear hh
        go_wp2_with (fail)
        refine (HC.out _ (HV.out.below (by exact HB.out)) HGG.out).mono ?_
        rintro e w2 ⟨rfl, hb2⟩
        have HB2 := Lib.hid (below_chain HB.out hb2)
        have e2 := cell_later hb2 e0
        have HO2 := Lib.hid (own_below HO.out hb2)
        have hsz2 : w.heap.size + 1 ≤ w2.heap.size := by have h5 := hb2.size; (try simp at h5); omega
        clear hb2
        go_wp2
        go_roundw
        case rel => exact ⟨k + 1, by omega, by go_num, e2, by rw [HD.out]; exact HO2.out, HB2.out, hsz2⟩
        case measure => simp [intOf]; omega
      · rw [hh] at HC
        have HD := Lib.hid (hyes.out hh)
        clear hh
        go_wp2_with (fail)
        refine (HC.out _ (HV.out.below (by exact HB.out)) HGG.out).mono ?_
        rintro e w2 ⟨rfl, hb2⟩
        have HB2 := Lib.hid (below_chain HB.out hb2)
        have e2 := cell_later hb2 e0
        have HO2 := Lib.hid (own_below HO.out hb2)
        have hsz2 : w.heap.size + 1 ≤ w2.heap.size := by have h5 := hb2.size; (try simp at h5); omega
        clear hb2
        go_wp2_with (first
          | (at_builtin
             refine wpList_push_int _ rfl (.tmp 23) (.tmp 25) rfl (w.heap.size + 1) _ (enK vs rs k).length (enK vs rs k) (k : Int) w2.heap.size 1 rfl (HO2.out.alloc _) rfl (by go_simp) (by omega) (by simp; omega) ?_
             intro v1 w3 hown1 hgrow hold hat
             have HO3 := Lib.hid hown1
             have HB3 := Lib.hid (below_of_grown (below_alloc HB2.out _) hgrow hrow.out)
             have hsz3 : w.heap.size + 1 ≤ w3.heap.size := by have := hgrow.size; simp at this; omega
             have hlt3 := World.block_lt_of_cell? _ _ e2
             have e3 : w3.cell? ⟨w.heap.size, 2, none⟩ = some (.slice (some ⟨b, off, none⟩) rn cr) := (hgrow.cell_far ⟨w.heap.size, 2, none⟩ (by simp; omega) (by intro h; have := hge.out w.heap.size h.symm; omega)).trans (by go_simp)
             clear hown1 hgrow hold hat)
          )
        go_roundw
        case rel => exact ⟨k + 1, by omega, by go_num, e3, by rw [HD.out, List.length_append]; exact HO3.out, HB3.out, hsz3⟩
        case measure => simp [intOf]; omega
    · obtain rfl : k = rn := by omega
      obtain ⟨A1, c1, rfl⟩ : ∃ A1 c1, u5 = .slice A1 (enK vs rs k).length c1 := by
        rcases ho.2 with ⟨h1, h2⟩ | ⟨g, cap, cur, h1, _⟩
        · exact ⟨none, 0, by rw [h1, h2]⟩
        · exact ⟨_, _, h1⟩
      have HO := Lib.hid ho
      have HB := Lib.hid hb
      clear ho hb
      have e := HL.out
      subst e
      go_wp2
      go_ret
      exact ⟨A1, c1, rfl, own_mono HO.out (by omega), HB.out⟩
end Go.Proofs.YtgpmglfcdbpgkaaGreatDoor
