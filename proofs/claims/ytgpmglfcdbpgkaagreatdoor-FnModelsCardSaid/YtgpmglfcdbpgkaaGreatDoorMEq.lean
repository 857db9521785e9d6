/- Contracts of the laws' own comparisons and sizes of rules and models. No condition but the lists' sizes. -/
import Derived.Test.YtgpmglfcdbpgkaaGreatDoorMRul
namespace Go.Proofs.YtgpmglfcdbpgkaaGreatDoor
open Go.RowKit

set_option maxRecDepth 100000 in
theorem c_eqRule (r : Rul) (ag ae ag' ae' : Option Addr) (cg ce cg' ce' : Nat) (w : World) (hsg : r.gs.length ≤ 1048576) (hse : r.es.length ≤ 1048576) (hg : Rd w ag (tstCells r.gs)) (he : Rd w ae (asgCells r.es)) (hg' : Rd w ag' (tstCells r.gs)) (he' : Rd w ae' (asgCells r.es)) :
    Calls Tryz.prog 75 #[.agg #[.string r.nm, .slice ag r.gs.length cg, .slice ae r.es.length ce], .agg #[.string r.nm, .slice ag' r.gs.length cg', .slice ae' r.es.length ce']] w fun e w' => e = .returned (.bool true) ∧ Below w.heap.size w w' := by
  obtain ⟨nm, gs, es⟩ := r
  simp only at hsg hse hg he hg' he' ⊢
  have HE := Lib.hid he
  have HE' := Lib.hid he'
  clear he he'
  go_enter Tryz.func75, Tryz.ntmps75
  go_wp2_with (first
    | (go_at_call 103
       refine (c_eqTestS _ _ _ _ _ _ gs _ rfl rfl hsg ((hg.alloc _).alloc _) ((hg'.alloc _).alloc _)).mono ?_
       rintro e w1 ⟨rfl, hb⟩
       have k1 : w1.cell? ⟨w.heap.size, 2, none⟩ = some (.slice ae es.length ce) := cell_later hb (by go_simp)
       have k2 : w1.cell? ⟨w.heap.size + 1, 2, none⟩ = some (.slice ae' es.length ce') := cell_later hb (by go_simp)
       have B := Lib.hid (below_chain (by (repeat (first | exact Below.refl _ _ | assumption | refine below_alloc ?_ _ | refine below_drewN ?_ _ | refine below_set ?_ _ (by simp; try omega) | refine Below.drew ?_)) : Below w.heap.size w _) hb)
       clear hb hg hg')
    | (go_at_call 104
       refine (c_eqAssignS _ _ _ _ _ _ es _ rfl rfl hse (HE.out.below B.out) (HE'.out.below B.out)).mono ?_
       rintro e w2 ⟨rfl, hb⟩
       have B2 := Lib.hid (below_chain B.out hb)
       clear hb)
    )
  go_ret
  exact ⟨rfl, B2.out⟩
set_option maxRecDepth 100000 in
theorem c_eqRuleS (A A' : Option Addr) (c c' n n' : Nat) (l : List Rul) (w : World) (hn : n = l.length) (hn' : n' = l.length) (hs : RulOk l) (hr : Rl w A l) (hr' : Rl w A' l) :
    Calls Tryz.prog 31 #[.slice A n c, .slice A' n' c'] w fun e w' => e = .returned (.bool true) ∧ Below w.heap.size w w' := by
  subst hn
  subst hn'
  have HS := Lib.hid hs.2
  have hs1 := hs.1
  clear hs
  go_enter Tryz.func31, Tryz.ntmps31
  go_wp2
  go_loopw [5] (fun i wr => ∃ k : Nat, k ≤ l.length ∧ i = .int .i64 k ∧ Below w.heap.size w wr) (fun i _ => l.length - (intOf i).toNat)
  case atStart => exact ⟨0, Nat.zero_le _, rfl, Below.refl _ _⟩
  case round =>
    obtain ⟨k, hk, rfl, hb⟩ := hrel
    by_cases hlt : k < l.length
    · obtain ⟨r, hz⟩ : ∃ z, l[k]? = some z := ⟨_, List.getElem?_eq_getElem hlt⟩
      obtain ⟨b, off, ag, cg, ae, ce, rfl, _, g0, g1, g2, hg, he⟩ := (hr.below hb).at hz
      obtain ⟨b', off', ag', cg', ae', ce', rfl, _, e0, e1, e2, hg', he'⟩ := (hr'.below hb).at hz
      have HOK := Lib.hid (HS.out r (List.mem_of_getElem? hz))
      have HB := Lib.hid hb
      have H1 := Lib.hid hg
      have H2 := Lib.hid he
      have H3 := Lib.hid hg'
      have H4 := Lib.hid he'
      clear hz hb hr hr' hg he hg' he'
      go_wp2
      go_still_tail 8, (by kernel_rfl)
      change wpList _ _ _ _ _ wr.drew
      have HB2 := Lib.hid (below_drewN HB.out 1)
      go_wp2_with (first
        | (go_at_call 75
           refine (c_eqRule r _ _ _ _ _ _ _ _ _ HOK.out.1 HOK.out.2 H1.out.drew H2.out.drew H3.out.drew H4.out.drew).mono ?_
           rintro e w2 ⟨rfl, hb2⟩
           have HB3 := Lib.hid (below_chain HB.out.drew hb2)
           clear hb2)
        )
      go_roundw
      case rel => exact ⟨k + 1, by omega, by go_num, HB3.out⟩
      case measure => simp [intOf]; omega
    · have : k = l.length := by omega
      subst this
      go_wp2
      go_ret
      exact ⟨rfl, hb⟩
structure Mdl where
  sz : List Int
  st : List Int
  rs : List Rul
def MdlOk (m : Mdl) : Prop := m.sz.length ≤ 1048576 ∧ m.st.length ≤ 1048576 ∧ RulOk m.rs
/-- The model m ax it reads. -/
structure Md (w : World) (az ax ar : Option Addr) (m : Mdl) : Prop where
  z : Rd w az (ints m.sz)
  s : Rd w ax (ints m.st)
  r : Rl w ar m.rs
theorem Md.below {w w1 : World} {az ax ar : Option Addr} {m : Mdl} (h : Md w az ax ar m) (hb : Below w.heap.size w w1) : Md w1 az ax ar m := ⟨h.z.below hb, h.s.below hb, h.r.below hb⟩
theorem Md.alloc {w : World} {az ax ar : Option Addr} {m : Mdl} (h : Md w az ax ar m) (o : Obj) : Md (w.alloc o) az ax ar m := h.below (below_alloc (Below.refl _ _) o)
def mv (m : Mdl) (az ax ar : Option Addr) (cz cs cr : Nat) : Value := .agg #[.slice az m.sz.length cz, .slice ax m.st.length cs, .slice ar m.rs.length cr]
set_option maxRecDepth 100000 in
theorem c_eqModel (m : Mdl) (az ax ar az' ax' ar' : Option Addr) (cz cs cr cz' cs' cr' : Nat) (w : World) (hs : MdlOk m) (h : Md w az ax ar m) (h' : Md w az' ax' ar' m) :
    Calls Tryz.prog 7 #[mv m az ax ar cz cs cr, mv m az' ax' ar' cz' cs' cr'] w fun e w' => e = .returned (.bool true) ∧ Below w.heap.size w w' := by
  obtain ⟨sz, st, rs⟩ := m
  have hs1 := hs.1
  have hs2 := hs.2.1
  have HS := Lib.hid hs.2.2
  have H := Lib.hid h
  have H' := Lib.hid h'
  clear hs h h'
  dsimp only [mv] at hs1 hs2 ⊢
  go_enter Tryz.func7, Tryz.ntmps7
  go_wp2_with (fail)
  have B : Below w.heap.size w _ := below_alloc (below_alloc (Below.refl _ _) (.cells #[.slice az sz.length cz, .slice ax st.length cs, .slice ar rs.length cr] 25)) (.cells #[.slice az' sz.length cz', .slice ax' st.length cs', .slice ar' rs.length cr'] 25)
  refine (c_eqInt64S _ _ _ _ _ _ sz _ rfl rfl (by omega) (H.out.z.below B) (H'.out.z.below B)).mono ?_
  rintro e w1 ⟨rfl, hb⟩
  have k1 : w1.cell? ⟨w.heap.size, 1, none⟩ = some (.slice ax st.length cs) := cell_later hb (by go_simp)
  have k2 : w1.cell? ⟨w.heap.size, 2, none⟩ = some (.slice ar rs.length cr) := cell_later hb (by go_simp)
  have j1 : w1.cell? ⟨w.heap.size + 1, 1, none⟩ = some (.slice ax' st.length cs') := cell_later hb (by go_simp)
  have j2 : w1.cell? ⟨w.heap.size + 1, 2, none⟩ = some (.slice ar' rs.length cr') := cell_later hb (by go_simp)
  replace B := below_chain B hb
  clear hb
  go_wp2_with (fail)
  refine (c_eqInt64S _ _ _ _ _ _ st _ rfl rfl (by omega) (H.out.s.below B) (H'.out.s.below B)).mono ?_
  rintro e w2 ⟨rfl, hb⟩
  replace k2 := cell_later hb k2
  replace j2 := cell_later hb j2
  replace B := below_chain B hb
  clear hb k1 j1
  go_wp2_with (fail)
  refine (c_eqRuleS _ _ _ _ _ _ rs _ rfl rfl HS.out (H.out.r.below B) (H'.out.r.below B)).mono ?_
  rintro e w3 ⟨rfl, hb⟩
  replace B := below_chain B hb
  clear hb
  go_wp2_with (fail)
  go_ret
  exact ⟨rfl, B⟩
end Go.Proofs.YtgpmglfcdbpgkaaGreatDoor
