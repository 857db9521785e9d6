/- IsModel (reference). Condition: the lengths are those that the laws let by. -/
import Derived.Test.YtgpmglfcdbpgkaaGreatDoorMIsP
namespace Go.Proofs.YtgpmglfcdbpgkaaGreatDoor
open Go.RowKit

set_option maxHeartbeats 2000000 in
set_option maxRecDepth 100000 in
theorem c_sIsModel (m : Mdl) (az ax ar : Option Addr) (cz cs cr : Nat) (w : World) (hok : MOk m) (h : Md w az ax ar m) :
    Calls Tryz.prog 41 #[mv m az ax ar cz cs cr] w fun e w' => e = .returned (.bool (mdB m)) ∧ Below w.heap.size w w' := by
  have HST := Lib.hid (fun w' hs hz hv => c_l20State m az ax ar cz cs cr ax cs m.st w' hs hok.1.1 hok.1.2.1 hz hv)
  have HCL := Lib.hid (fun (hs : SzsOk m.sz) (wr : World) (r : Rul) (hr : r ∈ m.rs) (ag ae : Option Addr) (cg ce : Nat) h hg he => c_l20Rule m az ax ar cz cs cr r ag ae cg ce wr hs hok.1.1 (hok.1.2.2.2 r hr).1 (hok.1.2.2.2 r hr).2 (hok.2 r hr) h hg he)
  have HB0 := Lib.hid (show mdB m = (!(m.sz.any fun z => !inB z 1 32) && (inB m.sz.length 1 16 && (stB m.sz m.st && (decide (m.rs.length ≤ 200) && !(m.rs.any fun r => !rlB m.sz r))))) from rfl)
  have HZ := Lib.hid h.z
  have HX := Lib.hid h.s
  have HR := Lib.hid h.r
  have HSZ := Lib.hid (fun h => szB_ok (sz := m.sz) h)
  generalize mdB m = R at HB0 ⊢
  have hl1 := hok.1.1
  have hl2 := hok.1.2.1
  have hl3 := hok.1.2.2.1
  clear h hok
  obtain ⟨sz, st, rs⟩ := m
  dsimp only [mv] at *
  generalize hsn : sz.length = sn at *
  generalize st.length = tn at *
  generalize hrn : rs.length = rn at *
  have HSN := Lib.hid hsn
  have HRN := Lib.hid hrn
  generalize stB sz st = A3 at *
  clear hsn hrn
  go_enter Tryz.func41, Tryz.ntmps41
  go_wp2
  go_loop [3] (fun i => ∃ k : Nat, k ≤ sn ∧ i = .int .i64 k ∧ Hid ((sz.take k).any (fun z => !inB z 1 32) = false)) (fun i => sn - (intOf i).toNat)
  case atStart => exact ⟨0, Nat.zero_le _, rfl, Lib.hid rfl⟩
  case round =>
    obtain ⟨k, hk, rfl, ha⟩ := hrel
    by_cases hlt : k < sn
    · obtain ⟨z, hz⟩ : ∃ z, sz[k]? = some z := ⟨_, List.getElem?_eq_getElem (by have := HSN.out; omega)⟩
      obtain ⟨b, off, rfl, hb', g0⟩ := HZ.out.int hz
      have g1 : (w.alloc (Obj.cells #[.slice (some ⟨b, off, none⟩) sn cz, .slice ax tn cs, .slice ar rn cr] 25)).cell? ⟨b, off + k, none⟩ = some (.int .i64 z) := cell_later (below_alloc (Below.refl _ _) _) g0
      have HZZ := Lib.hid hz
      clear hz g0
      rcases hin : inB z 1 32 with _ | _
      · have HI := Lib.hid hin
        go_wp2_with (first
          | (go_at_call 50
             refine (c_l01In _ _ _ _).mono ?_
             rintro e w' ⟨rfl, rfl⟩)
          )
        go_ret
        refine ⟨ret_bool ?_, by (repeat (first | exact Below.refl _ _ | assumption | refine below_alloc ?_ _ | refine below_drewN ?_ _ | refine below_set ?_ _ (by simp; try omega) | refine Below.drew ?_))⟩
        rw [HB0.out, List.any_eq_true.2 ⟨z, List.mem_of_getElem? HZZ.out, by rw [HI.out]; rfl⟩]
        rfl
      · have HI := Lib.hid hin
        go_wp2_with (first
          | (go_at_call 50
             refine (c_l01In _ _ _ _).mono ?_
             rintro e w' ⟨rfl, rfl⟩)
          )
        go_round
        case rel => exact ⟨k + 1, by omega, by go_num, Lib.hid (any_take_snoc HZZ.out ha.out (by rw [HI.out]; rfl))⟩
        case measure => simp [intOf]; omega
    · obtain rfl : k = sn := by omega
      have hA := ha.out
      rw [List.take_of_length_le (by have := HSN.out; omega)] at hA
      have HS := Lib.hid (HSZ.out hA)
      have HB1 := Lib.hid (show R = (inB k 1 16 && (A3 && (decide (rn ≤ 200) && !(rs.any fun r => !rlB sz r)))) by rw [HB0.out, hA]; rfl)
      clear hA ha HSZ HB0
      rcases h1 : inB k 1 16 with _ | _
      · have e := HB1.out
        rw [h1, Bool.false_and] at e
        subst e
        clear HB1 HST HCL
        go_wp2_with (first
          | (go_at_call 50
             refine (c_l01In _ _ _ _).mono ?_
             rintro e w' ⟨rfl, rfl⟩)
          )
        go_ret
        exact ⟨rfl, by (repeat (first | exact Below.refl _ _ | assumption | refine below_alloc ?_ _ | refine below_drewN ?_ _ | refine below_set ?_ _ (by simp; try omega) | refine Below.drew ?_))⟩
      have e1 := HB1.out
      rw [h1, Bool.true_and] at e1
      have HB2 := Lib.hid e1
      clear HB1 e1
      rcases A3 with _ | _
      · have e := HB2.out
        rw [Bool.false_and] at e
        subst e
        go_wp2_with (first
          | (go_at_call 50
             refine (c_l01In _ _ _ _).mono ?_
             rintro e w' ⟨rfl, rfl⟩)
          | (go_at_call 42
             refine (HST.out _ HS.out (HZ.out.alloc _) (HX.out.alloc _)).mono ?_
             rintro e w1 ⟨rfl, hb⟩
             have HB := Lib.hid (below_chain (by (repeat (first | exact Below.refl _ _ | assumption | refine below_alloc ?_ _ | refine below_drewN ?_ _ | refine below_set ?_ _ (by simp; try omega) | refine Below.drew ?_)) : Below w.heap.size w _) hb)
             clear hb)
          )
        go_ret
        exact ⟨rfl, HB.out⟩
      have e := HB2.out
      rw [Bool.true_and] at e
      have HB3 := Lib.hid e
      clear e HB2
      by_cases h4 : rn ≤ 200
      · have e := HB3.out
        rw [decide_eq_true h4, Bool.true_and] at e
        have HB4 := Lib.hid e
        clear HB3 e
        go_wp2_with (first
          | (go_at_call 50
             refine (c_l01In _ _ _ _).mono ?_
             rintro e w' ⟨rfl, rfl⟩)
          | (go_at_call 42
             refine (HST.out _ HS.out (HZ.out.alloc _) (HX.out.alloc _)).mono ?_
             rintro e w1 ⟨rfl, hb⟩
             have HB := Lib.hid (below_chain (by (repeat (first | exact Below.refl _ _ | assumption | refine below_alloc ?_ _ | refine below_drewN ?_ _ | refine below_set ?_ _ (by simp; try omega) | refine Below.drew ?_)) : Below w.heap.size w _) hb)
             have k0 : w1.cell? ⟨w.heap.size, 0, none⟩ = some (.slice az k cz) := cell_later hb (by go_simp)
             have k1 : w1.cell? ⟨w.heap.size, 1, none⟩ = some (.slice ax tn cs) := cell_later hb (by go_simp)
             have k2 : w1.cell? ⟨w.heap.size, 2, none⟩ = some (.slice ar rn cr) := cell_later hb (by go_simp)
             clear hb)
          )
        clear h1
        go_loopw [4] (fun i wr => ∃ j : Nat, j ≤ rn ∧ i = .int .i64 j ∧ Hid ((rs.take j).any (fun r => !rlB sz r) = false) ∧ wr.cell? ⟨w.heap.size, 0, none⟩ = some (.slice az k cz) ∧ wr.cell? ⟨w.heap.size, 1, none⟩ = some (.slice ax tn cs) ∧ wr.cell? ⟨w.heap.size, 2, none⟩ = some (.slice ar rn cr) ∧ Below w.heap.size w wr) (fun i _ => rn - (intOf i).toNat)
        case atStart => exact ⟨0, Nat.zero_le _, rfl, Lib.hid rfl, k0, k1, k2, HB.out⟩
        case round =>
          clear k0 k1 k2 HB
          obtain ⟨j, hj, rfl, ha, k0, k1, k2, hb⟩ := hrel
          by_cases hlt2 : j < rn
          · obtain ⟨r, hz⟩ : ∃ z, rs[j]? = some z := ⟨_, List.getElem?_eq_getElem (by have := HRN.out; omega)⟩
            obtain ⟨b, off, ag, cg, ae, ce, rfl, _, g0, g1, g2, hg, he⟩ := (HR.out.below hb).at hz
            have HZZ := Lib.hid hz
            have HBE := Lib.hid hb
            have HC := Lib.hid (fun w' h hg he => HCL.out HS.out w' r (List.mem_of_getElem? hz) ag ae cg ce h hg he)
            have HGG := Lib.hid hg
            have HEE := Lib.hid he
            clear hz hb hg he
            have hj0 : (0 : Int) ≤ (j : Int) := by omega
            have hj1 : (j : Int) < (rn : Int) := by omega
            generalize r.gs.length = gn at *
            generalize r.es.length = en at *
            rcases hin : rlB sz r with _ | _
            · rw [hin] at HC
              have HI := Lib.hid hin
              clear hin
              go_wp2
              refine wp_region_held_drew (S := (fun w' => w'.cell? ⟨w.heap.size, 0, none⟩ = some (.slice az k cz) ∧ w'.cell? ⟨w.heap.size, 1, none⟩ = some (.slice ax tn cs) ∧ w'.cell? ⟨w.heap.size, 2, none⟩ = some (.slice (some ⟨b, off, none⟩) rn cr) ∧ w'.cell? ⟨b, off + j * 3, none⟩ = some (.string r.nm) ∧ w'.cell? ⟨b, off + j * 3 + 1, none⟩ = some (.slice ag gn cg) ∧ w'.cell? ⟨b, off + j * 3 + 2, none⟩ = some (.slice ae en ce))) (by kernel_rfl) ?_ (fun hHeld => ?_)
              · exact ⟨k0, k1, k2, g0, g1, g2⟩
              refine rg_take (v := ?_) 0 rfl (by kernel_rfl) (by kernel_rfl) (by kernel_rfl) (fun _ _ _ h => h) (by kernel_rfl) ?_ (by assumption) ?_
              rotate_left
              · (intro w' hSw; (try dsimp only at hSw); go_simp; first | done | with_reducible rfl)
              simp only [Act.put, List.setIfInBounds_toArray, List.set_cons_zero, List.set_cons_succ]
              refine rg_take (v := ?_) 1 rfl (by kernel_rfl) (by kernel_rfl) (by kernel_rfl) (fun _ _ _ h => h) (by kernel_rfl) ?_ (by assumption) ?_
              rotate_left
              · (intro w' hSw; (try dsimp only at hSw); go_simp; first | done | with_reducible rfl)
              simp only [Act.put, List.setIfInBounds_toArray, List.set_cons_zero, List.set_cons_succ]
              refine rg_take (v := ?_) 2 rfl (by kernel_rfl) (by kernel_rfl) (by kernel_rfl) (fun _ _ _ h => h) (by kernel_rfl) ?_ (by assumption) ?_
              rotate_left
              · (intro w' hSw; (try dsimp only at hSw); go_simp; first | done | with_reducible rfl)
              simp only [Act.put, List.setIfInBounds_toArray, List.set_cons_zero, List.set_cons_succ]
              refine rg_take (v := ?_) 3 rfl (by kernel_rfl) (by kernel_rfl) (by kernel_rfl) (fun _ _ _ h => h) (by kernel_rfl) ?_ (by assumption) ?_
              rotate_left
              · (intro w' hSw; (try dsimp only at hSw); go_simp; first | done | with_reducible rfl)
              simp only [Act.put, List.setIfInBounds_toArray, List.set_cons_zero, List.set_cons_succ]
              refine rg_take (v := ?_) 4 rfl (by kernel_rfl) (by kernel_rfl) (by kernel_rfl) (fun _ _ _ h => h) (by kernel_rfl) ?_ (by assumption) ?_
              rotate_left
              · (intro w' hSw; (try dsimp only at hSw); go_simp; first | done | with_reducible rfl)
              simp only [Act.put, List.setIfInBounds_toArray, List.set_cons_zero, List.set_cons_succ]
              refine rg_take (v := ?_) 5 rfl (by kernel_rfl) (by kernel_rfl) (by kernel_rfl) (fun _ _ _ h => h) (by kernel_rfl) ?_ (by assumption) ?_
              rotate_left
              · (intro w' hSw; (try dsimp only at hSw); go_simp; first | done | with_reducible rfl)
              simp only [Act.put, List.setIfInBounds_toArray, List.set_cons_zero, List.set_cons_succ]
              refine rg_run 6 rfl (by kernel_rfl) (by kernel_rfl) (fun K hK => ?_)
              go_simp
              refine (HC.out _ (HZ.out.below (by exact HBE.out.drew)) HGG.out.drew HEE.out.drew).mono ?_
              rintro e w2 ⟨rfl, hb⟩
              have HB2 := Lib.hid (below_chain (by exact HBE.out.drew) hb)
              replace k0 := cell_later hb (by exact k0)
              replace k1 := cell_later hb (by exact k1)
              replace k2 := cell_later hb (by exact k2)
              replace g0 := cell_later hb (by exact g0)
              replace g1 := cell_later hb (by exact g1)
              replace g2 := cell_later hb (by exact g2)
              clear hb
              go_wp2
              clear hHeld
              refine hK.out _ _ ⟨k0, k1, k2, g0, g1, g2⟩ (fun hHeld => ?_)
              clear hK K
              try simp only [Act.put, List.setIfInBounds_toArray, List.set_cons_zero, List.set_cons_succ]
              refine rg_take (v := ?_) 7 rfl (by kernel_rfl) (by kernel_rfl) (by kernel_rfl) (fun _ _ _ h => h) (by kernel_rfl) ?_ (by assumption) ?_
              rotate_left
              · (intro w' hSw; (try dsimp only at hSw); go_simp; first | done | with_reducible rfl)
              simp only [Act.put, List.setIfInBounds_toArray, List.set_cons_zero, List.set_cons_succ]
              refine wpAnyH_done (by kernel_rfl) ?_ _
              clear hHeld
              go_wp2
              go_ret
              refine ⟨ret_bool ?_, HB2.out⟩
              rw [HB4.out, List.any_eq_true.2 ⟨r, List.mem_of_getElem? HZZ.out, by rw [HI.out]; rfl⟩]
              rfl
            · rw [hin] at HC
              have HI := Lib.hid hin
              clear hin
              go_wp2
              refine wp_region_held_drew (S := (fun w' => w'.cell? ⟨w.heap.size, 0, none⟩ = some (.slice az k cz) ∧ w'.cell? ⟨w.heap.size, 1, none⟩ = some (.slice ax tn cs) ∧ w'.cell? ⟨w.heap.size, 2, none⟩ = some (.slice (some ⟨b, off, none⟩) rn cr) ∧ w'.cell? ⟨b, off + j * 3, none⟩ = some (.string r.nm) ∧ w'.cell? ⟨b, off + j * 3 + 1, none⟩ = some (.slice ag gn cg) ∧ w'.cell? ⟨b, off + j * 3 + 2, none⟩ = some (.slice ae en ce))) (by kernel_rfl) ?_ (fun hHeld => ?_)
              · exact ⟨k0, k1, k2, g0, g1, g2⟩
              refine rg_take (v := ?_) 0 rfl (by kernel_rfl) (by kernel_rfl) (by kernel_rfl) (fun _ _ _ h => h) (by kernel_rfl) ?_ (by assumption) ?_
              rotate_left
              · (intro w' hSw; (try dsimp only at hSw); go_simp; first | done | with_reducible rfl)
              simp only [Act.put, List.setIfInBounds_toArray, List.set_cons_zero, List.set_cons_succ]
              refine rg_take (v := ?_) 1 rfl (by kernel_rfl) (by kernel_rfl) (by kernel_rfl) (fun _ _ _ h => h) (by kernel_rfl) ?_ (by assumption) ?_
              rotate_left
              · (intro w' hSw; (try dsimp only at hSw); go_simp; first | done | with_reducible rfl)
              simp only [Act.put, List.setIfInBounds_toArray, List.set_cons_zero, List.set_cons_succ]
              refine rg_take (v := ?_) 2 rfl (by kernel_rfl) (by kernel_rfl) (by kernel_rfl) (fun _ _ _ h => h) (by kernel_rfl) ?_ (by assumption) ?_
              rotate_left
              · (intro w' hSw; (try dsimp only at hSw); go_simp; first | done | with_reducible rfl)
              simp only [Act.put, List.setIfInBounds_toArray, List.set_cons_zero, List.set_cons_succ]
              refine rg_take (v := ?_) 3 rfl (by kernel_rfl) (by kernel_rfl) (by kernel_rfl) (fun _ _ _ h => h) (by kernel_rfl) ?_ (by assumption) ?_
              rotate_left
              · (intro w' hSw; (try dsimp only at hSw); go_simp; first | done | with_reducible rfl)
              simp only [Act.put, List.setIfInBounds_toArray, List.set_cons_zero, List.set_cons_succ]
              refine rg_take (v := ?_) 4 rfl (by kernel_rfl) (by kernel_rfl) (by kernel_rfl) (fun _ _ _ h => h) (by kernel_rfl) ?_ (by assumption) ?_
              rotate_left
              · (intro w' hSw; (try dsimp only at hSw); go_simp; first | done | with_reducible rfl)
              simp only [Act.put, List.setIfInBounds_toArray, List.set_cons_zero, List.set_cons_succ]
              refine rg_take (v := ?_) 5 rfl (by kernel_rfl) (by kernel_rfl) (by kernel_rfl) (fun _ _ _ h => h) (by kernel_rfl) ?_ (by assumption) ?_
              rotate_left
              · (intro w' hSw; (try dsimp only at hSw); go_simp; first | done | with_reducible rfl)
              simp only [Act.put, List.setIfInBounds_toArray, List.set_cons_zero, List.set_cons_succ]
              refine rg_run 6 rfl (by kernel_rfl) (by kernel_rfl) (fun K hK => ?_)
              go_simp
              refine (HC.out _ (HZ.out.below (by exact HBE.out.drew)) HGG.out.drew HEE.out.drew).mono ?_
              rintro e w2 ⟨rfl, hb⟩
              have HB2 := Lib.hid (below_chain (by exact HBE.out.drew) hb)
              replace k0 := cell_later hb (by exact k0)
              replace k1 := cell_later hb (by exact k1)
              replace k2 := cell_later hb (by exact k2)
              replace g0 := cell_later hb (by exact g0)
              replace g1 := cell_later hb (by exact g1)
              replace g2 := cell_later hb (by exact g2)
              clear hb
              go_wp2
              clear hHeld
              refine hK.out _ _ ⟨k0, k1, k2, g0, g1, g2⟩ (fun hHeld => ?_)
              clear hK K
              try simp only [Act.put, List.setIfInBounds_toArray, List.set_cons_zero, List.set_cons_succ]
              refine rg_take (v := ?_) 7 rfl (by kernel_rfl) (by kernel_rfl) (by kernel_rfl) (fun _ _ _ h => h) (by kernel_rfl) ?_ (by assumption) ?_
              rotate_left
              · (intro w' hSw; (try dsimp only at hSw); go_simp; first | done | with_reducible rfl)
              simp only [Act.put, List.setIfInBounds_toArray, List.set_cons_zero, List.set_cons_succ]
              refine wpAnyH_done (by kernel_rfl) ?_ _
              clear hHeld
              go_wp2
              go_roundw
              case rel => exact ⟨j + 1, by omega, by go_num, Lib.hid (any_take_snoc HZZ.out ha.out (by rw [HI.out]; rfl)), k0, k1, k2, HB2.out⟩
              case measure => simp [intOf]; omega
          · obtain rfl : j = rn := by omega
            have hA := ha.out
            rw [List.take_of_length_le (by have := HRN.out; omega)] at hA
            have HRR := Lib.hid (show R = true by rw [HB4.out, hA]; rfl)
            clear hA ha
            go_wp2
            go_ret
            exact ⟨ret_bool HRR.out.symm, hb⟩
      · have e := HB3.out
        rw [decide_eq_false h4, Bool.false_and] at e
        subst e
        clear HB3
        go_wp2_with (first
          | (go_at_call 50
             refine (c_l01In _ _ _ _).mono ?_
             rintro e w' ⟨rfl, rfl⟩)
          | (go_at_call 42
             refine (HST.out _ HS.out (HZ.out.alloc _) (HX.out.alloc _)).mono ?_
             rintro e w1 ⟨rfl, hb⟩
             have HB := Lib.hid (below_chain (by (repeat (first | exact Below.refl _ _ | assumption | refine below_alloc ?_ _ | refine below_drewN ?_ _ | refine below_set ?_ _ (by simp; try omega) | refine Below.drew ?_)) : Below w.heap.size w _) hb)
             have k2 : w1.cell? ⟨w.heap.size, 2, none⟩ = some (.slice ar rn cr) := cell_later hb (by go_simp)
             clear hb)
          )
        go_ret
        exact ⟨rfl, HB.out⟩
end Go.Proofs.YtgpmglfcdbpgkaaGreatDoor
