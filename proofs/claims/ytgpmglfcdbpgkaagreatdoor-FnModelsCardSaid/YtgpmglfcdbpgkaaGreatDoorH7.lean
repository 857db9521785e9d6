/- Contracts and helpers (joined texts, part 7). The conditions stand at each theorem. -/
import Derived.Test.YtgpmglfcdbpgkaaGreatDoorH6
import Derived.Test.YtgpmglfcdbpgkaaGreatDoorMApS
import Derived.Test.YtgpmglfcdbpgkaaGreatDoorH1
import Derived.Test.YtgpmglfcdbpgkaaGreatDoorH4
import Derived.Test.YtgpmglfcdbpgkaaGreatDoorOpenD
import Derived.Test.YtgpmglfcdbpgkaaGreatDoorH3
import Derived.LaidMore
import Derived.MakeChecks
import Derived.Stop.LaidErr
import Derived.Shelf.Vars
import Derived.HandedShaped
/- The laws' own helpers likeRules5, likeModels5, at equal models. Condition: bounded sizes. -/
namespace Go.Proofs.YtgpmglfcdbpgkaaGreatDoor
open Go.RowKit

set_option maxHeartbeats 1000000 in
set_option maxRecDepth 100000 in
theorem c_likeRule (nm : ByteArray) (gs : List Tst) (es : List Asg) (ag ae ag' ae' : Option Addr) (cg ce cg' ce' gn en : Nat) (w : World) (hgn : gn = gs.length) (hen : en = es.length) (h1 : gn ≤ 1048576) (h2 : en ≤ 1048576) (hg : Rd w ag (tstCells gs)) (he : Rd w ae (asgCells es)) (hg' : Rd w ag' (tstCells gs)) (he' : Rd w ae' (asgCells es)) :
    Calls Tryz.prog 56 #[.agg #[.string nm, .slice ag gn cg, .slice ae en ce], .agg #[.string nm, .slice ag' gn cg', .slice ae' en ce']] w fun e w' => e = .returned (.bool true) ∧ Below w.heap.size w w' := by
  have HGN := Lib.hid hgn
  have HEN := Lib.hid hen
  have hnn : (nm.toList != nm.toList) = false := by simp
  have HB := Lib.hid (below_alloc (below_alloc (Below.refl w.heap.size w) (.cells #[.string nm, .slice ag gn cg, .slice ae en ce] 45)) (.cells #[.string nm, .slice ag' gn cg', .slice ae' en ce'] 45))
  have HG := Lib.hid (hg.below HB.out)
  have HE := Lib.hid (he.below HB.out)
  have HG' := Lib.hid (hg'.below HB.out)
  have HE' := Lib.hid (he'.below HB.out)
  have k1 : ((w.alloc (.cells #[.string nm, .slice ag gn cg, .slice ae en ce] 45)).alloc (.cells #[.string nm, .slice ag' gn cg', .slice ae' en ce'] 45)).cell? ⟨w.heap.size, 1, none⟩ = some (.slice ag gn cg) := by go_simp
  have k2 : ((w.alloc (.cells #[.string nm, .slice ag gn cg, .slice ae en ce] 45)).alloc (.cells #[.string nm, .slice ag' gn cg', .slice ae' en ce'] 45)).cell? ⟨w.heap.size, 2, none⟩ = some (.slice ae en ce) := by go_simp
  have l1 : ((w.alloc (.cells #[.string nm, .slice ag gn cg, .slice ae en ce] 45)).alloc (.cells #[.string nm, .slice ag' gn cg', .slice ae' en ce'] 45)).cell? ⟨w.heap.size + 1, 1, none⟩ = some (.slice ag' gn cg') := by go_simp
  have l2 : ((w.alloc (.cells #[.string nm, .slice ag gn cg, .slice ae en ce] 45)).alloc (.cells #[.string nm, .slice ag' gn cg', .slice ae' en ce'] 45)).cell? ⟨w.heap.size + 1, 2, none⟩ = some (.slice ae' en ce') := by go_simp
  clear hgn hen hg he hg' he'
  go_enter Tryz.func56, Tryz.ntmps56
  go_wp2_with (fail)
  generalize (w.alloc (.cells #[.string nm, .slice ag gn cg, .slice ae en ce] 45)).alloc (.cells #[.string nm, .slice ag' gn cg', .slice ae' en ce'] 45) = W at *
  have K2 := Lib.hid k2
  have L2 := Lib.hid l2
  go_loopw [5] (fun u wr => ∃ k : Nat, k ≤ gn ∧ u = .int .i64 k ∧ Hid (Below W.heap.size W wr)) (fun u _ => gn - (intOf u).toNat)
  case atStart => exact ⟨0, Nat.zero_le _, rfl, Lib.hid (Below.refl _ _)⟩
  case round =>
    obtain ⟨k, hk, rfl, hb⟩ := hrel
    replace k1 := cell_later hb.out k1
    replace k2 := cell_later hb.out k2
    replace l1 := cell_later hb.out l1
    replace l2 := cell_later hb.out l2
    by_cases hlt : k < gn
    · obtain ⟨⟨tv, tx, tq⟩, hx⟩ : ∃ x, gs[k]? = some x := ⟨_, List.getElem?_eq_getElem (by have := HGN.out; omega)⟩
      obtain ⟨b1, o1, rfl, _, g0, g1, g2⟩ := (HG.out.below hb.out).tst hx
      obtain ⟨b2, o2, rfl, _, e0, e1, e2⟩ := (HG'.out.below hb.out).tst hx
      have hk0 : (0 : Int) ≤ (k : Int) := by omega
      have hk1 : (k : Int) < gn := by omega
      clear hx
      dsimp only at g0 g1 g2 e0 e1 e2
      go_wp2_with (fail)
      refine wp_region_held_drew (S := (fun w' => (w'.cell? ⟨w.heap.size, 1, none⟩ = some (.slice (some ⟨b1, o1, none⟩) gn cg) ∧ w'.cell? ⟨w.heap.size + 1, 1, none⟩ = some (.slice (some ⟨b2, o2, none⟩) gn cg')) ∧ (w'.cell? ⟨b1, o1 + k * 3, none⟩ = some (.int .i64 tv) ∧ w'.cell? ⟨b1, o1 + k * 3 + 1, none⟩ = some (.int .i64 tx) ∧ w'.cell? ⟨b1, o1 + k * 3 + 2, none⟩ = some (.bool tq)) ∧ (w'.cell? ⟨b2, o2 + k * 3, none⟩ = some (.int .i64 tv) ∧ w'.cell? ⟨b2, o2 + k * 3 + 1, none⟩ = some (.int .i64 tx) ∧ w'.cell? ⟨b2, o2 + k * 3 + 2, none⟩ = some (.bool tq)))) (by kernel_rfl) ?_ (fun hHeld => ?_)
      · exact ⟨⟨k1, l1⟩, ⟨g0, g1, g2⟩, ⟨e0, e1, e2⟩⟩
      refine rg_take (v := ?_) 0 rfl (by kernel_rfl) (by kernel_rfl) (by kernel_rfl) (fun _ _ _ h => h) (by kernel_rfl) ?_ (by assumption) ?_
      rotate_left
      · (intro w' hSw; (try dsimp only at hSw); go_simp; first | done | with_reducible rfl)
      simp only [Act.put, List.setIfInBounds_toArray, List.set_cons_zero, List.set_cons_succ]
      refine rg_take (v := ?_) 1 rfl (by kernel_rfl) (by kernel_rfl) (by kernel_rfl) (fun _ _ _ h => h) (by kernel_rfl) ?_ (by assumption) ?_
      rotate_left
      · (intro w' hSw; (try dsimp only at hSw); go_simp; first | done | with_reducible rfl)
      simp only [Act.put, List.setIfInBounds_toArray, List.set_cons_zero, List.set_cons_succ]
      refine rg_take (v := ?_) 2 rfl (by kernel_rfl) (by kernel_rfl) (by kernel_rfl) (fun _ _ _ h => h) (by kernel_rfl) ?_ (by assumption) ?_
      rotate_left
      · (intro w' hSw; (try dsimp only at hSw); go_simp; first | done | with_reducible rfl)
      simp only [Act.put, List.setIfInBounds_toArray, List.set_cons_zero, List.set_cons_succ]
      refine rg_take (v := ?_) 3 rfl (by kernel_rfl) (by kernel_rfl) (by kernel_rfl) (fun _ _ _ h => h) (by kernel_rfl) ?_ (by assumption) ?_
      rotate_left
      · (intro w' hSw; (try dsimp only at hSw); go_simp; first | done | with_reducible rfl)
      simp only [Act.put, List.setIfInBounds_toArray, List.set_cons_zero, List.set_cons_succ]
      refine rg_take (v := ?_) 4 rfl (by kernel_rfl) (by kernel_rfl) (by kernel_rfl) (fun _ _ _ h => h) (by kernel_rfl) ?_ (by assumption) ?_
      rotate_left
      · (intro w' hSw; (try dsimp only at hSw); go_simp; first | done | with_reducible rfl)
      simp only [Act.put, List.setIfInBounds_toArray, List.set_cons_zero, List.set_cons_succ]
      refine rg_take (v := ?_) 5 rfl (by kernel_rfl) (by kernel_rfl) (by kernel_rfl) (fun _ _ _ h => h) (by kernel_rfl) ?_ (by assumption) ?_
      rotate_left
      · (intro w' hSw; (try dsimp only at hSw); go_simp; first | done | with_reducible rfl)
      simp only [Act.put, List.setIfInBounds_toArray, List.set_cons_zero, List.set_cons_succ]
      refine rg_take (v := ?_) 6 rfl (by kernel_rfl) (by kernel_rfl) (by kernel_rfl) (fun _ _ _ h => h) (by kernel_rfl) ?_ (by assumption) ?_
      rotate_left
      · (intro w' hSw; (try dsimp only at hSw); go_simp; first | done | with_reducible rfl)
      simp only [Act.put, List.setIfInBounds_toArray, List.set_cons_zero, List.set_cons_succ]
      refine rg_take (v := ?_) 7 rfl (by kernel_rfl) (by kernel_rfl) (by kernel_rfl) (fun _ _ _ h => h) (by kernel_rfl) ?_ (by assumption) ?_
      rotate_left
      · (intro w' hSw; (try dsimp only at hSw); go_simp; first | done | with_reducible rfl)
      simp only [Act.put, List.setIfInBounds_toArray, List.set_cons_zero, List.set_cons_succ]
      refine rg_take (v := ?_) 8 rfl (by kernel_rfl) (by kernel_rfl) (by kernel_rfl) (fun _ _ _ h => h) (by kernel_rfl) ?_ (by assumption) ?_
      rotate_left
      · (intro w' hSw; (try dsimp only at hSw); go_simp; first | done | with_reducible rfl)
      simp only [Act.put, List.setIfInBounds_toArray, List.set_cons_zero, List.set_cons_succ]
      refine rg_take (v := ?_) 9 rfl (by kernel_rfl) (by kernel_rfl) (by kernel_rfl) (fun _ _ _ h => h) (by kernel_rfl) ?_ (by assumption) ?_
      rotate_left
      · (intro w' hSw; (try dsimp only at hSw); go_simp; first | done | with_reducible rfl)
      simp only [Act.put, List.setIfInBounds_toArray, List.set_cons_zero, List.set_cons_succ]
      refine rg_take (v := .bool false) 10 rfl (by kernel_rfl) (by kernel_rfl) (by kernel_rfl) (fun _ _ _ h => h) (by kernel_rfl) ?_ (by assumption) ?_
      · intro w' hSw
        go_simp
        try simp
      simp only [Act.put, List.setIfInBounds_toArray, List.set_cons_zero, List.set_cons_succ]
      refine wpAnyH_done (by kernel_rfl) ?_ _
      clear hHeld
      go_wp2_with (fail)
      go_roundw
      case rel => exact ⟨k + 1, by omega, by go_num, Lib.hid hb.out.drew⟩
      case measure => simp [intOf]; omega
    · obtain rfl : k = gn := by omega
      go_wp2_with (fail)
      go_loopw [6] (fun u wq => ∃ k : Nat, k ≤ en ∧ u = .int .i64 k ∧ Hid (Below W.heap.size W wq)) (fun u _ => en - (intOf u).toNat)
      case atStart => exact ⟨0, Nat.zero_le _, rfl, hb⟩
      case round =>
        obtain ⟨j, hj, rfl, hb2⟩ := hrel
        clear k1 k2 l1 l2
        have k2 := cell_later hb2.out K2.out
        have l2 := cell_later hb2.out L2.out
        by_cases hlt : j < en
        · obtain ⟨⟨tv, tx⟩, hx⟩ : ∃ x, es[j]? = some x := ⟨_, List.getElem?_eq_getElem (by have := HEN.out; omega)⟩
          obtain ⟨b1, o1, rfl, _, g0, g1⟩ := (HE.out.below hb2.out).asg hx
          obtain ⟨b2, o2, rfl, _, e0, e1⟩ := (HE'.out.below hb2.out).asg hx
          have hk0 : (0 : Int) ≤ (j : Int) := by omega
          have hk1 : (j : Int) < en := by omega
          clear hx
          dsimp only at g0 g1 e0 e1
          go_wp2_with (fail)
          refine wp_region_held_drew (S := (fun w' => (w'.cell? ⟨w.heap.size, 2, none⟩ = some (.slice (some ⟨b1, o1, none⟩) en ce) ∧ w'.cell? ⟨w.heap.size + 1, 2, none⟩ = some (.slice (some ⟨b2, o2, none⟩) en ce')) ∧ (w'.cell? ⟨b1, o1 + j * 2, none⟩ = some (.int .i64 tv) ∧ w'.cell? ⟨b1, o1 + j * 2 + 1, none⟩ = some (.int .i64 tx)) ∧ (w'.cell? ⟨b2, o2 + j * 2, none⟩ = some (.int .i64 tv) ∧ w'.cell? ⟨b2, o2 + j * 2 + 1, none⟩ = some (.int .i64 tx)))) (by kernel_rfl) ?_ (fun hHeld => ?_)
          · exact ⟨⟨k2, l2⟩, ⟨g0, g1⟩, ⟨e0, e1⟩⟩
          refine rg_take (v := ?_) 0 rfl (by kernel_rfl) (by kernel_rfl) (by kernel_rfl) (fun _ _ _ h => h) (by kernel_rfl) ?_ (by assumption) ?_
          rotate_left
          · (intro w' hSw; (try dsimp only at hSw); go_simp; first | done | with_reducible rfl)
          simp only [Act.put, List.setIfInBounds_toArray, List.set_cons_zero, List.set_cons_succ]
          refine rg_take (v := ?_) 1 rfl (by kernel_rfl) (by kernel_rfl) (by kernel_rfl) (fun _ _ _ h => h) (by kernel_rfl) ?_ (by assumption) ?_
          rotate_left
          · (intro w' hSw; (try dsimp only at hSw); go_simp; first | done | with_reducible rfl)
          simp only [Act.put, List.setIfInBounds_toArray, List.set_cons_zero, List.set_cons_succ]
          refine rg_take (v := ?_) 2 rfl (by kernel_rfl) (by kernel_rfl) (by kernel_rfl) (fun _ _ _ h => h) (by kernel_rfl) ?_ (by assumption) ?_
          rotate_left
          · (intro w' hSw; (try dsimp only at hSw); go_simp; first | done | with_reducible rfl)
          simp only [Act.put, List.setIfInBounds_toArray, List.set_cons_zero, List.set_cons_succ]
          refine rg_take (v := ?_) 3 rfl (by kernel_rfl) (by kernel_rfl) (by kernel_rfl) (fun _ _ _ h => h) (by kernel_rfl) ?_ (by assumption) ?_
          rotate_left
          · (intro w' hSw; (try dsimp only at hSw); go_simp; first | done | with_reducible rfl)
          simp only [Act.put, List.setIfInBounds_toArray, List.set_cons_zero, List.set_cons_succ]
          refine rg_take (v := ?_) 4 rfl (by kernel_rfl) (by kernel_rfl) (by kernel_rfl) (fun _ _ _ h => h) (by kernel_rfl) ?_ (by assumption) ?_
          rotate_left
          · (intro w' hSw; (try dsimp only at hSw); go_simp; first | done | with_reducible rfl)
          simp only [Act.put, List.setIfInBounds_toArray, List.set_cons_zero, List.set_cons_succ]
          refine rg_take (v := ?_) 5 rfl (by kernel_rfl) (by kernel_rfl) (by kernel_rfl) (fun _ _ _ h => h) (by kernel_rfl) ?_ (by assumption) ?_
          rotate_left
          · (intro w' hSw; (try dsimp only at hSw); go_simp; first | done | with_reducible rfl)
          simp only [Act.put, List.setIfInBounds_toArray, List.set_cons_zero, List.set_cons_succ]
          refine rg_take (v := ?_) 6 rfl (by kernel_rfl) (by kernel_rfl) (by kernel_rfl) (fun _ _ _ h => h) (by kernel_rfl) ?_ (by assumption) ?_
          rotate_left
          · (intro w' hSw; (try dsimp only at hSw); go_simp; first | done | with_reducible rfl)
          simp only [Act.put, List.setIfInBounds_toArray, List.set_cons_zero, List.set_cons_succ]
          refine rg_take (v := ?_) 7 rfl (by kernel_rfl) (by kernel_rfl) (by kernel_rfl) (fun _ _ _ h => h) (by kernel_rfl) ?_ (by assumption) ?_
          rotate_left
          · (intro w' hSw; (try dsimp only at hSw); go_simp; first | done | with_reducible rfl)
          simp only [Act.put, List.setIfInBounds_toArray, List.set_cons_zero, List.set_cons_succ]
          refine rg_take (v := ?_) 8 rfl (by kernel_rfl) (by kernel_rfl) (by kernel_rfl) (fun _ _ _ h => h) (by kernel_rfl) ?_ (by assumption) ?_
          rotate_left
          · (intro w' hSw; (try dsimp only at hSw); go_simp; first | done | with_reducible rfl)
          simp only [Act.put, List.setIfInBounds_toArray, List.set_cons_zero, List.set_cons_succ]
          refine rg_take (v := ?_) 9 rfl (by kernel_rfl) (by kernel_rfl) (by kernel_rfl) (fun _ _ _ h => h) (by kernel_rfl) ?_ (by assumption) ?_
          rotate_left
          · (intro w' hSw; (try dsimp only at hSw); go_simp; first | done | with_reducible rfl)
          simp only [Act.put, List.setIfInBounds_toArray, List.set_cons_zero, List.set_cons_succ]
          refine rg_take (v := .bool false) 10 rfl (by kernel_rfl) (by kernel_rfl) (by kernel_rfl) (fun _ _ _ h => h) (by kernel_rfl) ?_ (by assumption) ?_
          · intro w' hSw
            go_simp
            try simp
          simp only [Act.put, List.setIfInBounds_toArray, List.set_cons_zero, List.set_cons_succ]
          refine wpAnyH_done (by kernel_rfl) ?_ _
          clear hHeld
          go_wp2_with (fail)
          go_roundw
          case rel => exact ⟨j + 1, by omega, by go_num, Lib.hid hb2.out.drew⟩
          case measure => simp [intOf]; omega
        · obtain rfl : j = en := by omega
          go_wp2_with (fail)
          go_ret
          exact ⟨rfl, below_chain HB.out hb2.out⟩
set_option maxHeartbeats 1000000 in
set_option maxRecDepth 100000 in
theorem c_likeModel (m : Mdl) (az ax ar az' ax' ar' : Option Addr) (cz cs cr cz' cs' cr' : Nat) (w : World) (hs : MdlOk m) (h : Md w az ax ar m) (h' : Md w az' ax' ar' m) :
    Calls Tryz.prog 18 #[mv m az ax ar cz cs cr, mv m az' ax' ar' cz' cs' cr'] w fun e w' => e = .returned (.bool true) ∧ Below w.heap.size w w' := by
  have LZ : ∀ zs : List Int, likB zs zs = true := fun zs => by unfold likB; simp
  have HLZ := Lib.hid (fun w' h h' => c_likeB az az' cz cz' _ _ m.sz m.sz w' rfl rfl hs.1 hs.1 h h')
  have HLT := Lib.hid (fun w' h h' => c_likeB ax ax' cs cs' _ _ m.st m.st w' rfl rfl hs.2.1 hs.2.1 h h')
  rw [LZ] at HLZ HLT
  have hrs := hs.2.2.1
  have HRL := Lib.hid (fun (r : Rul) (hr : r ∈ m.rs) ag ae ag' ae' cg ce cg' ce' w' hg he hg' he' => c_likeRule r.nm r.gs r.es ag ae ag' ae' cg ce cg' ce' _ _ w' rfl rfl (hs.2.2.2 r hr).1 (hs.2.2.2 r hr).2 hg he hg' he')
  obtain ⟨sz, st, rs⟩ := m
  dsimp only [mv] at *
  have HB := Lib.hid (below_alloc (below_alloc (Below.refl w.heap.size w) (.cells #[.slice az sz.length cz, .slice ax st.length cs, .slice ar rs.length cr] 25)) (.cells #[.slice az' sz.length cz', .slice ax' st.length cs', .slice ar' rs.length cr'] 25))
  have HM := Lib.hid (h.below HB.out)
  have HM' := Lib.hid (h'.below HB.out)
  have k0 : ((w.alloc (.cells #[.slice az sz.length cz, .slice ax st.length cs, .slice ar rs.length cr] 25)).alloc (.cells #[.slice az' sz.length cz', .slice ax' st.length cs', .slice ar' rs.length cr'] 25)).cell? ⟨w.heap.size, 0, none⟩ = some (.slice az sz.length cz) := by go_simp
  have k1 : ((w.alloc (.cells #[.slice az sz.length cz, .slice ax st.length cs, .slice ar rs.length cr] 25)).alloc (.cells #[.slice az' sz.length cz', .slice ax' st.length cs', .slice ar' rs.length cr'] 25)).cell? ⟨w.heap.size, 1, none⟩ = some (.slice ax st.length cs) := by go_simp
  have k2 : ((w.alloc (.cells #[.slice az sz.length cz, .slice ax st.length cs, .slice ar rs.length cr] 25)).alloc (.cells #[.slice az' sz.length cz', .slice ax' st.length cs', .slice ar' rs.length cr'] 25)).cell? ⟨w.heap.size, 2, none⟩ = some (.slice ar rs.length cr) := by go_simp
  have l0 : ((w.alloc (.cells #[.slice az sz.length cz, .slice ax st.length cs, .slice ar rs.length cr] 25)).alloc (.cells #[.slice az' sz.length cz', .slice ax' st.length cs', .slice ar' rs.length cr'] 25)).cell? ⟨w.heap.size + 1, 0, none⟩ = some (.slice az' sz.length cz') := by go_simp
  have l1 : ((w.alloc (.cells #[.slice az sz.length cz, .slice ax st.length cs, .slice ar rs.length cr] 25)).alloc (.cells #[.slice az' sz.length cz', .slice ax' st.length cs', .slice ar' rs.length cr'] 25)).cell? ⟨w.heap.size + 1, 1, none⟩ = some (.slice ax' st.length cs') := by go_simp
  have l2 : ((w.alloc (.cells #[.slice az sz.length cz, .slice ax st.length cs, .slice ar rs.length cr] 25)).alloc (.cells #[.slice az' sz.length cz', .slice ax' st.length cs', .slice ar' rs.length cr'] 25)).cell? ⟨w.heap.size + 1, 2, none⟩ = some (.slice ar' rs.length cr') := by go_simp
  clear h h' hs LZ
  have HRN := Lib.hid (rfl : rs.length = rs.length)
  generalize sz.length = sn at *
  generalize st.length = tn at *
  generalize hrn : rs.length = rn at *
  go_enter Tryz.func18, Tryz.ntmps18
  go_upto_region 1 with (fail)
  generalize (w.alloc (.cells #[.slice az sn cz, .slice ax tn cs, .slice ar rn cr] 25)).alloc (.cells #[.slice az' sn cz', .slice ax' tn cs', .slice ar' rn cr'] 25) = W at *
  have HRN2 := Lib.hid hrn
  clear hrn HRN
  go_wp2_with (fail)
  refine (HLZ.out _ HM.out.z HM'.out.z).mono ?_
  rintro e w1 ⟨rfl, hb⟩
  replace k1 := cell_later hb k1
  replace k2 := cell_later hb k2
  replace l1 := cell_later hb l1
  replace l2 := cell_later hb l2
  have HB1 := Lib.hid hb
  clear hb k0 l0 HLZ
  go_wp2_with (fail)
  refine (HLT.out _ (HM.out.s.below HB1.out) (HM'.out.s.below HB1.out)).mono ?_
  rintro e w2 ⟨rfl, hb⟩
  replace k2 := cell_later hb k2
  replace l2 := cell_later hb l2
  have HB2 := Lib.hid (below_chain HB1.out hb)
  have K2 := Lib.hid k2
  have L2 := Lib.hid l2
  clear hb k1 l1 HLT HB1
  go_wp2_with (fail)
  go_loopw [5] (fun u wr => ∃ k : Nat, k ≤ rn ∧ u = .int .i64 k ∧ Hid (Below w2.heap.size w2 wr)) (fun u _ => rn - (intOf u).toNat)
  case atStart => exact ⟨0, Nat.zero_le _, rfl, Lib.hid (Below.refl _ _)⟩
  case round =>
    obtain ⟨k, hk, rfl, hb⟩ := hrel
    have HBr := Lib.hid (below_chain HB2.out hb.out)
    clear k2 l2
    have k2 := cell_later hb.out K2.out
    have l2 := cell_later hb.out L2.out
    by_cases hlt : k < rn
    · obtain ⟨r, hr⟩ : ∃ r, rs[k]? = some r := ⟨_, List.getElem?_eq_getElem (by have := HRN2.out; omega)⟩
      obtain ⟨b1, o1, ag, cg, ae, ce, rfl, _, g0, g1, g2, hg, he⟩ := (HM.out.below HBr.out).r.at hr
      obtain ⟨b2, o2, ag', cg', ae', ce', rfl, _, e0, e1, e2, hg', he'⟩ := (HM'.out.below HBr.out).r.at hr
      have HK := Lib.hid (HRL.out r (List.mem_of_getElem? hr) ag ae ag' ae' cg ce cg' ce')
      have HQ := Lib.hid (And.intro (And.intro hg he) (And.intro hg' he'))
      have hk0 : (0 : Int) ≤ (k : Int) := by omega
      have hk1 : (k : Int) < rn := by omega
      clear hr hg he hg' he'
      obtain ⟨nm, gs, es⟩ := r
      dsimp only at HK HQ g0 g1 g2 e0 e1 e2
      generalize gs.length = gn at *
      generalize es.length = en at *
      go_wp2_with (fail)
      refine wp_region_held_drew (S := (fun w' => (w'.cell? ⟨w.heap.size, 2, none⟩ = some (.slice (some ⟨b1, o1, none⟩) rn cr) ∧ w'.cell? ⟨w.heap.size + 1, 2, none⟩ = some (.slice (some ⟨b2, o2, none⟩) rn cr')) ∧ (w'.cell? ⟨b1, o1 + k * 3, none⟩ = some (.string nm) ∧ w'.cell? ⟨b1, o1 + k * 3 + 1, none⟩ = some (.slice ag gn cg) ∧ w'.cell? ⟨b1, o1 + k * 3 + 2, none⟩ = some (.slice ae en ce)) ∧ (w'.cell? ⟨b2, o2 + k * 3, none⟩ = some (.string nm) ∧ w'.cell? ⟨b2, o2 + k * 3 + 1, none⟩ = some (.slice ag' gn cg') ∧ w'.cell? ⟨b2, o2 + k * 3 + 2, none⟩ = some (.slice ae' en ce')))) (by kernel_rfl) ?_ (fun hHeld => ?_)
      · exact ⟨⟨k2, l2⟩, ⟨g0, g1, g2⟩, ⟨e0, e1, e2⟩⟩
      refine rg_take (v := ?_) 0 rfl (by kernel_rfl) (by kernel_rfl) (by kernel_rfl) (fun _ _ _ h => h) (by kernel_rfl) ?_ (by assumption) ?_
      rotate_left
      · (intro w' hSw; (try dsimp only at hSw); go_simp; first | done | with_reducible rfl)
      simp only [Act.put, List.setIfInBounds_toArray, List.set_cons_zero, List.set_cons_succ]
      refine rg_take (v := ?_) 1 rfl (by kernel_rfl) (by kernel_rfl) (by kernel_rfl) (fun _ _ _ h => h) (by kernel_rfl) ?_ (by assumption) ?_
      rotate_left
      · (intro w' hSw; (try dsimp only at hSw); go_simp; first | done | with_reducible rfl)
      simp only [Act.put, List.setIfInBounds_toArray, List.set_cons_zero, List.set_cons_succ]
      refine rg_take (v := ?_) 2 rfl (by kernel_rfl) (by kernel_rfl) (by kernel_rfl) (fun _ _ _ h => h) (by kernel_rfl) ?_ (by assumption) ?_
      rotate_left
      · (intro w' hSw; (try dsimp only at hSw); go_simp; first | done | with_reducible rfl)
      simp only [Act.put, List.setIfInBounds_toArray, List.set_cons_zero, List.set_cons_succ]
      refine rg_take (v := ?_) 3 rfl (by kernel_rfl) (by kernel_rfl) (by kernel_rfl) (fun _ _ _ h => h) (by kernel_rfl) ?_ (by assumption) ?_
      rotate_left
      · (intro w' hSw; (try dsimp only at hSw); go_simp; first | done | with_reducible rfl)
      simp only [Act.put, List.setIfInBounds_toArray, List.set_cons_zero, List.set_cons_succ]
      refine rg_take (v := ?_) 4 rfl (by kernel_rfl) (by kernel_rfl) (by kernel_rfl) (fun _ _ _ h => h) (by kernel_rfl) ?_ (by assumption) ?_
      rotate_left
      · (intro w' hSw; (try dsimp only at hSw); go_simp; first | done | with_reducible rfl)
      simp only [Act.put, List.setIfInBounds_toArray, List.set_cons_zero, List.set_cons_succ]
      refine rg_take (v := ?_) 5 rfl (by kernel_rfl) (by kernel_rfl) (by kernel_rfl) (fun _ _ _ h => h) (by kernel_rfl) ?_ (by assumption) ?_
      rotate_left
      · (intro w' hSw; (try dsimp only at hSw); go_simp; first | done | with_reducible rfl)
      simp only [Act.put, List.setIfInBounds_toArray, List.set_cons_zero, List.set_cons_succ]
      refine rg_take (v := ?_) 6 rfl (by kernel_rfl) (by kernel_rfl) (by kernel_rfl) (fun _ _ _ h => h) (by kernel_rfl) ?_ (by assumption) ?_
      rotate_left
      · (intro w' hSw; (try dsimp only at hSw); go_simp; first | done | with_reducible rfl)
      simp only [Act.put, List.setIfInBounds_toArray, List.set_cons_zero, List.set_cons_succ]
      refine rg_take (v := ?_) 7 rfl (by kernel_rfl) (by kernel_rfl) (by kernel_rfl) (fun _ _ _ h => h) (by kernel_rfl) ?_ (by assumption) ?_
      rotate_left
      · (intro w' hSw; (try dsimp only at hSw); go_simp; first | done | with_reducible rfl)
      simp only [Act.put, List.setIfInBounds_toArray, List.set_cons_zero, List.set_cons_succ]
      refine rg_take (v := ?_) 8 rfl (by kernel_rfl) (by kernel_rfl) (by kernel_rfl) (fun _ _ _ h => h) (by kernel_rfl) ?_ (by assumption) ?_
      rotate_left
      · (intro w' hSw; (try dsimp only at hSw); go_simp; first | done | with_reducible rfl)
      simp only [Act.put, List.setIfInBounds_toArray, List.set_cons_zero, List.set_cons_succ]
      refine rg_take (v := ?_) 9 rfl (by kernel_rfl) (by kernel_rfl) (by kernel_rfl) (fun _ _ _ h => h) (by kernel_rfl) ?_ (by assumption) ?_
      rotate_left
      · (intro w' hSw; (try dsimp only at hSw); go_simp; first | done | with_reducible rfl)
      simp only [Act.put, List.setIfInBounds_toArray, List.set_cons_zero, List.set_cons_succ]
      refine rg_run 10 rfl (by kernel_rfl) (by kernel_rfl) (fun K hK => ?_)
      go_simp
      refine (HK.out _ HQ.out.1.1.drew HQ.out.1.2.drew HQ.out.2.1.drew HQ.out.2.2.drew).mono ?_
      rintro e w3 ⟨rfl, hb3⟩
      have hb' : Below wr.heap.size wr w3 := below_chain ((Below.refl _ _).drew) hb3
      replace k2 := cell_later hb' k2
      replace l2 := cell_later hb' l2
      replace g0 := cell_later hb' g0
      replace g1 := cell_later hb' g1
      replace g2 := cell_later hb' g2
      replace e0 := cell_later hb' e0
      replace e1 := cell_later hb' e1
      replace e2 := cell_later hb' e2
      have HB3 := Lib.hid (below_chain hb.out hb')
      clear hb3 hb' HQ HK
      go_wp2
      clear hHeld
      refine hK.out _ _ ⟨⟨k2, l2⟩, ⟨g0, g1, g2⟩, ⟨e0, e1, e2⟩⟩ (fun hHeld => ?_)
      clear hK K
      try simp only [Act.put, List.setIfInBounds_toArray, List.set_cons_zero, List.set_cons_succ]
      refine rg_take (v := ?_) 11 rfl (by kernel_rfl) (by kernel_rfl) (by kernel_rfl) (fun _ _ _ h => h) (by kernel_rfl) ?_ (by assumption) ?_
      rotate_left
      · (intro w' hSw; (try dsimp only at hSw); go_simp; first | done | with_reducible rfl)
      simp only [Act.put, List.setIfInBounds_toArray, List.set_cons_zero, List.set_cons_succ]
      refine wpAnyH_done (by kernel_rfl) ?_ _
      clear hHeld
      go_wp2_with (fail)
      go_roundw
      case rel => exact ⟨k + 1, by omega, by go_num, HB3⟩
      case measure => simp [intOf]; omega
    · obtain rfl : k = rn := by omega
      go_wp2_with (fail)
      go_ret
      exact ⟨rfl, below_chain HB.out HBr.out⟩
end Go.Proofs.YtgpmglfcdbpgkaaGreatDoor

/- Draws of texts of models, and of a rule to be applied. Condition: at most 4096 bytes of code. -/
namespace Go.Proofs.YtgpmglfcdbpgkaaGreatDoor
open Go.RowKit

theorem rule_len {r : Rul} (h : RulS r) (h1 : r.nm.size ≤ 16) (h2 : r.gs.length ≤ 24) (h3 : r.es.length ≤ 4) : (txRule r).length ≤ 300 := by
  have a := tests_len h
  have b := asgs_len h
  have c : r.nm.data.toList.length ≤ 16 := by simpa using h1
  unfold txRule
  simp only [List.length_append, List.length_cons]
  omega
theorem lines_len : ∀ (ls : List (List UInt8)), (∀ l ∈ ls, l.length ≤ 300) → (ls.flatMap (· ++ [10])).length ≤ 301 * ls.length
  | [], _ => by simp
  | l :: ls, h => by
    have ih := lines_len ls (fun x hx => h x (List.mem_cons_of_mem _ hx))
    have h0 := h l (List.mem_cons_self ..)
    simp only [List.flatMap_cons, List.length_append, List.length_cons, List.length_nil]
    omega
theorem out_len (m : Mdl) : (outT m).length ≤ 100000 := by
  unfold outT
  rcases h : mdB m with _ | _
  · simp
  · have hN := valid_N h
    show (txModel m).length ≤ _
    unfold txModel
    have h1 := lines_len (txHead m :: m.rs.map txRule) (fun l hl => by
      rcases List.mem_cons.1 hl with rfl | hl
      · have := head_len hN; omega
      · obtain ⟨r, hr, rfl⟩ := List.mem_map.1 hl
        have h2 := hN.g r hr
        exact rule_len (hN.s.rs r hr) h2.1 h2.2.1 h2.2.2)
    have h2 := hN.r
    simp only [List.length_cons, List.length_map] at h1
    omega
theorem strs8_at {w : World} (r : Nat) (hr : r < 8) : ∃ nm : ByteArray, nm.size ≤ 1 ∧ (w.alloc (Obj.cells #[Value.string ⟨#[48]⟩, Value.string ⟨#[49]⟩, Value.string ⟨#[32]⟩, Value.string ⟨#[45]⟩, Value.string ⟨#[46]⟩, Value.string ⟨#[97]⟩, Value.string ⟨#[10]⟩, Value.string ⟨#[58]⟩] 9)).cell? ⟨w.heap.size, r, none⟩ = some (.string nm) := by
  match r, hr with
  | 0, _ => exact ⟨⟨#[48]⟩, by decide, by go_simp⟩
  | 1, _ => exact ⟨⟨#[49]⟩, by decide, by go_simp⟩
  | 2, _ => exact ⟨⟨#[32]⟩, by decide, by go_simp⟩
  | 3, _ => exact ⟨⟨#[45]⟩, by decide, by go_simp⟩
  | 4, _ => exact ⟨⟨#[46]⟩, by decide, by go_simp⟩
  | 5, _ => exact ⟨⟨#[97]⟩, by decide, by go_simp⟩
  | 6, _ => exact ⟨⟨#[10]⟩, by decide, by go_simp⟩
  | 7, _ => exact ⟨⟨#[58]⟩, by decide, by go_simp⟩
set_option maxHeartbeats 1000000 in
set_option maxRecDepth 100000 in
theorem c_l01Damage (B : Nat) (t : ByteArray) (w : World) (h : Src w B) (ht : t.size ≤ 1000000) :
    Calls Tryz.prog 39 #[.pointer (some ⟨B, 0, none⟩), .string t] w fun e w' => ∃ u : ByteArray, e = .returned (.string u) ∧ u.size ≤ t.size + 1 ∧ DW B w w' := by
  have hBl := h.lt
  have hadd : IntKind.i64.wrap ((t.size : Int) + 1) = t.size + 1 := IntWalk.i64_in _ (by omega)
  go_enter Tryz.func39, Tryz.ntmps39
  go_wp2_with (fail)
  refine (c_NextD B _ _ h (by omega)).mono ?_
  rintro e w1 ⟨kk, rfl, hk0, hk1, _, hd⟩
  have hk2 := hk1 (by omega)
  obtain ⟨k, rfl⟩ : ∃ k : Nat, kk = k := ⟨kk.toNat, by omega⟩
  have HD1 := Lib.hid hd
  have hk3 : (k : Int) ≤ (t.size : Int) := by omega
  have hk4 : k ≤ t.size := by omega
  clear hd hk1 hk2 h
  go_wp2_with (fail)
  refine (c_NextD B _ _ HD1.out.s (by omega)).mono ?_
  rintro e w2 ⟨c, rfl, hc0, hc1, _, hd⟩
  have HD2 := Lib.hid (HD1.out.then_ hd)
  clear hd hc1 HD1
  by_cases h0 : c = 0
  · subst h0
    go_wp2_with (fail)
    go_ret
    exact ⟨_, rfl, by simp; omega, HD2.out⟩
  have hb0 : (c == 0) = false := by simpa using h0
  by_cases h1 : c = 1
  · subst h1
    have hB2 := HD2.out.s.lt
    go_wp2_with (fail)
    refine wp_region_heldE 13 (S := (fun _ => True)) (by kernel_rfl) ?_ (fun hHeld => ?_)
    · exact trivial
    refine rgE_take (v := ?_) 0 12 rfl (by kernel_rfl) (by kernel_rfl) (by kernel_rfl) (by kernel_rfl) (by kernel_rfl) (fun _ _ _ h => h) (by kernel_rfl) ?_ (by assumption) ?_
    rotate_left
    · (intro w' hSw; (try dsimp only at hSw); go_simp; first | done | with_reducible rfl)
    simp only [Act.put, List.setIfInBounds_toArray, List.set_cons_zero, List.set_cons_succ]
    refine rgE_take (v := ?_) 1 12 rfl (by kernel_rfl) (by kernel_rfl) (by kernel_rfl) (by kernel_rfl) (by kernel_rfl) (fun _ _ _ h => h) (by kernel_rfl) ?_ (by assumption) ?_
    rotate_left
    · (intro w' hSw; (try dsimp only at hSw); go_simp; first | done | with_reducible rfl)
    simp only [Act.put, List.setIfInBounds_toArray, List.set_cons_zero, List.set_cons_succ]
    refine rgE_take (v := ?_) 2 12 rfl (by kernel_rfl) (by kernel_rfl) (by kernel_rfl) (by kernel_rfl) (by kernel_rfl) (fun _ _ _ h => h) (by kernel_rfl) ?_ (by assumption) ?_
    rotate_left
    · (intro w' hSw; (try dsimp only at hSw); go_simp; first | done | with_reducible rfl)
    simp only [Act.put, List.setIfInBounds_toArray, List.set_cons_zero, List.set_cons_succ]
    refine rgE_take (v := ?_) 4 12 rfl (by kernel_rfl) (by kernel_rfl) (by kernel_rfl) (by kernel_rfl) (by kernel_rfl) (fun _ _ _ h => h) (by kernel_rfl) ?_ (by assumption) ?_
    rotate_left
    · (intro w' hSw; (try dsimp only at hSw); go_simp; first | done | with_reducible rfl)
    simp only [Act.put, List.setIfInBounds_toArray, List.set_cons_zero, List.set_cons_succ]
    refine rgE_take (v := ?_) 9 12 rfl (by kernel_rfl) (by kernel_rfl) (by kernel_rfl) (by kernel_rfl) (by kernel_rfl) (fun _ _ _ h => h) (by kernel_rfl) ?_ (by assumption) ?_
    rotate_left
    · (intro w' hSw; (try dsimp only at hSw); go_simp; first | done | with_reducible rfl)
    simp only [Act.put, List.setIfInBounds_toArray, List.set_cons_zero, List.set_cons_succ]
    refine rgE_take (v := ?_) 10 12 rfl (by kernel_rfl) (by kernel_rfl) (by kernel_rfl) (by kernel_rfl) (by kernel_rfl) (fun _ _ _ h => h) (by kernel_rfl) ?_ (by assumption) ?_
    rotate_left
    · (intro w' hSw; (try dsimp only at hSw); go_simp; first | done | with_reducible rfl)
    simp only [Act.put, List.setIfInBounds_toArray, List.set_cons_zero, List.set_cons_succ]
    refine rgE_take (v := ?_) 11 12 rfl (by kernel_rfl) (by kernel_rfl) (by kernel_rfl) (by kernel_rfl) (by kernel_rfl) (fun _ _ _ h => h) (by kernel_rfl) ?_ (by assumption) ?_
    rotate_left
    · (intro w' hSw; (try dsimp only at hSw); go_simp; first | done | with_reducible rfl)
    simp only [Act.put, List.setIfInBounds_toArray, List.set_cons_zero, List.set_cons_succ]
    refine rgE_two 3 5 rfl rfl (by kernel_rfl) (by kernel_rfl) (by kernel_rfl) (by decide) (by decide) (fun K hK => ?_) (fun K hK => ?_)
    · go_simp
      clear hHeld
      refine hK.out _ _ (.inr trivial) (fun hHeld => ?_)
      clear hK K
      try simp only [Act.put, List.setIfInBounds_toArray, List.set_cons_zero, List.set_cons_succ]
      have HD3 := Lib.hid ((HD2.out.drew hBl).alloc hBl (Obj.cells #[Value.string ⟨#[48]⟩, Value.string ⟨#[49]⟩, Value.string ⟨#[32]⟩, Value.string ⟨#[45]⟩, Value.string ⟨#[46]⟩, Value.string ⟨#[97]⟩, Value.string ⟨#[10]⟩, Value.string ⟨#[58]⟩] 9))
      refine rgE_run 5 rfl (by kernel_rfl) (by kernel_rfl) (by decide) (fun K hK => ?_)
      go_simp
      refine (c_NextD B _ _ HD3.out.s (by omega)).mono ?_
      rintro e w3 ⟨rr, rfl, hr0, hr1, _, hd⟩
      have hr7 := hr1 (by omega)
      obtain ⟨r, rfl⟩ : ∃ r : Nat, rr = r := ⟨rr.toNat, by omega⟩
      have hr6 : r < 8 := by omega
      have hr6i : (r : Int) < 8 := by omega
      obtain ⟨nm, hnm, g5⟩ := strs8_at (w := w2.drew) r hr6
      replace g5 : w3.cell? ⟨w2.heap.size, r, none⟩ = some (.string nm) := hd.cell (by exact g5) (by have := hB2; omega)
      have hl1 : ¬ 9223372036854775807 < k + nm.size := by omega
      have hl2 : ¬ 9223372036854775807 < k + nm.size + (t.size - k) := by omega
      have HD4 := Lib.hid (HD3.out.then_ hd)
      clear hd hr1 hr7 HD3
      go_wp2
      clear hHeld
      refine hK.out _ _ (.inr trivial) (fun hHeld => ?_)
      clear hK K
      try simp only [Act.put, List.setIfInBounds_toArray, List.set_cons_zero, List.set_cons_succ]
      refine rgE_take (v := ?_) 6 12 rfl (by kernel_rfl) (by kernel_rfl) (by kernel_rfl) (by kernel_rfl) (by kernel_rfl) (fun _ _ _ h => h) (by kernel_rfl) ?_ (by assumption) ?_
      rotate_left
      · (intro w' hSw; (try dsimp only at hSw); go_simp; first | done | with_reducible rfl)
      simp only [Act.put, List.setIfInBounds_toArray, List.set_cons_zero, List.set_cons_succ]
      refine rgE_run 7 rfl (by kernel_rfl) (by kernel_rfl) (by decide) (fun K hK => ?_)
      go_simp
      clear hHeld
      refine hK.out _ _ (.inr trivial) (fun hHeld => ?_)
      clear hK K
      try simp only [Act.put, List.setIfInBounds_toArray, List.set_cons_zero, List.set_cons_succ]
      refine rgE_take (v := ?_) 8 12 rfl (by kernel_rfl) (by kernel_rfl) (by kernel_rfl) (by kernel_rfl) (by kernel_rfl) (fun _ _ _ h => h) (by kernel_rfl) ?_ (by assumption) ?_
      rotate_left
      · (intro w' hSw; (try dsimp only at hSw); go_simp; first | done | with_reducible rfl)
      simp only [Act.put, List.setIfInBounds_toArray, List.set_cons_zero, List.set_cons_succ]
      refine rgE_take (v := ?_) 12 12 rfl (by kernel_rfl) (by kernel_rfl) (by kernel_rfl) (by kernel_rfl) (by kernel_rfl) (fun _ _ _ h => h) (by kernel_rfl) ?_ (by assumption) ?_
      rotate_left
      · (intro w' hSw; (try dsimp only at hSw); go_simp; first | done | with_reducible rfl)
      simp only [Act.put, List.setIfInBounds_toArray, List.set_cons_zero, List.set_cons_succ]
      refine rgE_last rfl (by kernel_rfl) (by kernel_rfl) (by kernel_rfl) (fun K hK => ?_)
      go_simp
      go_simp
      clear hHeld
      refine hK.out _ _ ?_
      clear hK K
      try simp only [Act.put, List.setIfInBounds_toArray, List.set_cons_zero, List.set_cons_succ]
      go_wp2_with (fail)
      go_ret
      exact ⟨_, rfl, by simp; omega, HD4.out⟩
    · go_simp
      refine (c_NextD B _ _ (HD2.out.drew hBl).s (by omega)).mono ?_
      rintro e w3 ⟨rr, rfl, hr0, hr1, _, hd⟩
      have hr7 := hr1 (by omega)
      obtain ⟨r, rfl⟩ : ∃ r : Nat, rr = r := ⟨rr.toNat, by omega⟩
      have hr6 : r < 8 := by omega
      have hr6i : (r : Int) < 8 := by omega
      obtain ⟨nm, hnm, g5⟩ := strs8_at (w := w3) r hr6
      have hl1 : ¬ 9223372036854775807 < k + nm.size := by omega
      have hl2 : ¬ 9223372036854775807 < k + nm.size + (t.size - k) := by omega
      have HD3 := Lib.hid ((HD2.out.drew hBl).then_ hd)
      clear hd hr1 hr7
      go_wp2
      clear hHeld
      refine hK.out _ _ (.inr trivial) (fun hHeld => ?_)
      clear hK K
      try simp only [Act.put, List.setIfInBounds_toArray, List.set_cons_zero, List.set_cons_succ]
      refine rgE_run 3 rfl (by kernel_rfl) (by kernel_rfl) (by decide) (fun K hK => ?_)
      go_simp
      clear hHeld
      refine hK.out _ _ (.inr trivial) (fun hHeld => ?_)
      clear hK K
      try simp only [Act.put, List.setIfInBounds_toArray, List.set_cons_zero, List.set_cons_succ]
      have HD4 := Lib.hid (HD3.out.alloc hBl (Obj.cells #[Value.string ⟨#[48]⟩, Value.string ⟨#[49]⟩, Value.string ⟨#[32]⟩, Value.string ⟨#[45]⟩, Value.string ⟨#[46]⟩, Value.string ⟨#[97]⟩, Value.string ⟨#[10]⟩, Value.string ⟨#[58]⟩] 9))
      refine rgE_take (v := ?_) 6 12 rfl (by kernel_rfl) (by kernel_rfl) (by kernel_rfl) (by kernel_rfl) (by kernel_rfl) (fun _ _ _ h => h) (by kernel_rfl) ?_ (by assumption) ?_
      rotate_left
      · (intro w' hSw; (try dsimp only at hSw); go_simp; first | done | with_reducible rfl)
      simp only [Act.put, List.setIfInBounds_toArray, List.set_cons_zero, List.set_cons_succ]
      refine rgE_run 7 rfl (by kernel_rfl) (by kernel_rfl) (by decide) (fun K hK => ?_)
      go_simp
      clear hHeld
      refine hK.out _ _ (.inr trivial) (fun hHeld => ?_)
      clear hK K
      try simp only [Act.put, List.setIfInBounds_toArray, List.set_cons_zero, List.set_cons_succ]
      refine rgE_take (v := ?_) 8 12 rfl (by kernel_rfl) (by kernel_rfl) (by kernel_rfl) (by kernel_rfl) (by kernel_rfl) (fun _ _ _ h => h) (by kernel_rfl) ?_ (by assumption) ?_
      rotate_left
      · (intro w' hSw; (try dsimp only at hSw); go_simp; first | done | with_reducible rfl)
      simp only [Act.put, List.setIfInBounds_toArray, List.set_cons_zero, List.set_cons_succ]
      refine rgE_take (v := ?_) 12 12 rfl (by kernel_rfl) (by kernel_rfl) (by kernel_rfl) (by kernel_rfl) (by kernel_rfl) (fun _ _ _ h => h) (by kernel_rfl) ?_ (by assumption) ?_
      rotate_left
      · (intro w' hSw; (try dsimp only at hSw); go_simp; first | done | with_reducible rfl)
      simp only [Act.put, List.setIfInBounds_toArray, List.set_cons_zero, List.set_cons_succ]
      refine rgE_last rfl (by kernel_rfl) (by kernel_rfl) (by kernel_rfl) (fun K hK => ?_)
      go_simp
      go_simp
      clear hHeld
      refine hK.out _ _ ?_
      clear hK K
      try simp only [Act.put, List.setIfInBounds_toArray, List.set_cons_zero, List.set_cons_succ]
      go_wp2_with (fail)
      go_ret
      exact ⟨_, rfl, by simp; omega, HD4.out⟩
  have hb1 : (c == 1) = false := by simpa using h1
  by_cases h2 : c = 2
  · subst h2
    by_cases hlt : k < t.size
    · have hlti : (k : Int) < (t.size : Int) := by omega
      have hk5 : (k : Int) + 1 ≤ (t.size : Int) := by omega
      have hk6 : (0 : Int) ≤ (k : Int) + 1 := by omega
      have hl3 : ¬ 9223372036854775807 < k + (t.size - (k + 1)) := by omega
      have hadd2 : IntKind.i64.wrap ((k : Int) + 1) = k + 1 := IntWalk.i64_in _ (by omega)
      go_wp2_with (fail)
      refine wp_region_held_drew (S := (fun _ => True)) (by kernel_rfl) ?_ (fun hHeld => ?_)
      · exact trivial
      refine rg_take (v := ?_) 0 rfl (by kernel_rfl) (by kernel_rfl) (by kernel_rfl) (fun _ _ _ h => h) (by kernel_rfl) ?_ (by assumption) ?_
      rotate_left
      · (intro w' hSw; (try dsimp only at hSw); go_simp; first | done | with_reducible rfl)
      simp only [Act.put, List.setIfInBounds_toArray, List.set_cons_zero, List.set_cons_succ]
      refine rg_take (v := ?_) 1 rfl (by kernel_rfl) (by kernel_rfl) (by kernel_rfl) (fun _ _ _ h => h) (by kernel_rfl) ?_ (by assumption) ?_
      rotate_left
      · (intro w' hSw; (try dsimp only at hSw); go_simp; first | done | with_reducible rfl)
      simp only [Act.put, List.setIfInBounds_toArray, List.set_cons_zero, List.set_cons_succ]
      refine rg_take (v := ?_) 2 rfl (by kernel_rfl) (by kernel_rfl) (by kernel_rfl) (fun _ _ _ h => h) (by kernel_rfl) ?_ (by assumption) ?_
      rotate_left
      · (intro w' hSw; (try dsimp only at hSw); go_simp; first | done | with_reducible rfl)
      simp only [Act.put, List.setIfInBounds_toArray, List.set_cons_zero, List.set_cons_succ]
      refine rg_take (v := ?_) 3 rfl (by kernel_rfl) (by kernel_rfl) (by kernel_rfl) (fun _ _ _ h => h) (by kernel_rfl) ?_ (by assumption) ?_
      rotate_left
      · (intro w' hSw; (try dsimp only at hSw); go_simp; first | done | with_reducible rfl)
      simp only [Act.put, List.setIfInBounds_toArray, List.set_cons_zero, List.set_cons_succ]
      refine rg_take (v := ?_) 4 rfl (by kernel_rfl) (by kernel_rfl) (by kernel_rfl) (fun _ _ _ h => h) (by kernel_rfl) ?_ (by assumption) ?_
      rotate_left
      · (intro w' hSw; (try dsimp only at hSw); go_simp; first | done | with_reducible rfl)
      simp only [Act.put, List.setIfInBounds_toArray, List.set_cons_zero, List.set_cons_succ]
      refine rg_take (v := ?_) 5 rfl (by kernel_rfl) (by kernel_rfl) (by kernel_rfl) (fun _ _ _ h => h) (by kernel_rfl) ?_ (by assumption) ?_
      rotate_left
      · (intro w' hSw; (try dsimp only at hSw); go_simp; first | done | with_reducible rfl)
      simp only [Act.put, List.setIfInBounds_toArray, List.set_cons_zero, List.set_cons_succ]
      refine rg_take (v := ?_) 6 rfl (by kernel_rfl) (by kernel_rfl) (by kernel_rfl) (fun _ _ _ h => h) (by kernel_rfl) ?_ (by assumption) ?_
      rotate_left
      · (intro w' hSw; (try dsimp only at hSw); go_simp; first | done | with_reducible rfl)
      simp only [Act.put, List.setIfInBounds_toArray, List.set_cons_zero, List.set_cons_succ]
      refine rg_take (v := ?_) 7 rfl (by kernel_rfl) (by kernel_rfl) (by kernel_rfl) (fun _ _ _ h => h) (by kernel_rfl) ?_ (by assumption) ?_
      rotate_left
      · (intro w' hSw; (try dsimp only at hSw); go_simp; first | done | with_reducible rfl)
      simp only [Act.put, List.setIfInBounds_toArray, List.set_cons_zero, List.set_cons_succ]
      refine rg_take (v := ?_) 8 rfl (by kernel_rfl) (by kernel_rfl) (by kernel_rfl) (fun _ _ _ h => h) (by kernel_rfl) ?_ (by assumption) ?_
      rotate_left
      · (intro w' hSw; (try dsimp only at hSw); go_simp; first | done | with_reducible rfl)
      simp only [Act.put, List.setIfInBounds_toArray, List.set_cons_zero, List.set_cons_succ]
      refine wpAnyH_done (by kernel_rfl) ?_ _
      clear hHeld
      go_wp2_with (fail)
      go_ret
      exact ⟨_, rfl, by simp; omega, HD2.out.drew hBl⟩
    · have hlti : ¬ (k : Int) < (t.size : Int) := by omega
      go_wp2_with (fail)
      go_ret
      exact ⟨_, rfl, by omega, HD2.out⟩
  have hb2 : (c == 2) = false := by simpa using h2
  go_wp2_with (fail)
  go_ret
  exact ⟨_, rfl, by omega, HD2.out⟩
end Go.Proofs.YtgpmglfcdbpgkaaGreatDoor

/- The draws DrawReadModel, DrawApplyRule, as the law FnModels calls them. Condition: at most 4096 bytes of code. -/
namespace Go.Proofs.YtgpmglfcdbpgkaaGreatDoor
open Go.RowKit

/-- What DrawReadModel hands back: some text of bounded length. -/
def RetUB (w : World) (e : Ending) (w' : World) : Prop := ∃ u : ByteArray, e = .returned (.string u) ∧ u.size ≤ 1000000 ∧ Below w.heap.size w w'
set_option maxHeartbeats 1000000 in
set_option maxRecDepth 100000 in
theorem c_DrawReadModel (A : Option Addr) (c n : Nat) (w : World) (hn : n ≤ 4096) (hb : Bytes w w.heap.size A n) :
    Calls Tryz.prog 13 #[.slice A n c] w (RetUB w) := by
  go_enter Tryz.func13, Tryz.ntmps13
  go_wp2_with (fail)
  refine (c_From A c n _ hn hb).mono ?_
  rintro e w1 ⟨rfl, hs, hb⟩
  have HS1 := Lib.hid hs
  have HB1 := Lib.hid hb
  obtain ⟨B, hBe⟩ : ∃ B, B = w.heap.size := ⟨_, rfl⟩
  rw [← hBe] at HS1 ⊢
  have hB1 := HS1.out.lt
  have HBE : Hid (w.heap.size ≤ B) := Lib.hid (by omega)
  clear hb hs hBe
  go_wp2_with (fail)
  refine (c_l20Draw B _ HS1.out).mono ?_
  rintro e w2 ⟨az, ax, ar, cz, cs, cr, sn, tn, rn, m, ds, rfl, hmd, hn1, hn2, ht1, ht2, hr2, hR, hd⟩
  have hok := hmd.ok (by omega) (by omega) (by omega)
  have hz := hmd.z
  have hs := hmd.s
  have hr := hmd.r
  have HMD := Lib.hid hmd.o.md
  have HD2 := Lib.hid hd
  clear hmd hR hd
  subst hz
  subst hs
  subst hr
  have HOK := Lib.hid hok
  have HTX := Lib.hid (c_sModelText m az ax ar cz cs cr w2 hok HMD.out)
  dsimp only [mv] at HTX
  clear hok
  go_wp2_with (fail)
  refine HTX.out.mono ?_
  rintro e w3 ⟨t, rfl, ht, hb⟩
  have HD3 := Lib.hid (HD2.out.below hB1 hb)
  have hts : t.size ≤ 100000 := by
    have h1 := out_len m
    rw [← ht] at h1
    simpa using h1
  clear hb ht HTX HD2 HMD hn1 hn2 ht1 ht2 hr2
  go_wp2_with (fail)
  refine (c_NextD B _ _ HD3.out.s (by omega)).mono ?_
  rintro e w4 ⟨r, rfl, hr0, hr1, _, hd⟩
  have HD4 := Lib.hid (HD3.out.then_ hd)
  clear hd hr1 hr0 HD3
  by_cases h0 : r = 0
  · subst h0
    go_wp2_with (fail)
    refine (c_l01Damage B t _ HD4.out.s (by omega)).mono ?_
    rintro e w5 ⟨u, rfl, hu, hd⟩
    have HF := Lib.hid (below_of_grown HB1.out (HD4.out.then_ hd).g (fun q hq => by have := HBE.out; simp at hq; omega))
    clear hd
    go_wp2_with (fail)
    go_ret
    exact ⟨_, rfl, by omega, HF.out⟩
  · have hb0 : (r == 0) = false := by simpa using h0
    have HF := Lib.hid (below_of_grown HB1.out HD4.out.g (fun q hq => by have := HBE.out; simp at hq; omega))
    go_wp2_with (fail)
    go_ret
    exact ⟨_, rfl, by omega, HF.out⟩
/-- What DrawApplyRule hands back. -/
def RetDMVY (w : World) (e : Ending) (w' : World) : Prop := ∃ az ax ar cz cs cr m ds A c, ∃ (vs : List Int) (y : Int), e = .returned (.tuple #[mv m az ax ar cz cs cr, .slice A vs.length c, .int .i64 y]) ∧ MOk m ∧ MOwn w' w.heap.size az ax ar cz cs cr m ds ∧ vs.length ≤ 1048576 ∧ w'.ownsRow w.heap.size 2 1 (.slice A vs.length c) vs.length (ints vs) ∧ Below w.heap.size w w'
/-- A drawn model and a drawn state, at a later world. -/
structure APt (B b1 b2 : Nat) (w wx : World) (az ax ar : Option Addr) (cz cs cr : Nat) (m : Mdl) (ds : List RuD) (A : Option Addr) (c : Nat) (vs : List Int) : Prop where
  x : MBox wx w.heap.size w.heap.size (.slice none 0 0) (.slice none 0 0) (.slice none 0 0)
  b : MBox wx b2 b2 (.slice az m.sz.length cz) (.slice ax m.st.length cs) (.slice ar m.rs.length cr)
  m : DMd B b1 wx az ax ar cz cs cr m.sz.length m.st.length m.rs.length m ds
  v : wx.ownsRow b2 2 1 (.slice A vs.length c) vs.length (ints vs)
  s : Src wx B
  l : Below w.heap.size w wx
  h0 : w.heap.size < B
  h1 : B < b1
  h2 : b1 ≤ b2
  h3 : b2 < wx.heap.size
theorem APt.next {B b1 b2 : Nat} {w wx wy : World} {az ax ar : Option Addr} {cz cs cr : Nat} {m : Mdl} {ds : List RuD} {A : Option Addr} {c : Nat} {vs : List Int} (h : APt B b1 b2 w wx az ax ar cz cs cr m ds A c vs) (hd : DW B wx wy) : APt B b1 b2 w wy az ax ar cz cs cr m ds A c vs :=
  ⟨kept_far2 h.x hd.g (by have := h.h0; omega), hd.own h.b (Nat.lt_of_lt_of_le h.h1 h.h2), h.m.far hd, hd.own h.v (Nat.lt_of_lt_of_le h.h1 h.h2), hd.s, below_of_grown h.l hd.g (fun q hq => by have := h.h0; simp at hq; omega), h.h0, h.h1, h.h2, Nat.lt_of_lt_of_le h.h3 hd.g.size⟩
theorem APt.sB {B b1 b2 : Nat} {w wx : World} {az ax ar : Option Addr} {cz cs cr : Nat} {m : Mdl} {ds : List RuD} {A : Option Addr} {c : Nat} {vs : List Int} (h : APt B b1 b2 w wx az ax ar cz cs cr m ds A c vs) : B < wx.heap.size := by have := h.h1; have := h.h2; have := h.h3; omega
theorem APt.fin {B b1 b2 : Nat} {w wx : World} {az ax ar : Option Addr} {cz cs cr : Nat} {m : Mdl} {ds : List RuD} {A : Option Addr} {c : Nat} {vs : List Int} (h : APt B b1 b2 w wx az ax ar cz cs cr m ds A c vs) (hok : MOk m) (hvl : vs.length ≤ 1048576) (y : Int) :
    RetDMVY w (.returned (.tuple #[mv m az ax ar cz cs cr, .slice A vs.length c, .int .i64 y])) (set3 wx w.heap.size (.slice az m.sz.length cz) (.slice ax m.st.length cs) (.slice ar m.rs.length cr)) :=
  ⟨az, ax, ar, cz, cs, cr, m, ds, A, c, vs, y, rfl, hok, (h.m.put2 h.x).o.mono (by have := h.h0; have := h.h1; omega), hvl, own_mono (put_row h.v h.x (by decide)) (by have := h.h0; have := h.h1; have := h.h2; omega), below_put h.l _ _ _ (Nat.le_refl _)⟩
set_option maxHeartbeats 1000000 in
set_option maxRecDepth 100000 in
theorem c_DrawApplyRule (A : Option Addr) (c n : Nat) (w : World) (hn : n ≤ 4096) (hb : Bytes w w.heap.size A n) : Calls Tryz.prog 14 #[.slice A n c] w (RetDMVY w) := by
  have HBX : Hid (MBox (w.alloc (.cells #[.slice none 0 0, .slice none 0 0, .slice none 0 0] 25)) w.heap.size w.heap.size (.slice none 0 0) (.slice none 0 0) (.slice none 0 0)) := Lib.hid (mbox_new (w := w) _ _ _)
  have hb1 := bytes_later hb (below_alloc (Below.refl w.heap.size w) (.cells #[.slice none 0 0, .slice none 0 0, .slice none 0 0] 25))
  have HB1 := Lib.hid (below_alloc (Below.refl w.heap.size w) (.cells #[.slice none 0 0, .slice none 0 0, .slice none 0 0] 25))
  clear hb
  go_enter Tryz.func14, Tryz.ntmps14
  go_wp2_with (fail)
  refine (c_From A c n _ hn hb1).mono ?_
  rintro e w1 ⟨rfl, hs, hb⟩
  have HS1 := Lib.hid hs
  have HB2 := Lib.hid (below_chain HB1.out hb)
  have HX1 : Hid (MBox w1 w.heap.size w.heap.size (.slice none 0 0) (.slice none 0 0) (.slice none 0 0)) := Lib.hid (own_below HBX.out hb)
  obtain ⟨B, hBe⟩ : ∃ B, B = (w.alloc (.cells #[.slice none 0 0, .slice none 0 0, .slice none 0 0] 25)).heap.size := ⟨_, rfl⟩
  rw [← hBe] at HS1 ⊢
  have hBw : B = w.heap.size + 1 := by rw [hBe]; simp
  clear hb hs hb1 HB1 HBX hBe
  have hB0 : w.heap.size < B := by omega
  have hB1 := HS1.out.lt
  clear hBw
  go_wp2_with (fail)
  refine (c_l20Draw B _ HS1.out).mono ?_
  rintro e w2 ⟨az, ax, ar, cz, cs, cr, sn, tn, rn, m, ds, rfl, hmd, hn1, hn2, ht1, ht2, hr2, hR, hd⟩
  clear hR
  have hok := hmd.ok (by omega) (by omega) (by omega)
  have hz := hmd.z
  have hs := hmd.s
  have hr := hmd.r
  subst hz
  subst hs
  subst hr
  have HOK := Lib.hid hok
  have HX2 : Hid (MBox w2 w.heap.size w.heap.size (.slice none 0 0) (.slice none 0 0) (.slice none 0 0)) := Lib.hid (kept_far2 HX1.out hd.g (by omega))
  have HB4 := Lib.hid (below_of_grown HB2.out hd.g (fun q hq => by simp at hq; omega))
  have hw12 := hd.g.size
  have hB2 : B < w2.heap.size := by omega
  have HM2 := Lib.hid hmd
  have hs2 := hd.s
  have HD2 : Hid (DW B w2 (w2.alloc (.cells #[.slice az m.sz.length cz, .slice ax m.st.length cs, .slice ar m.rs.length cr] 25))) := Lib.hid ((DW.start hs2).alloc hB2 _)
  have HMB2 : Hid (MBox (w2.alloc (.cells #[.slice az m.sz.length cz, .slice ax m.st.length cs, .slice ar m.rs.length cr] 25)) w2.heap.size w2.heap.size (.slice az m.sz.length cz) (.slice ax m.st.length cs) (.slice ar m.rs.length cr)) := Lib.hid (mbox_new _ _ _)
  have hx2 := (HX2.out).c.2.2.2.2.2.2.2
  have HZO := Lib.hid HM2.out.o.z
  have HZB := Lib.hid HM2.out.zb
  clear hmd hd HB2 HX1 hs2 hok
  obtain ⟨b0, b1, b2, _, _, _, _, hplt⟩ := MBox.c HMB2.out
  go_wp2_with (fail)
  refine (c_l20DrawState B w1.heap.size az ax ar cz cs cr m.sz.length m.st.length m.rs.length m.sz _ HD2.out.s rfl (by omega) HZB.out hB1 (HD2.out.own HZO.out hB1)).mono ?_
  rintro e w3 ⟨A4, c4, n4, vs, rfl, hvl, hvn, hvo, hd⟩
  subst hvl
  have HD3 := Lib.hid (HD2.out.then_ hd)
  have hs3 := HD3.out.g.size
  have hMB3 : MBox w3 w2.heap.size w2.heap.size (.slice az m.sz.length cz) (.slice ax m.st.length cs) (.slice ar m.rs.length cr) := hd.own HMB2.out hB2
  have HA : Hid (APt B w1.heap.size w2.heap.size w w3 az ax ar cz cs cr m ds A4 c4 vs) := Lib.hid ⟨kept_far2 HX2.out HD3.out.g (by omega), hMB3, HM2.out.far HD3.out, own_mono hvo (by simp), HD3.out.s, below_of_grown HB4.out HD3.out.g (fun q hq => by simp at hq; omega), hB0, hB1, hw12, (MBox.c hMB3).2.2.2.2.2.2.2⟩
  have hvl : vs.length ≤ 1048576 := by omega
  have hrl : m.rs.length ≤ 1048576 := HOK.out.1.2.2.1
  clear hd hvo b0 b1 b2 hplt HMB2 HD2 HD3 HX2 HB4 HM2 HZO HZB HS1 hMB3 hx2 hvn hn1 hn2 ht1 ht2 hr2 hs3
  generalize w2.heap.size = p2 at *
  generalize w1.heap.size = p1 at *
  go_upto_region 4 with (fail)
  go_cut [27] from 16 to 26 (fun v wx => ∃ q : Bool, v = .bool q ∧ Hid (q = true → mdB m = true ∧ stB m.sz vs = true) ∧ Hid (APt B p1 p2 w wx az ax ar cz cs cr m ds A4 c4 vs))
  case first =>
    have hb3 := HA.out.sB
    have HIS := Lib.hid (c_sIsModel m az ax ar cz cs cr w3 HOK.out HA.out.m.o.md)
    have HSS := Lib.hid (fun h => md_szs (m := m) h)
    have HST := Lib.hid (fun w' hs h hv => c_l20State m az ax ar cz cs cr A4 c4 vs w' hs HOK.out.1.1 hvl h hv)
    dsimp only [mv] at HIS HST
    obtain ⟨b0, b1, b2, _, _, _, _, _⟩ := MBox.c HA.out.b
    go_wp2_with (fail)
    refine HIS.out.mono ?_
    rintro e w4 ⟨rfl, hb⟩
    have HA4 := Lib.hid (HA.out.next ((DW.start HA.out.s).below hb3 hb))
    have hb4 := HA4.out.sB
    clear hb b0 b1 b2 HIS
    rcases hmb : mdB m with _ | _
    · go_wp2_with (fail)
      go_meet
      case rel => exact ⟨false, rfl, Lib.hid (fun h => by cases h), HA4⟩
    · have HSZ := Lib.hid (HSS.out hmb)
      have HMB := Lib.hid hmb
      clear hmb HSS
      obtain ⟨b0, b1, b2, _, _, _, _, _⟩ := MBox.c HA4.out.b
      go_wp2_with (fail)
      refine (HST.out _ HSZ.out HA4.out.m.o.md.z (Rd.own HA4.out.v)).mono ?_
      rintro e w5 ⟨rfl, hb⟩
      have HA5 := Lib.hid (HA4.out.next ((DW.start HA4.out.s).below hb4 hb))
      have hb5 := HA5.out.sB
      clear hb b0 b1 b2 HST
      rcases hsb : stB m.sz vs with _ | _
      · go_wp2_with (fail)
        go_meet
        case rel => exact ⟨false, rfl, Lib.hid (fun h => by cases h), HA5⟩
      · have HSB := Lib.hid hsb
        clear hsb
        go_wp2_with (fail)
        refine (c_NextD B _ _ HA5.out.s (by omega)).mono ?_
        rintro e w6 ⟨r, rfl, _, _, _, hd⟩
        have HA6 := Lib.hid (HA5.out.next hd)
        clear hd
        go_wp2_with (fail)
        go_meet
        case rel => exact ⟨decide (0 < r), by first | rfl | simp, Lib.hid (fun _ => ⟨HMB.out, HSB.out⟩), HA6⟩
  case rest =>
    clear HA
    obtain ⟨wA, rfl⟩ : ∃ wA, wA = wc := ⟨_, rfl⟩
    obtain ⟨q, rfl, HQ, HA⟩ := hcut
    go_upto_if 27 with (fail)
    go_cut [] from 28 to 42 (fun wx => Hid (APt B p1 p2 w wx az ax ar cz cs cr m ds A4 c4 vs))
    case first =>
      rcases q with _ | _
      · go_wp2
        go_meet
        case rel => exact HA
      · have HLE := Lib.hid (c_l20Enabled m az ax ar cz cs cr A4 c4 vs wA hrl hvl (gs_of (HQ.out rfl).1 (HQ.out rfl).2 HOK.out) HA.out.m.o.md (Rd.own HA.out.v))
        dsimp only [mv] at HLE
        have hbA := HA.out.sB
        obtain ⟨b0, b1, b2, _, _, _, _, _⟩ := MBox.c HA.out.b
        have hzl2 : (enL vs m.rs).length ≤ 1048576 := by have := enK_len vs m.rs m.rs.length; unfold enL; omega
        generalize enL vs m.rs = zs at *
        go_wp2_with (fail)
        refine HLE.out.mono ?_
        rintro e w5 ⟨A6, c6, rfl, ho, hb⟩
        have HA5 := Lib.hid (HA.out.next ((DW.start HA.out.s).below hbA hb))
        have HO := Lib.hid ho
        have hbg := HA.out.h3
        clear hb b0 b1 b2 HLE HA ho
        by_cases hzl : 0 < zs.length
        · have hzi : (0 : Int) < (zs.length : Int) := by omega
          obtain ⟨g, cap, hv, _⟩ := HO.out.form hzl
          simp only [Value.slice.injEq, true_and] at hv
          obtain ⟨rfl, rfl⟩ := hv
          have hgA := (own_ge HO.out).1
          obtain ⟨b0, b1, b2, _, _, _, _, _⟩ := MBox.c HA5.out.b
          have hb5 := HA5.out.sB
          have g0 : ∀ j, j < zs.length → w5.cell? ⟨g, j, none⟩ = (ints zs)[j]? := fun j hj => HO.out.cellAt j (by omega)
          have HG0 := Lib.hid g0
          have hzm : (zs.length : Int) ≤ 9223372036854775807 := by omega
          clear g0
          go_wp2_with (fail)
          refine wp_region_held_drew (S := (fun w' => (w'.cell? ⟨p2, 0, none⟩ = some (.slice az m.sz.length cz) ∧ w'.cell? ⟨p2, 1, none⟩ = some (.slice ax m.st.length cs) ∧ w'.cell? ⟨p2, 2, none⟩ = some (.slice ar m.rs.length cr)) ∧ ∀ j, j < zs.length → w'.cell? ⟨g, j, none⟩ = (ints zs)[j]?)) (by kernel_rfl) ?_ (fun hHeld => ?_)
          · exact ⟨⟨b0, b1, b2⟩, HG0.out⟩
          refine rg_take (v := ?_) 0 rfl (by kernel_rfl) (by kernel_rfl) (by kernel_rfl) (fun _ _ _ h => h) (by kernel_rfl) ?_ (by assumption) ?_
          rotate_left
          · (intro w' hSw; (try dsimp only at hSw); go_simp; first | done | with_reducible rfl)
          simp only [Act.put, List.setIfInBounds_toArray, List.set_cons_zero, List.set_cons_succ]
          refine rg_take (v := ?_) 1 rfl (by kernel_rfl) (by kernel_rfl) (by kernel_rfl) (fun _ _ _ h => h) (by kernel_rfl) ?_ (by assumption) ?_
          rotate_left
          · (intro w' hSw; (try dsimp only at hSw); go_simp; first | done | with_reducible rfl)
          simp only [Act.put, List.setIfInBounds_toArray, List.set_cons_zero, List.set_cons_succ]
          refine rg_take (v := ?_) 2 rfl (by kernel_rfl) (by kernel_rfl) (by kernel_rfl) (fun _ _ _ h => h) (by kernel_rfl) ?_ (by assumption) ?_
          rotate_left
          · (intro w' hSw; (try dsimp only at hSw); go_simp; first | done | with_reducible rfl)
          simp only [Act.put, List.setIfInBounds_toArray, List.set_cons_zero, List.set_cons_succ]
          refine rg_take (v := ?_) 3 rfl (by kernel_rfl) (by kernel_rfl) (by kernel_rfl) (fun _ _ _ h => h) (by kernel_rfl) ?_ (by assumption) ?_
          rotate_left
          · (intro w' hSw; (try dsimp only at hSw); go_simp; first | done | with_reducible rfl)
          simp only [Act.put, List.setIfInBounds_toArray, List.set_cons_zero, List.set_cons_succ]
          refine rg_take (v := ?_) 4 rfl (by kernel_rfl) (by kernel_rfl) (by kernel_rfl) (fun _ _ _ h => h) (by kernel_rfl) ?_ (by assumption) ?_
          rotate_left
          · (intro w' hSw; (try dsimp only at hSw); go_simp; first | done | with_reducible rfl)
          simp only [Act.put, List.setIfInBounds_toArray, List.set_cons_zero, List.set_cons_succ]
          refine rg_take (v := ?_) 5 rfl (by kernel_rfl) (by kernel_rfl) (by kernel_rfl) (fun _ _ _ h => h) (by kernel_rfl) ?_ (by assumption) ?_
          rotate_left
          · (intro w' hSw; (try dsimp only at hSw); go_simp; first | done | with_reducible rfl)
          simp only [Act.put, List.setIfInBounds_toArray, List.set_cons_zero, List.set_cons_succ]
          refine rg_run 6 rfl (by kernel_rfl) (by kernel_rfl) (fun K hK => ?_)
          go_simp
          have HD5 := Lib.hid ((DW.start HA5.out.s).drew hb5)
          refine (c_NextD B _ _ (HA5.out.next HD5.out).s (by omega)).mono ?_
          rintro e w6 ⟨rr, rfl, hr0, hr1, _, hd⟩
          have hr7 := hr1 (by omega)
          obtain ⟨j, rfl⟩ : ∃ j : Nat, rr = j := ⟨rr.toNat, by omega⟩
          have hjl : j < zs.length := by omega
          have hji : (j : Int) < (zs.length : Int) := by omega
          have HA6 := Lib.hid (HA5.out.next (HD5.out.then_ hd))
          have HO6 := Lib.hid ((HD5.out.then_ hd).own HO.out hbA)
          have hBp : B ≠ p2 := by have h1 := HA5.out.h1; have h2 := HA5.out.h2; omega
          replace b0 := hd.cell (by exact b0) hBp
          replace b1 := hd.cell (by exact b1) hBp
          replace b2 := hd.cell (by exact b2) hBp
          clear hd hr1 hr7
          go_wp2
          clear hHeld
          refine hK.out _ _ ⟨⟨b0, b1, b2⟩, fun j hj => HO6.out.cellAt j (by omega)⟩ (fun hHeld => ?_)
          clear hK K
          try simp only [Act.put, List.setIfInBounds_toArray, List.set_cons_zero, List.set_cons_succ]
          obtain ⟨z, hz⟩ : ∃ z, zs[j]? = some z := ⟨_, List.getElem?_eq_getElem hjl⟩
          have hze : (ints zs)[j]? = some (.int .i64 z) := by simp [ints, hz]
          refine rg_take (v := ?_) 7 rfl (by kernel_rfl) (by kernel_rfl) (by kernel_rfl) (fun _ _ _ h => h) (by kernel_rfl) ?_ (by assumption) ?_
          rotate_left
          · (intro w' hSw; (try dsimp only at hSw); go_simp; first | done | with_reducible rfl)
          simp only [Act.put, List.setIfInBounds_toArray, List.set_cons_zero, List.set_cons_succ]
          refine rg_take (v := .int .i64 z) 8 rfl (by kernel_rfl) (by kernel_rfl) (by kernel_rfl) (fun _ _ _ h => h) (by kernel_rfl) ?_ (by assumption) ?_
          · intro w' hSw
            have h8 := hSw.2 j hjl
            rw [hze] at h8
            clear hSw
            go_simp
          simp only [Act.put, List.setIfInBounds_toArray, List.set_cons_zero, List.set_cons_succ]
          obtain ⟨v0, v1, v2, f0, f1, f2, _, hxl⟩ := MBox.c HA6.out.x
          have HF := Lib.hid (MBox.set3 HA6.out.x (Value.slice az m.sz.length cz) (Value.slice ax m.st.length cs) (Value.slice ar m.rs.length cr))
          have hpw : w.heap.size < p2 := by have h0 := HA5.out.h0; have h1 := HA5.out.h1; have h2 := HA5.out.h2; omega
          refine rg_run 9 rfl (by kernel_rfl) (by kernel_rfl) (fun K hK => ?_)
          go_simp
          have hq0 := HF.out.2.cell b0 (fun e => by simp at e; omega)
          have hq1 := HF.out.2.cell b1 (fun e => by simp at e; omega)
          have hq2 := HF.out.2.cell b2 (fun e => by simp at e; omega)
          clear hHeld
          refine hK.out _ _ ⟨⟨hq0, hq1, hq2⟩, fun j hj => (put_row HO6.out HA6.out.x (by decide)).cellAt j (by omega)⟩ (fun hHeld => ?_)
          clear hK K
          try simp only [Act.put, List.setIfInBounds_toArray, List.set_cons_zero, List.set_cons_succ]
          refine rg_take (v := ?_) 10 rfl (by kernel_rfl) (by kernel_rfl) (by kernel_rfl) (fun _ _ _ h => h) (by kernel_rfl) ?_ (by assumption) ?_
          rotate_left
          · (intro w' hSw; (try dsimp only at hSw); go_simp; first | done | with_reducible rfl)
          simp only [Act.put, List.setIfInBounds_toArray, List.set_cons_zero, List.set_cons_succ]
          refine rg_take (v := ?_) 11 rfl (by kernel_rfl) (by kernel_rfl) (by kernel_rfl) (fun _ _ _ h => h) (by kernel_rfl) ?_ (by assumption) ?_
          rotate_left
          · (intro w' hSw; (try dsimp only at hSw); go_simp; first | done | with_reducible rfl)
          simp only [Act.put, List.setIfInBounds_toArray, List.set_cons_zero, List.set_cons_succ]
          refine wpAnyH_done (by kernel_rfl) ?_ _
          clear hHeld
          go_wp2_with (fail)
          change bodyPost _ _ _ _ _ (set3 w6 w.heap.size (Value.slice az m.sz.length cz) (Value.slice ax m.st.length cs) (Value.slice ar m.rs.length cr))
          have HR := Lib.hid (HA6.out.fin HOK.out hvl z)
          generalize set3 w6 w.heap.size (Value.slice az m.sz.length cz) (Value.slice ax m.st.length cs) (Value.slice ar m.rs.length cr) = WF at HF HR ⊢
          obtain ⟨r0, r1, r2, _⟩ := MBox.c HF.out.1
          clear f0 f1 f2 v0 v1 v2 hq0 hq1 hq2 b0 b1 b2
          exact bodyPost_ret (v := .tuple #[mv m az ax ar cz cs cr, .slice A4 vs.length c4, .int .i64 z]) (by simp [mv, results, Tryz.results14, go_sem, r0, r1, r2]) rfl HR.out
        · have hzi : ¬ (0 : Int) < (zs.length : Int) := by omega
          go_wp2_with (fail)
          go_meet
          case rel => exact HA5
    case rest =>
      clear HA HQ
      obtain ⟨wB, rfl⟩ : ∃ wB, wB = wc := ⟨_, rfl⟩
      have HA := Lib.hid hcut.out
      clear hcut
      have hbB := HA.out.sB
      obtain ⟨b0, b1, b2, _, _, _, _, _⟩ := MBox.c HA.out.b
      have hadd : IntKind.i64.wrap ((m.rs.length : Int) + 2) = m.rs.length + 2 := IntWalk.i64_in _ (by omega)
      go_wp2_with (fail)
      refine wp_region_held_drew (S := (fun w' => w'.cell? ⟨p2, 0, none⟩ = some (.slice az m.sz.length cz) ∧ w'.cell? ⟨p2, 1, none⟩ = some (.slice ax m.st.length cs) ∧ w'.cell? ⟨p2, 2, none⟩ = some (.slice ar m.rs.length cr))) (by kernel_rfl) ?_ (fun hHeld => ?_)
      · exact ⟨b0, b1, b2⟩
      refine rg_take (v := ?_) 0 rfl (by kernel_rfl) (by kernel_rfl) (by kernel_rfl) (fun _ _ _ h => h) (by kernel_rfl) ?_ (by assumption) ?_
      rotate_left
      · (intro w' hSw; (try dsimp only at hSw); go_simp; first | done | with_reducible rfl)
      simp only [Act.put, List.setIfInBounds_toArray, List.set_cons_zero, List.set_cons_succ]
      refine rg_take (v := ?_) 1 rfl (by kernel_rfl) (by kernel_rfl) (by kernel_rfl) (fun _ _ _ h => h) (by kernel_rfl) ?_ (by assumption) ?_
      rotate_left
      · (intro w' hSw; (try dsimp only at hSw); go_simp; first | done | with_reducible rfl)
      simp only [Act.put, List.setIfInBounds_toArray, List.set_cons_zero, List.set_cons_succ]
      refine rg_take (v := ?_) 2 rfl (by kernel_rfl) (by kernel_rfl) (by kernel_rfl) (fun _ _ _ h => h) (by kernel_rfl) ?_ (by assumption) ?_
      rotate_left
      · (intro w' hSw; (try dsimp only at hSw); go_simp; first | done | with_reducible rfl)
      simp only [Act.put, List.setIfInBounds_toArray, List.set_cons_zero, List.set_cons_succ]
      refine rg_take (v := ?_) 3 rfl (by kernel_rfl) (by kernel_rfl) (by kernel_rfl) (fun _ _ _ h => h) (by kernel_rfl) ?_ (by assumption) ?_
      rotate_left
      · (intro w' hSw; (try dsimp only at hSw); go_simp; first | done | with_reducible rfl)
      simp only [Act.put, List.setIfInBounds_toArray, List.set_cons_zero, List.set_cons_succ]
      refine rg_take (v := ?_) 4 rfl (by kernel_rfl) (by kernel_rfl) (by kernel_rfl) (fun _ _ _ h => h) (by kernel_rfl) ?_ (by assumption) ?_
      rotate_left
      · (intro w' hSw; (try dsimp only at hSw); go_simp; first | done | with_reducible rfl)
      simp only [Act.put, List.setIfInBounds_toArray, List.set_cons_zero, List.set_cons_succ]
      refine rg_take (v := ?_) 5 rfl (by kernel_rfl) (by kernel_rfl) (by kernel_rfl) (fun _ _ _ h => h) (by kernel_rfl) ?_ (by assumption) ?_
      rotate_left
      · (intro w' hSw; (try dsimp only at hSw); go_simp; first | done | with_reducible rfl)
      simp only [Act.put, List.setIfInBounds_toArray, List.set_cons_zero, List.set_cons_succ]
      refine rg_take (v := ?_) 6 rfl (by kernel_rfl) (by kernel_rfl) (by kernel_rfl) (fun _ _ _ h => h) (by kernel_rfl) ?_ (by assumption) ?_
      rotate_left
      · (intro w' hSw; (try dsimp only at hSw); go_simp; first | done | with_reducible rfl)
      simp only [Act.put, List.setIfInBounds_toArray, List.set_cons_zero, List.set_cons_succ]
      refine rg_run 7 rfl (by kernel_rfl) (by kernel_rfl) (fun K hK => ?_)
      go_simp
      have HD5 := Lib.hid ((DW.start HA.out.s).drew hbB)
      refine (c_NextD B _ _ (HA.out.next HD5.out).s (by omega)).mono ?_
      rintro e w6 ⟨r, rfl, hr0, hr1, _, hd⟩
      have hr7 := hr1 (by omega)
      have hsub : IntKind.i64.wrap (r - 1) = r - 1 := IntWalk.i64_in _ (by omega)
      have HA6 := Lib.hid (HA.out.next (HD5.out.then_ hd))
      have hBp : B ≠ p2 := by have h1 := HA.out.h1; have h2 := HA.out.h2; omega
      replace b0 := hd.cell (by exact b0) hBp
      replace b1 := hd.cell (by exact b1) hBp
      replace b2 := hd.cell (by exact b2) hBp
      clear hd hr1 hr7
      go_wp2
      clear hHeld
      refine hK.out _ _ ⟨b0, b1, b2⟩ (fun hHeld => ?_)
      clear hK K
      try simp only [Act.put, List.setIfInBounds_toArray, List.set_cons_zero, List.set_cons_succ]
      refine rg_take (v := ?_) 8 rfl (by kernel_rfl) (by kernel_rfl) (by kernel_rfl) (fun _ _ _ h => h) (by kernel_rfl) ?_ (by assumption) ?_
      rotate_left
      · (intro w' hSw; (try dsimp only at hSw); go_simp; first | done | with_reducible rfl)
      simp only [Act.put, List.setIfInBounds_toArray, List.set_cons_zero, List.set_cons_succ]
      obtain ⟨v0, v1, v2, f0, f1, f2, _, hxl⟩ := MBox.c HA6.out.x
      have HF := Lib.hid (MBox.set3 HA6.out.x (Value.slice az m.sz.length cz) (Value.slice ax m.st.length cs) (Value.slice ar m.rs.length cr))
      have hpw : w.heap.size < p2 := by have h0 := HA.out.h0; have h1 := HA.out.h1; have h2 := HA.out.h2; omega
      refine rg_run 9 rfl (by kernel_rfl) (by kernel_rfl) (fun K hK => ?_)
      go_simp
      have hq0 := HF.out.2.cell b0 (fun e => by simp at e; omega)
      have hq1 := HF.out.2.cell b1 (fun e => by simp at e; omega)
      have hq2 := HF.out.2.cell b2 (fun e => by simp at e; omega)
      clear hHeld
      refine hK.out _ _ ⟨hq0, hq1, hq2⟩ (fun hHeld => ?_)
      clear hK K
      try simp only [Act.put, List.setIfInBounds_toArray, List.set_cons_zero, List.set_cons_succ]
      refine rg_take (v := ?_) 10 rfl (by kernel_rfl) (by kernel_rfl) (by kernel_rfl) (fun _ _ _ h => h) (by kernel_rfl) ?_ (by assumption) ?_
      rotate_left
      · (intro w' hSw; (try dsimp only at hSw); go_simp; first | done | with_reducible rfl)
      simp only [Act.put, List.setIfInBounds_toArray, List.set_cons_zero, List.set_cons_succ]
      refine rg_take (v := ?_) 11 rfl (by kernel_rfl) (by kernel_rfl) (by kernel_rfl) (fun _ _ _ h => h) (by kernel_rfl) ?_ (by assumption) ?_
      rotate_left
      · (intro w' hSw; (try dsimp only at hSw); go_simp; first | done | with_reducible rfl)
      simp only [Act.put, List.setIfInBounds_toArray, List.set_cons_zero, List.set_cons_succ]
      refine wpAnyH_done (by kernel_rfl) ?_ _
      clear hHeld
      go_wp2_with (fail)
      change bodyPost _ _ _ _ _ (set3 w6 w.heap.size (Value.slice az m.sz.length cz) (Value.slice ax m.st.length cs) (Value.slice ar m.rs.length cr))
      have HR := Lib.hid (HA6.out.fin HOK.out hvl (r - 1))
      generalize set3 w6 w.heap.size (Value.slice az m.sz.length cz) (Value.slice ax m.st.length cs) (Value.slice ar m.rs.length cr) = WF at HF HR ⊢
      obtain ⟨r0, r1, r2, _⟩ := MBox.c HF.out.1
      clear f0 f1 f2 v0 v1 v2 hq0 hq1 hq2 b0 b1 b2
      exact bodyPost_ret (v := .tuple #[mv m az ax ar cz cs cr, .slice A4 vs.length c4, .int .i64 (r - 1)]) (by simp [mv, results, Tryz.results14, go_sem, r0, r1, r2]) rfl HR.out
end Go.Proofs.YtgpmglfcdbpgkaaGreatDoor

/- The plain law of FnModels: a model is recovered from its text, a rule changes only the variables of its effect. No program in sight. -/
namespace Go.Proofs.YtgpmglfcdbpgkaaGreatDoor
open Go.RowKit

theorem rd_empty : readM [] = none := by
  unfold readM
  cases modelI [] with
  | none => rfl
  | some m =>
    dsimp only
    rw [if_neg]
    rintro ⟨_, h⟩
    exact txModel_ne m h
theorem rd_out (m : Mdl) : readM (outT m) = if mdB m then some m else none := by
  unfold outT
  rcases h : mdB m with _ | _
  · exact rd_empty
  · have hI := modelI_tx (valid_S h)
    show readM (txModel m) = some m
    unfold readM
    rw [hI]
    exact if_pos ⟨h, rfl⟩
theorem rd_some (m : Mdl) : (readM (outT m)).isSome = mdB m := by
  rw [rd_out]
  rcases mdB m with _ | _ <;> rfl
theorem rd_val {m : Mdl} (h : mdB m = true) : mV (readM (outT m)) = m := by
  rw [rd_out, h]
  rfl
theorem out_nil (m : Mdl) : decide (outT m = []) = !mdB m := by
  unfold outT
  rcases h : mdB m with _ | _
  · rfl
  · show decide (txModel m = []) = false
    exact decide_eq_false (txModel_ne m)
theorem stC_z {m : Mdl} {vs : List Int} (h : stC m vs = 0) : mdB m = true ∧ stB m.sz vs = true := by
  unfold stC at h
  rcases h1 : mdB m with _ | _
  · rw [h1] at h; simp at h
  · rw [h1] at h
    rcases h2 : stB m.sz vs with _ | _
    · rw [h2] at h; simp at h
    · exact ⟨rfl, rfl⟩
/-- A rule that may be applied. -/
theorem ar_zero {m : Mdl} {vs : List Int} {y : Int} (h : arC m vs y = 0) : ∃ (k : Nat) (r : Rul), y = k ∧ m.rs[k]? = some r ∧ EsIn vs.length r.es ∧ arL m vs y = apL vs r.es := by
  unfold arC at h
  rcases h1 : (mdB m && stB m.sz vs) with _ | _
  · rw [h1] at h
    have := stC_z h
    rw [this.1, this.2] at h1
    cases h1
  · rw [h1] at h
    rcases h2 : inB y 0 (m.rs.length - 1) with _ | _
    · rw [h2] at h; simp at h
    · rw [h2] at h
      rcases h3 : hlB vs (arR m y).gs with _ | _
      · rw [h3] at h; simp at h
      · have hy : 0 ≤ y ∧ y ≤ m.rs.length - 1 := by simpa [inB] using h2
        have hlt : y.toNat < m.rs.length := by omega
        have hk : m.rs[y.toNat]? = some m.rs[y.toNat] := List.getElem?_eq_getElem hlt
        have e : arR m y = m.rs[y.toNat] := by unfold arR; rw [List.getD_eq_getElem?_getD, hk]; rfl
        rw [Bool.and_eq_true] at h1
        refine ⟨y.toNat, _, by omega, hk, es_of h1.1 h1.2 (List.mem_of_getElem? hk), ?_⟩
        unfold arL
        rw [h1.1, h1.2, h2, h3, e]
        rfl
/-- Whether one of the first q assignments is to the variable v. -/
def chg (es : List Asg) (v q : Nat) : Bool := (es.take q).any fun a => a.v == (v : Int)
theorem chg_zero (es : List Asg) (v : Nat) : chg es v 0 = false := by simp [chg]
theorem chg_succ {es : List Asg} {v q : Nat} {a : Asg} (h : es[q]? = some a) : chg es v (q + 1) = (chg es v q || a.v == (v : Int)) := by
  unfold chg
  rw [List.take_add_one, h, List.any_append]
  simp
theorem apL_other {v : Nat} : ∀ (es : List Asg) (vs : List Int), (∀ a ∈ es, 0 ≤ a.v) → (es.any fun a => a.v == (v : Int)) = false → (apL vs es)[v]? = vs[v]?
  | [], vs, _, _ => rfl
  | a :: es, vs, h, hn => by
    rw [List.any_cons, Bool.or_eq_false_iff] at hn
    have ih := apL_other es (ap1 vs a) (fun x hx => h x (List.mem_cons_of_mem _ hx)) hn.2
    have e : apL vs (a :: es) = apL (ap1 vs a) es := rfl
    rw [e, ih]
    unfold ap1
    have h0 := h a (List.mem_cons_self ..)
    have h1 : a.v ≠ (v : Int) := by simpa using hn.1
    rw [List.getElem?_set_ne (by omega)]
theorem chg_keep {es : List Asg} {vs : List Int} {v : Nat} {z : Int} (h : EsIn vs.length es) (hc : chg es v es.length = false) (hz : vs[v]? = some z) : (apL vs es)[v]? = some z := by
  rw [← hz]
  refine apL_other es vs (fun a ha => (h a ha).1) ?_
  unfold chg at hc
  rwa [List.take_length] at hc
end Go.Proofs.YtgpmglfcdbpgkaaGreatDoor

/- What the listed variables give the walks of the readings, and the wrap that hands them over with the world's shape. No condition. -/
namespace Go.Proofs.YtgpmglfcdbpgkaaGreatDoor
open Go.ChangeShapes Go.WideShapes Go.ChangeAt Go.RowKit Go.Deep

/-- The wrap with a further condition, the world's shape kept. -/
theorem wrap_and_shaped {H : Type} {enc : TypeId × Value → H} {a : Assume} {C : Checked} {os : Os} {f : FuncId} {fn : Func} {s : ChangeSpec} {conds : List PathCond} {apart fresh handsOn again : Bool} {X : World → Array Value → Prop}
    (hX : ∀ (w w' : World) (args : Array Value), w.heap = w'.heap → X w args → X w' args)
    (own : ownKnob C.prog.godebug = none) (started : os.Started) (noInit : C.prog.inits.idxOf? f = none) (hfn : C.prog.funcs[f]? = some fn)
    (witness : ∃ (w : World) (tape : Tape) (i : Input), w.os = os ∧ (w.forCall tape i).Shaped C.prog ∧ i.vars = [] ∧ Input.okWide C.prog (w.forCall tape i) .any w.heap.size f i ∧
      ((s.pre enc C.prog fn conds apart (w.forCall tape i).memory i.args ∧ X (w.forCall tape i).memory i.args) ∧ sizedMet enc C.prog fn (OpenSpec.ofChange s) apart (w.forCall tape i).memory i.args) ∧ a.holds C.prog (lone (Frame.enter C.prog f i.args .normal) [] (w.forCall tape i)))
    (contract : ∀ (W : World) (base : Nat) (args : Array Value) (ds gs : List (DataW H)) (before : List MemPlace),
      (∀ (j : Nat) t v, fn.params[j]? = some t → args[j]? = some v → Value.okWide C.prog W .any base t v) →
      DataW.Whole enc C.prog fn.params.toList s.vars apart W args.toList ds gs before →
      conds.all (PathCond.test C.prog ⟨fn.params.toList, ds, s.plain.varTypes C.prog, gs⟩) = true →
      (DataW.weightsEach C.prog (fn.params.toList ++ s.plain.varTypes C.prog) (ds ++ gs)).all (· ≤ reachBytes) = true → X W args → W.ShapedOpen C.prog →
      a.holds C.prog (lone (Frame.enter C.prog f args .normal) [] W) →
      Calls C.prog f args W fun e W' => ∃ v, e = .returned v ∧ s.post enc C.prog fn apart fresh handsOn again W args v W') :
    ReturnsInHanded a C os f .any (fun w args => (s.pre enc C.prog fn conds apart w args ∧ X w args) ∧ sizedMet enc C.prog fn (OpenSpec.ofChange s) apart w args) (s.post enc C.prog fn apart fresh handsOn again) := by
  refine returnsInHanded_of_calls own started noInit witness ?_
  intro w tape i _ hsh _ hok hpre hholds
  obtain ⟨_, _, _, fn', hfn', _, _, _, _, hval⟩ := hok
  have e : fn' = fn := Option.some.inj (hfn'.symm.trans hfn)
  subst e
  obtain ⟨⟨⟨ds, gs, before, hw, hc⟩, hx⟩, hz⟩ := hpre
  have hw' := DataW.Whole.of_heap (w' := w.forCall tape i) (by rfl) hw
  refine (contract (w.forCall tape i) w.heap.size i.args ds gs before hval hw' hc (hz.weights hw) (hX _ _ _ (by rfl) hx) hsh hholds).mono fun e W' ⟨v, he, hp⟩ => ?_
  subst he
  exact ChangeSpec.post_blind hp
theorem g_pow : Tryz.prog.globalNamed "internal/strconv.uint64pow10" = some 5 := by kernel_rfl
theorem g_powType : (Tryz.prog.globals[5]?).map (·.type) = some 174 := by kernel_rfl
theorem cells_pow : Tryz.prog.cellsOf 174 = 20 := by kernel_rfl
theorem cells_u64 : Tryz.prog.cellsOf 146 = 1 := by kernel_rfl
theorem cells_str : Tryz.prog.cellsOf 9 = 1 := by kernel_rfl
theorem g_syn : Tryz.prog.globalNamed "strconv.ErrSyntax" = some 3 := by kernel_rfl
theorem g_synType : (Tryz.prog.globals[3]?).map (·.type) = some 113 := by kernel_rfl
theorem g_rng : Tryz.prog.globalNamed "strconv.ErrRange" = some 4 := by kernel_rfl
theorem g_rngType : (Tryz.prog.globals[4]?).map (·.type) = some 113 := by kernel_rfl
theorem cells_es : Tryz.prog.cellsOf 172 = 1 := by kernel_rfl
theorem pow_datum : (Rows.laid_internal_strconv_uint64pow10 : DataW Unit) = Lib.tabData .u64 Lib.pow10Tab := by rfl
theorem star_es : "*" ++ "errors.errorString" = "*errors.errorString" := by decide
theorem row_es (u : TypeId) (h : Tryz.prog.typeName? 3 u = some "*errors.errorString") : u = 170 :=
  typeName_ptr_named (nm := "errors.errorString") (by rw [star_es]; kernel_rfl) (by kernel_rfl) (by decide) u (by rw [star_es]; exact h)
theorem max_of {W : World} (h : W.ShapedOpen Tryz.prog) : ∃ m, W.cell? ⟨0, 0, none⟩ = some (.int .i64 m) :=
  Go.Proofs.cell_of_shapedOpen_int (g := 0) (t := 3) (zero := #[.int .i64 0]) h (by decide) (by kernel_rfl) rfl (by kernel_rfl) (by kernel_rfl) Tryz.underlying3
/-- What the condition gives the walks. -/
theorem gw_of {W : World} (h : laidMetH Tryz.prog Rows.fnExactReadModelRow.laid W) (hs : W.ShapedOpen Tryz.prog) : Gw W := by
  rw [MakeChecks.laidMetH_plain _ _ _ (by kernel_rfl)] at h
  have h2 := h.tail.tail
  obtain ⟨a0, s0, h4, _⟩ := laid_sentinel h2.tail.tail g_rng g_rngType Tryz.underlying113 row_es Tryz.underlying170 Tryz.underlying172 rfl rfl Tryz.underlying9 cells_es cells_str
  obtain ⟨a1, s1, h3, _⟩ := laid_sentinel h2.tail.tail.tail g_syn g_synType Tryz.underlying113 row_es Tryz.underlying170 Tryz.underlying172 rfl rfl Tryz.underlying9 cells_es cells_str
  exact ⟨Lib.tabIs_of_head g_pow g_powType Tryz.underlying174 Tryz.underlying146 cells_u64 cells_pow (by rw [← pow_datum]; exact h2), max_of hs,
    ⟨_, by simpa using World.var?_cell g_syn h3 0, .inr ⟨_, _, rfl⟩⟩, ⟨_, by simpa using World.var?_cell g_rng h4 0, .inr ⟨_, _, rfl⟩⟩⟩
set_option maxRecDepth 100000 in
theorem open_str {H : Type} {enc : TypeId × Value → H} {W : World} {base : Nat} {v : Value} {d : DataW H} {p : List MemPlace} (hv : Value.okWide Tryz.prog W .any base 9 v) (h : DataW.Trod enc Tryz.prog W 0 (fun _ => true) true 9 v d p) : ∃ s : ByteArray, v = .string s ∧ s.size ≤ 9223372036854775807 := by
  obtain ⟨s, rfl⟩ := okWide_string Tryz.underlying9 hv
  obtain ⟨fuel, hf⟩ := h
  obtain ⟨s', e, _, hs⟩ := DataW.trod_string Tryz.underlying9 hf
  have e2 : s = s' := by simpa [Value.cells] using e
  subst e2
  exact ⟨s, rfl, by unfold maxLen at hs; omega⟩
/-- A datum of numbers, as cells. -/
def cellsOfD : DataW Unit → Array Value
  | .agg l => (l.map fun d => match d with | .lit (.int k n) => Value.int k n | _ => undef).toArray
  | _ => #[]
/-- A start at which the pinned table lies too. -/
noncomputable def doorW (os : Os) : World :=
  { World.doorLaid Tryz.prog 400 os with heap := (World.doorLaid Tryz.prog 400 os).heap.modify 1 fun o => match o with | .cells _ t z => .cells (cellsOfD Rows.laid_unicode_utf8_first) t z | o => o }
set_option maxRecDepth 100000 in
/-- The heap of that start meets the condition. -/
theorem door_met (os : Os) (args : Array Value) : laidMetH Tryz.prog Rows.fnExactReadModelRow.laid ((doorW os).forCall (fun _ _ => 0) ⟨#[], args, []⟩).memory :=
  laidMetH_of_parts3 (fuel := 8) (laidMet_of_run' 8 (by kernel_rfl) (by kernel_rfl)) (by kernel_rfl) (by kernel_rfl)
end Go.Proofs.YtgpmglfcdbpgkaaGreatDoor

/- How a slice of bytes reads as an argument of a law. No condition. -/
namespace Go.Proofs.YtgpmglfcdbpgkaaGreatDoor
open Go.ChangeShapes Go.WideShapes Go.ChangeAt Go.RowKit Go.Deep

theorem cells_uint8 : Tryz.prog.cellsOf 5 = 1 := by kernel_rfl
section
variable {H : Type} {enc : TypeId × Value → H} {W : World} {base : Nat}
set_option maxRecDepth 100000 in
theorem open_byteS {v : Value} {d : DataW H} {p : List MemPlace} (hv : Value.okWide Tryz.prog W .any base 31 v) (h : DataW.Trod enc Tryz.prog W 0 (fun _ => true) true 31 v d p) :
    ∃ A n c, v = .slice A n c ∧ n ≤ 9223372036854775807 ∧ Bytes W W.heap.size A n := by
  obtain ⟨A, n, c, rfl⟩ := okWide_slice Tryz.underlying31 hv
  obtain ⟨fuel, hf⟩ := h
  rcases open_ints Tryz.underlying31 Tryz.underlying5 cells_uint8 hf with ⟨hcs, _⟩ | ⟨a, n', c', zs, hcs, _, hl, hm, hz, _, hcell, hwz⟩
  · simp [Value.cells] at hcs
    obtain ⟨rfl, rfl, rfl⟩ := hcs
    exact ⟨_, _, _, rfl, by omega, fun j hj => by omega⟩
  · simp [Value.cells] at hcs
    obtain ⟨rfl, rfl, rfl⟩ := hcs
    unfold maxLen at hm
    simp only [if_true] at hz
    refine ⟨_, _, _, rfl, by omega, fun j hj => ?_⟩
    have hj2 : j < zs.length := by omega
    have hc := hcell j hj2
    have hw := hwz zs[j] (List.getElem_mem hj2)
    have hw2 : 0 ≤ zs[j] ∧ zs[j] < 256 := by
      have : (0 ≤ zs[j] ∧ zs[j] ≤ 255) := by simpa [Lit.wf, IntKind.min, IntKind.max, IntKind.signed, IntKind.bits] using hw
      omega
    obtain ⟨b, off, spot⟩ := a
    have hspot : spot = none := by simpa [Addr.add] using World.cell?_spot (hcell 0 (by omega))
    subst hspot
    rw [add_plain'] at hc
    refine ⟨b, off, zs[j].toNat, rfl, World.block_lt_of_cell? W _ hc, by omega, ?_⟩
    rw [hc]
    simp [hj2]
    omega
end
end Go.Proofs.YtgpmglfcdbpgkaaGreatDoor
