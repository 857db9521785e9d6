/- Contracts and helpers (joined texts, part 1). The conditions stand at each theorem. -/
import Derived.Test.YteengjcplmjakaaGreatDoorH0
import Derived.Test.YteengjcplmjakaaGreatDoorPGb
import Derived.Test.YteengjcplmjakaaGreatDoorRbT
import Derived.Lib.SliceRun
import Derived.Test.YteengjcplmjakaaGreatDoorMShp
import Derived.Laws.BytesArg
/- The reference's l19Scans (printed by DlT.py). Condition: the lengths. -/
namespace Go.Proofs.YteengjcplmjakaaGreatDoor
open Go.RowKit

/-- What is handed back: a list of the call's own. -/
def RetZs (zs : List Int) (w : World) (e : Ending) (w' : World) : Prop := ∃ g, e = .returned (.slice (some ⟨g, 0, none⟩) zs.length zs.length) ∧ w'.ownsRow w.heap.size 2 1 (.slice (some ⟨g, 0, none⟩) zs.length zs.length) zs.length (ints zs) ∧ Below w.heap.size w w'
theorem retZs_of {zs zs' : List Int} {g n : Nat} {w w' : World} (h : zs = zs') (hn : n = zs'.length) (ho : w'.ownsRow w.heap.size 2 1 (.slice (some ⟨g, 0, none⟩) n n) n (ints zs')) (hb : Below w.heap.size w w') : RetZs zs w (.returned (.slice (some ⟨g, 0, none⟩) n n)) w' := by
  subst h; subst hn; exact ⟨g, rfl, ho, hb⟩
theorem bst_step {p : Prg} {inp : ByteArray} {S : List Int} {i k : Nat} {l m : Lin} {z : Int} (hm : p.ls[k]? = some m) (hz : S[k]? = some z) : bstK p inp S i l (k + 1) = bstS z (decide (0 ≤ ixS p.vs m.tg) && usB m.tg l) (wI i k) (bstK p inp S i l k) := by
  show bstS (S.getD k 0) (decide (0 ≤ ixS p.vs ((p.ls.map Lin.tg).getD k ⟨#[]⟩)) && usB ((p.ls.map Lin.tg).getD k ⟨#[]⟩) l) (wI i k) (bstK p inp S i l k) = _
  rw [tg_get hm, List.getD_eq_getElem?_getD, hz]
  rfl
theorem ints_at' {l : List Int} {k : Nat} {z : Int} (h : l[k]? = some z) : (ints l)[k]? = some (.int .i64 z) := by simp [ints, h]
theorem ints_set (l : List Int) (k : Nat) (z : Int) : (ints l).set k (.int .i64 z) = ints (l.set k z) := by simp [ints, List.map_set]
set_option maxHeartbeats 4000000 in
set_option maxRecDepth 100000 in
theorem c_l19Scans (p : Prg) (a1 a2 a3 a4 : Option Addr) (c1 c2 c3 c4 : Nat) (inp : ByteArray) (w : World) (hs : PgOk p) (hbd : PgB p) (h : PgR w a1 a2 a3 a4 p) :
    Calls Tryz.prog 83 #[pv p a1 a2 a3 a4 c1 c2 c3 c4, .string inp] w (RetZs (scnV p inp) w) := by
  obtain ⟨i0, hi, hz0, hz1, hz2⟩ := info_parts info_int64
  have H := Lib.hid h
  have HI := Lib.hid (fun s w h => c_l14Index a2 c2 _ p.vs s w rfl hs.v.1 h)
  have HU := Lib.hid (fun tg ts A c s w (hl : ts.length ≤ 40) h => c_l14Uses tg ts A c ts.length s w rfl (by omega) h)
  have HTS := Lib.hid hbd.t
  have bl := hbd.l
  have B0 := Lib.hid (below_alloc (Below.refl w.heap.size w) (.cells #[.string p.nm, .slice a1 p.ins.length c1, .slice a2 p.vs.length c2, .slice a3 p.os.length c3, .string p.gd, .slice a4 p.ls.length c4] 27))
  have HP : Hid (PB (w.alloc (.cells #[.string p.nm, .slice a1 p.ins.length c1, .slice a2 p.vs.length c2, .slice a3 p.os.length c3, .string p.gd, .slice a4 p.ls.length c4] 27)) w.heap.size p a1 a2 a3 a4 c1 c2 c3 c4) := Lib.hid ⟨by go_simp, by go_simp, by go_simp, by go_simp, by go_simp, by go_simp⟩
  have HV : Hid (scnV p inp = scnR p inp (p.ls.length + 1)) := Lib.hid rfl
  generalize scnV p inp = RV at *
  clear hs hbd h
  go_enter Tryz.func83, Tryz.ntmps83
  dsimp only [pv]
  go_upto_region 1 with (fail)
  generalize w.alloc (.cells #[.string p.nm, .slice a1 p.ins.length c1, .slice a2 p.vs.length c2, .slice a3 p.os.length c3, .string p.gd, .slice a4 p.ls.length c4] 27) = W at *
  obtain ⟨k0, k1, k2, k3, k4, k5⟩ := HP.out
  go_wp2_with (first
    | (at_make
       refine wpList_make_full _ rfl (.tmp 13) (.tmp 13) _ rfl W.heap.size 2 i0 _ 1 Tryz.underlying29 hi hz0 hz1 .i64 .i64 _ _ p.ls.length rfl rfl rfl rfl (by rw [hz2]; omega) (by unfold maxLen; omega) (Nat.le_refl _) ?_
       intro w1 hown hgrow)
    )
  have hb1 : Below W.heap.size W w1 := below_of_grown (Below.refl _ _) hgrow (by simp)
  rw [made_intQ] at hown
  have HO0 := Lib.hid hown
  have HB1 := Lib.hid hb1
  clear hown hgrow hb1 k0 k1 k2 k3 k4 k5 hi hz0 hz1 hz2
  go_loopw [6, 7, 8, 9, 10] (fun rd _ _ _ _ wr => ∃ r : Nat, r ≤ p.ls.length + 1 ∧ rd = .int .i64 r ∧ Hid (wr.ownsRow W.heap.size 2 1 (.slice (some ⟨W.heap.size, 0, none⟩) p.ls.length p.ls.length) p.ls.length (ints (scnR p inp r))) ∧ Hid (Below W.heap.size W wr)) (fun rd _ _ _ _ _ => p.ls.length + 1 - (intOf rd).toNat)
  case atStart => exact ⟨0, Nat.zero_le _, rfl, HO0, HB1⟩
  case round =>
    obtain ⟨r, hr, rfl, ho, hb⟩ := hrel
    clear HO0 HB1
    obtain ⟨k0, k1, k2, k3, k4, k5⟩ := HP.out.below hb.out
    by_cases hlr : r ≤ p.ls.length
    · have hr0 : (0 : Int) ≤ (r : Int) := by omega
      have hr1 : (r : Int) ≤ p.ls.length := by omega
      have HRS : Hid (scnR p inp (r + 1) = rowK p inp (scnR p inp r) p.ls.length) := Lib.hid rfl
      have hrl := scnR_len p inp r
      have HRB := Lib.hid (scn_le p inp r)
      have HRN := Lib.hid (scn_snd p inp r)
      have hM0 : (0 : Int) ≤ (r : Int) * p.ls.length := Int.mul_nonneg (by omega) (by omega)
      have hM1 : (r : Int) * p.ls.length ≤ 41 * 40 := Int.mul_le_mul (by omega) (by omega) (by omega) (by omega)
      generalize scnR p inp r = R1 at *
      generalize (r : Int) * p.ls.length = M at *
      go_wp2_with (fail)
      clear k0 k1 k2 k3 k4 k5
      go_loopw [7, 8, 9, 10] (fun ii _ _ _ wi => ∃ i : Nat, i ≤ p.ls.length ∧ ii = .int .i64 i ∧ Hid (wi.ownsRow W.heap.size 2 1 (.slice (some ⟨W.heap.size, 0, none⟩) p.ls.length p.ls.length) p.ls.length (ints (rowK p inp R1 i))) ∧ Hid (Below W.heap.size W wi)) (fun ii _ _ _ _ => p.ls.length - (intOf ii).toNat)
      case atStart => exact ⟨0, Nat.zero_le _, rfl, ho, hb⟩
      case round =>
        obtain ⟨i, hi, rfl, ho, hb⟩ := hrel
        obtain ⟨k0, k1, k2, k3, k4, k5⟩ := HP.out.below hb.out
        by_cases hli : i < p.ls.length
        · obtain ⟨⟨tg, ts⟩, hz⟩ : ∃ z, p.ls[i]? = some z := ⟨_, List.getElem?_eq_getElem hli⟩
          have htl := HTS.out _ (List.mem_of_getElem? hz)
          dsimp only at htl
          obtain ⟨b, off, la, lc, rfl, hblt, g0w, g1w, hrow⟩ := H.out.l.at hz
          dsimp only at g0w g1w hrow
          have GW := Lib.hid g1w
          have HROW := Lib.hid hrow
          have g1 := cell_later (below_chain B0.out hb.out) g1w
          have HRK := Lib.hid (rowK_succ (inp := inp) (S := R1) hz)
          have HSN := Lib.hid (row_snd HRN.out i (by omega))
          have HRL := Lib.hid (row_le (p := p) (inp := inp) hM0 HRB.out i)
          have hrkl := rowK_len p inp R1 i
          have HBS := Lib.hid (fun (S : List Int) => show bstK p inp S i ⟨tg, ts⟩ 0 = if usB inp ⟨tg, ts⟩ then 1 else 0 from rfl)
          have hi0 : (0 : Int) ≤ (i : Int) := by omega
          have hi1 : (i : Int) < p.ls.length := by omega
          have HZ := Lib.hid hz
          clear hz g0w g1w hrow hblt
          generalize rowK p inp R1 i = S at *
          go_wp2_with (fail)
          refine (HU.out tg ts la lc inp _ htl (HROW.out.below (below_chain B0.out hb.out))).mono ?_
          rintro e wu ⟨rfl, hbu⟩
          have HBU := Lib.hid (below_chain hb.out hbu)
          have HOU := Lib.hid (own_below ho.out hbu)
          have HBS0 := Lib.hid (HBS.out S)
          clear hbu
          generalize usB inp ⟨tg, ts⟩ = u at *
          go_upto_if 36 with (fail)
          go_cut [8] from 22 to 97 (fun v wx => v = .int .i64 (bstK p inp S i ⟨tg, ts⟩ 0) ∧ wx = wu)
          case first =>
            cases u
            · have HB0 : Hid (bstK p inp S i ⟨tg, ts⟩ 0 = 0) := Lib.hid HBS0.out
              go_wp2_with (fail)
              go_meet
              case rel => exact ⟨by rw [HB0.out], rfl⟩
            · have HB0 : Hid (bstK p inp S i ⟨tg, ts⟩ 0 = 1) := Lib.hid HBS0.out
              go_wp2_with (fail)
              go_meet
              case rel => exact ⟨by rw [HB0.out], rfl⟩
          case rest =>
            clear ho hb k0 k1 k2 k3 k4 k5 g1
            obtain ⟨rfl, rfl⟩ := hcut
            obtain ⟨wC, rfl⟩ : ∃ wC, wC = wc := ⟨_, rfl⟩
            have ho := HOU
            have hb := HBU
            clear HOU HBU HBS0
            go_wp2_with (fail)
            go_loopw [8, 9, 10] (fun bb kk _ wq => ∃ k : Nat, k ≤ p.ls.length ∧ kk = .int .i64 k ∧ bb = .int .i64 (bstK p inp S i ⟨tg, ts⟩ k) ∧ Hid (wq.ownsRow W.heap.size 2 1 (.slice (some ⟨W.heap.size, 0, none⟩) p.ls.length p.ls.length) p.ls.length (ints S)) ∧ Hid (Below W.heap.size W wq)) (fun _ kk _ _ => p.ls.length - (intOf kk).toNat)
            case atStart => exact ⟨0, Nat.zero_le _, rfl, rfl, ho, hb⟩
            case round =>
              obtain ⟨k, hk, rfl, rfl, ho, hb⟩ := hrel
              obtain ⟨k0, k1, k2, k3, k4, k5⟩ := HP.out.below hb.out
              have g1 := cell_later (below_chain B0.out hb.out) GW.out
              have hbn := bst_snd HZ.out HSN.out k hk
              have hbl := bst_le (p := p) (inp := inp) (S := S) (i := i) (l := ⟨tg, ts⟩) (M := M + i) (by omega) HRL.out k
              by_cases hlk : k < p.ls.length
              · obtain ⟨⟨mg, ms⟩, hzk⟩ : ∃ z, p.ls[k]? = some z := ⟨_, List.getElem?_eq_getElem hlk⟩
                obtain ⟨b', off', la', lc', e', _, g2w, _, _⟩ := H.out.l.at hzk
                simp only [Option.some.injEq, Addr.mk.injEq, and_true] at e'
                obtain ⟨rfl, rfl⟩ := e'
                have g2 := cell_later (below_chain B0.out hb.out) g2w
                dsimp only at g2
                obtain ⟨z, hzz⟩ : ∃ z, S[k]? = some z := ⟨_, List.getElem?_eq_getElem (by omega)⟩
                have hzb := HRL.out k
                rw [List.getD_eq_getElem?_getD, hzz] at hzb
                have hzb2 : z ≤ M + i := hzb
                have hzn := (HSN.out k z hzz).1
                have g3 := ho.out.cellAt k (by omega)
                rw [ints_at' hzz] at g3
                have HST := Lib.hid (bst_step (p := p) (inp := inp) (i := i) (l := ⟨tg, ts⟩) hzk hzz)
                have HBD := hbl
                have hk0 : (0 : Int) ≤ (k : Int) := by omega
                have hk1 : (k : Int) < p.ls.length := by omega
                have hwI := wI_bd i k
                have HWI : Hid (wI i k = if i ≤ k then 1 else 0) := Lib.hid rfl
                dsimp only at HST
                clear g2w hzk hzz hzb hbn hbl
                generalize bstK p inp S i ⟨tg, ts⟩ k = B at *
                by_cases hz0 : z = 0
                · subst hz0
                  have HB1 : Hid (bstK p inp S i ⟨tg, ts⟩ (k + 1) = B) := Lib.hid (by rw [HST.out]; exact if_pos (.inl rfl))
                  clear HST
                  go_wp2_with (fail)
                  refine wp_region_held_drew (S := (fun w' => (w'.cell? ⟨w.heap.size, 2, none⟩ = some (.slice a2 p.vs.length c2) ∧ w'.cell? ⟨w.heap.size, 5, none⟩ = some (.slice (some ⟨b, off, none⟩) p.ls.length c4)) ∧ (w'.cell? ⟨b, off + k * 2, none⟩ = some (.string mg) ∧ w'.cell? ⟨b, off + i * 2 + 1, none⟩ = some (.slice la ts.length lc)) ∧ w'.cell? ⟨W.heap.size, k, none⟩ = some (.int .i64 0))) (by kernel_rfl) ?_ (fun hHeld => ?_)
                  · exact ⟨⟨k2, k5⟩, ⟨g2, g1⟩, g3⟩
                  refine rg_take (v := ?_) 0 rfl (by kernel_rfl) (by kernel_rfl) (by kernel_rfl) (fun _ _ _ h => h) (by kernel_rfl) ?_ (by assumption) ?_
                  rotate_left
                  · (intro w' hSw; (try dsimp only at hSw); go_simp; first | done | with_reducible rfl)
                  simp only [Act.put, List.setIfInBounds_toArray, List.set_cons_zero, List.set_cons_succ]
                  refine rg_take (v := ?_) 1 rfl (by kernel_rfl) (by kernel_rfl) (by kernel_rfl) (fun _ _ _ h => h) (by kernel_rfl) ?_ (by assumption) ?_
                  rotate_left
                  · (intro w' hSw; (try dsimp only at hSw); go_simp; first | done | with_reducible rfl)
                  simp only [Act.put, List.setIfInBounds_toArray, List.set_cons_zero, List.set_cons_succ]
                  refine rg_take (v := ?_) 2 rfl (by kernel_rfl) (by kernel_rfl) (by kernel_rfl) (fun _ _ _ h => h) (by kernel_rfl) ?_ (by assumption) ?_
                  rotate_left
                  · (intro w' hSw; (try dsimp only at hSw); go_simp; first | done | with_reducible rfl)
                  simp only [Act.put, List.setIfInBounds_toArray, List.set_cons_zero, List.set_cons_succ]
                  refine rg_take (v := ?_) 3 rfl (by kernel_rfl) (by kernel_rfl) (by kernel_rfl) (fun _ _ _ h => h) (by kernel_rfl) ?_ (by assumption) ?_
                  rotate_left
                  · (intro w' hSw; (try dsimp only at hSw); go_simp; first | done | with_reducible rfl)
                  simp only [Act.put, List.setIfInBounds_toArray, List.set_cons_zero, List.set_cons_succ]
                  refine rg_take (v := ?_) 4 rfl (by kernel_rfl) (by kernel_rfl) (by kernel_rfl) (fun _ _ _ h => h) (by kernel_rfl) ?_ (by assumption) ?_
                  rotate_left
                  · (intro w' hSw; (try dsimp only at hSw); go_simp; first | done | with_reducible rfl)
                  simp only [Act.put, List.setIfInBounds_toArray, List.set_cons_zero, List.set_cons_succ]
                  refine rg_take (v := ?_) 5 rfl (by kernel_rfl) (by kernel_rfl) (by kernel_rfl) (fun _ _ _ h => h) (by kernel_rfl) ?_ (by assumption) ?_
                  rotate_left
                  · (intro w' hSw; (try dsimp only at hSw); go_simp; first | done | with_reducible rfl)
                  simp only [Act.put, List.setIfInBounds_toArray, List.set_cons_zero, List.set_cons_succ]
                  refine rg_skip 6 rfl (by kernel_rfl) (by kernel_rfl) (by kernel_rfl) (fun _ _ _ h => h) (by kernel_rfl) (by assumption) ?_
                  simp only [Act.put, List.setIfInBounds_toArray, List.set_cons_zero, List.set_cons_succ]
                  refine rg_skip 7 rfl (by kernel_rfl) (by kernel_rfl) (by kernel_rfl) (fun _ _ _ h => h) (by kernel_rfl) (by assumption) ?_
                  simp only [Act.put, List.setIfInBounds_toArray, List.set_cons_zero, List.set_cons_succ]
                  refine rg_skip 8 rfl (by kernel_rfl) (by kernel_rfl) (by kernel_rfl) (fun _ _ _ h => h) (by kernel_rfl) (by assumption) ?_
                  simp only [Act.put, List.setIfInBounds_toArray, List.set_cons_zero, List.set_cons_succ]
                  refine rg_skip 9 rfl (by kernel_rfl) (by kernel_rfl) (by kernel_rfl) (fun _ _ _ h => h) (by kernel_rfl) (by assumption) ?_
                  simp only [Act.put, List.setIfInBounds_toArray, List.set_cons_zero, List.set_cons_succ]
                  refine rg_skip 10 rfl (by kernel_rfl) (by kernel_rfl) (by kernel_rfl) (fun _ _ _ h => h) (by kernel_rfl) (by assumption) ?_
                  simp only [Act.put, List.setIfInBounds_toArray, List.set_cons_zero, List.set_cons_succ]
                  refine rg_skip 11 rfl (by kernel_rfl) (by kernel_rfl) (by kernel_rfl) (fun _ _ _ h => h) (by kernel_rfl) (by assumption) ?_
                  simp only [Act.put, List.setIfInBounds_toArray, List.set_cons_zero, List.set_cons_succ]
                  refine rg_skip 12 rfl (by kernel_rfl) (by kernel_rfl) (by kernel_rfl) (fun _ _ _ h => h) (by kernel_rfl) (by assumption) ?_
                  simp only [Act.put, List.setIfInBounds_toArray, List.set_cons_zero, List.set_cons_succ]
                  refine rg_skip 13 rfl (by kernel_rfl) (by kernel_rfl) (by kernel_rfl) (fun _ _ _ h => h) (by kernel_rfl) (by assumption) ?_
                  simp only [Act.put, List.setIfInBounds_toArray, List.set_cons_zero, List.set_cons_succ]
                  refine rg_skip 14 rfl (by kernel_rfl) (by kernel_rfl) (by kernel_rfl) (fun _ _ _ h => h) (by kernel_rfl) (by assumption) ?_
                  simp only [Act.put, List.setIfInBounds_toArray, List.set_cons_zero, List.set_cons_succ]
                  refine rg_skip 15 rfl (by kernel_rfl) (by kernel_rfl) (by kernel_rfl) (fun _ _ _ h => h) (by kernel_rfl) (by assumption) ?_
                  simp only [Act.put, List.setIfInBounds_toArray, List.set_cons_zero, List.set_cons_succ]
                  refine rg_take (v := ?_) 16 rfl (by kernel_rfl) (by kernel_rfl) (by kernel_rfl) (fun _ _ _ h => h) (by kernel_rfl) ?_ (by assumption) ?_
                  rotate_left
                  · (intro w' hSw; (try dsimp only at hSw); go_simp; first | done | with_reducible rfl)
                  simp only [Act.put, List.setIfInBounds_toArray, List.set_cons_zero, List.set_cons_succ]
                  refine rg_take (v := ?_) 17 rfl (by kernel_rfl) (by kernel_rfl) (by kernel_rfl) (fun _ _ _ h => h) (by kernel_rfl) ?_ (by assumption) ?_
                  rotate_left
                  · (intro w' hSw; (try dsimp only at hSw); go_simp; first | done | with_reducible rfl)
                  simp only [Act.put, List.setIfInBounds_toArray, List.set_cons_zero, List.set_cons_succ]
                  refine rg_skip 18 rfl (by kernel_rfl) (by kernel_rfl) (by kernel_rfl) (fun _ _ _ h => h) (by kernel_rfl) (by assumption) ?_
                  simp only [Act.put, List.setIfInBounds_toArray, List.set_cons_zero, List.set_cons_succ]
                  refine rg_skip 19 rfl (by kernel_rfl) (by kernel_rfl) (by kernel_rfl) (fun _ _ _ h => h) (by kernel_rfl) (by assumption) ?_
                  simp only [Act.put, List.setIfInBounds_toArray, List.set_cons_zero, List.set_cons_succ]
                  refine rg_skip 20 rfl (by kernel_rfl) (by kernel_rfl) (by kernel_rfl) (fun _ _ _ h => h) (by kernel_rfl) (by assumption) ?_
                  simp only [Act.put, List.setIfInBounds_toArray, List.set_cons_zero, List.set_cons_succ]
                  refine rg_skip 21 rfl (by kernel_rfl) (by kernel_rfl) (by kernel_rfl) (fun _ _ _ h => h) (by kernel_rfl) (by assumption) ?_
                  simp only [Act.put, List.setIfInBounds_toArray, List.set_cons_zero, List.set_cons_succ]
                  refine rg_skip 22 rfl (by kernel_rfl) (by kernel_rfl) (by kernel_rfl) (fun _ _ _ h => h) (by kernel_rfl) (by assumption) ?_
                  simp only [Act.put, List.setIfInBounds_toArray, List.set_cons_zero, List.set_cons_succ]
                  refine rg_skip 23 rfl (by kernel_rfl) (by kernel_rfl) (by kernel_rfl) (fun _ _ _ h => h) (by kernel_rfl) (by assumption) ?_
                  simp only [Act.put, List.setIfInBounds_toArray, List.set_cons_zero, List.set_cons_succ]
                  refine rg_skip 24 rfl (by kernel_rfl) (by kernel_rfl) (by kernel_rfl) (fun _ _ _ h => h) (by kernel_rfl) (by assumption) ?_
                  simp only [Act.put, List.setIfInBounds_toArray, List.set_cons_zero, List.set_cons_succ]
                  refine rg_skip 25 rfl (by kernel_rfl) (by kernel_rfl) (by kernel_rfl) (fun _ _ _ h => h) (by kernel_rfl) (by assumption) ?_
                  simp only [Act.put, List.setIfInBounds_toArray, List.set_cons_zero, List.set_cons_succ]
                  refine rg_skip 26 rfl (by kernel_rfl) (by kernel_rfl) (by kernel_rfl) (fun _ _ _ h => h) (by kernel_rfl) (by assumption) ?_
                  simp only [Act.put, List.setIfInBounds_toArray, List.set_cons_zero, List.set_cons_succ]
                  refine rg_skip 27 rfl (by kernel_rfl) (by kernel_rfl) (by kernel_rfl) (fun _ _ _ h => h) (by kernel_rfl) (by assumption) ?_
                  simp only [Act.put, List.setIfInBounds_toArray, List.set_cons_zero, List.set_cons_succ]
                  refine rg_skip 28 rfl (by kernel_rfl) (by kernel_rfl) (by kernel_rfl) (fun _ _ _ h => h) (by kernel_rfl) (by assumption) ?_
                  simp only [Act.put, List.setIfInBounds_toArray, List.set_cons_zero, List.set_cons_succ]
                  refine rg_skip 29 rfl (by kernel_rfl) (by kernel_rfl) (by kernel_rfl) (fun _ _ _ h => h) (by kernel_rfl) (by assumption) ?_
                  simp only [Act.put, List.setIfInBounds_toArray, List.set_cons_zero, List.set_cons_succ]
                  refine rg_skip 30 rfl (by kernel_rfl) (by kernel_rfl) (by kernel_rfl) (fun _ _ _ h => h) (by kernel_rfl) (by assumption) ?_
                  simp only [Act.put, List.setIfInBounds_toArray, List.set_cons_zero, List.set_cons_succ]
                  refine rg_skip 31 rfl (by kernel_rfl) (by kernel_rfl) (by kernel_rfl) (fun _ _ _ h => h) (by kernel_rfl) (by assumption) ?_
                  simp only [Act.put, List.setIfInBounds_toArray, List.set_cons_zero, List.set_cons_succ]
                  refine rg_take (v := ?_) 32 rfl (by kernel_rfl) (by kernel_rfl) (by kernel_rfl) (fun _ _ _ h => h) (by kernel_rfl) ?_ (by assumption) ?_
                  rotate_left
                  · (intro w' hSw; (try dsimp only at hSw); go_simp; first | done | with_reducible rfl)
                  simp only [Act.put, List.setIfInBounds_toArray, List.set_cons_zero, List.set_cons_succ]
                  refine wpAnyH_done (by kernel_rfl) ?_ _
                  clear hHeld
                  have HOD := Lib.hid (own_drew ho.out)
                  have HBDR := Lib.hid hb.out.drew
                  clear ho hb k0 k1 k2 k3 k4 k5 g1 g2 g3
                  go_wp2_with (fail)
                  go_roundw
                  case rel => exact ⟨k + 1, by omega, by go_num, by rw [HB1.out], HOD, HBDR⟩
                  case measure => simp [intOf]; omega
                have e0 : (z == 0) = false := by simpa using hz0
                go_wp2_with (fail)
                refine wp_region_held_drew (S := (fun w' => (w'.cell? ⟨w.heap.size, 2, none⟩ = some (.slice a2 p.vs.length c2) ∧ w'.cell? ⟨w.heap.size, 5, none⟩ = some (.slice (some ⟨b, off, none⟩) p.ls.length c4)) ∧ (w'.cell? ⟨b, off + k * 2, none⟩ = some (.string mg) ∧ w'.cell? ⟨b, off + i * 2 + 1, none⟩ = some (.slice la ts.length lc)) ∧ w'.cell? ⟨W.heap.size, k, none⟩ = some (.int .i64 z))) (by kernel_rfl) ?_ (fun hHeld => ?_)
                · exact ⟨⟨k2, k5⟩, ⟨g2, g1⟩, g3⟩
                refine rg_take (v := ?_) 0 rfl (by kernel_rfl) (by kernel_rfl) (by kernel_rfl) (fun _ _ _ h => h) (by kernel_rfl) ?_ (by assumption) ?_
                rotate_left
                · (intro w' hSw; (try dsimp only at hSw); go_simp; first | done | with_reducible rfl)
                simp only [Act.put, List.setIfInBounds_toArray, List.set_cons_zero, List.set_cons_succ]
                refine rg_take (v := ?_) 1 rfl (by kernel_rfl) (by kernel_rfl) (by kernel_rfl) (fun _ _ _ h => h) (by kernel_rfl) ?_ (by assumption) ?_
                rotate_left
                · (intro w' hSw; (try dsimp only at hSw); go_simp; first | done | with_reducible rfl)
                simp only [Act.put, List.setIfInBounds_toArray, List.set_cons_zero, List.set_cons_succ]
                refine rg_take (v := ?_) 2 rfl (by kernel_rfl) (by kernel_rfl) (by kernel_rfl) (fun _ _ _ h => h) (by kernel_rfl) ?_ (by assumption) ?_
                rotate_left
                · (intro w' hSw; (try dsimp only at hSw); go_simp; first | done | with_reducible rfl)
                simp only [Act.put, List.setIfInBounds_toArray, List.set_cons_zero, List.set_cons_succ]
                refine rg_take (v := ?_) 3 rfl (by kernel_rfl) (by kernel_rfl) (by kernel_rfl) (fun _ _ _ h => h) (by kernel_rfl) ?_ (by assumption) ?_
                rotate_left
                · (intro w' hSw; (try dsimp only at hSw); go_simp; first | done | with_reducible rfl)
                simp only [Act.put, List.setIfInBounds_toArray, List.set_cons_zero, List.set_cons_succ]
                refine rg_take (v := ?_) 4 rfl (by kernel_rfl) (by kernel_rfl) (by kernel_rfl) (fun _ _ _ h => h) (by kernel_rfl) ?_ (by assumption) ?_
                rotate_left
                · (intro w' hSw; (try dsimp only at hSw); go_simp; first | done | with_reducible rfl)
                simp only [Act.put, List.setIfInBounds_toArray, List.set_cons_zero, List.set_cons_succ]
                refine rg_take (v := ?_) 5 rfl (by kernel_rfl) (by kernel_rfl) (by kernel_rfl) (fun _ _ _ h => h) (by kernel_rfl) ?_ (by assumption) ?_
                rotate_left
                · (intro w' hSw; (try dsimp only at hSw); go_simp; first | done | with_reducible rfl)
                simp only [Act.put, List.setIfInBounds_toArray, List.set_cons_zero, List.set_cons_succ]
                refine rg_take (v := ?_) 6 rfl (by kernel_rfl) (by kernel_rfl) (by kernel_rfl) (fun _ _ _ h => h) (by kernel_rfl) ?_ (by assumption) ?_
                rotate_left
                · (intro w' hSw; (try dsimp only at hSw); go_simp; first | done | with_reducible rfl)
                simp only [Act.put, List.setIfInBounds_toArray, List.set_cons_zero, List.set_cons_succ]
                refine rg_take (v := ?_) 7 rfl (by kernel_rfl) (by kernel_rfl) (by kernel_rfl) (fun _ _ _ h => h) (by kernel_rfl) ?_ (by assumption) ?_
                rotate_left
                · (intro w' hSw; (try dsimp only at hSw); go_simp; first | done | with_reducible rfl)
                simp only [Act.put, List.setIfInBounds_toArray, List.set_cons_zero, List.set_cons_succ]
                refine rg_take (v := ?_) 8 rfl (by kernel_rfl) (by kernel_rfl) (by kernel_rfl) (fun _ _ _ h => h) (by kernel_rfl) ?_ (by assumption) ?_
                rotate_left
                · (intro w' hSw; (try dsimp only at hSw); go_simp; first | done | with_reducible rfl)
                simp only [Act.put, List.setIfInBounds_toArray, List.set_cons_zero, List.set_cons_succ]
                refine rg_take (v := ?_) 9 rfl (by kernel_rfl) (by kernel_rfl) (by kernel_rfl) (fun _ _ _ h => h) (by kernel_rfl) ?_ (by assumption) ?_
                rotate_left
                · (intro w' hSw; (try dsimp only at hSw); go_simp; first | done | with_reducible rfl)
                simp only [Act.put, List.setIfInBounds_toArray, List.set_cons_zero, List.set_cons_succ]
                refine rg_take (v := ?_) 10 rfl (by kernel_rfl) (by kernel_rfl) (by kernel_rfl) (fun _ _ _ h => h) (by kernel_rfl) ?_ (by assumption) ?_
                rotate_left
                · (intro w' hSw; (try dsimp only at hSw); go_simp; first | done | with_reducible rfl)
                simp only [Act.put, List.setIfInBounds_toArray, List.set_cons_zero, List.set_cons_succ]
                refine rg_take (v := ?_) 11 rfl (by kernel_rfl) (by kernel_rfl) (by kernel_rfl) (fun _ _ _ h => h) (by kernel_rfl) ?_ (by assumption) ?_
                rotate_left
                · (intro w' hSw; (try dsimp only at hSw); go_simp; first | done | with_reducible rfl)
                simp only [Act.put, List.setIfInBounds_toArray, List.set_cons_zero, List.set_cons_succ]
                refine rg_take (v := ?_) 12 rfl (by kernel_rfl) (by kernel_rfl) (by kernel_rfl) (fun _ _ _ h => h) (by kernel_rfl) ?_ (by assumption) ?_
                rotate_left
                · (intro w' hSw; (try dsimp only at hSw); go_simp; first | done | with_reducible rfl)
                simp only [Act.put, List.setIfInBounds_toArray, List.set_cons_zero, List.set_cons_succ]
                refine rg_take (v := ?_) 13 rfl (by kernel_rfl) (by kernel_rfl) (by kernel_rfl) (fun _ _ _ h => h) (by kernel_rfl) ?_ (by assumption) ?_
                rotate_left
                · (intro w' hSw; (try dsimp only at hSw); go_simp; first | done | with_reducible rfl)
                simp only [Act.put, List.setIfInBounds_toArray, List.set_cons_zero, List.set_cons_succ]
                refine rg_run 14 rfl (by kernel_rfl) (by kernel_rfl) (fun K hK => ?_)
                go_simp
                refine (HI.out mg _ (H.out.v.below ((below_chain B0.out hb.out).drew))).mono ?_
                rintro e w5 ⟨rfl, hb5⟩
                have hbs : Below wr.heap.size wr w5 := below_chain (Below.refl _ _).drew hb5
                have HB5 := Lib.hid (below_chain hb.out hbs)
                have HO5 := Lib.hid (own_below ho.out hbs)
                replace k2 := cell_later hbs (by exact k2)
                replace k5 := cell_later hbs (by exact k5)
                replace g2 := cell_later hbs (by exact g2)
                replace g1 := cell_later hbs (by exact g1)
                replace g3 := cell_later hbs (by exact g3)
                clear hbs hb5 ho hb k0 k1 k3 k4
                generalize ixS p.vs mg = zi at *
                by_cases hzi : 0 ≤ zi
                · have hzi2 : ¬ zi < 0 := by omega
                  have hzi3 : decide (zi < 0) = false := decide_eq_false hzi2
                  go_wp2
                  clear hHeld
                  refine hK.out _ _ (by exact ⟨⟨k2, k5⟩, ⟨g2, g1⟩, g3⟩) (fun hHeld => ?_)
                  clear hK K
                  try simp only [Act.put, List.setIfInBounds_toArray, List.set_cons_zero, List.set_cons_succ]
                  refine rg_take (v := ?_) 15 rfl (by kernel_rfl) (by kernel_rfl) (by kernel_rfl) (fun _ _ _ h => h) (by kernel_rfl) ?_ (by assumption) ?_
                  rotate_left
                  · (intro w' hSw; (try dsimp only at hSw); go_simp; first | done | with_reducible rfl)
                  simp only [Act.put, List.setIfInBounds_toArray, List.set_cons_zero, List.set_cons_succ]
                  refine rg_take (v := ?_) 16 rfl (by kernel_rfl) (by kernel_rfl) (by kernel_rfl) (fun _ _ _ h => h) (by kernel_rfl) ?_ (by assumption) ?_
                  rotate_left
                  · (intro w' hSw; (try dsimp only at hSw); go_simp; first | done | with_reducible rfl)
                  simp only [Act.put, List.setIfInBounds_toArray, List.set_cons_zero, List.set_cons_succ]
                  refine rg_take (v := ?_) 17 rfl (by kernel_rfl) (by kernel_rfl) (by kernel_rfl) (fun _ _ _ h => h) (by kernel_rfl) ?_ (by assumption) ?_
                  rotate_left
                  · (intro w' hSw; (try dsimp only at hSw); go_simp; first | done | with_reducible rfl)
                  simp only [Act.put, List.setIfInBounds_toArray, List.set_cons_zero, List.set_cons_succ]
                  refine rg_take (v := ?_) 18 rfl (by kernel_rfl) (by kernel_rfl) (by kernel_rfl) (fun _ _ _ h => h) (by kernel_rfl) ?_ (by assumption) ?_
                  rotate_left
                  · (intro w' hSw; (try dsimp only at hSw); go_simp; first | done | with_reducible rfl)
                  simp only [Act.put, List.setIfInBounds_toArray, List.set_cons_zero, List.set_cons_succ]
                  refine rg_take (v := ?_) 19 rfl (by kernel_rfl) (by kernel_rfl) (by kernel_rfl) (fun _ _ _ h => h) (by kernel_rfl) ?_ (by assumption) ?_
                  rotate_left
                  · (intro w' hSw; (try dsimp only at hSw); go_simp; first | done | with_reducible rfl)
                  simp only [Act.put, List.setIfInBounds_toArray, List.set_cons_zero, List.set_cons_succ]
                  refine rg_take (v := ?_) 20 rfl (by kernel_rfl) (by kernel_rfl) (by kernel_rfl) (fun _ _ _ h => h) (by kernel_rfl) ?_ (by assumption) ?_
                  rotate_left
                  · (intro w' hSw; (try dsimp only at hSw); go_simp; first | done | with_reducible rfl)
                  simp only [Act.put, List.setIfInBounds_toArray, List.set_cons_zero, List.set_cons_succ]
                  refine rg_take (v := ?_) 21 rfl (by kernel_rfl) (by kernel_rfl) (by kernel_rfl) (fun _ _ _ h => h) (by kernel_rfl) ?_ (by assumption) ?_
                  rotate_left
                  · (intro w' hSw; (try dsimp only at hSw); go_simp; first | done | with_reducible rfl)
                  simp only [Act.put, List.setIfInBounds_toArray, List.set_cons_zero, List.set_cons_succ]
                  refine rg_take (v := ?_) 22 rfl (by kernel_rfl) (by kernel_rfl) (by kernel_rfl) (fun _ _ _ h => h) (by kernel_rfl) ?_ (by assumption) ?_
                  rotate_left
                  · (intro w' hSw; (try dsimp only at hSw); go_simp; first | done | with_reducible rfl)
                  simp only [Act.put, List.setIfInBounds_toArray, List.set_cons_zero, List.set_cons_succ]
                  refine rg_take (v := ?_) 23 rfl (by kernel_rfl) (by kernel_rfl) (by kernel_rfl) (fun _ _ _ h => h) (by kernel_rfl) ?_ (by assumption) ?_
                  rotate_left
                  · (intro w' hSw; (try dsimp only at hSw); go_simp; first | done | with_reducible rfl)
                  simp only [Act.put, List.setIfInBounds_toArray, List.set_cons_zero, List.set_cons_succ]
                  refine rg_take (v := ?_) 24 rfl (by kernel_rfl) (by kernel_rfl) (by kernel_rfl) (fun _ _ _ h => h) (by kernel_rfl) ?_ (by assumption) ?_
                  rotate_left
                  · (intro w' hSw; (try dsimp only at hSw); go_simp; first | done | with_reducible rfl)
                  simp only [Act.put, List.setIfInBounds_toArray, List.set_cons_zero, List.set_cons_succ]
                  refine rg_take (v := ?_) 25 rfl (by kernel_rfl) (by kernel_rfl) (by kernel_rfl) (fun _ _ _ h => h) (by kernel_rfl) ?_ (by assumption) ?_
                  rotate_left
                  · (intro w' hSw; (try dsimp only at hSw); go_simp; first | done | with_reducible rfl)
                  simp only [Act.put, List.setIfInBounds_toArray, List.set_cons_zero, List.set_cons_succ]
                  refine rg_take (v := ?_) 26 rfl (by kernel_rfl) (by kernel_rfl) (by kernel_rfl) (fun _ _ _ h => h) (by kernel_rfl) ?_ (by assumption) ?_
                  rotate_left
                  · (intro w' hSw; (try dsimp only at hSw); go_simp; first | done | with_reducible rfl)
                  simp only [Act.put, List.setIfInBounds_toArray, List.set_cons_zero, List.set_cons_succ]
                  refine rg_take (v := ?_) 27 rfl (by kernel_rfl) (by kernel_rfl) (by kernel_rfl) (fun _ _ _ h => h) (by kernel_rfl) ?_ (by assumption) ?_
                  rotate_left
                  · (intro w' hSw; (try dsimp only at hSw); go_simp; first | done | with_reducible rfl)
                  simp only [Act.put, List.setIfInBounds_toArray, List.set_cons_zero, List.set_cons_succ]
                  refine rg_take (v := ?_) 28 rfl (by kernel_rfl) (by kernel_rfl) (by kernel_rfl) (fun _ _ _ h => h) (by kernel_rfl) ?_ (by assumption) ?_
                  rotate_left
                  · (intro w' hSw; (try dsimp only at hSw); go_simp; first | done | with_reducible rfl)
                  simp only [Act.put, List.setIfInBounds_toArray, List.set_cons_zero, List.set_cons_succ]
                  refine rg_take (v := ?_) 29 rfl (by kernel_rfl) (by kernel_rfl) (by kernel_rfl) (fun _ _ _ h => h) (by kernel_rfl) ?_ (by assumption) ?_
                  rotate_left
                  · (intro w' hSw; (try dsimp only at hSw); go_simp; first | done | with_reducible rfl)
                  simp only [Act.put, List.setIfInBounds_toArray, List.set_cons_zero, List.set_cons_succ]
                  refine rg_run 30 rfl (by kernel_rfl) (by kernel_rfl) (fun K hK => ?_)
                  go_simp
                  refine (HU.out tg ts la lc mg _ htl (HROW.out.below (below_chain B0.out HB5.out))).mono ?_
                  rintro e w6 ⟨rfl, hb6⟩
                  have HB6 := Lib.hid (below_chain HB5.out hb6)
                  have HO6 := Lib.hid (own_below HO5.out hb6)
                  replace k2 := cell_later hb6 (by exact k2)
                  replace k5 := cell_later hb6 (by exact k5)
                  replace g2 := cell_later hb6 (by exact g2)
                  replace g1 := cell_later hb6 (by exact g1)
                  replace g3 := cell_later hb6 (by exact g3)
                  clear hb6 HB5 HO5
                  rw [decide_eq_true hzi, Bool.true_and] at HST
                  generalize usB mg ⟨tg, ts⟩ = u at *
                  cases u
                  · have HB1 : Hid (bstK p inp S i ⟨tg, ts⟩ (k + 1) = B) := Lib.hid (by rw [HST.out]; exact if_pos (.inr rfl))
                    clear HST
                    go_wp2
                    clear hHeld
                    refine hK.out _ _ (by exact ⟨⟨k2, k5⟩, ⟨g2, g1⟩, g3⟩) (fun hHeld => ?_)
                    clear hK K
                    try simp only [Act.put, List.setIfInBounds_toArray, List.set_cons_zero, List.set_cons_succ]
                    refine rg_take (v := ?_) 31 rfl (by kernel_rfl) (by kernel_rfl) (by kernel_rfl) (fun _ _ _ h => h) (by kernel_rfl) ?_ (by assumption) ?_
                    rotate_left
                    · (intro w' hSw; (try dsimp only at hSw); go_simp; first | done | with_reducible rfl)
                    simp only [Act.put, List.setIfInBounds_toArray, List.set_cons_zero, List.set_cons_succ]
                    refine rg_take (v := ?_) 32 rfl (by kernel_rfl) (by kernel_rfl) (by kernel_rfl) (fun _ _ _ h => h) (by kernel_rfl) ?_ (by assumption) ?_
                    rotate_left
                    · (intro w' hSw; (try dsimp only at hSw); go_simp; first | done | with_reducible rfl)
                    simp only [Act.put, List.setIfInBounds_toArray, List.set_cons_zero, List.set_cons_succ]
                    refine wpAnyH_done (by kernel_rfl) ?_ _
                    clear hHeld
                    clear k2 k5 g1 g2 g3
                    go_wp2_with (fail)
                    go_roundw
                    case rel => exact ⟨k + 1, by omega, by go_num, by rw [HB1.out], HO6, HB6⟩
                    case measure => simp [intOf]; omega
                  · have HB1 : Hid (bstK p inp S i ⟨tg, ts⟩ (k + 1) = if B = 0 ∨ z + wI i k < B then z + wI i k else B) := Lib.hid (by rw [HST.out]; exact if_neg (by simp [hz0]))
                    clear HST
                    go_wp2
                    clear hHeld
                    refine hK.out _ _ (by exact ⟨⟨k2, k5⟩, ⟨g2, g1⟩, g3⟩) (fun hHeld => ?_)
                    clear hK K
                    try simp only [Act.put, List.setIfInBounds_toArray, List.set_cons_zero, List.set_cons_succ]
                    refine rg_take (v := ?_) 31 rfl (by kernel_rfl) (by kernel_rfl) (by kernel_rfl) (fun _ _ _ h => h) (by kernel_rfl) ?_ (by assumption) ?_
                    rotate_left
                    · (intro w' hSw; (try dsimp only at hSw); go_simp; first | done | with_reducible rfl)
                    simp only [Act.put, List.setIfInBounds_toArray, List.set_cons_zero, List.set_cons_succ]
                    refine rg_take (v := ?_) 32 rfl (by kernel_rfl) (by kernel_rfl) (by kernel_rfl) (fun _ _ _ h => h) (by kernel_rfl) ?_ (by assumption) ?_
                    rotate_left
                    · (intro w' hSw; (try dsimp only at hSw); go_simp; first | done | with_reducible rfl)
                    simp only [Act.put, List.setIfInBounds_toArray, List.set_cons_zero, List.set_cons_succ]
                    refine wpAnyH_done (by kernel_rfl) ?_ _
                    clear hHeld
                    clear k2 k5 g1 g2
                    by_cases hik : i ≤ k
                    · have hik2 : (i : Int) ≤ k := by omega
                      have hw1 : IntKind.i64.wrap (z + 1) = z + 1 := IntWalk.i64_in _ (by omega)
                      rw [HWI.out, if_pos hik] at HB1
                      clear HWI
                      by_cases hB0 : B = 0
                      · subst hB0
                        have HB2 : Hid (bstK p inp S i ⟨tg, ts⟩ (k + 1) = z + 1) := Lib.hid (by rw [HB1.out]; exact if_pos (.inl rfl))
                        clear HB1
                        go_wp2_with (fail)
                        go_roundw
                        case rel => exact ⟨k + 1, by omega, by go_num, by rw [HB2.out], HO6, HB6⟩
                        case measure => simp [intOf]; omega
                      · have eB : (B == 0) = false := by simpa using hB0
                        by_cases hlt : z + 1 < B
                        · have HB2 : Hid (bstK p inp S i ⟨tg, ts⟩ (k + 1) = z + 1) := Lib.hid (by rw [HB1.out]; exact if_pos (.inr hlt))
                          clear HB1 hB0
                          go_wp2_with (fail)
                          go_roundw
                          case rel => exact ⟨k + 1, by omega, by go_num, by rw [HB2.out], HO6, HB6⟩
                          case measure => simp [intOf]; omega
                        · have HB2 : Hid (bstK p inp S i ⟨tg, ts⟩ (k + 1) = B) := Lib.hid (by rw [HB1.out]; exact if_neg (fun h => h.elim hB0 hlt))
                          clear HB1 hB0
                          go_wp2_with (fail)
                          go_roundw
                          case rel => exact ⟨k + 1, by omega, by go_num, by rw [HB2.out], HO6, HB6⟩
                          case measure => simp [intOf]; omega
                    · have hik2 : ¬ (i : Int) ≤ k := by omega
                      rw [HWI.out, if_neg hik, Int.add_zero] at HB1
                      clear HWI
                      by_cases hB0 : B = 0
                      · subst hB0
                        have HB2 : Hid (bstK p inp S i ⟨tg, ts⟩ (k + 1) = z) := Lib.hid (by rw [HB1.out]; exact if_pos (.inl rfl))
                        clear HB1
                        go_wp2_with (fail)
                        go_roundw
                        case rel => exact ⟨k + 1, by omega, by go_num, by rw [HB2.out], HO6, HB6⟩
                        case measure => simp [intOf]; omega
                      · have eB : (B == 0) = false := by simpa using hB0
                        by_cases hlt : z < B
                        · have HB2 : Hid (bstK p inp S i ⟨tg, ts⟩ (k + 1) = z) := Lib.hid (by rw [HB1.out]; exact if_pos (.inr hlt))
                          clear HB1 hB0
                          go_wp2_with (fail)
                          go_roundw
                          case rel => exact ⟨k + 1, by omega, by go_num, by rw [HB2.out], HO6, HB6⟩
                          case measure => simp [intOf]; omega
                        · have HB2 : Hid (bstK p inp S i ⟨tg, ts⟩ (k + 1) = B) := Lib.hid (by rw [HB1.out]; exact if_neg (fun h => h.elim hB0 hlt))
                          clear HB1 hB0
                          go_wp2_with (fail)
                          go_roundw
                          case rel => exact ⟨k + 1, by omega, by go_num, by rw [HB2.out], HO6, HB6⟩
                          case measure => simp [intOf]; omega
                · have hzi2 : zi < 0 := by omega
                  have hzi3 : decide (zi < 0) = true := decide_eq_true hzi2
                  have HB1 : Hid (bstK p inp S i ⟨tg, ts⟩ (k + 1) = B) := Lib.hid (by rw [HST.out, decide_eq_false hzi]; exact if_pos (.inr rfl))
                  clear HST hzi
                  go_wp2
                  clear hHeld
                  refine hK.out _ _ (by exact ⟨⟨k2, k5⟩, ⟨g2, g1⟩, g3⟩) (fun hHeld => ?_)
                  clear hK K
                  try simp only [Act.put, List.setIfInBounds_toArray, List.set_cons_zero, List.set_cons_succ]
                  refine rg_take (v := ?_) 15 rfl (by kernel_rfl) (by kernel_rfl) (by kernel_rfl) (fun _ _ _ h => h) (by kernel_rfl) ?_ (by assumption) ?_
                  rotate_left
                  · (intro w' hSw; (try dsimp only at hSw); go_simp; first | done | with_reducible rfl)
                  simp only [Act.put, List.setIfInBounds_toArray, List.set_cons_zero, List.set_cons_succ]
                  refine rg_take (v := ?_) 16 rfl (by kernel_rfl) (by kernel_rfl) (by kernel_rfl) (fun _ _ _ h => h) (by kernel_rfl) ?_ (by assumption) ?_
                  rotate_left
                  · (intro w' hSw; (try dsimp only at hSw); go_simp; first | done | with_reducible rfl)
                  simp only [Act.put, List.setIfInBounds_toArray, List.set_cons_zero, List.set_cons_succ]
                  refine rg_take (v := ?_) 17 rfl (by kernel_rfl) (by kernel_rfl) (by kernel_rfl) (fun _ _ _ h => h) (by kernel_rfl) ?_ (by assumption) ?_
                  rotate_left
                  · (intro w' hSw; (try dsimp only at hSw); go_simp; first | done | with_reducible rfl)
                  simp only [Act.put, List.setIfInBounds_toArray, List.set_cons_zero, List.set_cons_succ]
                  refine rg_skip 18 rfl (by kernel_rfl) (by kernel_rfl) (by kernel_rfl) (fun _ _ _ h => h) (by kernel_rfl) (by assumption) ?_
                  simp only [Act.put, List.setIfInBounds_toArray, List.set_cons_zero, List.set_cons_succ]
                  refine rg_skip 19 rfl (by kernel_rfl) (by kernel_rfl) (by kernel_rfl) (fun _ _ _ h => h) (by kernel_rfl) (by assumption) ?_
                  simp only [Act.put, List.setIfInBounds_toArray, List.set_cons_zero, List.set_cons_succ]
                  refine rg_skip 20 rfl (by kernel_rfl) (by kernel_rfl) (by kernel_rfl) (fun _ _ _ h => h) (by kernel_rfl) (by assumption) ?_
                  simp only [Act.put, List.setIfInBounds_toArray, List.set_cons_zero, List.set_cons_succ]
                  refine rg_skip 21 rfl (by kernel_rfl) (by kernel_rfl) (by kernel_rfl) (fun _ _ _ h => h) (by kernel_rfl) (by assumption) ?_
                  simp only [Act.put, List.setIfInBounds_toArray, List.set_cons_zero, List.set_cons_succ]
                  refine rg_skip 22 rfl (by kernel_rfl) (by kernel_rfl) (by kernel_rfl) (fun _ _ _ h => h) (by kernel_rfl) (by assumption) ?_
                  simp only [Act.put, List.setIfInBounds_toArray, List.set_cons_zero, List.set_cons_succ]
                  refine rg_skip 23 rfl (by kernel_rfl) (by kernel_rfl) (by kernel_rfl) (fun _ _ _ h => h) (by kernel_rfl) (by assumption) ?_
                  simp only [Act.put, List.setIfInBounds_toArray, List.set_cons_zero, List.set_cons_succ]
                  refine rg_skip 24 rfl (by kernel_rfl) (by kernel_rfl) (by kernel_rfl) (fun _ _ _ h => h) (by kernel_rfl) (by assumption) ?_
                  simp only [Act.put, List.setIfInBounds_toArray, List.set_cons_zero, List.set_cons_succ]
                  refine rg_skip 25 rfl (by kernel_rfl) (by kernel_rfl) (by kernel_rfl) (fun _ _ _ h => h) (by kernel_rfl) (by assumption) ?_
                  simp only [Act.put, List.setIfInBounds_toArray, List.set_cons_zero, List.set_cons_succ]
                  refine rg_skip 26 rfl (by kernel_rfl) (by kernel_rfl) (by kernel_rfl) (fun _ _ _ h => h) (by kernel_rfl) (by assumption) ?_
                  simp only [Act.put, List.setIfInBounds_toArray, List.set_cons_zero, List.set_cons_succ]
                  refine rg_skip 27 rfl (by kernel_rfl) (by kernel_rfl) (by kernel_rfl) (fun _ _ _ h => h) (by kernel_rfl) (by assumption) ?_
                  simp only [Act.put, List.setIfInBounds_toArray, List.set_cons_zero, List.set_cons_succ]
                  refine rg_skip 28 rfl (by kernel_rfl) (by kernel_rfl) (by kernel_rfl) (fun _ _ _ h => h) (by kernel_rfl) (by assumption) ?_
                  simp only [Act.put, List.setIfInBounds_toArray, List.set_cons_zero, List.set_cons_succ]
                  refine rg_skip 29 rfl (by kernel_rfl) (by kernel_rfl) (by kernel_rfl) (fun _ _ _ h => h) (by kernel_rfl) (by assumption) ?_
                  simp only [Act.put, List.setIfInBounds_toArray, List.set_cons_zero, List.set_cons_succ]
                  refine rg_skip 30 rfl (by kernel_rfl) (by kernel_rfl) (by kernel_rfl) (fun _ _ _ h => h) (by kernel_rfl) (by assumption) ?_
                  simp only [Act.put, List.setIfInBounds_toArray, List.set_cons_zero, List.set_cons_succ]
                  refine rg_skip 31 rfl (by kernel_rfl) (by kernel_rfl) (by kernel_rfl) (fun _ _ _ h => h) (by kernel_rfl) (by assumption) ?_
                  simp only [Act.put, List.setIfInBounds_toArray, List.set_cons_zero, List.set_cons_succ]
                  refine rg_take (v := ?_) 32 rfl (by kernel_rfl) (by kernel_rfl) (by kernel_rfl) (fun _ _ _ h => h) (by kernel_rfl) ?_ (by assumption) ?_
                  rotate_left
                  · (intro w' hSw; (try dsimp only at hSw); go_simp; first | done | with_reducible rfl)
                  simp only [Act.put, List.setIfInBounds_toArray, List.set_cons_zero, List.set_cons_succ]
                  refine wpAnyH_done (by kernel_rfl) ?_ _
                  clear hHeld
                  clear k2 k5 g1 g2 g3
                  go_wp2_with (fail)
                  go_roundw
                  case rel => exact ⟨k + 1, by omega, by go_num, by rw [HB1.out], HO5, HB5⟩
                  case measure => simp [intOf]; omega
              · obtain rfl : k = p.ls.length := by omega
                have f0 := ho.out.frozenAt i
                obtain ⟨old, hold⟩ := own_cell ho.out (j := i) (by omega)
                have hst := (ho.out.stored i (.int .i64 (bstK p inp S i ⟨tg, ts⟩ p.ls.length))).1
                rw [ints_set] at hst
                have HOS := Lib.hid hst
                have HBS9 := Lib.hid (below_set hb.out (.int .i64 (bstK p inp S i ⟨tg, ts⟩ p.ls.length)) (Nat.le_refl _) : Below W.heap.size W (wr.setCell ⟨W.heap.size, i, none⟩ (.int .i64 (bstK p inp S i ⟨tg, ts⟩ p.ls.length))))
                clear hst hbn hbl ho hb k0 k1 k2 k3 k4 g1
                generalize bstK p inp S i ⟨tg, ts⟩ p.ls.length = B at *
                go_wp2_with (fail)
                go_roundw
                case rel =>
                  exact ⟨i + 1, by omega, by go_num, Lib.hid (by rw [HRK.out]; exact HOS.out), HBS9⟩
                case measure => simp [intOf]; omega
        · obtain rfl : i = p.ls.length := by omega
          clear k0 k1 k2 k3 k4
          go_wp2_with (fail)
          go_roundw
          case rel =>
            exact ⟨r + 1, by omega, by go_num, Lib.hid (by rw [HRS.out]; exact ho.out), hb⟩
          case measure => simp [intOf]; omega
    · obtain rfl : r = p.ls.length + 1 := by omega
      have HRL := Lib.hid (scnR_len p inp (p.ls.length + 1))
      have hlr2 : ¬ ((p.ls.length + 1 : Nat) : Int) ≤ p.ls.length := by omega
      go_wp2_with (fail)
      go_ret
      exact retZs_of HV.out HRL.out.symm (own_mono ho.out B0.out.size) (below_chain B0.out hb.out)
end Go.Proofs.YteengjcplmjakaaGreatDoor

/- The reference's side of delays: l19Guard, l19Delay, l19Code, DelayOf. Condition: the lengths. -/
namespace Go.Proofs.YteengjcplmjakaaGreatDoor
open Go.RowKit

/-- The code, the number. -/
def dlyC (p : Prg) (inp out : ByteArray) : Int := if (wrB p && fltB p) then (if memS p.ins inp && memS p.os out then (if dlyV p inp out = 0 then 5 else 0) else 4) else 1
def dlyR (p : Prg) (inp out : ByteArray) : Int := if dlyC p inp out = 0 then dlyV p inp out else 0
def RetP (x y : Int) (w : World) (e : Ending) (w' : World) : Prop := e = .returned (.tuple #[.int .i64 x, .int .i64 y]) ∧ Below w.heap.size w w'
theorem retP_of {x x' y y' : Int} {w w' : World} (h1 : x = x') (h2 : y = y') (hb : Below w.heap.size w w') : RetP x y w (.returned (.tuple #[.int .i64 x', .int .i64 y'])) w' := by
  subst h1; subst h2; exact ⟨rfl, hb⟩
theorem scn_cell {w : World} {base g : Nat} {S : List Int} (h : w.ownsRow base 2 1 (.slice (some ⟨g, 0, none⟩) S.length S.length) S.length (ints S)) {j : Nat} (hj : j < S.length) : w.cell? ⟨g, j, none⟩ = some (.int .i64 (S.getD j 0)) := by
  have := h.cellAt j (by omega)
  rw [this, List.getD_eq_getElem?_getD, List.getElem?_eq_getElem hj]
  exact ints_at' (List.getElem?_eq_getElem hj)
theorem scnV_len (p : Prg) (inp : ByteArray) : (scnV p inp).length = p.ls.length := scnR_len p inp _
theorem tgs_len (p : Prg) : (tgs p).length = p.ls.length := by unfold tgs; simp
set_option maxHeartbeats 1000000 in
set_option maxRecDepth 100000 in
theorem c_l19Guard (p : Prg) (a1 a2 a3 a4 : Option Addr) (c1 c2 c3 c4 : Nat) (inp : ByteArray) (w : World) (hs : PgOk p) (hbd : PgB p) (h : PgR w a1 a2 a3 a4 p) :
    Calls Tryz.prog 121 #[pv p a1 a2 a3 a4 c1 c2 c3 c4, .string inp] w fun e w' => e = .returned (.int .i64 (gdV p inp)) ∧ Below w.heap.size w w' := by
  have H := Lib.hid h
  have HL := Lib.hid (fun s w h => c_l14Line p a1 a2 a3 a4 c1 c2 c3 c4 s w hs.l.1 h)
  have HS := Lib.hid (fun w h => c_l19Scans p a1 a2 a3 a4 c1 c2 c3 c4 inp w hs hbd h)
  have HSL := Lib.hid (scnV_len p inp)
  have hib := ixS_bd p.gd (tgs p)
  rw [tgs_len] at hib
  have bl := hbd.l
  have HV0 : Hid (p.gd.toList.isEmpty = true → gdV p inp = 0) := Lib.hid (fun e => by unfold gdV; rw [e]; rfl)
  have HV1 : Hid (p.gd.toList.isEmpty = false → p.gd = inp → gdV p inp = 1) := Lib.hid (fun e e2 => by unfold gdV; rw [e, if_neg (by decide), if_pos e2])
  have HV2 : Hid (p.gd.toList.isEmpty = false → ¬ p.gd = inp → ixS (tgs p) p.gd < 0 → gdV p inp = 0) := Lib.hid (fun e e2 e3 => by unfold gdV; rw [e, if_neg (by decide), if_neg e2, if_pos e3])
  have HV3 : Hid (p.gd.toList.isEmpty = false → ¬ p.gd = inp → ¬ ixS (tgs p) p.gd < 0 → gdV p inp = (scnV p inp).getD (ixS (tgs p) p.gd).toNat 0) := Lib.hid (fun e e2 e3 => by unfold gdV; rw [e, if_neg (by decide), if_neg e2, if_neg e3])
  generalize gdV p inp = R at *
  have B0 := Lib.hid (below_alloc (Below.refl w.heap.size w) (.cells #[.string p.nm, .slice a1 p.ins.length c1, .slice a2 p.vs.length c2, .slice a3 p.os.length c3, .string p.gd, .slice a4 p.ls.length c4] 27))
  have HP : Hid (PB (w.alloc (.cells #[.string p.nm, .slice a1 p.ins.length c1, .slice a2 p.vs.length c2, .slice a3 p.os.length c3, .string p.gd, .slice a4 p.ls.length c4] 27)) w.heap.size p a1 a2 a3 a4 c1 c2 c3 c4) := Lib.hid ⟨by go_simp, by go_simp, by go_simp, by go_simp, by go_simp, by go_simp⟩
  clear hs hbd h
  go_enter Tryz.func121, Tryz.ntmps121
  dsimp only [pv]
  go_upto_region 1 with (fail)
  generalize w.alloc (.cells #[.string p.nm, .slice a1 p.ins.length c1, .slice a2 p.vs.length c2, .slice a3 p.os.length c3, .string p.gd, .slice a4 p.ls.length c4] 27) = W at *
  obtain ⟨k0, k1, k2, k3, k4, k5⟩ := HP.out
  rcases hg : p.gd.toList.isEmpty with _ | _
  rotate_left
  · obtain rfl := HV0.out hg
    clear HV0 HV1 HV2 HV3
    go_wp2_with (fail)
    go_ret
    exact ⟨rfl, B0.out⟩
  have HV1' := Lib.hid (HV1.out hg)
  have HV2' := Lib.hid (HV2.out hg)
  have HV3' := Lib.hid (HV3.out hg)
  clear HV0 HV1 HV2 HV3
  by_cases he : p.gd = inp
  · obtain rfl := HV1'.out he
    have heq : (p.gd.toList == inp.toList) = true := by rw [beq_str]; exact decide_eq_true he
    clear HV1' HV2' HV3' he
    go_wp2_with (fail)
    go_ret
    exact ⟨rfl, B0.out⟩
  have heq : (p.gd.toList == inp.toList) = false := by rw [beq_str]; exact decide_eq_false he
  have HV2 := Lib.hid (HV2'.out he)
  have HV3 := Lib.hid (HV3'.out he)
  clear HV1' HV2' HV3' he
  go_wp2_with (fail)
  refine (HL.out p.gd _ (H.out.below B0.out)).mono ?_
  rintro e w1 ⟨rfl, hb⟩
  have B1 := Lib.hid (below_chain B0.out hb)
  replace k0 := cell_later hb (by exact k0)
  replace k1 := cell_later hb (by exact k1)
  replace k2 := cell_later hb (by exact k2)
  replace k3 := cell_later hb (by exact k3)
  replace k4 := cell_later hb (by exact k4)
  replace k5 := cell_later hb (by exact k5)
  clear hb hg heq
  generalize ixS (tgs p) p.gd = z at *
  by_cases hz : z < 0
  · obtain rfl := HV2.out (by omega)
    clear HV2 HV3
    go_wp2_with (fail)
    go_ret
    exact ⟨rfl, B1.out⟩
  · have HRR := Lib.hid (HV3.out (by omega))
    obtain ⟨j, rfl⟩ : ∃ j : Nat, z = j := ⟨z.toNat, by omega⟩
    rw [Int.toNat_natCast] at HRR
    have hz0 : (0 : Int) ≤ (j : Int) := by omega
    clear HV2 HV3 hz
    go_wp2_with (fail)
    refine (HS.out _ (H.out.below B1.out)).mono ?_
    rintro e w2 ⟨g, rfl, ho, hb⟩
    have B2 := Lib.hid (below_chain B1.out hb)
    have q0 := scn_cell ho (j := j) (by rw [HSL.out]; omega)
    have hz1 : (j : Int) < (scnV p inp).length := by rw [HSL.out]; omega
    clear hb ho k0 k1 k2 k3 k4 k5 hib
    generalize (scnV p inp).getD j 0 = r at *
    generalize (scnV p inp).length = L at *
    go_wp2_with (fail)
    go_ret
    exact ⟨by rw [HRR.out]; rfl, B2.out⟩
set_option maxHeartbeats 1000000 in
set_option maxRecDepth 100000 in
theorem c_l19Delay (p : Prg) (a1 a2 a3 a4 : Option Addr) (c1 c2 c3 c4 : Nat) (inp out : ByteArray) (w : World) (hs : PgOk p) (hbd : PgB p) (hout : 0 ≤ ixS (tgs p) out) (h : PgR w a1 a2 a3 a4 p) :
    Calls Tryz.prog 75 #[pv p a1 a2 a3 a4 c1 c2 c3 c4, .string inp, .string out] w fun e w' => e = .returned (.int .i64 (dlyV p inp out)) ∧ Below w.heap.size w w' := by
  have H := Lib.hid h
  have HL := Lib.hid (fun w h => c_l14Line p a1 a2 a3 a4 c1 c2 c3 c4 out w hs.l.1 h)
  have HS := Lib.hid (fun w h => c_l19Scans p a1 a2 a3 a4 c1 c2 c3 c4 inp w hs hbd h)
  have HG := Lib.hid (fun w h => c_l19Guard p a1 a2 a3 a4 c1 c2 c3 c4 inp w hs hbd h)
  have HSL := Lib.hid (scnV_len p inp)
  have hib := ixS_bd out (tgs p)
  rw [tgs_len] at hib
  have bl := hbd.l
  have HV : Hid (dlyV p inp out = if (scnV p inp).getD (ixS (tgs p) out).toNat 0 = 0 ∨ (0 < gdV p inp ∧ gdV p inp < (scnV p inp).getD (ixS (tgs p) out).toNat 0) then gdV p inp else (scnV p inp).getD (ixS (tgs p) out).toNat 0) := Lib.hid rfl
  generalize dlyV p inp out = R at *
  generalize ixS (tgs p) out = z at *
  obtain ⟨j, rfl⟩ : ∃ j : Nat, z = j := ⟨z.toNat, by omega⟩
  rw [Int.toNat_natCast] at HV
  have B0 := Lib.hid (below_alloc (Below.refl w.heap.size w) (.cells #[.string p.nm, .slice a1 p.ins.length c1, .slice a2 p.vs.length c2, .slice a3 p.os.length c3, .string p.gd, .slice a4 p.ls.length c4] 27))
  have HP : Hid (PB (w.alloc (.cells #[.string p.nm, .slice a1 p.ins.length c1, .slice a2 p.vs.length c2, .slice a3 p.os.length c3, .string p.gd, .slice a4 p.ls.length c4] 27)) w.heap.size p a1 a2 a3 a4 c1 c2 c3 c4) := Lib.hid ⟨by go_simp, by go_simp, by go_simp, by go_simp, by go_simp, by go_simp⟩
  clear hs hbd h
  go_enter Tryz.func75, Tryz.ntmps75
  dsimp only [pv]
  go_upto_region 1 with (fail)
  generalize w.alloc (.cells #[.string p.nm, .slice a1 p.ins.length c1, .slice a2 p.vs.length c2, .slice a3 p.os.length c3, .string p.gd, .slice a4 p.ls.length c4] 27) = W at *
  obtain ⟨k0, k1, k2, k3, k4, k5⟩ := HP.out
  refine wp_region_held_drew (S := (fun w' => w'.cell? ⟨w.heap.size, 0, none⟩ = some (.string p.nm) ∧ w'.cell? ⟨w.heap.size, 1, none⟩ = some (.slice a1 p.ins.length c1) ∧ w'.cell? ⟨w.heap.size, 2, none⟩ = some (.slice a2 p.vs.length c2) ∧ w'.cell? ⟨w.heap.size, 3, none⟩ = some (.slice a3 p.os.length c3) ∧ w'.cell? ⟨w.heap.size, 4, none⟩ = some (.string p.gd) ∧ w'.cell? ⟨w.heap.size, 5, none⟩ = some (.slice a4 p.ls.length c4))) (by kernel_rfl) ?_ (fun hHeld => ?_)
  · exact ⟨k0, k1, k2, k3, k4, k5⟩
  refine rg_take (v := ?_) 0 rfl (by kernel_rfl) (by kernel_rfl) (by kernel_rfl) (fun _ _ _ h => h) (by kernel_rfl) ?_ (by assumption) ?_
  rotate_left
  · (intro w' hSw; (try dsimp only at hSw); go_simp; first | done | with_reducible rfl)
  simp only [Act.put, List.setIfInBounds_toArray, List.set_cons_zero, List.set_cons_succ]
  refine rg_take (v := ?_) 1 rfl (by kernel_rfl) (by kernel_rfl) (by kernel_rfl) (fun _ _ _ h => h) (by kernel_rfl) ?_ (by assumption) ?_
  rotate_left
  · (intro w' hSw; (try dsimp only at hSw); go_simp; first | done | with_reducible rfl)
  simp only [Act.put, List.setIfInBounds_toArray, List.set_cons_zero, List.set_cons_succ]
  refine rg_take (v := ?_) 3 rfl (by kernel_rfl) (by kernel_rfl) (by kernel_rfl) (fun _ _ _ h => h) (by kernel_rfl) ?_ (by assumption) ?_
  rotate_left
  · (intro w' hSw; (try dsimp only at hSw); go_simp; first | done | with_reducible rfl)
  simp only [Act.put, List.setIfInBounds_toArray, List.set_cons_zero, List.set_cons_succ]
  refine rg_take (v := ?_) 4 rfl (by kernel_rfl) (by kernel_rfl) (by kernel_rfl) (fun _ _ _ h => h) (by kernel_rfl) ?_ (by assumption) ?_
  rotate_left
  · (intro w' hSw; (try dsimp only at hSw); go_simp; first | done | with_reducible rfl)
  simp only [Act.put, List.setIfInBounds_toArray, List.set_cons_zero, List.set_cons_succ]
  refine rg_run 2 rfl (by kernel_rfl) (by kernel_rfl) (fun K hK => ?_)
  go_simp
  refine (HS.out _ ((H.out.below B0.out).below (Below.refl _ _).drew)).mono ?_
  rintro e w2 ⟨g, rfl, ho, hb⟩
  have hbs : Below W.heap.size W w2 := below_chain (Below.refl _ _).drew hb
  have B2 := Lib.hid (below_chain B0.out hbs)
  have q0 := scn_cell ho (j := j) (by rw [HSL.out]; omega)
  have hz1 : (j : Int) < (scnV p inp).length := by rw [HSL.out]; omega
  have hz0 : (0 : Int) ≤ (j : Int) := by omega
  replace k0 := cell_later hbs (by exact k0)
  replace k1 := cell_later hbs (by exact k1)
  replace k2 := cell_later hbs (by exact k2)
  replace k3 := cell_later hbs (by exact k3)
  replace k4 := cell_later hbs (by exact k4)
  replace k5 := cell_later hbs (by exact k5)
  clear hb hbs ho
  generalize (scnV p inp).getD j 0 = n at *
  generalize (scnV p inp).length = L at *
  go_wp2
  clear hHeld
  refine hK.out _ _ (by exact ⟨k0, k1, k2, k3, k4, k5⟩) (fun hHeld => ?_)
  clear hK K
  try simp only [Act.put, List.setIfInBounds_toArray, List.set_cons_zero, List.set_cons_succ]
  refine rg_run 5 rfl (by kernel_rfl) (by kernel_rfl) (fun K hK => ?_)
  go_simp
  refine (HL.out _ (H.out.below B2.out)).mono ?_
  rintro e w3 ⟨rfl, hb⟩
  have B3 := Lib.hid (below_chain B2.out hb)
  replace k0 := cell_later hb (by exact k0)
  replace k1 := cell_later hb (by exact k1)
  replace k2 := cell_later hb (by exact k2)
  replace k3 := cell_later hb (by exact k3)
  replace k4 := cell_later hb (by exact k4)
  replace k5 := cell_later hb (by exact k5)
  replace q0 := cell_later hb (by exact q0)
  clear hb
  go_wp2
  clear hHeld
  refine hK.out _ _ (by exact ⟨k0, k1, k2, k3, k4, k5⟩) (fun hHeld => ?_)
  clear hK K
  try simp only [Act.put, List.setIfInBounds_toArray, List.set_cons_zero, List.set_cons_succ]
  refine rg_take (v := ?_) 6 rfl (by kernel_rfl) (by kernel_rfl) (by kernel_rfl) (fun _ _ _ h => h) (by kernel_rfl) ?_ (by assumption) ?_
  rotate_left
  · (intro w' hSw; (try dsimp only at hSw); go_simp; first | done | with_reducible rfl)
  simp only [Act.put, List.setIfInBounds_toArray, List.set_cons_zero, List.set_cons_succ]
  refine rg_run 7 rfl (by kernel_rfl) (by kernel_rfl) (fun K hK => ?_)
  go_simp
  go_wp2
  clear hHeld
  refine hK.out _ _ (by exact ⟨k0, k1, k2, k3, k4, k5⟩) (fun hHeld => ?_)
  clear hK K
  try simp only [Act.put, List.setIfInBounds_toArray, List.set_cons_zero, List.set_cons_succ]
  refine rg_take (v := ?_) 8 rfl (by kernel_rfl) (by kernel_rfl) (by kernel_rfl) (fun _ _ _ h => h) (by kernel_rfl) ?_ (by assumption) ?_
  rotate_left
  · (intro w' hSw; (try dsimp only at hSw); go_simp; first | done | with_reducible rfl)
  simp only [Act.put, List.setIfInBounds_toArray, List.set_cons_zero, List.set_cons_succ]
  refine wpAnyH_done (by kernel_rfl) ?_ _
  clear hHeld
  clear q0 hz0 hz1 hib hout
  go_wp2_with (fail)
  refine (HG.out _ (H.out.below B3.out)).mono ?_
  rintro e w4 ⟨rfl, hb⟩
  have B4 := Lib.hid (below_chain B3.out hb)
  clear hb k0 k1 k2 k3 k4 k5
  generalize gdV p inp = G at *
  by_cases hn : n = 0
  · subst hn
    obtain rfl : R = G := by rw [HV.out]; exact if_pos (.inl rfl)
    go_wp2_with (fail)
    go_ret
    exact ⟨rfl, B4.out⟩
  have en : (n == 0) = false := by simpa using hn
  by_cases h0 : 0 < G
  · by_cases h1 : G < n
    · obtain rfl : R = G := by rw [HV.out]; exact if_pos (.inr ⟨h0, h1⟩)
      clear HV hn
      go_wp2_with (fail)
      go_ret
      exact ⟨rfl, B4.out⟩
    · obtain rfl : R = n := by rw [HV.out]; exact if_neg (fun h => h.elim hn (fun h => h1 h.2))
      clear HV hn
      go_wp2_with (fail)
      go_ret
      exact ⟨rfl, B4.out⟩
  · obtain rfl : R = n := by rw [HV.out]; exact if_neg (fun h => h.elim hn (fun h => h0 h.1))
    clear HV hn
    go_wp2_with (fail)
    go_ret
    exact ⟨rfl, B4.out⟩
theorem mem_ix {l : List ByteArray} {s : ByteArray} (h : memS l s = true) : 0 ≤ ixS l s := ix_mem (memS_iff.1 h)
theorem no_ix {l : List ByteArray} {s : ByteArray} (h : memS l s = false) : ixS l s < 0 := by
  have := ixS_nn s l
  rw [h] at this
  have := of_decide_eq_false this
  omega
theorem out_ix {p : Prg} (h : (wrB p && fltB p) = true) {s : ByteArray} (hs : memS p.os s = true) : 0 ≤ ixS (tgs p) s := ix_mem ((nmd_of h).mad s (.inr (memS_iff.1 hs)))
set_option maxHeartbeats 1000000 in
set_option maxRecDepth 100000 in
theorem c_l19Code (p : Prg) (a1 a2 a3 a4 : Option Addr) (c1 c2 c3 c4 : Nat) (inp out : ByteArray) (w : World) (hs : PgOk p) (hz : PgZ a1 a2 a3 c1 c2 c3) (h : PgR w a1 a2 a3 a4 p) :
    Calls Tryz.prog 74 #[pv p a1 a2 a3 a4 c1 c2 c3 c4, .string inp, .string out] w fun e w' => e = .returned (.int .i64 (dlyC p inp out)) ∧ Below w.heap.size w w' := by
  have H := Lib.hid h
  have HSO := Lib.hid (fun w h => c_sIsSound p a1 a2 a3 a4 c1 c2 c3 c4 w hs hz h)
  have HI := Lib.hid (fun w h => c_l14Index a1 c1 _ p.ins inp w rfl hs.i.1 h)
  have HO := Lib.hid (fun w h => c_l14Index a3 c3 _ p.os out w rfl hs.o.1 h)
  have HD := Lib.hid (fun w hbd hout h => c_l19Delay p a1 a2 a3 a4 c1 c2 c3 c4 inp out w hs hbd hout h)
  have HSB := Lib.hid (fun h : (wrB p && fltB p) = true => (snd_of h).b)
  have HOX := Lib.hid (fun (h : (wrB p && fltB p) = true) h2 => out_ix h (s := out) h2)
  have HI1 := Lib.hid (fun h => mem_ix (l := p.ins) (s := inp) h)
  have HI0 := Lib.hid (fun h => no_ix (l := p.ins) (s := inp) h)
  have HO1 := Lib.hid (fun h => mem_ix (l := p.os) (s := out) h)
  have HO0 := Lib.hid (fun h => no_ix (l := p.os) (s := out) h)
  have HV : Hid (dlyC p inp out = if (wrB p && fltB p) then (if memS p.ins inp && memS p.os out then (if dlyV p inp out = 0 then 5 else 0) else 4) else 1) := Lib.hid rfl
  generalize dlyC p inp out = R at *
  generalize (wrB p && fltB p) = s at *
  generalize memS p.ins inp = u at *
  generalize memS p.os out = v at *
  have B0 := Lib.hid (below_alloc (Below.refl w.heap.size w) (.cells #[.string p.nm, .slice a1 p.ins.length c1, .slice a2 p.vs.length c2, .slice a3 p.os.length c3, .string p.gd, .slice a4 p.ls.length c4] 27))
  have HP : Hid (PB (w.alloc (.cells #[.string p.nm, .slice a1 p.ins.length c1, .slice a2 p.vs.length c2, .slice a3 p.os.length c3, .string p.gd, .slice a4 p.ls.length c4] 27)) w.heap.size p a1 a2 a3 a4 c1 c2 c3 c4) := Lib.hid ⟨by go_simp, by go_simp, by go_simp, by go_simp, by go_simp, by go_simp⟩
  clear hs hz h
  go_enter Tryz.func74, Tryz.ntmps74
  dsimp only [pv]
  go_upto_region 1 with (fail)
  generalize w.alloc (.cells #[.string p.nm, .slice a1 p.ins.length c1, .slice a2 p.vs.length c2, .slice a3 p.os.length c3, .string p.gd, .slice a4 p.ls.length c4] 27) = W at *
  obtain ⟨k0, k1, k2, k3, k4, k5⟩ := HP.out
  go_wp2_with (fail)
  refine (HSO.out _ (H.out.below B0.out)).mono ?_
  rintro e w1 ⟨rfl, hb⟩
  have B1 := Lib.hid (below_chain B0.out hb)
  replace k0 := cell_later hb (by exact k0)
  replace k1 := cell_later hb (by exact k1)
  replace k2 := cell_later hb (by exact k2)
  replace k3 := cell_later hb (by exact k3)
  replace k4 := cell_later hb (by exact k4)
  replace k5 := cell_later hb (by exact k5)
  clear hb
  cases s
  · obtain rfl : R = 1 := HV.out
    go_wp2_with (fail)
    go_ret
    exact ⟨rfl, B1.out⟩
  have HB := Lib.hid (HSB.out rfl)
  go_wp2_with (fail)
  refine (HI.out _ (H.out.i.below B1.out)).mono ?_
  rintro e w2 ⟨rfl, hb⟩
  have B2 := Lib.hid (below_chain B1.out hb)
  replace k0 := cell_later hb (by exact k0)
  replace k1 := cell_later hb (by exact k1)
  replace k2 := cell_later hb (by exact k2)
  replace k3 := cell_later hb (by exact k3)
  replace k4 := cell_later hb (by exact k4)
  replace k5 := cell_later hb (by exact k5)
  clear hb
  cases u
  · obtain rfl : R = 4 := HV.out
    have hi := HI0.out rfl
    generalize ixS p.ins inp = z at *
    go_wp2_with (fail)
    go_ret
    exact ⟨rfl, B2.out⟩
  have hi := HI1.out rfl
  have hi2 : ¬ ixS p.ins inp < 0 := by omega
  generalize ixS p.ins inp = z at *
  go_wp2_with (fail)
  refine (HO.out _ (H.out.o.below B2.out)).mono ?_
  rintro e w3 ⟨rfl, hb⟩
  have B3 := Lib.hid (below_chain B2.out hb)
  replace k0 := cell_later hb (by exact k0)
  replace k1 := cell_later hb (by exact k1)
  replace k2 := cell_later hb (by exact k2)
  replace k3 := cell_later hb (by exact k3)
  replace k4 := cell_later hb (by exact k4)
  replace k5 := cell_later hb (by exact k5)
  clear hb
  cases v
  · obtain rfl : R = 4 := HV.out
    have ho := HO0.out rfl
    generalize ixS p.os out = z at *
    go_wp2_with (fail)
    go_ret
    exact ⟨rfl, B3.out⟩
  have ho := HO1.out rfl
  have ho2 : ¬ ixS p.os out < 0 := by omega
  have HOI := Lib.hid (HOX.out (by first | rfl | trivial) (by first | rfl | trivial))
  generalize ixS p.os out = z at *
  clear HOX HO0 HO1 HI0 HI1
  try clear hi
  go_wp2_with (fail)
  refine (HD.out _ HB.out HOI.out (H.out.below B3.out)).mono ?_
  rintro e w4 ⟨rfl, hb⟩
  have B4 := Lib.hid (below_chain B3.out hb)
  clear hb k0 k1 k2 k3 k4 k5 ho ho2 HOI
  generalize dlyV p inp out = d at *
  by_cases hd : d = 0
  · subst hd
    obtain rfl : R = 5 := HV.out
    go_wp2_with (fail)
    go_ret
    exact ⟨rfl, B4.out⟩
  · obtain rfl : R = 0 := by rw [HV.out]; exact if_neg hd
    have ed : (d == 0) = false := by simpa using hd
    clear hd
    go_wp2_with (fail)
    go_ret
    exact ⟨rfl, B4.out⟩
end Go.Proofs.YteengjcplmjakaaGreatDoor

/- The program's delayCode. Condition: the lengths; the keywords lie there. -/
namespace Go.Proofs.YteengjcplmjakaaGreatDoor
open Go.RowKit

set_option maxRecDepth 100000 in
theorem c_dc1 (b n c : Nat) (A : Option Addr) (l : List ByteArray) (s : ByteArray) (w : World) (hn : n = l.length) (hs : n ≤ 1048576) (k3 : w.cell? ⟨b, 3, none⟩ = some (.slice A n c)) (hr : Rd w A (sts l)) :
    Calls Tryz.prog 124 #[.string s, .pointer (some ⟨b, 0, none⟩)] w fun e w' => e = .returned (.bool (!memS l s)) ∧ Below w.heap.size w w' := by
  have HC := Lib.hid (c_ContainsS A c n l s w hn hs hr)
  generalize memS l s = q at *
  clear hn hs hr
  go_enter Tryz.func124, Tryz.ntmps124
  go_wp2_with (fail)
  refine HC.out.mono ?_
  rintro e w1 ⟨rfl, hb⟩
  replace hb := Lib.hid hb
  clear HC k3
  go_wp2_with (fail)
  go_ret
  exact ⟨rfl, hb.out⟩
def dcC (p : Prg) (inp out : ByteArray) : Int := if (wrB p && fltB p) then (if memS p.ins inp && memS p.os out then 0 else 4) else 1
set_option maxHeartbeats 1000000 in
set_option maxRecDepth 100000 in
theorem c_delayCode (p : Prg) (a1 a2 a3 a4 : Option Addr) (c1 c2 c3 c4 : Nat) (inp out : ByteArray) (g : Nat) (w : World) (hs : PgOk p) (hz : PgZ a1 a2 a3 c1 c2 c3) (h : PgR w a1 a2 a3 a4 p) (hk : KwR w) (hg : Rd w (some ⟨g, 0, none⟩) (sts [out])) :
    Calls Tryz.prog 77 #[pv p a1 a2 a3 a4 c1 c2 c3 c4, .string inp, .slice (some ⟨g, 0, none⟩) 1 1] w fun e w' => e = .returned (.int .i64 (dcC p inp out)) ∧ Below w.heap.size w w' := by
  have H := Lib.hid h
  have HK := Lib.hid hk
  have HG := Lib.hid hg
  have HSO := Lib.hid (fun w h hk => c_IsSound p a1 a2 a3 a4 c1 c2 c3 c4 w hs hz h hk)
  have HCI := Lib.hid (fun w h => c_ContainsS a1 c1 _ p.ins inp w rfl hs.i.1 h)
  have HCF := Lib.hid (fun (b : Nat) (w : World) (k3 : w.cell? ⟨b, 3, none⟩ = some (.slice a3 p.os.length c3)) (ho : Rd w a3 (sts p.os)) (hg : Rd w (some ⟨g, 0, none⟩) (sts [out])) =>
    c_ContainsSc 124 (.pointer (some ⟨b, 0, none⟩)) (fun s => !memS p.os s) (some ⟨g, 0, none⟩) 1 1 [out] w rfl (by decide) hg (Lib.hid (fun wr s _ hb => c_dc1 b _ c3 a3 p.os s wr rfl hs.o.1 (cell_later hb k3) (ho.below hb))) (enter_of Tryz.func124 (by kernel_rfl) rfl))
  have hany : ([out].any fun s => !memS p.os s) = !memS p.os out := by simp
  rw [hany] at HCF
  have HV : Hid (dcC p inp out = if (wrB p && fltB p) then (if memS p.ins inp && memS p.os out then 0 else 4) else 1) := Lib.hid rfl
  have hmf : ∀ (fn : Fn) (first cap : Array Value) (w : World), (Instr.makeFunc fn first cap).run Tryz.prog w = .ok (.func fn first cap) w := fun _ _ _ _ => rfl
  clear hany
  generalize dcC p inp out = R at *
  generalize (wrB p && fltB p) = s at *
  generalize memS p.ins inp = u at *
  generalize memS p.os out = v at *
  have B0 := Lib.hid (below_alloc (Below.refl w.heap.size w) (.cells #[.string p.nm, .slice a1 p.ins.length c1, .slice a2 p.vs.length c2, .slice a3 p.os.length c3, .string p.gd, .slice a4 p.ls.length c4] 27))
  have HP : Hid (PB (w.alloc (.cells #[.string p.nm, .slice a1 p.ins.length c1, .slice a2 p.vs.length c2, .slice a3 p.os.length c3, .string p.gd, .slice a4 p.ls.length c4] 27)) w.heap.size p a1 a2 a3 a4 c1 c2 c3 c4) := Lib.hid ⟨by go_simp, by go_simp, by go_simp, by go_simp, by go_simp, by go_simp⟩
  clear hs hz h hk hg
  go_enter Tryz.func77, Tryz.ntmps77
  dsimp only [pv]
  go_upto_region 1 with (fail)
  generalize w.alloc (.cells #[.string p.nm, .slice a1 p.ins.length c1, .slice a2 p.vs.length c2, .slice a3 p.os.length c3, .string p.gd, .slice a4 p.ls.length c4] 27) = W at *
  obtain ⟨k0, k1, k2, k3, k4, k5⟩ := HP.out
  go_wp2_with (fail)
  refine (HSO.out _ (H.out.below B0.out) (HK.out.below B0.out)).mono ?_
  rintro e w1 ⟨rfl, hb⟩
  have B1 := Lib.hid (below_chain B0.out hb)
  replace k0 := cell_later hb (by exact k0)
  replace k1 := cell_later hb (by exact k1)
  replace k2 := cell_later hb (by exact k2)
  replace k3 := cell_later hb (by exact k3)
  replace k4 := cell_later hb (by exact k4)
  replace k5 := cell_later hb (by exact k5)
  clear hb
  cases s
  · obtain rfl : R = 1 := HV.out
    go_wp2_with (fail)
    go_ret
    exact ⟨rfl, B1.out⟩
  go_wp2_with (fail)
  refine (HCI.out _ (H.out.i.below B1.out)).mono ?_
  rintro e w2 ⟨rfl, hb⟩
  have B2 := Lib.hid (below_chain B1.out hb)
  replace k0 := cell_later hb (by exact k0)
  replace k1 := cell_later hb (by exact k1)
  replace k2 := cell_later hb (by exact k2)
  replace k3 := cell_later hb (by exact k3)
  replace k4 := cell_later hb (by exact k4)
  replace k5 := cell_later hb (by exact k5)
  clear hb
  cases u
  · obtain rfl : R = 4 := HV.out
    go_wp2_with (fail)
    go_ret
    exact ⟨rfl, B2.out⟩
  go_wp2_with (fail)
  refine (HCF.out _ _ k3 (H.out.o.below B2.out) (HG.out.below B2.out)).mono ?_
  rintro e w3 ⟨rfl, hb⟩
  have B3 := Lib.hid (below_chain B2.out hb)
  clear hb k0 k1 k2 k3 k4 k5
  cases v
  · obtain rfl : R = 4 := HV.out
    go_wp2_with (fail)
    go_ret
    exact ⟨rfl, B3.out⟩
  · obtain rfl : R = 0 := HV.out
    go_wp2_with (fail)
    go_ret
    exact ⟨rfl, B3.out⟩
theorem dc_ne (p : Prg) (inp out : ByteArray) (h : dcC p inp out ≠ 0) : dlyC p inp out = dcC p inp out ∧ dlyR p inp out = 0 := by
  have e : dlyC p inp out = dcC p inp out := by
    unfold dlyC
    unfold dcC at h ⊢
    by_cases h1 : (wrB p && fltB p) = true
    · rw [if_pos h1] at h ⊢
      rw [if_pos h1]
      by_cases h2 : (memS p.ins inp && memS p.os out) = true
      · rw [if_pos h2] at h; exact absurd rfl h
      · rw [if_neg h2, if_neg h2]
    · rw [if_neg h1, if_neg h1]
  refine ⟨e, ?_⟩
  unfold dlyR
  rw [e, if_neg h]
theorem dc_eq (p : Prg) (inp out : ByteArray) (h : dcC p inp out = 0) : PgB p ∧ Nmd p ∧ inp ∈ p.ins ∧ out ∈ p.os ∧ dlyR p inp out = dlyV p inp out ∧ dlyC p inp out = if dlyV p inp out = 0 then 5 else 0 := by
  unfold dcC at h
  by_cases h1 : (wrB p && fltB p) = true
  · rw [if_pos h1] at h
    by_cases h2 : (memS p.ins inp && memS p.os out) = true
    · have e : dlyC p inp out = if dlyV p inp out = 0 then 5 else 0 := by unfold dlyC; rw [if_pos h1, if_pos h2]
      have h3 := h2
      rw [Bool.and_eq_true] at h3
      refine ⟨(snd_of h1).b, nmd_of h1, memS_iff.1 h3.1, memS_iff.1 h3.2, ?_, e⟩
      unfold dlyR
      rw [e]
      by_cases hd : dlyV p inp out = 0
      · rw [if_pos hd, if_neg (by decide), hd]
      · rw [if_neg hd, if_pos rfl]
    · rw [if_neg h2] at h; cases h
  · rw [if_neg h1] at h; cases h
theorem rd_str1 (W : World) (s : ByteArray) : Rd (W.alloc (.cells #[.string s] 9)) (some ⟨W.heap.size, 0, none⟩) (sts [s]) := by
  refine .inr ⟨W.heap.size, 0, rfl, by simp, fun j u h => ?_⟩
  match j with
  | 0 =>
    simp [sts] at h
    subst h
    go_simp
  | j + 1 => simp [sts] at h
set_option maxHeartbeats 1000000 in
set_option maxRecDepth 100000 in
theorem c_DelayOf (p : Prg) (a1 a2 a3 a4 : Option Addr) (c1 c2 c3 c4 : Nat) (inp out : ByteArray) (w : World) (hs : PgOk p) (hz : PgZ a1 a2 a3 c1 c2 c3) (h : PgR w a1 a2 a3 a4 p) (hk : KwR w) (houtz : out.size ≤ maxLen) :
    Calls Tryz.prog 37 #[pv p a1 a2 a3 a4 c1 c2 c3 c4, .string inp, .string out] w (RetP (dlyR p inp out) (dlyC p inp out) w) := by
  have H := Lib.hid h
  have HK := Lib.hid hk
  have HDC := Lib.hid (fun g w h hk hg => c_delayCode p a1 a2 a3 a4 c1 c2 c3 c4 inp out g w hs hz h hk hg)
  have HDM := Lib.hid (fun w hbd hn hi h => c_delays p a1 a2 a3 a4 c1 c2 c3 c4 inp w hs hbd hn hi h)
  have HNE := Lib.hid (dc_ne p inp out)
  have HEQ := Lib.hid (dc_eq p inp out)
  have B0 := Lib.hid (below_alloc (Below.refl w.heap.size w) (.cells #[.string p.nm, .slice a1 p.ins.length c1, .slice a2 p.vs.length c2, .slice a3 p.os.length c3, .string p.gd, .slice a4 p.ls.length c4] 27))
  have HP : Hid (PB (w.alloc (.cells #[.string p.nm, .slice a1 p.ins.length c1, .slice a2 p.vs.length c2, .slice a3 p.os.length c3, .string p.gd, .slice a4 p.ls.length c4] 27)) w.heap.size p a1 a2 a3 a4 c1 c2 c3 c4) := Lib.hid ⟨by go_simp, by go_simp, by go_simp, by go_simp, by go_simp, by go_simp⟩
  clear hs hz h hk
  dsimp only [pv] at HDC HDM
  go_enter Tryz.func37, Tryz.ntmps37
  dsimp only [pv]
  go_upto_region 1 with (fail)
  generalize w.alloc (.cells #[.string p.nm, .slice a1 p.ins.length c1, .slice a2 p.vs.length c2, .slice a3 p.os.length c3, .string p.gd, .slice a4 p.ls.length c4] 27) = W at *
  obtain ⟨k0, k1, k2, k3, k4, k5⟩ := HP.out
  have B01 := Lib.hid (below_chain B0.out (below_alloc (Below.refl W.heap.size W) (.cells #[.string out] 9)))
  have HRD := Lib.hid (rd_str1 W out)
  have hb01 := below_alloc (Below.refl W.heap.size W) (.cells #[.string out] 9)
  go_wp2_with (fail)
  refine (HDC.out _ _ (H.out.below B01.out) (HK.out.below B01.out) HRD.out).mono ?_
  rintro e w1 ⟨rfl, hb⟩
  have B1 := Lib.hid (below_chain B01.out hb)
  replace hb := below_chain hb01 hb
  replace k0 := cell_later hb (by exact k0)
  replace k1 := cell_later hb (by exact k1)
  replace k2 := cell_later hb (by exact k2)
  replace k3 := cell_later hb (by exact k3)
  replace k4 := cell_later hb (by exact k4)
  replace k5 := cell_later hb (by exact k5)
  clear hb hb01 HDC HRD B01
  by_cases hr : dcC p inp out = 0
  rotate_left
  · obtain ⟨h1, h2⟩ := HNE.out hr
    have HA := Lib.hid h1
    have HB := Lib.hid h2
    have er : (dcC p inp out != 0) = true := by simpa using hr
    clear hr h1 h2 HNE HEQ k0 k1 k2 k3 k4 k5
    generalize dcC p inp out = q at *
    go_wp2_with (fail)
    go_ret2
    exact retP_of HB.out HA.out B1.out
  · obtain ⟨h1, h2, h3, h4, h5, h6⟩ := HEQ.out hr
    have HB := Lib.hid h1
    have HN := Lib.hid h2
    have HI := Lib.hid h3
    have HO := Lib.hid h4
    have HA := Lib.hid h5
    have HC := Lib.hid h6
    clear h1 h2 h3 h4 h5 h6 HNE HEQ
    generalize dcC p inp out = q at *
    subst hr
    go_wp2_with (fail)
    refine (HDM.out _ HB.out HN.out HI.out (H.out.below B1.out)).mono ?_
    rintro e w2 ⟨bm, l, c, f, rfl, hm, hb, hf, hg, hbm⟩
    have B2 := Lib.hid (below_chain B1.out hb)
    have HE : Hid (getE l out = some0 (dlyV p inp out)) := Lib.hid (by
      rw [hg, if_neg (fun e : out = inp => HN.out.in_v HI.out (.inr (e ▸ HO.out)))]
      exact out_is HN.out HI.out hf HO.out)
    have HM := Lib.hid hm
    clear hb hf hg hbm hm k0 k1 k2 k3 k4 k5 HDM
    generalize dlyV p inp out = d at *
    by_cases hd : d = 0
    · subst hd
      have e1 : (getE l out).isSome = false := by rw [HE.out]; rfl
      have e2 : (getE l out).getD 0 = 0 := by rw [HE.out]; rfl
      clear HE
      go_wp2_with (first
        | (at_lookup; refine wpList_lookE2 _ rfl (.tmp 22) (.tmp 23) rfl Tryz.underlying9 Tryz.underlying114 (zero_int _) bm l c rfl HM.out out rfl houtz ?_; rw [e1, e2])
        )
      go_ret2
      exact retP_of HA.out HC.out B2.out
    · have hs0 : some0 d = some d := if_neg hd
      have e1 : (getE l out).isSome = true := by rw [HE.out, hs0]; rfl
      have e2 : (getE l out).getD 0 = d := by rw [HE.out, hs0]; rfl
      have HC2 := Lib.hid (HC.out.trans (if_neg hd))
      clear HE hd hs0 HC
      go_wp2_with (first
        | (at_lookup; refine wpList_lookE2 _ rfl (.tmp 22) (.tmp 23) rfl Tryz.underlying9 Tryz.underlying114 (zero_int _) bm l c rfl HM.out out rfl houtz ?_; rw [e1, e2])
        )
      go_ret2
      exact retP_of HA.out HC2.out B2.out
end Go.Proofs.YteengjcplmjakaaGreatDoor

/- slices.DeleteFunc over strings with a look into the map. Condition: the lengths. -/
namespace Go.Proofs.YteengjcplmjakaaGreatDoor
open Go.RowKit

/-- A look into the map: not there, or nought. -/
def zrB (L : List En) (s : ByteArray) : Bool := decide ((getE L s).getD 0 = 0)
set_option maxRecDepth 100000 in
theorem c_rb1 (bf bm : Nat) (L : List En) (C : Nat) (s : ByteArray) (w : World) (hs : s.size ≤ maxLen) (kf : w.cell? ⟨bf, 0, none⟩ = some (.map (some bm))) (hm : MpA w bm L C) :
    Calls Tryz.prog 81 #[.string s, .pointer (some ⟨bf, 0, none⟩)] w fun e w' => e = .returned (.bool (zrB L s)) ∧ w' = w := by
  have HM := Lib.hid hm
  have HV : Hid (zrB L s = decide ((getE L s).getD 0 = 0)) := Lib.hid rfl
  generalize zrB L s = R at *
  clear hm
  obtain ⟨z, hz⟩ : ∃ z, (getE L s).getD 0 = z := ⟨_, rfl⟩
  rw [hz] at HV
  go_enter Tryz.func81, Tryz.ntmps81
  by_cases h0 : z = 0
  · subst h0
    obtain rfl : R = true := HV.out
    clear HV
    go_wp2_with (first
      | (at_lookup; refine wpList_lookE1 _ rfl (.tmp 4) (.tmp 5) rfl Tryz.underlying9 Tryz.underlying114 (zero_int _) bm L C rfl HM.out s rfl hs ?_; rw [hz]))
    go_ret
    exact ⟨rfl, rfl⟩
  · have hzb : (z == 0) = false := by simpa using h0
    obtain rfl : R = false := by rw [HV.out]; exact decide_eq_false h0
    clear HV h0
    go_wp2_with (first
      | (at_lookup; refine wpList_lookE1 _ rfl (.tmp 4) (.tmp 5) rfl Tryz.underlying9 Tryz.underlying114 (zero_int _) bm L C rfl HM.out s rfl hs ?_; rw [hz]))
    go_ret
    exact ⟨rfl, rfl⟩
theorem own_less {w : World} {base g n m cap : Nat} {e : TypeId} {xs : List Value} (h : w.ownsRow base e 1 (.slice (some ⟨g, 0, none⟩) n cap) n xs) (hm : m ≤ n) : w.ownsRow base e 1 (.slice (some ⟨g, 0, none⟩) m cap) m (xs.take m) := by
  obtain ⟨h1, h2⟩ := h
  refine ⟨by rw [List.length_take, h1]; omega, .inr ?_⟩
  rcases h2 with ⟨h3, _⟩ | ⟨g', cap', cur, hv, hb, hg, h4, h5, h6, h7⟩
  · simp at h3
  · simp only [Value.slice.injEq, Option.some.injEq, Addr.mk.injEq, and_true, true_and] at hv
    obtain ⟨rfl, rfl⟩ := hv
    refine ⟨_, _, cur, rfl, hb, hg, by omega, h5, h6, ?_⟩
    rw [← h7, List.take_take]
    congr 1
    omega
theorem own_setCells {base g n cap : Nat} {e : TypeId} : ∀ (vs : List Value) (w : World) (xs : List Value) (o i : Nat), w.ownsRow base e 1 (.slice (some ⟨g, 0, none⟩) n cap) n xs → i ≤ o → ∃ ys, (w.setCells g o vs).ownsRow base e 1 (.slice (some ⟨g, 0, none⟩) n cap) n ys ∧ ys.take i = xs.take i ∧ w.grownBy (w.setCells g o vs) (some g)
  | [], w, xs, o, i, h, hi => ⟨xs, h, rfl, World.grownBy.refl _ _⟩
  | v :: vs, w, xs, o, i, h, hi => by
    have h1 := h.stored o v
    obtain ⟨ys, h2, h3, h4⟩ := own_setCells vs _ _ (o + 1) i h1.1 (by omega)
    refine ⟨ys, h2, ?_, grown_trans h1.2 h4⟩
    rw [h3, List.take_set_of_le hi]
theorem idx_parts {pr : ByteArray → Bool} {l : List ByteArray} : (idxI pr l = -1 ∧ ∀ s ∈ l, pr s = false) ∨ ∃ k : Nat, k < l.length ∧ idxI pr l = k ∧ (∀ s ∈ l.take k, pr s = false) ∧ ∃ x, l[k]? = some x ∧ pr x = true := by
  unfold idxI
  cases h : l.findIdx? pr with
  | none => exact .inl ⟨rfl, List.findIdx?_eq_none_iff.1 h⟩
  | some k =>
    obtain ⟨h1, h2, h3⟩ := List.findIdx?_eq_some_iff_getElem.1 h
    refine .inr ⟨k, h1, rfl, fun s hs => ?_, l[k], List.getElem?_eq_getElem h1, h2⟩
    obtain ⟨j, hj, e⟩ := List.getElem_of_mem hs
    rw [List.length_take] at hj
    rw [List.getElem_take] at e
    have := h3 j (by omega)
    rw [e] at this
    simpa using this
theorem jd {J l : List ByteArray} {j k : Nat} (h : J.drop (j - k) = l.drop j) (hk : k ≤ j) {x : ByteArray} (hx : l[j]? = some x) (K : List ByteArray) (hK : K.length = k) : (K ++ J)[j]? = some x := by
  rw [List.getElem?_append_right (by omega), hK]
  have h2 : (J.drop (j - k))[0]? = (l.drop j)[0]? := by rw [h]
  rw [List.getElem?_drop, List.getElem?_drop] at h2
  simpa using h2.trans hx
theorem jd_skip {J l : List ByteArray} {j k : Nat} (h : J.drop (j - k) = l.drop j) (hk : k ≤ j) : J.drop (j + 1 - k) = l.drop (j + 1) := by
  have h2 : (J.drop (j - k)).drop 1 = (l.drop j).drop 1 := by rw [h]
  rw [List.drop_drop, List.drop_drop] at h2
  have e : j + 1 - k = j - k + 1 := by omega
  rw [e]
  exact h2
theorem take_keep {l : List ByteArray} {j : Nat} {x : ByteArray} {p : ByteArray → Bool} (hx : l[j]? = some x) (hp : p x = true) : (l.take (j + 1)).filter p = (l.take j).filter p ++ [x] := by
  rw [List.take_add_one, hx, List.filter_append]
  simp [hp]
theorem take_skip {l : List ByteArray} {j : Nat} {x : ByteArray} {p : ByteArray → Bool} (hx : l[j]? = some x) (hp : p x = false) : (l.take (j + 1)).filter p = (l.take j).filter p := by
  rw [List.take_add_one, hx, List.filter_append]
  simp [hp]
theorem set_at (K J : List ByteArray) (y x : ByteArray) : (sts (K ++ y :: J)).set K.length (.string x) = sts ((K ++ [x]) ++ J) := by
  unfold sts
  rw [List.map_append, List.map_append, List.map_append, List.set_append_right _ _ (by simp)]
  simp
set_option maxHeartbeats 4000000 in
set_option maxRecDepth 100000 in
theorem c_DeleteFunc (bf bm : Nat) (L : List En) (C : Nat) (A : Option Addr) (vn cap : Nat) (l : List ByteArray) (base : Nat) (w : World) (hl : vn ≤ 4000) (hvn : l.length = vn) (hz : ∀ s ∈ l, s.size ≤ maxLen) (kf : w.cell? ⟨bf, 0, none⟩ = some (.map (some bm))) (hm : MpA w bm L C) (hb1 : bf < base) (hb2 : bm < base)
    (ho : w.ownsRow base 9 1 (.slice A vn cap) vn (sts l)) :
    Calls Tryz.prog 79 #[.slice A vn cap, .func (.func 81) #[] #[.pointer (some ⟨bf, 0, none⟩)]] w fun e w' => ∃ n, n = (l.filter fun s => !zrB L s).length ∧ e = .returned (.slice A n cap) ∧ w'.ownsRow base 9 1 (.slice A n cap) n (sts (l.filter fun s => !zrB L s)) ∧ w.grownBy w' (Value.slice A vn cap).ownBlock := by
  have hent := enter_of Tryz.func81 (by kernel_rfl) rfl
  have HI := Lib.hid (c_IndexSc 81 (.pointer (some ⟨bf, 0, none⟩)) (zrB L) A cap vn l w hvn (by omega) (Rd.own ho) (Lib.hid (fun wr t ht hb => (c_rb1 bf bm L C t wr (hz t ht) (cell_later hb kf) (hm.below hb)).mono (by rintro e w2 ⟨rfl, rfl⟩; exact ⟨rfl, Below.refl _ _⟩))) hent)
  have HO := Lib.hid ho
  have HM := Lib.hid hm
  have HKF := Lib.hid kf
  have HZ := Lib.hid hz
  clear ho hm kf hz
  rcases idx_parts (pr := zrB L) (l := l) with ⟨e1, hall⟩ | ⟨k0, hk0, e1, hall, x0, hx0, hp0⟩
  · have HF : Hid (l.filter (fun s => !zrB L s) = l) := Lib.hid (List.filter_eq_self.2 (fun s hs => by simp [hall s hs]))
    rw [e1] at HI
    rw [HF.out]
    clear hall HF
    go_enter Tryz.func79, Tryz.ntmps79
    go_wp2_with (fail)
    refine HI.out.mono ?_
    rintro e w1 ⟨rfl, hb⟩
    have HB := Lib.hid hb
    clear hb HI
    go_wp2_with (fail)
    go_ret
    exact ⟨vn, hvn.symm, rfl, own_below HO.out HB.out, grown_of_below HB.out _⟩
  · have hn0 : 0 < vn := by omega
    obtain ⟨g, cap2, hv, hgb, hgl⟩ := HO.out.form hn0
    simp only [Value.slice.injEq, true_and] at hv
    obtain ⟨rfl, rfl⟩ := hv
    rw [e1] at HI
    have HK0 : Hid ((l.take (k0 + 1)).filter (fun s => !zrB L s) = l.take k0) := Lib.hid (by
      rw [take_skip hx0 (by simp [hp0])]
      exact List.filter_eq_self.2 (fun s hs => by simp [hall s hs]))
    have hkl : (l.take k0).length = k0 := by rw [List.length_take]; omega
    have HKL := Lib.hid hkl
    have HTD : Hid (l.take k0 ++ l.drop k0 = l) := Lib.hid (List.take_append_drop k0 l)
    have HDL : Hid ((l.drop k0).length = vn - k0) := Lib.hid (by rw [List.length_drop]; omega)
    have HLT : Hid ((l.take vn) = l) := Lib.hid (List.take_of_length_le (by omega))
    have HJ0 : Hid ((l.drop k0).drop (k0 + 1 - k0) = l.drop (k0 + 1)) := Lib.hid (by rw [List.drop_drop]; congr 1; omega)
    have hk1 : (0 : Int) ≤ (k0 : Int) := by omega
    have hcap : vn ≤ cap := (own_cap HO.out).1
    clear hall hx0 hp0 e1 hkl
    go_enter Tryz.func79, Tryz.ntmps79
    go_wp2_with (fail)
    refine HI.out.mono ?_
    rintro e w1 ⟨rfl, hb⟩
    have HB := Lib.hid hb
    have HO1 := Lib.hid (own_below HO.out HB.out)
    clear hb HI HO
    have hk2 : ((k0 : Int) == -1) = false := by simp
    go_wp2_with (fail)
    go_loopw [5, 6, 7] (fun iv jv _ wr => ∃ (j kl : Nat) (K J : List ByteArray), j ≤ vn ∧ kl < j ∧ jv = .int .i64 j ∧ iv = .int .i64 kl ∧ Hid (K.length = kl) ∧ Hid (K = (l.take j).filter fun s => !zrB L s) ∧ Hid (J.drop (j - kl) = l.drop j) ∧ Hid (kl + J.length = vn) ∧ Hid (wr.ownsRow base 9 1 (.slice (some ⟨g, 0, none⟩) vn cap) vn (sts (K ++ J))) ∧ Hid (w.grownBy wr (some g))) (fun _ jv _ _ => vn - (intOf jv).toNat)
    case atStart => exact ⟨k0 + 1, k0, l.take k0, l.drop k0, by omega, by omega, by go_num, rfl, HKL, Lib.hid HK0.out.symm, HJ0, Lib.hid (by rw [HDL.out]; omega), Lib.hid (by rw [HTD.out]; exact HO1.out), Lib.hid (grown_of_below HB.out _)⟩
    case round =>
      clear HO1 HB HK0 HKL HTD HDL HJ0
      obtain ⟨j, kl, K, J, hj, hkl, rfl, rfl, hK, hKf, hJd, hJl, ho, hg⟩ := hrel
      have hj0 : (0 : Int) ≤ (j : Int) := by omega
      have hkl0 : (0 : Int) ≤ (kl : Int) := by omega
      have hklj : (kl : Int) < j := by omega
      have hklv : (kl : Int) < vn := by omega
      have KF := Lib.hid (cell_g HKF.out hg.out (fun q hq => by cases hq; show bf ≠ g; omega))
      have MM := Lib.hid (HM.out.kept hg.out (fun hq => by simp only [Option.some.injEq] at hq; omega))
      by_cases hlt : j < vn
      · obtain ⟨x, hx⟩ : ∃ x, l[j]? = some x := ⟨_, List.getElem?_eq_getElem (by omega)⟩
        have hj1 : (j : Int) < vn := by omega
        have hxz := HZ.out x (List.mem_of_getElem? hx)
        have g0 := ho.out.cellAt j (by omega)
        rw [sts_at (jd hJd.out (by omega) hx K hK.out)] at g0
        have HRB := Lib.hid (fun wq (kf : wq.cell? ⟨bf, 0, none⟩ = some (.map (some bm))) hm => c_rb1 bf bm L C x wq hxz kf hm)
        have HJS := Lib.hid (jd_skip hJd.out (by omega : kl ≤ j))
        cases hp : zrB L x
        · -- kept
          have HK2 := Lib.hid (hKf.out ▸ take_keep (p := fun s => !zrB L s) hx (by simp [hp]) : (l.take (j + 1)).filter (fun s => !zrB L s) = K ++ [x])
          obtain ⟨y, J2, rfl⟩ : ∃ y J2, J = y :: J2 := by
            cases J with
            | nil => have := hJl.out; simp at this; omega
            | cons y J2 => exact ⟨y, J2, rfl⟩
          have f0 := ho.out.frozenAt kl
          obtain ⟨old, hold⟩ := own_cell ho.out (j := kl) (by omega)
          have hst := ho.out.stored kl (.string x)
          have hset : (sts (K ++ y :: J2)).set kl (.string x) = sts ((K ++ [x]) ++ J2) := by rw [← hK.out]; exact set_at K J2 y x
          rw [hset] at hst
          have HS1 := Lib.hid hst.1
          have HS2 := Lib.hid (grown_trans hg.out hst.2)
          have HKn : Hid ((K ++ [x]).length = kl + 1) := Lib.hid (by rw [List.length_append, hK.out]; rfl)
          have HJ2 : Hid (J2.drop (j + 1 - (kl + 1)) = l.drop (j + 1)) := Lib.hid (by
            have := HJS.out
            rw [show j + 1 - kl = (j - kl) + 1 by omega, List.drop_succ_cons] at this
            rw [show j + 1 - (kl + 1) = j - kl by omega]
            exact this)
          have HL2 : Hid (kl + 1 + J2.length = vn) := Lib.hid (by have := hJl.out; rw [List.length_cons] at this; omega)
          rw [hp] at HRB
          clear hx hst hset hJd hJl ho hg HJS hp hKf hK
          generalize K ++ [x] = K2 at *
          go_wp2_with (fail)
          refine (HRB.out _ KF.out MM.out).mono ?_
          rintro e wq ⟨rfl, rfl⟩
          clear KF MM HRB
          go_wp2_with (fail)
          go_roundw
          case rel => exact ⟨j + 1, kl + 1, K2, J2, by omega, by omega, by go_num, by go_num, HKn, Lib.hid HK2.out.symm, HJ2, HL2, HS1, HS2⟩
          case measure => simp [intOf]; omega
        · have HK2 := Lib.hid (hKf.out ▸ take_skip (p := fun s => !zrB L s) hx (by simp [hp]) : (l.take (j + 1)).filter (fun s => !zrB L s) = K)
          rw [hp] at HRB
          clear hx hJd hp hKf
          go_wp2_with (fail)
          refine (HRB.out _ KF.out MM.out).mono ?_
          rintro e wq ⟨rfl, rfl⟩
          clear KF MM HRB
          go_wp2_with (fail)
          go_roundw
          case rel => exact ⟨j + 1, kl, K, J, by omega, by omega, by go_num, rfl, hK, Lib.hid HK2.out.symm, HJS, hJl, ho, hg⟩
          case measure => simp [intOf]; omega
      · obtain rfl : j = vn := by omega
        rw [HLT.out] at hKf
        have hcl : ∀ ty, (Builtin.clear_ #[24] ty #[.slice (some ⟨g, kl, none⟩) (j - kl) (cap - kl)]).run Tryz.prog wr = .ok (.tuple #[]) (wr.setCells g kl (List.replicate (j - kl) (.string ⟨#[]⟩))) :=
          fun ty => Lib.run_clear_slice wr _ _ ty _ Tryz.underlying24 (fun _ => by kernel_rfl) rfl rfl g kl _ _ (by omega) (fun t ht => by obtain ⟨u, hu⟩ := own_cell ho.out (j := kl + t) (by omega); rw [hu]; rfl) (fun t ht => ho.out.frozenAt (kl + t))
        obtain ⟨ys, ho2, hys, hg2⟩ := own_setCells (List.replicate (j - kl) (.string ⟨#[]⟩)) wr _ kl kl ho.out (Nat.le_refl _)
        have HO3 := Lib.hid (own_less ho2 (by omega : kl ≤ j))
        have HG3 := Lib.hid (grown_trans hg.out hg2)
        have HYS : Hid (ys.take kl = sts K) := Lib.hid (by rw [hys, ← hK.out]; unfold sts; rw [List.map_append, List.take_left' (by simp)])
        have hncap : ¬ cap = kl := by omega
        have hkc : kl ≤ cap := by omega
        clear ho2 hys hg2 hJd KF MM HLT hJl ho hg
        go_wp2_with (fail)
        go_ret
        refine ⟨kl, by rw [← hKf.out, hK.out], rfl, ?_, HG3.out⟩
        have := HO3.out
        rwa [HYS.out, hKf.out] at this
end Go.Proofs.YteengjcplmjakaaGreatDoor

/- ReachedBy, the reference. Condition: the lengths. -/
namespace Go.Proofs.YteengjcplmjakaaGreatDoor
open Go.RowKit

theorem wpList_push_st (w : World) {ops : Array Oper} {rest : List Oper} {o : Oper} {a : Act} {Q : Exit → Act → World → Prop} (hgd : o.guard = none) (s x : Operand)
    (ho : o.op = .call { callee := .builtin .append, args := #[s, x], argTypes := #[24, 24] })
    (base : Nat) (v : Value) (n : Nat) (l : List ByteArray) (t : ByteArray) (g c : Nat) (hs : a.eval s = v) (hown : w.ownsRow base 9 1 v n (sts l))
    (hx : a.eval x = .slice (some ⟨g, 0, none⟩) 1 c) (h0 : w.cell? ⟨g, 0, none⟩ = some (.string t)) (hn : n ≤ 1048577) (hbase : base ≤ w.heap.size)
    (h : ∀ v' w', w'.ownsRow base 9 1 v' (n + 1) (sts (l ++ [t])) → w.grownBy w' v.ownBlock → wpList Tryz.prog ops Q rest (a.put o.dst v') w') : wpList Tryz.prog ops Q (o :: rest) a w := by
  obtain ⟨i0, hi, hz0, hz1, hz2⟩ := info_parts info_string
  refine wpList_push w hgd s x 24 ho base 9 i0 _ 1 16 Tryz.underlying24 hi hz0 hz1 hz2 rfl (by decide) v n (sts l) hs hown ⟨g, 0, none⟩ c [.string t] hx rfl ?_ ?_ (by unfold maxLen; omega) (by omega) hbase ?_
  · intro j u hu
    match j, hu with
    | 0, hu => simp only [List.getElem?_cons_zero, Option.some.injEq] at hu; rw [← hu]; simpa [Addr.add] using h0
  · intro u hu
    simp only [List.mem_singleton] at hu
    subst hu; rfl
  · intro v' w' hown1 hgrow _ _
    refine h v' w' ?_ hgrow
    have e : sts (l ++ [t]) = sts l ++ [.string t] := by simp [sts]
    rw [e]
    exact hown1
def rbC (p : Prg) (inp : ByteArray) : Int := if (wrB p && fltB p) then (if memS p.ins inp then 0 else 4) else 1
def rbV (p : Prg) (inp : ByteArray) (s : ByteArray) : Bool := decide (0 < (scnV p inp).getD (ixS (tgs p) s).toNat 0)
def rbO (p : Prg) (inp : ByteArray) (s : ByteArray) : Bool := decide (0 < dlyV p inp s)
def rbL (p : Prg) (inp : ByteArray) : List ByteArray := if rbC p inp = 0 then p.vs.filter (rbV p inp) ++ p.os.filter (rbO p inp) else []
/-- A list of strings of the call's own, and a code. -/
def RetSC (L : List ByteArray) (C : Int) (w : World) (e : Ending) (w' : World) : Prop := ∃ A n c, e = .returned (.tuple #[.slice A n c, .int .i64 C]) ∧ n = L.length ∧ w'.ownsRow w.heap.size 9 1 (.slice A n c) n (sts L) ∧ Below w.heap.size w w'
theorem retSC_of {L L2 : List ByteArray} {C C2 : Int} {w w' : World} {A : Option Addr} {n c : Nat} (h : L = L2) (hc : C = C2) (hn : n = L2.length) (ho : w'.ownsRow w.heap.size 9 1 (.slice A n c) n (sts L2)) (hb : Below w.heap.size w w') : RetSC L C w (.returned (.tuple #[.slice A n c, .int .i64 C2])) w' := by
  subst h; subst hc; exact ⟨A, n, c, rfl, hn, ho, hb⟩
theorem retSC_nil {C : Int} {w w' : World} (hb : Below w.heap.size w w') : RetSC [] C w (.returned (.tuple #[.slice none 0 0, .int .i64 C])) w' :=
  ⟨none, 0, 0, rfl, rfl, ⟨rfl, .inl ⟨rfl, rfl⟩⟩, hb⟩
theorem filt_step {l : List ByteArray} {f : ByteArray → Bool} {k : Nat} {x : ByteArray} (h : l[k]? = some x) : (l.take (k + 1)).filter f = (l.take k).filter f ++ (if f x then [x] else []) := by
  rw [List.take_add_one, h, List.filter_append]
  cases hf : f x <;> simp [hf]
set_option maxHeartbeats 4000000 in
set_option maxRecDepth 100000 in
theorem c_sReached (p : Prg) (a1 a2 a3 a4 : Option Addr) (c1 c2 c3 c4 : Nat) (inp : ByteArray) (w : World) (hs : PgOk p) (hz : PgZ a1 a2 a3 c1 c2 c3) (h : PgR w a1 a2 a3 a4 p) :
    Calls Tryz.prog 35 #[pv p a1 a2 a3 a4 c1 c2 c3 c4, .string inp] w (RetSC (rbL p inp) (rbC p inp) w) := by
  have H := Lib.hid h
  have HSO := Lib.hid (fun w h => c_sIsSound p a1 a2 a3 a4 c1 c2 c3 c4 w hs hz h)
  have HI := Lib.hid (fun w h => c_l14Index a1 c1 _ p.ins inp w rfl hs.i.1 h)
  have HSN := Lib.hid (fun w hbd h => c_l19Scans p a1 a2 a3 a4 c1 c2 c3 c4 inp w hs hbd h)
  have HLN := Lib.hid (fun s w h => c_l14Line p a1 a2 a3 a4 c1 c2 c3 c4 s w hs.l.1 h)
  have HDL := Lib.hid (fun out w hbd hout h => c_l19Delay p a1 a2 a3 a4 c1 c2 c3 c4 inp out w hs hbd hout h)
  have HND := Lib.hid (fun h : (wrB p && fltB p) = true => (snd_of h).b)
  have HNM := Lib.hid (fun h : (wrB p && fltB p) = true => nmd_of h)
  have HI1 := Lib.hid (fun h => mem_ix (l := p.ins) (s := inp) h)
  have HI0 := Lib.hid (fun h => no_ix (l := p.ins) (s := inp) h)
  have HV : Hid (rbC p inp = if (wrB p && fltB p) then (if memS p.ins inp then 0 else 4) else 1) := Lib.hid rfl
  have HR : Hid (rbL p inp = if rbC p inp = 0 then p.vs.filter (rbV p inp) ++ p.os.filter (rbO p inp) else []) := Lib.hid rfl
  have HRV : Hid (∀ s, rbV p inp s = decide (0 < (scnV p inp).getD (ixS (tgs p) s).toNat 0)) := Lib.hid (fun _ => rfl)
  have HRO : Hid (∀ s, rbO p inp s = decide (0 < dlyV p inp s)) := Lib.hid (fun _ => rfl)
  have HSL := Lib.hid (scnV_len p inp)
  have HTL := Lib.hid (tgs_len p)
  generalize rbL p inp = L at *
  generalize rbC p inp = R at *
  generalize (wrB p && fltB p) = s at *
  generalize memS p.ins inp = u at *
  have B0 := Lib.hid (below_alloc (Below.refl w.heap.size w) (.cells #[.string p.nm, .slice a1 p.ins.length c1, .slice a2 p.vs.length c2, .slice a3 p.os.length c3, .string p.gd, .slice a4 p.ls.length c4] 27))
  have HP : Hid (PB (w.alloc (.cells #[.string p.nm, .slice a1 p.ins.length c1, .slice a2 p.vs.length c2, .slice a3 p.os.length c3, .string p.gd, .slice a4 p.ls.length c4] 27)) w.heap.size p a1 a2 a3 a4 c1 c2 c3 c4) := Lib.hid ⟨by go_simp, by go_simp, by go_simp, by go_simp, by go_simp, by go_simp⟩
  clear hs hz h
  dsimp only [pv] at *
  go_enter Tryz.func35, Tryz.ntmps35
  go_upto_region 1 with (fail)
  generalize w.alloc (.cells #[.string p.nm, .slice a1 p.ins.length c1, .slice a2 p.vs.length c2, .slice a3 p.os.length c3, .string p.gd, .slice a4 p.ls.length c4] 27) = W at *
  obtain ⟨k0, k1, k2, k3, k4, k5⟩ := HP.out
  go_wp2_with (fail)
  refine (HSO.out _ (H.out.below B0.out)).mono ?_
  rintro e w1 ⟨rfl, hb⟩
  have B1 := Lib.hid (below_chain B0.out hb)
  have BW1 := Lib.hid hb
  replace k0 := cell_later hb (by exact k0)
  replace k1 := cell_later hb (by exact k1)
  replace k2 := cell_later hb (by exact k2)
  replace k3 := cell_later hb (by exact k3)
  replace k4 := cell_later hb (by exact k4)
  replace k5 := cell_later hb (by exact k5)
  clear hb
  cases s
  · obtain rfl : R = 1 := HV.out
    obtain rfl : L = [] := HR.out
    go_wp2_with (fail)
    go_ret2
    exact retSC_nil B1.out
  go_wp2_with (fail)
  refine (HI.out _ (H.out.i.below B1.out)).mono ?_
  rintro e w2 ⟨rfl, hb⟩
  have B2 := Lib.hid (below_chain B1.out hb)
  have BW2 := Lib.hid (below_chain BW1.out hb)
  replace k0 := cell_later hb (by exact k0)
  replace k1 := cell_later hb (by exact k1)
  replace k2 := cell_later hb (by exact k2)
  replace k3 := cell_later hb (by exact k3)
  replace k4 := cell_later hb (by exact k4)
  replace k5 := cell_later hb (by exact k5)
  clear hb
  cases u
  · obtain rfl : R = 4 := HV.out
    obtain rfl : L = [] := HR.out
    have hi := HI0.out rfl
    generalize ixS p.ins inp = z at *
    go_wp2_with (fail)
    go_ret2
    exact retSC_nil B2.out
  obtain rfl : R = 0 := HV.out
  have HLL : Hid (L = p.vs.filter (rbV p inp) ++ p.os.filter (rbO p inp)) := Lib.hid HR.out
  have HB := Lib.hid (HND.out (by first | rfl | trivial))
  have HN := Lib.hid (HNM.out (by first | rfl | trivial))
  have hi := HI1.out rfl
  have hi2 : ¬ ixS p.ins inp < 0 := by omega
  generalize ixS p.ins inp = z at *
  clear HV HR HI0 HI1 HND HNM
  go_wp2_with (fail)
  refine (HSN.out _ HB.out (H.out.below B2.out)).mono ?_
  rintro e w3 ⟨g, rfl, hown, hb⟩
  have B3 := Lib.hid (below_chain B2.out hb)
  have BW3 := Lib.hid hb
  have HSO2 := Lib.hid hown
  replace k0 := cell_later hb (by exact k0)
  replace k1 := cell_later hb (by exact k1)
  replace k2 := cell_later hb (by exact k2)
  replace k3 := cell_later hb (by exact k3)
  replace k4 := cell_later hb (by exact k4)
  replace k5 := cell_later hb (by exact k5)
  clear hb hown hi hi2
  have bl := HB.out.l
  have bv := HB.out.v
  have bo := HB.out.o
  have HO0 : Hid ((w3.alloc (.cells #[] 9)).ownsRow w3.heap.size 9 1 (.slice (some ⟨w3.heap.size, 0, none⟩) 0 0) 0 (sts [])) := Lib.hid (by
    have h := World.ownsRow_lit (e := 9) (size := 1) (base := w3.heap.size) w3 #[] 0 (Nat.le_refl _) (by decide) (by simp)
    simpa [sts] using h)
  have BE := Lib.hid (below_alloc (Below.refl w3.heap.size w3) (.cells #[] 9))
  go_wp2_with (fail)
  have B1' := Lib.hid (show Below W.heap.size W w2 from BW2.out)
  have B3' := Lib.hid (show Below w2.heap.size w2 w3 from BW3.out)
  have HSC : Hid (∀ (wq : World), Below w3.heap.size w3 wq → ∀ j : Nat, j < p.ls.length → wq.cell? ⟨g, j, none⟩ = some (.int .i64 ((scnV p inp).getD j 0))) := Lib.hid (fun wq hb j hj => cell_later hb (scn_cell HSO2.out (by rw [HSL.out]; exact hj)))
  have HIX : Hid (∀ s, s ∈ p.vs ∨ s ∈ p.os → ∃ j : Nat, ixS (tgs p) s = j ∧ j < p.ls.length) := Lib.hid (fun s hs => by
    have h1 := ix_mem (HN.out.mad s hs)
    have h2 := ixS_bd s (tgs p)
    have h3 := HTL.out
    exact ⟨(ixS (tgs p) s).toNat, by omega, by omega⟩)
  have HSLI : Hid (((scnV p inp).length : Int) = p.ls.length) := Lib.hid (by rw [HSL.out])
  go_loopw [7, 8] (fun u ii wr => ∃ (k n : Nat) (A3 : Option Addr) (c9 : Nat), k ≤ p.vs.length ∧ n ≤ k ∧ ii = .int .i64 k ∧ u = .slice A3 n c9 ∧ Hid (((p.vs.take k).filter (rbV p inp)).length = n) ∧ Hid (wr.ownsRow w3.heap.size 9 1 (.slice A3 n c9) n (sts ((p.vs.take k).filter (rbV p inp)))) ∧ Hid (Below w3.heap.size w3 wr)) (fun _ ii _ => p.vs.length - (intOf ii).toNat)
  case atStart => exact ⟨0, 0, _, _, Nat.zero_le _, Nat.le_refl _, rfl, rfl, Lib.hid rfl, HO0, BE⟩
  case round =>
    clear HO0 BE k0 k1 k2 k3 k4 k5
    obtain ⟨k, n, A3, c9, hk, hn, rfl, rfl, hln, ho, hb⟩ := hrel
    have HBW := Lib.hid (below_chain B3.out hb.out)
    obtain ⟨k0, k1, k2, k3, k4, k5⟩ := (HP.out.below (below_chain (below_chain B1'.out B3'.out) hb.out))
    by_cases hlt : k < p.vs.length
    · obtain ⟨x, hx⟩ : ∃ x, p.vs[k]? = some x := ⟨_, List.getElem?_eq_getElem hlt⟩
      obtain ⟨b, off, rfl, hblt, g0w⟩ := H.out.v.st hx
      have GW := Lib.hid g0w
      have g0 := cell_later HBW.out g0w
      obtain ⟨j, hj, hjl⟩ := HIX.out x (.inl (List.mem_of_getElem? hx))
      have HXV := Lib.hid (HRV.out x)
      rw [hj, Int.toNat_natCast] at HXV
      have HLX := Lib.hid (HLN.out x)
      rw [hj] at HLX
      have HFS := Lib.hid (filt_step (f := rbV p inp) hx)
      have hk0 : (0 : Int) ≤ (k : Int) := by omega
      have hk1 : (k : Int) < p.vs.length := by omega
      have hj0 : (0 : Int) ≤ (j : Int) := by omega
      have hj1 : (j : Int) < (scnV p inp).length := by rw [HSLI.out]; omega
      have HCJ := Lib.hid (fun wq hb => HSC.out wq hb j hjl)
      clear hx g0w hblt hj hjl
      generalize (p.vs.take k).filter (rbV p inp) = FO at *
      generalize rbV p inp x = y at *
      generalize (scnV p inp).getD j 0 = z at *
      generalize (scnV p inp).length = zl at *
      go_upto_region 10 with (fail)
      refine wp_region_held_drew (S := (fun w' => w'.cell? ⟨b, off + k, none⟩ = some (.string x) ∧ w'.cell? ⟨w.heap.size, 0, none⟩ = some (.string p.nm) ∧ w'.cell? ⟨w.heap.size, 1, none⟩ = some (.slice a1 p.ins.length c1) ∧ w'.cell? ⟨w.heap.size, 2, none⟩ = some (.slice (some ⟨b, off, none⟩) p.vs.length c2) ∧ w'.cell? ⟨w.heap.size, 3, none⟩ = some (.slice a3 p.os.length c3) ∧ w'.cell? ⟨w.heap.size, 4, none⟩ = some (.string p.gd) ∧ w'.cell? ⟨w.heap.size, 5, none⟩ = some (.slice a4 p.ls.length c4))) (by kernel_rfl) ?_ (fun hHeld => ?_)
      · exact ⟨g0, k0, k1, k2, k3, k4, k5⟩
      refine rg_take (v := ?_) 0 rfl (by kernel_rfl) (by kernel_rfl) (by kernel_rfl) (fun _ _ _ h => h) (by kernel_rfl) ?_ (by assumption) ?_
      rotate_left
      · (intro w' hSw; (try dsimp only at hSw); go_simp; first | done | with_reducible rfl)
      simp only [Act.put, List.setIfInBounds_toArray, List.set_cons_zero, List.set_cons_succ]
      refine rg_take (v := ?_) 1 rfl (by kernel_rfl) (by kernel_rfl) (by kernel_rfl) (fun _ _ _ h => h) (by kernel_rfl) ?_ (by assumption) ?_
      rotate_left
      · (intro w' hSw; (try dsimp only at hSw); go_simp; first | done | with_reducible rfl)
      simp only [Act.put, List.setIfInBounds_toArray, List.set_cons_zero, List.set_cons_succ]
      refine rg_take (v := ?_) 2 rfl (by kernel_rfl) (by kernel_rfl) (by kernel_rfl) (fun _ _ _ h => h) (by kernel_rfl) ?_ (by assumption) ?_
      rotate_left
      · (intro w' hSw; (try dsimp only at hSw); go_simp; first | done | with_reducible rfl)
      simp only [Act.put, List.setIfInBounds_toArray, List.set_cons_zero, List.set_cons_succ]
      refine rg_take (v := ?_) 3 rfl (by kernel_rfl) (by kernel_rfl) (by kernel_rfl) (fun _ _ _ h => h) (by kernel_rfl) ?_ (by assumption) ?_
      rotate_left
      · (intro w' hSw; (try dsimp only at hSw); go_simp; first | done | with_reducible rfl)
      simp only [Act.put, List.setIfInBounds_toArray, List.set_cons_zero, List.set_cons_succ]
      refine rg_take (v := ?_) 4 rfl (by kernel_rfl) (by kernel_rfl) (by kernel_rfl) (fun _ _ _ h => h) (by kernel_rfl) ?_ (by assumption) ?_
      rotate_left
      · (intro w' hSw; (try dsimp only at hSw); go_simp; first | done | with_reducible rfl)
      simp only [Act.put, List.setIfInBounds_toArray, List.set_cons_zero, List.set_cons_succ]
      refine rg_take (v := ?_) 5 rfl (by kernel_rfl) (by kernel_rfl) (by kernel_rfl) (fun _ _ _ h => h) (by kernel_rfl) ?_ (by assumption) ?_
      rotate_left
      · (intro w' hSw; (try dsimp only at hSw); go_simp; first | done | with_reducible rfl)
      simp only [Act.put, List.setIfInBounds_toArray, List.set_cons_zero, List.set_cons_succ]
      refine rg_take (v := ?_) 6 rfl (by kernel_rfl) (by kernel_rfl) (by kernel_rfl) (fun _ _ _ h => h) (by kernel_rfl) ?_ (by assumption) ?_
      rotate_left
      · (intro w' hSw; (try dsimp only at hSw); go_simp; first | done | with_reducible rfl)
      simp only [Act.put, List.setIfInBounds_toArray, List.set_cons_zero, List.set_cons_succ]
      refine rg_run 7 rfl (by kernel_rfl) (by kernel_rfl) (fun K hK => ?_)
      go_simp
      refine (HLX.out _ ((H.out.below HBW.out).below (Below.refl _ _).drew)).mono ?_
      rintro e w5 ⟨rfl, hb5⟩
      have hbs : Below wr.heap.size wr w5 := below_chain (Below.refl _ _).drew hb5
      have B5 := Lib.hid (below_chain hb.out hbs)
      have HO5 := Lib.hid (own_below ho.out hbs)
      replace g0 := cell_later hbs (by exact g0)
      replace k0 := cell_later hbs (by exact k0)
      replace k1 := cell_later hbs (by exact k1)
      replace k2 := cell_later hbs (by exact k2)
      replace k3 := cell_later hbs (by exact k3)
      replace k4 := cell_later hbs (by exact k4)
      replace k5 := cell_later hbs (by exact k5)
      have q0 := HCJ.out _ B5.out
      clear hb5 hbs hb ho HCJ HLX
      go_wp2
      clear hHeld
      refine hK.out _ _ (by exact ⟨g0, k0, k1, k2, k3, k4, k5⟩) (fun hHeld => ?_)
      clear hK K
      try simp only [Act.put, List.setIfInBounds_toArray, List.set_cons_zero, List.set_cons_succ]
      refine rg_take (v := ?_) 8 rfl (by kernel_rfl) (by kernel_rfl) (by kernel_rfl) (fun _ _ _ h => h) (by kernel_rfl) ?_ (by assumption) ?_
      rotate_left
      · (intro w' hSw; (try dsimp only at hSw); go_simp; first | done | with_reducible rfl)
      simp only [Act.put, List.setIfInBounds_toArray, List.set_cons_zero, List.set_cons_succ]
      refine rg_run 9 rfl (by kernel_rfl) (by kernel_rfl) (fun K hK => ?_)
      go_simp
      go_wp2
      clear hHeld
      refine hK.out _ _ (by exact ⟨g0, k0, k1, k2, k3, k4, k5⟩) (fun hHeld => ?_)
      clear hK K
      try simp only [Act.put, List.setIfInBounds_toArray, List.set_cons_zero, List.set_cons_succ]
      refine rg_take (v := ?_) 10 rfl (by kernel_rfl) (by kernel_rfl) (by kernel_rfl) (fun _ _ _ h => h) (by kernel_rfl) ?_ (by assumption) ?_
      rotate_left
      · (intro w' hSw; (try dsimp only at hSw); go_simp; first | done | with_reducible rfl)
      simp only [Act.put, List.setIfInBounds_toArray, List.set_cons_zero, List.set_cons_succ]
      refine wpAnyH_done (by kernel_rfl) ?_ _
      clear hHeld
      clear q0 hj0 hj1
      by_cases h0 : 0 < z
      · obtain rfl : y = true := by rw [HXV.out]; exact decide_eq_true h0
        go_wp2_with (first
          | (at_builtin
             refine wpList_push_st _ rfl (.tmp 40) (.tmp 46) rfl w3.heap.size _ n _ x w5.heap.size 1 rfl (own_below HO5.out (below_alloc (Below.refl _ _) _)) rfl (by go_simp) (by omega) (below_alloc B5.out _).size ?_
             intro v7 w7 hown hgrow
             obtain ⟨A9, c9', rfl⟩ := own_shape hown
             have HB7 := Lib.hid (below_of_grown (below_alloc B5.out _) hgrow (fun q hq => (HO5.out.lt q hq).1))
             have HO7 := Lib.hid hown
             clear hown hgrow)
          )
        go_roundw
        case rel => exact ⟨k + 1, n + 1, A9, c9', by omega, by omega, by go_num, rfl, Lib.hid (by rw [HFS.out, List.length_append, hln.out]; rfl), Lib.hid (by rw [HFS.out]; exact HO7.out), HB7⟩
        case measure => simp [intOf]; omega
      · obtain rfl : y = false := by rw [HXV.out]; exact decide_eq_false h0
        go_wp2_with (fail)
        go_roundw
        case rel => exact ⟨k + 1, n, A3, c9, by omega, by omega, by go_num, rfl, Lib.hid (by rw [HFS.out]; simpa using hln.out), Lib.hid (by rw [HFS.out]; simpa using HO5.out), B5⟩
        case measure => simp [intOf]; omega
    · obtain rfl : k = p.vs.length := by omega
      rw [List.take_length] at hln ho
      generalize p.vs.filter (rbV p inp) = F1 at *
      obtain ⟨w8, rfl⟩ : ∃ w8, w8 = wr := ⟨_, rfl⟩
      have HO8 : Hid (w8.ownsRow w3.heap.size 9 1 (.slice A3 n c9) n (sts (F1 ++ (p.os.take 0).filter (rbO p inp)))) := Lib.hid (by simpa using ho.out)
      have HL8 : Hid ((F1 ++ (p.os.take 0).filter (rbO p inp)).length = n) := Lib.hid (by simpa using hln.out)
      clear ho hln
      go_wp2_with (fail)
      obtain ⟨HHB, HHW⟩ : Hid (Below w3.heap.size w3 w8) ∧ Hid (Below w.heap.size w w8) := ⟨hb, HBW⟩
      go_loopw [7, 9] (fun u ii wr => ∃ (k n : Nat) (A3 : Option Addr) (c9 : Nat), k ≤ p.os.length ∧ n ≤ 20 + k ∧ ii = .int .i64 k ∧ u = .slice A3 n c9 ∧ Hid ((F1 ++ (p.os.take k).filter (rbO p inp)).length = n) ∧ Hid (wr.ownsRow w3.heap.size 9 1 (.slice A3 n c9) n (sts (F1 ++ (p.os.take k).filter (rbO p inp)))) ∧ Hid (Below w3.heap.size w3 wr)) (fun _ ii _ => p.os.length - (intOf ii).toNat)
      case atStart => exact ⟨0, n, _, _, Nat.zero_le _, by omega, rfl, rfl, HL8, HO8, HHB⟩
      case round =>
        clear HO8 HL8 k0 k1 k2 k3 k4 k5 hb HBW HHB HHW hn hlt hk
        obtain ⟨k, n, A3, c9, hk, hn, rfl, rfl, hln, ho, hb⟩ := hrel
        have HBW := Lib.hid (below_chain B3.out hb.out)
        obtain ⟨k0, k1, k2, k3, k4, k5⟩ := (HP.out.below (below_chain (below_chain B1'.out B3'.out) hb.out))
        by_cases hlt : k < p.os.length
        · obtain ⟨x, hx⟩ : ∃ x, p.os[k]? = some x := ⟨_, List.getElem?_eq_getElem hlt⟩
          obtain ⟨b, off, rfl, hblt, g0w⟩ := H.out.o.st hx
          have GW := Lib.hid g0w
          have g0 := cell_later HBW.out g0w
          have HXV := Lib.hid (HRO.out x)
          have HLX := Lib.hid (fun w => HDL.out x w HB.out (ix_mem (HN.out.mad x (.inr (List.mem_of_getElem? hx)))))
          have HFS := Lib.hid (filt_step (f := rbO p inp) hx)
          have hk0 : (0 : Int) ≤ (k : Int) := by omega
          have hk1 : (k : Int) < p.os.length := by omega
          clear hx g0w hblt
          generalize (p.os.take k).filter (rbO p inp) = FO at *
          generalize rbO p inp x = y at *
          generalize dlyV p inp x = z at *
          go_upto_region 15 with (fail)
          refine wp_region_held_drew (S := (fun w' => w'.cell? ⟨b, off + k, none⟩ = some (.string x) ∧ w'.cell? ⟨w.heap.size, 0, none⟩ = some (.string p.nm) ∧ w'.cell? ⟨w.heap.size, 1, none⟩ = some (.slice a1 p.ins.length c1) ∧ w'.cell? ⟨w.heap.size, 2, none⟩ = some (.slice a2 p.vs.length c2) ∧ w'.cell? ⟨w.heap.size, 3, none⟩ = some (.slice (some ⟨b, off, none⟩) p.os.length c3) ∧ w'.cell? ⟨w.heap.size, 4, none⟩ = some (.string p.gd) ∧ w'.cell? ⟨w.heap.size, 5, none⟩ = some (.slice a4 p.ls.length c4))) (by kernel_rfl) ?_ (fun hHeld => ?_)
          · exact ⟨g0, k0, k1, k2, k3, k4, k5⟩
          refine rg_take (v := ?_) 0 rfl (by kernel_rfl) (by kernel_rfl) (by kernel_rfl) (fun _ _ _ h => h) (by kernel_rfl) ?_ (by assumption) ?_
          rotate_left
          · (intro w' hSw; (try dsimp only at hSw); go_simp; first | done | with_reducible rfl)
          simp only [Act.put, List.setIfInBounds_toArray, List.set_cons_zero, List.set_cons_succ]
          refine rg_take (v := ?_) 1 rfl (by kernel_rfl) (by kernel_rfl) (by kernel_rfl) (fun _ _ _ h => h) (by kernel_rfl) ?_ (by assumption) ?_
          rotate_left
          · (intro w' hSw; (try dsimp only at hSw); go_simp; first | done | with_reducible rfl)
          simp only [Act.put, List.setIfInBounds_toArray, List.set_cons_zero, List.set_cons_succ]
          refine rg_take (v := ?_) 2 rfl (by kernel_rfl) (by kernel_rfl) (by kernel_rfl) (fun _ _ _ h => h) (by kernel_rfl) ?_ (by assumption) ?_
          rotate_left
          · (intro w' hSw; (try dsimp only at hSw); go_simp; first | done | with_reducible rfl)
          simp only [Act.put, List.setIfInBounds_toArray, List.set_cons_zero, List.set_cons_succ]
          refine rg_take (v := ?_) 3 rfl (by kernel_rfl) (by kernel_rfl) (by kernel_rfl) (fun _ _ _ h => h) (by kernel_rfl) ?_ (by assumption) ?_
          rotate_left
          · (intro w' hSw; (try dsimp only at hSw); go_simp; first | done | with_reducible rfl)
          simp only [Act.put, List.setIfInBounds_toArray, List.set_cons_zero, List.set_cons_succ]
          refine rg_take (v := ?_) 4 rfl (by kernel_rfl) (by kernel_rfl) (by kernel_rfl) (fun _ _ _ h => h) (by kernel_rfl) ?_ (by assumption) ?_
          rotate_left
          · (intro w' hSw; (try dsimp only at hSw); go_simp; first | done | with_reducible rfl)
          simp only [Act.put, List.setIfInBounds_toArray, List.set_cons_zero, List.set_cons_succ]
          refine rg_take (v := ?_) 5 rfl (by kernel_rfl) (by kernel_rfl) (by kernel_rfl) (fun _ _ _ h => h) (by kernel_rfl) ?_ (by assumption) ?_
          rotate_left
          · (intro w' hSw; (try dsimp only at hSw); go_simp; first | done | with_reducible rfl)
          simp only [Act.put, List.setIfInBounds_toArray, List.set_cons_zero, List.set_cons_succ]
          refine rg_take (v := ?_) 6 rfl (by kernel_rfl) (by kernel_rfl) (by kernel_rfl) (fun _ _ _ h => h) (by kernel_rfl) ?_ (by assumption) ?_
          rotate_left
          · (intro w' hSw; (try dsimp only at hSw); go_simp; first | done | with_reducible rfl)
          simp only [Act.put, List.setIfInBounds_toArray, List.set_cons_zero, List.set_cons_succ]
          refine rg_run 7 rfl (by kernel_rfl) (by kernel_rfl) (fun K hK => ?_)
          go_simp
          refine (HLX.out _ ((H.out.below HBW.out).below (Below.refl _ _).drew)).mono ?_
          rintro e w5 ⟨rfl, hb5⟩
          have hbs : Below wr.heap.size wr w5 := below_chain (Below.refl _ _).drew hb5
          have B5 := Lib.hid (below_chain hb.out hbs)
          have HO5 := Lib.hid (own_below ho.out hbs)
          replace g0 := cell_later hbs (by exact g0)
          replace k0 := cell_later hbs (by exact k0)
          replace k1 := cell_later hbs (by exact k1)
          replace k2 := cell_later hbs (by exact k2)
          replace k3 := cell_later hbs (by exact k3)
          replace k4 := cell_later hbs (by exact k4)
          replace k5 := cell_later hbs (by exact k5)
          clear hb5 hbs hb ho HLX
          go_wp2
          clear hHeld
          refine hK.out _ _ (by exact ⟨g0, k0, k1, k2, k3, k4, k5⟩) (fun hHeld => ?_)
          clear hK K
          try simp only [Act.put, List.setIfInBounds_toArray, List.set_cons_zero, List.set_cons_succ]
          refine rg_take (v := ?_) 8 rfl (by kernel_rfl) (by kernel_rfl) (by kernel_rfl) (fun _ _ _ h => h) (by kernel_rfl) ?_ (by assumption) ?_
          rotate_left
          · (intro w' hSw; (try dsimp only at hSw); go_simp; first | done | with_reducible rfl)
          simp only [Act.put, List.setIfInBounds_toArray, List.set_cons_zero, List.set_cons_succ]
          refine wpAnyH_done (by kernel_rfl) ?_ _
          clear hHeld
          by_cases h0 : 0 < z
          · obtain rfl : y = true := by rw [HXV.out]; exact decide_eq_true h0
            go_wp2_with (first
              | (at_builtin
                 refine wpList_push_st _ rfl (.tmp 64) (.tmp 70) rfl w3.heap.size _ n _ x w5.heap.size 1 rfl (own_below HO5.out (below_alloc (Below.refl _ _) _)) rfl (by go_simp) (by omega) (below_alloc B5.out _).size ?_
                 intro v7 w7 hown hgrow
                 obtain ⟨A9, c9', rfl⟩ := own_shape hown
                 have HB7 := Lib.hid (below_of_grown (below_alloc B5.out _) hgrow (fun q hq => (HO5.out.lt q hq).1))
                 have HO7 := Lib.hid hown
                 clear hown hgrow)
              )
            go_roundw
            case rel => exact ⟨k + 1, n + 1, A9, c9', by omega, by omega, by go_num, rfl, Lib.hid (by rw [HFS.out, ← List.append_assoc, List.length_append, hln.out]; rfl), Lib.hid (by rw [HFS.out, ← List.append_assoc]; exact HO7.out), HB7⟩
            case measure => simp [intOf]; omega
          · obtain rfl : y = false := by rw [HXV.out]; exact decide_eq_false h0
            go_wp2_with (fail)
            go_roundw
            case rel => exact ⟨k + 1, n, A3, c9, by omega, by omega, by go_num, rfl, Lib.hid (by rw [HFS.out]; simpa using hln.out), Lib.hid (by rw [HFS.out]; simpa using HO5.out), B5⟩
            case measure => simp [intOf]; omega
        · obtain rfl : k = p.os.length := by omega
          rw [List.take_length] at hln ho
          clear k0 k1 k2 k4 k5
          go_wp2_with (fail)
          go_ret2
          exact retSC_of HLL.out rfl hln.out.symm (own_mono ho.out (Nat.le_trans B3.out.size (Nat.le_refl _))) HBW.out
end Go.Proofs.YteengjcplmjakaaGreatDoor

/- ReachedBy, the program's side. Condition: the lengths; the keywords lie there. -/
namespace Go.Proofs.YteengjcplmjakaaGreatDoor
open Go.RowKit

set_option maxHeartbeats 1000000 in
set_option maxRecDepth 100000 in
theorem c_delayCode0 (p : Prg) (a1 a2 a3 a4 : Option Addr) (c1 c2 c3 c4 : Nat) (inp : ByteArray) (w : World) (hs : PgOk p) (hz : PgZ a1 a2 a3 c1 c2 c3) (h : PgR w a1 a2 a3 a4 p) (hk : KwR w) :
    Calls Tryz.prog 77 #[pv p a1 a2 a3 a4 c1 c2 c3 c4, .string inp, .slice none 0 0] w fun e w' => e = .returned (.int .i64 (rbC p inp)) ∧ Below w.heap.size w w' := by
  have H := Lib.hid h
  have HK := Lib.hid hk
  have HSO := Lib.hid (fun w h hk => c_IsSound p a1 a2 a3 a4 c1 c2 c3 c4 w hs hz h hk)
  have HCI := Lib.hid (fun w h => c_ContainsS a1 c1 _ p.ins inp w rfl hs.i.1 h)
  have HCF := Lib.hid (fun (b : Nat) (w : World) (k3 : w.cell? ⟨b, 3, none⟩ = some (.slice a3 p.os.length c3)) (ho : Rd w a3 (sts p.os)) =>
    c_ContainsSc 124 (.pointer (some ⟨b, 0, none⟩)) (fun s => !memS p.os s) none 0 0 [] w rfl (by decide) (Rd.nil w none) (Lib.hid (fun wr s _ hb => c_dc1 b _ c3 a3 p.os s wr rfl hs.o.1 (cell_later hb k3) (ho.below hb))) (enter_of Tryz.func124 (by kernel_rfl) rfl))
  have HV : Hid (rbC p inp = if (wrB p && fltB p) then (if memS p.ins inp then 0 else 4) else 1) := Lib.hid rfl
  have hmf : ∀ (fn : Fn) (first cap : Array Value) (w : World), (Instr.makeFunc fn first cap).run Tryz.prog w = .ok (.func fn first cap) w := fun _ _ _ _ => rfl
  generalize rbC p inp = R at *
  generalize (wrB p && fltB p) = s at *
  generalize memS p.ins inp = u at *
  have B0 := Lib.hid (below_alloc (Below.refl w.heap.size w) (.cells #[.string p.nm, .slice a1 p.ins.length c1, .slice a2 p.vs.length c2, .slice a3 p.os.length c3, .string p.gd, .slice a4 p.ls.length c4] 27))
  have HP : Hid (PB (w.alloc (.cells #[.string p.nm, .slice a1 p.ins.length c1, .slice a2 p.vs.length c2, .slice a3 p.os.length c3, .string p.gd, .slice a4 p.ls.length c4] 27)) w.heap.size p a1 a2 a3 a4 c1 c2 c3 c4) := Lib.hid ⟨by go_simp, by go_simp, by go_simp, by go_simp, by go_simp, by go_simp⟩
  clear hs hz h hk
  go_enter Tryz.func77, Tryz.ntmps77
  dsimp only [pv]
  go_upto_region 1 with (fail)
  generalize w.alloc (.cells #[.string p.nm, .slice a1 p.ins.length c1, .slice a2 p.vs.length c2, .slice a3 p.os.length c3, .string p.gd, .slice a4 p.ls.length c4] 27) = W at *
  obtain ⟨k0, k1, k2, k3, k4, k5⟩ := HP.out
  go_wp2_with (fail)
  refine (HSO.out _ (H.out.below B0.out) (HK.out.below B0.out)).mono ?_
  rintro e w1 ⟨rfl, hb⟩
  have B1 := Lib.hid (below_chain B0.out hb)
  replace k0 := cell_later hb (by exact k0)
  replace k1 := cell_later hb (by exact k1)
  replace k2 := cell_later hb (by exact k2)
  replace k3 := cell_later hb (by exact k3)
  replace k4 := cell_later hb (by exact k4)
  replace k5 := cell_later hb (by exact k5)
  clear hb
  cases s
  · obtain rfl : R = 1 := HV.out
    go_wp2_with (fail)
    go_ret
    exact ⟨rfl, B1.out⟩
  go_wp2_with (fail)
  refine (HCI.out _ (H.out.i.below B1.out)).mono ?_
  rintro e w2 ⟨rfl, hb⟩
  have B2 := Lib.hid (below_chain B1.out hb)
  replace k0 := cell_later hb (by exact k0)
  replace k1 := cell_later hb (by exact k1)
  replace k2 := cell_later hb (by exact k2)
  replace k3 := cell_later hb (by exact k3)
  replace k4 := cell_later hb (by exact k4)
  replace k5 := cell_later hb (by exact k5)
  clear hb
  cases u
  · obtain rfl : R = 4 := HV.out
    go_wp2_with (fail)
    go_ret
    exact ⟨rfl, B2.out⟩
  go_wp2_with (fail)
  refine (HCF.out _ _ k3 (H.out.o.below B2.out)).mono ?_
  rintro e w3 ⟨rfl, hb⟩
  have B3 := Lib.hid (below_chain B2.out hb)
  clear hb k0 k1 k2 k3 k4 k5
  obtain rfl : R = 0 := HV.out
  go_wp2_with (fail)
  go_ret
  exact ⟨rfl, B3.out⟩
set_option maxHeartbeats 2000000 in
set_option maxRecDepth 100000 in
theorem c_ConcatO (g m c : Nat) (ds : List StD) (w : World) (hm : m = ds.length) (hm1 : m ≤ 100) (hg : ∀ (k : Nat) (d : StD), ds[k]? = some d → w.cell? ⟨g, k, none⟩ = some d.v) (hd : ∀ d ∈ ds, Rd w d.a (sts d.l) ∧ (d.a = none → d.c = 0)) (hN : (catS ds).length ≤ 4000000) :
    Calls Tryz.prog 80 #[.slice (some ⟨g, 0, none⟩) m c] w fun e w' => ∃ A cc, e = .returned (.slice A (catS ds).length cc) ∧ w'.ownsRow w.heap.size 9 1 (.slice A (catS ds).length cc) (catS ds).length (sts (catS ds)) ∧ Below w.heap.size w w' := by
  have HM := Lib.hid hm
  have HG := Lib.hid hg
  have HD := Lib.hid hd
  have HCL := Lib.hid (fun k => cat_le (ds := ds) k)
  have HCS := Lib.hid (fun (k : Nat) (d : StD) (h : ds[k]? = some d) => cat_snoc h)
  clear hm hg hd
  go_enter Tryz.func80, Tryz.ntmps80
  go_wp2_with (fail)
  go_loopw [3, 5, 11] (fun u _ i wr => ∃ k : Nat, k ≤ m ∧ i = .int .i64 k ∧ u = .int .i64 ((catS (ds.take k)).length : Int) ∧ Hid (Below w.heap.size w wr)) (fun _ _ i _ => m - (intOf i).toNat)
  case atStart => exact ⟨0, Nat.zero_le _, rfl, rfl, Lib.hid (by (repeat (first | exact Below.refl _ _ | assumption | refine below_alloc ?_ _ | refine below_drewN ?_ _ | refine below_set ?_ _ (by simp; try omega) | refine Below.drew ?_)))⟩
  case round =>
    obtain ⟨k, hk, rfl, rfl, hb⟩ := hrel
    by_cases hlt : k < m
    · obtain ⟨d, hz⟩ : ∃ z, ds[k]? = some z := ⟨_, List.getElem?_eq_getElem (by have := HM.out; omega)⟩
      have g0 := cell_later hb.out (HG.out k d hz)
      have hcs := HCS.out k d hz
      have hcl := HCL.out k
      have hcl1 := HCL.out (k + 1)
      have hsum : ((catS (ds.take (k + 1))).length : Int) = (catS (ds.take k)).length + d.l.length := by rw [hcs, List.length_append]; omega
      have hk0 : (0 : Int) ≤ (k : Int) := by omega
      have hk1 : (k : Int) < m := by omega
      have hw1 : IntKind.i64.wrap (((catS (ds.take k)).length : Int) + d.l.length) = (catS (ds.take k)).length + d.l.length := IntWalk.i64_in _ (by omega)
      have hnn : ¬ (((catS (ds.take k)).length : Int) + d.l.length < 0) := by omega
      have HSUM := Lib.hid hsum
      unfold StD.v at g0
      clear hz hcs hcl hcl1 hsum
      generalize (catS (ds.take k)).length = sn at *
      generalize d.l.length = dn at *
      go_wp2_with (fail)
      go_roundw
      case rel => exact ⟨k + 1, by omega, by go_num, by rw [HSUM.out], hb⟩
      case measure => simp [intOf]; omega
    · obtain rfl : k = m := by omega
      have htk : ds.take k = ds := List.take_of_length_le (by have := HM.out; omega)
      rw [htk]
      have HGR := Lib.hid (fun w => c_Grow0 (catS ds).length w hN)
      have HTK := Lib.hid htk
      clear htk
      generalize hcn : (catS ds).length = cn at *
      have HCN := Lib.hid hcn
      clear hcn
      go_wp2_with (fail)
      refine (HGR.out _).mono ?_
      rintro e w2 ⟨v, rfl, ho, hb2⟩
      have HB2 := Lib.hid (below_chain hb.out hb2)
      have HO2 := Lib.hid (own_mono ho (base' := w.heap.size) hb.out.size)
      clear ho hb2
      go_wp2_with (fail)
      go_loopw [6, 8, 27] (fun u _ i wq => ∃ k2 : Nat, k2 ≤ k ∧ i = .int .i64 k2 ∧ Hid (wq.ownsRow w.heap.size 9 1 u (catS (ds.take k2)).length (sts (catS (ds.take k2)))) ∧ Hid (Below w.heap.size w wq)) (fun _ _ i _ => k - (intOf i).toNat)
      case atStart => exact ⟨0, Nat.zero_le _, rfl, Lib.hid (by simpa [catS, sts] using HO2.out), HB2⟩
      case round =>
        obtain ⟨k2, hk2, rfl, ho, hb2⟩ := hrel
        by_cases hlt2 : k2 < k
        · obtain ⟨d, hz⟩ : ∃ z, ds[k2]? = some z := ⟨_, List.getElem?_eq_getElem (by have := HM.out; omega)⟩
          have g0 := cell_later hb2.out (HG.out k2 d hz)
          have hdd := HD.out d (List.mem_of_getElem? hz)
          have HRD := Lib.hid (hdd.1.below hb2.out)
          have HZ := Lib.hid hdd.2
          have hcl1 := HCL.out (k2 + 1)
          have HCC := Lib.hid (HCS.out k2 d hz)
          have hln : (catS (ds.take (k2 + 1))).length = (catS (ds.take k2)).length + d.l.length := by rw [HCC.out, List.length_append]
          have hbd : (catS (ds.take k2)).length + d.l.length ≤ 4000000 := by omega
          have HLN := Lib.hid hln
          have hk20 : (0 : Int) ≤ (k2 : Int) := by omega
          have hk21 : (k2 : Int) < k := by omega
          unfold StD.v at g0
          clear hz hdd hcl1 hln
          go_wp2_with (first
            | (at_builtin
               refine app_strs _ rfl (.tmp 31) (.tmp 32) rfl w.heap.size _ _ (catS (ds.take k2)) rfl ho.out d.a _ d.c d.l rfl rfl HRD.out HZ.out hbd hb2.out.size ?_
               intro v7 w7 hown hgrow
               have HB7 := Lib.hid (below_of_grown hb2.out hgrow (fun q hq => (ho.out.lt q hq).1))
               have HO7 := Lib.hid hown
               clear hown hgrow)
            )
          go_roundw
          case rel => exact ⟨k2 + 1, by omega, by go_num, Lib.hid (by rw [HCC.out, List.length_append]; exact HO7.out), HB7⟩
          case measure => simp [intOf]; omega
        · obtain rfl : k2 = k := by omega
          have HO := Lib.hid ho.out
          rw [HTK.out, HCN.out] at HO
          obtain ⟨A9, c9, rfl⟩ := own_shape HO.out
          go_wp2_with (fail)
          go_ret
          exact ⟨A9, c9, by rw [HCN.out]; rfl, by rw [HCN.out]; exact HO.out, hb2.out⟩
theorem scnG_nn (p : Prg) (inp : ByteArray) (k : Nat) : 0 ≤ (scnV p inp).getD k 0 := by
  rw [List.getD_eq_getElem?_getD]
  cases h : (scnV p inp)[k]? with
  | none => exact Int.le_refl _
  | some z => exact (scn_snd p inp _ k z h).1
theorem gd_nn (p : Prg) (inp : ByteArray) : 0 ≤ gdV p inp := by
  unfold gdV
  repeat' split
  all_goals first | omega | exact scnG_nn p inp _
theorem dly_nn (p : Prg) (inp s : ByteArray) : 0 ≤ dlyV p inp s := by
  unfold dlyV
  split
  · exact gd_nn p inp
  · exact scnG_nn p inp _
theorem some0_get (n : Int) : (some0 n).getD 0 = n := by
  unfold some0
  split
  · rename_i h; rw [h]; rfl
  · rfl
theorem zr_is {l : List En} {s : ByteArray} {n : Int} (h : getE l s = some0 n) (hn : 0 ≤ n) : (!zrB l s) = decide (0 < n) := by
  unfold zrB
  rw [h, some0_get]
  by_cases h0 : n = 0
  · subst h0; rfl
  · rw [decide_eq_false h0, decide_eq_true (by omega)]; rfl
theorem rb_filter {p : Prg} {inp : ByteArray} {f : ByteArray → Option Int} {l : List En} (hn : Nmd p) (hi : inp ∈ p.ins) (hf : Fix p inp f) (hg : ∀ s, getE l s = if s = inp then none else fG p f s) : (p.vs ++ p.os).filter (fun s => !zrB l s) = p.vs.filter (rbV p inp) ++ p.os.filter (rbO p inp) := by
  rw [List.filter_append]
  congr 1
  · refine List.filter_congr fun s hs => ?_
    refine zr_is ?_ (scnG_nn p inp _)
    rw [hg, if_neg (fun e : s = inp => hn.in_v hi (.inl (e ▸ hs)))]
    exact var_is hn hi hf hs
  · refine List.filter_congr fun s hs => ?_
    refine zr_is ?_ (dly_nn p inp s)
    rw [hg, if_neg (fun e : s = inp => hn.in_v hi (.inr (e ▸ hs)))]
    exact out_is hn hi hf hs
theorem rbc_ok {p : Prg} {inp : ByteArray} (h : rbC p inp = 0) : PgB p ∧ Nmd p ∧ inp ∈ p.ins := by
  unfold rbC at h
  by_cases h1 : (wrB p && fltB p) = true
  · rw [if_pos h1] at h
    by_cases h2 : memS p.ins inp = true
    · exact ⟨(snd_of h1).b, nmd_of h1, memS_iff.1 h2⟩
    · rw [if_neg h2] at h; cases h
  · rw [if_neg h1] at h; cases h
set_option maxHeartbeats 1000000 in
set_option maxRecDepth 100000 in
theorem c_Reached (p : Prg) (a1 a2 a3 a4 : Option Addr) (c1 c2 c3 c4 : Nat) (inp : ByteArray) (w : World) (hs : PgOk p) (hz : PgZ a1 a2 a3 c1 c2 c3) (h : PgR w a1 a2 a3 a4 p) (hk : KwR w) :
    Calls Tryz.prog 34 #[pv p a1 a2 a3 a4 c1 c2 c3 c4, .string inp] w (RetSC (rbL p inp) (rbC p inp) w) := by
  have H := Lib.hid h
  have HK := Lib.hid hk
  have HDC := Lib.hid (fun w h hk => c_delayCode0 p a1 a2 a3 a4 c1 c2 c3 c4 inp w hs hz h hk)
  have HDM := Lib.hid (fun w hbd hn hi h => c_delays p a1 a2 a3 a4 c1 c2 c3 c4 inp w hs hbd hn hi h)
  have HCC := Lib.hid (fun g w hg hd hl => c_ConcatO g 2 2 [⟨p.vs, a2, c2⟩, ⟨p.os, a3, c3⟩] w rfl (by decide) hg hd hl)
  have hcat : catS [⟨p.vs, a2, c2⟩, ⟨p.os, a3, c3⟩] = p.vs ++ p.os := by simp [catS]
  rw [hcat] at HCC
  have HZS : Hid (∀ s ∈ p.vs ++ p.os, s.size ≤ maxLen) := Lib.hid (fun s h => by
    rcases List.mem_append.1 h with h | h
    · exact Nat.le_trans (hs.v.2 s h) (by decide)
    · exact Nat.le_trans (hs.o.2 s h) (by decide))
  have HPZ := Lib.hid hz
  have HEQ := Lib.hid (rbc_ok (p := p) (inp := inp))
  have HR : Hid (rbL p inp = if rbC p inp = 0 then p.vs.filter (rbV p inp) ++ p.os.filter (rbO p inp) else []) := Lib.hid rfl
  generalize rbL p inp = L at *
  generalize rbC p inp = R at *
  have B0 := Lib.hid (below_alloc (Below.refl w.heap.size w) (.cells #[.string p.nm, .slice a1 p.ins.length c1, .slice a2 p.vs.length c2, .slice a3 p.os.length c3, .string p.gd, .slice a4 p.ls.length c4] 27))
  have HP : Hid (PB (w.alloc (.cells #[.string p.nm, .slice a1 p.ins.length c1, .slice a2 p.vs.length c2, .slice a3 p.os.length c3, .string p.gd, .slice a4 p.ls.length c4] 27)) w.heap.size p a1 a2 a3 a4 c1 c2 c3 c4) := Lib.hid ⟨by go_simp, by go_simp, by go_simp, by go_simp, by go_simp, by go_simp⟩
  have hmf : ∀ (fn : Fn) (first cap : Array Value) (w : World), (Instr.makeFunc fn first cap).run Tryz.prog w = .ok (.func fn first cap) w := fun _ _ _ _ => rfl
  clear hs hz h hk hcat
  dsimp only [pv] at *
  go_enter Tryz.func34, Tryz.ntmps34
  go_upto_region 1 with (fail)
  generalize w.alloc (.cells #[.string p.nm, .slice a1 p.ins.length c1, .slice a2 p.vs.length c2, .slice a3 p.os.length c3, .string p.gd, .slice a4 p.ls.length c4] 27) = W at *
  obtain ⟨k0, k1, k2, k3, k4, k5⟩ := HP.out
  go_wp2_with (fail)
  refine (HDC.out _ (H.out.below B0.out) (HK.out.below B0.out)).mono ?_
  rintro e w1 ⟨rfl, hb⟩
  have B1 := Lib.hid (below_chain B0.out hb)
  replace k0 := cell_later hb (by exact k0)
  replace k1 := cell_later hb (by exact k1)
  replace k2 := cell_later hb (by exact k2)
  replace k3 := cell_later hb (by exact k3)
  replace k4 := cell_later hb (by exact k4)
  replace k5 := cell_later hb (by exact k5)
  clear hb
  by_cases hr : R = 0
  rotate_left
  · have HLL : Hid (L = []) := Lib.hid (by rw [HR.out]; exact if_neg hr)
    have er : (R != 0) = true := by simpa using hr
    clear HR HEQ hr k0 k1 k2 k3 k4 k5
    go_wp2_with (fail)
    go_ret2
    rw [HLL.out]
    exact retSC_nil B1.out
  · obtain ⟨h1, h2, h3⟩ := HEQ.out hr
    have HLL : Hid (L = p.vs.filter (rbV p inp) ++ p.os.filter (rbO p inp)) := Lib.hid (by rw [HR.out]; exact if_pos hr)
    have bv := h1.v
    have bo := h1.o
    have HB := Lib.hid h1
    have HN := Lib.hid h2
    have HI := Lib.hid h3
    clear h1 h2 h3 HEQ HR
    subst hr
    go_wp2_with (fail)
    refine (HDM.out _ HB.out HN.out HI.out (H.out.below B1.out)).mono ?_
    rintro e w2 ⟨bm, l, c, f, rfl, hm, hb, hf, hg, hbm⟩
    have B2 := Lib.hid (below_chain B1.out hb)
    have HFI := Lib.hid (rb_filter HN.out HI.out hf hg)
    have HM := Lib.hid hm
    replace k0 := cell_later hb (by exact k0)
    replace k1 := cell_later hb (by exact k1)
    replace k2 := cell_later hb (by exact k2)
    replace k3 := cell_later hb (by exact k3)
    replace k4 := cell_later hb (by exact k4)
    replace k5 := cell_later hb (by exact k5)
    clear hb hf hg hbm hm HDM
    have hbw := World.block_lt_of_cell? _ _ k0
    have hbm := HM.out.lt
    dsimp only at hbw
    have ha := below_alloc (Below.refl w2.heap.size w2) (.cells #[.map (some bm)] 114)
    have B3 := Lib.hid (below_chain B2.out ha)
    have M3 := Lib.hid (HM.out.below ha)
    have kf : (w2.alloc (.cells #[.map (some bm)] 114)).cell? ⟨w2.heap.size, 0, none⟩ = some (.map (some bm)) := by go_simp
    have HKF := Lib.hid kf
    have HS3 : Hid ((w2.alloc (.cells #[.map (some bm)] 114)).heap.size = w2.heap.size + 1) := Lib.hid (by simp)
    have K2 := Lib.hid (cell_later ha k2)
    have K3 := Lib.hid (cell_later ha k3)
    clear ha k0 k1 k2 k3 k4 k5 kf HM
    go_upto_region 5 with (fail)
    generalize w2.alloc (.cells #[.map (some bm)] 114) = w3 at *
    have k2 := K2.out
    have k3 := K3.out
    have hba := below_alloc (Below.refl w3.heap.size w3) (.cells #[.slice a2 p.vs.length c2, .slice a3 p.os.length c3] 24)
    have B4 := Lib.hid (below_chain B3.out hba)
    have HCD := Lib.hid (HCC.out w3.heap.size (w3.alloc (.cells #[.slice a2 p.vs.length c2, .slice a3 p.os.length c3] 24)) (fun k d hd => by
      match k, hd with
      | 0, hd => simp only [List.getElem?_cons_zero, Option.some.injEq] at hd; subst hd; go_simp; first | done | rfl
      | 1, hd => simp only [List.getElem?_cons_succ, List.getElem?_cons_zero, Option.some.injEq] at hd; subst hd; go_simp; first | done | rfl
      | k + 2, hd => simp at hd) (fun d hd => by
      simp only [List.mem_cons, List.not_mem_nil, or_false] at hd
      rcases hd with rfl | rfl
      · exact ⟨H.out.v.below B4.out, HPZ.out.2.1⟩
      · exact ⟨H.out.o.below B4.out, HPZ.out.2.2⟩) (by rw [List.length_append]; omega))
    have M4 := Lib.hid (M3.out.below hba)
    have KF4 := Lib.hid (cell_later hba HKF.out)
    clear hba HCC M3 HKF
    have hlen : Hid ((p.vs ++ p.os).length ≤ 40) := Lib.hid (by rw [List.length_append]; omega)
    have HB4 : Hid (w2.heap.size < (w3.alloc (.cells #[.slice a2 p.vs.length c2, .slice a3 p.os.length c3] 24)).heap.size) := Lib.hid (by have := HS3.out; simp; omega)
    go_wp2_with (fail)
    refine HCD.out.mono ?_
    rintro e w5 ⟨A7, C7, rfl, ho7, hb⟩
    have B5 := Lib.hid (below_chain B4.out hb)
    have M5 := Lib.hid (M4.out.below hb)
    have KF5 := Lib.hid (cell_later hb KF4.out)
    have HO7 := Lib.hid ho7
    have HBB := Lib.hid B4.out.size
    clear hb ho7 HCD M4 KF4 k2 k3 K2 K3
    generalize (w3.alloc (.cells #[.slice a2 p.vs.length c2, .slice a3 p.os.length c3] 24)).heap.size = base at *
    have HDF := Lib.hid (c_DeleteFunc w2.heap.size bm l c A7 (p.vs ++ p.os).length C7 (p.vs ++ p.os) base w5 (by have := hlen.out; omega) rfl HZS.out KF5.out M5.out HB4.out (by have := HB4.out; omega) HO7.out)
    clear M5 KF5
    generalize (p.vs ++ p.os).length = pl at *
    go_wp2_with (fail)
    refine HDF.out.mono ?_
    rintro e w6 ⟨n, hn, rfl, ho, hg⟩
    have B6 := Lib.hid (below_of_grown B5.out hg (fun q hq => Nat.le_trans HBB.out ((HO7.out.lt q hq).1)))
    have HO6 := Lib.hid (own_mono ho HBB.out)
    have HN6 := Lib.hid hn
    clear ho hg hn HDF
    go_wp2_with (fail)
    go_ret2
    exact retSC_of (HLL.out.trans HFI.out.symm) rfl HN6.out HO6.out B6.out
end Go.Proofs.YteengjcplmjakaaGreatDoor

/- Marks of a program and of a memory: what they touch (printed by PMk.py). No condition but the sizes. -/
namespace Go.Proofs.YteengjcplmjakaaGreatDoor
open Go.RowKit

theorem own_zero {w : World} {base : Nat} {e : TypeId} {size c : Nat} {A : Option Addr} {xs : List Value} (h : w.ownsRow base e size (.slice A 0 c) 0 xs) : xs = [] := List.eq_nil_of_length_eq_zero (by simpa using h.1)
def markL (k : Int) (n : Nat) : List Int := (List.range n).map fun (i : Nat) => k + (i : Int)
theorem markL_length (k : Int) (n : Nat) : (markL k n).length = n := by simp [markL]
theorem markL_get {k : Int} {n j : Nat} (h : j < n) : (markL k n)[j]? = some (k + j) := by simp [markL, h]
theorem cell_mark {w w' : World} {row : Option Nat} {a : Addr} {v : Value} (h : w.cell? a = some v) (hg : w.grownBy w' row) (hne : ∀ q, row = some q → q ≠ a.block) : w'.cell? a = some v :=
  (hg.cell_far a (World.block_lt_of_cell? w a h) (fun h' => hne _ h'.symm rfl)).trans h
theorem Mk.of_grown {w w' : World} {A : Option Addr} {n c base : Nat} {e : TypeId} {size : Nat} {xs : List Value} (hg : w.grownBy w' (Value.slice A n c).ownBlock) (ho : w.ownsRow base e size (.slice A n c) n xs) (ho' : ∃ ys, w'.ownsRow base e size (.slice A n c) n ys) : Mk base w.heap.size w w' := by
  refine ⟨hg.os, hg.tape, hg.output, hg.size, fun k hk h => hg.block k hk fun h2 => ?_, fun k cur e2 fz hc => ?_⟩
  · have := ho.lt k h2.symm
    omega
  · by_cases hk : (Value.slice A n c).ownBlock = some k
    · rcases ho.2 with ⟨hv, _⟩ | ⟨g, cap, cur1, hv, _, hg1, _, _, hs1, _⟩
      · rw [hv] at hk; cases hk
      · obtain ⟨ys, ho2⟩ := ho'
        rcases ho2.2 with ⟨hv2, _⟩ | ⟨g2, cap2, cur2, hv2, _, hg2, _, _, hs2, _⟩
        · rw [hv2] at hk; cases hk
        · rw [hv] at hk hv2
          simp only [Value.slice.injEq, Option.some.injEq, Addr.mk.injEq, and_true, true_and] at hv2
          obtain ⟨rfl, rfl⟩ := hv2
          simp only [Value.ownBlock, Option.some.injEq] at hk
          subst hk
          rw [hg1] at hc
          simp only [Option.some.injEq, Obj.cells.injEq] at hc
          obtain ⟨rfl, rfl, rfl⟩ := hc
          exact ⟨cur2, hg2, hs2.trans hs1.symm⟩
    · exact ⟨cur, by rw [hg.block k (Array.getElem?_eq_some_iff.1 hc).1 (fun h => hk h.symm)]; exact hc, rfl⟩
/-- Only rows of the type T are touched. -/
def Typ (T : TypeId) (w w' : World) : Prop := ∀ (k : Nat) (cur : Array Value) (e : TypeId) (fz : Nat × Nat), w.heap[k]? = some (Obj.cells cur e fz) → e ≠ T → w'.heap[k]? = w.heap[k]?
theorem Typ.refl (T : TypeId) (w : World) : Typ T w w := fun _ _ _ _ _ _ => rfl
theorem Typ.trans {T : TypeId} {a b c : World} (h1 : Typ T a b) (h2 : Typ T b c) : Typ T a c := fun k cur e fz h hne => by
  have e1 := h1 k cur e fz h hne
  exact (h2 k cur e fz (e1.trans h) hne).trans e1
theorem Typ.set {T : TypeId} {a b : World} (h : Typ T a b) {g off n : Nat} {cur : Array Value} (hg : b.heap[g]? = some (Obj.cells cur T (0, 0))) (v : Value) (_hn : off = n) : Typ T a (b.setCell ⟨g, off, none⟩ v) := by
  refine h.trans fun k cur2 e fz hc hne => ?_
  unfold World.setCell
  simp only
  rw [Array.getElem?_modify, if_neg]
  intro hk
  subst hk
  rw [hg] at hc
  simp only [Option.some.injEq, Obj.cells.injEq] at hc
  exact hne hc.2.1.symm
theorem Typ.of_below {T : TypeId} {a b : World} (h : Below a.heap.size a b) : Typ T a b := fun k _ _ _ hc _ => h.block k (Array.getElem?_eq_some_iff.1 hc).1
/-- A mark's end: the count goes on, only the blocks from lo up to hi are touched, and of these only the rows of one type. -/
def RetMk (T : TypeId) (lo hi : Nat) (bd : Nat) (w : World) (e : Ending) (w' : World) : Prop := ∃ kk : Nat, kk ≤ bd ∧ e = .returned (.int .i64 kk) ∧ Mk lo hi w w' ∧ Typ T w w'
/-- A row of the call's own, below hi. -/
def OwnL (w : World) (lo hi : Nat) (e : TypeId) (size : Nat) (v : Value) (n : Nat) : Prop := OwnX w lo e size v n ∧ ∀ q, v.ownBlock = some q → q < hi
theorem OwnL.mk {lo hi lo2 hi2 : Nat} {a b : World} {e : TypeId} {size n : Nat} {v : Value} (ho : OwnL a lo2 hi2 e size v n) (h : Mk lo hi a b) : OwnL b lo2 hi2 e size v n := ⟨ho.1.mk h, ho.2⟩
theorem OwnL.blk {w : World} {lo hi : Nat} {e : TypeId} {size n c : Nat} {A : Option Addr} (h : OwnL w lo hi e size (.slice A n c) n) (hn : 0 < n) : ∃ g, A = some ⟨g, 0, none⟩ ∧ lo ≤ g ∧ g < hi ∧ (∃ cur : Array Value, w.heap[g]? = some (Obj.cells cur e (0, 0))) ∧ ∀ j, j < n * size → (∃ u, w.cell? ⟨g, j, none⟩ = some u) ∧ w.frozen? ⟨g, j, none⟩ = false := by
  obtain ⟨⟨xs, ho⟩, hq⟩ := h
  rcases ho.2 with ⟨hv, h0⟩ | ⟨g, cap, cur, hv, hg, hgg, _⟩
  · omega
  · simp only [Value.slice.injEq, true_and] at hv
    obtain ⟨rfl, rfl⟩ := hv
    exact ⟨g, rfl, (ho.lt g rfl).1, hq g rfl, ⟨cur, hgg⟩, fun j hj => ⟨own_cell ho hj, ho.frozenAt j⟩⟩
theorem heap_set {w : World} {g off : Nat} {cur : Array Value} {e : TypeId} (h : w.heap[g]? = some (Obj.cells cur e (0, 0))) (v : Value) : ∃ cur' : Array Value, (w.setCell ⟨g, off, none⟩ v).heap[g]? = some (Obj.cells cur' e (0, 0)) := by
  unfold World.setCell
  simp only
  rw [Array.getElem?_modify, if_pos rfl, h]
  exact ⟨_, rfl⟩
/-- What markText hands back. -/
def RetTx (w : World) (e : Ending) (w' : World) : Prop := ∃ s : ByteArray, e = .returned (.string s) ∧ Below w.heap.size w w'
theorem OwnL.of_own {w : World} {lo : Nat} {e : TypeId} {size n : Nat} {v : Value} {xs : List Value} (h : w.ownsRow lo e size v n xs) : OwnL w lo w.heap.size e size v n := ⟨⟨xs, h⟩, fun q hq => (h.lt q hq).2⟩
theorem OwnL.below {w w' : World} {lo hi : Nat} {e : TypeId} {size n : Nat} {v : Value} (h : OwnL w lo hi e size v n) (hb : Below w.heap.size w w') : OwnL w' lo hi e size v n := by
  obtain ⟨⟨xs, ho⟩, hq⟩ := h
  exact ⟨⟨xs, own_below ho hb⟩, hq⟩
/-- The end of a mark that touches rows of several types. -/
def RetMo (lo hi : Nat) (bd : Nat) (w : World) (e : Ending) (w' : World) : Prop := ∃ kk : Nat, kk ≤ bd ∧ e = .returned (.int .i64 kk) ∧ Mk lo hi w w'
end Go.Proofs.YteengjcplmjakaaGreatDoor
