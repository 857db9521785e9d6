/- Contracts and helpers (joined texts, part 1). The conditions stand at each theorem. -/
import Derived.Test.YtackekfjalaacaaGreatDoorH0
/- The reference's l19Scans (printed by DlT.py). Condition: the lengths. -/
namespace Go.Proofs.YtackekfjalaacaaGreatDoor
open Go.RowKit

/-- What is handed back: a list of the call's own. -/
def RetZs (zs : List Int) (w : World) (e : Ending) (w' : World) : Prop := ∃ g, e = .returned (.slice (some ⟨g, 0, none⟩) zs.length zs.length) ∧ w'.ownsRow w.heap.size 2 1 (.slice (some ⟨g, 0, none⟩) zs.length zs.length) zs.length (ints zs) ∧ Below w.heap.size w w'
theorem retZs_of {zs zs' : List Int} {g n : Nat} {w w' : World} (h : zs = zs') (hn : n = zs'.length) (ho : w'.ownsRow w.heap.size 2 1 (.slice (some ⟨g, 0, none⟩) n n) n (ints zs')) (hb : Below w.heap.size w w') : RetZs zs w (.returned (.slice (some ⟨g, 0, none⟩) n n)) w' := by
  subst h; subst hn; exact ⟨g, rfl, ho, hb⟩
theorem bst_step {p : Prg} {inp : ByteArray} {S : List Int} {i k : Nat} {l m : Lin} {z : Int} (hm : p.ls[k]? = some m) (hz : S[k]? = some z) : bstK p inp S i l (k + 1) = bstS z (decide (0 ≤ ixS p.vs m.tg) && usB m.tg l) (wI i k) (bstK p inp S i l k) := by
  show bstS (S.getD k 0) (decide (0 ≤ ixS p.vs ((p.ls.map Lin.tg).getD k ⟨#[]⟩)) && usB ((p.ls.map Lin.tg).getD k ⟨#[]⟩) l) (wI i k) (bstK p inp S i l k) = _
  rw [tg_get hm, List.getD_eq_getElem?_getD, hz]
  rfl
theorem ints_at' {l : List Int} {k : Nat} {z : Int} (h : l[k]? = some z) : (ints l)[k]? = some (.int .i64 z) := by simp [ints, h]
theorem ints_set (l : List Int) (k : Nat) (z : Int) : (ints l).set k (.int .i64 z) = ints (l.set k z) := by simp [ints, List.map_set]
set_option maxHeartbeats 4000000 in
set_option maxRecDepth 100000 in
theorem c_l19Scans (p : Prg) (a1 a2 a3 a4 : Option Addr) (c1 c2 c3 c4 : Nat) (inp : ByteArray) (w : World) (hs : PgOk p) (hbd : PgB p) (h : PgR w a1 a2 a3 a4 p) :
    Calls Tryz.prog 28 #[pv p a1 a2 a3 a4 c1 c2 c3 c4, .string inp] w (RetZs (scnV p inp) w) := by
  obtain ⟨i0, hi, hz0, hz1, hz2⟩ := info_parts info_int64
  have H := Lib.hid h
  have HI := Lib.hid (fun s w h => c_l14Index a2 c2 _ p.vs s w rfl hs.v.1 h)
  have HU := Lib.hid (fun tg ts A c s w (hl : ts.length ≤ 40) h => c_l14Uses tg ts A c ts.length s w rfl (by omega) h)
  have HTS := Lib.hid hbd.t
  have bl := hbd.l
  have B0 := Lib.hid (below_alloc (Below.refl w.heap.size w) (.cells #[.string p.nm, .slice a1 p.ins.length c1, .slice a2 p.vs.length c2, .slice a3 p.os.length c3, .string p.gd, .slice a4 p.ls.length c4] 31))
  have HP : Hid (PB (w.alloc (.cells #[.string p.nm, .slice a1 p.ins.length c1, .slice a2 p.vs.length c2, .slice a3 p.os.length c3, .string p.gd, .slice a4 p.ls.length c4] 31)) w.heap.size p a1 a2 a3 a4 c1 c2 c3 c4) := Lib.hid ⟨by go_simp, by go_simp, by go_simp, by go_simp, by go_simp, by go_simp⟩
  have HV : Hid (scnV p inp = scnR p inp (p.ls.length + 1)) := Lib.hid rfl
  generalize scnV p inp = RV at *
  clear hs hbd h
  go_enter Tryz.func28, Tryz.ntmps28
  dsimp only [pv]
  go_upto_region 1 with (fail)
  generalize w.alloc (.cells #[.string p.nm, .slice a1 p.ins.length c1, .slice a2 p.vs.length c2, .slice a3 p.os.length c3, .string p.gd, .slice a4 p.ls.length c4] 31) = W at *
  obtain ⟨k0, k1, k2, k3, k4, k5⟩ := HP.out
  go_wp2_with (first
    | (at_make
       refine wpList_make_full _ rfl (.tmp 13) (.tmp 13) _ rfl W.heap.size 2 i0 _ 1 Tryz.underlying58 hi hz0 hz1 .i64 .i64 _ _ p.ls.length rfl rfl rfl rfl (by rw [hz2]; omega) (by unfold maxLen; omega) (Nat.le_refl _) ?_
       intro w1 hown hgrow)
    )
  have hb1 : Below W.heap.size W w1 := below_of_grown (Below.refl _ _) hgrow (by simp)
  rw [made_intQ] at hown
  have HO0 := Lib.hid hown
  have HB1 := Lib.hid hb1
  clear hown hgrow hb1 k0 k1 k2 k3 k4 k5 hi hz0 hz1 hz2
  go_loopw [6, 7, 8, 9, 10] (fun rd _ _ _ _ wr => ∃ r : Nat, r ≤ p.ls.length + 1 ∧ rd = .int .i64 r ∧ Hid (wr.ownsRow W.heap.size 2 1 (.slice (some ⟨W.heap.size, 0, none⟩) p.ls.length p.ls.length) p.ls.length (ints (scnR p inp r))) ∧ Hid (Below W.heap.size W wr)) (fun rd _ _ _ _ _ => p.ls.length + 1 - (intOf rd).toNat)
  case atStart => exact ⟨0, Nat.zero_le _, rfl, HO0, HB1⟩
  case round =>
    obtain ⟨r, hr, rfl, ho, hb⟩ := hrel
    clear HO0 HB1
    obtain ⟨k0, k1, k2, k3, k4, k5⟩ := HP.out.below hb.out
    by_cases hlr : r ≤ p.ls.length
    · have hr0 : (0 : Int) ≤ (r : Int) := by omega
      have hr1 : (r : Int) ≤ p.ls.length := by omega
      have HRS : Hid (scnR p inp (r + 1) = rowK p inp (scnR p inp r) p.ls.length) := Lib.hid rfl
      have hrl := scnR_len p inp r
      have HRB := Lib.hid (scn_le p inp r)
      have HRN := Lib.hid (scn_snd p inp r)
      have hM0 : (0 : Int) ≤ (r : Int) * p.ls.length := Int.mul_nonneg (by omega) (by omega)
      have hM1 : (r : Int) * p.ls.length ≤ 41 * 40 := Int.mul_le_mul (by omega) (by omega) (by omega) (by omega)
      generalize scnR p inp r = R1 at *
      generalize (r : Int) * p.ls.length = M at *
      go_wp2_with (fail)
      clear k0 k1 k2 k3 k4 k5
      go_loopw [7, 8, 9, 10] (fun ii _ _ _ wi => ∃ i : Nat, i ≤ p.ls.length ∧ ii = .int .i64 i ∧ Hid (wi.ownsRow W.heap.size 2 1 (.slice (some ⟨W.heap.size, 0, none⟩) p.ls.length p.ls.length) p.ls.length (ints (rowK p inp R1 i))) ∧ Hid (Below W.heap.size W wi)) (fun ii _ _ _ _ => p.ls.length - (intOf ii).toNat)
      case atStart => exact ⟨0, Nat.zero_le _, rfl, ho, hb⟩
      case round =>
        obtain ⟨i, hi, rfl, ho, hb⟩ := hrel
        obtain ⟨k0, k1, k2, k3, k4, k5⟩ := HP.out.below hb.out
        by_cases hli : i < p.ls.length
        · obtain ⟨⟨tg, ts⟩, hz⟩ : ∃ z, p.ls[i]? = some z := ⟨_, List.getElem?_eq_getElem hli⟩
          have htl := HTS.out _ (List.mem_of_getElem? hz)
          dsimp only at htl
          obtain ⟨b, off, la, lc, rfl, hblt, g0w, g1w, hrow⟩ := H.out.l.at hz
          dsimp only at g0w g1w hrow
          have GW := Lib.hid g1w
          have HROW := Lib.hid hrow
          have g1 := cell_later (below_chain B0.out hb.out) g1w
          have HRK := Lib.hid (rowK_succ (inp := inp) (S := R1) hz)
          have HSN := Lib.hid (row_snd HRN.out i (by omega))
          have HRL := Lib.hid (row_le (p := p) (inp := inp) hM0 HRB.out i)
          have hrkl := rowK_len p inp R1 i
          have HBS := Lib.hid (fun (S : List Int) => show bstK p inp S i ⟨tg, ts⟩ 0 = if usB inp ⟨tg, ts⟩ then 1 else 0 from rfl)
          have hi0 : (0 : Int) ≤ (i : Int) := by omega
          have hi1 : (i : Int) < p.ls.length := by omega
          have HZ := Lib.hid hz
          clear hz g0w g1w hrow hblt
          generalize rowK p inp R1 i = S at *
          go_wp2_with (fail)
          refine (HU.out tg ts la lc inp _ htl (HROW.out.below (below_chain B0.out hb.out))).mono ?_
          rintro e wu ⟨rfl, hbu⟩
          have HBU := Lib.hid (below_chain hb.out hbu)
          have HOU := Lib.hid (own_below ho.out hbu)
          have HBS0 := Lib.hid (HBS.out S)
          clear hbu
          generalize usB inp ⟨tg, ts⟩ = u at *
          go_upto_if 36 with (fail)
          go_cut [8] from 22 to 97 (fun v wx => v = .int .i64 (bstK p inp S i ⟨tg, ts⟩ 0) ∧ wx = wu)
          case first =>
            cases u
            · have HB0 : Hid (bstK p inp S i ⟨tg, ts⟩ 0 = 0) := Lib.hid HBS0.out
              go_wp2_with (fail)
              go_meet
              case rel => exact ⟨by rw [HB0.out], rfl⟩
            · have HB0 : Hid (bstK p inp S i ⟨tg, ts⟩ 0 = 1) := Lib.hid HBS0.out
              go_wp2_with (fail)
              go_meet
              case rel => exact ⟨by rw [HB0.out], rfl⟩
          case rest =>
            clear ho hb k0 k1 k2 k3 k4 k5 g1
            obtain ⟨rfl, rfl⟩ := hcut
            obtain ⟨wC, rfl⟩ : ∃ wC, wC = wc := ⟨_, rfl⟩
            have ho := HOU
            have hb := HBU
            clear HOU HBU HBS0
            go_wp2_with (fail)
            go_loopw [8, 9, 10] (fun bb kk _ wq => ∃ k : Nat, k ≤ p.ls.length ∧ kk = .int .i64 k ∧ bb = .int .i64 (bstK p inp S i ⟨tg, ts⟩ k) ∧ Hid (wq.ownsRow W.heap.size 2 1 (.slice (some ⟨W.heap.size, 0, none⟩) p.ls.length p.ls.length) p.ls.length (ints S)) ∧ Hid (Below W.heap.size W wq)) (fun _ kk _ _ => p.ls.length - (intOf kk).toNat)
            case atStart => exact ⟨0, Nat.zero_le _, rfl, rfl, ho, hb⟩
            case round =>
              obtain ⟨k, hk, rfl, rfl, ho, hb⟩ := hrel
              obtain ⟨k0, k1, k2, k3, k4, k5⟩ := HP.out.below hb.out
              have g1 := cell_later (below_chain B0.out hb.out) GW.out
              have hbn := bst_snd HZ.out HSN.out k hk
              have hbl := bst_le (p := p) (inp := inp) (S := S) (i := i) (l := ⟨tg, ts⟩) (M := M + i) (by omega) HRL.out k
              by_cases hlk : k < p.ls.length
              · obtain ⟨⟨mg, ms⟩, hzk⟩ : ∃ z, p.ls[k]? = some z := ⟨_, List.getElem?_eq_getElem hlk⟩
                obtain ⟨b', off', la', lc', e', _, g2w, _, _⟩ := H.out.l.at hzk
                simp only [Option.some.injEq, Addr.mk.injEq, and_true] at e'
                obtain ⟨rfl, rfl⟩ := e'
                have g2 := cell_later (below_chain B0.out hb.out) g2w
                dsimp only at g2
                obtain ⟨z, hzz⟩ : ∃ z, S[k]? = some z := ⟨_, List.getElem?_eq_getElem (by omega)⟩
                have hzb := HRL.out k
                rw [List.getD_eq_getElem?_getD, hzz] at hzb
                have hzb2 : z ≤ M + i := hzb
                have hzn := (HSN.out k z hzz).1
                have g3 := ho.out.cellAt k (by omega)
                rw [ints_at' hzz] at g3
                have HST := Lib.hid (bst_step (p := p) (inp := inp) (i := i) (l := ⟨tg, ts⟩) hzk hzz)
                have HBD := hbl
                have hk0 : (0 : Int) ≤ (k : Int) := by omega
                have hk1 : (k : Int) < p.ls.length := by omega
                have hwI := wI_bd i k
                have HWI : Hid (wI i k = if i ≤ k then 1 else 0) := Lib.hid rfl
                dsimp only at HST
                clear g2w hzk hzz hzb hbn hbl
                generalize bstK p inp S i ⟨tg, ts⟩ k = B at *
                by_cases hz0 : z = 0
                · subst hz0
                  have HB1 : Hid (bstK p inp S i ⟨tg, ts⟩ (k + 1) = B) := Lib.hid (by rw [HST.out]; exact if_pos (.inl rfl))
                  clear HST
                  go_wp2_with (fail)
                  refine wp_region_held_drew (S := (fun w' => (w'.cell? ⟨w.heap.size, 2, none⟩ = some (.slice a2 p.vs.length c2) ∧ w'.cell? ⟨w.heap.size, 5, none⟩ = some (.slice (some ⟨b, off, none⟩) p.ls.length c4)) ∧ (w'.cell? ⟨b, off + k * 2, none⟩ = some (.string mg) ∧ w'.cell? ⟨b, off + i * 2 + 1, none⟩ = some (.slice la ts.length lc)) ∧ w'.cell? ⟨W.heap.size, k, none⟩ = some (.int .i64 0))) (by kernel_rfl) ?_ (fun hHeld => ?_)
                  · exact ⟨⟨k2, k5⟩, ⟨g2, g1⟩, g3⟩
                  refine rg_take (v := ?_) 0 rfl (by kernel_rfl) (by kernel_rfl) (by kernel_rfl) (fun _ _ _ h => h) (by kernel_rfl) ?_ (by assumption) ?_
                  rotate_left
                  · (intro w' hSw; (try dsimp only at hSw); go_simp; first | done | with_reducible rfl)
                  simp only [Act.put, List.setIfInBounds_toArray, List.set_cons_zero, List.set_cons_succ]
                  refine rg_take (v := ?_) 1 rfl (by kernel_rfl) (by kernel_rfl) (by kernel_rfl) (fun _ _ _ h => h) (by kernel_rfl) ?_ (by assumption) ?_
                  rotate_left
                  · (intro w' hSw; (try dsimp only at hSw); go_simp; first | done | with_reducible rfl)
                  simp only [Act.put, List.setIfInBounds_toArray, List.set_cons_zero, List.set_cons_succ]
                  refine rg_take (v := ?_) 2 rfl (by kernel_rfl) (by kernel_rfl) (by kernel_rfl) (fun _ _ _ h => h) (by kernel_rfl) ?_ (by assumption) ?_
                  rotate_left
                  · (intro w' hSw; (try dsimp only at hSw); go_simp; first | done | with_reducible rfl)
                  simp only [Act.put, List.setIfInBounds_toArray, List.set_cons_zero, List.set_cons_succ]
                  refine rg_take (v := ?_) 3 rfl (by kernel_rfl) (by kernel_rfl) (by kernel_rfl) (fun _ _ _ h => h) (by kernel_rfl) ?_ (by assumption) ?_
                  rotate_left
                  · (intro w' hSw; (try dsimp only at hSw); go_simp; first | done | with_reducible rfl)
                  simp only [Act.put, List.setIfInBounds_toArray, List.set_cons_zero, List.set_cons_succ]
                  refine rg_take (v := ?_) 4 rfl (by kernel_rfl) (by kernel_rfl) (by kernel_rfl) (fun _ _ _ h => h) (by kernel_rfl) ?_ (by assumption) ?_
                  rotate_left
                  · (intro w' hSw; (try dsimp only at hSw); go_simp; first | done | with_reducible rfl)
                  simp only [Act.put, List.setIfInBounds_toArray, List.set_cons_zero, List.set_cons_succ]
                  refine rg_take (v := ?_) 5 rfl (by kernel_rfl) (by kernel_rfl) (by kernel_rfl) (fun _ _ _ h => h) (by kernel_rfl) ?_ (by assumption) ?_
                  rotate_left
                  · (intro w' hSw; (try dsimp only at hSw); go_simp; first | done | with_reducible rfl)
                  simp only [Act.put, List.setIfInBounds_toArray, List.set_cons_zero, List.set_cons_succ]
                  refine rg_skip 6 rfl (by kernel_rfl) (by kernel_rfl) (by kernel_rfl) (fun _ _ _ h => h) (by kernel_rfl) (by assumption) ?_
                  simp only [Act.put, List.setIfInBounds_toArray, List.set_cons_zero, List.set_cons_succ]
                  refine rg_skip 7 rfl (by kernel_rfl) (by kernel_rfl) (by kernel_rfl) (fun _ _ _ h => h) (by kernel_rfl) (by assumption) ?_
                  simp only [Act.put, List.setIfInBounds_toArray, List.set_cons_zero, List.set_cons_succ]
                  refine rg_skip 8 rfl (by kernel_rfl) (by kernel_rfl) (by kernel_rfl) (fun _ _ _ h => h) (by kernel_rfl) (by assumption) ?_
                  simp only [Act.put, List.setIfInBounds_toArray, List.set_cons_zero, List.set_cons_succ]
                  refine rg_skip 9 rfl (by kernel_rfl) (by kernel_rfl) (by kernel_rfl) (fun _ _ _ h => h) (by kernel_rfl) (by assumption) ?_
                  simp only [Act.put, List.setIfInBounds_toArray, List.set_cons_zero, List.set_cons_succ]
                  refine rg_skip 10 rfl (by kernel_rfl) (by kernel_rfl) (by kernel_rfl) (fun _ _ _ h => h) (by kernel_rfl) (by assumption) ?_
                  simp only [Act.put, List.setIfInBounds_toArray, List.set_cons_zero, List.set_cons_succ]
                  refine rg_skip 11 rfl (by kernel_rfl) (by kernel_rfl) (by kernel_rfl) (fun _ _ _ h => h) (by kernel_rfl) (by assumption) ?_
                  simp only [Act.put, List.setIfInBounds_toArray, List.set_cons_zero, List.set_cons_succ]
                  refine rg_skip 12 rfl (by kernel_rfl) (by kernel_rfl) (by kernel_rfl) (fun _ _ _ h => h) (by kernel_rfl) (by assumption) ?_
                  simp only [Act.put, List.setIfInBounds_toArray, List.set_cons_zero, List.set_cons_succ]
                  refine rg_skip 13 rfl (by kernel_rfl) (by kernel_rfl) (by kernel_rfl) (fun _ _ _ h => h) (by kernel_rfl) (by assumption) ?_
                  simp only [Act.put, List.setIfInBounds_toArray, List.set_cons_zero, List.set_cons_succ]
                  refine rg_skip 14 rfl (by kernel_rfl) (by kernel_rfl) (by kernel_rfl) (fun _ _ _ h => h) (by kernel_rfl) (by assumption) ?_
                  simp only [Act.put, List.setIfInBounds_toArray, List.set_cons_zero, List.set_cons_succ]
                  refine rg_skip 15 rfl (by kernel_rfl) (by kernel_rfl) (by kernel_rfl) (fun _ _ _ h => h) (by kernel_rfl) (by assumption) ?_
                  simp only [Act.put, List.setIfInBounds_toArray, List.set_cons_zero, List.set_cons_succ]
                  refine rg_take (v := ?_) 16 rfl (by kernel_rfl) (by kernel_rfl) (by kernel_rfl) (fun _ _ _ h => h) (by kernel_rfl) ?_ (by assumption) ?_
                  rotate_left
                  · (intro w' hSw; (try dsimp only at hSw); go_simp; first | done | with_reducible rfl)
                  simp only [Act.put, List.setIfInBounds_toArray, List.set_cons_zero, List.set_cons_succ]
                  refine rg_take (v := ?_) 17 rfl (by kernel_rfl) (by kernel_rfl) (by kernel_rfl) (fun _ _ _ h => h) (by kernel_rfl) ?_ (by assumption) ?_
                  rotate_left
                  · (intro w' hSw; (try dsimp only at hSw); go_simp; first | done | with_reducible rfl)
                  simp only [Act.put, List.setIfInBounds_toArray, List.set_cons_zero, List.set_cons_succ]
                  refine rg_skip 18 rfl (by kernel_rfl) (by kernel_rfl) (by kernel_rfl) (fun _ _ _ h => h) (by kernel_rfl) (by assumption) ?_
                  simp only [Act.put, List.setIfInBounds_toArray, List.set_cons_zero, List.set_cons_succ]
                  refine rg_skip 19 rfl (by kernel_rfl) (by kernel_rfl) (by kernel_rfl) (fun _ _ _ h => h) (by kernel_rfl) (by assumption) ?_
                  simp only [Act.put, List.setIfInBounds_toArray, List.set_cons_zero, List.set_cons_succ]
                  refine rg_skip 20 rfl (by kernel_rfl) (by kernel_rfl) (by kernel_rfl) (fun _ _ _ h => h) (by kernel_rfl) (by assumption) ?_
                  simp only [Act.put, List.setIfInBounds_toArray, List.set_cons_zero, List.set_cons_succ]
                  refine rg_skip 21 rfl (by kernel_rfl) (by kernel_rfl) (by kernel_rfl) (fun _ _ _ h => h) (by kernel_rfl) (by assumption) ?_
                  simp only [Act.put, List.setIfInBounds_toArray, List.set_cons_zero, List.set_cons_succ]
                  refine rg_skip 22 rfl (by kernel_rfl) (by kernel_rfl) (by kernel_rfl) (fun _ _ _ h => h) (by kernel_rfl) (by assumption) ?_
                  simp only [Act.put, List.setIfInBounds_toArray, List.set_cons_zero, List.set_cons_succ]
                  refine rg_skip 23 rfl (by kernel_rfl) (by kernel_rfl) (by kernel_rfl) (fun _ _ _ h => h) (by kernel_rfl) (by assumption) ?_
                  simp only [Act.put, List.setIfInBounds_toArray, List.set_cons_zero, List.set_cons_succ]
                  refine rg_skip 24 rfl (by kernel_rfl) (by kernel_rfl) (by kernel_rfl) (fun _ _ _ h => h) (by kernel_rfl) (by assumption) ?_
                  simp only [Act.put, List.setIfInBounds_toArray, List.set_cons_zero, List.set_cons_succ]
                  refine rg_skip 25 rfl (by kernel_rfl) (by kernel_rfl) (by kernel_rfl) (fun _ _ _ h => h) (by kernel_rfl) (by assumption) ?_
                  simp only [Act.put, List.setIfInBounds_toArray, List.set_cons_zero, List.set_cons_succ]
                  refine rg_skip 26 rfl (by kernel_rfl) (by kernel_rfl) (by kernel_rfl) (fun _ _ _ h => h) (by kernel_rfl) (by assumption) ?_
                  simp only [Act.put, List.setIfInBounds_toArray, List.set_cons_zero, List.set_cons_succ]
                  refine rg_skip 27 rfl (by kernel_rfl) (by kernel_rfl) (by kernel_rfl) (fun _ _ _ h => h) (by kernel_rfl) (by assumption) ?_
                  simp only [Act.put, List.setIfInBounds_toArray, List.set_cons_zero, List.set_cons_succ]
                  refine rg_skip 28 rfl (by kernel_rfl) (by kernel_rfl) (by kernel_rfl) (fun _ _ _ h => h) (by kernel_rfl) (by assumption) ?_
                  simp only [Act.put, List.setIfInBounds_toArray, List.set_cons_zero, List.set_cons_succ]
                  refine rg_skip 29 rfl (by kernel_rfl) (by kernel_rfl) (by kernel_rfl) (fun _ _ _ h => h) (by kernel_rfl) (by assumption) ?_
                  simp only [Act.put, List.setIfInBounds_toArray, List.set_cons_zero, List.set_cons_succ]
                  refine rg_skip 30 rfl (by kernel_rfl) (by kernel_rfl) (by kernel_rfl) (fun _ _ _ h => h) (by kernel_rfl) (by assumption) ?_
                  simp only [Act.put, List.setIfInBounds_toArray, List.set_cons_zero, List.set_cons_succ]
                  refine rg_skip 31 rfl (by kernel_rfl) (by kernel_rfl) (by kernel_rfl) (fun _ _ _ h => h) (by kernel_rfl) (by assumption) ?_
                  simp only [Act.put, List.setIfInBounds_toArray, List.set_cons_zero, List.set_cons_succ]
                  refine rg_take (v := ?_) 32 rfl (by kernel_rfl) (by kernel_rfl) (by kernel_rfl) (fun _ _ _ h => h) (by kernel_rfl) ?_ (by assumption) ?_
                  rotate_left
                  · (intro w' hSw; (try dsimp only at hSw); go_simp; first | done | with_reducible rfl)
                  simp only [Act.put, List.setIfInBounds_toArray, List.set_cons_zero, List.set_cons_succ]
                  refine wpAnyH_done (by kernel_rfl) ?_ _
                  clear hHeld
                  have HOD := Lib.hid (own_drew ho.out)
                  have HBDR := Lib.hid hb.out.drew
                  clear ho hb k0 k1 k2 k3 k4 k5 g1 g2 g3
                  go_wp2_with (fail)
                  go_roundw
                  case rel => exact ⟨k + 1, by omega, by go_num, by rw [HB1.out], HOD, HBDR⟩
                  case measure => simp [intOf]; omega
                have e0 : (z == 0) = false := by simpa using hz0
                go_wp2_with (fail)
                refine wp_region_held_drew (S := (fun w' => (w'.cell? ⟨w.heap.size, 2, none⟩ = some (.slice a2 p.vs.length c2) ∧ w'.cell? ⟨w.heap.size, 5, none⟩ = some (.slice (some ⟨b, off, none⟩) p.ls.length c4)) ∧ (w'.cell? ⟨b, off + k * 2, none⟩ = some (.string mg) ∧ w'.cell? ⟨b, off + i * 2 + 1, none⟩ = some (.slice la ts.length lc)) ∧ w'.cell? ⟨W.heap.size, k, none⟩ = some (.int .i64 z))) (by kernel_rfl) ?_ (fun hHeld => ?_)
                · exact ⟨⟨k2, k5⟩, ⟨g2, g1⟩, g3⟩
                refine rg_take (v := ?_) 0 rfl (by kernel_rfl) (by kernel_rfl) (by kernel_rfl) (fun _ _ _ h => h) (by kernel_rfl) ?_ (by assumption) ?_
                rotate_left
                · (intro w' hSw; (try dsimp only at hSw); go_simp; first | done | with_reducible rfl)
                simp only [Act.put, List.setIfInBounds_toArray, List.set_cons_zero, List.set_cons_succ]
                refine rg_take (v := ?_) 1 rfl (by kernel_rfl) (by kernel_rfl) (by kernel_rfl) (fun _ _ _ h => h) (by kernel_rfl) ?_ (by assumption) ?_
                rotate_left
                · (intro w' hSw; (try dsimp only at hSw); go_simp; first | done | with_reducible rfl)
                simp only [Act.put, List.setIfInBounds_toArray, List.set_cons_zero, List.set_cons_succ]
                refine rg_take (v := ?_) 2 rfl (by kernel_rfl) (by kernel_rfl) (by kernel_rfl) (fun _ _ _ h => h) (by kernel_rfl) ?_ (by assumption) ?_
                rotate_left
                · (intro w' hSw; (try dsimp only at hSw); go_simp; first | done | with_reducible rfl)
                simp only [Act.put, List.setIfInBounds_toArray, List.set_cons_zero, List.set_cons_succ]
                refine rg_take (v := ?_) 3 rfl (by kernel_rfl) (by kernel_rfl) (by kernel_rfl) (fun _ _ _ h => h) (by kernel_rfl) ?_ (by assumption) ?_
                rotate_left
                · (intro w' hSw; (try dsimp only at hSw); go_simp; first | done | with_reducible rfl)
                simp only [Act.put, List.setIfInBounds_toArray, List.set_cons_zero, List.set_cons_succ]
                refine rg_take (v := ?_) 4 rfl (by kernel_rfl) (by kernel_rfl) (by kernel_rfl) (fun _ _ _ h => h) (by kernel_rfl) ?_ (by assumption) ?_
                rotate_left
                · (intro w' hSw; (try dsimp only at hSw); go_simp; first | done | with_reducible rfl)
                simp only [Act.put, List.setIfInBounds_toArray, List.set_cons_zero, List.set_cons_succ]
                refine rg_take (v := ?_) 5 rfl (by kernel_rfl) (by kernel_rfl) (by kernel_rfl) (fun _ _ _ h => h) (by kernel_rfl) ?_ (by assumption) ?_
                rotate_left
                · (intro w' hSw; (try dsimp only at hSw); go_simp; first | done | with_reducible rfl)
                simp only [Act.put, List.setIfInBounds_toArray, List.set_cons_zero, List.set_cons_succ]
                refine rg_take (v := ?_) 6 rfl (by kernel_rfl) (by kernel_rfl) (by kernel_rfl) (fun _ _ _ h => h) (by kernel_rfl) ?_ (by assumption) ?_
                rotate_left
                · (intro w' hSw; (try dsimp only at hSw); go_simp; first | done | with_reducible rfl)
                simp only [Act.put, List.setIfInBounds_toArray, List.set_cons_zero, List.set_cons_succ]
                refine rg_take (v := ?_) 7 rfl (by kernel_rfl) (by kernel_rfl) (by kernel_rfl) (fun _ _ _ h => h) (by kernel_rfl) ?_ (by assumption) ?_
                rotate_left
                · (intro w' hSw; (try dsimp only at hSw); go_simp; first | done | with_reducible rfl)
                simp only [Act.put, List.setIfInBounds_toArray, List.set_cons_zero, List.set_cons_succ]
                refine rg_take (v := ?_) 8 rfl (by kernel_rfl) (by kernel_rfl) (by kernel_rfl) (fun _ _ _ h => h) (by kernel_rfl) ?_ (by assumption) ?_
                rotate_left
                · (intro w' hSw; (try dsimp only at hSw); go_simp; first | done | with_reducible rfl)
                simp only [Act.put, List.setIfInBounds_toArray, List.set_cons_zero, List.set_cons_succ]
                refine rg_take (v := ?_) 9 rfl (by kernel_rfl) (by kernel_rfl) (by kernel_rfl) (fun _ _ _ h => h) (by kernel_rfl) ?_ (by assumption) ?_
                rotate_left
                · (intro w' hSw; (try dsimp only at hSw); go_simp; first | done | with_reducible rfl)
                simp only [Act.put, List.setIfInBounds_toArray, List.set_cons_zero, List.set_cons_succ]
                refine rg_take (v := ?_) 10 rfl (by kernel_rfl) (by kernel_rfl) (by kernel_rfl) (fun _ _ _ h => h) (by kernel_rfl) ?_ (by assumption) ?_
                rotate_left
                · (intro w' hSw; (try dsimp only at hSw); go_simp; first | done | with_reducible rfl)
                simp only [Act.put, List.setIfInBounds_toArray, List.set_cons_zero, List.set_cons_succ]
                refine rg_take (v := ?_) 11 rfl (by kernel_rfl) (by kernel_rfl) (by kernel_rfl) (fun _ _ _ h => h) (by kernel_rfl) ?_ (by assumption) ?_
                rotate_left
                · (intro w' hSw; (try dsimp only at hSw); go_simp; first | done | with_reducible rfl)
                simp only [Act.put, List.setIfInBounds_toArray, List.set_cons_zero, List.set_cons_succ]
                refine rg_take (v := ?_) 12 rfl (by kernel_rfl) (by kernel_rfl) (by kernel_rfl) (fun _ _ _ h => h) (by kernel_rfl) ?_ (by assumption) ?_
                rotate_left
                · (intro w' hSw; (try dsimp only at hSw); go_simp; first | done | with_reducible rfl)
                simp only [Act.put, List.setIfInBounds_toArray, List.set_cons_zero, List.set_cons_succ]
                refine rg_take (v := ?_) 13 rfl (by kernel_rfl) (by kernel_rfl) (by kernel_rfl) (fun _ _ _ h => h) (by kernel_rfl) ?_ (by assumption) ?_
                rotate_left
                · (intro w' hSw; (try dsimp only at hSw); go_simp; first | done | with_reducible rfl)
                simp only [Act.put, List.setIfInBounds_toArray, List.set_cons_zero, List.set_cons_succ]
                refine rg_run 14 rfl (by kernel_rfl) (by kernel_rfl) (fun K hK => ?_)
                go_simp
                refine (HI.out mg _ (H.out.v.below ((below_chain B0.out hb.out).drew))).mono ?_
                rintro e w5 ⟨rfl, hb5⟩
                have hbs : Below wr.heap.size wr w5 := below_chain (Below.refl _ _).drew hb5
                have HB5 := Lib.hid (below_chain hb.out hbs)
                have HO5 := Lib.hid (own_below ho.out hbs)
                replace k2 := cell_later hbs (by exact k2)
                replace k5 := cell_later hbs (by exact k5)
                replace g2 := cell_later hbs (by exact g2)
                replace g1 := cell_later hbs (by exact g1)
                replace g3 := cell_later hbs (by exact g3)
                clear hbs hb5 ho hb k0 k1 k3 k4
                generalize ixS p.vs mg = zi at *
                by_cases hzi : 0 ≤ zi
                · have hzi2 : ¬ zi < 0 := by omega
                  have hzi3 : decide (zi < 0) = false := decide_eq_false hzi2
                  go_wp2
                  clear hHeld
                  refine hK.out _ _ (by exact ⟨⟨k2, k5⟩, ⟨g2, g1⟩, g3⟩) (fun hHeld => ?_)
                  clear hK K
                  try simp only [Act.put, List.setIfInBounds_toArray, List.set_cons_zero, List.set_cons_succ]
                  refine rg_take (v := ?_) 15 rfl (by kernel_rfl) (by kernel_rfl) (by kernel_rfl) (fun _ _ _ h => h) (by kernel_rfl) ?_ (by assumption) ?_
                  rotate_left
                  · (intro w' hSw; (try dsimp only at hSw); go_simp; first | done | with_reducible rfl)
                  simp only [Act.put, List.setIfInBounds_toArray, List.set_cons_zero, List.set_cons_succ]
                  refine rg_take (v := ?_) 16 rfl (by kernel_rfl) (by kernel_rfl) (by kernel_rfl) (fun _ _ _ h => h) (by kernel_rfl) ?_ (by assumption) ?_
                  rotate_left
                  · (intro w' hSw; (try dsimp only at hSw); go_simp; first | done | with_reducible rfl)
                  simp only [Act.put, List.setIfInBounds_toArray, List.set_cons_zero, List.set_cons_succ]
                  refine rg_take (v := ?_) 17 rfl (by kernel_rfl) (by kernel_rfl) (by kernel_rfl) (fun _ _ _ h => h) (by kernel_rfl) ?_ (by assumption) ?_
                  rotate_left
                  · (intro w' hSw; (try dsimp only at hSw); go_simp; first | done | with_reducible rfl)
                  simp only [Act.put, List.setIfInBounds_toArray, List.set_cons_zero, List.set_cons_succ]
                  refine rg_take (v := ?_) 18 rfl (by kernel_rfl) (by kernel_rfl) (by kernel_rfl) (fun _ _ _ h => h) (by kernel_rfl) ?_ (by assumption) ?_
                  rotate_left
                  · (intro w' hSw; (try dsimp only at hSw); go_simp; first | done | with_reducible rfl)
                  simp only [Act.put, List.setIfInBounds_toArray, List.set_cons_zero, List.set_cons_succ]
                  refine rg_take (v := ?_) 19 rfl (by kernel_rfl) (by kernel_rfl) (by kernel_rfl) (fun _ _ _ h => h) (by kernel_rfl) ?_ (by assumption) ?_
                  rotate_left
                  · (intro w' hSw; (try dsimp only at hSw); go_simp; first | done | with_reducible rfl)
                  simp only [Act.put, List.setIfInBounds_toArray, List.set_cons_zero, List.set_cons_succ]
                  refine rg_take (v := ?_) 20 rfl (by kernel_rfl) (by kernel_rfl) (by kernel_rfl) (fun _ _ _ h => h) (by kernel_rfl) ?_ (by assumption) ?_
                  rotate_left
                  · (intro w' hSw; (try dsimp only at hSw); go_simp; first | done | with_reducible rfl)
                  simp only [Act.put, List.setIfInBounds_toArray, List.set_cons_zero, List.set_cons_succ]
                  refine rg_take (v := ?_) 21 rfl (by kernel_rfl) (by kernel_rfl) (by kernel_rfl) (fun _ _ _ h => h) (by kernel_rfl) ?_ (by assumption) ?_
                  rotate_left
                  · (intro w' hSw; (try dsimp only at hSw); go_simp; first | done | with_reducible rfl)
                  simp only [Act.put, List.setIfInBounds_toArray, List.set_cons_zero, List.set_cons_succ]
                  refine rg_take (v := ?_) 22 rfl (by kernel_rfl) (by kernel_rfl) (by kernel_rfl) (fun _ _ _ h => h) (by kernel_rfl) ?_ (by assumption) ?_
                  rotate_left
                  · (intro w' hSw; (try dsimp only at hSw); go_simp; first | done | with_reducible rfl)
                  simp only [Act.put, List.setIfInBounds_toArray, List.set_cons_zero, List.set_cons_succ]
                  refine rg_take (v := ?_) 23 rfl (by kernel_rfl) (by kernel_rfl) (by kernel_rfl) (fun _ _ _ h => h) (by kernel_rfl) ?_ (by assumption) ?_
                  rotate_left
                  · (intro w' hSw; (try dsimp only at hSw); go_simp; first | done | with_reducible rfl)
                  simp only [Act.put, List.setIfInBounds_toArray, List.set_cons_zero, List.set_cons_succ]
                  refine rg_take (v := ?_) 24 rfl (by kernel_rfl) (by kernel_rfl) (by kernel_rfl) (fun _ _ _ h => h) (by kernel_rfl) ?_ (by assumption) ?_
                  rotate_left
                  · (intro w' hSw; (try dsimp only at hSw); go_simp; first | done | with_reducible rfl)
                  simp only [Act.put, List.setIfInBounds_toArray, List.set_cons_zero, List.set_cons_succ]
                  refine rg_take (v := ?_) 25 rfl (by kernel_rfl) (by kernel_rfl) (by kernel_rfl) (fun _ _ _ h => h) (by kernel_rfl) ?_ (by assumption) ?_
                  rotate_left
                  · (intro w' hSw; (try dsimp only at hSw); go_simp; first | done | with_reducible rfl)
                  simp only [Act.put, List.setIfInBounds_toArray, List.set_cons_zero, List.set_cons_succ]
                  refine rg_take (v := ?_) 26 rfl (by kernel_rfl) (by kernel_rfl) (by kernel_rfl) (fun _ _ _ h => h) (by kernel_rfl) ?_ (by assumption) ?_
                  rotate_left
                  · (intro w' hSw; (try dsimp only at hSw); go_simp; first | done | with_reducible rfl)
                  simp only [Act.put, List.setIfInBounds_toArray, List.set_cons_zero, List.set_cons_succ]
                  refine rg_take (v := ?_) 27 rfl (by kernel_rfl) (by kernel_rfl) (by kernel_rfl) (fun _ _ _ h => h) (by kernel_rfl) ?_ (by assumption) ?_
                  rotate_left
                  · (intro w' hSw; (try dsimp only at hSw); go_simp; first | done | with_reducible rfl)
                  simp only [Act.put, List.setIfInBounds_toArray, List.set_cons_zero, List.set_cons_succ]
                  refine rg_take (v := ?_) 28 rfl (by kernel_rfl) (by kernel_rfl) (by kernel_rfl) (fun _ _ _ h => h) (by kernel_rfl) ?_ (by assumption) ?_
                  rotate_left
                  · (intro w' hSw; (try dsimp only at hSw); go_simp; first | done | with_reducible rfl)
                  simp only [Act.put, List.setIfInBounds_toArray, List.set_cons_zero, List.set_cons_succ]
                  refine rg_take (v := ?_) 29 rfl (by kernel_rfl) (by kernel_rfl) (by kernel_rfl) (fun _ _ _ h => h) (by kernel_rfl) ?_ (by assumption) ?_
                  rotate_left
                  · (intro w' hSw; (try dsimp only at hSw); go_simp; first | done | with_reducible rfl)
                  simp only [Act.put, List.setIfInBounds_toArray, List.set_cons_zero, List.set_cons_succ]
                  refine rg_run 30 rfl (by kernel_rfl) (by kernel_rfl) (fun K hK => ?_)
                  go_simp
                  refine (HU.out tg ts la lc mg _ htl (HROW.out.below (below_chain B0.out HB5.out))).mono ?_
                  rintro e w6 ⟨rfl, hb6⟩
                  have HB6 := Lib.hid (below_chain HB5.out hb6)
                  have HO6 := Lib.hid (own_below HO5.out hb6)
                  replace k2 := cell_later hb6 (by exact k2)
                  replace k5 := cell_later hb6 (by exact k5)
                  replace g2 := cell_later hb6 (by exact g2)
                  replace g1 := cell_later hb6 (by exact g1)
                  replace g3 := cell_later hb6 (by exact g3)
                  clear hb6 HB5 HO5
                  rw [decide_eq_true hzi, Bool.true_and] at HST
                  generalize usB mg ⟨tg, ts⟩ = u at *
                  cases u
                  · have HB1 : Hid (bstK p inp S i ⟨tg, ts⟩ (k + 1) = B) := Lib.hid (by rw [HST.out]; exact if_pos (.inr rfl))
                    clear HST
                    go_wp2
                    clear hHeld
                    refine hK.out _ _ (by exact ⟨⟨k2, k5⟩, ⟨g2, g1⟩, g3⟩) (fun hHeld => ?_)
                    clear hK K
                    try simp only [Act.put, List.setIfInBounds_toArray, List.set_cons_zero, List.set_cons_succ]
                    refine rg_take (v := ?_) 31 rfl (by kernel_rfl) (by kernel_rfl) (by kernel_rfl) (fun _ _ _ h => h) (by kernel_rfl) ?_ (by assumption) ?_
                    rotate_left
                    · (intro w' hSw; (try dsimp only at hSw); go_simp; first | done | with_reducible rfl)
                    simp only [Act.put, List.setIfInBounds_toArray, List.set_cons_zero, List.set_cons_succ]
                    refine rg_take (v := ?_) 32 rfl (by kernel_rfl) (by kernel_rfl) (by kernel_rfl) (fun _ _ _ h => h) (by kernel_rfl) ?_ (by assumption) ?_
                    rotate_left
                    · (intro w' hSw; (try dsimp only at hSw); go_simp; first | done | with_reducible rfl)
                    simp only [Act.put, List.setIfInBounds_toArray, List.set_cons_zero, List.set_cons_succ]
                    refine wpAnyH_done (by kernel_rfl) ?_ _
                    clear hHeld
                    clear k2 k5 g1 g2 g3
                    go_wp2_with (fail)
                    go_roundw
                    case rel => exact ⟨k + 1, by omega, by go_num, by rw [HB1.out], HO6, HB6⟩
                    case measure => simp [intOf]; omega
                  · have HB1 : Hid (bstK p inp S i ⟨tg, ts⟩ (k + 1) = if B = 0 ∨ z + wI i k < B then z + wI i k else B) := Lib.hid (by rw [HST.out]; exact if_neg (by simp [hz0]))
                    clear HST
                    go_wp2
                    clear hHeld
                    refine hK.out _ _ (by exact ⟨⟨k2, k5⟩, ⟨g2, g1⟩, g3⟩) (fun hHeld => ?_)
                    clear hK K
                    try simp only [Act.put, List.setIfInBounds_toArray, List.set_cons_zero, List.set_cons_succ]
                    refine rg_take (v := ?_) 31 rfl (by kernel_rfl) (by kernel_rfl) (by kernel_rfl) (fun _ _ _ h => h) (by kernel_rfl) ?_ (by assumption) ?_
                    rotate_left
                    · (intro w' hSw; (try dsimp only at hSw); go_simp; first | done | with_reducible rfl)
                    simp only [Act.put, List.setIfInBounds_toArray, List.set_cons_zero, List.set_cons_succ]
                    refine rg_take (v := ?_) 32 rfl (by kernel_rfl) (by kernel_rfl) (by kernel_rfl) (fun _ _ _ h => h) (by kernel_rfl) ?_ (by assumption) ?_
                    rotate_left
                    · (intro w' hSw; (try dsimp only at hSw); go_simp; first | done | with_reducible rfl)
                    simp only [Act.put, List.setIfInBounds_toArray, List.set_cons_zero, List.set_cons_succ]
                    refine wpAnyH_done (by kernel_rfl) ?_ _
                    clear hHeld
                    clear k2 k5 g1 g2
                    by_cases hik : i ≤ k
                    · have hik2 : (i : Int) ≤ k := by omega
                      have hw1 : IntKind.i64.wrap (z + 1) = z + 1 := IntWalk.i64_in _ (by omega)
                      rw [HWI.out, if_pos hik] at HB1
                      clear HWI
                      by_cases hB0 : B = 0
                      · subst hB0
                        have HB2 : Hid (bstK p inp S i ⟨tg, ts⟩ (k + 1) = z + 1) := Lib.hid (by rw [HB1.out]; exact if_pos (.inl rfl))
                        clear HB1
                        go_wp2_with (fail)
                        go_roundw
                        case rel => exact ⟨k + 1, by omega, by go_num, by rw [HB2.out], HO6, HB6⟩
                        case measure => simp [intOf]; omega
                      · have eB : (B == 0) = false := by simpa using hB0
                        by_cases hlt : z + 1 < B
                        · have HB2 : Hid (bstK p inp S i ⟨tg, ts⟩ (k + 1) = z + 1) := Lib.hid (by rw [HB1.out]; exact if_pos (.inr hlt))
                          clear HB1 hB0
                          go_wp2_with (fail)
                          go_roundw
                          case rel => exact ⟨k + 1, by omega, by go_num, by rw [HB2.out], HO6, HB6⟩
                          case measure => simp [intOf]; omega
                        · have HB2 : Hid (bstK p inp S i ⟨tg, ts⟩ (k + 1) = B) := Lib.hid (by rw [HB1.out]; exact if_neg (fun h => h.elim hB0 hlt))
                          clear HB1 hB0
                          go_wp2_with (fail)
                          go_roundw
                          case rel => exact ⟨k + 1, by omega, by go_num, by rw [HB2.out], HO6, HB6⟩
                          case measure => simp [intOf]; omega
                    · have hik2 : ¬ (i : Int) ≤ k := by omega
                      rw [HWI.out, if_neg hik, Int.add_zero] at HB1
                      clear HWI
                      by_cases hB0 : B = 0
                      · subst hB0
                        have HB2 : Hid (bstK p inp S i ⟨tg, ts⟩ (k + 1) = z) := Lib.hid (by rw [HB1.out]; exact if_pos (.inl rfl))
                        clear HB1
                        go_wp2_with (fail)
                        go_roundw
                        case rel => exact ⟨k + 1, by omega, by go_num, by rw [HB2.out], HO6, HB6⟩
                        case measure => simp [intOf]; omega
                      · have eB : (B == 0) = false := by simpa using hB0
                        by_cases hlt : z < B
                        · have HB2 : Hid (bstK p inp S i ⟨tg, ts⟩ (k + 1) = z) := Lib.hid (by rw [HB1.out]; exact if_pos (.inr hlt))
                          clear HB1 hB0
                          go_wp2_with (fail)
                          go_roundw
                          case rel => exact ⟨k + 1, by omega, by go_num, by rw [HB2.out], HO6, HB6⟩
                          case measure => simp [intOf]; omega
                        · have HB2 : Hid (bstK p inp S i ⟨tg, ts⟩ (k + 1) = B) := Lib.hid (by rw [HB1.out]; exact if_neg (fun h => h.elim hB0 hlt))
                          clear HB1 hB0
                          go_wp2_with (fail)
                          go_roundw
                          case rel => exact ⟨k + 1, by omega, by go_num, by rw [HB2.out], HO6, HB6⟩
                          case measure => simp [intOf]; omega
                · have hzi2 : zi < 0 := by omega
                  have hzi3 : decide (zi < 0) = true := decide_eq_true hzi2
                  have HB1 : Hid (bstK p inp S i ⟨tg, ts⟩ (k + 1) = B) := Lib.hid (by rw [HST.out, decide_eq_false hzi]; exact if_pos (.inr rfl))
                  clear HST hzi
                  go_wp2
                  clear hHeld
                  refine hK.out _ _ (by exact ⟨⟨k2, k5⟩, ⟨g2, g1⟩, g3⟩) (fun hHeld => ?_)
                  clear hK K
                  try simp only [Act.put, List.setIfInBounds_toArray, List.set_cons_zero, List.set_cons_succ]
                  refine rg_take (v := ?_) 15 rfl (by kernel_rfl) (by kernel_rfl) (by kernel_rfl) (fun _ _ _ h => h) (by kernel_rfl) ?_ (by assumption) ?_
                  rotate_left
                  · (intro w' hSw; (try dsimp only at hSw); go_simp; first | done | with_reducible rfl)
                  simp only [Act.put, List.setIfInBounds_toArray, List.set_cons_zero, List.set_cons_succ]
                  refine rg_take (v := ?_) 16 rfl (by kernel_rfl) (by kernel_rfl) (by kernel_rfl) (fun _ _ _ h => h) (by kernel_rfl) ?_ (by assumption) ?_
                  rotate_left
                  · (intro w' hSw; (try dsimp only at hSw); go_simp; first | done | with_reducible rfl)
                  simp only [Act.put, List.setIfInBounds_toArray, List.set_cons_zero, List.set_cons_succ]
                  refine rg_take (v := ?_) 17 rfl (by kernel_rfl) (by kernel_rfl) (by kernel_rfl) (fun _ _ _ h => h) (by kernel_rfl) ?_ (by assumption) ?_
                  rotate_left
                  · (intro w' hSw; (try dsimp only at hSw); go_simp; first | done | with_reducible rfl)
                  simp only [Act.put, List.setIfInBounds_toArray, List.set_cons_zero, List.set_cons_succ]
                  refine rg_skip 18 rfl (by kernel_rfl) (by kernel_rfl) (by kernel_rfl) (fun _ _ _ h => h) (by kernel_rfl) (by assumption) ?_
                  simp only [Act.put, List.setIfInBounds_toArray, List.set_cons_zero, List.set_cons_succ]
                  refine rg_skip 19 rfl (by kernel_rfl) (by kernel_rfl) (by kernel_rfl) (fun _ _ _ h => h) (by kernel_rfl) (by assumption) ?_
                  simp only [Act.put, List.setIfInBounds_toArray, List.set_cons_zero, List.set_cons_succ]
                  refine rg_skip 20 rfl (by kernel_rfl) (by kernel_rfl) (by kernel_rfl) (fun _ _ _ h => h) (by kernel_rfl) (by assumption) ?_
                  simp only [Act.put, List.setIfInBounds_toArray, List.set_cons_zero, List.set_cons_succ]
                  refine rg_skip 21 rfl (by kernel_rfl) (by kernel_rfl) (by kernel_rfl) (fun _ _ _ h => h) (by kernel_rfl) (by assumption) ?_
                  simp only [Act.put, List.setIfInBounds_toArray, List.set_cons_zero, List.set_cons_succ]
                  refine rg_skip 22 rfl (by kernel_rfl) (by kernel_rfl) (by kernel_rfl) (fun _ _ _ h => h) (by kernel_rfl) (by assumption) ?_
                  simp only [Act.put, List.setIfInBounds_toArray, List.set_cons_zero, List.set_cons_succ]
                  refine rg_skip 23 rfl (by kernel_rfl) (by kernel_rfl) (by kernel_rfl) (fun _ _ _ h => h) (by kernel_rfl) (by assumption) ?_
                  simp only [Act.put, List.setIfInBounds_toArray, List.set_cons_zero, List.set_cons_succ]
                  refine rg_skip 24 rfl (by kernel_rfl) (by kernel_rfl) (by kernel_rfl) (fun _ _ _ h => h) (by kernel_rfl) (by assumption) ?_
                  simp only [Act.put, List.setIfInBounds_toArray, List.set_cons_zero, List.set_cons_succ]
                  refine rg_skip 25 rfl (by kernel_rfl) (by kernel_rfl) (by kernel_rfl) (fun _ _ _ h => h) (by kernel_rfl) (by assumption) ?_
                  simp only [Act.put, List.setIfInBounds_toArray, List.set_cons_zero, List.set_cons_succ]
                  refine rg_skip 26 rfl (by kernel_rfl) (by kernel_rfl) (by kernel_rfl) (fun _ _ _ h => h) (by kernel_rfl) (by assumption) ?_
                  simp only [Act.put, List.setIfInBounds_toArray, List.set_cons_zero, List.set_cons_succ]
                  refine rg_skip 27 rfl (by kernel_rfl) (by kernel_rfl) (by kernel_rfl) (fun _ _ _ h => h) (by kernel_rfl) (by assumption) ?_
                  simp only [Act.put, List.setIfInBounds_toArray, List.set_cons_zero, List.set_cons_succ]
                  refine rg_skip 28 rfl (by kernel_rfl) (by kernel_rfl) (by kernel_rfl) (fun _ _ _ h => h) (by kernel_rfl) (by assumption) ?_
                  simp only [Act.put, List.setIfInBounds_toArray, List.set_cons_zero, List.set_cons_succ]
                  refine rg_skip 29 rfl (by kernel_rfl) (by kernel_rfl) (by kernel_rfl) (fun _ _ _ h => h) (by kernel_rfl) (by assumption) ?_
                  simp only [Act.put, List.setIfInBounds_toArray, List.set_cons_zero, List.set_cons_succ]
                  refine rg_skip 30 rfl (by kernel_rfl) (by kernel_rfl) (by kernel_rfl) (fun _ _ _ h => h) (by kernel_rfl) (by assumption) ?_
                  simp only [Act.put, List.setIfInBounds_toArray, List.set_cons_zero, List.set_cons_succ]
                  refine rg_skip 31 rfl (by kernel_rfl) (by kernel_rfl) (by kernel_rfl) (fun _ _ _ h => h) (by kernel_rfl) (by assumption) ?_
                  simp only [Act.put, List.setIfInBounds_toArray, List.set_cons_zero, List.set_cons_succ]
                  refine rg_take (v := ?_) 32 rfl (by kernel_rfl) (by kernel_rfl) (by kernel_rfl) (fun _ _ _ h => h) (by kernel_rfl) ?_ (by assumption) ?_
                  rotate_left
                  · (intro w' hSw; (try dsimp only at hSw); go_simp; first | done | with_reducible rfl)
                  simp only [Act.put, List.setIfInBounds_toArray, List.set_cons_zero, List.set_cons_succ]
                  refine wpAnyH_done (by kernel_rfl) ?_ _
                  clear hHeld
                  clear k2 k5 g1 g2 g3
                  go_wp2_with (fail)
                  go_roundw
                  case rel => exact ⟨k + 1, by omega, by go_num, by rw [HB1.out], HO5, HB5⟩
                  case measure => simp [intOf]; omega
              · obtain rfl : k = p.ls.length := by omega
                have f0 := ho.out.frozenAt i
                obtain ⟨old, hold⟩ := own_cell ho.out (j := i) (by omega)
                have hst := (ho.out.stored i (.int .i64 (bstK p inp S i ⟨tg, ts⟩ p.ls.length))).1
                rw [ints_set] at hst
                have HOS := Lib.hid hst
                have HBS9 := Lib.hid (below_set hb.out (.int .i64 (bstK p inp S i ⟨tg, ts⟩ p.ls.length)) (Nat.le_refl _) : Below W.heap.size W (wr.setCell ⟨W.heap.size, i, none⟩ (.int .i64 (bstK p inp S i ⟨tg, ts⟩ p.ls.length))))
                clear hst hbn hbl ho hb k0 k1 k2 k3 k4 g1
                generalize bstK p inp S i ⟨tg, ts⟩ p.ls.length = B at *
                go_wp2_with (fail)
                go_roundw
                case rel =>
                  exact ⟨i + 1, by omega, by go_num, Lib.hid (by rw [HRK.out]; exact HOS.out), HBS9⟩
                case measure => simp [intOf]; omega
        · obtain rfl : i = p.ls.length := by omega
          clear k0 k1 k2 k3 k4
          go_wp2_with (fail)
          go_roundw
          case rel =>
            exact ⟨r + 1, by omega, by go_num, Lib.hid (by rw [HRS.out]; exact ho.out), hb⟩
          case measure => simp [intOf]; omega
    · obtain rfl : r = p.ls.length + 1 := by omega
      have HRL := Lib.hid (scnR_len p inp (p.ls.length + 1))
      have hlr2 : ¬ ((p.ls.length + 1 : Nat) : Int) ≤ p.ls.length := by omega
      go_wp2_with (fail)
      go_ret
      exact retZs_of HV.out HRL.out.symm (own_mono ho.out B0.out.size) (below_chain B0.out hb.out)
end Go.Proofs.YtackekfjalaacaaGreatDoor

/- The program's side of delays: isUsed, lineOf, reach. Condition: the lengths. -/
namespace Go.Proofs.YtackekfjalaacaaGreatDoor
open Go.RowKit

def usT (s : ByteArray) (t : Tm) : Bool := t.k == 1 && decide (t.nm = s)
set_option maxRecDepth 100000 in
theorem c_isUsed1 (b : Nat) (s : ByteArray) (t : Tm) (w : World) (k0 : w.cell? ⟨b, 0, none⟩ = some (.string s)) :
    Calls Tryz.prog 98 #[.agg #[.int .i64 t.k, .string t.nm, .int .i64 t.n], .pointer (some ⟨b, 0, none⟩)] w fun e w' => e = .returned (.bool (usT s t)) ∧ Below w.heap.size w w' := by
  obtain ⟨tk, tn, tx⟩ := t
  dsimp only
  have HV : Hid (usT s ⟨tk, tn, tx⟩ = (tk == 1 && decide (tn = s))) := Lib.hid rfl
  generalize usT s ⟨tk, tn, tx⟩ = R at *
  have hb0 := World.block_lt_of_cell? _ _ k0
  dsimp only at hb0
  have B0 := Lib.hid (below_alloc (Below.refl w.heap.size w) (.cells #[.int .i64 tk, .string tn, .int .i64 tx] 109))
  have m0 : (w.alloc (.cells #[.int .i64 tk, .string tn, .int .i64 tx] 109)).cell? ⟨w.heap.size, 0, none⟩ = some (.int .i64 tk) := by go_simp
  have m1 : (w.alloc (.cells #[.int .i64 tk, .string tn, .int .i64 tx] 109)).cell? ⟨w.heap.size, 1, none⟩ = some (.string tn) := by go_simp
  replace k0 := cell_later B0.out k0
  go_enter Tryz.func98, Tryz.ntmps98
  go_upto_region 1 with (fail)
  generalize w.alloc (.cells #[.int .i64 tk, .string tn, .int .i64 tx] 109) = W at *
  by_cases hk : tk = 1
  rotate_left
  · have hkb : (tk == 1) = false := by simpa using hk
    obtain rfl : R = false := by rw [HV.out, hkb]; rfl
    clear hk
    go_wp2_with (fail)
    go_ret
    exact ⟨rfl, B0.out⟩
  subst hk
  by_cases he : tn = s
  · subst he
    have heq : (tn.toList == tn.toList) = true := by simp
    obtain rfl : R = true := by rw [HV.out]; simp
    go_wp2_with (fail)
    go_ret
    exact ⟨rfl, B0.out⟩
  · have heq : (tn.toList == s.toList) = false := by rw [beq_str]; exact decide_eq_false he
    obtain rfl : R = false := by rw [HV.out, decide_eq_false he]; rfl
    clear he
    go_wp2_with (fail)
    go_ret
    exact ⟨rfl, B0.out⟩
set_option maxHeartbeats 1000000 in
set_option maxRecDepth 100000 in
theorem c_isUsed (tg : ByteArray) (ts : List Tm) (la : Option Addr) (lc : Nat) (s : ByteArray) (w : World) (hl : ts.length ≤ 1048576) (hr : Rd w la (tmCells ts)) :
    Calls Tryz.prog 65 #[.agg #[.string tg, .slice la ts.length lc], .string s] w fun e w' => e = .returned (.bool (usB s ⟨tg, ts⟩)) ∧ Below w.heap.size w w' := by
  have HC := Lib.hid (fun (b : Nat) (w : World) (k0 : w.cell? ⟨b, 0, none⟩ = some (.string s)) (hr : Rd w la (tmCells ts)) =>
    c_ContainsTc 98 (.pointer (some ⟨b, 0, none⟩)) (usT s) la lc _ ts w rfl (by omega) hr (Lib.hid (fun wr x _ hb => c_isUsed1 b s x wr (cell_later hb k0))) (enter_of Tryz.func98 (by kernel_rfl) rfl))
  have HV : Hid (usB s ⟨tg, ts⟩ = ts.any (usT s)) := Lib.hid rfl
  have HR := Lib.hid hr
  rw [HV.out]
  clear HV
  generalize ts.any (usT s) = q at *
  generalize ts.length = tn at *
  have B0 := Lib.hid (below_alloc (below_alloc (Below.refl w.heap.size w) (.cells #[.string tg, .slice la tn lc] 93)) (.cells #[.string s] 9))
  have g1 : ((w.alloc (.cells #[.string tg, .slice la tn lc] 93)).alloc (.cells #[.string s] 9)).cell? ⟨w.heap.size, 1, none⟩ = some (.slice la tn lc) := by go_simp
  have k0 : ((w.alloc (.cells #[.string tg, .slice la tn lc] 93)).alloc (.cells #[.string s] 9)).cell? ⟨w.heap.size + 1, 0, none⟩ = some (.string s) := by go_simp
  have HCC := Lib.hid (HC.out (w.heap.size + 1) _ k0 (HR.out.below B0.out))
  have hmf : ∀ (fn : Fn) (first cap : Array Value) (w : World), (Instr.makeFunc fn first cap).run Tryz.prog w = .ok (.func fn first cap) w := fun _ _ _ _ => rfl
  clear hl hr HC k0
  go_enter Tryz.func65, Tryz.ntmps65
  go_upto_region 1 with (fail)
  generalize (w.alloc (.cells #[.string tg, .slice la tn lc] 93)).alloc (.cells #[.string s] 9) = W at *
  go_wp2_with (fail)
  refine HCC.out.mono ?_
  rintro e w1 ⟨rfl, hb⟩
  have B1 := Lib.hid (below_chain B0.out hb)
  clear hb g1 HCC
  go_wp2_with (fail)
  go_ret
  exact ⟨rfl, B1.out⟩
def tgE (s : ByteArray) (l : Lin) : Bool := decide (l.tg = s)
theorem idx_tg (s : ByteArray) : ∀ l : List Lin, idxI (tgE s) l = ixS (l.map Lin.tg) s
  | [] => rfl
  | x :: l => by
    have ih := idx_tg s l
    have hb := ixS_bd s (l.map Lin.tg)
    rw [List.map_cons]
    show idxI (tgE s) (x :: l) = if x.tg = s then 0 else if ixS (l.map Lin.tg) s = -1 then -1 else ixS (l.map Lin.tg) s + 1
    rw [← ih]
    unfold idxI at ih ⊢
    rw [List.findIdx?_cons]
    unfold tgE
    by_cases h : x.tg = s
    · rw [decide_eq_true h, if_pos rfl, if_pos h]; rfl
    · rw [decide_eq_false h, if_neg (by decide), if_neg h]
      cases e : List.findIdx? (fun l : Lin => decide (l.tg = s)) l with
      | none => rfl
      | some k =>
        show ((k + 1 : Nat) : Int) = if (k : Int) = -1 then -1 else (k : Int) + 1
        rw [if_neg (by omega)]
        omega
set_option maxRecDepth 100000 in
theorem c_lineOf1 (b : Nat) (s : ByteArray) (tg : ByteArray) (a : Option Addr) (n c : Nat) (w : World) (k0 : w.cell? ⟨b, 0, none⟩ = some (.string s)) :
    Calls Tryz.prog 100 #[.agg #[.string tg, .slice a n c], .pointer (some ⟨b, 0, none⟩)] w fun e w' => e = .returned (.bool (decide (tg = s))) ∧ Below w.heap.size w w' := by
  have hb0 := World.block_lt_of_cell? _ _ k0
  dsimp only at hb0
  have B0 := Lib.hid (below_alloc (Below.refl w.heap.size w) (.cells #[.string tg, .slice a n c] 93))
  have m0 : (w.alloc (.cells #[.string tg, .slice a n c] 93)).cell? ⟨w.heap.size, 0, none⟩ = some (.string tg) := by go_simp
  replace k0 := cell_later B0.out k0
  have heq : (tg.toList == s.toList) = decide (tg = s) := beq_str tg s
  generalize decide (tg = s) = R at *
  go_enter Tryz.func100, Tryz.ntmps100
  go_upto_region 1 with (fail)
  generalize w.alloc (.cells #[.string tg, .slice a n c] 93) = W at *
  go_wp2_with (fail)
  go_ret
  exact ⟨rfl, B0.out⟩
set_option maxHeartbeats 1000000 in
set_option maxRecDepth 100000 in
theorem c_lineOf (p : Prg) (a1 a2 a3 a4 : Option Addr) (c1 c2 c3 c4 : Nat) (s : ByteArray) (w : World) (hs : p.ls.length ≤ 1048576) (h : PgR w a1 a2 a3 a4 p) :
    Calls Tryz.prog 66 #[pv p a1 a2 a3 a4 c1 c2 c3 c4, .string s] w fun e w' => e = .returned (.int .i64 (ixS (tgs p) s)) ∧ Below w.heap.size w w' := by
  have HC := Lib.hid (fun (b : Nat) (w : World) (k0 : w.cell? ⟨b, 0, none⟩ = some (.string s)) (hl : Ll w a4 p.ls) =>
    c_IndexLc 100 (.pointer (some ⟨b, 0, none⟩)) (tgE s) a4 c4 p.ls.length p.ls w rfl (by omega) hl (Lib.hid (fun wr x a c _ hb _ => c_lineOf1 b s x.tg a x.ts.length c wr (cell_later hb k0))) (enter_of Tryz.func100 (by kernel_rfl) rfl))
  have H := Lib.hid h
  have HV : Hid (idxI (tgE s) p.ls = ixS (tgs p) s) := Lib.hid (idx_tg s p.ls)
  have hw : IntKind.i64.wrap (idxI (tgE s) p.ls) = idxI (tgE s) p.ls := by
    have h1 := ixS_bd s (tgs p)
    have h2 : (tgs p).length = p.ls.length := by unfold tgs; simp
    rw [HV.out]
    exact IntWalk.i64_in _ (by omega)
  rw [← HV.out]
  clear HV
  generalize idxI (tgE s) p.ls = q at *
  have B0 := Lib.hid (below_alloc (below_alloc (Below.refl w.heap.size w) (.cells #[.string p.nm, .slice a1 p.ins.length c1, .slice a2 p.vs.length c2, .slice a3 p.os.length c3, .string p.gd, .slice a4 p.ls.length c4] 31)) (.cells #[.string s] 9))
  have k5 : ((w.alloc (.cells #[.string p.nm, .slice a1 p.ins.length c1, .slice a2 p.vs.length c2, .slice a3 p.os.length c3, .string p.gd, .slice a4 p.ls.length c4] 31)).alloc (.cells #[.string s] 9)).cell? ⟨w.heap.size, 5, none⟩ = some (.slice a4 p.ls.length c4) := by go_simp
  have k0 : ((w.alloc (.cells #[.string p.nm, .slice a1 p.ins.length c1, .slice a2 p.vs.length c2, .slice a3 p.os.length c3, .string p.gd, .slice a4 p.ls.length c4] 31)).alloc (.cells #[.string s] 9)).cell? ⟨w.heap.size + 1, 0, none⟩ = some (.string s) := by go_simp
  have HCC := Lib.hid (HC.out (w.heap.size + 1) _ k0 (H.out.l.below B0.out))
  have hmf : ∀ (fn : Fn) (first cap : Array Value) (w : World), (Instr.makeFunc fn first cap).run Tryz.prog w = .ok (.func fn first cap) w := fun _ _ _ _ => rfl
  clear hs h HC k0
  go_enter Tryz.func66, Tryz.ntmps66
  dsimp only [pv]
  go_upto_region 1 with (fail)
  generalize (w.alloc (.cells #[.string p.nm, .slice a1 p.ins.length c1, .slice a2 p.vs.length c2, .slice a3 p.os.length c3, .string p.gd, .slice a4 p.ls.length c4] 31)).alloc (.cells #[.string s] 9) = W at *
  go_wp2_with (fail)
  refine HCC.out.mono ?_
  rintro e w1 ⟨rfl, hb⟩
  have B1 := Lib.hid (below_chain B0.out hb)
  clear hb k5 HCC
  go_wp2_with (fail)
  go_ret
  exact ⟨rfl, B1.out⟩
theorem zero_int (w : World) : (zeroValue 2).run Tryz.prog w = .ok (.int .i64 0) w := by kernel_rfl
set_option maxHeartbeats 1000000 in
set_option maxRecDepth 100000 in
theorem c_reach (bf bm : Nat) (l : List En) (c : Nat) (s : ByteArray) (v : Int) (w : World) (hs : s.size ≤ maxLen) (k0 : w.cell? ⟨bf, 0, none⟩ = some (.map (some bm))) (hm : MpA w bm l c) :
    Calls Tryz.prog 64 #[.string s, .int .i64 v, .pointer (some ⟨bf, 0, none⟩)] w fun e w' => e = .returned (.bool (rB l s v)) ∧ MpA w' bm (rL l c s v) (rC l c s v) ∧ w.grownBy w' (some bm) ∧ w'.heap.size = w.heap.size := by
  have HM := Lib.hid hm
  have HV : Hid ((rB l s v = false ∧ rL l c s v = l ∧ rC l c s v = c) ∨ (rB l s v = true ∧ rL l c s v = putE l c s v ∧ rC l c s v = putC l c s)) := Lib.hid (by
    unfold rL rC
    cases rB l s v
    · exact .inl ⟨rfl, rfl, rfl⟩
    · exact .inr ⟨rfl, rfl, rfl⟩)
  have HBN : Hid (getE l s = none → rB l s v = true) := Lib.hid (fun h => by unfold rB; rw [h])
  have HBS : Hid (∀ old, getE l s = some old → rB l s v = !decide (old ≤ v)) := Lib.hid (fun old h => by unfold rB; rw [h])
  clear hm
  generalize rB l s v = R at *
  generalize rL l c s v = L2 at *
  generalize rC l c s v = C2 at *
  have HG : Hid (w.grownBy w (some bm)) := Lib.hid ⟨rfl, rfl, rfl, Nat.le_refl _, fun _ _ _ => rfl⟩
  go_enter Tryz.func64, Tryz.ntmps64
  rcases hg : getE l s with _ | old
  · obtain ⟨rfl, rfl, rfl⟩ : R = true ∧ L2 = putE l c s v ∧ C2 = putC l c s := by
      rcases HV.out with ⟨h1, _⟩ | h1
      · have := HBN.out hg; rw [h1] at this; cases this
      · exact h1
    have e1 : (getE l s).isSome = false := by rw [hg]; rfl
    have e2 : (getE l s).getD 0 = 0 := by rw [hg]; rfl
    clear HV HBN HBS
    go_wp2_with (first
      | (at_lookup
         refine wpList_lookE2 _ rfl (.tmp 9) (.tmp 10) rfl Tryz.underlying9 Tryz.underlying65 (zero_int _) bm l c rfl HM.out s rfl hs ?_
         rw [e1, e2])
      | (at_mapUpdate
         refine wpList_putE _ rfl (.tmp 20) (.tmp 21) (.tmp 22) rfl Tryz.underlying9 Tryz.underlying65 bm l c rfl HM.out s v rfl rfl hs ?_
         intro w2 hm2 hg2 hz2)
      )
    go_ret
    exact ⟨rfl, hm2, hg2, hz2⟩
  · have e1 : (getE l s).isSome = true := by rw [hg]; rfl
    have e2 : (getE l s).getD 0 = old := by rw [hg]; rfl
    have HB := Lib.hid (HBS.out old hg)
    by_cases hle : old ≤ v
    · obtain ⟨rfl, rfl, rfl⟩ : R = false ∧ L2 = l ∧ C2 = c := by
        rcases HV.out with h1 | ⟨h1, _⟩
        · exact h1
        · have := HB.out; rw [h1, decide_eq_true hle] at this; cases this
      clear HV HB HBN HBS
      go_wp2_with (first
        | (at_lookup
           refine wpList_lookE2 _ rfl (.tmp 9) (.tmp 10) rfl Tryz.underlying9 Tryz.underlying65 (zero_int _) bm _ _ rfl HM.out s rfl hs ?_
           rw [e1, e2])
        )
      go_ret
      exact ⟨rfl, HM.out, HG.out, rfl⟩
    · obtain ⟨rfl, rfl, rfl⟩ : R = true ∧ L2 = putE l c s v ∧ C2 = putC l c s := by
        rcases HV.out with ⟨h1, _⟩ | h1
        · have := HB.out; rw [h1, decide_eq_false hle] at this; cases this
        · exact h1
      clear HV HB HBN HBS
      go_wp2_with (first
        | (at_lookup
           refine wpList_lookE2 _ rfl (.tmp 9) (.tmp 10) rfl Tryz.underlying9 Tryz.underlying65 (zero_int _) bm l c rfl HM.out s rfl hs ?_
           rw [e1, e2])
        | (at_mapUpdate
           refine wpList_putE _ rfl (.tmp 20) (.tmp 21) (.tmp 22) rfl Tryz.underlying9 Tryz.underlying65 bm l c rfl HM.out s v rfl rfl hs ?_
           intro w2 hm2 hg2 hz2)
        )
      go_ret
      exact ⟨rfl, hm2, hg2, hz2⟩
end Go.Proofs.YtackekfjalaacaaGreatDoor

/- The reference's side of delays: l19Guard, l19Delay, l19Code, DelayOf. Condition: the lengths. -/
namespace Go.Proofs.YtackekfjalaacaaGreatDoor
open Go.RowKit

/-- The code, the number. -/
def dlyC (p : Prg) (inp out : ByteArray) : Int := if (wrB p && fltB p) then (if memS p.ins inp && memS p.os out then (if dlyV p inp out = 0 then 5 else 0) else 4) else 1
def dlyR (p : Prg) (inp out : ByteArray) : Int := if dlyC p inp out = 0 then dlyV p inp out else 0
def RetP (x y : Int) (w : World) (e : Ending) (w' : World) : Prop := e = .returned (.tuple #[.int .i64 x, .int .i64 y]) ∧ Below w.heap.size w w'
theorem retP_of {x x' y y' : Int} {w w' : World} (h1 : x = x') (h2 : y = y') (hb : Below w.heap.size w w') : RetP x y w (.returned (.tuple #[.int .i64 x', .int .i64 y'])) w' := by
  subst h1; subst h2; exact ⟨rfl, hb⟩
theorem scn_cell {w : World} {base g : Nat} {S : List Int} (h : w.ownsRow base 2 1 (.slice (some ⟨g, 0, none⟩) S.length S.length) S.length (ints S)) {j : Nat} (hj : j < S.length) : w.cell? ⟨g, j, none⟩ = some (.int .i64 (S.getD j 0)) := by
  have := h.cellAt j (by omega)
  rw [this, List.getD_eq_getElem?_getD, List.getElem?_eq_getElem hj]
  exact ints_at' (List.getElem?_eq_getElem hj)
theorem scnV_len (p : Prg) (inp : ByteArray) : (scnV p inp).length = p.ls.length := scnR_len p inp _
theorem tgs_len (p : Prg) : (tgs p).length = p.ls.length := by unfold tgs; simp
set_option maxHeartbeats 1000000 in
set_option maxRecDepth 100000 in
theorem c_l19Guard (p : Prg) (a1 a2 a3 a4 : Option Addr) (c1 c2 c3 c4 : Nat) (inp : ByteArray) (w : World) (hs : PgOk p) (hbd : PgB p) (h : PgR w a1 a2 a3 a4 p) :
    Calls Tryz.prog 59 #[pv p a1 a2 a3 a4 c1 c2 c3 c4, .string inp] w fun e w' => e = .returned (.int .i64 (gdV p inp)) ∧ Below w.heap.size w w' := by
  have H := Lib.hid h
  have HL := Lib.hid (fun s w h => c_l14Line p a1 a2 a3 a4 c1 c2 c3 c4 s w hs.l.1 h)
  have HS := Lib.hid (fun w h => c_l19Scans p a1 a2 a3 a4 c1 c2 c3 c4 inp w hs hbd h)
  have HSL := Lib.hid (scnV_len p inp)
  have hib := ixS_bd p.gd (tgs p)
  rw [tgs_len] at hib
  have bl := hbd.l
  have HV0 : Hid (p.gd.toList.isEmpty = true → gdV p inp = 0) := Lib.hid (fun e => by unfold gdV; rw [e]; rfl)
  have HV1 : Hid (p.gd.toList.isEmpty = false → p.gd = inp → gdV p inp = 1) := Lib.hid (fun e e2 => by unfold gdV; rw [e, if_neg (by decide), if_pos e2])
  have HV2 : Hid (p.gd.toList.isEmpty = false → ¬ p.gd = inp → ixS (tgs p) p.gd < 0 → gdV p inp = 0) := Lib.hid (fun e e2 e3 => by unfold gdV; rw [e, if_neg (by decide), if_neg e2, if_pos e3])
  have HV3 : Hid (p.gd.toList.isEmpty = false → ¬ p.gd = inp → ¬ ixS (tgs p) p.gd < 0 → gdV p inp = (scnV p inp).getD (ixS (tgs p) p.gd).toNat 0) := Lib.hid (fun e e2 e3 => by unfold gdV; rw [e, if_neg (by decide), if_neg e2, if_neg e3])
  generalize gdV p inp = R at *
  have B0 := Lib.hid (below_alloc (Below.refl w.heap.size w) (.cells #[.string p.nm, .slice a1 p.ins.length c1, .slice a2 p.vs.length c2, .slice a3 p.os.length c3, .string p.gd, .slice a4 p.ls.length c4] 31))
  have HP : Hid (PB (w.alloc (.cells #[.string p.nm, .slice a1 p.ins.length c1, .slice a2 p.vs.length c2, .slice a3 p.os.length c3, .string p.gd, .slice a4 p.ls.length c4] 31)) w.heap.size p a1 a2 a3 a4 c1 c2 c3 c4) := Lib.hid ⟨by go_simp, by go_simp, by go_simp, by go_simp, by go_simp, by go_simp⟩
  clear hs hbd h
  go_enter Tryz.func59, Tryz.ntmps59
  dsimp only [pv]
  go_upto_region 1 with (fail)
  generalize w.alloc (.cells #[.string p.nm, .slice a1 p.ins.length c1, .slice a2 p.vs.length c2, .slice a3 p.os.length c3, .string p.gd, .slice a4 p.ls.length c4] 31) = W at *
  obtain ⟨k0, k1, k2, k3, k4, k5⟩ := HP.out
  rcases hg : p.gd.toList.isEmpty with _ | _
  rotate_left
  · obtain rfl := HV0.out hg
    clear HV0 HV1 HV2 HV3
    go_wp2_with (fail)
    go_ret
    exact ⟨rfl, B0.out⟩
  have HV1' := Lib.hid (HV1.out hg)
  have HV2' := Lib.hid (HV2.out hg)
  have HV3' := Lib.hid (HV3.out hg)
  clear HV0 HV1 HV2 HV3
  by_cases he : p.gd = inp
  · obtain rfl := HV1'.out he
    have heq : (p.gd.toList == inp.toList) = true := by rw [beq_str]; exact decide_eq_true he
    clear HV1' HV2' HV3' he
    go_wp2_with (fail)
    go_ret
    exact ⟨rfl, B0.out⟩
  have heq : (p.gd.toList == inp.toList) = false := by rw [beq_str]; exact decide_eq_false he
  have HV2 := Lib.hid (HV2'.out he)
  have HV3 := Lib.hid (HV3'.out he)
  clear HV1' HV2' HV3' he
  go_wp2_with (fail)
  refine (HL.out p.gd _ (H.out.below B0.out)).mono ?_
  rintro e w1 ⟨rfl, hb⟩
  have B1 := Lib.hid (below_chain B0.out hb)
  replace k0 := cell_later hb (by exact k0)
  replace k1 := cell_later hb (by exact k1)
  replace k2 := cell_later hb (by exact k2)
  replace k3 := cell_later hb (by exact k3)
  replace k4 := cell_later hb (by exact k4)
  replace k5 := cell_later hb (by exact k5)
  clear hb hg heq
  generalize ixS (tgs p) p.gd = z at *
  by_cases hz : z < 0
  · obtain rfl := HV2.out (by omega)
    clear HV2 HV3
    go_wp2_with (fail)
    go_ret
    exact ⟨rfl, B1.out⟩
  · have HRR := Lib.hid (HV3.out (by omega))
    obtain ⟨j, rfl⟩ : ∃ j : Nat, z = j := ⟨z.toNat, by omega⟩
    rw [Int.toNat_natCast] at HRR
    have hz0 : (0 : Int) ≤ (j : Int) := by omega
    clear HV2 HV3 hz
    go_wp2_with (fail)
    refine (HS.out _ (H.out.below B1.out)).mono ?_
    rintro e w2 ⟨g, rfl, ho, hb⟩
    have B2 := Lib.hid (below_chain B1.out hb)
    have q0 := scn_cell ho (j := j) (by rw [HSL.out]; omega)
    have hz1 : (j : Int) < (scnV p inp).length := by rw [HSL.out]; omega
    clear hb ho k0 k1 k2 k3 k4 k5 hib
    generalize (scnV p inp).getD j 0 = r at *
    generalize (scnV p inp).length = L at *
    go_wp2_with (fail)
    go_ret
    exact ⟨by rw [HRR.out]; rfl, B2.out⟩
set_option maxHeartbeats 1000000 in
set_option maxRecDepth 100000 in
theorem c_l19Delay (p : Prg) (a1 a2 a3 a4 : Option Addr) (c1 c2 c3 c4 : Nat) (inp out : ByteArray) (w : World) (hs : PgOk p) (hbd : PgB p) (hout : 0 ≤ ixS (tgs p) out) (h : PgR w a1 a2 a3 a4 p) :
    Calls Tryz.prog 30 #[pv p a1 a2 a3 a4 c1 c2 c3 c4, .string inp, .string out] w fun e w' => e = .returned (.int .i64 (dlyV p inp out)) ∧ Below w.heap.size w w' := by
  have H := Lib.hid h
  have HL := Lib.hid (fun w h => c_l14Line p a1 a2 a3 a4 c1 c2 c3 c4 out w hs.l.1 h)
  have HS := Lib.hid (fun w h => c_l19Scans p a1 a2 a3 a4 c1 c2 c3 c4 inp w hs hbd h)
  have HG := Lib.hid (fun w h => c_l19Guard p a1 a2 a3 a4 c1 c2 c3 c4 inp w hs hbd h)
  have HSL := Lib.hid (scnV_len p inp)
  have hib := ixS_bd out (tgs p)
  rw [tgs_len] at hib
  have bl := hbd.l
  have HV : Hid (dlyV p inp out = if (scnV p inp).getD (ixS (tgs p) out).toNat 0 = 0 ∨ (0 < gdV p inp ∧ gdV p inp < (scnV p inp).getD (ixS (tgs p) out).toNat 0) then gdV p inp else (scnV p inp).getD (ixS (tgs p) out).toNat 0) := Lib.hid rfl
  generalize dlyV p inp out = R at *
  generalize ixS (tgs p) out = z at *
  obtain ⟨j, rfl⟩ : ∃ j : Nat, z = j := ⟨z.toNat, by omega⟩
  rw [Int.toNat_natCast] at HV
  have B0 := Lib.hid (below_alloc (Below.refl w.heap.size w) (.cells #[.string p.nm, .slice a1 p.ins.length c1, .slice a2 p.vs.length c2, .slice a3 p.os.length c3, .string p.gd, .slice a4 p.ls.length c4] 31))
  have HP : Hid (PB (w.alloc (.cells #[.string p.nm, .slice a1 p.ins.length c1, .slice a2 p.vs.length c2, .slice a3 p.os.length c3, .string p.gd, .slice a4 p.ls.length c4] 31)) w.heap.size p a1 a2 a3 a4 c1 c2 c3 c4) := Lib.hid ⟨by go_simp, by go_simp, by go_simp, by go_simp, by go_simp, by go_simp⟩
  clear hs hbd h
  go_enter Tryz.func30, Tryz.ntmps30
  dsimp only [pv]
  go_upto_region 1 with (fail)
  generalize w.alloc (.cells #[.string p.nm, .slice a1 p.ins.length c1, .slice a2 p.vs.length c2, .slice a3 p.os.length c3, .string p.gd, .slice a4 p.ls.length c4] 31) = W at *
  obtain ⟨k0, k1, k2, k3, k4, k5⟩ := HP.out
  refine wp_region_held_drew (S := (fun w' => w'.cell? ⟨w.heap.size, 0, none⟩ = some (.string p.nm) ∧ w'.cell? ⟨w.heap.size, 1, none⟩ = some (.slice a1 p.ins.length c1) ∧ w'.cell? ⟨w.heap.size, 2, none⟩ = some (.slice a2 p.vs.length c2) ∧ w'.cell? ⟨w.heap.size, 3, none⟩ = some (.slice a3 p.os.length c3) ∧ w'.cell? ⟨w.heap.size, 4, none⟩ = some (.string p.gd) ∧ w'.cell? ⟨w.heap.size, 5, none⟩ = some (.slice a4 p.ls.length c4))) (by kernel_rfl) ?_ (fun hHeld => ?_)
  · exact ⟨k0, k1, k2, k3, k4, k5⟩
  refine rg_take (v := ?_) 0 rfl (by kernel_rfl) (by kernel_rfl) (by kernel_rfl) (fun _ _ _ h => h) (by kernel_rfl) ?_ (by assumption) ?_
  rotate_left
  · (intro w' hSw; (try dsimp only at hSw); go_simp; first | done | with_reducible rfl)
  simp only [Act.put, List.setIfInBounds_toArray, List.set_cons_zero, List.set_cons_succ]
  refine rg_take (v := ?_) 1 rfl (by kernel_rfl) (by kernel_rfl) (by kernel_rfl) (fun _ _ _ h => h) (by kernel_rfl) ?_ (by assumption) ?_
  rotate_left
  · (intro w' hSw; (try dsimp only at hSw); go_simp; first | done | with_reducible rfl)
  simp only [Act.put, List.setIfInBounds_toArray, List.set_cons_zero, List.set_cons_succ]
  refine rg_take (v := ?_) 3 rfl (by kernel_rfl) (by kernel_rfl) (by kernel_rfl) (fun _ _ _ h => h) (by kernel_rfl) ?_ (by assumption) ?_
  rotate_left
  · (intro w' hSw; (try dsimp only at hSw); go_simp; first | done | with_reducible rfl)
  simp only [Act.put, List.setIfInBounds_toArray, List.set_cons_zero, List.set_cons_succ]
  refine rg_take (v := ?_) 4 rfl (by kernel_rfl) (by kernel_rfl) (by kernel_rfl) (fun _ _ _ h => h) (by kernel_rfl) ?_ (by assumption) ?_
  rotate_left
  · (intro w' hSw; (try dsimp only at hSw); go_simp; first | done | with_reducible rfl)
  simp only [Act.put, List.setIfInBounds_toArray, List.set_cons_zero, List.set_cons_succ]
  refine rg_run 2 rfl (by kernel_rfl) (by kernel_rfl) (fun K hK => ?_)
  go_simp
  refine (HS.out _ ((H.out.below B0.out).below (Below.refl _ _).drew)).mono ?_
  rintro e w2 ⟨g, rfl, ho, hb⟩
  have hbs : Below W.heap.size W w2 := below_chain (Below.refl _ _).drew hb
  have B2 := Lib.hid (below_chain B0.out hbs)
  have q0 := scn_cell ho (j := j) (by rw [HSL.out]; omega)
  have hz1 : (j : Int) < (scnV p inp).length := by rw [HSL.out]; omega
  have hz0 : (0 : Int) ≤ (j : Int) := by omega
  replace k0 := cell_later hbs (by exact k0)
  replace k1 := cell_later hbs (by exact k1)
  replace k2 := cell_later hbs (by exact k2)
  replace k3 := cell_later hbs (by exact k3)
  replace k4 := cell_later hbs (by exact k4)
  replace k5 := cell_later hbs (by exact k5)
  clear hb hbs ho
  generalize (scnV p inp).getD j 0 = n at *
  generalize (scnV p inp).length = L at *
  go_wp2
  clear hHeld
  refine hK.out _ _ (by exact ⟨k0, k1, k2, k3, k4, k5⟩) (fun hHeld => ?_)
  clear hK K
  try simp only [Act.put, List.setIfInBounds_toArray, List.set_cons_zero, List.set_cons_succ]
  refine rg_run 5 rfl (by kernel_rfl) (by kernel_rfl) (fun K hK => ?_)
  go_simp
  refine (HL.out _ (H.out.below B2.out)).mono ?_
  rintro e w3 ⟨rfl, hb⟩
  have B3 := Lib.hid (below_chain B2.out hb)
  replace k0 := cell_later hb (by exact k0)
  replace k1 := cell_later hb (by exact k1)
  replace k2 := cell_later hb (by exact k2)
  replace k3 := cell_later hb (by exact k3)
  replace k4 := cell_later hb (by exact k4)
  replace k5 := cell_later hb (by exact k5)
  replace q0 := cell_later hb (by exact q0)
  clear hb
  go_wp2
  clear hHeld
  refine hK.out _ _ (by exact ⟨k0, k1, k2, k3, k4, k5⟩) (fun hHeld => ?_)
  clear hK K
  try simp only [Act.put, List.setIfInBounds_toArray, List.set_cons_zero, List.set_cons_succ]
  refine rg_take (v := ?_) 6 rfl (by kernel_rfl) (by kernel_rfl) (by kernel_rfl) (fun _ _ _ h => h) (by kernel_rfl) ?_ (by assumption) ?_
  rotate_left
  · (intro w' hSw; (try dsimp only at hSw); go_simp; first | done | with_reducible rfl)
  simp only [Act.put, List.setIfInBounds_toArray, List.set_cons_zero, List.set_cons_succ]
  refine rg_run 7 rfl (by kernel_rfl) (by kernel_rfl) (fun K hK => ?_)
  go_simp
  go_wp2
  clear hHeld
  refine hK.out _ _ (by exact ⟨k0, k1, k2, k3, k4, k5⟩) (fun hHeld => ?_)
  clear hK K
  try simp only [Act.put, List.setIfInBounds_toArray, List.set_cons_zero, List.set_cons_succ]
  refine rg_take (v := ?_) 8 rfl (by kernel_rfl) (by kernel_rfl) (by kernel_rfl) (fun _ _ _ h => h) (by kernel_rfl) ?_ (by assumption) ?_
  rotate_left
  · (intro w' hSw; (try dsimp only at hSw); go_simp; first | done | with_reducible rfl)
  simp only [Act.put, List.setIfInBounds_toArray, List.set_cons_zero, List.set_cons_succ]
  refine wpAnyH_done (by kernel_rfl) ?_ _
  clear hHeld
  clear q0 hz0 hz1 hib hout
  go_wp2_with (fail)
  refine (HG.out _ (H.out.below B3.out)).mono ?_
  rintro e w4 ⟨rfl, hb⟩
  have B4 := Lib.hid (below_chain B3.out hb)
  clear hb k0 k1 k2 k3 k4 k5
  generalize gdV p inp = G at *
  by_cases hn : n = 0
  · subst hn
    obtain rfl : R = G := by rw [HV.out]; exact if_pos (.inl rfl)
    go_wp2_with (fail)
    go_ret
    exact ⟨rfl, B4.out⟩
  have en : (n == 0) = false := by simpa using hn
  by_cases h0 : 0 < G
  · by_cases h1 : G < n
    · obtain rfl : R = G := by rw [HV.out]; exact if_pos (.inr ⟨h0, h1⟩)
      clear HV hn
      go_wp2_with (fail)
      go_ret
      exact ⟨rfl, B4.out⟩
    · obtain rfl : R = n := by rw [HV.out]; exact if_neg (fun h => h.elim hn (fun h => h1 h.2))
      clear HV hn
      go_wp2_with (fail)
      go_ret
      exact ⟨rfl, B4.out⟩
  · obtain rfl : R = n := by rw [HV.out]; exact if_neg (fun h => h.elim hn (fun h => h0 h.1))
    clear HV hn
    go_wp2_with (fail)
    go_ret
    exact ⟨rfl, B4.out⟩
theorem mem_ix {l : List ByteArray} {s : ByteArray} (h : memS l s = true) : 0 ≤ ixS l s := ix_mem (memS_iff.1 h)
theorem no_ix {l : List ByteArray} {s : ByteArray} (h : memS l s = false) : ixS l s < 0 := by
  have := ixS_nn s l
  rw [h] at this
  have := of_decide_eq_false this
  omega
theorem out_ix {p : Prg} (h : (wrB p && fltB p) = true) {s : ByteArray} (hs : memS p.os s = true) : 0 ≤ ixS (tgs p) s := ix_mem ((nmd_of h).mad s (.inr (memS_iff.1 hs)))
set_option maxHeartbeats 1000000 in
set_option maxRecDepth 100000 in
theorem c_l19Code (p : Prg) (a1 a2 a3 a4 : Option Addr) (c1 c2 c3 c4 : Nat) (inp out : ByteArray) (w : World) (hs : PgOk p) (hz : PgZ a1 a2 a3 c1 c2 c3) (h : PgR w a1 a2 a3 a4 p) :
    Calls Tryz.prog 42 #[pv p a1 a2 a3 a4 c1 c2 c3 c4, .string inp, .string out] w fun e w' => e = .returned (.int .i64 (dlyC p inp out)) ∧ Below w.heap.size w w' := by
  have H := Lib.hid h
  have HSO := Lib.hid (fun w h => c_sIsSound p a1 a2 a3 a4 c1 c2 c3 c4 w hs hz h)
  have HI := Lib.hid (fun w h => c_l14Index a1 c1 _ p.ins inp w rfl hs.i.1 h)
  have HO := Lib.hid (fun w h => c_l14Index a3 c3 _ p.os out w rfl hs.o.1 h)
  have HD := Lib.hid (fun w hbd hout h => c_l19Delay p a1 a2 a3 a4 c1 c2 c3 c4 inp out w hs hbd hout h)
  have HSB := Lib.hid (fun h : (wrB p && fltB p) = true => (snd_of h).b)
  have HOX := Lib.hid (fun (h : (wrB p && fltB p) = true) h2 => out_ix h (s := out) h2)
  have HI1 := Lib.hid (fun h => mem_ix (l := p.ins) (s := inp) h)
  have HI0 := Lib.hid (fun h => no_ix (l := p.ins) (s := inp) h)
  have HO1 := Lib.hid (fun h => mem_ix (l := p.os) (s := out) h)
  have HO0 := Lib.hid (fun h => no_ix (l := p.os) (s := out) h)
  have HV : Hid (dlyC p inp out = if (wrB p && fltB p) then (if memS p.ins inp && memS p.os out then (if dlyV p inp out = 0 then 5 else 0) else 4) else 1) := Lib.hid rfl
  generalize dlyC p inp out = R at *
  generalize (wrB p && fltB p) = s at *
  generalize memS p.ins inp = u at *
  generalize memS p.os out = v at *
  have B0 := Lib.hid (below_alloc (Below.refl w.heap.size w) (.cells #[.string p.nm, .slice a1 p.ins.length c1, .slice a2 p.vs.length c2, .slice a3 p.os.length c3, .string p.gd, .slice a4 p.ls.length c4] 31))
  have HP : Hid (PB (w.alloc (.cells #[.string p.nm, .slice a1 p.ins.length c1, .slice a2 p.vs.length c2, .slice a3 p.os.length c3, .string p.gd, .slice a4 p.ls.length c4] 31)) w.heap.size p a1 a2 a3 a4 c1 c2 c3 c4) := Lib.hid ⟨by go_simp, by go_simp, by go_simp, by go_simp, by go_simp, by go_simp⟩
  clear hs hz h
  go_enter Tryz.func42, Tryz.ntmps42
  dsimp only [pv]
  go_upto_region 1 with (fail)
  generalize w.alloc (.cells #[.string p.nm, .slice a1 p.ins.length c1, .slice a2 p.vs.length c2, .slice a3 p.os.length c3, .string p.gd, .slice a4 p.ls.length c4] 31) = W at *
  obtain ⟨k0, k1, k2, k3, k4, k5⟩ := HP.out
  go_wp2_with (fail)
  refine (HSO.out _ (H.out.below B0.out)).mono ?_
  rintro e w1 ⟨rfl, hb⟩
  have B1 := Lib.hid (below_chain B0.out hb)
  replace k0 := cell_later hb (by exact k0)
  replace k1 := cell_later hb (by exact k1)
  replace k2 := cell_later hb (by exact k2)
  replace k3 := cell_later hb (by exact k3)
  replace k4 := cell_later hb (by exact k4)
  replace k5 := cell_later hb (by exact k5)
  clear hb
  cases s
  · obtain rfl : R = 1 := HV.out
    go_wp2_with (fail)
    go_ret
    exact ⟨rfl, B1.out⟩
  have HB := Lib.hid (HSB.out rfl)
  go_wp2_with (fail)
  refine (HI.out _ (H.out.i.below B1.out)).mono ?_
  rintro e w2 ⟨rfl, hb⟩
  have B2 := Lib.hid (below_chain B1.out hb)
  replace k0 := cell_later hb (by exact k0)
  replace k1 := cell_later hb (by exact k1)
  replace k2 := cell_later hb (by exact k2)
  replace k3 := cell_later hb (by exact k3)
  replace k4 := cell_later hb (by exact k4)
  replace k5 := cell_later hb (by exact k5)
  clear hb
  cases u
  · obtain rfl : R = 4 := HV.out
    have hi := HI0.out rfl
    generalize ixS p.ins inp = z at *
    go_wp2_with (fail)
    go_ret
    exact ⟨rfl, B2.out⟩
  have hi := HI1.out rfl
  have hi2 : ¬ ixS p.ins inp < 0 := by omega
  generalize ixS p.ins inp = z at *
  go_wp2_with (fail)
  refine (HO.out _ (H.out.o.below B2.out)).mono ?_
  rintro e w3 ⟨rfl, hb⟩
  have B3 := Lib.hid (below_chain B2.out hb)
  replace k0 := cell_later hb (by exact k0)
  replace k1 := cell_later hb (by exact k1)
  replace k2 := cell_later hb (by exact k2)
  replace k3 := cell_later hb (by exact k3)
  replace k4 := cell_later hb (by exact k4)
  replace k5 := cell_later hb (by exact k5)
  clear hb
  cases v
  · obtain rfl : R = 4 := HV.out
    have ho := HO0.out rfl
    generalize ixS p.os out = z at *
    go_wp2_with (fail)
    go_ret
    exact ⟨rfl, B3.out⟩
  have ho := HO1.out rfl
  have ho2 : ¬ ixS p.os out < 0 := by omega
  have HOI := Lib.hid (HOX.out (by first | rfl | trivial) (by first | rfl | trivial))
  generalize ixS p.os out = z at *
  clear HOX HO0 HO1 HI0 HI1
  try clear hi
  go_wp2_with (fail)
  refine (HD.out _ HB.out HOI.out (H.out.below B3.out)).mono ?_
  rintro e w4 ⟨rfl, hb⟩
  have B4 := Lib.hid (below_chain B3.out hb)
  clear hb k0 k1 k2 k3 k4 k5 ho ho2 HOI
  generalize dlyV p inp out = d at *
  by_cases hd : d = 0
  · subst hd
    obtain rfl : R = 5 := HV.out
    go_wp2_with (fail)
    go_ret
    exact ⟨rfl, B4.out⟩
  · obtain rfl : R = 0 := by rw [HV.out]; exact if_neg hd
    have ed : (d == 0) = false := by simpa using hd
    clear hd
    go_wp2_with (fail)
    go_ret
    exact ⟨rfl, B4.out⟩
end Go.Proofs.YtackekfjalaacaaGreatDoor

/- What the search of delays keeps of memory; its measure. No condition. -/
namespace Go.Proofs.YtackekfjalaacaaGreatDoor
open Go.RowKit

def decE (e : MapEntry) : En := ⟨(match e.key with | .string s => s | _ => ⟨#[]⟩), (match e.val with | .int _ v => v | _ => 0), e.born⟩
theorem decE_e (x : En) : decE x.e = x := rfl
/-- The measure of the search, read off memory. -/
def phiW (p : Prg) (inp : ByteArray) (w : World) (bm : Nat) : Nat := match w.heap[bm]? with | some (.map es _) => phi p inp (es.toList.map decE) | _ => 0
theorem phiW_eq {p : Prg} {inp : ByteArray} {w : World} {bm : Nat} {l : List En} {c : Nat} (h : MpA w bm l c) : phiW p inp w bm = phi p inp l := by
  unfold phiW
  rw [h.1]
  show phi p inp ((ents l).toList.map decE) = _
  rw [ents_list, List.map_map]
  congr 1
  exact (List.map_congr_left (fun x _ => decE_e x)).trans (List.map_id l)
/-- The search's memory: the program's box, the variable's box, the map. -/
structure DS (w wr : World) (b0 bf bm : Nat) (p : Prg) (a1 a2 a3 a4 : Option Addr) (c1 c2 c3 c4 : Nat) (l : List En) (c : Nat) : Prop where
  pb : PB wr b0 p a1 a2 a3 a4 c1 c2 c3 c4
  kf : wr.cell? ⟨bf, 0, none⟩ = some (.map (some bm))
  mp : MpA wr bm l c
  bel : Below w.heap.size w wr
  n1 : b0 ≠ bm
  n2 : bf ≠ bm
  n3 : w.heap.size ≤ bm
section
variable {w wr w' : World} {b0 bf bm : Nat} {p : Prg} {a1 a2 a3 a4 : Option Addr} {c1 c2 c3 c4 : Nat} {l l' : List En} {c c' : Nat}
theorem DS.below (h : DS w wr b0 bf bm p a1 a2 a3 a4 c1 c2 c3 c4 l c) (hb : Below wr.heap.size wr w') : DS w w' b0 bf bm p a1 a2 a3 a4 c1 c2 c3 c4 l c :=
  ⟨h.pb.below hb, cell_later hb h.kf, h.mp.below hb, below_chain h.bel hb, h.n1, h.n2, h.n3⟩
theorem cell_g {row : Option Nat} {a : Addr} {v : Value} (h : wr.cell? a = some v) (hg : wr.grownBy w' row) (hne : ∀ q, row = some q → a.block ≠ q) : w'.cell? a = some v :=
  (hg.cell_far a (World.block_lt_of_cell? wr a h) (fun h' => hne _ h'.symm rfl)).trans h
theorem PB.far {row : Option Nat} (h : PB wr b0 p a1 a2 a3 a4 c1 c2 c3 c4) (hg : wr.grownBy w' row) (hne : ∀ q, row = some q → b0 ≠ q) : PB w' b0 p a1 a2 a3 a4 c1 c2 c3 c4 :=
  ⟨cell_g h.1 hg hne, cell_g h.2.1 hg hne, cell_g h.2.2.1 hg hne, cell_g h.2.2.2.1 hg hne, cell_g h.2.2.2.2.1 hg hne, cell_g h.2.2.2.2.2 hg hne⟩
theorem DS.put (h : DS w wr b0 bf bm p a1 a2 a3 a4 c1 c2 c3 c4 l c) (hm : MpA w' bm l' c') (hg : wr.grownBy w' (some bm)) : DS w w' b0 bf bm p a1 a2 a3 a4 c1 c2 c3 c4 l' c' :=
  ⟨h.pb.far hg (fun q hq => by cases hq; exact h.n1), cell_g h.kf hg (fun q hq => by cases hq; exact h.n2), hm, below_of_grown h.bel hg (fun q hq => by cases hq; exact h.n3), h.n1, h.n2, h.n3⟩
theorem DS.other {row : Option Nat} (h : DS w wr b0 bf bm p a1 a2 a3 a4 c1 c2 c3 c4 l c) (hm : MpA w' bm l c) (hg : wr.grownBy w' row) (hr : ∀ q, row = some q → b0 ≠ q ∧ bf ≠ q ∧ w.heap.size ≤ q) : DS w w' b0 bf bm p a1 a2 a3 a4 c1 c2 c3 c4 l c :=
  ⟨h.pb.far hg (fun q hq => (hr q hq).1), cell_g h.kf hg (fun q hq => (hr q hq).2.1), hm, below_of_grown h.bel hg (fun q hq => (hr q hq).2.2), h.n1, h.n2, h.n3⟩
end
/-- The memory within the range over the map: the iterator and the line's box too. -/
structure DI (w wr : World) (b0 bf bm r bl : Nat) (p : Prg) (a1 a2 a3 a4 : Option Addr) (c1 c2 c3 c4 : Nat) (tg : ByteArray) (la : Option Addr) (n lc : Nat) (l : List En) (c since : Nat) (seen : List Nat) : Prop where
  ds : DS w wr b0 bf bm p a1 a2 a3 a4 c1 c2 c3 c4 l c
  it : Itr wr bm r l since seen
  x0 : wr.cell? ⟨bl, 0, none⟩ = some (.string tg)
  x1 : wr.cell? ⟨bl, 1, none⟩ = some (.slice la n lc)
  m1 : bl ≠ bm
  m2 : r ≠ b0 ∧ r ≠ bf ∧ r ≠ bl ∧ r ≠ bm ∧ w.heap.size ≤ r
section
variable {w wr w' : World} {b0 bf bm r bl : Nat} {p : Prg} {a1 a2 a3 a4 : Option Addr} {c1 c2 c3 c4 : Nat} {tg : ByteArray} {la : Option Addr} {n lc : Nat} {l l' : List En} {c c' since : Nat} {seen seen' : List Nat}
theorem DI.below (h : DI w wr b0 bf bm r bl p a1 a2 a3 a4 c1 c2 c3 c4 tg la n lc l c since seen) (hb : Below wr.heap.size wr w') : DI w w' b0 bf bm r bl p a1 a2 a3 a4 c1 c2 c3 c4 tg la n lc l c since seen :=
  ⟨h.ds.below hb, h.it.below hb, cell_later hb h.x0, cell_later hb h.x1, h.m1, h.m2⟩
theorem DI.step (h : DI w wr b0 bf bm r bl p a1 a2 a3 a4 c1 c2 c3 c4 tg la n lc l c since seen) (hm : MpA w' bm l c) (hi : Itr w' bm r l since seen') (hg : wr.grownBy w' (some r)) : DI w w' b0 bf bm r bl p a1 a2 a3 a4 c1 c2 c3 c4 tg la n lc l c since seen' :=
  ⟨h.ds.other hm hg (fun q hq => by cases hq; exact ⟨fun e => h.m2.1 e.symm, fun e => h.m2.2.1 e.symm, h.m2.2.2.2.2⟩), hi, cell_g h.x0 hg (fun q hq => by cases hq; exact fun e => h.m2.2.2.1 e.symm), cell_g h.x1 hg (fun q hq => by cases hq; exact fun e => h.m2.2.2.1 e.symm), h.m1, h.m2⟩
theorem DI.put (h : DI w wr b0 bf bm r bl p a1 a2 a3 a4 c1 c2 c3 c4 tg la n lc l c since seen) {s : ByteArray} {v : Int} (hm : MpA w' bm (rL l c s v) (rC l c s v)) (hg : wr.grownBy w' (some bm)) : DI w w' b0 bf bm r bl p a1 a2 a3 a4 c1 c2 c3 c4 tg la n lc (rL l c s v) (rC l c s v) since seen := by
  have hr : w'.heap[r]? = wr.heap[r]? := hg.block r h.it.lt (fun e => h.m2.2.2.2.1 (by simpa using e))
  refine ⟨h.ds.put hm hg, ?_, cell_g h.x0 hg (fun q hq => by cases hq; exact h.m1), cell_g h.x1 hg (fun q hq => by cases hq; exact h.m1), h.m1, h.m2⟩
  unfold rL
  split
  · exact h.it.put s v hr
  · obtain ⟨⟨c0, h1, h2⟩, h3, h4⟩ := h.it
    exact ⟨⟨c0, hr.trans h1, h2⟩, h3, h4⟩
end
/-- How far a sweep has come: something has changed and the search is nearer its end, or nothing has. -/
def SwP (p : Prg) (inp : ByteArray) (l0 : List En) (i : Nat) (ch : Bool) (l : List En) : Prop :=
  (ch = true ∧ phi p inp l < phi p inp l0) ∨ (ch = false ∧ l = l0 ∧ ∀ (j : Nat) (ln : Lin), j < i → p.ls[j]? = some ln → ∀ x ∈ l0, ClD p inp l0 j ln x)
/-- .. within a line's range. -/
def SwI (p : Prg) (inp : ByteArray) (l0 : List En) (i : Nat) (ln : Lin) (since : Nat) (seen : List Nat) (ch : Bool) (l : List En) : Prop :=
  (ch = true ∧ phi p inp l < phi p inp l0) ∨ (ch = false ∧ l = l0 ∧ (∀ (j : Nat) (ln : Lin), j < i → p.ls[j]? = some ln → ∀ x ∈ l0, ClD p inp l0 j ln x) ∧ (∀ x ∈ l0, x.b < since) ∧ ∀ x ∈ l0, x.b ∈ seen → ClD p inp l0 i ln x)
theorem SwP.enter {p : Prg} {inp : ByteArray} {l0 l : List En} {i : Nat} {ch : Bool} {c : Nat} (h : SwP p inp l0 i ch l) (ln : Lin) (hm : MOk l c) : SwI p inp l0 i ln c [] ch l := by
  rcases h with h | ⟨h1, h2, h3⟩
  · exact .inl h
  · subst h2
    exact .inr ⟨h1, rfl, h3, hm.old, fun x _ hb => by cases hb⟩
theorem SwI.leave {p : Prg} {inp : ByteArray} {l0 l : List En} {i : Nat} {ln : Lin} {ch : Bool} {since : Nat} {seen : List Nat} (h : SwI p inp l0 i ln since seen ch l) (hl : p.ls[i]? = some ln) (hd : ∀ x ∈ l, x.b < since → x.b ∈ seen) : SwP p inp l0 (i + 1) ch l := by
  rcases h with h | ⟨h1, h2, h3, h4, h5⟩
  · exact .inl h
  · refine .inr ⟨h1, h2, fun j lj hj hlj x hx => ?_⟩
    rcases Nat.lt_or_ge j i with hlt | hge
    · exact h3 j lj hlt hlj x hx
    · have : j = i := by omega
      subst this
      rw [hl] at hlj
      simp only [Option.some.injEq] at hlj
      subst hlj
      exact h5 x hx (hd x (h2 ▸ hx) (h4 x hx))
theorem born_one {l : List En} {c : Nat} (hm : MOk l c) {x y : En} (hx : x ∈ l) (hy : y ∈ l) (e : x.b = y.b) : x = y := by
  obtain ⟨i, hi, ei⟩ := List.getElem_of_mem hx
  obtain ⟨j, hj, ej⟩ := List.getElem_of_mem hy
  have hp := hm.brn
  rw [List.pairwise_iff_getElem] at hp
  rcases Nat.lt_trichotomy i j with h | h | h
  · exact absurd (by rw [ei, ej]; exact e) (hp i j hi hj h)
  · subst h; exact ei.symm.trans ej
  · exact absurd (by rw [ei, ej]; exact e.symm) (hp j i hj hi h)
/-- An entry that is not used in the line. -/
theorem SwI.pass {p : Prg} {inp : ByteArray} {l0 l : List En} {i : Nat} {ln : Lin} {ch : Bool} {since c : Nat} {seen : List Nat} {x : En} (h : SwI p inp l0 i ln since seen ch l) (hm : MOk l c) (hx : x ∈ l) (hc : ClD p inp l i ln x) : SwI p inp l0 i ln since (seen ++ [x.b]) ch l := by
  rcases h with h | ⟨h1, h2, h3, h4, h5⟩
  · exact .inl h
  · subst h2
    refine .inr ⟨h1, rfl, h3, h4, fun y hy hb => ?_⟩
    rcases List.mem_append.1 hb with hb | hb
    · exact h5 y hy hb
    · rw [List.mem_singleton] at hb
      have := born_one hm hy hx hb
      subst this
      exact hc
/-- An entry that is used in the line. -/
theorem SwI.use {p : Prg} {inp : ByteArray} {l0 l : List En} {i : Nat} {ln : Lin} {ch : Bool} {since c : Nat} {seen : List Nat} {x : En} (h : SwI p inp l0 i ln since seen ch l) (hv : Inv p inp l) (hm : MOk l c) (hl : p.ls[i]? = some ln) (hx : x ∈ l) :
    SwI p inp l0 i ln since (seen ++ [x.b]) (rB l ln.tg (x.v + wN p inp i x.s) || ch) (rL l c ln.tg (x.v + wN p inp i x.s)) := by
  cases hb : rB l ln.tg (x.v + wN p inp i x.s) with
  | true =>
    have e : rL l c ln.tg (x.v + wN p inp i x.s) = putE l c ln.tg (x.v + wN p inp i x.s) := by unfold rL; rw [hb]; rfl
    rw [e]
    have hlt := phi_store hv hm hl hx hb
    refine .inl ⟨rfl, ?_⟩
    rcases h with ⟨_, h⟩ | ⟨_, h, _⟩
    · omega
    · rw [h] at hlt ⊢; exact hlt
  | false =>
    have e : rL l c ln.tg (x.v + wN p inp i x.s) = l := by unfold rL; rw [hb]; rfl
    rw [e, Bool.false_or]
    exact h.pass hm hx (clD_of hb)
theorem Inv.r {p : Prg} {inp : ByteArray} {l : List En} {c : Nat} (hn : Nmd p) (hi : inp ∈ p.ins) (h : Inv p inp l) (hm : MOk l c) {i : Nat} {ln : Lin} {x : En} (hl : p.ls[i]? = some ln) (hx : x ∈ l) (hu : usB x.s ln = true) : Inv p inp (rL l c ln.tg (x.v + wN p inp i x.s)) := by
  unfold rL
  cases hb : rB l ln.tg (x.v + wN p inp i x.s) with
  | true => rw [if_pos rfl]; exact h.store hn hi hm hl hx hu hb
  | false => rw [if_neg (by decide)]; exact h
theorem gL_snoc (g : Int) (s : ByteArray) : ∀ (r : List ByteArray) (l : List En) (c : Nat), gL l c g (r ++ [s]) = (rL (gL l c g r).1 (gL l c g r).2 s g, rC (gL l c g r).1 (gL l c g r).2 s g)
  | [], _, _ => rfl
  | t :: r, l, c => gL_snoc g s r (rL l c t g) (rC l c t g)
end Go.Proofs.YtackekfjalaacaaGreatDoor
