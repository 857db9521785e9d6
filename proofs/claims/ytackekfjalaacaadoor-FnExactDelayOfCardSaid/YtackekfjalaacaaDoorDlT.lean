/- The reference's l19Scans (printed by DlT.py). Condition: the lengths. -/
import Derived.Test.YtackekfjalaacaaDoorDlS
namespace Go.Proofs.YtackekfjalaacaaDoor
open Go.RowKit

/-- What is handed back: a list of the call's own. -/
def RetZs (zs : List Int) (w : World) (e : Ending) (w' : World) : Prop := ∃ g, e = .returned (.slice (some ⟨g, 0, none⟩) zs.length zs.length) ∧ w'.ownsRow w.heap.size 2 1 (.slice (some ⟨g, 0, none⟩) zs.length zs.length) zs.length (ints zs) ∧ Below w.heap.size w w'
theorem retZs_of {zs zs' : List Int} {g n : Nat} {w w' : World} (h : zs = zs') (hn : n = zs'.length) (ho : w'.ownsRow w.heap.size 2 1 (.slice (some ⟨g, 0, none⟩) n n) n (ints zs')) (hb : Below w.heap.size w w') : RetZs zs w (.returned (.slice (some ⟨g, 0, none⟩) n n)) w' := by
  subst h; subst hn; exact ⟨g, rfl, ho, hb⟩
theorem bst_step {p : Prg} {inp : ByteArray} {S : List Int} {i k : Nat} {l m : Lin} {z : Int} (hm : p.ls[k]? = some m) (hz : S[k]? = some z) : bstK p inp S i l (k + 1) = bstS z (decide (0 ≤ ixS p.vs m.tg) && usB m.tg l) (wI i k) (bstK p inp S i l k) := by
  show bstS (S.getD k 0) (decide (0 ≤ ixS p.vs ((p.ls.map Lin.tg).getD k ⟨#[]⟩)) && usB ((p.ls.map Lin.tg).getD k ⟨#[]⟩) l) (wI i k) (bstK p inp S i l k) = _
  rw [tg_get hm, List.getD_eq_getElem?_getD, hz]
  rfl
theorem ints_at' {l : List Int} {k : Nat} {z : Int} (h : l[k]? = some z) : (ints l)[k]? = some (.int .i64 z) := by simp [ints, h]
theorem ints_set (l : List Int) (k : Nat) (z : Int) : (ints l).set k (.int .i64 z) = ints (l.set k z) := by simp [ints, List.map_set]
set_option maxHeartbeats 4000000 in
set_option maxRecDepth 100000 in
theorem c_l19Scans (p : Prg) (a1 a2 a3 a4 : Option Addr) (c1 c2 c3 c4 : Nat) (inp : ByteArray) (w : World) (hs : PgOk p) (hbd : PgB p) (h : PgR w a1 a2 a3 a4 p) :
    Calls Tryd.prog 22 #[pv p a1 a2 a3 a4 c1 c2 c3 c4, .string inp] w (RetZs (scnV p inp) w) := by
  obtain ⟨i0, hi, hz0, hz1, hz2⟩ := info_parts info_int64
  have H := Lib.hid h
  have HI := Lib.hid (fun s w h => c_l14Index a2 c2 _ p.vs s w rfl hs.v.1 h)
  have HU := Lib.hid (fun tg ts A c s w (hl : ts.length ≤ 40) h => c_l14Uses tg ts A c ts.length s w rfl (by omega) h)
  have HTS := Lib.hid hbd.t
  have bl := hbd.l
  have B0 := Lib.hid (below_alloc (Below.refl w.heap.size w) (.cells #[.string p.nm, .slice a1 p.ins.length c1, .slice a2 p.vs.length c2, .slice a3 p.os.length c3, .string p.gd, .slice a4 p.ls.length c4] 31))
  have HP : Hid (PB (w.alloc (.cells #[.string p.nm, .slice a1 p.ins.length c1, .slice a2 p.vs.length c2, .slice a3 p.os.length c3, .string p.gd, .slice a4 p.ls.length c4] 31)) w.heap.size p a1 a2 a3 a4 c1 c2 c3 c4) := Lib.hid ⟨by go_simp, by go_simp, by go_simp, by go_simp, by go_simp, by go_simp⟩
  have HV : Hid (scnV p inp = scnR p inp (p.ls.length + 1)) := Lib.hid rfl
  generalize scnV p inp = RV at *
  clear hs hbd h
  go_enter Tryd.func22, Tryd.ntmps22
  dsimp only [pv]
  go_upto_region 1 with (fail)
  generalize w.alloc (.cells #[.string p.nm, .slice a1 p.ins.length c1, .slice a2 p.vs.length c2, .slice a3 p.os.length c3, .string p.gd, .slice a4 p.ls.length c4] 31) = W at *
  obtain ⟨k0, k1, k2, k3, k4, k5⟩ := HP.out
  go_wp2_with (first
    | (at_make
       refine wpList_make_full _ rfl (.tmp 13) (.tmp 13) _ rfl W.heap.size 2 i0 _ 1 Tryd.underlying52 hi hz0 hz1 .i64 .i64 _ _ p.ls.length rfl rfl rfl rfl (by rw [hz2]; omega) (by unfold maxLen; omega) (Nat.le_refl _) ?_
       intro w1 hown hgrow)
    )
  have hb1 : Below W.heap.size W w1 := below_of_grown (Below.refl _ _) hgrow (by simp)
  rw [made_intQ] at hown
  have HO0 := Lib.hid hown
  have HB1 := Lib.hid hb1
  clear hown hgrow hb1 k0 k1 k2 k3 k4 k5 hi hz0 hz1 hz2
  go_loopw [6, 7, 8, 9, 10] (fun rd _ _ _ _ wr => ∃ r : Nat, r ≤ p.ls.length + 1 ∧ rd = .int .i64 r ∧ Hid (wr.ownsRow W.heap.size 2 1 (.slice (some ⟨W.heap.size, 0, none⟩) p.ls.length p.ls.length) p.ls.length (ints (scnR p inp r))) ∧ Hid (Below W.heap.size W wr)) (fun rd _ _ _ _ _ => p.ls.length + 1 - (intOf rd).toNat)
  case atStart => exact ⟨0, Nat.zero_le _, rfl, HO0, HB1⟩
  case round =>
    obtain ⟨r, hr, rfl, ho, hb⟩ := hrel
    clear HO0 HB1
    obtain ⟨k0, k1, k2, k3, k4, k5⟩ := HP.out.below hb.out
    by_cases hlr : r ≤ p.ls.length
    · have hr0 : (0 : Int) ≤ (r : Int) := by omega
      have hr1 : (r : Int) ≤ p.ls.length := by omega
      have HRS : Hid (scnR p inp (r + 1) = rowK p inp (scnR p inp r) p.ls.length) := Lib.hid rfl
      have hrl := scnR_len p inp r
      have HRB := Lib.hid (scn_le p inp r)
      have HRN := Lib.hid (scn_snd p inp r)
      have hM0 : (0 : Int) ≤ (r : Int) * p.ls.length := Int.mul_nonneg (by omega) (by omega)
      have hM1 : (r : Int) * p.ls.length ≤ 41 * 40 := Int.mul_le_mul (by omega) (by omega) (by omega) (by omega)
      generalize scnR p inp r = R1 at *
      generalize (r : Int) * p.ls.length = M at *
      go_wp2_with (fail)
      clear k0 k1 k2 k3 k4 k5
      go_loopw [7, 8, 9, 10] (fun ii _ _ _ wi => ∃ i : Nat, i ≤ p.ls.length ∧ ii = .int .i64 i ∧ Hid (wi.ownsRow W.heap.size 2 1 (.slice (some ⟨W.heap.size, 0, none⟩) p.ls.length p.ls.length) p.ls.length (ints (rowK p inp R1 i))) ∧ Hid (Below W.heap.size W wi)) (fun ii _ _ _ _ => p.ls.length - (intOf ii).toNat)
      case atStart => exact ⟨0, Nat.zero_le _, rfl, ho, hb⟩
      case round =>
        obtain ⟨i, hi, rfl, ho, hb⟩ := hrel
        obtain ⟨k0, k1, k2, k3, k4, k5⟩ := HP.out.below hb.out
        by_cases hli : i < p.ls.length
        · obtain ⟨⟨tg, ts⟩, hz⟩ : ∃ z, p.ls[i]? = some z := ⟨_, List.getElem?_eq_getElem hli⟩
          have htl := HTS.out _ (List.mem_of_getElem? hz)
          dsimp only at htl
          obtain ⟨b, off, la, lc, rfl, hblt, g0w, g1w, hrow⟩ := H.out.l.at hz
          dsimp only at g0w g1w hrow
          have GW := Lib.hid g1w
          have HROW := Lib.hid hrow
          have g1 := cell_later (below_chain B0.out hb.out) g1w
          have HRK := Lib.hid (rowK_succ (inp := inp) (S := R1) hz)
          have HSN := Lib.hid (row_snd HRN.out i (by omega))
          have HRL := Lib.hid (row_le (p := p) (inp := inp) hM0 HRB.out i)
          have hrkl := rowK_len p inp R1 i
          have HBS := Lib.hid (fun (S : List Int) => show bstK p inp S i ⟨tg, ts⟩ 0 = if usB inp ⟨tg, ts⟩ then 1 else 0 from rfl)
          have hi0 : (0 : Int) ≤ (i : Int) := by omega
          have hi1 : (i : Int) < p.ls.length := by omega
          have HZ := Lib.hid hz
          clear hz g0w g1w hrow hblt
          generalize rowK p inp R1 i = S at *
          go_wp2_with (fail)
          refine (HU.out tg ts la lc inp _ htl (HROW.out.below (below_chain B0.out hb.out))).mono ?_
          rintro e wu ⟨rfl, hbu⟩
          have HBU := Lib.hid (below_chain hb.out hbu)
          have HOU := Lib.hid (own_below ho.out hbu)
          have HBS0 := Lib.hid (HBS.out S)
          clear hbu
          generalize usB inp ⟨tg, ts⟩ = u at *
          go_upto_if 36 with (fail)
          go_cut [8] from 22 to 97 (fun v wx => v = .int .i64 (bstK p inp S i ⟨tg, ts⟩ 0) ∧ wx = wu)
          case first =>
            cases u
            · have HB0 : Hid (bstK p inp S i ⟨tg, ts⟩ 0 = 0) := Lib.hid HBS0.out
              go_wp2_with (fail)
              go_meet
              case rel => exact ⟨by rw [HB0.out], rfl⟩
            · have HB0 : Hid (bstK p inp S i ⟨tg, ts⟩ 0 = 1) := Lib.hid HBS0.out
              go_wp2_with (fail)
              go_meet
              case rel => exact ⟨by rw [HB0.out], rfl⟩
          case rest =>
            clear ho hb k0 k1 k2 k3 k4 k5 g1
            obtain ⟨rfl, rfl⟩ := hcut
            obtain ⟨wC, rfl⟩ : ∃ wC, wC = wc := ⟨_, rfl⟩
            have ho := HOU
            have hb := HBU
            clear HOU HBU HBS0
            go_wp2_with (fail)
            go_loopw [8, 9, 10] (fun bb kk _ wq => ∃ k : Nat, k ≤ p.ls.length ∧ kk = .int .i64 k ∧ bb = .int .i64 (bstK p inp S i ⟨tg, ts⟩ k) ∧ Hid (wq.ownsRow W.heap.size 2 1 (.slice (some ⟨W.heap.size, 0, none⟩) p.ls.length p.ls.length) p.ls.length (ints S)) ∧ Hid (Below W.heap.size W wq)) (fun _ kk _ _ => p.ls.length - (intOf kk).toNat)
            case atStart => exact ⟨0, Nat.zero_le _, rfl, rfl, ho, hb⟩
            case round =>
              obtain ⟨k, hk, rfl, rfl, ho, hb⟩ := hrel
              obtain ⟨k0, k1, k2, k3, k4, k5⟩ := HP.out.below hb.out
              have g1 := cell_later (below_chain B0.out hb.out) GW.out
              have hbn := bst_snd HZ.out HSN.out k hk
              have hbl := bst_le (p := p) (inp := inp) (S := S) (i := i) (l := ⟨tg, ts⟩) (M := M + i) (by omega) HRL.out k
              by_cases hlk : k < p.ls.length
              · obtain ⟨⟨mg, ms⟩, hzk⟩ : ∃ z, p.ls[k]? = some z := ⟨_, List.getElem?_eq_getElem hlk⟩
                obtain ⟨b', off', la', lc', e', _, g2w, _, _⟩ := H.out.l.at hzk
                simp only [Option.some.injEq, Addr.mk.injEq, and_true] at e'
                obtain ⟨rfl, rfl⟩ := e'
                have g2 := cell_later (below_chain B0.out hb.out) g2w
                dsimp only at g2
                obtain ⟨z, hzz⟩ : ∃ z, S[k]? = some z := ⟨_, List.getElem?_eq_getElem (by omega)⟩
                have hzb := HRL.out k
                rw [List.getD_eq_getElem?_getD, hzz] at hzb
                have hzb2 : z ≤ M + i := hzb
                have hzn := (HSN.out k z hzz).1
                have g3 := ho.out.cellAt k (by omega)
                rw [ints_at' hzz] at g3
                have HST := Lib.hid (bst_step (p := p) (inp := inp) (i := i) (l := ⟨tg, ts⟩) hzk hzz)
                have HBD := hbl
                have hk0 : (0 : Int) ≤ (k : Int) := by omega
                have hk1 : (k : Int) < p.ls.length := by omega
                have hwI := wI_bd i k
                have HWI : Hid (wI i k = if i ≤ k then 1 else 0) := Lib.hid rfl
                dsimp only at HST
                clear g2w hzk hzz hzb hbn hbl
                generalize bstK p inp S i ⟨tg, ts⟩ k = B at *
                by_cases hz0 : z = 0
                · subst hz0
                  have HB1 : Hid (bstK p inp S i ⟨tg, ts⟩ (k + 1) = B) := Lib.hid (by rw [HST.out]; exact if_pos (.inl rfl))
                  clear HST
                  go_wp2_with (fail)
                  refine wp_region_held_drew (S := (fun w' => (w'.cell? ⟨w.heap.size, 2, none⟩ = some (.slice a2 p.vs.length c2) ∧ w'.cell? ⟨w.heap.size, 5, none⟩ = some (.slice (some ⟨b, off, none⟩) p.ls.length c4)) ∧ (w'.cell? ⟨b, off + k * 2, none⟩ = some (.string mg) ∧ w'.cell? ⟨b, off + i * 2 + 1, none⟩ = some (.slice la ts.length lc)) ∧ w'.cell? ⟨W.heap.size, k, none⟩ = some (.int .i64 0))) (by kernel_rfl) ?_ (fun hHeld => ?_)
                  · exact ⟨⟨k2, k5⟩, ⟨g2, g1⟩, g3⟩
                  refine rg_take (v := ?_) 0 rfl (by kernel_rfl) (by kernel_rfl) (by kernel_rfl) (fun _ _ _ h => h) (by kernel_rfl) ?_ (by assumption) ?_
                  rotate_left
                  · (intro w' hSw; (try dsimp only at hSw); go_simp; first | done | with_reducible rfl)
                  simp only [Act.put, List.setIfInBounds_toArray, List.set_cons_zero, List.set_cons_succ]
                  refine rg_take (v := ?_) 1 rfl (by kernel_rfl) (by kernel_rfl) (by kernel_rfl) (fun _ _ _ h => h) (by kernel_rfl) ?_ (by assumption) ?_
                  rotate_left
                  · (intro w' hSw; (try dsimp only at hSw); go_simp; first | done | with_reducible rfl)
                  simp only [Act.put, List.setIfInBounds_toArray, List.set_cons_zero, List.set_cons_succ]
                  refine rg_take (v := ?_) 2 rfl (by kernel_rfl) (by kernel_rfl) (by kernel_rfl) (fun _ _ _ h => h) (by kernel_rfl) ?_ (by assumption) ?_
                  rotate_left
                  · (intro w' hSw; (try dsimp only at hSw); go_simp; first | done | with_reducible rfl)
                  simp only [Act.put, List.setIfInBounds_toArray, List.set_cons_zero, List.set_cons_succ]
                  refine rg_take (v := ?_) 3 rfl (by kernel_rfl) (by kernel_rfl) (by kernel_rfl) (fun _ _ _ h => h) (by kernel_rfl) ?_ (by assumption) ?_
                  rotate_left
                  · (intro w' hSw; (try dsimp only at hSw); go_simp; first | done | with_reducible rfl)
                  simp only [Act.put, List.setIfInBounds_toArray, List.set_cons_zero, List.set_cons_succ]
                  refine rg_take (v := ?_) 4 rfl (by kernel_rfl) (by kernel_rfl) (by kernel_rfl) (fun _ _ _ h => h) (by kernel_rfl) ?_ (by assumption) ?_
                  rotate_left
                  · (intro w' hSw; (try dsimp only at hSw); go_simp; first | done | with_reducible rfl)
                  simp only [Act.put, List.setIfInBounds_toArray, List.set_cons_zero, List.set_cons_succ]
                  refine rg_take (v := ?_) 5 rfl (by kernel_rfl) (by kernel_rfl) (by kernel_rfl) (fun _ _ _ h => h) (by kernel_rfl) ?_ (by assumption) ?_
                  rotate_left
                  · (intro w' hSw; (try dsimp only at hSw); go_simp; first | done | with_reducible rfl)
                  simp only [Act.put, List.setIfInBounds_toArray, List.set_cons_zero, List.set_cons_succ]
                  refine rg_skip 6 rfl (by kernel_rfl) (by kernel_rfl) (by kernel_rfl) (fun _ _ _ h => h) (by kernel_rfl) (by assumption) ?_
                  simp only [Act.put, List.setIfInBounds_toArray, List.set_cons_zero, List.set_cons_succ]
                  refine rg_skip 7 rfl (by kernel_rfl) (by kernel_rfl) (by kernel_rfl) (fun _ _ _ h => h) (by kernel_rfl) (by assumption) ?_
                  simp only [Act.put, List.setIfInBounds_toArray, List.set_cons_zero, List.set_cons_succ]
                  refine rg_skip 8 rfl (by kernel_rfl) (by kernel_rfl) (by kernel_rfl) (fun _ _ _ h => h) (by kernel_rfl) (by assumption) ?_
                  simp only [Act.put, List.setIfInBounds_toArray, List.set_cons_zero, List.set_cons_succ]
                  refine rg_skip 9 rfl (by kernel_rfl) (by kernel_rfl) (by kernel_rfl) (fun _ _ _ h => h) (by kernel_rfl) (by assumption) ?_
                  simp only [Act.put, List.setIfInBounds_toArray, List.set_cons_zero, List.set_cons_succ]
                  refine rg_skip 10 rfl (by kernel_rfl) (by kernel_rfl) (by kernel_rfl) (fun _ _ _ h => h) (by kernel_rfl) (by assumption) ?_
                  simp only [Act.put, List.setIfInBounds_toArray, List.set_cons_zero, List.set_cons_succ]
                  refine rg_skip 11 rfl (by kernel_rfl) (by kernel_rfl) (by kernel_rfl) (fun _ _ _ h => h) (by kernel_rfl) (by assumption) ?_
                  simp only [Act.put, List.setIfInBounds_toArray, List.set_cons_zero, List.set_cons_succ]
                  refine rg_skip 12 rfl (by kernel_rfl) (by kernel_rfl) (by kernel_rfl) (fun _ _ _ h => h) (by kernel_rfl) (by assumption) ?_
                  simp only [Act.put, List.setIfInBounds_toArray, List.set_cons_zero, List.set_cons_succ]
                  refine rg_skip 13 rfl (by kernel_rfl) (by kernel_rfl) (by kernel_rfl) (fun _ _ _ h => h) (by kernel_rfl) (by assumption) ?_
                  simp only [Act.put, List.setIfInBounds_toArray, List.set_cons_zero, List.set_cons_succ]
                  refine rg_skip 14 rfl (by kernel_rfl) (by kernel_rfl) (by kernel_rfl) (fun _ _ _ h => h) (by kernel_rfl) (by assumption) ?_
                  simp only [Act.put, List.setIfInBounds_toArray, List.set_cons_zero, List.set_cons_succ]
                  refine rg_skip 15 rfl (by kernel_rfl) (by kernel_rfl) (by kernel_rfl) (fun _ _ _ h => h) (by kernel_rfl) (by assumption) ?_
                  simp only [Act.put, List.setIfInBounds_toArray, List.set_cons_zero, List.set_cons_succ]
                  refine rg_take (v := ?_) 16 rfl (by kernel_rfl) (by kernel_rfl) (by kernel_rfl) (fun _ _ _ h => h) (by kernel_rfl) ?_ (by assumption) ?_
                  rotate_left
                  · (intro w' hSw; (try dsimp only at hSw); go_simp; first | done | with_reducible rfl)
                  simp only [Act.put, List.setIfInBounds_toArray, List.set_cons_zero, List.set_cons_succ]
                  refine rg_take (v := ?_) 17 rfl (by kernel_rfl) (by kernel_rfl) (by kernel_rfl) (fun _ _ _ h => h) (by kernel_rfl) ?_ (by assumption) ?_
                  rotate_left
                  · (intro w' hSw; (try dsimp only at hSw); go_simp; first | done | with_reducible rfl)
                  simp only [Act.put, List.setIfInBounds_toArray, List.set_cons_zero, List.set_cons_succ]
                  refine rg_skip 18 rfl (by kernel_rfl) (by kernel_rfl) (by kernel_rfl) (fun _ _ _ h => h) (by kernel_rfl) (by assumption) ?_
                  simp only [Act.put, List.setIfInBounds_toArray, List.set_cons_zero, List.set_cons_succ]
                  refine rg_skip 19 rfl (by kernel_rfl) (by kernel_rfl) (by kernel_rfl) (fun _ _ _ h => h) (by kernel_rfl) (by assumption) ?_
                  simp only [Act.put, List.setIfInBounds_toArray, List.set_cons_zero, List.set_cons_succ]
                  refine rg_skip 20 rfl (by kernel_rfl) (by kernel_rfl) (by kernel_rfl) (fun _ _ _ h => h) (by kernel_rfl) (by assumption) ?_
                  simp only [Act.put, List.setIfInBounds_toArray, List.set_cons_zero, List.set_cons_succ]
                  refine rg_skip 21 rfl (by kernel_rfl) (by kernel_rfl) (by kernel_rfl) (fun _ _ _ h => h) (by kernel_rfl) (by assumption) ?_
                  simp only [Act.put, List.setIfInBounds_toArray, List.set_cons_zero, List.set_cons_succ]
                  refine rg_skip 22 rfl (by kernel_rfl) (by kernel_rfl) (by kernel_rfl) (fun _ _ _ h => h) (by kernel_rfl) (by assumption) ?_
                  simp only [Act.put, List.setIfInBounds_toArray, List.set_cons_zero, List.set_cons_succ]
                  refine rg_skip 23 rfl (by kernel_rfl) (by kernel_rfl) (by kernel_rfl) (fun _ _ _ h => h) (by kernel_rfl) (by assumption) ?_
                  simp only [Act.put, List.setIfInBounds_toArray, List.set_cons_zero, List.set_cons_succ]
                  refine rg_skip 24 rfl (by kernel_rfl) (by kernel_rfl) (by kernel_rfl) (fun _ _ _ h => h) (by kernel_rfl) (by assumption) ?_
                  simp only [Act.put, List.setIfInBounds_toArray, List.set_cons_zero, List.set_cons_succ]
                  refine rg_skip 25 rfl (by kernel_rfl) (by kernel_rfl) (by kernel_rfl) (fun _ _ _ h => h) (by kernel_rfl) (by assumption) ?_
                  simp only [Act.put, List.setIfInBounds_toArray, List.set_cons_zero, List.set_cons_succ]
                  refine rg_skip 26 rfl (by kernel_rfl) (by kernel_rfl) (by kernel_rfl) (fun _ _ _ h => h) (by kernel_rfl) (by assumption) ?_
                  simp only [Act.put, List.setIfInBounds_toArray, List.set_cons_zero, List.set_cons_succ]
                  refine rg_skip 27 rfl (by kernel_rfl) (by kernel_rfl) (by kernel_rfl) (fun _ _ _ h => h) (by kernel_rfl) (by assumption) ?_
                  simp only [Act.put, List.setIfInBounds_toArray, List.set_cons_zero, List.set_cons_succ]
                  refine rg_skip 28 rfl (by kernel_rfl) (by kernel_rfl) (by kernel_rfl) (fun _ _ _ h => h) (by kernel_rfl) (by assumption) ?_
                  simp only [Act.put, List.setIfInBounds_toArray, List.set_cons_zero, List.set_cons_succ]
                  refine rg_skip 29 rfl (by kernel_rfl) (by kernel_rfl) (by kernel_rfl) (fun _ _ _ h => h) (by kernel_rfl) (by assumption) ?_
                  simp only [Act.put, List.setIfInBounds_toArray, List.set_cons_zero, List.set_cons_succ]
                  refine rg_skip 30 rfl (by kernel_rfl) (by kernel_rfl) (by kernel_rfl) (fun _ _ _ h => h) (by kernel_rfl) (by assumption) ?_
                  simp only [Act.put, List.setIfInBounds_toArray, List.set_cons_zero, List.set_cons_succ]
                  refine rg_skip 31 rfl (by kernel_rfl) (by kernel_rfl) (by kernel_rfl) (fun _ _ _ h => h) (by kernel_rfl) (by assumption) ?_
                  simp only [Act.put, List.setIfInBounds_toArray, List.set_cons_zero, List.set_cons_succ]
                  refine rg_take (v := ?_) 32 rfl (by kernel_rfl) (by kernel_rfl) (by kernel_rfl) (fun _ _ _ h => h) (by kernel_rfl) ?_ (by assumption) ?_
                  rotate_left
                  · (intro w' hSw; (try dsimp only at hSw); go_simp; first | done | with_reducible rfl)
                  simp only [Act.put, List.setIfInBounds_toArray, List.set_cons_zero, List.set_cons_succ]
                  refine wpAnyH_done (by kernel_rfl) ?_ _
                  clear hHeld
                  have HOD := Lib.hid (own_drew ho.out)
                  have HBDR := Lib.hid hb.out.drew
                  clear ho hb k0 k1 k2 k3 k4 k5 g1 g2 g3
                  go_wp2_with (fail)
                  go_roundw
                  case rel => exact ⟨k + 1, by omega, by go_num, by rw [HB1.out], HOD, HBDR⟩
                  case measure => simp [intOf]; omega
                have e0 : (z == 0) = false := by simpa using hz0
                go_wp2_with (fail)
                refine wp_region_held_drew (S := (fun w' => (w'.cell? ⟨w.heap.size, 2, none⟩ = some (.slice a2 p.vs.length c2) ∧ w'.cell? ⟨w.heap.size, 5, none⟩ = some (.slice (some ⟨b, off, none⟩) p.ls.length c4)) ∧ (w'.cell? ⟨b, off + k * 2, none⟩ = some (.string mg) ∧ w'.cell? ⟨b, off + i * 2 + 1, none⟩ = some (.slice la ts.length lc)) ∧ w'.cell? ⟨W.heap.size, k, none⟩ = some (.int .i64 z))) (by kernel_rfl) ?_ (fun hHeld => ?_)
                · exact ⟨⟨k2, k5⟩, ⟨g2, g1⟩, g3⟩
                refine rg_take (v := ?_) 0 rfl (by kernel_rfl) (by kernel_rfl) (by kernel_rfl) (fun _ _ _ h => h) (by kernel_rfl) ?_ (by assumption) ?_
                rotate_left
                · (intro w' hSw; (try dsimp only at hSw); go_simp; first | done | with_reducible rfl)
                simp only [Act.put, List.setIfInBounds_toArray, List.set_cons_zero, List.set_cons_succ]
                refine rg_take (v := ?_) 1 rfl (by kernel_rfl) (by kernel_rfl) (by kernel_rfl) (fun _ _ _ h => h) (by kernel_rfl) ?_ (by assumption) ?_
                rotate_left
                · (intro w' hSw; (try dsimp only at hSw); go_simp; first | done | with_reducible rfl)
                simp only [Act.put, List.setIfInBounds_toArray, List.set_cons_zero, List.set_cons_succ]
                refine rg_take (v := ?_) 2 rfl (by kernel_rfl) (by kernel_rfl) (by kernel_rfl) (fun _ _ _ h => h) (by kernel_rfl) ?_ (by assumption) ?_
                rotate_left
                · (intro w' hSw; (try dsimp only at hSw); go_simp; first | done | with_reducible rfl)
                simp only [Act.put, List.setIfInBounds_toArray, List.set_cons_zero, List.set_cons_succ]
                refine rg_take (v := ?_) 3 rfl (by kernel_rfl) (by kernel_rfl) (by kernel_rfl) (fun _ _ _ h => h) (by kernel_rfl) ?_ (by assumption) ?_
                rotate_left
                · (intro w' hSw; (try dsimp only at hSw); go_simp; first | done | with_reducible rfl)
                simp only [Act.put, List.setIfInBounds_toArray, List.set_cons_zero, List.set_cons_succ]
                refine rg_take (v := ?_) 4 rfl (by kernel_rfl) (by kernel_rfl) (by kernel_rfl) (fun _ _ _ h => h) (by kernel_rfl) ?_ (by assumption) ?_
                rotate_left
                · (intro w' hSw; (try dsimp only at hSw); go_simp; first | done | with_reducible rfl)
                simp only [Act.put, List.setIfInBounds_toArray, List.set_cons_zero, List.set_cons_succ]
                refine rg_take (v := ?_) 5 rfl (by kernel_rfl) (by kernel_rfl) (by kernel_rfl) (fun _ _ _ h => h) (by kernel_rfl) ?_ (by assumption) ?_
                rotate_left
                · (intro w' hSw; (try dsimp only at hSw); go_simp; first | done | with_reducible rfl)
                simp only [Act.put, List.setIfInBounds_toArray, List.set_cons_zero, List.set_cons_succ]
                refine rg_take (v := ?_) 6 rfl (by kernel_rfl) (by kernel_rfl) (by kernel_rfl) (fun _ _ _ h => h) (by kernel_rfl) ?_ (by assumption) ?_
                rotate_left
                · (intro w' hSw; (try dsimp only at hSw); go_simp; first | done | with_reducible rfl)
                simp only [Act.put, List.setIfInBounds_toArray, List.set_cons_zero, List.set_cons_succ]
                refine rg_take (v := ?_) 7 rfl (by kernel_rfl) (by kernel_rfl) (by kernel_rfl) (fun _ _ _ h => h) (by kernel_rfl) ?_ (by assumption) ?_
                rotate_left
                · (intro w' hSw; (try dsimp only at hSw); go_simp; first | done | with_reducible rfl)
                simp only [Act.put, List.setIfInBounds_toArray, List.set_cons_zero, List.set_cons_succ]
                refine rg_take (v := ?_) 8 rfl (by kernel_rfl) (by kernel_rfl) (by kernel_rfl) (fun _ _ _ h => h) (by kernel_rfl) ?_ (by assumption) ?_
                rotate_left
                · (intro w' hSw; (try dsimp only at hSw); go_simp; first | done | with_reducible rfl)
                simp only [Act.put, List.setIfInBounds_toArray, List.set_cons_zero, List.set_cons_succ]
                refine rg_take (v := ?_) 9 rfl (by kernel_rfl) (by kernel_rfl) (by kernel_rfl) (fun _ _ _ h => h) (by kernel_rfl) ?_ (by assumption) ?_
                rotate_left
                · (intro w' hSw; (try dsimp only at hSw); go_simp; first | done | with_reducible rfl)
                simp only [Act.put, List.setIfInBounds_toArray, List.set_cons_zero, List.set_cons_succ]
                refine rg_take (v := ?_) 10 rfl (by kernel_rfl) (by kernel_rfl) (by kernel_rfl) (fun _ _ _ h => h) (by kernel_rfl) ?_ (by assumption) ?_
                rotate_left
                · (intro w' hSw; (try dsimp only at hSw); go_simp; first | done | with_reducible rfl)
                simp only [Act.put, List.setIfInBounds_toArray, List.set_cons_zero, List.set_cons_succ]
                refine rg_take (v := ?_) 11 rfl (by kernel_rfl) (by kernel_rfl) (by kernel_rfl) (fun _ _ _ h => h) (by kernel_rfl) ?_ (by assumption) ?_
                rotate_left
                · (intro w' hSw; (try dsimp only at hSw); go_simp; first | done | with_reducible rfl)
                simp only [Act.put, List.setIfInBounds_toArray, List.set_cons_zero, List.set_cons_succ]
                refine rg_take (v := ?_) 12 rfl (by kernel_rfl) (by kernel_rfl) (by kernel_rfl) (fun _ _ _ h => h) (by kernel_rfl) ?_ (by assumption) ?_
                rotate_left
                · (intro w' hSw; (try dsimp only at hSw); go_simp; first | done | with_reducible rfl)
                simp only [Act.put, List.setIfInBounds_toArray, List.set_cons_zero, List.set_cons_succ]
                refine rg_take (v := ?_) 13 rfl (by kernel_rfl) (by kernel_rfl) (by kernel_rfl) (fun _ _ _ h => h) (by kernel_rfl) ?_ (by assumption) ?_
                rotate_left
                · (intro w' hSw; (try dsimp only at hSw); go_simp; first | done | with_reducible rfl)
                simp only [Act.put, List.setIfInBounds_toArray, List.set_cons_zero, List.set_cons_succ]
                refine rg_run 14 rfl (by kernel_rfl) (by kernel_rfl) (fun K hK => ?_)
                go_simp
                refine (HI.out mg _ (H.out.v.below ((below_chain B0.out hb.out).drew))).mono ?_
                rintro e w5 ⟨rfl, hb5⟩
                have hbs : Below wr.heap.size wr w5 := below_chain (Below.refl _ _).drew hb5
                have HB5 := Lib.hid (below_chain hb.out hbs)
                have HO5 := Lib.hid (own_below ho.out hbs)
                replace k2 := cell_later hbs (by exact k2)
                replace k5 := cell_later hbs (by exact k5)
                replace g2 := cell_later hbs (by exact g2)
                replace g1 := cell_later hbs (by exact g1)
                replace g3 := cell_later hbs (by exact g3)
                clear hbs hb5 ho hb k0 k1 k3 k4
                generalize ixS p.vs mg = zi at *
                by_cases hzi : 0 ≤ zi
                · have hzi2 : ¬ zi < 0 := by omega
                  have hzi3 : decide (zi < 0) = false := decide_eq_false hzi2
                  go_wp2
                  clear hHeld
                  refine hK.out _ _ (by exact ⟨⟨k2, k5⟩, ⟨g2, g1⟩, g3⟩) (fun hHeld => ?_)
                  clear hK K
                  try simp only [Act.put, List.setIfInBounds_toArray, List.set_cons_zero, List.set_cons_succ]
                  refine rg_take (v := ?_) 15 rfl (by kernel_rfl) (by kernel_rfl) (by kernel_rfl) (fun _ _ _ h => h) (by kernel_rfl) ?_ (by assumption) ?_
                  rotate_left
                  · (intro w' hSw; (try dsimp only at hSw); go_simp; first | done | with_reducible rfl)
                  simp only [Act.put, List.setIfInBounds_toArray, List.set_cons_zero, List.set_cons_succ]
                  refine rg_take (v := ?_) 16 rfl (by kernel_rfl) (by kernel_rfl) (by kernel_rfl) (fun _ _ _ h => h) (by kernel_rfl) ?_ (by assumption) ?_
                  rotate_left
                  · (intro w' hSw; (try dsimp only at hSw); go_simp; first | done | with_reducible rfl)
                  simp only [Act.put, List.setIfInBounds_toArray, List.set_cons_zero, List.set_cons_succ]
                  refine rg_take (v := ?_) 17 rfl (by kernel_rfl) (by kernel_rfl) (by kernel_rfl) (fun _ _ _ h => h) (by kernel_rfl) ?_ (by assumption) ?_
                  rotate_left
                  · (intro w' hSw; (try dsimp only at hSw); go_simp; first | done | with_reducible rfl)
                  simp only [Act.put, List.setIfInBounds_toArray, List.set_cons_zero, List.set_cons_succ]
                  refine rg_take (v := ?_) 18 rfl (by kernel_rfl) (by kernel_rfl) (by kernel_rfl) (fun _ _ _ h => h) (by kernel_rfl) ?_ (by assumption) ?_
                  rotate_left
                  · (intro w' hSw; (try dsimp only at hSw); go_simp; first | done | with_reducible rfl)
                  simp only [Act.put, List.setIfInBounds_toArray, List.set_cons_zero, List.set_cons_succ]
                  refine rg_take (v := ?_) 19 rfl (by kernel_rfl) (by kernel_rfl) (by kernel_rfl) (fun _ _ _ h => h) (by kernel_rfl) ?_ (by assumption) ?_
                  rotate_left
                  · (intro w' hSw; (try dsimp only at hSw); go_simp; first | done | with_reducible rfl)
                  simp only [Act.put, List.setIfInBounds_toArray, List.set_cons_zero, List.set_cons_succ]
                  refine rg_take (v := ?_) 20 rfl (by kernel_rfl) (by kernel_rfl) (by kernel_rfl) (fun _ _ _ h => h) (by kernel_rfl) ?_ (by assumption) ?_
                  rotate_left
                  · (intro w' hSw; (try dsimp only at hSw); go_simp; first | done | with_reducible rfl)
                  simp only [Act.put, List.setIfInBounds_toArray, List.set_cons_zero, List.set_cons_succ]
                  refine rg_take (v := ?_) 21 rfl (by kernel_rfl) (by kernel_rfl) (by kernel_rfl) (fun _ _ _ h => h) (by kernel_rfl) ?_ (by assumption) ?_
                  rotate_left
                  · (intro w' hSw; (try dsimp only at hSw); go_simp; first | done | with_reducible rfl)
                  simp only [Act.put, List.setIfInBounds_toArray, List.set_cons_zero, List.set_cons_succ]
                  refine rg_take (v := ?_) 22 rfl (by kernel_rfl) (by kernel_rfl) (by kernel_rfl) (fun _ _ _ h => h) (by kernel_rfl) ?_ (by assumption) ?_
                  rotate_left
                  · (intro w' hSw; (try dsimp only at hSw); go_simp; first | done | with_reducible rfl)
                  simp only [Act.put, List.setIfInBounds_toArray, List.set_cons_zero, List.set_cons_succ]
                  refine rg_take (v := ?_) 23 rfl (by kernel_rfl) (by kernel_rfl) (by kernel_rfl) (fun _ _ _ h => h) (by kernel_rfl) ?_ (by assumption) ?_
                  rotate_left
                  · (intro w' hSw; (try dsimp only at hSw); go_simp; first | done | with_reducible rfl)
                  simp only [Act.put, List.setIfInBounds_toArray, List.set_cons_zero, List.set_cons_succ]
                  refine rg_take (v := ?_) 24 rfl (by kernel_rfl) (by kernel_rfl) (by kernel_rfl) (fun _ _ _ h => h) (by kernel_rfl) ?_ (by assumption) ?_
                  rotate_left
                  · (intro w' hSw; (try dsimp only at hSw); go_simp; first | done | with_reducible rfl)
                  simp only [Act.put, List.setIfInBounds_toArray, List.set_cons_zero, List.set_cons_succ]
                  refine rg_take (v := ?_) 25 rfl (by kernel_rfl) (by kernel_rfl) (by kernel_rfl) (fun _ _ _ h => h) (by kernel_rfl) ?_ (by assumption) ?_
                  rotate_left
                  · (intro w' hSw; (try dsimp only at hSw); go_simp; first | done | with_reducible rfl)
                  simp only [Act.put, List.setIfInBounds_toArray, List.set_cons_zero, List.set_cons_succ]
                  refine rg_take (v := ?_) 26 rfl (by kernel_rfl) (by kernel_rfl) (by kernel_rfl) (fun _ _ _ h => h) (by kernel_rfl) ?_ (by assumption) ?_
                  rotate_left
                  · (intro w' hSw; (try dsimp only at hSw); go_simp; first | done | with_reducible rfl)
                  simp only [Act.put, List.setIfInBounds_toArray, List.set_cons_zero, List.set_cons_succ]
                  refine rg_take (v := ?_) 27 rfl (by kernel_rfl) (by kernel_rfl) (by kernel_rfl) (fun _ _ _ h => h) (by kernel_rfl) ?_ (by assumption) ?_
                  rotate_left
                  · (intro w' hSw; (try dsimp only at hSw); go_simp; first | done | with_reducible rfl)
                  simp only [Act.put, List.setIfInBounds_toArray, List.set_cons_zero, List.set_cons_succ]
                  refine rg_take (v := ?_) 28 rfl (by kernel_rfl) (by kernel_rfl) (by kernel_rfl) (fun _ _ _ h => h) (by kernel_rfl) ?_ (by assumption) ?_
                  rotate_left
                  · (intro w' hSw; (try dsimp only at hSw); go_simp; first | done | with_reducible rfl)
                  simp only [Act.put, List.setIfInBounds_toArray, List.set_cons_zero, List.set_cons_succ]
                  refine rg_take (v := ?_) 29 rfl (by kernel_rfl) (by kernel_rfl) (by kernel_rfl) (fun _ _ _ h => h) (by kernel_rfl) ?_ (by assumption) ?_
                  rotate_left
                  · (intro w' hSw; (try dsimp only at hSw); go_simp; first | done | with_reducible rfl)
                  simp only [Act.put, List.setIfInBounds_toArray, List.set_cons_zero, List.set_cons_succ]
                  refine rg_run 30 rfl (by kernel_rfl) (by kernel_rfl) (fun K hK => ?_)
                  go_simp
                  refine (HU.out tg ts la lc mg _ htl (HROW.out.below (below_chain B0.out HB5.out))).mono ?_
                  rintro e w6 ⟨rfl, hb6⟩
                  have HB6 := Lib.hid (below_chain HB5.out hb6)
                  have HO6 := Lib.hid (own_below HO5.out hb6)
                  replace k2 := cell_later hb6 (by exact k2)
                  replace k5 := cell_later hb6 (by exact k5)
                  replace g2 := cell_later hb6 (by exact g2)
                  replace g1 := cell_later hb6 (by exact g1)
                  replace g3 := cell_later hb6 (by exact g3)
                  clear hb6 HB5 HO5
                  rw [decide_eq_true hzi, Bool.true_and] at HST
                  generalize usB mg ⟨tg, ts⟩ = u at *
                  cases u
                  · have HB1 : Hid (bstK p inp S i ⟨tg, ts⟩ (k + 1) = B) := Lib.hid (by rw [HST.out]; exact if_pos (.inr rfl))
                    clear HST
                    go_wp2
                    clear hHeld
                    refine hK.out _ _ (by exact ⟨⟨k2, k5⟩, ⟨g2, g1⟩, g3⟩) (fun hHeld => ?_)
                    clear hK K
                    try simp only [Act.put, List.setIfInBounds_toArray, List.set_cons_zero, List.set_cons_succ]
                    refine rg_take (v := ?_) 31 rfl (by kernel_rfl) (by kernel_rfl) (by kernel_rfl) (fun _ _ _ h => h) (by kernel_rfl) ?_ (by assumption) ?_
                    rotate_left
                    · (intro w' hSw; (try dsimp only at hSw); go_simp; first | done | with_reducible rfl)
                    simp only [Act.put, List.setIfInBounds_toArray, List.set_cons_zero, List.set_cons_succ]
                    refine rg_take (v := ?_) 32 rfl (by kernel_rfl) (by kernel_rfl) (by kernel_rfl) (fun _ _ _ h => h) (by kernel_rfl) ?_ (by assumption) ?_
                    rotate_left
                    · (intro w' hSw; (try dsimp only at hSw); go_simp; first | done | with_reducible rfl)
                    simp only [Act.put, List.setIfInBounds_toArray, List.set_cons_zero, List.set_cons_succ]
                    refine wpAnyH_done (by kernel_rfl) ?_ _
                    clear hHeld
                    clear k2 k5 g1 g2 g3
                    go_wp2_with (fail)
                    go_roundw
                    case rel => exact ⟨k + 1, by omega, by go_num, by rw [HB1.out], HO6, HB6⟩
                    case measure => simp [intOf]; omega
                  · have HB1 : Hid (bstK p inp S i ⟨tg, ts⟩ (k + 1) = if B = 0 ∨ z + wI i k < B then z + wI i k else B) := Lib.hid (by rw [HST.out]; exact if_neg (by simp [hz0]))
                    clear HST
                    go_wp2
                    clear hHeld
                    refine hK.out _ _ (by exact ⟨⟨k2, k5⟩, ⟨g2, g1⟩, g3⟩) (fun hHeld => ?_)
                    clear hK K
                    try simp only [Act.put, List.setIfInBounds_toArray, List.set_cons_zero, List.set_cons_succ]
                    refine rg_take (v := ?_) 31 rfl (by kernel_rfl) (by kernel_rfl) (by kernel_rfl) (fun _ _ _ h => h) (by kernel_rfl) ?_ (by assumption) ?_
                    rotate_left
                    · (intro w' hSw; (try dsimp only at hSw); go_simp; first | done | with_reducible rfl)
                    simp only [Act.put, List.setIfInBounds_toArray, List.set_cons_zero, List.set_cons_succ]
                    refine rg_take (v := ?_) 32 rfl (by kernel_rfl) (by kernel_rfl) (by kernel_rfl) (fun _ _ _ h => h) (by kernel_rfl) ?_ (by assumption) ?_
                    rotate_left
                    · (intro w' hSw; (try dsimp only at hSw); go_simp; first | done | with_reducible rfl)
                    simp only [Act.put, List.setIfInBounds_toArray, List.set_cons_zero, List.set_cons_succ]
                    refine wpAnyH_done (by kernel_rfl) ?_ _
                    clear hHeld
                    clear k2 k5 g1 g2
                    by_cases hik : i ≤ k
                    · have hik2 : (i : Int) ≤ k := by omega
                      have hw1 : IntKind.i64.wrap (z + 1) = z + 1 := IntWalk.i64_in _ (by omega)
                      rw [HWI.out, if_pos hik] at HB1
                      clear HWI
                      by_cases hB0 : B = 0
                      · subst hB0
                        have HB2 : Hid (bstK p inp S i ⟨tg, ts⟩ (k + 1) = z + 1) := Lib.hid (by rw [HB1.out]; exact if_pos (.inl rfl))
                        clear HB1
                        go_wp2_with (fail)
                        go_roundw
                        case rel => exact ⟨k + 1, by omega, by go_num, by rw [HB2.out], HO6, HB6⟩
                        case measure => simp [intOf]; omega
                      · have eB : (B == 0) = false := by simpa using hB0
                        by_cases hlt : z + 1 < B
                        · have HB2 : Hid (bstK p inp S i ⟨tg, ts⟩ (k + 1) = z + 1) := Lib.hid (by rw [HB1.out]; exact if_pos (.inr hlt))
                          clear HB1 hB0
                          go_wp2_with (fail)
                          go_roundw
                          case rel => exact ⟨k + 1, by omega, by go_num, by rw [HB2.out], HO6, HB6⟩
                          case measure => simp [intOf]; omega
                        · have HB2 : Hid (bstK p inp S i ⟨tg, ts⟩ (k + 1) = B) := Lib.hid (by rw [HB1.out]; exact if_neg (fun h => h.elim hB0 hlt))
                          clear HB1 hB0
                          go_wp2_with (fail)
                          go_roundw
                          case rel => exact ⟨k + 1, by omega, by go_num, by rw [HB2.out], HO6, HB6⟩
                          case measure => simp [intOf]; omega
                    · have hik2 : ¬ (i : Int) ≤ k := by omega
                      rw [HWI.out, if_neg hik, Int.add_zero] at HB1
                      clear HWI
                      by_cases hB0 : B = 0
                      · subst hB0
                        have HB2 : Hid (bstK p inp S i ⟨tg, ts⟩ (k + 1) = z) := Lib.hid (by rw [HB1.out]; exact if_pos (.inl rfl))
                        clear HB1
                        go_wp2_with (fail)
                        go_roundw
                        case rel => exact ⟨k + 1, by omega, by go_num, by rw [HB2.out], HO6, HB6⟩
                        case measure => simp [intOf]; omega
                      · have eB : (B == 0) = false := by simpa using hB0
                        by_cases hlt : z < B
                        · have HB2 : Hid (bstK p inp S i ⟨tg, ts⟩ (k + 1) = z) := Lib.hid (by rw [HB1.out]; exact if_pos (.inr hlt))
                          clear HB1 hB0
                          go_wp2_with (fail)
                          go_roundw
                          case rel => exact ⟨k + 1, by omega, by go_num, by rw [HB2.out], HO6, HB6⟩
                          case measure => simp [intOf]; omega
                        · have HB2 : Hid (bstK p inp S i ⟨tg, ts⟩ (k + 1) = B) := Lib.hid (by rw [HB1.out]; exact if_neg (fun h => h.elim hB0 hlt))
                          clear HB1 hB0
                          go_wp2_with (fail)
                          go_roundw
                          case rel => exact ⟨k + 1, by omega, by go_num, by rw [HB2.out], HO6, HB6⟩
                          case measure => simp [intOf]; omega
                · have hzi2 : zi < 0 := by omega
                  have hzi3 : decide (zi < 0) = true := decide_eq_true hzi2
                  have HB1 : Hid (bstK p inp S i ⟨tg, ts⟩ (k + 1) = B) := Lib.hid (by rw [HST.out, decide_eq_false hzi]; exact if_pos (.inr rfl))
                  clear HST hzi
                  go_wp2
                  clear hHeld
                  refine hK.out _ _ (by exact ⟨⟨k2, k5⟩, ⟨g2, g1⟩, g3⟩) (fun hHeld => ?_)
                  clear hK K
                  try simp only [Act.put, List.setIfInBounds_toArray, List.set_cons_zero, List.set_cons_succ]
                  refine rg_take (v := ?_) 15 rfl (by kernel_rfl) (by kernel_rfl) (by kernel_rfl) (fun _ _ _ h => h) (by kernel_rfl) ?_ (by assumption) ?_
                  rotate_left
                  · (intro w' hSw; (try dsimp only at hSw); go_simp; first | done | with_reducible rfl)
                  simp only [Act.put, List.setIfInBounds_toArray, List.set_cons_zero, List.set_cons_succ]
                  refine rg_take (v := ?_) 16 rfl (by kernel_rfl) (by kernel_rfl) (by kernel_rfl) (fun _ _ _ h => h) (by kernel_rfl) ?_ (by assumption) ?_
                  rotate_left
                  · (intro w' hSw; (try dsimp only at hSw); go_simp; first | done | with_reducible rfl)
                  simp only [Act.put, List.setIfInBounds_toArray, List.set_cons_zero, List.set_cons_succ]
                  refine rg_take (v := ?_) 17 rfl (by kernel_rfl) (by kernel_rfl) (by kernel_rfl) (fun _ _ _ h => h) (by kernel_rfl) ?_ (by assumption) ?_
                  rotate_left
                  · (intro w' hSw; (try dsimp only at hSw); go_simp; first | done | with_reducible rfl)
                  simp only [Act.put, List.setIfInBounds_toArray, List.set_cons_zero, List.set_cons_succ]
                  refine rg_skip 18 rfl (by kernel_rfl) (by kernel_rfl) (by kernel_rfl) (fun _ _ _ h => h) (by kernel_rfl) (by assumption) ?_
                  simp only [Act.put, List.setIfInBounds_toArray, List.set_cons_zero, List.set_cons_succ]
                  refine rg_skip 19 rfl (by kernel_rfl) (by kernel_rfl) (by kernel_rfl) (fun _ _ _ h => h) (by kernel_rfl) (by assumption) ?_
                  simp only [Act.put, List.setIfInBounds_toArray, List.set_cons_zero, List.set_cons_succ]
                  refine rg_skip 20 rfl (by kernel_rfl) (by kernel_rfl) (by kernel_rfl) (fun _ _ _ h => h) (by kernel_rfl) (by assumption) ?_
                  simp only [Act.put, List.setIfInBounds_toArray, List.set_cons_zero, List.set_cons_succ]
                  refine rg_skip 21 rfl (by kernel_rfl) (by kernel_rfl) (by kernel_rfl) (fun _ _ _ h => h) (by kernel_rfl) (by assumption) ?_
                  simp only [Act.put, List.setIfInBounds_toArray, List.set_cons_zero, List.set_cons_succ]
                  refine rg_skip 22 rfl (by kernel_rfl) (by kernel_rfl) (by kernel_rfl) (fun _ _ _ h => h) (by kernel_rfl) (by assumption) ?_
                  simp only [Act.put, List.setIfInBounds_toArray, List.set_cons_zero, List.set_cons_succ]
                  refine rg_skip 23 rfl (by kernel_rfl) (by kernel_rfl) (by kernel_rfl) (fun _ _ _ h => h) (by kernel_rfl) (by assumption) ?_
                  simp only [Act.put, List.setIfInBounds_toArray, List.set_cons_zero, List.set_cons_succ]
                  refine rg_skip 24 rfl (by kernel_rfl) (by kernel_rfl) (by kernel_rfl) (fun _ _ _ h => h) (by kernel_rfl) (by assumption) ?_
                  simp only [Act.put, List.setIfInBounds_toArray, List.set_cons_zero, List.set_cons_succ]
                  refine rg_skip 25 rfl (by kernel_rfl) (by kernel_rfl) (by kernel_rfl) (fun _ _ _ h => h) (by kernel_rfl) (by assumption) ?_
                  simp only [Act.put, List.setIfInBounds_toArray, List.set_cons_zero, List.set_cons_succ]
                  refine rg_skip 26 rfl (by kernel_rfl) (by kernel_rfl) (by kernel_rfl) (fun _ _ _ h => h) (by kernel_rfl) (by assumption) ?_
                  simp only [Act.put, List.setIfInBounds_toArray, List.set_cons_zero, List.set_cons_succ]
                  refine rg_skip 27 rfl (by kernel_rfl) (by kernel_rfl) (by kernel_rfl) (fun _ _ _ h => h) (by kernel_rfl) (by assumption) ?_
                  simp only [Act.put, List.setIfInBounds_toArray, List.set_cons_zero, List.set_cons_succ]
                  refine rg_skip 28 rfl (by kernel_rfl) (by kernel_rfl) (by kernel_rfl) (fun _ _ _ h => h) (by kernel_rfl) (by assumption) ?_
                  simp only [Act.put, List.setIfInBounds_toArray, List.set_cons_zero, List.set_cons_succ]
                  refine rg_skip 29 rfl (by kernel_rfl) (by kernel_rfl) (by kernel_rfl) (fun _ _ _ h => h) (by kernel_rfl) (by assumption) ?_
                  simp only [Act.put, List.setIfInBounds_toArray, List.set_cons_zero, List.set_cons_succ]
                  refine rg_skip 30 rfl (by kernel_rfl) (by kernel_rfl) (by kernel_rfl) (fun _ _ _ h => h) (by kernel_rfl) (by assumption) ?_
                  simp only [Act.put, List.setIfInBounds_toArray, List.set_cons_zero, List.set_cons_succ]
                  refine rg_skip 31 rfl (by kernel_rfl) (by kernel_rfl) (by kernel_rfl) (fun _ _ _ h => h) (by kernel_rfl) (by assumption) ?_
                  simp only [Act.put, List.setIfInBounds_toArray, List.set_cons_zero, List.set_cons_succ]
                  refine rg_take (v := ?_) 32 rfl (by kernel_rfl) (by kernel_rfl) (by kernel_rfl) (fun _ _ _ h => h) (by kernel_rfl) ?_ (by assumption) ?_
                  rotate_left
                  · (intro w' hSw; (try dsimp only at hSw); go_simp; first | done | with_reducible rfl)
                  simp only [Act.put, List.setIfInBounds_toArray, List.set_cons_zero, List.set_cons_succ]
                  refine wpAnyH_done (by kernel_rfl) ?_ _
                  clear hHeld
                  clear k2 k5 g1 g2 g3
                  go_wp2_with (fail)
                  go_roundw
                  case rel => exact ⟨k + 1, by omega, by go_num, by rw [HB1.out], HO5, HB5⟩
                  case measure => simp [intOf]; omega
              · obtain rfl : k = p.ls.length := by omega
                have f0 := ho.out.frozenAt i
                obtain ⟨old, hold⟩ := own_cell ho.out (j := i) (by omega)
                have hst := (ho.out.stored i (.int .i64 (bstK p inp S i ⟨tg, ts⟩ p.ls.length))).1
                rw [ints_set] at hst
                have HOS := Lib.hid hst
                have HBS9 := Lib.hid (below_set hb.out (.int .i64 (bstK p inp S i ⟨tg, ts⟩ p.ls.length)) (Nat.le_refl _) : Below W.heap.size W (wr.setCell ⟨W.heap.size, i, none⟩ (.int .i64 (bstK p inp S i ⟨tg, ts⟩ p.ls.length))))
                clear hst hbn hbl ho hb k0 k1 k2 k3 k4 g1
                generalize bstK p inp S i ⟨tg, ts⟩ p.ls.length = B at *
                go_wp2_with (fail)
                go_roundw
                case rel =>
                  exact ⟨i + 1, by omega, by go_num, Lib.hid (by rw [HRK.out]; exact HOS.out), HBS9⟩
                case measure => simp [intOf]; omega
        · obtain rfl : i = p.ls.length := by omega
          clear k0 k1 k2 k3 k4
          go_wp2_with (fail)
          go_roundw
          case rel =>
            exact ⟨r + 1, by omega, by go_num, Lib.hid (by rw [HRS.out]; exact ho.out), hb⟩
          case measure => simp [intOf]; omega
    · obtain rfl : r = p.ls.length + 1 := by omega
      have HRL := Lib.hid (scnR_len p inp (p.ls.length + 1))
      have hlr2 : ¬ ((p.ls.length + 1 : Nat) : Int) ≤ p.ls.length := by omega
      go_wp2_with (fail)
      go_ret
      exact retZs_of HV.out HRL.out.symm (own_mono ho.out B0.out.size) (below_chain B0.out hb.out)
end Go.Proofs.YtackekfjalaacaaDoor
