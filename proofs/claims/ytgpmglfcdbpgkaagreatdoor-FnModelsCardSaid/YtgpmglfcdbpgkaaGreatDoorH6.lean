/- Contracts and helpers (joined texts, part 6). The conditions stand at each theorem. -/
import Derived.Test.YtgpmglfcdbpgkaaGreatDoorH5
import Derived.Test.YtgpmglfcdbpgkaaGreatDoorMRcD
/- l20Draw. Condition: none but the source. -/
namespace Go.Proofs.YtgpmglfcdbpgkaaGreatDoor
open Go.RowKit

theorem DMd.mono {B base base' : Nat} {w : World} {az ax ar : Option Addr} {cz cs cr sn tn rn : Nat} {m : Mdl} {ds : List RuD} (h : DMd B base w az ax ar cz cs cr sn tn rn m ds) (hb : base' ≤ base) (hB : B < base') : DMd B base' w az ax ar cz cs cr sn tn rn m ds :=
  ⟨⟨own_mono h.o.z hb, own_mono h.o.s hb, own_mono h.o.r hb, h.o.e, fun d hd => (h.o.d d hd).mono hb⟩, h.z, h.s, h.r, h.sep, h.zb, h.rb, hB⟩
set_option maxHeartbeats 2000000 in
set_option maxRecDepth 100000 in
theorem c_l20Draw (B : Nat) (w : World) (h : Src w B) : Calls Tryz.prog 36 #[.pointer (some ⟨B, 0, none⟩)] w (DrMd B 1 10 300 1000 w) := by
  have hBl := h.lt
  have HD := Lib.hid ((DW.start h).alloc hBl (.cells #[.slice none 0 0, .slice none 0 0, .slice none 0 0] 25))
  have HBX : Hid (MBox (w.alloc (.cells #[.slice none 0 0, .slice none 0 0, .slice none 0 0] 25)) w.heap.size w.heap.size (.slice none 0 0) (.slice none 0 0) (.slice none 0 0)) := Lib.hid (mbox_new (w := w) _ _ _)
  clear h
  go_enter Tryz.func36, Tryz.ntmps36
  go_wp2_with (fail)
  refine (c_l20DrawValid B _ HD.out.s).mono ?_
  rintro e w1 ⟨az, ax, ar, cz, cs, cr, sn, tn, rn, m, ds, rfl, hmd, hs1, hs2, ht1, ht2, hr8, hR, hd⟩
  have HK0 : Hid (DKf B w1.heap.size w (w1.alloc (.cells #[.slice az sn cz, .slice ax tn cs, .slice ar rn cr] 25)) az ax ar cz cs cr sn tn rn m ds) := Lib.hid (by
    have hx := hd.own HBX.out hBl
    have hlt := (MBox.c hx).2.2.2.2.2.2.2
    have hd2 := HD.out.then_ hd
    have hB1 : B < w1.heap.size := by omega
    exact ⟨own_mono (mbox_new _ _ _) (by omega), (hmd.mono (by simp) hBl).far ((DW.start hd.s).alloc hB1 _), hs1, by omega, ht1, by omega, by omega, own_below hx (below_alloc (Below.refl _ _) _), hlt, hBl, hd2.alloc hBl _⟩)
  clear hmd hs1 ht1 ht2 hd HD HBX
  go_wp2_with (fail)
  generalize w1.alloc (.cells #[.slice az sn cz, .slice ax tn cs, .slice ar rn cr] 25) = W at HK0 ⊢
  generalize w1.heap.size = p at *
  refine (c_NextD B _ _ HK0.out.d.s (by omega)).mono ?_
  rintro e w2 ⟨r, rfl, hr0, hr1, _, hd⟩
  have HK : Hid (DK B p 4 w w2) := Lib.hid ⟨_, _, _, _, _, _, _, _, _, _, _, HK0.out.then_ hd, hs2, hr8, hR⟩
  clear hd hr1 HK0
  go_upto_if 10 with (fail)
  go_cut [] from 11 to 16 (fun wx => DK B p 4 w wx)
  case first =>
    by_cases hr : r = 0
    · subst hr
      obtain ⟨az, ax, ar, cz, cs, cr, sn, tn, rn, m, ds, hk, hN⟩ := HK.out
      obtain ⟨g, rfl⟩ := hk.formZ
      obtain ⟨b0, b1, b2, _, _, _, _, hplt⟩ := MBox.c hk.b
      have HKf := Lib.hid hk
      clear hk HK
      have hBw := HKf.out.hB
      obtain ⟨old, hold⟩ := Option.isSome_iff_exists.1 (own_has (j := 0) HKf.out.m.o.z (by have := own_cap HKf.out.m.o.z; have := HKf.out.m.z; have := HKf.out.n1; omega))
      have hfr := HKf.out.m.o.z.frozenAt 0
      have hglt := own_ge HKf.out.m.o.z
      have hsn : 0 < sn := by have := HKf.out.n1; omega
      have hsni : (0 : Int) < (sn : Int) := by omega
      go_wp2
      refine wp_region_heldE 6 (S := (fun w' => w'.cell? ⟨p, 0, none⟩ = some (Value.slice (some ⟨g, 0, none⟩) sn cz))) (by kernel_rfl) ?_ (fun hHeld => ?_)
      · exact b0
      refine rgE_take (v := ?_) 0 12 rfl (by kernel_rfl) (by kernel_rfl) (by kernel_rfl) (by kernel_rfl) (by kernel_rfl) (fun _ _ _ h => h) (by kernel_rfl) ?_ (by assumption) ?_
      rotate_left
      · (intro w' hSw; (try dsimp only at hSw); go_simp; first | done | with_reducible rfl)
      simp only [Act.put, List.setIfInBounds_toArray, List.set_cons_zero, List.set_cons_succ]
      refine rgE_take (v := ?_) 1 12 rfl (by kernel_rfl) (by kernel_rfl) (by kernel_rfl) (by kernel_rfl) (by kernel_rfl) (fun _ _ _ h => h) (by kernel_rfl) ?_ (by assumption) ?_
      rotate_left
      · (intro w' hSw; (try dsimp only at hSw); go_simp; first | done | with_reducible rfl)
      simp only [Act.put, List.setIfInBounds_toArray, List.set_cons_zero, List.set_cons_succ]
      refine rgE_take (v := ?_) 2 12 rfl (by kernel_rfl) (by kernel_rfl) (by kernel_rfl) (by kernel_rfl) (by kernel_rfl) (fun _ _ _ h => h) (by kernel_rfl) ?_ (by assumption) ?_
      rotate_left
      · (intro w' hSw; (try dsimp only at hSw); go_simp; first | done | with_reducible rfl)
      simp only [Act.put, List.setIfInBounds_toArray, List.set_cons_zero, List.set_cons_succ]
      refine rgE_run 3 rfl (by kernel_rfl) (by kernel_rfl) (by decide) (fun K hK => ?_)
      go_simp
      replace b0 := cell_later (below_alloc (Below.refl _ w2) (Obj.cells #[Value.int .i64 0, Value.int .i64 32, Value.int .i64 33] 2)) (by exact b0)
      have HK1 := Lib.hid ((HKf.out.alloc (Obj.cells #[Value.int .i64 0, Value.int .i64 32, Value.int .i64 33] 2)).drew)
      clear hHeld
      refine hK.out _ _ (.inr b0) (fun hHeld => ?_)
      clear hK K
      try simp only [Act.put, List.setIfInBounds_toArray, List.set_cons_zero, List.set_cons_succ]
      refine rgE_run 4 rfl (by kernel_rfl) (by kernel_rfl) (by decide) (fun K hK => ?_)
      go_simp
      refine (c_PickIn B _ _ 3 [0, 32, 33] _ HK1.out.d.s (by omega) rfl (by omega) (by omega) (by exact rd_lit3 w2 0 32 33)).mono ?_
      rintro e w3 ⟨z, hz, rfl, hd⟩
      have hz2 : z ≤ 9223372036854775807 := by simp at hz; omega
      have HK2 := Lib.hid (HK1.out.then_ hd)
      have HK3 := Lib.hid (HK2.out.setZ hz2)
      replace b0 := hd.cell (by exact b0) (by have := HKf.out.bl; have := HKf.out.lt; omega)
      have hfr2 := HK2.out.m.o.z.frozenAt 0
      obtain ⟨old2, hold2⟩ := Option.isSome_iff_exists.1 (own_has (j := 0) HK2.out.m.o.z (by have := own_cap HK2.out.m.o.z; have := HK2.out.m.z; have := HK2.out.n1; omega))
      clear hd hz HK1 hold hfr
      go_wp2
      clear hHeld
      refine hK.out _ _ (.inr b0) (fun hHeld => ?_)
      clear hK K
      try simp only [Act.put, List.setIfInBounds_toArray, List.set_cons_zero, List.set_cons_succ]
      refine rgE_take (v := ?_) 5 12 rfl (by kernel_rfl) (by kernel_rfl) (by kernel_rfl) (by kernel_rfl) (by kernel_rfl) (fun _ _ _ h => h) (by kernel_rfl) ?_ (by assumption) ?_
      rotate_left
      · (intro w' hSw; (try dsimp only at hSw); go_simp; first | done | with_reducible rfl)
      simp only [Act.put, List.setIfInBounds_toArray, List.set_cons_zero, List.set_cons_succ]
      refine rgE_last rfl (by kernel_rfl) (by kernel_rfl) (by kernel_rfl) (fun K hK => ?_)
      go_simp
      go_simp
      clear hHeld
      refine hK.out _ _ ?_
      clear hK K
      try simp only [Act.put, List.setIfInBounds_toArray, List.set_cons_zero, List.set_cons_succ]
      go_wp2
      go_meet
      case rel => exact ⟨_, _, _, _, _, _, _, _, _, _, _, HK3.out, hN⟩
    · have hrb : (r == 0) = false := by simpa using hr
      go_wp2
      go_meet
      case rel => exact HK.out
  case rest =>
    clear HK
    obtain ⟨wA, rfl⟩ : ∃ wA, wA = wc := ⟨_, rfl⟩
    have HK := Lib.hid hcut
    have hBw : B < wA.heap.size := by obtain ⟨_, _, _, _, _, _, _, _, _, _, _, hk, _⟩ := HK.out; exact hk.hB
    have hsrc : Src wA B := by obtain ⟨_, _, _, _, _, _, _, _, _, _, _, hk, _⟩ := HK.out; exact hk.d.s
    clear hcut
    clear hr0
    go_wp2_with (fail)
    refine (c_NextD B _ _ hsrc (by omega)).mono ?_
    rintro e w2 ⟨r, rfl, hr0, hr1, _, hd⟩
    have HK1 : Hid (DK B p 4 w w2) := Lib.hid (by obtain ⟨az, ax, ar, cz, cs, cr, sn, tn, rn, m, ds, hk, hN⟩ := HK.out; exact ⟨_, _, _, _, _, _, _, _, _, _, _, hk.then_ hd, hN⟩)
    clear hd hr1 HK hsrc hBw
    go_upto_if 19 with (fail)
    go_cut [] from 20 to 30 (fun wx => DK B p 4 w wx)
    case first =>
      by_cases hr : r = 0
      · subst hr
        obtain ⟨az, ax, ar, cz, cs, cr, sn, tn, rn, m, ds, hk, hN⟩ := HK1.out
        obtain ⟨g, rfl⟩ := hk.formZ
        obtain ⟨g2, rfl⟩ := hk.formS
        obtain ⟨b0, b1, b2, _, _, _, _, hplt⟩ := MBox.c hk.b
        have HKf := Lib.hid hk
        clear hk HK1
        have hBw := HKf.out.hB
        obtain ⟨y, hy⟩ : ∃ z, m.sz[0]? = some z := ⟨_, List.getElem?_eq_getElem (by have := HKf.out.m.z; have := HKf.out.n1; omega)⟩
        obtain ⟨zb, zo, hze, _, z0⟩ := (Rd.own HKf.out.m.o.z).int0 hy
        simp only [Option.some.injEq, Addr.mk.injEq, and_true] at hze
        obtain ⟨rfl, rfl⟩ := hze
        have hsn : 0 < sn := by have := HKf.out.n1; omega
        have hsni : (0 : Int) < (sn : Int) := by omega
        have htn : 0 < tn := by have := HKf.out.t1; omega
        have htni : (0 : Int) < (tn : Int) := by omega
        have hplt2 := HKf.out.lt
        have hbl2 := HKf.out.bl
        have hgB : B < g := Nat.lt_of_lt_of_le hbl2 (own_ge HKf.out.m.o.z).1
        clear hy
        go_wp2
        refine wp_region_heldE 10 (S := (fun w' => w'.cell? ⟨p, 0, none⟩ = some (Value.slice (some ⟨g, 0, none⟩) sn cz) ∧ w'.cell? ⟨p, 1, none⟩ = some (Value.slice (some ⟨g2, 0, none⟩) tn cs) ∧ w'.cell? ⟨g, 0, none⟩ = some (.int .i64 y))) (by kernel_rfl) ?_ (fun hHeld => ?_)
        · exact ⟨b0, b1, z0⟩
        refine rgE_take (v := ?_) 0 12 rfl (by kernel_rfl) (by kernel_rfl) (by kernel_rfl) (by kernel_rfl) (by kernel_rfl) (fun _ _ _ h => h) (by kernel_rfl) ?_ (by assumption) ?_
        rotate_left
        · (intro w' hSw; (try dsimp only at hSw); go_simp; first | done | with_reducible rfl)
        simp only [Act.put, List.setIfInBounds_toArray, List.set_cons_zero, List.set_cons_succ]
        refine rgE_take (v := ?_) 1 12 rfl (by kernel_rfl) (by kernel_rfl) (by kernel_rfl) (by kernel_rfl) (by kernel_rfl) (fun _ _ _ h => h) (by kernel_rfl) ?_ (by assumption) ?_
        rotate_left
        · (intro w' hSw; (try dsimp only at hSw); go_simp; first | done | with_reducible rfl)
        simp only [Act.put, List.setIfInBounds_toArray, List.set_cons_zero, List.set_cons_succ]
        refine rgE_take (v := ?_) 2 12 rfl (by kernel_rfl) (by kernel_rfl) (by kernel_rfl) (by kernel_rfl) (by kernel_rfl) (fun _ _ _ h => h) (by kernel_rfl) ?_ (by assumption) ?_
        rotate_left
        · (intro w' hSw; (try dsimp only at hSw); go_simp; first | done | with_reducible rfl)
        simp only [Act.put, List.setIfInBounds_toArray, List.set_cons_zero, List.set_cons_succ]
        refine rgE_take (v := ?_) 3 12 rfl (by kernel_rfl) (by kernel_rfl) (by kernel_rfl) (by kernel_rfl) (by kernel_rfl) (fun _ _ _ h => h) (by kernel_rfl) ?_ (by assumption) ?_
        rotate_left
        · (intro w' hSw; (try dsimp only at hSw); go_simp; first | done | with_reducible rfl)
        simp only [Act.put, List.setIfInBounds_toArray, List.set_cons_zero, List.set_cons_succ]
        refine rgE_take (v := ?_) 4 12 rfl (by kernel_rfl) (by kernel_rfl) (by kernel_rfl) (by kernel_rfl) (by kernel_rfl) (fun _ _ _ h => h) (by kernel_rfl) ?_ (by assumption) ?_
        rotate_left
        · (intro w' hSw; (try dsimp only at hSw); go_simp; first | done | with_reducible rfl)
        simp only [Act.put, List.setIfInBounds_toArray, List.set_cons_zero, List.set_cons_succ]
        refine rgE_take (v := ?_) 5 12 rfl (by kernel_rfl) (by kernel_rfl) (by kernel_rfl) (by kernel_rfl) (by kernel_rfl) (fun _ _ _ h => h) (by kernel_rfl) ?_ (by assumption) ?_
        rotate_left
        · (intro w' hSw; (try dsimp only at hSw); go_simp; first | done | with_reducible rfl)
        simp only [Act.put, List.setIfInBounds_toArray, List.set_cons_zero, List.set_cons_succ]
        refine rgE_take (v := ?_) 6 12 rfl (by kernel_rfl) (by kernel_rfl) (by kernel_rfl) (by kernel_rfl) (by kernel_rfl) (fun _ _ _ h => h) (by kernel_rfl) ?_ (by assumption) ?_
        rotate_left
        · (intro w' hSw; (try dsimp only at hSw); go_simp; first | done | with_reducible rfl)
        simp only [Act.put, List.setIfInBounds_toArray, List.set_cons_zero, List.set_cons_succ]
        refine rgE_run 7 rfl (by kernel_rfl) (by kernel_rfl) (by decide) (fun K hK => ?_)
        go_simp
        replace b0 := cell_later (below_alloc (Below.refl _ w2) (Obj.cells #[Value.int .i64 (-1), Value.int .i64 y] 2)) (by exact b0)
        replace b1 := cell_later (below_alloc (Below.refl _ w2) (Obj.cells #[Value.int .i64 (-1), Value.int .i64 y] 2)) (by exact b1)
        replace z0 := cell_later (below_alloc (Below.refl _ w2) (Obj.cells #[Value.int .i64 (-1), Value.int .i64 y] 2)) (by exact z0)
        have HK1 := Lib.hid ((HKf.out.alloc (Obj.cells #[Value.int .i64 (-1), Value.int .i64 y] 2)).drew)
        clear hHeld
        refine hK.out _ _ (.inr ⟨b0, b1, z0⟩) (fun hHeld => ?_)
        clear hK K
        try simp only [Act.put, List.setIfInBounds_toArray, List.set_cons_zero, List.set_cons_succ]
        refine rgE_run 8 rfl (by kernel_rfl) (by kernel_rfl) (by decide) (fun K hK => ?_)
        go_simp
        refine (c_PickIn B _ _ 2 [-1, y] _ HK1.out.d.s (by omega) rfl (by omega) (by omega) (by exact rd_lit2 w2 (-1) y)).mono ?_
        rintro e w3 ⟨z, _, rfl, hd⟩
        have HK2 := Lib.hid (HK1.out.then_ hd)
        have HK3 := Lib.hid (HK2.out.setS z)
        replace b0 := hd.cell (by exact b0) (by omega)
        replace b1 := hd.cell (by exact b1) (by omega)
        replace z0 := hd.cell (by exact z0) (by omega)
        have hfr2 := HK2.out.m.o.s.frozenAt 0
        obtain ⟨old2, hold2⟩ := Option.isSome_iff_exists.1 (own_has (j := 0) HK2.out.m.o.s (by have := own_cap HK2.out.m.o.s; have := HK2.out.m.s; have := HK2.out.t1; omega))
        clear hd HK1
        go_wp2
        clear hHeld
        refine hK.out _ _ (.inr ⟨b0, b1, z0⟩) (fun hHeld => ?_)
        clear hK K
        try simp only [Act.put, List.setIfInBounds_toArray, List.set_cons_zero, List.set_cons_succ]
        refine rgE_take (v := ?_) 9 12 rfl (by kernel_rfl) (by kernel_rfl) (by kernel_rfl) (by kernel_rfl) (by kernel_rfl) (fun _ _ _ h => h) (by kernel_rfl) ?_ (by assumption) ?_
        rotate_left
        · (intro w' hSw; (try dsimp only at hSw); go_simp; first | done | with_reducible rfl)
        simp only [Act.put, List.setIfInBounds_toArray, List.set_cons_zero, List.set_cons_succ]
        refine rgE_last rfl (by kernel_rfl) (by kernel_rfl) (by kernel_rfl) (fun K hK => ?_)
        go_simp
        go_simp
        clear hHeld
        refine hK.out _ _ ?_
        clear hK K
        try simp only [Act.put, List.setIfInBounds_toArray, List.set_cons_zero, List.set_cons_succ]
        go_wp2
        go_meet
        case rel => exact ⟨_, _, _, _, _, _, _, _, _, _, _, HK3.out, hN⟩
      · have hrb : (r == 0) = false := by simpa using hr
        go_wp2
        go_meet
        case rel => exact HK1.out
    case rest =>
      clear HK1
      obtain ⟨wB, rfl⟩ : ∃ wB, wB = wc := ⟨_, rfl⟩
      have HK := Lib.hid hcut
      have hsrc : Src wB B := by obtain ⟨_, _, _, _, _, _, _, _, _, _, _, hk, _⟩ := HK.out; exact hk.d.s
      clear hcut
      clear hr0
      go_wp2_with (fail)
      refine (c_NextD B _ _ hsrc (by omega)).mono ?_
      rintro e w2 ⟨r, rfl, hr0, hr1, _, hd⟩
      have HK1 : Hid (DK B p 4 w w2) := Lib.hid (by obtain ⟨az, ax, ar, cz, cs, cr, sn, tn, rn, m, ds, hk, hN⟩ := HK.out; exact ⟨_, _, _, _, _, _, _, _, _, _, _, hk.then_ hd, hN⟩)
      clear hd hr1 HK hsrc
      go_upto_if 32 with (fail)
      go_cut [] from 33 to 42 (fun wx => DK B p 5 w wx)
      case first =>
        by_cases hr : r = 0
        · subst hr
          obtain ⟨az, ax, ar, cz, cs, cr, sn, tn, rn, m, ds, hk, hN⟩ := HK1.out
          obtain ⟨g, rfl⟩ := hk.formZ
          obtain ⟨b0, b1, b2, _, _, _, _, hplt⟩ := MBox.c hk.b
          have HKf := Lib.hid hk
          have hsn10 := hk.n2
          clear hk HK1
          have hplt2 := HKf.out.lt
          have hbl2 := HKf.out.bl
          have hzlt := (own_ge HKf.out.m.o.z)
          go_wp2
          refine wp_region_heldE 10 (S := (fun w' => w'.cell? ⟨p, 0, none⟩ = some (Value.slice (some ⟨g, 0, none⟩) sn cz) ∧ w'.cell? ⟨p, 1, none⟩ = some (Value.slice ax tn cs) ∧ w'.cell? ⟨p, 2, none⟩ = some (Value.slice ar rn cr))) (by kernel_rfl) ?_ (fun hHeld => ?_)
          · exact ⟨b0, b1, b2⟩
          refine rgE_take (v := ?_) 0 12 rfl (by kernel_rfl) (by kernel_rfl) (by kernel_rfl) (by kernel_rfl) (by kernel_rfl) (fun _ _ _ h => h) (by kernel_rfl) ?_ (by assumption) ?_
          rotate_left
          · (intro w' hSw; (try dsimp only at hSw); go_simp; first | done | with_reducible rfl)
          simp only [Act.put, List.setIfInBounds_toArray, List.set_cons_zero, List.set_cons_succ]
          refine rgE_take (v := ?_) 1 12 rfl (by kernel_rfl) (by kernel_rfl) (by kernel_rfl) (by kernel_rfl) (by kernel_rfl) (fun _ _ _ h => h) (by kernel_rfl) ?_ (by assumption) ?_
          rotate_left
          · (intro w' hSw; (try dsimp only at hSw); go_simp; first | done | with_reducible rfl)
          simp only [Act.put, List.setIfInBounds_toArray, List.set_cons_zero, List.set_cons_succ]
          refine rgE_take (v := ?_) 5 12 rfl (by kernel_rfl) (by kernel_rfl) (by kernel_rfl) (by kernel_rfl) (by kernel_rfl) (fun _ _ _ h => h) (by kernel_rfl) ?_ (by assumption) ?_
          rotate_left
          · (intro w' hSw; (try dsimp only at hSw); go_simp; first | done | with_reducible rfl)
          simp only [Act.put, List.setIfInBounds_toArray, List.set_cons_zero, List.set_cons_succ]
          refine rgE_take (v := ?_) 6 12 rfl (by kernel_rfl) (by kernel_rfl) (by kernel_rfl) (by kernel_rfl) (by kernel_rfl) (fun _ _ _ h => h) (by kernel_rfl) ?_ (by assumption) ?_
          rotate_left
          · (intro w' hSw; (try dsimp only at hSw); go_simp; first | done | with_reducible rfl)
          simp only [Act.put, List.setIfInBounds_toArray, List.set_cons_zero, List.set_cons_succ]
          refine rgE_take (v := ?_) 7 12 rfl (by kernel_rfl) (by kernel_rfl) (by kernel_rfl) (by kernel_rfl) (by kernel_rfl) (fun _ _ _ h => h) (by kernel_rfl) ?_ (by assumption) ?_
          rotate_left
          · (intro w' hSw; (try dsimp only at hSw); go_simp; first | done | with_reducible rfl)
          simp only [Act.put, List.setIfInBounds_toArray, List.set_cons_zero, List.set_cons_succ]
          refine rgE_take (v := ?_) 8 12 rfl (by kernel_rfl) (by kernel_rfl) (by kernel_rfl) (by kernel_rfl) (by kernel_rfl) (fun _ _ _ h => h) (by kernel_rfl) ?_ (by assumption) ?_
          rotate_left
          · (intro w' hSw; (try dsimp only at hSw); go_simp; first | done | with_reducible rfl)
          simp only [Act.put, List.setIfInBounds_toArray, List.set_cons_zero, List.set_cons_succ]
          refine rgE_two 2 3 rfl rfl (by kernel_rfl) (by kernel_rfl) (by kernel_rfl) (by decide) (by decide) (fun K hK => ?_) (fun K hK => ?_)
          · go_simp
            refine (c_l01Own g 0 cz sn m.sz _ HKf.out.m.z.symm (by omega) (by exact (Rd.own HKf.out.m.o.z).drew)).mono ?_
            rintro e w3 ⟨g3, c3, rfl, ho, hb⟩
            have hb' : Below w2.heap.size w2 w3 := below_chain ((Below.refl _ _).drew) hb
            have HO3 : Hid (w3.ownsRow w2.heap.size 2 1 (.slice (some ⟨g3, 0, none⟩) sn c3) sn (ints m.sz)) := Lib.hid ho
            replace b0 := cell_later hb' b0
            replace b1 := cell_later hb' b1
            replace b2 := cell_later hb' b2
            have hs3 := hb'.size
            have HK2 := Lib.hid (HKf.out.then_ ((DW.start HKf.out.d.s).below HKf.out.hB hb'))
            have HDW := Lib.hid (((DW.start HKf.out.d.s).below HKf.out.hB hb').alloc HKf.out.hB (Obj.cells #[Value.int .i64 2] 2))
            clear hb ho hb'
            go_wp2
            clear hHeld
            refine hK.out _ _ (.inr ⟨b0, b1, b2⟩) (fun hHeld => ?_)
            clear hK K
            try simp only [Act.put, List.setIfInBounds_toArray, List.set_cons_zero, List.set_cons_succ]
            refine rgE_run 3 rfl (by kernel_rfl) (by kernel_rfl) (by decide) (fun K hK => ?_)
            go_simp
            replace b0 := cell_later (below_alloc (Below.refl _ w3) (Obj.cells #[Value.int .i64 2] 2)) (by exact b0)
            replace b1 := cell_later (below_alloc (Below.refl _ w3) (Obj.cells #[Value.int .i64 2] 2)) (by exact b1)
            replace b2 := cell_later (below_alloc (Below.refl _ w3) (Obj.cells #[Value.int .i64 2] 2)) (by exact b2)
            have HK4 := Lib.hid (HK2.out.alloc (Obj.cells #[Value.int .i64 2] 2))
            have HO4 := Lib.hid (own_below HO3.out (below_alloc (Below.refl _ w3) (Obj.cells #[Value.int .i64 2] 2)))
            clear hHeld
            refine hK.out _ _ (.inr ⟨b0, b1, b2⟩) (fun hHeld => ?_)
            clear hK K
            try simp only [Act.put, List.setIfInBounds_toArray, List.set_cons_zero, List.set_cons_succ]
            refine rgE_run 4 rfl (by kernel_rfl) (by kernel_rfl) (by decide) (fun K hK => ?_)
            refine wp_push_int _ (.tmp 35) (.tmp 36) rfl w2.heap.size (.slice (some ⟨g3, 0, none⟩) sn c3) sn m.sz 2 w3.heap.size 1 rfl HO4.out rfl (by go_simp) (by omega) (by simp; omega) ?_
            intro g7 c7 w7 ho7 hg7
            have hge := (own_ge HO4.out).1
            have HK7 := Lib.hid (HKf.out.then_ (HDW.out.far HKf.out.hB hg7 (fun q hq => by simp [Value.ownBlock] at hq; omega)))
            have hge7 := (own_ge ho7).1
            have HM7 := HK7.out.m.newZ (zs := m.sz ++ [2]) (by rw [List.length_append, HKf.out.m.z]; rfl) (own_mono ho7 HKf.out.d.g.size) (fun q hq hq2 => by
              have h9 := HKf.out.m.o.s
              rw [HKf.out.m.s] at h9
              have := (h9.lt q hq2).2
              simp [Value.ownBlock] at hq
              omega) (fun z hz => by
              rcases List.mem_append.1 hz with hz | hz
              · exact HKf.out.m.zb z hz
              · rw [List.mem_singleton] at hz; omega)
            have HK8 := Lib.hid (HK7.out.box HM7 (by omega) (by omega) HKf.out.t1 HKf.out.t2 HKf.out.r2)
            replace b0 := hg7.cell (by exact b0) (fun e => by simp [Value.ownBlock] at e; omega)
            replace b1 := hg7.cell (by exact b1) (fun e => by simp [Value.ownBlock] at e; omega)
            replace b2 := hg7.cell (by exact b2) (fun e => by simp [Value.ownBlock] at e; omega)
            obtain ⟨_, _, _, f0, f1, f2, _, _⟩ := MBox.c HK7.out.b
            clear ho7 hg7 HM7
            clear hHeld
            refine hK.out _ _ (.inr ⟨b0, b1, b2⟩) (fun hHeld => ?_)
            clear hK K
            try simp only [Act.put, List.setIfInBounds_toArray, List.set_cons_zero, List.set_cons_succ]
            refine rgE_take (v := ?_) 9 12 rfl (by kernel_rfl) (by kernel_rfl) (by kernel_rfl) (by kernel_rfl) (by kernel_rfl) (fun _ _ _ h => h) (by kernel_rfl) ?_ (by assumption) ?_
            rotate_left
            · (intro w' hSw; (try dsimp only at hSw); go_simp; first | done | with_reducible rfl)
            simp only [Act.put, List.setIfInBounds_toArray, List.set_cons_zero, List.set_cons_succ]
            refine rgE_last rfl (by kernel_rfl) (by kernel_rfl) (by kernel_rfl) (fun K hK => ?_)
            go_simp
            go_simp
            clear hHeld
            refine hK.out _ _ ?_
            clear hK K
            try simp only [Act.put, List.setIfInBounds_toArray, List.set_cons_zero, List.set_cons_succ]
            go_wp2
            go_meet
            case rel => exact ⟨_, _, _, _, _, _, _, _, _, _, _, HK8.out, by omega, hN.2⟩
          · go_simp
            replace b0 := cell_later (below_alloc (Below.refl _ w2) (Obj.cells #[Value.int .i64 2] 2)) (by exact b0)
            replace b1 := cell_later (below_alloc (Below.refl _ w2) (Obj.cells #[Value.int .i64 2] 2)) (by exact b1)
            replace b2 := cell_later (below_alloc (Below.refl _ w2) (Obj.cells #[Value.int .i64 2] 2)) (by exact b2)
            have HK2 := Lib.hid ((HKf.out.alloc (Obj.cells #[Value.int .i64 2] 2)).drew)
            have q0 : (w2.alloc (Obj.cells #[Value.int .i64 2] 2)).cell? ⟨w2.heap.size, 0, none⟩ = some (.int .i64 2) := by go_simp
            clear hHeld
            refine hK.out _ _ (.inr ⟨b0, b1, b2⟩) (fun hHeld => ?_)
            clear hK K
            try simp only [Act.put, List.setIfInBounds_toArray, List.set_cons_zero, List.set_cons_succ]
            refine rgE_run 2 rfl (by kernel_rfl) (by kernel_rfl) (by decide) (fun K hK => ?_)
            go_simp
            refine (c_l01Own g 0 cz sn m.sz _ HKf.out.m.z.symm (by omega) (Rd.own HK2.out.m.o.z)).mono ?_
            rintro e w3 ⟨g3, c3, rfl, ho, hb⟩
            replace b0 := cell_later hb (by exact b0)
            replace b1 := cell_later hb (by exact b1)
            replace b2 := cell_later hb (by exact b2)
            replace q0 := cell_later hb (by exact q0)
            have HO4 : Hid (w3.ownsRow w2.heap.size 2 1 (.slice (some ⟨g3, 0, none⟩) sn c3) sn (ints m.sz)) := Lib.hid (own_mono ho (by show w2.heap.size ≤ (w2.alloc (Obj.cells #[Value.int .i64 2] 2)).heap.size; simp))
            have hs3 : w2.heap.size ≤ w3.heap.size := Nat.le_trans (by show w2.heap.size ≤ (w2.alloc (Obj.cells #[Value.int .i64 2] 2)).heap.size; simp) hb.size
            have HDW := Lib.hid ((((DW.start HKf.out.d.s).alloc HKf.out.hB (Obj.cells #[Value.int .i64 2] 2)).drew HKf.out.hB).below HKf.out.hB hb)
            clear hb ho
            go_wp2
            clear hHeld
            refine hK.out _ _ (.inr ⟨b0, b1, b2⟩) (fun hHeld => ?_)
            clear hK K
            try simp only [Act.put, List.setIfInBounds_toArray, List.set_cons_zero, List.set_cons_succ]
            refine rgE_run 4 rfl (by kernel_rfl) (by kernel_rfl) (by decide) (fun K hK => ?_)
            refine wp_push_int _ (.tmp 35) (.tmp 36) rfl w2.heap.size (.slice (some ⟨g3, 0, none⟩) sn c3) sn m.sz 2 w2.heap.size 1 rfl HO4.out rfl q0 (by omega) (by omega) ?_
            intro g7 c7 w7 ho7 hg7
            have hge := (own_ge HO4.out).1
            have HK7 := Lib.hid (HKf.out.then_ (HDW.out.far HKf.out.hB hg7 (fun q hq => by simp [Value.ownBlock] at hq; omega)))
            have hge7 := (own_ge ho7).1
            have HM7 := HK7.out.m.newZ (zs := m.sz ++ [2]) (by rw [List.length_append, HKf.out.m.z]; rfl) (own_mono ho7 HKf.out.d.g.size) (fun q hq hq2 => by
              have h9 := HKf.out.m.o.s
              rw [HKf.out.m.s] at h9
              have := (h9.lt q hq2).2
              simp [Value.ownBlock] at hq
              omega) (fun z hz => by
              rcases List.mem_append.1 hz with hz | hz
              · exact HKf.out.m.zb z hz
              · rw [List.mem_singleton] at hz; omega)
            have HK8 := Lib.hid (HK7.out.box HM7 (by omega) (by omega) HKf.out.t1 HKf.out.t2 HKf.out.r2)
            replace b0 := hg7.cell (by exact b0) (fun e => by simp [Value.ownBlock] at e; omega)
            replace b1 := hg7.cell (by exact b1) (fun e => by simp [Value.ownBlock] at e; omega)
            replace b2 := hg7.cell (by exact b2) (fun e => by simp [Value.ownBlock] at e; omega)
            obtain ⟨_, _, _, f0, f1, f2, _, _⟩ := MBox.c HK7.out.b
            clear ho7 hg7 HM7
            clear hHeld
            refine hK.out _ _ (.inr ⟨b0, b1, b2⟩) (fun hHeld => ?_)
            clear hK K
            try simp only [Act.put, List.setIfInBounds_toArray, List.set_cons_zero, List.set_cons_succ]
            refine rgE_take (v := ?_) 9 12 rfl (by kernel_rfl) (by kernel_rfl) (by kernel_rfl) (by kernel_rfl) (by kernel_rfl) (fun _ _ _ h => h) (by kernel_rfl) ?_ (by assumption) ?_
            rotate_left
            · (intro w' hSw; (try dsimp only at hSw); go_simp; first | done | with_reducible rfl)
            simp only [Act.put, List.setIfInBounds_toArray, List.set_cons_zero, List.set_cons_succ]
            refine rgE_last rfl (by kernel_rfl) (by kernel_rfl) (by kernel_rfl) (fun K hK => ?_)
            go_simp
            go_simp
            clear hHeld
            refine hK.out _ _ ?_
            clear hK K
            try simp only [Act.put, List.setIfInBounds_toArray, List.set_cons_zero, List.set_cons_succ]
            go_wp2
            go_meet
            case rel => exact ⟨_, _, _, _, _, _, _, _, _, _, _, HK8.out, by omega, hN.2⟩
        · have hrb : (r == 0) = false := by simpa using hr
          go_wp2
          go_meet
          case rel => obtain ⟨az, ax, ar, cz, cs, cr, sn, tn, rn, m, ds, hk, hN⟩ := HK1.out; exact ⟨_, _, _, _, _, _, _, _, _, _, _, hk, by omega, hN.2⟩
      case rest =>
        clear HK1
        obtain ⟨wC, rfl⟩ : ∃ wC, wC = wc := ⟨_, rfl⟩
        obtain ⟨az, ax, ar, cz, cs, cr, sn, tn, rn, m, ds, hk, hN⟩ := hcut
        obtain ⟨b0, b1, b2, _, _, _, hpw, hplt⟩ := MBox.c hk.b
        have HKf := Lib.hid hk
        have HNN := Lib.hid hN
        have hrn8 := hN.2.1
        clear hk hN
        go_upto_if 46 with (fail)
        go_cut [4, 5, 46] from 47 to 116 (fun u v u46 wx => ∃ az ax ar cz cs cr sn tn rn m ds, DKf B p w wx az ax ar cz cs cr sn tn rn m ds)
        case first =>
          by_cases hrn : rn = 0
          · subst hrn
            go_wp2
            go_meet
            case rel => exact ⟨_, _, _, _, _, _, _, _, _, _, _, HKf.out⟩
          · have hrp : (0 : Int) < (rn : Int) := by omega
            obtain ⟨d0, hd0⟩ : ∃ d, ds[0]? = some d := ⟨_, List.getElem?_eq_getElem (by
              have h1 := HKf.out.m.r
              rw [← HKf.out.m.o.e, List.length_map] at h1
              omega)⟩
            have hmem0 := List.mem_of_getElem? hd0
            obtain ⟨u0, u1, u2⟩ := rudCells_at hd0
            obtain ⟨rb, ro, hre, hrl, hrc⟩ := (Rd.own HKf.out.m.o.r).some_ (by intro e; rw [e] at u0; simp at u0)
            have s0 := hrc _ _ u0
            have s1 := hrc _ _ u1
            have s2 := hrc _ _ u2
            simp only [Nat.zero_mul, Nat.zero_add, Nat.add_zero] at s0 s1 s2
            subst hre
            dsimp only [RuD.vg, RuD.ve] at s1 s2
            clear u0 u1 u2 hrc hd0
            have hqa := HKf.out.m.o.r.lt
            have HR0 : Hid (DRf B p wC.heap.size w (wC.alloc (.cells #[.string d0.r.nm, .slice d0.ag d0.r.gs.length d0.cg, .slice d0.ae d0.r.es.length d0.ce] 45)) az ax (some ⟨rb, ro, none⟩) cz cs cr sn tn rn m ds d0) := Lib.hid (by
              have hn := HKf.out.m.o.d d0 hmem0
              have hb := HNN.out.2.2 d0 hmem0
              exact ⟨HKf.out.alloc _, own_mono (rbox_new _ _ _) HKf.out.d.g.size, hn.below (below_alloc (Below.refl _ _) _), by omega, fun x hx => (hqa x (by rw [HKf.out.m.r]; exact hx)).2, by omega, hrn8⟩)
            have hb0 := HNN.out.2.2 d0 hmem0
            clear hqa hmem0
            go_wp2_with (fail)
            refine (c_NextD B _ _ HR0.out.k.d.s (by omega)).mono ?_
            rintro e w2 ⟨r, rfl, hr0, hr1, _, hd⟩
            have HR1 := Lib.hid (HR0.out.then_ hd)
            clear hd HR0 s0 s1 s2 b0 b1 b2 hr0 hr1
            go_upto_block 0 with (fail)
            go_cut [46] from 53 to 90 (fun u46 wx => DR B p wC.heap.size w wx)
            case first =>
              have hdr := HR1.out
              have HD := Lib.hid hdr
              obtain ⟨c0, c1, c2, f0, f1, f2, hqw, hqlt⟩ := hdr.c
              dsimp only [RuD.vg, RuD.ve] at c1 c2
              have hBw := HD.out.k.hB
              have hbl2 := HD.out.k.bl
              clear hdr
              by_cases hr0 : r = 0
              · subst hr0
                go_wp2_with (fail)
                refine (c_NextD B _ _ ((HD.out.k.d.s).alloc _) (by omega)).mono ?_
                rintro e w3 ⟨y, rfl, hy0, hy1, _, hd⟩
                have hy4 := hy1 (by omega)
                obtain ⟨k, rfl⟩ : ∃ k : Nat, y = k := ⟨y.toNat, by omega⟩
                obtain ⟨nm, hnm, g5⟩ := strs4_at (w := w2) k (by omega)
                replace g5 := hd.cell g5 (by omega)
                have HD3 := Lib.hid (HD.out.then_ (((DW.start HD.out.k.d.s).alloc hBw (Obj.cells #[Value.string ⟨#[]⟩, Value.string ⟨#[115, 105, 120, 116, 101, 101, 110, 95, 108, 101, 116, 116, 101, 114, 115, 48]⟩, Value.string ⟨#[115, 101, 118, 101, 110, 116, 101, 101, 110, 95, 108, 101, 116, 116, 101, 114, 115]⟩, Value.string ⟨#[71, 111]⟩] 9)).then_ hd))
                have HD4 := Lib.hid (HD3.out.set (d' := { d0 with r := { d0.r with nm := nm } }) 0 (.string nm) rfl HD3.out.n ⟨HD3.out.g.1, HD3.out.g.2.1, by show nm.size ≤ 1000; omega⟩)
                obtain ⟨c0, c1, c2, f0, f1, f2, _, hqlt3⟩ := HD3.out.c
                clear hd hy0 hy1
                go_wp2_with (fail)
                go_meet
                case rel => exact ⟨_, _, _, _, _, _, _, _, _, _, _, _, HD4.out⟩
              have hr0b : (r == 0) = false := by simpa using hr0
              by_cases hr1 : r = 1
              · subst hr1
                obtain ⟨b0, _, _, _, _, _, _, hplt⟩ := MBox.c HD.out.k.b
                have hw2 := HD.out.k.d.g.size
                have HNA : Hid (d0.ag = none → d0.r.gs.length = 0 ∧ d0.cg = 0) := Lib.hid (fun h => by
                  have hv := HD.out.n.1
                  dsimp only [RuD.vg] at hv
                  rw [h] at hv
                  exact own_none hv)
                have T0 : Hid (T14 B wC.heap.size p w2 w2 (.slice d0.ag d0.r.gs.length d0.cg) (.slice az sn cz)) := Lib.hid ⟨c1, b0, DW.start HD.out.k.d.s⟩
                have hb1 := hb0.1
                go_wp2
                refine wp_region_heldE 11 (S := (fun w' => w'.cell? ⟨wC.heap.size, 1, none⟩ = some (.slice d0.ag d0.r.gs.length d0.cg) ∧ w'.cell? ⟨p, 0, none⟩ = some (.slice az sn cz))) (by kernel_rfl) ?_ (fun hHeld => ?_)
                · exact ⟨c1, b0⟩
                clear c0 c1 c2 f0 f1 f2 b0
                refine rgE_take (v := ?_) 1 12 rfl (by kernel_rfl) (by kernel_rfl) (by kernel_rfl) (by kernel_rfl) (by kernel_rfl) (fun _ _ _ h => h) (by kernel_rfl) ?_ (by assumption) ?_
                rotate_left
                · (intro w' hSw; (try dsimp only at hSw); go_simp; first | done | with_reducible rfl)
                simp only [Act.put, List.setIfInBounds_toArray, List.set_cons_zero, List.set_cons_succ]
                refine rgE_take (v := ?_) 2 12 rfl (by kernel_rfl) (by kernel_rfl) (by kernel_rfl) (by kernel_rfl) (by kernel_rfl) (fun _ _ _ h => h) (by kernel_rfl) ?_ (by assumption) ?_
                rotate_left
                · (intro w' hSw; (try dsimp only at hSw); go_simp; first | done | with_reducible rfl)
                simp only [Act.put, List.setIfInBounds_toArray, List.set_cons_zero, List.set_cons_succ]
                refine rgE_take (v := ?_) 4 12 rfl (by kernel_rfl) (by kernel_rfl) (by kernel_rfl) (by kernel_rfl) (by kernel_rfl) (fun _ _ _ h => h) (by kernel_rfl) ?_ (by assumption) ?_
                rotate_left
                · (intro w' hSw; (try dsimp only at hSw); go_simp; first | done | with_reducible rfl)
                simp only [Act.put, List.setIfInBounds_toArray, List.set_cons_zero, List.set_cons_succ]
                refine rgE_take (v := ?_) 5 12 rfl (by kernel_rfl) (by kernel_rfl) (by kernel_rfl) (by kernel_rfl) (by kernel_rfl) (fun _ _ _ h => h) (by kernel_rfl) ?_ (by assumption) ?_
                rotate_left
                · (intro w' hSw; (try dsimp only at hSw); go_simp; first | done | with_reducible rfl)
                simp only [Act.put, List.setIfInBounds_toArray, List.set_cons_zero, List.set_cons_succ]
                refine rgE_take (v := ?_) 6 12 rfl (by kernel_rfl) (by kernel_rfl) (by kernel_rfl) (by kernel_rfl) (by kernel_rfl) (fun _ _ _ h => h) (by kernel_rfl) ?_ (by assumption) ?_
                rotate_left
                · (intro w' hSw; (try dsimp only at hSw); go_simp; first | done | with_reducible rfl)
                simp only [Act.put, List.setIfInBounds_toArray, List.set_cons_zero, List.set_cons_succ]
                refine rgE_take (v := ?_) 7 12 rfl (by kernel_rfl) (by kernel_rfl) (by kernel_rfl) (by kernel_rfl) (by kernel_rfl) (fun _ _ _ h => h) (by kernel_rfl) ?_ (by assumption) ?_
                rotate_left
                · (intro w' hSw; (try dsimp only at hSw); go_simp; first | done | with_reducible rfl)
                simp only [Act.put, List.setIfInBounds_toArray, List.set_cons_zero, List.set_cons_succ]
                refine rgE_two 0 8 rfl rfl (by kernel_rfl) (by kernel_rfl) (by kernel_rfl) (by decide) (by decide) (fun K hK => ?_) (fun K hK => ?_)
                · go_simp
                  have HE := Lib.hid (tst_nil w2 w2.heap.size (by first | rfl | simp) w2.heap.size (by simp))
                  have T1 := Lib.hid (T0.out.alloc hBw (Obj.cells #[] 90))
                  clear T0
                  have T0 := T1
                  clear T1
                  clear hHeld
                  refine hK.out _ _ (.inr ⟨T0.out.c, T0.out.b⟩) (fun hHeld => ?_)
                  clear hK K
                  try simp only [Act.put, List.setIfInBounds_toArray, List.set_cons_zero, List.set_cons_succ]
                  refine rgE_two 3 8 rfl rfl (by kernel_rfl) (by kernel_rfl) (by kernel_rfl) (by decide) (by decide) (fun K hK => ?_) (fun K hK => ?_)
                  · refine wp_append_tst_any _ (.tmp 63) (.tmp 65) rfl w2.heap.size (.slice (some ⟨w2.heap.size, 0, none⟩) 0 0) 0 [] d0.r.gs d0.ag d0.r.gs.length d0.cg rfl (by exact HE.out) rfl (Rd.own ((T0.out.drew hBw).d.own HD.out.n.1 hbl2)) HNA.out rfl (by omega) (by first | (simp; done) | (simp; omega)) ?_
                    intro v6 w6 hown1 hgrow
                    have HE6 := Lib.hid hown1
                    have T1 := Lib.hid ((T0.out.drew hBw).far hBw hqlt hplt hgrow (fun x hx => by simp [Value.ownBlock] at hx; omega))
                    have hs6 := T1.out.d.g.size
                    clear hown1 hgrow HE
                    rw [List.nil_append] at HE6
                    have HE := HE6
                    clear HE6
                    clear T0
                    have T0 := T1
                    clear T1
                    clear hHeld
                    refine hK.out _ _ (.inr ⟨T0.out.c, T0.out.b⟩) (fun hHeld => ?_)
                    clear hK K
                    try simp only [Act.put, List.setIfInBounds_toArray, List.set_cons_zero, List.set_cons_succ]
                    refine rgE_run 8 rfl (by kernel_rfl) (by kernel_rfl) (by decide) (fun K hK => ?_)
                    go_simp
                    obtain ⟨q0, q1, q2⟩ := tst_lit w6 w6.heap.size (by first | rfl | simp) (sn : Int) 0 false
                    have T1 := Lib.hid (T0.out.alloc hBw (Obj.cells #[.int .i64 (sn : Int), .int .i64 0, .bool false] 90))
                    have HE1 := Lib.hid (own_below HE.out (below_alloc (Below.refl _ w6) (Obj.cells #[.int .i64 (sn : Int), .int .i64 0, .bool false] 90)))
                    clear HE
                    have HE := HE1
                    clear HE1
                    clear T0
                    have T0 := T1
                    clear T1
                    clear hHeld
                    refine hK.out _ _ (.inr ⟨T0.out.c, T0.out.b⟩) (fun hHeld => ?_)
                    clear hK K
                    try simp only [Act.put, List.setIfInBounds_toArray, List.set_cons_zero, List.set_cons_succ]
                    refine rgE_run 9 rfl (by kernel_rfl) (by kernel_rfl) (by decide) (fun K hK => ?_)
                    refine wp_push_tst _ (.tmp 66) (.tmp 71) rfl w2.heap.size v6 (0 + d0.r.gs.length) d0.r.gs ⟨(sn : Int), 0, false⟩ w6.heap.size 1 rfl (by exact HE.out) rfl (by exact q0) (by exact q1) (by exact q2) (by omega) (by first | omega | (simp; omega)) ?_
                    intro v7 w7 hown1 hgrow
                    obtain ⟨Ax, cx, hv7⟩ := own_shape hown1
                    subst hv7
                    have HD7 := Lib.hid (HD.out.then_ (T0.out.d.far hBw hgrow (fun x hx => (HE.out.lt x hx).1)))
                    have HT7 := Lib.hid (own_mono hown1 hw2)
                    have HD8 := Lib.hid (HD7.out.set (d' := { d0 with ag := Ax, cg := cx, r := { d0.r with gs := d0.r.gs ++ [⟨(sn : Int), 0, false⟩] } }) 1 (.slice Ax (0 + d0.r.gs.length + 1) cx) (by simp [RuD.ve, RuD.vg]) ⟨(by have e : (d0.r.gs ++ [(⟨(sn : Int), 0, false⟩ : Tst)]).length = 0 + d0.r.gs.length + 1 := (by simp); dsimp only [RuD.vg]; rw [e]; exact HT7.out), HD7.out.n.2⟩ ⟨(by show (d0.r.gs ++ [(⟨(sn : Int), 0, false⟩ : Tst)]).length ≤ 1000; rw [show (d0.r.gs ++ [(⟨(sn : Int), 0, false⟩ : Tst)]).length = 0 + d0.r.gs.length + 1 by simp]; omega), HD7.out.g.2⟩)
                    have HT1 := Lib.hid (T0.out.far hBw hqlt hplt hgrow (fun x hx => (HE.out.lt x hx).1))
                    obtain ⟨c0, c1, c2, f0, f1, f2, _, hqlt7⟩ := HD7.out.c
                    clear hown1 hgrow
                    clear hHeld
                    refine hK.out _ _ (.inr ⟨HT1.out.c, HT1.out.b⟩) (fun hHeld => ?_)
                    clear hK K
                    try simp only [Act.put, List.setIfInBounds_toArray, List.set_cons_zero, List.set_cons_succ]
                    refine rgE_take (v := ?_) 10 12 rfl (by kernel_rfl) (by kernel_rfl) (by kernel_rfl) (by kernel_rfl) (by kernel_rfl) (fun _ _ _ h => h) (by kernel_rfl) ?_ (by assumption) ?_
                    rotate_left
                    · (intro w' hSw; (try dsimp only at hSw); go_simp; first | done | with_reducible rfl)
                    simp only [Act.put, List.setIfInBounds_toArray, List.set_cons_zero, List.set_cons_succ]
                    refine rgE_last rfl (by kernel_rfl) (by kernel_rfl) (by kernel_rfl) (fun K hK => ?_)
                    go_simp
                    go_simp
                    clear hHeld
                    refine hK.out _ _ ?_
                    clear hK K
                    try simp only [Act.put, List.setIfInBounds_toArray, List.set_cons_zero, List.set_cons_succ]
                    go_wp2
                    go_meet
                    case rel =>
                      have h := HD8.out
                      rw [Nat.zero_add] at h
                      exact ⟨_, _, _, _, _, _, _, _, _, _, _, _, h⟩
                  · go_simp
                    obtain ⟨q0, q1, q2⟩ := tst_lit (w2.alloc (Obj.cells #[] 90)) (w2.heap.size + 1) (by first | rfl | simp) (sn : Int) 0 false
                    have T1 := Lib.hid (T0.out.alloc hBw (Obj.cells #[.int .i64 (sn : Int), .int .i64 0, .bool false] 90))
                    have HE1 := Lib.hid (own_below HE.out (below_alloc (Below.refl _ (w2.alloc (Obj.cells #[] 90))) (Obj.cells #[.int .i64 (sn : Int), .int .i64 0, .bool false] 90)))
                    clear HE
                    have HE := HE1
                    clear HE1
                    clear T0
                    have T0 := T1
                    clear T1
                    clear hHeld
                    refine hK.out _ _ (.inr ⟨T0.out.c, T0.out.b⟩) (fun hHeld => ?_)
                    clear hK K
                    try simp only [Act.put, List.setIfInBounds_toArray, List.set_cons_zero, List.set_cons_succ]
                    refine rgE_run 3 rfl (by kernel_rfl) (by kernel_rfl) (by decide) (fun K hK => ?_)
                    refine wp_append_tst_any _ (.tmp 63) (.tmp 65) rfl w2.heap.size (.slice (some ⟨w2.heap.size, 0, none⟩) 0 0) 0 [] d0.r.gs d0.ag d0.r.gs.length d0.cg rfl (by exact HE.out) rfl (Rd.own ((T0.out.drew hBw).d.own HD.out.n.1 hbl2)) HNA.out rfl (by omega) (by first | (simp; done) | (simp; omega)) ?_
                    intro v6 w6 hown1 hgrow
                    have HE6 := Lib.hid hown1
                    have T1 := Lib.hid ((T0.out.drew hBw).far hBw hqlt hplt hgrow (fun x hx => by simp [Value.ownBlock] at hx; omega))
                    replace q0 := hgrow.cell (by exact q0) (fun e => by simp [Value.ownBlock] at e <;> omega)
                    replace q1 := hgrow.cell (by exact q1) (fun e => by simp [Value.ownBlock] at e <;> omega)
                    replace q2 := hgrow.cell (by exact q2) (fun e => by simp [Value.ownBlock] at e <;> omega)
                    have hs6 := T1.out.d.g.size
                    clear hown1 hgrow HE
                    rw [List.nil_append] at HE6
                    have HE := HE6
                    clear HE6
                    clear T0
                    have T0 := T1
                    clear T1
                    clear hHeld
                    refine hK.out _ _ (.inr ⟨T0.out.c, T0.out.b⟩) (fun hHeld => ?_)
                    clear hK K
                    try simp only [Act.put, List.setIfInBounds_toArray, List.set_cons_zero, List.set_cons_succ]
                    refine rgE_run 9 rfl (by kernel_rfl) (by kernel_rfl) (by decide) (fun K hK => ?_)
                    refine wp_push_tst _ (.tmp 66) (.tmp 71) rfl w2.heap.size v6 (0 + d0.r.gs.length) d0.r.gs ⟨(sn : Int), 0, false⟩ (w2.heap.size + 1) 1 rfl (by exact HE.out) rfl (by exact q0) (by exact q1) (by exact q2) (by omega) (by first | omega | (simp; omega)) ?_
                    intro v7 w7 hown1 hgrow
                    obtain ⟨Ax, cx, hv7⟩ := own_shape hown1
                    subst hv7
                    have HD7 := Lib.hid (HD.out.then_ (T0.out.d.far hBw hgrow (fun x hx => (HE.out.lt x hx).1)))
                    have HT7 := Lib.hid (own_mono hown1 hw2)
                    have HD8 := Lib.hid (HD7.out.set (d' := { d0 with ag := Ax, cg := cx, r := { d0.r with gs := d0.r.gs ++ [⟨(sn : Int), 0, false⟩] } }) 1 (.slice Ax (0 + d0.r.gs.length + 1) cx) (by simp [RuD.ve, RuD.vg]) ⟨(by have e : (d0.r.gs ++ [(⟨(sn : Int), 0, false⟩ : Tst)]).length = 0 + d0.r.gs.length + 1 := (by simp); dsimp only [RuD.vg]; rw [e]; exact HT7.out), HD7.out.n.2⟩ ⟨(by show (d0.r.gs ++ [(⟨(sn : Int), 0, false⟩ : Tst)]).length ≤ 1000; rw [show (d0.r.gs ++ [(⟨(sn : Int), 0, false⟩ : Tst)]).length = 0 + d0.r.gs.length + 1 by simp]; omega), HD7.out.g.2⟩)
                    have HT1 := Lib.hid (T0.out.far hBw hqlt hplt hgrow (fun x hx => (HE.out.lt x hx).1))
                    obtain ⟨c0, c1, c2, f0, f1, f2, _, hqlt7⟩ := HD7.out.c
                    clear hown1 hgrow
                    clear hHeld
                    refine hK.out _ _ (.inr ⟨HT1.out.c, HT1.out.b⟩) (fun hHeld => ?_)
                    clear hK K
                    try simp only [Act.put, List.setIfInBounds_toArray, List.set_cons_zero, List.set_cons_succ]
                    refine rgE_take (v := ?_) 10 12 rfl (by kernel_rfl) (by kernel_rfl) (by kernel_rfl) (by kernel_rfl) (by kernel_rfl) (fun _ _ _ h => h) (by kernel_rfl) ?_ (by assumption) ?_
                    rotate_left
                    · (intro w' hSw; (try dsimp only at hSw); go_simp; first | done | with_reducible rfl)
                    simp only [Act.put, List.setIfInBounds_toArray, List.set_cons_zero, List.set_cons_succ]
                    refine rgE_last rfl (by kernel_rfl) (by kernel_rfl) (by kernel_rfl) (fun K hK => ?_)
                    go_simp
                    go_simp
                    clear hHeld
                    refine hK.out _ _ ?_
                    clear hK K
                    try simp only [Act.put, List.setIfInBounds_toArray, List.set_cons_zero, List.set_cons_succ]
                    go_wp2
                    go_meet
                    case rel =>
                      have h := HD8.out
                      rw [Nat.zero_add] at h
                      exact ⟨_, _, _, _, _, _, _, _, _, _, _, _, h⟩
                · go_simp
                  obtain ⟨q0, q1, q2⟩ := tst_lit w2 w2.heap.size (by first | rfl | simp) (sn : Int) 0 false
                  have T1 := Lib.hid (T0.out.alloc hBw (Obj.cells #[.int .i64 (sn : Int), .int .i64 0, .bool false] 90))
                  clear T0
                  have T0 := T1
                  clear T1
                  clear hHeld
                  refine hK.out _ _ (.inr ⟨T0.out.c, T0.out.b⟩) (fun hHeld => ?_)
                  clear hK K
                  try simp only [Act.put, List.setIfInBounds_toArray, List.set_cons_zero, List.set_cons_succ]
                  refine rgE_run 0 rfl (by kernel_rfl) (by kernel_rfl) (by decide) (fun K hK => ?_)
                  go_simp
                  have HE := Lib.hid (tst_nil (w2.alloc (Obj.cells #[.int .i64 (sn : Int), .int .i64 0, .bool false] 90)) (w2.heap.size + 1) (by first | rfl | simp) w2.heap.size (by simp))
                  have T1 := Lib.hid (T0.out.alloc hBw (Obj.cells #[] 90))
                  replace q0 := cell_later (below_alloc (Below.refl _ (w2.alloc (Obj.cells #[.int .i64 (sn : Int), .int .i64 0, .bool false] 90))) (Obj.cells #[] 90)) (by exact q0)
                  replace q1 := cell_later (below_alloc (Below.refl _ (w2.alloc (Obj.cells #[.int .i64 (sn : Int), .int .i64 0, .bool false] 90))) (Obj.cells #[] 90)) (by exact q1)
                  replace q2 := cell_later (below_alloc (Below.refl _ (w2.alloc (Obj.cells #[.int .i64 (sn : Int), .int .i64 0, .bool false] 90))) (Obj.cells #[] 90)) (by exact q2)
                  clear T0
                  have T0 := T1
                  clear T1
                  clear hHeld
                  refine hK.out _ _ (.inr ⟨T0.out.c, T0.out.b⟩) (fun hHeld => ?_)
                  clear hK K
                  try simp only [Act.put, List.setIfInBounds_toArray, List.set_cons_zero, List.set_cons_succ]
                  refine rgE_run 3 rfl (by kernel_rfl) (by kernel_rfl) (by decide) (fun K hK => ?_)
                  refine wp_append_tst_any _ (.tmp 63) (.tmp 65) rfl w2.heap.size (.slice (some ⟨(w2.heap.size + 1), 0, none⟩) 0 0) 0 [] d0.r.gs d0.ag d0.r.gs.length d0.cg rfl (by exact HE.out) rfl (Rd.own ((T0.out.drew hBw).d.own HD.out.n.1 hbl2)) HNA.out rfl (by omega) (by first | (simp; done) | (simp; omega)) ?_
                  intro v6 w6 hown1 hgrow
                  have HE6 := Lib.hid hown1
                  have T1 := Lib.hid ((T0.out.drew hBw).far hBw hqlt hplt hgrow (fun x hx => by simp [Value.ownBlock] at hx; omega))
                  replace q0 := hgrow.cell (by exact q0) (fun e => by simp [Value.ownBlock] at e <;> omega)
                  replace q1 := hgrow.cell (by exact q1) (fun e => by simp [Value.ownBlock] at e <;> omega)
                  replace q2 := hgrow.cell (by exact q2) (fun e => by simp [Value.ownBlock] at e <;> omega)
                  have hs6 := T1.out.d.g.size
                  clear hown1 hgrow HE
                  rw [List.nil_append] at HE6
                  have HE := HE6
                  clear HE6
                  clear T0
                  have T0 := T1
                  clear T1
                  clear hHeld
                  refine hK.out _ _ (.inr ⟨T0.out.c, T0.out.b⟩) (fun hHeld => ?_)
                  clear hK K
                  try simp only [Act.put, List.setIfInBounds_toArray, List.set_cons_zero, List.set_cons_succ]
                  refine rgE_run 9 rfl (by kernel_rfl) (by kernel_rfl) (by decide) (fun K hK => ?_)
                  refine wp_push_tst _ (.tmp 66) (.tmp 71) rfl w2.heap.size v6 (0 + d0.r.gs.length) d0.r.gs ⟨(sn : Int), 0, false⟩ w2.heap.size 1 rfl (by exact HE.out) rfl (by exact q0) (by exact q1) (by exact q2) (by omega) (by first | omega | (simp; omega)) ?_
                  intro v7 w7 hown1 hgrow
                  obtain ⟨Ax, cx, hv7⟩ := own_shape hown1
                  subst hv7
                  have HD7 := Lib.hid (HD.out.then_ (T0.out.d.far hBw hgrow (fun x hx => (HE.out.lt x hx).1)))
                  have HT7 := Lib.hid (own_mono hown1 hw2)
                  have HD8 := Lib.hid (HD7.out.set (d' := { d0 with ag := Ax, cg := cx, r := { d0.r with gs := d0.r.gs ++ [⟨(sn : Int), 0, false⟩] } }) 1 (.slice Ax (0 + d0.r.gs.length + 1) cx) (by simp [RuD.ve, RuD.vg]) ⟨(by have e : (d0.r.gs ++ [(⟨(sn : Int), 0, false⟩ : Tst)]).length = 0 + d0.r.gs.length + 1 := (by simp); dsimp only [RuD.vg]; rw [e]; exact HT7.out), HD7.out.n.2⟩ ⟨(by show (d0.r.gs ++ [(⟨(sn : Int), 0, false⟩ : Tst)]).length ≤ 1000; rw [show (d0.r.gs ++ [(⟨(sn : Int), 0, false⟩ : Tst)]).length = 0 + d0.r.gs.length + 1 by simp]; omega), HD7.out.g.2⟩)
                  have HT1 := Lib.hid (T0.out.far hBw hqlt hplt hgrow (fun x hx => (HE.out.lt x hx).1))
                  obtain ⟨c0, c1, c2, f0, f1, f2, _, hqlt7⟩ := HD7.out.c
                  clear hown1 hgrow
                  clear hHeld
                  refine hK.out _ _ (.inr ⟨HT1.out.c, HT1.out.b⟩) (fun hHeld => ?_)
                  clear hK K
                  try simp only [Act.put, List.setIfInBounds_toArray, List.set_cons_zero, List.set_cons_succ]
                  refine rgE_take (v := ?_) 10 12 rfl (by kernel_rfl) (by kernel_rfl) (by kernel_rfl) (by kernel_rfl) (by kernel_rfl) (fun _ _ _ h => h) (by kernel_rfl) ?_ (by assumption) ?_
                  rotate_left
                  · (intro w' hSw; (try dsimp only at hSw); go_simp; first | done | with_reducible rfl)
                  simp only [Act.put, List.setIfInBounds_toArray, List.set_cons_zero, List.set_cons_succ]
                  refine rgE_last rfl (by kernel_rfl) (by kernel_rfl) (by kernel_rfl) (fun K hK => ?_)
                  go_simp
                  go_simp
                  clear hHeld
                  refine hK.out _ _ ?_
                  clear hK K
                  try simp only [Act.put, List.setIfInBounds_toArray, List.set_cons_zero, List.set_cons_succ]
                  go_wp2
                  go_meet
                  case rel =>
                    have h := HD8.out
                    rw [Nat.zero_add] at h
                    exact ⟨_, _, _, _, _, _, _, _, _, _, _, _, h⟩
              have hr1b : (r == 1) = false := by simpa using hr1
              by_cases hr2 : r = 2
              · subst hr2
                have hen := HD.out.g.2.1
                have hw2 := HD.out.k.d.g.size
                have HE0 : Hid ((w2.alloc (Obj.cells #[] 47)).ownsRow w2.heap.size 47 2 (.slice (some ⟨w2.heap.size, 0, none⟩) 0 0) 0 (asgCells [])) := Lib.hid (by
                  have := World.ownsRow_made (e := 47) (size := 2) (base := w2.heap.size) w2 #[] 0 (Nat.le_refl _) (Nat.zero_le _) rfl
                  simpa [asgCells] using this)
                have HD3 := Lib.hid (HD.out.then_ ((DW.start HD.out.k.d.s).alloc hBw (Obj.cells #[] 47)))
                obtain ⟨oae, hoae⟩ : ∃ o, o = d0.ae := ⟨_, rfl⟩
                rcases oae with _ | ad
                · have hae := hoae.symm
                  clear hoae
                  have hv := HD.out.n.2
                  dsimp only [RuD.ve] at hv
                  rw [hae] at hv c2
                  obtain ⟨hn0, hc0⟩ := own_none hv
                  rw [hn0, hc0] at c2
                  clear hv hn0 hc0 hae
                  go_wp2_with (first
                    | (at_builtin
                       refine wpList_push_asg _ (by rfl) (.tmp 79) (.tmp 81) (by rfl) w2.heap.size (.slice (some ⟨w2.heap.size, 0, none⟩) 0 0) 0 [] ⟨0, 0⟩ (w2.heap.size + 1) 1 (by rfl) (own_below HE0.out (below_alloc (Below.refl _ _) _)) (by rfl) (by go_simp) (by go_simp) (by omega) (by simp; omega) ?_
                       intro v1 w7 hown1 hgrow
                       obtain ⟨Ax, cx, hv1⟩ := own_shape hown1
                       subst hv1
                       have HD7 := Lib.hid (HD.out.then_ ((((DW.start HD.out.k.d.s).alloc hBw (Obj.cells #[] 47)).alloc hBw (Obj.cells #[.int .i64 0, .int .i64 0] 47)).far hBw hgrow (fun q hq => by simp [Value.ownBlock] at hq; omega)))
                       have HT7 := Lib.hid (own_mono hown1 hw2)
                       have HD8 := Lib.hid (HD7.out.set (d' := { d0 with ae := Ax, ce := cx, r := { d0.r with es := ([] : List Asg) ++ [⟨0, 0⟩] } }) 2 (.slice Ax (0 + 1) cx) (by simp [RuD.ve, RuD.vg]) ⟨HD7.out.n.1, (by have e : (([] : List Asg) ++ [(⟨0, 0⟩ : Asg)]).length = 0 + 1 := (by simp); dsimp only [RuD.ve]; rw [e]; exact HT7.out)⟩ ⟨HD7.out.g.1, (by show (([] : List Asg) ++ [(⟨0, 0⟩ : Asg)]).length ≤ 1000; rw [show (([] : List Asg) ++ [(⟨0, 0⟩ : Asg)]).length = 0 + 1 by simp]; omega), HD7.out.g.2.2⟩)
                       obtain ⟨c0, c1, c2, f0, f1, f2, _, hqlt7⟩ := HD7.out.c
                       clear hown1 hgrow)
                    )
                  go_meet
                  case rel => exact ⟨_, _, _, _, _, _, _, _, _, _, _, _, HD8.out⟩
                · have hae := hoae.symm
                  clear hoae
                  rw [hae] at c2
                  have HRE : Hid (Rd w2 (some ad) (asgCells d0.r.es)) := Lib.hid (by have := (HD.out.n.rd).2; rw [hae] at this; exact this)
                  clear hae
                  go_wp2_with (first
                    | (at_builtin
                       refine wpList_append_asg _ (by rfl) (.tmp 76) (.tmp 78) (by rfl) w2.heap.size (.slice (some ⟨w2.heap.size, 0, none⟩) 0 0) 0 [] d0.r.es ad d0.r.es.length d0.ce (by rfl) HE0.out (by rfl) (HRE.out.alloc _) rfl (by omega) (by simp) ?_
                       intro v1 w6 hown1 hgrow
                       have HE6 := Lib.hid hown1
                       have HDW6 := Lib.hid (((DW.start HD.out.k.d.s).alloc hBw (Obj.cells #[] 47)).far hBw hgrow (fun q hq => by simp [Value.ownBlock] at hq; omega))
                       have hs6 := HDW6.out.g.size
                       clear hown1 hgrow)
                    | (at_builtin
                       refine wpList_push_asg _ (by rfl) (.tmp 79) (.tmp 81) (by rfl) w2.heap.size _ (0 + d0.r.es.length) d0.r.es ⟨0, 0⟩ w6.heap.size 1 (by rfl) (own_below HE6.out (below_alloc (Below.refl _ _) _)) (by rfl) (by go_simp) (by go_simp) (by omega) (by simp; omega) ?_
                       intro v1 w7 hown1 hgrow
                       obtain ⟨Ax, cx, hv1⟩ := own_shape hown1
                       subst hv1
                       have HD7 := Lib.hid (HD.out.then_ ((HDW6.out.alloc hBw (Obj.cells #[.int .i64 0, .int .i64 0] 47)).far hBw hgrow (fun q hq => (HE6.out.lt q hq).1)))
                       have HT7 := Lib.hid (own_mono hown1 hw2)
                       have HD8 := Lib.hid (HD7.out.set (d' := { d0 with ae := Ax, ce := cx, r := { d0.r with es := d0.r.es ++ [⟨0, 0⟩] } }) 2 (.slice Ax (0 + d0.r.es.length + 1) cx) (by simp [RuD.ve, RuD.vg]) ⟨HD7.out.n.1, (by have e : (d0.r.es ++ [(⟨0, 0⟩ : Asg)]).length = 0 + d0.r.es.length + 1 := (by simp); dsimp only [RuD.ve]; rw [e]; exact HT7.out)⟩ ⟨HD7.out.g.1, (by show (d0.r.es ++ [(⟨0, 0⟩ : Asg)]).length ≤ 1000; rw [show (d0.r.es ++ [(⟨0, 0⟩ : Asg)]).length = 0 + d0.r.es.length + 1 by simp]; omega), HD7.out.g.2.2⟩)
                       obtain ⟨c0, c1, c2, f0, f1, f2, _, hqlt7⟩ := HD7.out.c
                       clear hown1 hgrow)
                    )
                  go_meet
                  case rel =>
                    have h := HD8.out
                    rw [Nat.zero_add] at h
                    exact ⟨_, _, _, _, _, _, _, _, _, _, _, _, h⟩
              have hr2b : (r == 2) = false := by simpa using hr2
              by_cases hr3 : r = 3
              · subst hr3
                go_wp2_with (fail)
                refine (c_NextD B _ _ HD.out.k.d.s (by omega)).mono ?_
                rintro e w3 ⟨y, rfl, hy0, hy1, _, hd⟩
                have hy4 := hy1 (by omega)
                have HD3 := Lib.hid (HD.out.then_ hd)
                obtain ⟨c0, c1, c2, f0, f1, f2, _, hqlt3⟩ := HD3.out.c
                have hBw3 := HD3.out.k.hB
                have hw3 := HD3.out.k.d.g.size
                obtain ⟨i0, hi, hz0, hz1, hz2⟩ := info_parts info_iTest
                clear hd
                rcases (by omega : y = 0 ∨ y = 1) with rfl | rfl
                · go_wp2_with (first
                    | (at_make
                       go_loud (refine wpList_make_full _ (by rfl) (.tmp 88) (.tmp 88) _ (by rfl) w.heap.size 90 i0 _ 3 Tryz.underlying42 hi hz0 hz1 .i64 .i64 _ _ 24 (by rfl) (by rfl) (by rfl) (by rfl) (by rw [hz2]; omega) (by unfold maxLen; omega) hw3 ?_)
                       intro w7 hown hgrow
                       have HD7 := Lib.hid (HD3.out.then_ ((DW.start HD3.out.k.d.s).far hBw3 hgrow (by simp)))
                       have HT7 : Hid (w7.ownsRow w.heap.size 90 3 (.slice (some ⟨w3.heap.size, 0, none⟩) 24 24) 24 (tstCells (List.replicate 24 ⟨0, 0, false⟩))) := Lib.hid (by rw [← made_tst]; exact hown)
                       go_loud (have HD8 := Lib.hid (HD7.out.set (d' := { d0 with ag := some ⟨w3.heap.size, 0, none⟩, cg := 24, r := { d0.r with gs := List.replicate 24 ⟨0, 0, false⟩ } }) 1 (.slice (some ⟨w3.heap.size, 0, none⟩) 24 24) rfl ⟨HT7.out, HD7.out.n.2⟩ ⟨by show (List.replicate 24 (⟨0, 0, false⟩ : Tst)).length ≤ 1000; rw [List.length_replicate]; omega, HD7.out.g.2⟩))
                       obtain ⟨c0, c1, c2, f0, f1, f2, _, hqlt7⟩ := HD7.out.c
                       clear hown hgrow)
                    )
                  go_meet
                  case rel => exact ⟨_, _, _, _, _, _, _, _, _, _, _, _, HD8.out⟩
                · go_wp2_with (first
                    | (at_make
                       go_loud (refine wpList_make_full _ (by rfl) (.tmp 88) (.tmp 88) _ (by rfl) w.heap.size 90 i0 _ 3 Tryz.underlying42 hi hz0 hz1 .i64 .i64 _ _ 25 (by rfl) (by rfl) (by rfl) (by rfl) (by rw [hz2]; omega) (by unfold maxLen; omega) hw3 ?_)
                       intro w7 hown hgrow
                       have HD7 := Lib.hid (HD3.out.then_ ((DW.start HD3.out.k.d.s).far hBw3 hgrow (by simp)))
                       have HT7 : Hid (w7.ownsRow w.heap.size 90 3 (.slice (some ⟨w3.heap.size, 0, none⟩) 25 25) 25 (tstCells (List.replicate 25 ⟨0, 0, false⟩))) := Lib.hid (by rw [← made_tst]; exact hown)
                       go_loud (have HD8 := Lib.hid (HD7.out.set (d' := { d0 with ag := some ⟨w3.heap.size, 0, none⟩, cg := 25, r := { d0.r with gs := List.replicate 25 ⟨0, 0, false⟩ } }) 1 (.slice (some ⟨w3.heap.size, 0, none⟩) 25 25) rfl ⟨HT7.out, HD7.out.n.2⟩ ⟨by show (List.replicate 25 (⟨0, 0, false⟩ : Tst)).length ≤ 1000; rw [List.length_replicate]; omega, HD7.out.g.2⟩))
                       obtain ⟨c0, c1, c2, f0, f1, f2, _, hqlt7⟩ := HD7.out.c
                       clear hown hgrow)
                    )
                  go_meet
                  case rel => exact ⟨_, _, _, _, _, _, _, _, _, _, _, _, HD8.out⟩
              have hr3b : (r == 3) = false := by simpa using hr3
              go_wp2
              go_meet
              case rel => exact ⟨_, _, _, _, _, _, _, _, _, _, _, _, HD.out⟩
            case rest =>
              clear HR1
              obtain ⟨wE, rfl⟩ : ∃ wE, wE = wc := ⟨_, rfl⟩
              obtain ⟨az, ax, ar, cz, cs, cr, sn, tn, rn, m, ds, d, hdr⟩ := hcut
              have HD := Lib.hid hdr
              obtain ⟨c0, c1, c2, _, _, _, hqw, hqlt⟩ := hdr.c
              dsimp only [RuD.vg, RuD.ve] at c1 c2
              obtain ⟨b0, b1, b2, _, _, _, _, hplt⟩ := MBox.c hdr.k.b
              have hrow := hdr.k.m.o.r
              rw [hdr.k.m.r] at hrow
              have hr1 := hdr.r1
              have hr2 := hdr.r2
              have hBw := hdr.k.hB
              have hdl : ds.length = rn := by rw [← hdr.k.m.r, ← hdr.k.m.o.e, List.length_map]
              clear hdr
              obtain ⟨g, rfl⟩ : ∃ g, ar = some ⟨g, 0, none⟩ := by
                rcases hrow.2 with ⟨hv, hn⟩ | ⟨g, cap, cur, hv, _⟩
                · omega
                · injection hv with hv _ _
                  exact ⟨g, hv⟩
              have HRR := Lib.hid (Rd.own hrow)
              have HDL := Lib.hid hdl
              have HE0 : Hid ((wE.alloc (Obj.cells #[] 45)).ownsRow wE.heap.size 45 3 (.slice (some ⟨wE.heap.size, 0, none⟩) 0 0) 0 (rudCells [])) := Lib.hid (by
                have := World.ownsRow_made (e := 45) (size := 3) (base := wE.heap.size) wE #[] 0 (Nat.le_refl _) (Nat.zero_le _) rfl
                simpa [rudCells] using this)
              clear hrow hdl
              go_upto_region 20 with (first
                | (at_builtin
                   refine wpList_append_rul _ (by rfl) (.tmp 91) (.tmp 93) (by rfl) wE.heap.size (.slice (some ⟨wE.heap.size, 0, none⟩) 0 0) 0 [] ds ⟨g, 0, none⟩ rn cr (by rfl) HE0.out (by rfl) (HRR.out.alloc _) HDL.out.symm (by omega) (by simp) ?_
                   intro v1 w6 hown1 hgrow
                   have HE6 := Lib.hid hown1
                   have HDW6 := Lib.hid (((DW.start HD.out.k.d.s).alloc hBw (Obj.cells #[] 45)).far hBw hgrow (fun q hq => by simp [Value.ownBlock] at hq; omega))
                   clear hown1 hgrow)
                )
              obtain ⟨g1, cc, hv1⟩ : ∃ g1 cc, v1 = .slice (some ⟨g1, 0, none⟩) (0 + rn) cc := by
                rcases HE6.out.2 with ⟨_, h0⟩ | ⟨g, cap, cur, hv, _⟩
                · omega
                · exact ⟨g, cap, hv⟩
              subst hv1
              rw [Nat.zero_add, List.nil_append] at HE6
              rw [Nat.zero_add]
              obtain ⟨d1, l, hdl⟩ : ∃ d1 l, ds = d1 :: l := by
                rcases hds : ds with _ | ⟨d1, l⟩
                · have := HDL.out; rw [hds] at this; simp at this; omega
                · exact ⟨d1, l, rfl⟩
              have HD6 := Lib.hid (HD.out.then_ HDW6.out)
              have HST := Lib.hid (rul_first (d := d) hdl HE6.out)
              obtain ⟨c0, c1, c2, _, _, _, _, _⟩ := HD6.out.c
              dsimp only [RuD.vg, RuD.ve] at c1 c2
              have f0 := HE6.out.frozenAt 0
              have f1 := HE6.out.frozenAt 1
              have f2 := HE6.out.frozenAt 2
              obtain ⟨o0, e0⟩ := Option.isSome_iff_exists.1 (own_has (j := 0) HE6.out (by have := own_cap HE6.out; omega))
              obtain ⟨o1, e1⟩ := Option.isSome_iff_exists.1 (own_has (j := 1) HE6.out (by have := own_cap HE6.out; omega))
              obtain ⟨o2, e2⟩ := Option.isSome_iff_exists.1 (own_has (j := 2) HE6.out (by have := own_cap HE6.out; omega))
              have hrni : (0 : Int) < (rn : Int) := by omega
              go_upto_region 21 with (fail)
              have HG6 := (own_ge HE6.out).1
              have HDW7 := Lib.hid (HDW6.out.far hBw HST.out.2 (fun q hq => by simp at hq; omega))
              have HRW := HST.out.1
              have hlk : (d :: l).length = rn := by have := (by simpa using congrArg List.length hdl : ds.length = l.length + 1); have := HDL.out; simp; omega
              have HND : Hid (∀ d' ∈ d :: l, Nest wE w.heap.size d' ∧ d'.r.gs.length ≤ 1000 ∧ d'.r.es.length ≤ 1000 ∧ d'.r.nm.size ≤ 1000) := Lib.hid (fun d' hd' => by
                rcases List.mem_cons.1 hd' with rfl | hd'
                · exact ⟨HD.out.n, HD.out.g⟩
                · have hm : d' ∈ ds := by rw [hdl]; exact List.mem_cons_of_mem _ hd'
                  exact ⟨HD.out.k.m.o.d d' hm, HD.out.k.m.rb d' hm⟩)
              clear c0 c1 c2 f0 f1 f2 e0 e1 e2 HST b0 b1 b2
              change Code.wp _ _ _ _ (set3 w6 g1 (Value.string d.r.nm) d.vg d.ve)
              generalize set3 w6 g1 (Value.string d.r.nm) d.vg d.ve = W7 at HDW7 HRW ⊢
              have HRW7 := Lib.hid HRW
              have HLK := Lib.hid hlk
              clear HRW hlk hdl HE6 HD6 HDW6
              go_wp2_with (fail)
              refine (c_NextD B _ _ HDW7.out.s (by omega)).mono ?_
              rintro e w8 ⟨r, rfl, hr0, hr1, _, hd⟩
              have HDW8 := Lib.hid (HDW7.out.then_ hd)
              have HRW8 := Lib.hid (hd.own HRW7.out hBw)
              clear hd hr1 HDW7 HRW7
              go_upto_if 100 with (fail)
              have HND8 : Hid (∀ d' ∈ d :: l, Nest w8 w.heap.size d' ∧ d'.r.gs.length ≤ 1000 ∧ d'.r.es.length ≤ 1000 ∧ d'.r.nm.size ≤ 1000) := Lib.hid (fun d' hd' => ⟨⟨HDW8.out.own (HND.out d' hd').1.1 HD.out.k.bl, HDW8.out.own (HND.out d' hd').1.2 HD.out.k.bl⟩, (HND.out d' hd').2⟩)
              go_cut [5] from 101 to 110 (fun v wx => ∃ (k : Nat) (dl : List RuD), Hid (dl.length = k) ∧ k ≤ 201 ∧ Hid (wx.ownsRow wE.heap.size 45 3 v k (rudCells dl)) ∧ Hid (∀ d' ∈ dl, Nest wx w.heap.size d' ∧ d'.r.gs.length ≤ 1000 ∧ d'.r.es.length ≤ 1000 ∧ d'.r.nm.size ≤ 1000) ∧ Hid (DW B wE wx))
              case first =>
                by_cases hr0 : r = 0
                · subst hr0
                  have hBE := hBw
                  go_wp2
                  go_loopw [5] (fun v wr => ∃ (k : Nat) (dl : List RuD), Hid (dl.length = k) ∧ k ≤ 201 ∧ Hid (wr.ownsRow wE.heap.size 45 3 v k (rudCells dl)) ∧ Hid (∀ d' ∈ dl, Nest wr w.heap.size d' ∧ d'.r.gs.length ≤ 1000 ∧ d'.r.es.length ≤ 1000 ∧ d'.r.nm.size ≤ 1000) ∧ Hid (DW B wE wr)) (fun v _ => 300 - lenV v)
                  case atStart => exact ⟨rn, d :: l, HLK, by omega, HRW8, HND8, HDW8⟩
                  case round =>
                    clear HRW8 HND8 HDW8 HND HLK
                    obtain ⟨k, dl, hdl, hk, ho, hn, hdw⟩ := hrel
                    obtain ⟨A5, c5, hv5⟩ := own_shape ho.out
                    subst hv5
                    go_wp2_with (fail)
                    refine (c_NextD B _ _ hdw.out.s (by omega)).mono ?_
                    rintro e w9 ⟨y, rfl, hy0, hy1, _, hd⟩
                    have hy2 := hy1 (by omega)
                    have HDW9 := Lib.hid (hdw.out.then_ hd)
                    have HO9 := Lib.hid (hd.own ho.out hBE)
                    have HN9 : Hid (∀ d' ∈ dl, Nest w9 w.heap.size d' ∧ d'.r.gs.length ≤ 1000 ∧ d'.r.es.length ≤ 1000 ∧ d'.r.nm.size ≤ 1000) := Lib.hid (fun d' hd' => ⟨⟨hd.own (hn.out d' hd').1.1 HD.out.k.bl, hd.own (hn.out d' hd').1.2 HD.out.k.bl⟩, (hn.out d' hd').2⟩)
                    have hs9 := HDW9.out.g.size
                    clear hd ho hn hdw hy1
                    have hwy : IntKind.i64.wrap (200 + y) = 200 + y := IntWalk.i64_in _ (by omega)
                    by_cases hky : (k : Int) < 200 + y
                    · have hk2 : k ≤ 200 := by omega
                      go_wp2_with (first
                        | (at_builtin
                           refine wpList_push_rul _ (by rfl) (.tmp 107) (.tmp 109) (by rfl) wE.heap.size _ k dl ⟨⟨⟨#[120]⟩, [], []⟩, none, 0, none, 0⟩ w9.heap.size 1 (by rfl) (own_below HO9.out (below_alloc (Below.refl _ _) _)) (by rfl) (by go_simp) (by dsimp only [RuD.vg]; go_simp) (by dsimp only [RuD.ve]; go_simp) (by omega) (by simp; omega) ?_
                           intro v1 wG hown1 hgrow
                           have HOG := Lib.hid hown1
                           have HGG := Lib.hid hgrow
                           clear hown1 hgrow)
                        )
                      go_roundw
                      case rel =>
                        have hO := own_below HO9.out (below_alloc (Below.refl _ _) (Obj.cells #[.string ⟨#[120]⟩, .slice none 0 0, .slice none 0 0] 45))
                        exact ⟨k + 1, _, Lib.hid (by rw [List.length_append, hdl.out]; rfl), by omega, HOG, Lib.hid (fun d' hd' => by
                          rcases List.mem_append.1 hd' with hd' | hd'
                          · have h9 := HN9.out d' hd'
                            exact ⟨⟨own_keep (own_below h9.1.1 (below_alloc (Below.refl _ _) _)) hO (by decide) HGG.out, own_keep (own_below h9.1.2 (below_alloc (Below.refl _ _) _)) hO (by decide) HGG.out⟩, h9.2⟩
                          · rw [List.mem_singleton] at hd'
                            subst hd'
                            exact ⟨⟨World.ownsRow_nil _ _ _ _, World.ownsRow_nil _ _ _ _⟩, by decide, by decide, by decide⟩), Lib.hid ((HDW9.out.alloc hBE _).far hBE HGG.out (fun q hq => (HO9.out.lt q hq).1))⟩
                      case measure =>
                        obtain ⟨A6, c6, hv6⟩ := own_shape HOG.out
                        subst hv6
                        simp [lenV]; omega
                    · go_wp2
                      go_meet
                      case rel => exact ⟨k, dl, hdl, hk, HO9, HN9, HDW9⟩
                · have hr0b : (r == 0) = false := by simpa using hr0
                  go_wp2
                  go_meet
                  case rel => exact ⟨rn, d :: l, HLK, by omega, HRW8, HND8, HDW8⟩
              case rest =>
                obtain ⟨wF, rfl⟩ : ∃ wF, wF = wc := ⟨_, rfl⟩
                obtain ⟨k, dl, hdl, hk, ho, hn, hdw⟩ := hcut
                obtain ⟨A5, c5, hv5⟩ := own_shape ho.out
                subst hv5
                have HKF := Lib.hid (HD.out.k.then_ hdw.out)
                have hM := HKF.out.m.newR hdl.out (own_mono ho.out HD.out.k.d.g.size) hn.out
                have HB := Lib.hid (HKF.out.box hM HKF.out.n1 HKF.out.n2 HKF.out.t1 HKF.out.t2 (by omega))
                obtain ⟨b0, b1, b2, f0, f1, f2, _, hplt⟩ := MBox.c HKF.out.b
                clear hM HND8 HRW8 HDW8 HND
                go_wp2
                go_meet
                case rel => exact ⟨_, _, _, _, _, _, _, _, _, _, _, HB.out⟩
        case rest =>
          clear HKf HNN
          obtain ⟨wD, rfl⟩ : ∃ wD, wD = wc := ⟨_, rfl⟩
          obtain ⟨az, ax, ar, cz, cs, cr, sn, tn, rn, m, ds, hk⟩ := hcut
          obtain ⟨b0, b1, b2, _, _, _, _, hplt⟩ := MBox.c hk.b
          obtain ⟨v0, v1, v2, f0, f1, f2, _, hxlt⟩ := MBox.c hk.x
          have hlt := hk.lt
          have HF := Lib.hid (MBox.set3 hk.x (Value.slice az sn cz) (Value.slice ax tn cs) (Value.slice ar rn cr))
          have HDF : Hid (DW B w (set3 wD w.heap.size (Value.slice az sn cz) (Value.slice ax tn cs) (Value.slice ar rn cr))) := Lib.hid (hk.d.set3 hBl _ _ _ (Nat.le_refl _))
          have HFIN : Hid (DMd B w.heap.size (set3 wD w.heap.size (Value.slice az sn cz) (Value.slice ax tn cs) (Value.slice ar rn cr)) az ax ar cz cs cr sn tn rn m ds) := Lib.hid (by
            have hbo : wD.ownsRow w.heap.size 25 1 (.slice (some ⟨w.heap.size, 0, none⟩) 3 3) 3 _ := hk.x
            have hbx : wD.grownBy (set3 wD w.heap.size (.slice az sn cz) (.slice ax tn cs) (.slice ar rn cr)) (Value.slice (some ⟨w.heap.size, 0, none⟩) 3 3).ownBlock := HF.out.2
            have hm := hk.m
            exact ⟨⟨own_keep hm.o.z hbo (by decide) hbx, own_keep hm.o.s hbo (by decide) hbx, own_keep hm.o.r hbo (by decide) hbx, hm.o.e, fun d hd => ⟨own_keep (hm.o.d d hd).1 hbo (by decide) hbx, own_keep (hm.o.d d hd).2 hbo (by decide) hbx⟩⟩, hm.z, hm.s, hm.r, hm.sep, hm.zb, hm.rb, hm.B⟩)
          have HBD := Lib.hid (And.intro hk.n1 (And.intro hk.n2 (And.intro hk.t1 (And.intro hk.t2 hk.r2))))
          clear hk
          go_wp2_with (fail)
          change bodyPost _ _ _ _ _ (set3 wD w.heap.size (Value.slice az sn cz) (Value.slice ax tn cs) (Value.slice ar rn cr))
          generalize set3 wD w.heap.size (Value.slice az sn cz) (Value.slice ax tn cs) (Value.slice ar rn cr) = WF at HF HDF HFIN ⊢
          obtain ⟨r0, r1, r2, _⟩ := MBox.c HF.out.1
          clear v0 v1 v2 f0 f1 f2 b0 b1 b2
          obtain ⟨hn1, hn2, ht1, ht2, hr2⟩ := HBD.out
          refine bodyPost_ret (v := .agg #[.slice az sn cz, .slice ax tn cs, .slice ar rn cr]) (by simp [results, Tryz.results36, go_sem, r0, r1, r2]) rfl ⟨az, ax, ar, cz, cs, cr, sn, tn, rn, m, ds, rfl, HFIN.out, hn1, hn2, ht1, ht2, hr2, HFIN.out.rb, HDF.out⟩
end Go.Proofs.YtgpmglfcdbpgkaaGreatDoor

/- What the draws of models hand back, in the laws' words. No condition. -/
namespace Go.Proofs.YtgpmglfcdbpgkaaGreatDoor
open Go.RowKit

theorem bytes_later {w w' : World} {A : Option Addr} {n : Nat} (h : Bytes w w.heap.size A n) (hb : Below w.heap.size w w') : Bytes w' w'.heap.size A n := by
  intro j hj
  obtain ⟨b, off, u, e, hb1, hu, hc⟩ := h j hj
  exact ⟨b, off, u, e, Nat.lt_of_lt_of_le hb1 hb.size, hu, cell_later hb hc⟩
theorem DMd.put2 {B base b2 p : Nat} {wD : World} {x y z x' y' z' : Value} {az ax ar : Option Addr} {cz cs cr sn tn rn : Nat} {m : Mdl} {ds : List RuD} (hx : MBox wD base p x y z) (hm : DMd B b2 wD az ax ar cz cs cr sn tn rn m ds) : DMd B b2 (set3 wD p x' y' z') az ax ar cz cs cr sn tn rn m ds := by
  have hbo : wD.ownsRow base 25 1 (.slice (some ⟨p, 0, none⟩) 3 3) 3 _ := hx
  have hbx : wD.grownBy (set3 wD p x' y' z') (Value.slice (some ⟨p, 0, none⟩) 3 3).ownBlock := (MBox.set3 hx x' y' z').2
  exact ⟨⟨own_keep hm.o.z hbo (by decide) hbx, own_keep hm.o.s hbo (by decide) hbx, own_keep hm.o.r hbo (by decide) hbx, hm.o.e, fun d hd => ⟨own_keep (hm.o.d d hd).1 hbo (by decide) hbx, own_keep (hm.o.d d hd).2 hbo (by decide) hbx⟩⟩, hm.z, hm.s, hm.r, hm.sep, hm.zb, hm.rb, hm.B⟩
theorem MOwn.put {base b2 p : Nat} {wD : World} {x y z x' y' z' : Value} {az ax ar : Option Addr} {cz cs cr : Nat} {m : Mdl} {ds : List RuD} (hx : MBox wD base p x y z) (hm : MOwn wD b2 az ax ar cz cs cr m ds) : MOwn (set3 wD p x' y' z') b2 az ax ar cz cs cr m ds :=
  ⟨put_row hm.z hx (by decide), put_row hm.s hx (by decide), put_row hm.r hx (by decide), hm.e, fun d hd => ⟨put_row (hm.d d hd).1 hx (by decide), put_row (hm.d d hd).2 hx (by decide)⟩⟩
/-- The model drawn, in the laws' words. -/
def RetDM (w : World) (e : Ending) (w' : World) : Prop := ∃ az ax ar cz cs cr m ds, e = .returned (mv m az ax ar cz cs cr) ∧ MOk m ∧ MOwn w' w.heap.size az ax ar cz cs cr m ds ∧ Below w.heap.size w w'
def RetDMT (w : World) (e : Ending) (w' : World) : Prop := ∃ az ax ar cz cs cr m ds A c, ∃ ts : List Tst, e = .returned (.tuple #[mv m az ax ar cz cs cr, .slice A ts.length c]) ∧ MOk m ∧ MOwn w' w.heap.size az ax ar cz cs cr m ds ∧ ts.length ≤ 1048576 ∧ w'.ownsRow w.heap.size 90 3 (.slice A ts.length c) ts.length (tstCells ts) ∧ Below w.heap.size w w'
def RetDMV (w : World) (e : Ending) (w' : World) : Prop := ∃ az ax ar cz cs cr m ds A c, ∃ vs : List Int, e = .returned (.tuple #[mv m az ax ar cz cs cr, .slice A vs.length c]) ∧ MOk m ∧ MOwn w' w.heap.size az ax ar cz cs cr m ds ∧ vs.length ≤ 1048576 ∧ w'.ownsRow w.heap.size 2 1 (.slice A vs.length c) vs.length (ints vs) ∧ Below w.heap.size w w'
def RetDMVT (w : World) (e : Ending) (w' : World) : Prop := ∃ az ax ar cz cs cr m ds A c A2 c2, ∃ (vs : List Int) (ts : List Tst), e = .returned (.tuple #[mv m az ax ar cz cs cr, .slice A vs.length c, .slice A2 ts.length c2]) ∧ MOk m ∧ MOwn w' w.heap.size az ax ar cz cs cr m ds ∧ vs.length ≤ 1048576 ∧ w'.ownsRow w.heap.size 2 1 (.slice A vs.length c) vs.length (ints vs) ∧ ts.length ≤ 1048576 ∧ w'.ownsRow w.heap.size 90 3 (.slice A2 ts.length c2) ts.length (tstCells ts) ∧ Below w.heap.size w w'
def RetDMTV (w : World) (e : Ending) (w' : World) : Prop := ∃ az ax ar cz cs cr m ds A c A2 c2, ∃ (ts : List Tst) (vs : List Int), e = .returned (.tuple #[mv m az ax ar cz cs cr, .slice A ts.length c, .slice A2 vs.length c2]) ∧ MOk m ∧ MOwn w' w.heap.size az ax ar cz cs cr m ds ∧ ts.length ≤ 1048576 ∧ w'.ownsRow w.heap.size 90 3 (.slice A ts.length c) ts.length (tstCells ts) ∧ vs.length ≤ 1048576 ∧ w'.ownsRow w.heap.size 2 1 (.slice A2 vs.length c2) vs.length (ints vs) ∧ Below w.heap.size w w'
theorem kept_far2 {w w' : World} {B base p : Nat} {x y z : Value} (h : MBox w base p x y z) (hg : w.grownBy w' (some B)) (hne : ¬ B = p) : MBox w' base p x y z := MBox.kept h hg (fun q hq => by simp at hq; omega)
end Go.Proofs.YtgpmglfcdbpgkaaGreatDoor

/- The draw of a model for its text (printed by DrP.py). Condition: at most 4096 bytes of code. -/
namespace Go.Proofs.YtgpmglfcdbpgkaaGreatDoor
open Go.RowKit

set_option maxHeartbeats 1000000 in
set_option maxRecDepth 100000 in
theorem c_DrawModelText (A : Option Addr) (c n : Nat) (w : World) (hn : n ≤ 4096) (hb : Bytes w w.heap.size A n) : Calls Tryz.prog 11 #[.slice A n c] w (RetDM w) := by
  have HBX : Hid (MBox (w.alloc (.cells #[.slice none 0 0, .slice none 0 0, .slice none 0 0] 25)) w.heap.size w.heap.size (.slice none 0 0) (.slice none 0 0) (.slice none 0 0)) := Lib.hid (mbox_new (w := w) _ _ _)
  have hb1 := bytes_later hb (below_alloc (Below.refl w.heap.size w) (.cells #[.slice none 0 0, .slice none 0 0, .slice none 0 0] 25))
  have HB1 := Lib.hid (below_alloc (Below.refl w.heap.size w) (.cells #[.slice none 0 0, .slice none 0 0, .slice none 0 0] 25))
  clear hb
  go_enter Tryz.func11, Tryz.ntmps11
  go_wp2_with (fail)
  refine (c_From A c n _ hn hb1).mono ?_
  rintro e w1 ⟨rfl, hs, hb⟩
  have HS1 := Lib.hid hs
  have HB2 := Lib.hid (below_chain HB1.out hb)
  have HX1 : Hid (MBox w1 w.heap.size w.heap.size (.slice none 0 0) (.slice none 0 0) (.slice none 0 0)) := Lib.hid (own_below HBX.out hb)
  obtain ⟨B, hBe⟩ : ∃ B, B = (w.alloc (.cells #[.slice none 0 0, .slice none 0 0, .slice none 0 0] 25)).heap.size := ⟨_, rfl⟩
  rw [← hBe] at HS1 ⊢
  have hBw : B = w.heap.size + 1 := by rw [hBe]; simp
  clear hb hs hb1 HB1 HBX hBe
  have HBW := Lib.hid hBw
  have hB0 : w.heap.size < B := by omega
  have hB1 := HS1.out.lt
  clear hBw
  go_wp2_with (fail)
  refine (c_l20Draw B _ HS1.out).mono ?_
  rintro e w2 ⟨az, ax, ar, cz, cs, cr, sn, tn, rn, m, ds, rfl, hmd, hn1, hn2, ht1, ht2, hr2, hR, hd⟩
  clear hR
  have HX3 : Hid (MBox w2 w.heap.size w.heap.size (.slice none 0 0) (.slice none 0 0) (.slice none 0 0)) := Lib.hid (kept_far2 HX1.out hd.g (by omega))
  have HF := Lib.hid (MBox.set3 HX3.out (Value.slice az sn cz) (Value.slice ax tn cs) (Value.slice ar rn cr))
  have HB3 := Lib.hid (below_put (below_of_grown HB2.out hd.g (fun q hq => by simp at hq; omega)) (Value.slice az sn cz) (Value.slice ax tn cs) (Value.slice ar rn cr) (Nat.le_refl _))
  have HFIN := Lib.hid (hmd.put2 HX3.out (x' := Value.slice az sn cz) (y' := Value.slice ax tn cs) (z' := Value.slice ar rn cr))
  obtain ⟨v0, v1, v2, f0, f1, f2, _, hxl⟩ := MBox.c HX3.out
  clear hmd hd
  go_wp2_with (fail)
  change bodyPost _ _ _ _ _ (set3 w2 w.heap.size (Value.slice az sn cz) (Value.slice ax tn cs) (Value.slice ar rn cr))
  generalize set3 w2 w.heap.size (Value.slice az sn cz) (Value.slice ax tn cs) (Value.slice ar rn cr) = WF at HF HB3 HFIN ⊢
  obtain ⟨r0, r1, r2, _⟩ := MBox.c HF.out.1
  clear f0 f1 f2 v0 v1 v2
  have hok := HFIN.out.ok (by omega) (by omega) (by omega)
  have hz := HFIN.out.z
  have hs := HFIN.out.s
  have hr := HFIN.out.r
  have HMD := HFIN.out.o.mono (Nat.le_trans (Nat.le_of_lt hB0) (Nat.le_of_lt hB1))
  clear HFIN
  subst hz
  subst hs
  subst hr
  refine bodyPost_ret (v := mv m az ax ar cz cs cr) (by simp [mv, results, Tryz.results11, go_sem, r0, r1, r2]) rfl ⟨az, ax, ar, cz, cs, cr, m, ds, rfl, hok, HMD, HB3.out⟩
end Go.Proofs.YtgpmglfcdbpgkaaGreatDoor

/- Contracts of the laws' own helpers: big, likeInts, likeLists5, hasInt. Condition: bounded sizes. -/
namespace Go.Proofs.YtgpmglfcdbpgkaaGreatDoor
open Go.RowKit

theorem c_big (A : Option Addr) (c n : Nat) (w : World) : Calls Tryz.prog 10 #[.slice A n c] w fun e w' => e = .returned (.bool (decide (4096 < n))) ∧ w = w' := by
  go_enter Tryz.func10, Tryz.ntmps10
  go_wp2
  go_ret
  exact ⟨ret_bool (by rw [decide_eq_decide]; omega), rfl⟩
theorem take_eq_succ {zs ys : List Int} {k : Nat} {z y : Int} (h : zs.take k = ys.take k) (hz : zs[k]? = some z) (hy : ys[k]? = some y) (e : z = y) : zs.take (k + 1) = ys.take (k + 1) := by
  rw [List.take_add_one, List.take_add_one, h, hz, hy, e]
def likB (zs ys : List Int) : Bool := decide (zs = ys)
theorem likB_ne {zs ys : List Int} {k : Nat} {z y : Int} (hz : zs[k]? = some z) (hy : ys[k]? = some y) (e : ¬ z = y) : likB zs ys = false := by
  unfold likB
  rw [decide_eq_false_iff_not]
  intro h
  rw [h, hy] at hz
  exact e (Option.some.inj hz).symm
theorem likB_len {zs ys : List Int} (h : ¬ zs.length = ys.length) : likB zs ys = false := by
  unfold likB
  rw [decide_eq_false_iff_not]
  intro e
  exact h (by rw [e])
theorem likB_eq {zs ys : List Int} {n : Nat} (h : zs.take n = ys.take n) (h1 : zs.length = n) (h2 : ys.length = n) : likB zs ys = true := by
  unfold likB
  rw [List.take_of_length_le (by omega), List.take_of_length_le (by omega)] at h
  exact decide_eq_true h
set_option maxRecDepth 100000 in
theorem c_likeB (A A' : Option Addr) (c c' n n' : Nat) (zs ys : List Int) (w : World) (hn : n = zs.length) (hn' : n' = ys.length) (hs : n ≤ 1048576) (hs' : n' ≤ 1048576) (hr : Rd w A (ints zs)) (hr' : Rd w A' (ints ys)) :
    Calls Tryz.prog 19 #[.slice A n c, .slice A' n' c'] w fun e w' => e = .returned (.bool (likB zs ys)) ∧ Below w.heap.size w w' := by
  by_cases hnn : n = n'
  · subst hnn
    have HN := Lib.hid hn
    have HN' := Lib.hid hn'
    clear hn hn' hs'
    go_enter Tryz.func19, Tryz.ntmps19
    go_wp2
    go_loopw [5] (fun v wr => ∃ k : Nat, k ≤ n ∧ v = .int .i64 k ∧ Hid (zs.take k = ys.take k) ∧ Below w.heap.size w wr) (fun v _ => n - (intOf v).toNat)
    case atStart => exact ⟨0, Nat.zero_le _, rfl, Lib.hid rfl, by (repeat (first | exact Below.refl _ _ | assumption | refine below_alloc ?_ _ | refine below_drewN ?_ _ | refine below_set ?_ _ (by simp; try omega) | refine Below.drew ?_))⟩
    case round =>
      obtain ⟨k, hk, rfl, ht, hb⟩ := hrel
      by_cases hlt : k < n
      · obtain ⟨z, hz⟩ : ∃ z, zs[k]? = some z := ⟨_, List.getElem?_eq_getElem (by have := HN.out; omega)⟩
        obtain ⟨y, hy⟩ : ∃ z, ys[k]? = some z := ⟨_, List.getElem?_eq_getElem (by have := HN'.out; omega)⟩
        obtain ⟨b1, o1, rfl, _, g1⟩ := (hr.below hb).int hz
        obtain ⟨b2, o2, rfl, _, g2⟩ := (hr'.below hb).int hy
        have hk0 : (0 : Int) ≤ (k : Int) := by omega
        have hk1 : (k : Int) < n := by omega
        have HB := Lib.hid hb
        have HZ := Lib.hid hz
        have HY := Lib.hid hy
        clear hz hy hr hr' hb
        by_cases hzy : z = y
        · subst hzy
          go_wp2_with (fail)
          go_region_held3 (fun w' => w'.cell? ⟨b1, o1 + k, none⟩ = some (.int .i64 z) ∧ w'.cell? ⟨b2, o2 + k, none⟩ = some (.int .i64 z)) (exact ⟨g1, g2⟩) (fail)
          go_wp2_with (fail)
          go_roundw
          case rel => exact ⟨k + 1, by omega, by go_num, Lib.hid (take_eq_succ ht.out HZ.out HY.out rfl), HB.out.drew⟩
          case measure => simp [intOf]; omega
        · have hne : (z != y) = true := by simpa using hzy
          have HL := Lib.hid (likB_ne HZ.out HY.out hzy)
          go_wp2_with (fail)
          go_region_held3 (fun w' => w'.cell? ⟨b1, o1 + k, none⟩ = some (.int .i64 z) ∧ w'.cell? ⟨b2, o2 + k, none⟩ = some (.int .i64 y)) (exact ⟨g1, g2⟩) (fail)
          go_wp2_with (fail)
          go_ret
          exact ⟨by rw [HL.out]; rfl, HB.out.drew⟩
      · obtain rfl : k = n := by omega
        have HL := Lib.hid (likB_eq ht.out HN.out.symm HN'.out.symm)
        go_wp2
        go_ret
        exact ⟨by rw [HL.out]; rfl, hb⟩
  · have HL := Lib.hid (likB_len (zs := zs) (ys := ys) (by omega))
    rw [HL.out]
    have hd : ¬ ((n : Int) = (n' : Int)) := by omega
    clear hn hn'
    go_enter Tryz.func19, Tryz.ntmps19
    go_wp2
    go_ret
    exact ⟨rfl, Below.refl _ _⟩
def memB (zs : List Int) (x : Int) : Bool := decide (x ∈ zs)
theorem memB_yes {zs : List Int} {k : Nat} {z : Int} (hz : zs[k]? = some z) : memB zs z = true := by
  unfold memB
  exact decide_eq_true (List.mem_of_getElem? hz)
theorem memB_no {zs : List Int} {x : Int} {n : Nat} (h : ¬ x ∈ zs.take n) (hn : zs.length ≤ n) : memB zs x = false := by
  unfold memB
  rw [List.take_of_length_le hn] at h
  exact decide_eq_false h
theorem not_take {zs : List Int} {k : Nat} {x z : Int} (h : ¬ x ∈ zs.take k) (hz : zs[k]? = some z) (e : ¬ z = x) : ¬ x ∈ zs.take (k + 1) := by
  rw [List.take_add_one, hz]
  intro hm
  rcases List.mem_append.1 hm with hm | hm
  · exact h hm
  · simp at hm
    exact e hm.symm
end Go.Proofs.YtgpmglfcdbpgkaaGreatDoor
