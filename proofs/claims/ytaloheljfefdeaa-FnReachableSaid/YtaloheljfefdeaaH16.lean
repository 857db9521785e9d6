/- Contracts and helpers (joined texts, part 16). The conditions stand at each theorem. -/
import Derived.Test.YtaloheljfefdeaaH15
import Derived.Test.YtaloheljfefdeaaH7
import Derived.Test.YtaloheljfefdeaaH10
import Derived.RegionTactic
import Derived.ChangeAlike
import Derived.Test.YtaloheljfefdeaaH0
import Derived.Test.YtaloheljfefdeaaFacts
import Derived.ProofKit
import Derived.OpenShut
import Derived.ShutString
import Derived.ChangeOld
import Derived.Deep.Slices
import Derived.Test.YtaloheljfefdeaaH11
/- Draws of models with a trace, as the laws call them. Condition: at most 4096 bytes of code. -/
namespace Go.Proofs.Ytaloheljfefdeaa
open Go.RowKit

theorem wp_make_full (w : World) {o : Oper} {a : Act} {K : Act → World → Prop} {Q : Exit → Act → World → Prop}
    (l c : Operand) (t : TypeId) (hop : o.op = Op.makeSlice t l c)
    (base : Nat) (e : TypeId) (i : TypeInfo) (z : Value) (size : Nat) (h1 : Try.prog.underlying t = some (.slice e)) (h2 : Try.prog.info? e = some i) (h3 : i.zero = some z) (h4 : i.size = size)
    (kl kc : IntKind) (L C : Int) (n : Nat) (hl : a.eval l = .int kl L) (hc : a.eval c = .int kc C) (hL : L = (n : Int)) (hC : C = (n : Int)) (b2 : i.bytes * n ≤ 281474976710656) (b3 : n ≤ maxLen) (b4 : base ≤ w.heap.size)
    (hK : ∀ w', w'.ownsRow base e size (.slice (some ⟨w.heap.size, 0, none⟩) n n) n (madeCells z.cells (n * size)).toList → w.grownBy w' none → K (a.put o.dst (.slice (some ⟨w.heap.size, 0, none⟩) n n)) w') :
    o.wp Try.prog a w K Q := by
  obtain ⟨w', hrun, r1, r2⟩ := run_make_full (P := Try.prog) w base t e i z size h1 h2 h3 h4 kl kc n b2 b3 b4
  subst hL
  subst hC
  unfold Oper.wp
  simp [execOp, hop, hl, hc, hrun, Result.andThen]
  exact hK w' r1 r2
theorem made_int (n : Nat) : (madeCells (Value.int .i64 0).cells (n * 1)).toList = ints (List.replicate n 0) := by
  refine List.ext_getElem (by simp [size_madeCells, ints]) fun j h1 h2 => ?_
  simp [madeCells, ints, Value.cells, Nat.mod_one]
theorem DMd.grown0 {B base : Nat} {w w' : World} {az ax ar : Option Addr} {cz cs cr sn tn rn : Nat} {m : Mdl} {ds : List RuD} (h : DMd B base w az ax ar cz cs cr sn tn rn m ds) (hg : w.grownBy w' none) : DMd B base w' az ax ar cz cs cr sn tn rn m ds :=
  ⟨⟨kept_far h.o.z hg (by simp), kept_far h.o.s hg (by simp), kept_far h.o.r hg (by simp), h.o.e, fun d hd => ⟨kept_far (h.o.d d hd).1 hg (by simp), kept_far (h.o.d d hd).2 hg (by simp)⟩⟩, h.z, h.s, h.r, h.sep, h.zb, h.rb, h.B⟩
set_option maxHeartbeats 1000000 in
set_option maxRecDepth 100000 in
theorem c_DrawFollowTrace (A : Option Addr) (c n : Nat) (w : World) (hn : n ≤ 4096) (hb : Bytes w w.heap.size A n) : Calls Try.prog 44 #[.slice A n c] w (RetDMV w) := by
  have HBX : Hid (MBox (w.alloc (.cells #[.slice none 0 0, .slice none 0 0, .slice none 0 0] 27)) w.heap.size w.heap.size (.slice none 0 0) (.slice none 0 0) (.slice none 0 0)) := Lib.hid (mbox_new (w := w) _ _ _)
  have hb1 := bytes_later hb (below_alloc (Below.refl w.heap.size w) (.cells #[.slice none 0 0, .slice none 0 0, .slice none 0 0] 27))
  have HB1 := Lib.hid (below_alloc (Below.refl w.heap.size w) (.cells #[.slice none 0 0, .slice none 0 0, .slice none 0 0] 27))
  clear hb
  go_enter Try.func44, Try.ntmps44
  go_wp2_with (fail)
  refine (c_From A c n _ hn hb1).mono ?_
  rintro e w1 ⟨rfl, hs, hb⟩
  have HS1 := Lib.hid hs
  have HB2 := Lib.hid (below_chain HB1.out hb)
  have HX1 : Hid (MBox w1 w.heap.size w.heap.size (.slice none 0 0) (.slice none 0 0) (.slice none 0 0)) := Lib.hid (own_below HBX.out hb)
  obtain ⟨B, hBe⟩ : ∃ B, B = (w.alloc (.cells #[.slice none 0 0, .slice none 0 0, .slice none 0 0] 27)).heap.size := ⟨_, rfl⟩
  rw [← hBe] at HS1 ⊢
  have hBw : B = w.heap.size + 1 := by rw [hBe]; simp
  clear hb hs hb1 HB1 HBX hBe
  have HBW := Lib.hid hBw
  have hB0 : w.heap.size < B := by omega
  have hB1 := HS1.out.lt
  clear hBw
  go_wp2_with (fail)
  refine (c_l21Draw B _ HS1.out).mono ?_
  rintro e w2 ⟨az, ax, ar, cz, cs, cr, sn, tn, rn, m, ds, rfl, hmd, hn1, hn2, ht1, ht2, hr2, hR, hd⟩
  clear hR
  have HX2 : Hid (MBox w2 w.heap.size w.heap.size (.slice none 0 0) (.slice none 0 0) (.slice none 0 0)) := Lib.hid (kept_far2 HX1.out hd.g (by omega))
  have HB4 := Lib.hid (below_of_grown HB2.out hd.g (fun q hq => by simp at hq; omega))
  have hw12 := hd.g.size
  have hB2 : B < w2.heap.size := by omega
  have HM2 := Lib.hid hmd
  have hs2 := hd.s
  have HD2 : Hid (DW B w2 (w2.alloc (.cells #[.slice az sn cz, .slice ax tn cs, .slice ar rn cr] 27))) := Lib.hid ((DW.start hs2).alloc hB2 _)
  have HMB2 : Hid (MBox (w2.alloc (.cells #[.slice az sn cz, .slice ax tn cs, .slice ar rn cr] 27)) w2.heap.size w2.heap.size (.slice az sn cz) (.slice ax tn cs) (.slice ar rn cr)) := Lib.hid (mbox_new _ _ _)
  have hx2 := (HX2.out).c.2.2.2.2.2.2.2
  have hok : MOk m := hmd.ok (by omega) (by omega) (by omega)
  clear hmd hd HB2 HX1 hs2
  have HOK := Lib.hid hok
  go_wp2_with (fail)
  refine (c_NextD B _ _ HD2.out.s (by omega)).mono ?_
  rintro e w3 ⟨r, rfl, hr0, hr1, _, hd⟩
  have HD3a := Lib.hid (HD2.out.then_ hd)
  have HMB3 : Hid (MBox w3 w2.heap.size w2.heap.size (.slice az sn cz) (.slice ax tn cs) (.slice ar rn cr)) := Lib.hid (hd.own HMB2.out hB2)
  have hB3 : B < w3.heap.size := by have := HD3a.out.g.size; omega
  clear hd hr1 hr0 HD2 HMB2 hok
  obtain ⟨b0, b1, b2, _, _, _, _, hplt⟩ := MBox.c HMB3.out
  by_cases hr : r = 0
  · subst hr
    obtain ⟨i0, hi, hz0, hz1, hz2⟩ := info_parts info_int64
    go_wp2_with (fail)
    refine wp_region_heldE 6 (S := (fun w' => w'.cell? ⟨w2.heap.size, 0, none⟩ = some (.slice az sn cz) ∧ w'.cell? ⟨w2.heap.size, 1, none⟩ = some (.slice ax tn cs) ∧ w'.cell? ⟨w2.heap.size, 2, none⟩ = some (.slice ar rn cr))) (by kernel_rfl) ?_ (fun hHeld => ?_)
    · exact ⟨b0, b1, b2⟩
    refine rgE_take (v := ?_) 0 12 rfl (by kernel_rfl) (by kernel_rfl) (by kernel_rfl) (by kernel_rfl) (by kernel_rfl) (fun _ _ _ h => h) (by kernel_rfl) ?_ (by assumption) ?_
    rotate_left
    · (intro w' hSw; (try dsimp only at hSw); go_simp; first | done | with_reducible rfl)
    simp only [Act.put, List.setIfInBounds_toArray, List.set_cons_zero, List.set_cons_succ]
    refine rgE_take (v := ?_) 1 12 rfl (by kernel_rfl) (by kernel_rfl) (by kernel_rfl) (by kernel_rfl) (by kernel_rfl) (fun _ _ _ h => h) (by kernel_rfl) ?_ (by assumption) ?_
    rotate_left
    · (intro w' hSw; (try dsimp only at hSw); go_simp; first | done | with_reducible rfl)
    simp only [Act.put, List.setIfInBounds_toArray, List.set_cons_zero, List.set_cons_succ]
    refine rgE_run 2 rfl (by kernel_rfl) (by kernel_rfl) (by decide) (fun K hK => ?_)
    go_simp
    refine (c_NextD B _ _ (HD3a.out.drew hB2).s (by omega)).mono ?_
    rintro e w4 ⟨y, rfl, hy0, hy1, _, hd⟩
    have hy4 := hy1 (by omega)
    have HD4 := Lib.hid ((HD3a.out.drew hB2).then_ hd)
    replace b0 := hd.cell (by exact b0) (by omega)
    replace b1 := hd.cell (by exact b1) (by omega)
    replace b2 := hd.cell (by exact b2) (by omega)
    clear hd hy1
    go_wp2
    clear hHeld
    refine hK.out _ _ (.inr ⟨b0, b1, b2⟩) (fun hHeld => ?_)
    clear hK K
    try simp only [Act.put, List.setIfInBounds_toArray, List.set_cons_zero, List.set_cons_succ]
    obtain ⟨y, rfl⟩ : ∃ y' : Nat, y = y' := ⟨y.toNat, by omega⟩
    have hwy : IntKind.i64.wrap (4000 + (y : Int)) = 4000 + y := IntWalk.i64_in _ (by omega)
    have hwb := HD4.out.g.size
    have HVL : Hid ((List.replicate (4000 + y) (0 : Int)).length = 4000 + y) := Lib.hid (by rw [List.length_replicate])
    have HX4 : Hid (MBox w4 w.heap.size w.heap.size (.slice none 0 0) (.slice none 0 0) (.slice none 0 0)) := Lib.hid (kept_far2 HX2.out HD4.out.g (by omega))
    have HM4 := Lib.hid (HM2.out.far HD4.out)
    have HBa := Lib.hid (below_of_grown HB4.out HD4.out.g (fun q hq => by simp at hq; omega))
    have hgz := World.block_lt_of_cell? _ _ b0
    dsimp only at hgz
    obtain ⟨v0, v1, v2, f0, f1, f2, _, hxl⟩ := MBox.c HX4.out
    refine rgE_take (v := ?_) 3 12 rfl (by kernel_rfl) (by kernel_rfl) (by kernel_rfl) (by kernel_rfl) (by kernel_rfl) (fun _ _ _ h => h) (by kernel_rfl) ?_ (by assumption) ?_
    rotate_left
    · (intro w' hSw; (try dsimp only at hSw); go_simp; first | done | with_reducible rfl)
    simp only [Act.put, List.setIfInBounds_toArray, List.set_cons_zero, List.set_cons_succ]
    refine rgE_two 4 5 rfl rfl (by kernel_rfl) (by kernel_rfl) (by kernel_rfl) (by decide) (by decide) (fun K hK => ?_) (fun K hK => ?_)
    · refine wp_make_full _ (.tmp 16) (.tmp 16) _ rfl w2.heap.size 2 i0 _ 1 Try.underlying24 hi hz0 hz1 .i64 .i64 _ _ (4000 + y) rfl rfl (by first | rfl | (simp; done) | omega) (by first | rfl | (simp; done) | omega) (by rw [hz2]; omega) (by unfold maxLen; omega) hwb ?_
      intro w5 hown hgrow
      have HVO : Hid (w5.ownsRow w2.heap.size 2 1 (.slice (some ⟨w4.heap.size, 0, none⟩) (4000 + y) (4000 + y)) (4000 + y) (ints (List.replicate (4000 + y) 0))) := Lib.hid (by rw [← made_int]; exact hown)
      replace b0 := hgrow.cell b0 (by simp)
      replace b1 := hgrow.cell b1 (by simp)
      replace b2 := hgrow.cell b2 (by simp)
      have HX3 : Hid (MBox w5 w.heap.size w.heap.size (.slice none 0 0) (.slice none 0 0) (.slice none 0 0)) := Lib.hid (kept_far HX4.out hgrow (by simp))
      have HF := Lib.hid (MBox.set3 HX3.out (Value.slice az sn cz) (Value.slice ax tn cs) (Value.slice ar rn cr))
      have HB5 := Lib.hid (below_put (below_of_grown HBa.out hgrow (by simp)) (Value.slice az sn cz) (Value.slice ax tn cs) (Value.slice ar rn cr) (Nat.le_refl _))
      have HFIN := Lib.hid ((HM4.out.grown0 hgrow).put2 HX3.out (x' := Value.slice az sn cz) (y' := Value.slice ax tn cs) (z' := Value.slice ar rn cr))
      have HVF := Lib.hid (put_row HVO.out HX3.out (by decide) (x' := Value.slice az sn cz) (y' := Value.slice ax tn cs) (z' := Value.slice ar rn cr))
      clear v0 v1 v2 f0 f1 f2 hxl
      obtain ⟨v0, v1, v2, f0, f1, f2, _, hxl⟩ := MBox.c HX3.out
      clear hown hgrow HVO HX4 HM4 HBa
      clear hHeld
      refine hK.out _ _ (.inr ⟨b0, b1, b2⟩) (fun hHeld => ?_)
      clear hK K
      try simp only [Act.put, List.setIfInBounds_toArray, List.set_cons_zero, List.set_cons_succ]
      refine rgE_run 5 rfl (by kernel_rfl) (by kernel_rfl) (by decide) (fun K hK => ?_)
      go_simp
      have hq0 := HF.out.2.cell b0 (fun e => by simp at e; omega)
      have hq1 := HF.out.2.cell b1 (fun e => by simp at e; omega)
      have hq2 := HF.out.2.cell b2 (fun e => by simp at e; omega)
      clear hHeld
      refine hK.out _ _ (.inr ⟨hq0, hq1, hq2⟩) (fun hHeld => ?_)
      clear hK K
      try simp only [Act.put, List.setIfInBounds_toArray, List.set_cons_zero, List.set_cons_succ]
      refine rgE_last rfl (by kernel_rfl) (by kernel_rfl) (by kernel_rfl) (fun K hK => ?_)
      go_simp
      clear hHeld
      refine hK.out _ _ ?_
      clear hK K
      try simp only [Act.put, List.setIfInBounds_toArray, List.set_cons_zero, List.set_cons_succ]
      go_wp2_with (fail)
      change bodyPost _ _ _ _ _ (set3 w5 w.heap.size (Value.slice az sn cz) (Value.slice ax tn cs) (Value.slice ar rn cr))
      generalize set3 w5 w.heap.size (Value.slice az sn cz) (Value.slice ax tn cs) (Value.slice ar rn cr) = WF at HF HB5 HFIN HVF ⊢
      obtain ⟨r0, r1, r2, _⟩ := MBox.c HF.out.1
      clear f0 f1 f2 v0 v1 v2 hq0 hq1 hq2 b0 b1 b2
      have hz := HFIN.out.z
      have hs := HFIN.out.s
      have hr := HFIN.out.r
      have HMD := HFIN.out.o.mono (by omega : w.heap.size ≤ w1.heap.size)
      clear HFIN
      subst hz
      subst hs
      subst hr
      have hvl := HVL.out
      clear HVL
      refine bodyPost_ret (v := .tuple #[mv m az ax ar cz cs cr, .slice (some ⟨w4.heap.size, 0, none⟩) (List.replicate (4000 + y) (0 : Int)).length (4000 + y)]) (by simp [mv, results, Try.results44, go_sem, r0, r1, r2]) rfl ⟨az, ax, ar, cz, cs, cr, m, ds, _, _, List.replicate (4000 + y) 0, rfl, HOK.out, HMD, by rw [hvl]; omega, by rw [hvl]; exact own_mono HVF.out (by omega), HB5.out⟩
    · go_simp
      have HF4 := Lib.hid (MBox.set3 HX4.out (Value.slice az sn cz) (Value.slice ax tn cs) (Value.slice ar rn cr))
      have hq0 := HF4.out.2.cell b0 (fun e => by simp at e; omega)
      have hq1 := HF4.out.2.cell b1 (fun e => by simp at e; omega)
      have hq2 := HF4.out.2.cell b2 (fun e => by simp at e; omega)
      have hwc : w2.heap.size ≤ (set3 w4 w.heap.size (Value.slice az sn cz) (Value.slice ax tn cs) (Value.slice ar rn cr)).heap.size := Nat.le_trans hwb HF4.out.2.size
      have hsz : (set3 w4 w.heap.size (Value.slice az sn cz) (Value.slice ax tn cs) (Value.slice ar rn cr)).heap.size = w4.heap.size := by simp [set3]
      have HBs := Lib.hid (below_put HBa.out (Value.slice az sn cz) (Value.slice ax tn cs) (Value.slice ar rn cr) (Nat.le_refl _))
      have HMs := Lib.hid (HM4.out.put2 HX4.out (x' := Value.slice az sn cz) (y' := Value.slice ax tn cs) (z' := Value.slice ar rn cr))
      clear hHeld
      refine hK.out _ _ (.inr ⟨hq0, hq1, hq2⟩) (fun hHeld => ?_)
      clear hK K
      try simp only [Act.put, List.setIfInBounds_toArray, List.set_cons_zero, List.set_cons_succ]
      refine rgE_run 4 rfl (by kernel_rfl) (by kernel_rfl) (by decide) (fun K hK => ?_)
      refine wp_make_full _ (.tmp 16) (.tmp 16) _ rfl w2.heap.size 2 i0 _ 1 Try.underlying24 hi hz0 hz1 .i64 .i64 _ _ (4000 + y) rfl rfl (by first | rfl | (simp; done) | omega) (by first | rfl | (simp; done) | omega) (by rw [hz2]; omega) (by unfold maxLen; omega) hwc ?_
      intro w5 hown hgrow
      have hgr : (set3 w4 w.heap.size (Value.slice az sn cz) (Value.slice ax tn cs) (Value.slice ar rn cr)).grownBy w5 none := hgrow
      have HVF : Hid (w5.ownsRow w2.heap.size 2 1 (.slice (some ⟨w4.heap.size, 0, none⟩) (4000 + y) (4000 + y)) (4000 + y) (ints (List.replicate (4000 + y) 0))) := Lib.hid (by rw [← made_int, ← hsz]; exact hown)
      have HF : Hid (MBox w5 w.heap.size w.heap.size (Value.slice az sn cz) (Value.slice ax tn cs) (Value.slice ar rn cr)) := Lib.hid (kept_far HF4.out.1 hgr (by simp))
      have HB5 := Lib.hid (below_of_grown HBs.out hgr (by simp))
      have HFIN := Lib.hid (HMs.out.grown0 hgr)
      replace hq0 := hgr.cell hq0 (by simp)
      replace hq1 := hgr.cell hq1 (by simp)
      replace hq2 := hgr.cell hq2 (by simp)
      clear hown hgrow hgr HX4 HM4 HBa
      rw [show ∀ (w : World) (a b c : Value) (p : Nat), (((w.setCell ⟨p, 0, none⟩ a).setCell ⟨p, 1, none⟩ b).setCell ⟨p, 2, none⟩ c).heap.size = w.heap.size from fun w a b c p => by simp]
      clear hHeld
      refine hK.out _ _ (.inr ⟨hq0, hq1, hq2⟩) (fun hHeld => ?_)
      clear hK K
      try simp only [Act.put, List.setIfInBounds_toArray, List.set_cons_zero, List.set_cons_succ]
      refine rgE_last rfl (by kernel_rfl) (by kernel_rfl) (by kernel_rfl) (fun K hK => ?_)
      go_simp
      clear hHeld
      refine hK.out _ _ ?_
      clear hK K
      try simp only [Act.put, List.setIfInBounds_toArray, List.set_cons_zero, List.set_cons_succ]
      go_wp2_with (fail)
      obtain ⟨r0, r1, r2, _⟩ := MBox.c HF.out
      clear f0 f1 f2 v0 v1 v2 hq0 hq1 hq2 b0 b1 b2
      have hz := HFIN.out.z
      have hs := HFIN.out.s
      have hr := HFIN.out.r
      have HMD := HFIN.out.o.mono (by omega : w.heap.size ≤ w1.heap.size)
      clear HFIN
      subst hz
      subst hs
      subst hr
      have hvl := HVL.out
      clear HVL
      refine bodyPost_ret (v := .tuple #[mv m az ax ar cz cs cr, .slice (some ⟨w4.heap.size, 0, none⟩) (List.replicate (4000 + y) (0 : Int)).length (4000 + y)]) (by simp [mv, results, Try.results44, go_sem, r0, r1, r2]) rfl ⟨az, ax, ar, cz, cs, cr, m, ds, _, _, List.replicate (4000 + y) 0, rfl, HOK.out, HMD, by rw [hvl]; omega, by rw [hvl]; exact own_mono HVF.out (by omega), HB5.out⟩
  · have hrb : (r == 0) = false := by simpa using hr
    go_wp2_with (fail)
    refine wp_region_held_drew (S := (fun w' => w'.cell? ⟨w2.heap.size, 0, none⟩ = some (.slice az sn cz) ∧ w'.cell? ⟨w2.heap.size, 1, none⟩ = some (.slice ax tn cs) ∧ w'.cell? ⟨w2.heap.size, 2, none⟩ = some (.slice ar rn cr))) (by kernel_rfl) ?_ (fun hHeld => ?_)
    · exact ⟨b0, b1, b2⟩
    refine rg_take (v := ?_) 0 rfl (by kernel_rfl) (by kernel_rfl) (by kernel_rfl) (fun _ _ _ h => h) (by kernel_rfl) ?_ (by assumption) ?_
    rotate_left
    · (intro w' hSw; (try dsimp only at hSw); go_simp; first | done | with_reducible rfl)
    simp only [Act.put, List.setIfInBounds_toArray, List.set_cons_zero, List.set_cons_succ]
    refine rg_take (v := ?_) 1 rfl (by kernel_rfl) (by kernel_rfl) (by kernel_rfl) (fun _ _ _ h => h) (by kernel_rfl) ?_ (by assumption) ?_
    rotate_left
    · (intro w' hSw; (try dsimp only at hSw); go_simp; first | done | with_reducible rfl)
    simp only [Act.put, List.setIfInBounds_toArray, List.set_cons_zero, List.set_cons_succ]
    refine rg_take (v := ?_) 2 rfl (by kernel_rfl) (by kernel_rfl) (by kernel_rfl) (fun _ _ _ h => h) (by kernel_rfl) ?_ (by assumption) ?_
    rotate_left
    · (intro w' hSw; (try dsimp only at hSw); go_simp; first | done | with_reducible rfl)
    simp only [Act.put, List.setIfInBounds_toArray, List.set_cons_zero, List.set_cons_succ]
    refine rg_run 3 rfl (by kernel_rfl) (by kernel_rfl) (fun K hK => ?_)
    go_simp
    refine (c_l21DrawTrace B w1.heap.size az ax ar cz cs cr sn tn rn m ds _ (HD3a.out.drew hB2).s (HM2.out.far (HD3a.out.drew hB2)) ht1 HOK.out).mono ?_
    rintro e w5 ⟨A4, c4, n4, vs, rfl, hvl, hvn, hvo, hd⟩
    have HD3 := Lib.hid ((HD3a.out.drew hB2).then_ hd)
    have hB2a : ¬ B = w2.heap.size := by omega
    replace b0 := hd.cell (by exact b0) hB2a
    replace b1 := hd.cell (by exact b1) hB2a
    replace b2 := hd.cell (by exact b2) hB2a
    have HVO : Hid (w5.ownsRow w2.heap.size 2 1 (.slice A4 n4 c4) n4 (ints vs)) := Lib.hid (own_mono hvo (by have := HD3a.out.g.size; exact this))
    have HVL := Lib.hid hvl
    have HX3 : Hid (MBox w5 w.heap.size w.heap.size (.slice none 0 0) (.slice none 0 0) (.slice none 0 0)) := Lib.hid (kept_far2 HX2.out HD3.out.g (by omega))
    have HM3 := Lib.hid (HM2.out.far HD3.out)
    have HF := Lib.hid (MBox.set3 HX3.out (Value.slice az sn cz) (Value.slice ax tn cs) (Value.slice ar rn cr))
    have HB5 := Lib.hid (below_put (below_of_grown HB4.out HD3.out.g (fun q hq => by simp at hq; omega)) (Value.slice az sn cz) (Value.slice ax tn cs) (Value.slice ar rn cr) (Nat.le_refl _))
    have HFIN := Lib.hid (HM3.out.put2 HX3.out (x' := Value.slice az sn cz) (y' := Value.slice ax tn cs) (z' := Value.slice ar rn cr))
    have HVF := Lib.hid (put_row HVO.out HX3.out (by decide) (x' := Value.slice az sn cz) (y' := Value.slice ax tn cs) (z' := Value.slice ar rn cr))
    obtain ⟨v0, v1, v2, f0, f1, f2, _, hxl⟩ := MBox.c HX3.out
    clear hd hvo hvl HVO
    go_wp2
    clear hHeld
    refine hK.out _ _ ⟨b0, b1, b2⟩ (fun hHeld => ?_)
    clear hK K
    try simp only [Act.put, List.setIfInBounds_toArray, List.set_cons_zero, List.set_cons_succ]
    refine rg_run 4 rfl (by kernel_rfl) (by kernel_rfl) (fun K hK => ?_)
    go_simp
    have hq0 := HF.out.2.cell b0 (fun e => by simp at e; omega)
    have hq1 := HF.out.2.cell b1 (fun e => by simp at e; omega)
    have hq2 := HF.out.2.cell b2 (fun e => by simp at e; omega)
    clear hHeld
    refine hK.out _ _ ⟨hq0, hq1, hq2⟩ (fun hHeld => ?_)
    clear hK K
    try simp only [Act.put, List.setIfInBounds_toArray, List.set_cons_zero, List.set_cons_succ]
    refine rg_take (v := ?_) 5 rfl (by kernel_rfl) (by kernel_rfl) (by kernel_rfl) (fun _ _ _ h => h) (by kernel_rfl) ?_ (by assumption) ?_
    rotate_left
    · (intro w' hSw; (try dsimp only at hSw); go_simp; first | done | with_reducible rfl)
    simp only [Act.put, List.setIfInBounds_toArray, List.set_cons_zero, List.set_cons_succ]
    refine wpAnyH_done (by kernel_rfl) ?_ _
    clear hHeld
    go_wp2_with (fail)
    change bodyPost _ _ _ _ _ (set3 w5 w.heap.size (Value.slice az sn cz) (Value.slice ax tn cs) (Value.slice ar rn cr))
    generalize set3 w5 w.heap.size (Value.slice az sn cz) (Value.slice ax tn cs) (Value.slice ar rn cr) = WF at HF HB5 HFIN HVF ⊢
    obtain ⟨r0, r1, r2, _⟩ := MBox.c HF.out.1
    clear f0 f1 f2 v0 v1 v2 hq0 hq1 hq2 b0 b1 b2
    have hz := HFIN.out.z
    have hs := HFIN.out.s
    have hr := HFIN.out.r
    have HMD := HFIN.out.o.mono (by omega : w.heap.size ≤ w1.heap.size)
    clear HFIN
    subst hz
    subst hs
    subst hr
    have hvl := HVL.out
    clear HVL
    subst hvl
    refine bodyPost_ret (v := .tuple #[mv m az ax ar cz cs cr, .slice A4 vs.length c4]) (by simp [mv, results, Try.results44, go_sem, r0, r1, r2]) rfl ⟨az, ax, ar, cz, cs, cr, m, ds, A4, c4, vs, rfl, HOK.out, HMD, by omega, own_mono HVF.out (by omega), HB5.out⟩
end Go.Proofs.Ytaloheljfefdeaa

/- A region that draws its order, walked by hand, whose late operations may change what the others read: the condition on the world is asked behind every operation but those. No condition. -/
namespace Go.Proofs.Ytaloheljfefdeaa

section
variable {P : Program} {ops : Array Oper} {Q : Exit → Act → World → Prop} {md : Region.Mode} {S : World → Prop} {last : List Nat}
def wpAnyL (P : Program) (md : Region.Mode) (ops : Array Oper) (Q : Exit → Act → World → Prop) (S : World → Prop) (last : List Nat) : Nat → Array Bool → Act → World → Prop
  | 0, listed, a, w => Region.ready md ops listed = [] ∧ Q .normal a w
  | fuel + 1, listed, a, w =>
    (Region.ready md ops listed = [] → Q .normal a w) ∧
    ∀ i ∈ Region.ready md ops listed, wpOp P ops Q i (fun a' w' => (i ∈ last ∨ S w') ∧ wpAnyL P md ops Q S last fuel (listed.setIfInBounds i true) a' w') a w
theorem wpAny_of_heldL : ∀ (fuel : Nat) (listed : Array Bool) (a : Act) (w : World), wpAnyL P md ops Q S last fuel listed a w → wpAny P md ops Q fuel listed a w
  | 0, _, _, _, h => h
  | fuel + 1, _, _, _, h => ⟨h.1, fun i hi => wpOp_mono (fun a' w' h' => wpAny_of_heldL fuel _ a' w' h'.2) (h.2 i hi)⟩
theorem wpAnyL_first {i n : Nat} {oi : Oper} {v : Value} (hi : ops[i]? = some oi) (hsel : ∀ (j : Nat) (o : Oper) cs b, ops[j]? = some o → o.op ≠ .select cs b)
    (hQ : ∀ c a w, Q (.panic c) (a.put oi.dst v) w → Q (.panic c) a w) (hdep : ∀ k ∈ last, depB md ops n k i = true) :
    ∀ (fuel : Nat) (listed : Array Bool) (a : Act) (w : World), Cl md ops listed →
      (∀ j oj, ops[j]? = some oj → j ≠ i → listed.getD j true = false → (∀ e ∈ oj.after, Region.binds md e = true → e.on ≠ i) → oi.apart ops oj = true) →
      i ∈ Region.ready md ops listed → YieldsIf P ops S oi v a → S w →
      wpAnyL P md ops Q S last fuel (listed.setIfInBounds i true) (a.put oi.dst v) w → wpAnyL P md ops Q S last (fuel + 1) listed a w := by
  intro fuel
  induction fuel with
  | zero =>
    intro listed a w _ _ hr hy hS H
    refine ⟨fun h => (by rw [h] at hr; cases hr), fun j hj => ?_⟩
    by_cases hji : j = i
    · subst hji; exact hy.wpOp hi hS ⟨.inr hS, H⟩
    · have := ready_mono hj hji
      rw [H.1] at this
      cases this
  | succ fuel ih =>
    intro listed a w hc hfree hr hy hS H
    refine ⟨fun h => (by rw [h] at hr; cases hr), fun j hj => ?_⟩
    by_cases hji : j = i
    · subst hji; exact hy.wpOp hi hS ⟨.inr hS, H⟩
    · have h1 := H.2 j (ready_mono hj hji)
      obtain ⟨hjun, oj, hoj, hall⟩ := mem_ready.1 hj
      have hi0 := (mem_ready.1 hr).1
      have hnof : ¬ listed.getD i false = true := fun h => by
        rcases Nat.lt_or_ge i listed.size with h' | h'
        · simp [h'] at h hi0; rw [hi0] at h; cases h
        · simp [Array.getElem?_eq_none h'] at hi0
      have hnot : ∀ e ∈ oj.after, Region.binds md e = true → e.on ≠ i := fun e he hb heq => hnof (heq ▸ hall e he hb)
      have hjl : j ∉ last := fun e => hnof (dep_listed hc (hdep j e) (.inr hj))
      have h2 := wpOp_putIf hoj (hfree j oj hoj hji hjun hnot) (fun cs b => hsel i oi cs b hi) (fun cs b => hsel j oj cs b hoj) hQ hy h1
      have hfree' : ∀ k ok, ops[k]? = some ok → k ≠ i → (listed.setIfInBounds j true).getD k true = false →
          (∀ e ∈ ok.after, Region.binds md e = true → e.on ≠ i) → oi.apart ops ok = true := fun k ok hk hki hun hno => by
        refine hfree k ok hk hki ?_ hno
        by_cases hjk : j = k
        · subst hjk; exact hjun
        · rw [getD_set_ne true hjk] at hun; exact hun
      refine wpOp_mono (fun a' w' h3 => ?_) h2
      have hSw : S w' := h3.2.1.resolve_left hjl
      refine ⟨.inr hSw, ih (listed.setIfInBounds j true) a' w' (hc.set hj) hfree' (ready_mono hr (Ne.symm hji)) h3.1 hSw ?_⟩
      rw [Array.setIfInBounds_comm _ _ hji]
      exact h3.2.2
end
section
variable {P : Program} {l : List Oper} {Q : Exit → Act → World → Prop} {md : Region.Mode} {S : World → Prop} {last : List Nat} {fuel : Nat} {listed : Array Bool} {a : Act} {w : World}
theorem wp_region_heldL {id : Nat} {ops : Array Oper} (last : List Nat) (hm : P.follows .mixedOrders = true) (hS : S w.drew)
    (h : S w.drew → wpAnyL P .any ops Q S last ops.size (Array.replicate ops.size false) a w.drew) : (Code.region id ops true).wp P Q a w :=
  wp_region_any hm (wpAny_of_heldL _ _ _ _ (h hS))
theorem rgL_take {oi : Oper} {v : Value} (i n : Nat) (hi : nthO l i = some oi)
    (hs : Region.noSelect l.toArray = true) (hf : Region.free md l.toArray listed i = true) (hr : (Region.ready md l.toArray listed).contains i = true)
    (hc : clB md l.toArray listed = true) (hd : last.all (fun k => depB md l.toArray n k i) = true)
    (hQ : ∀ c a w, Q (.panic c) (a.put oi.dst v) w → Q (.panic c) a w) (hw : Region.wanted oi (yielded l.toArray a.tmps) = true) (hy : ∀ w, S w → (execOp a.eval oi).run P w = .ok (.value v) w) (hS : S w)
    (h : wpAnyL P md l.toArray Q S last fuel (listed.setIfInBounds i true) (a.put oi.dst v) w) : wpAnyL P md l.toArray Q S last (fuel + 1) listed a w :=
  wpAnyL_first (nthO_get hi) (Region.noSelect_spec hs) hQ (fun k hk => List.all_eq_true.1 hd k hk) fuel listed a w (cl_of hc) (Region.free_spec (nthO_get hi) hf) (by simpa using hr) (.inl ⟨hw, hy⟩) hS h
theorem rgL_skip {oi : Oper} (i n : Nat) (hi : nthO l i = some oi)
    (hs : Region.noSelect l.toArray = true) (hf : Region.free md l.toArray listed i = true) (hr : (Region.ready md l.toArray listed).contains i = true)
    (hc : clB md l.toArray listed = true) (hd : last.all (fun k => depB md l.toArray n k i) = true)
    (hQ : ∀ c a w, Q (.panic c) (a.put oi.dst undef) w → Q (.panic c) a w) (hw : Region.wanted oi (yielded l.toArray a.tmps) = false) (hS : S w)
    (h : wpAnyL P md l.toArray Q S last fuel (listed.setIfInBounds i true) (a.put oi.dst undef) w) : wpAnyL P md l.toArray Q S last (fuel + 1) listed a w :=
  wpAnyL_first (nthO_get hi) (Region.noSelect_spec hs) hQ (fun k hk => List.all_eq_true.1 hd k hk) fuel listed a w (cl_of hc) (Region.free_spec (nthO_get hi) hf) (by simpa using hr) (.inr ⟨hw, rfl⟩) hS h
theorem rgL_one {oi : Oper} {i : Nat} (hi : nthO l i = some oi) (hw : Region.wanted oi (yielded l.toArray a.tmps) = true)
    (h : ∀ K' : Act → World → Prop, Shut (∀ a w, (i ∈ last ∨ S w) → (S w → wpAnyL P md l.toArray Q S last fuel (listed.setIfInBounds i true) a w) → K' a w) → Oper.wp P oi a w K' Q)
    (hlast : i ∉ last) : wpOp P l.toArray Q i (fun a' w' => (i ∈ last ∨ S w') ∧ wpAnyL P md l.toArray Q S last fuel (listed.setIfInBounds i true) a' w') a w :=
  wpOp_step (nthO_get hi) fun K' hK => by
    rw [if_pos hw]
    exact h K' fun a w hS hW => hK a w ⟨hS, hW (hS.resolve_left hlast)⟩
theorem rgL_run {oi : Oper} (i : Nat) (hi : nthO l i = some oi) (hr : Region.ready md l.toArray listed = [i]) (hw : Region.wanted oi (yielded l.toArray a.tmps) = true) (hlast : i ∉ last)
    (h : ∀ K' : Act → World → Prop, Shut (∀ a w, (i ∈ last ∨ S w) → (S w → wpAnyL P md l.toArray Q S last fuel (listed.setIfInBounds i true) a w) → K' a w) → Oper.wp P oi a w K' Q) : wpAnyL P md l.toArray Q S last (fuel + 1) listed a w :=
  ⟨fun h0 => absurd (hr ▸ h0) (by simp), fun j hj => by
    rw [hr, List.mem_singleton] at hj
    subst hj
    exact rgL_one hi hw h hlast⟩
theorem rgL_two {oi oj : Oper} (i j : Nat) (hi : nthO l i = some oi) (hj : nthO l j = some oj) (hr : Region.ready md l.toArray listed = [i, j]) (hwi : Region.wanted oi (yielded l.toArray a.tmps) = true) (hwj : Region.wanted oj (yielded l.toArray a.tmps) = true) (hli : i ∉ last) (hlj : j ∉ last)
    (h : ∀ K' : Act → World → Prop, Shut (∀ a w, (i ∈ last ∨ S w) → (S w → wpAnyL P md l.toArray Q S last fuel (listed.setIfInBounds i true) a w) → K' a w) → Oper.wp P oi a w K' Q)
    (h' : ∀ K' : Act → World → Prop, Shut (∀ a w, (j ∈ last ∨ S w) → (S w → wpAnyL P md l.toArray Q S last fuel (listed.setIfInBounds j true) a w) → K' a w) → Oper.wp P oj a w K' Q) : wpAnyL P md l.toArray Q S last (fuel + 1) listed a w :=
  ⟨fun h0 => absurd (hr ▸ h0) (by simp), fun k hk => by
    rw [hr] at hk
    simp only [List.mem_cons, List.not_mem_nil, or_false] at hk
    rcases hk with rfl | rfl
    · exact rgL_one hi hwi h hli
    · exact rgL_one hj hwj h' hlj⟩
/-- A late operation. -/
theorem rgL_late {oi : Oper} (i : Nat) (hi : nthO l i = some oi) (hr : Region.ready md l.toArray listed = [i]) (hw : Region.wanted oi (yielded l.toArray a.tmps) = true) (hl : i ∈ last)
    (h : ∀ K' : Act → World → Prop, Shut (∀ a w, wpAnyL P md l.toArray Q S last fuel (listed.setIfInBounds i true) a w → K' a w) → Oper.wp P oi a w K' Q) : wpAnyL P md l.toArray Q S last (fuel + 1) listed a w :=
  ⟨fun h0 => absurd (hr ▸ h0) (by simp), fun j hj => by
    rw [hr, List.mem_singleton] at hj
    subst hj
    refine wpOp_step (nthO_get hi) fun K' hK => ?_
    rw [if_pos hw]
    exact h K' fun a w hQ => hK a w ⟨.inl hl, hQ⟩⟩
theorem rgL_done (hr : Region.ready md l.toArray listed = []) (h : Q .normal a w) : wpAnyL P md l.toArray Q S last fuel listed a w := by
  cases fuel with
  | zero => exact ⟨hr, h⟩
  | succ n => exact ⟨fun _ => h, fun k hk => by rw [hr] at hk; cases hk⟩
end
end Go.Proofs.Ytaloheljfefdeaa

/- slices.Reverse at []int64 (a list of the call's own); traceTo (program). Condition: the lengths are bounded. -/
namespace Go.Proofs.Ytaloheljfefdeaa
open Go.RowKit

/-- The list behind k exchanges from both ends. -/
def rvK (zs : List Int) (k : Nat) : List Int := (List.range zs.length).map fun i => if i < k ∨ zs.length ≤ i + k then zs.getD (zs.length - 1 - i) 0 else zs.getD i 0
theorem rvK_len (zs : List Int) (k : Nat) : (rvK zs k).length = zs.length := by simp [rvK]
theorem rvK_at (zs : List Int) (k i : Nat) (h : i < zs.length) : (rvK zs k)[i]? = some (if i < k ∨ zs.length ≤ i + k then zs.getD (zs.length - 1 - i) 0 else zs.getD i 0) := by
  simp [rvK, h]
theorem rvK_zero (zs : List Int) : rvK zs 0 = zs := by
  apply List.ext_getElem?
  intro i
  rcases Nat.lt_or_ge i zs.length with h | h
  · rw [rvK_at zs 0 i h, if_neg (by omega), List.getD_eq_getElem?_getD, List.getElem?_eq_getElem h]
    rfl
  · rw [List.getElem?_eq_none (by rw [rvK_len]; exact h), List.getElem?_eq_none h]
theorem rvK_end (zs : List Int) (k : Nat) (h : zs.length ≤ 2 * k + 1) : rvK zs k = zs.reverse := by
  apply List.ext_getElem?
  intro i
  rcases Nat.lt_or_ge i zs.length with hi | hi
  · rw [rvK_at zs k i hi, List.getElem?_reverse hi, List.getElem?_eq_getElem (by omega)]
    congr 1
    by_cases c : i < k ∨ zs.length ≤ i + k
    · rw [if_pos c, List.getD_eq_getElem?_getD, List.getElem?_eq_getElem (by omega)]
      rfl
    · rw [if_neg c, List.getD_eq_getElem?_getD, List.getElem?_eq_getElem hi]
      have : zs.length - 1 - i = i := by omega
      simp only [this]
      rfl
  · rw [List.getElem?_eq_none (by rw [rvK_len]; exact hi), List.getElem?_eq_none (by simpa using hi)]
theorem rvK_succ (zs : List Int) (k : Nat) (h : 2 * k + 1 < zs.length) : rvK zs (k + 1) = ((rvK zs k).set k (zs.getD (zs.length - 1 - k) 0)).set (zs.length - 1 - k) (zs.getD k 0) := by
  apply List.ext_getElem?
  intro i
  rcases Nat.lt_or_ge i zs.length with hi | hi
  · rw [rvK_at zs (k + 1) i hi]
    by_cases e1 : i = zs.length - 1 - k
    · rw [e1, List.getElem?_set_self (by rw [List.length_set, rvK_len]; omega), if_pos (by omega), show zs.length - 1 - (zs.length - 1 - k) = k by omega]
    · rw [List.getElem?_set_ne (fun e => e1 e.symm)]
      by_cases e2 : i = k
      · rw [e2, List.getElem?_set_self (by rw [rvK_len]; omega), if_pos (by omega)]
      · rw [List.getElem?_set_ne (fun e => e2 e.symm), rvK_at zs k i hi]
        by_cases c : i < k ∨ zs.length ≤ i + k
        · rw [if_pos c, if_pos (by omega)]
        · rw [if_neg c, if_neg (by omega)]
  · rw [List.getElem?_eq_none (by rw [rvK_len]; exact hi), List.getElem?_eq_none (by rw [List.length_set, List.length_set, rvK_len]; exact hi)]
set_option maxHeartbeats 1000000 in
set_option maxRecDepth 100000 in
theorem c_Reverse (g cap n base : Nat) (zs : List Int) (w : World) (hn : zs.length = n) (hl : n ≤ 1048576) (ho : w.ownsRow base 2 1 (.slice (some ⟨g, 0, none⟩) n cap) n (ints zs)) :
    Calls Try.prog 98 #[.slice (some ⟨g, 0, none⟩) n cap] w fun e w' => e = .returned (.tuple #[]) ∧ w'.ownsRow base 2 1 (.slice (some ⟨g, 0, none⟩) n cap) n (ints zs.reverse) ∧ w.grownBy w' (some g) := by
  have HN := Lib.hid hn
  have HO := Lib.hid ho
  clear hn ho
  go_enter Try.func98, Try.ntmps98
  go_wp2
  go_loopw [2, 3] (fun i j wr => ∃ k : Nat, (2 * k ≤ n ∨ k = 0) ∧ i = .int .i64 k ∧ j = .int .i64 ((n : Int) - 1 - k) ∧ wr.ownsRow base 2 1 (.slice (some ⟨g, 0, none⟩) n cap) n (ints (rvK zs k)) ∧ w.grownBy wr (some g)) (fun i j _ => (intOf j - intOf i + 1).toNat)
  case atStart => exact ⟨0, by omega, rfl, by go_num, by rw [rvK_zero]; exact HO.out, grown_of_below (Below.refl _ _) _⟩
  case round =>
    obtain ⟨k, hk, rfl, rfl, ho, hg⟩ := hrel
    by_cases hlt : 2 * k + 1 < n
    · obtain ⟨m, hm⟩ : ∃ m, m = n - 1 - k := ⟨_, rfl⟩
      have hmi : (n : Int) - 1 - (k : Int) = (m : Int) := by omega
      have hx := (rvK_at zs k k (by have := HN.out; omega)).trans (by rw [if_neg (by have := HN.out; omega)])
      have hy := (rvK_at zs k m (by have := HN.out; omega)).trans (by rw [if_neg (by have := HN.out; omega)])
      have g0 := ho.cells (g := g) rfl k (.int .i64 (zs.getD k 0)) (by simp only [ints, List.getElem?_map, hx]; rfl)
      have g1 := ho.cells (g := g) rfl m (.int .i64 (zs.getD m 0)) (by simp only [ints, List.getElem?_map, hy]; rfl)
      rw [Addr.add_lit, Nat.zero_add] at g0 g1
      have f0 := ho.frozenAt k
      have f1 := ho.frozenAt m
      have hst1 := (ho.stored k (.int .i64 (zs.getD m 0)))
      have hst2 := (hst1.1.stored m (.int .i64 (zs.getD k 0)))
      have HST := Lib.hid (show ((wr.setCell ⟨g, k, none⟩ (.int .i64 (zs.getD m 0))).setCell ⟨g, m, none⟩ (.int .i64 (zs.getD k 0))).ownsRow base 2 1 (.slice (some ⟨g, 0, none⟩) n cap) n (ints (rvK zs (k + 1))) by
        have := hst2.1
        rw [ints_set, ints_set] at this
        rw [rvK_succ zs k (by have := HN.out; omega), show zs.length - 1 - k = m by have := HN.out; omega]
        exact this)
      have HG := Lib.hid (grown_trans hg (grown_trans hst1.2 hst2.2))
      clear hx hy hst1 hst2 ho hg
      generalize zs.getD k 0 = x at *
      generalize zs.getD m 0 = y at *
      rw [hmi]
      have hk0 : (0 : Int) ≤ (k : Int) := by omega
      have hk1 : (k : Int) < (n : Int) := by omega
      have hm0 : (0 : Int) ≤ (m : Int) := by omega
      have hm1 : (m : Int) < (n : Int) := by omega
      have hkm : (k : Int) < (m : Int) := by omega
      have hkm2 : k < m := by omega
      have hmn : m < n := by omega
      have HMM := Lib.hid hm
      clear hmi hm
      have HH := Lib.hid HST.out
      go_wp2_with fail
      go_region
      all_goals
        go_wp2
        go_roundw
        case rel => exact ⟨k + 1, by omega, by go_num, (by have := HMM.out; congr 1; omega), HH.out, grown_trans HG.out (grown_of_below (Below.refl _ _).drew _)⟩
        case measure => have := HMM.out; simp [intOf]; omega
    · have hki : ¬ (k : Int) < (n : Int) - 1 - k := by omega
      have hend := rvK_end zs k (by have := HN.out; omega)
      rw [hend] at ho
      have HO2 := Lib.hid ho
      have HG2 := Lib.hid hg
      clear ho hg hend
      go_wp2
      go_end0
      exact ⟨rfl, HO2.out, HG2.out⟩
set_option maxRecDepth 100000 in
theorem c_ReverseN (w : World) : Calls Try.prog 98 #[.slice none 0 0] w fun e w' => e = .returned (.tuple #[]) ∧ w = w' := by
  go_enter Try.func98, Try.ntmps98
  go_wp2
  refine wp_loop_rounds 1 ?_
  rw [rounds_succ]
  go_wp2
  go_end0
  exact ⟨rfl, rfl⟩
set_option maxHeartbeats 1000000 in
set_option maxRecDepth 100000 in
theorem c_traceTo (A : Option Addr) (c : Nat) (L : List Rc) (k0 : Nat) (x : Rc) (w : World) (hinv : InvR L) (hl : L.length ≤ 1048576) (hx : L[k0]? = some x) (hv : RdRc w A L) :
    Calls Try.prog 52 #[.slice A L.length c, .int .i64 k0] w (RetI2 x.t.length x.t w) := by
  have HV := Lib.hid hv
  have HINV := Lib.hid hinv
  have HX := Lib.hid hx
  have HTB : x.t.length ≤ 1048576 := by
    have h1 := hinv.dt x (List.mem_of_getElem? hx)
    have h2 := hinv.di k0 x hx
    have h3 := (List.getElem?_eq_some_iff.1 hx).1
    omega
  have hk0 := (List.getElem?_eq_some_iff.1 hx).1
  clear hv hinv hx
  have HL := Lib.hid (rfl : L.length = L.length)
  generalize hln : L.length = ln at *
  replace HL := Lib.hid hln
  clear hln
  have HTT := Lib.hid (rfl : x.t.length = x.t.length)
  generalize htl : x.t.length = tl at *
  replace HTT := Lib.hid htl
  clear htl
  go_enter Try.func52, Try.ntmps52
  go_wp2
  go_loopw [1, 5] (fun i v wr => ∃ (k : Nat) (y : Rc) (tr : List Int), i = .int .i64 k ∧ Hid (L[k]? = some y) ∧ Hid (x.t = y.t ++ tr.reverse) ∧ wr.ownsRow w.heap.size 2 1 v tr.length (ints tr) ∧ Below w.heap.size w wr) (fun i _ _ => (intOf i).toNat)
  case atStart => exact ⟨k0, x, [], rfl, HX, Lib.hid (by simp), World.ownsRow_nil _ _ _ _, Below.refl _ _⟩
  case round =>
    obtain ⟨k, y, tr, rfl, hy, ht, ho, hb⟩ := hrel
    have hkl := (List.getElem?_eq_some_iff.1 hy.out).1
    rw [HL.out] at hkl
    have hk1 : (0 : Int) ≤ (k : Int) := by omega
    have hk2 : (k : Int) < (ln : Int) := by omega
    obtain ⟨b, off, ra, rc, rfl, hbw, s0, q1, q2, s3, hrv⟩ := HV.out.at hy.out
    have s1 := cell_later hb q1
    have s2 := cell_later hb q2
    have hsw := hb.size
    have HB := Lib.hid hb
    clear q1 q2
    have HO := Lib.hid ho
    have htl : tr.length ≤ tl := by have := HTT.out; rw [ht.out, List.length_append, List.length_reverse] at this; omega
    clear hrv s0 s3 hb ho
    rcases HINV.out.fr k y hy.out with ⟨rfl, hf, _, ht0⟩ | ⟨hkp, j, z, hjk, hz, hf, _, hzt⟩
    · rw [hf] at s1
      have HE := Lib.hid (show tr.reverse = x.t by rw [ht.out, ht0]; rfl)
      clear ht ht0 hf hy
      have hn0 : ¬ (0 : Int) ≤ -1 := by omega
      rcases HO.out.2 with ⟨hv, hl0⟩ | ⟨g, cap, cur, hv, _⟩
      · subst hv
        have e := List.eq_nil_of_length_eq_zero hl0
        subst e
        have hx0 : x.t = [] := HE.out.symm
        have htl0 : tl = 0 := by have := HTT.out; rw [hx0] at this; exact this.symm
        subst htl0
        have HX0 := Lib.hid hx0
        clear hx0 hl0
        go_wp2_with (first
          | (go_at_call 98
             refine (c_ReverseN _).mono ?_
             rintro e w' ⟨rfl, rfl⟩))
        go_ret
        exact ⟨none, 0, rfl, by rw [HX0.out]; exact World.ownsRow_nil _ _ _ _, HB.out⟩
      · subst hv
        have hlt : tr.length = tl := by have := HTT.out; rw [← HE.out, List.length_reverse] at this; exact this
        rw [hlt] at HO ⊢
        have HLT := Lib.hid hlt
        clear hlt
        go_wp2_with (fail)
        refine (c_Reverse g cap tl w.heap.size tr _ HLT.out (by omega) HO.out).mono ?_
        rintro e w1 ⟨rfl, ho1, hg1⟩
        have HO1 := Lib.hid ho1
        have HB1 := Lib.hid (HB.out.grown hg1 HB.out.size (fun q hq => by simp at hq; have := (HO.out.lt g rfl).1; omega))
        clear ho1 hg1
        go_wp2
        go_ret
        exact ⟨_, cap, rfl, by rw [← HE.out]; exact HO1.out, HB1.out⟩
    · rw [hf] at s1
      have hj0 : (0 : Int) ≤ (j : Int) := by omega
      have HT := Lib.hid (show x.t = z.t ++ (tr ++ [y.r]).reverse by rw [ht.out, hzt]; simp)
      have HZ := Lib.hid hz
      have hrow : Hid (∀ q, u5.ownBlock = some q → w.heap.size ≤ q) := Lib.hid fun q hq => (HO.out.lt q hq).1
      have hblk := World.block_lt_of_cell? _ _ s1
      have HA := Lib.hid (below_alloc (Below.refl wr.heap.size wr) (Obj.cells #[Value.int .i64 y.r] 2))
      clear hz hzt hf ht hy
      go_wp2_with (first
        | (at_builtin
           refine wpList_push_int _ rfl (.tmp 17) (.tmp 23) rfl w.heap.size _ tr.length tr y.r wr.heap.size 1 rfl (own_below HO.out HA.out) rfl (by go_simp) (by omega) (by have := HB.out.size; simp; omega) ?_
           intro v1 w3 hown1 hgrow hold hat
           have HO3 := Lib.hid hown1
           have HB3 := Lib.hid (below_of_grown (below_alloc HB.out (Obj.cells #[Value.int .i64 y.r] 2)) hgrow hrow.out)
           have s1' := hgrow.cell (cell_later HA.out s1) (fun e => by have := hrow.out _ e.symm; dsimp only at this; omega)
           clear hown1 hgrow hold hat))
      go_roundw
      case rel => exact ⟨j, z, tr ++ [y.r], rfl, HZ, HT, by rw [List.length_append]; exact HO3.out, HB3.out⟩
      case measure => simp [intOf]; omega
end Go.Proofs.Ytaloheljfefdeaa

/- FindBad on both sides. Condition: the lengths are those that the laws let by. -/
namespace Go.Proofs.Ytaloheljfefdeaa
open Go.RowKit

set_option maxRecDepth 100000 in
theorem c_FindBad1 (p : Nat) (a : Option Addr) (c : Nat) (vs : List Int) (A' : Option Addr) (c' : Nat) (l : List Tst) (w : World) (hl : vs.length ≤ 1048576) (hl2 : l.length ≤ 1048576) (hin : TsIn vs.length l) (h : Rd w a (ints vs)) (h' : Rd w A' (tstCells l)) (k0 : w.cell? ⟨p, 0, none⟩ = some (.slice A' l.length c')) :
    Calls Try.prog 50 #[.slice a vs.length c, .pointer (some ⟨p, 0, none⟩)] w fun e w' => e = .returned (.bool (hlB vs l)) ∧ Below w.heap.size w w' := by
  have HC := Lib.hid (fun w' h h' => c_holds a c vs A' c' l w' hl hl2 hin h h')
  have H := Lib.hid h
  have H' := Lib.hid h'
  generalize hlB vs l = R at *
  generalize vs.length = vn at *
  generalize l.length = ln at *
  clear h h' hin
  go_enter Try.func50, Try.ntmps50
  go_wp2_with (fail)
  refine (HC.out _ H.out H'.out).mono ?_
  rintro e w1 ⟨rfl, hb⟩
  have HB := Lib.hid hb
  clear hb
  go_wp2
  go_ret
  exact ⟨rfl, HB.out⟩
def fbC (m : Mdl) (ts : List Tst) : Int := if xmC m ts = 0 then (if badI ts (xmL m ts) < 0 then 4 else 0) else xmC m ts
def fbL (m : Mdl) (ts : List Tst) : List Int := if xmC m ts = 0 then (if badI ts (xmL m ts) < 0 then [] else match (xmL m ts)[(badI ts (xmL m ts)).toNat]? with | some x => x.t | none => []) else []
theorem idxI_lt {α : Type} {pr : α → Bool} {l : List α} (h : ¬ idxI pr l < 0) : ∃ (k : Nat) (x : α), idxI pr l = k ∧ l[k]? = some x := by
  unfold idxI at *
  split at h
  · rename_i k hk
    rw [List.findIdx?_eq_some_iff_getElem] at hk
    obtain ⟨h1, _⟩ := hk
    exact ⟨k, l[k], rfl, List.getElem?_eq_getElem h1⟩
  · omega
set_option maxHeartbeats 1000000 in
set_option maxRecDepth 100000 in
theorem c_FindBad (m : Mdl) (az ax ar : Option Addr) (cz cs cr : Nat) (A : Option Addr) (c : Nat) (ts : List Tst) (w : World) (hok : MOk m) (hl2 : ts.length ≤ 1048576) (h : Md w az ax ar m) (hv : Rd w A (tstCells ts)) :
    Calls Try.prog 9 #[mv m az ax ar cz cs cr, .slice A ts.length c] w (RetIC (fbL m ts).length (fbL m ts) (fbC m ts) w) := by
  have hmf : ∀ (fn : Fn) (first cap : Array Value) (w : World), (Instr.makeFunc fn first cap).run Try.prog w = .ok (.func fn first cap) w := fun _ _ _ _ => rfl
  have HX := Lib.hid (fun w' h hv => c_exploreModel m az ax ar cz cs cr A c ts w' hok hl2 h hv)
  have HM := Lib.hid h
  have HV := Lib.hid hv
  have HFC := Lib.hid (show fbC m ts = if xmC m ts = 0 then (if badI ts (xmL m ts) < 0 then 4 else 0) else xmC m ts from rfl)
  have HFL := Lib.hid (show fbL m ts = if xmC m ts = 0 then (if badI ts (xmL m ts) < 0 then [] else match (xmL m ts)[(badI ts (xmL m ts)).toNat]? with | some x => x.t | none => []) else [] from rfl)
  have HTS := Lib.hid (fun hc => xm_ts (m := m) (ts := ts) hok hc)
  have HINV := Lib.hid (show InvR (xmL m ts) by
    unfold xmL
    split
    · exact xp_inv m
    · exact ⟨by simp, fun i x h => by simp at h, fun x h => by simp at h, fun i x h => by simp at h⟩)
  generalize fbC m ts = FC at *
  generalize fbL m ts = FL at *
  generalize xmL m ts = L at *
  generalize hC : xmC m ts = C at *
  clear h hv hok hC
  dsimp only [mv] at *
  generalize m.sz.length = sn at *
  generalize m.st.length = tn at *
  generalize m.rs.length = rn at *
  by_cases hc : C = 0
  · subst hc
    obtain ⟨hts, hln⟩ := HTS.out rfl
    have HLN := Lib.hid hln
    have HFO := Lib.hid (fun (w' : World) (x : Value) a1 c1 hv hcall => c_firstOf 50 x (fun v => hlB v ts) a1 c1 L w' hln hv (enter_of Try.func50 (by kernel_rfl) rfl) hcall)
    have HS1 := Lib.hid (fun p (t : Rc) (ht : t ∈ L) a c1 w' h h' k0 => c_FindBad1 p a c1 t.v A c ts w' (hts t ht).2 hl2 (hts t ht).1 h h' k0)
    have HBI := Lib.hid (show badI ts L = idxI (fun t => hlB t.v ts) L from rfl)
    have HTR := Lib.hid (fun A1 c1 (k : Nat) (x : Rc) w' hx hv => c_traceTo A1 c1 L k x w' HINV.out hln hx hv)
    rw [← HBI.out] at HFO
    have e1 := HFC.out
    have e2 := HFL.out
    rw [if_pos rfl] at e1 e2
    by_cases hbd : badI ts L < 0
    · rw [if_pos hbd] at e1 e2
      subst e1 e2
      have HBD := Lib.hid hbd
      generalize badI ts L = bi at *
      have hbi := HBD.out
      generalize hxl : L.length = xn at *
      have HXL := Lib.hid hxl
      clear hxl
      clear HTS hts hln HFC HFL HTR HINV
      generalize ts.length = ln at *
      go_enter Try.func9, Try.ntmps9
      go_wp2_with (fail)
      refine (HX.out _ (HM.out.alloc _ |>.alloc _) (HV.out.alloc _ |>.alloc _)).mono ?_
      rintro e w1 ⟨A1, c1, rfl, ho, hb⟩
      have HB := Lib.hid (below_chain (by (repeat (first | exact Below.refl _ _ | assumption | refine below_alloc ?_ _ | refine below_drewN ?_ _ | refine below_set ?_ _ (by simp; try omega) | refine Below.drew ?_)) : Below w.heap.size w _) hb)
      have k0 : w1.cell? ⟨w.heap.size + 1, 0, none⟩ = some (.slice A ln c) := cell_later hb (by go_simp)
      have HO := Lib.hid (ho.rd HXL.out.symm)
      have HK := Lib.hid k0
      clear hb ho
      go_wp2_with (fail)
      refine (HFO.out _ _ _ _ HO.out (Lib.hid fun wr t a c' ht hb hr => HS1.out _ t ht a c' wr hr (HV.out.below (below_chain HB.out hb)) (cell_later hb HK.out))).mono ?_
      rintro e w2 ⟨rfl, hb⟩
      have HB2 := Lib.hid (below_chain HB.out hb)
      clear hb
      go_wp2
      go_ret2
      exact retIC_nil rfl rfl HB2.out
    · rw [if_neg hbd] at e1 e2
      obtain ⟨kb, xb, hk, hxk⟩ := idxI_lt (by rw [HBI.out] at hbd; exact hbd)
      rw [← HBI.out] at hk
      rw [hk, Int.toNat_natCast, hxk] at e2
      have e2' : FL = xb.t := e2
      subst e1 e2'
      rw [hk] at HFO
      have HTK := Lib.hid (fun A1 c1 w' hv => HTR.out A1 c1 kb xb w' hxk hv)
      have hkb0 : (0 : Int) ≤ (kb : Int) := by omega
      have hkb1 : ¬ (kb : Int) < 0 := by omega
      generalize hxl : L.length = xn at *
      have HXL := Lib.hid hxl
      clear hxl
      clear HTS hts hln HFC HFL HTR HINV HBI hbd hk hxk e2
      generalize ts.length = ln at *
      have HXT := Lib.hid (rfl : xb.t.length = xb.t.length)
      generalize xb.t.length = tl at *
      go_enter Try.func9, Try.ntmps9
      go_wp2_with (fail)
      refine (HX.out _ (HM.out.alloc _ |>.alloc _) (HV.out.alloc _ |>.alloc _)).mono ?_
      rintro e w1 ⟨A1, c1, rfl, ho, hb⟩
      have HB := Lib.hid (below_chain (by (repeat (first | exact Below.refl _ _ | assumption | refine below_alloc ?_ _ | refine below_drewN ?_ _ | refine below_set ?_ _ (by simp; try omega) | refine Below.drew ?_)) : Below w.heap.size w _) hb)
      have k0 : w1.cell? ⟨w.heap.size + 1, 0, none⟩ = some (.slice A ln c) := cell_later hb (by go_simp)
      have HO := Lib.hid (ho.rd HXL.out.symm)
      have HK := Lib.hid k0
      clear hb ho
      go_wp2_with (fail)
      refine (HFO.out _ _ _ _ HO.out (Lib.hid fun wr t a c' ht hb hr => HS1.out _ t ht a c' wr hr (HV.out.below (below_chain HB.out hb)) (cell_later hb HK.out))).mono ?_
      rintro e w2 ⟨rfl, hb⟩
      have HB2 := Lib.hid (below_chain HB.out hb)
      have HO2 := Lib.hid (HO.out.below hb)
      clear hb
      go_wp2_with (fail)
      refine (HTK.out _ _ _ HO2.out).mono ?_
      rintro e w3 ⟨A3, c3, rfl, ho, hb⟩
      have HB3 := Lib.hid (below_chain HB2.out hb)
      have HO3 := Lib.hid (own_mono ho HB2.out.size)
      clear hb ho
      go_wp2
      go_ret2
      exact ⟨A3, c3, rfl, HO3.out, HB3.out⟩
  · have e1 := HFC.out
    have e2 := HFL.out
    rw [if_neg hc] at e1 e2
    subst e1 e2
    have hci : (FC == 0) = false := by simpa using hc
    clear HTS HFC HFL HINV
    generalize L.length = xn at *
    generalize ts.length = ln at *
    go_enter Try.func9, Try.ntmps9
    go_wp2_with (fail)
    refine (HX.out _ (HM.out.alloc _ |>.alloc _) (HV.out.alloc _ |>.alloc _)).mono ?_
    rintro e w1 ⟨A1, c1, rfl, ho, hb⟩
    have HB := Lib.hid (below_chain (by (repeat (first | exact Below.refl _ _ | assumption | refine below_alloc ?_ _ | refine below_drewN ?_ _ | refine below_set ?_ _ (by simp; try omega) | refine Below.drew ?_)) : Below w.heap.size w _) hb)
    clear hb ho
    go_wp2
    go_ret2
    exact retIC_nil rfl rfl HB.out
set_option maxHeartbeats 1000000 in
set_option maxRecDepth 100000 in
theorem c_sFindBad (m : Mdl) (az ax ar : Option Addr) (cz cs cr : Nat) (A : Option Addr) (c : Nat) (ts : List Tst) (w : World) (hok : MOk m) (hl2 : ts.length ≤ 1048576) (h : Md w az ax ar m) (hv : Rd w A (tstCells ts)) :
    Calls Try.prog 10 #[mv m az ax ar cz cs cr, .slice A ts.length c] w (RetIC (fbL m ts).length (fbL m ts) (fbC m ts) w) := by
  have HX := Lib.hid (fun w' h hv => c_l21All m az ax ar cz cs cr A c ts w' hok hl2 h hv)
  have HM := Lib.hid h
  have HV := Lib.hid hv
  have HFC := Lib.hid (show fbC m ts = if xmC m ts = 0 then (if badI ts (xmL m ts) < 0 then 4 else 0) else xmC m ts from rfl)
  have HFL := Lib.hid (show fbL m ts = if xmC m ts = 0 then (if badI ts (xmL m ts) < 0 then [] else match (xmL m ts)[(badI ts (xmL m ts)).toNat]? with | some x => x.t | none => []) else [] from rfl)
  have HTS := Lib.hid (fun hc => xm_ts (m := m) (ts := ts) hok hc)
  have HINV := Lib.hid (show InvR (xmL m ts) by
    unfold xmL
    split
    · exact xp_inv m
    · exact ⟨by simp, fun i x h => by simp at h, fun x h => by simp at h, fun i x h => by simp at h⟩)
  generalize fbC m ts = FC at *
  generalize fbL m ts = FL at *
  generalize xmL m ts = L at *
  generalize hC : xmC m ts = C at *
  clear h hv hok hC
  dsimp only [mv] at *
  generalize m.sz.length = sn at *
  generalize m.st.length = tn at *
  generalize m.rs.length = rn at *
  by_cases hc : C = 0
  · subst hc
    obtain ⟨hts, hln⟩ := HTS.out rfl
    have HBD := Lib.hid (fun S w' hst hv => c_l21Bad S (S + 1) A c ts L w' hl2 hln hts hst hv)
    have HBI := Lib.hid (show badI ts L = idxI (fun t => hlB t.v ts) L from rfl)
    have e1 := HFC.out
    have e2 := HFL.out
    rw [if_pos rfl] at e1 e2
    by_cases hbd : badI ts L < 0
    · rw [if_pos hbd] at e1 e2
      subst e1 e2
      generalize badI ts L = bi at *
      clear HTS hts hln HFC HFL HINV
      generalize ts.length = ln at *
      go_enter Try.func10, Try.ntmps10
      go_wp2_with (fail)
      refine (HX.out _ (HM.out.alloc _) (HV.out.alloc _)).mono ?_
      rintro e w1 ⟨p, rfl, hb, hgood, _⟩
      obtain ⟨S, rfl, hst, hS⟩ := hgood rfl
      have HB := Lib.hid (below_chain (by (repeat (first | exact Below.refl _ _ | assumption | refine below_alloc ?_ _ | refine below_drewN ?_ _ | refine below_set ?_ _ (by simp; try omega) | refine Below.drew ?_)) : Below w.heap.size w _) hb)
      have HST := Lib.hid hst
      clear hb hgood hst hS
      go_wp2_with (fail)
      refine (HBD.out S _ HST.out (HV.out.below HB.out)).mono ?_
      rintro e w2 ⟨rfl, hb⟩
      have HB2 := Lib.hid (below_chain HB.out hb)
      clear hb
      go_wp2
      go_ret2
      exact retIC_nil rfl rfl HB2.out
    · rw [if_neg hbd] at e1 e2
      obtain ⟨kb, xb, hk, hxk⟩ := idxI_lt (by rw [HBI.out] at hbd; exact hbd)
      rw [← HBI.out] at hk
      rw [hk, Int.toNat_natCast, hxk] at e2
      have e2' : FL = xb.t := e2
      subst e1 e2'
      rw [hk] at HBD
      have HXK := Lib.hid hxk
      have hkb0 : (0 : Int) ≤ (kb : Int) := by omega
      have hkb1 : ¬ (kb : Int) < 0 := by omega
      have hkl := (List.getElem?_eq_some_iff.1 hxk).1
      have htb : xb.t.length ≤ 100000000 := by
        have h1 := HINV.out.dt xb (List.mem_of_getElem? hxk)
        have h2 := HINV.out.di kb xb hxk
        omega
      clear HTS hts HFC HFL HINV HBI hbd hk hxk e2
      generalize ts.length = ln at *
      go_enter Try.func10, Try.ntmps10
      go_wp2_with (fail)
      refine (HX.out _ (HM.out.alloc _) (HV.out.alloc _)).mono ?_
      rintro e w1 ⟨p, rfl, hb, hgood, _⟩
      obtain ⟨S, rfl, hst, hS⟩ := hgood rfl
      have HB := Lib.hid (below_chain (by (repeat (first | exact Below.refl _ _ | assumption | refine below_alloc ?_ _ | refine below_drewN ?_ _ | refine below_set ?_ _ (by simp; try omega) | refine Below.drew ?_)) : Below w.heap.size w _) hb)
      have HST := Lib.hid hst
      clear hb hgood hst hS
      go_wp2_with (fail)
      refine (HBD.out S _ HST.out (HV.out.below HB.out)).mono ?_
      rintro e w2 ⟨rfl, hb⟩
      have HB2 := Lib.hid (below_chain HB.out hb)
      obtain ⟨Ao, co, At, ct, Ak, ck, hSB⟩ := HST.out.forms
      have hSB2 := hSB.below hb
      obtain ⟨c0, c1, c2, c3⟩ := hSB2.c
      obtain ⟨tg, ta, tc, htg, hge, r0, hto⟩ := hSB2.t.at (k := kb) (l := xb.t) (by rw [List.getElem?_map, HXK.out]; rfl)
      subst htg
      have HTO := Lib.hid hto
      have hkli : (kb : Int) < (L.length : Int) := by omega
      have HOW := Lib.hid (fun w' h => c_l01OwnQ (S + 1) xb.t.length tc ta xb.t w' rfl htb h)
      generalize xb.t.length = tl at *
      generalize L.length = ll at *
      clear hb hSB hSB2 c0 c2 c3 hto
      go_wp2_with (fail)
      refine (HOW.out _ HTO.out).mono ?_
      rintro e w3 ⟨g3, c3, rfl, ho, hb⟩
      have HB3 := Lib.hid (below_chain HB2.out hb)
      have HO3 := Lib.hid (own_mono ho HB2.out.size)
      clear hb ho
      go_wp2
      go_ret2
      exact ⟨_, c3, rfl, HO3.out, HB3.out⟩
  · have e1 := HFC.out
    have e2 := HFL.out
    rw [if_neg hc] at e1 e2
    subst e1 e2
    have hci : (FC == 0) = false := by simpa using hc
    clear HTS HFC HFL HINV
    generalize ts.length = ln at *
    have HC := Lib.hid hc
    go_enter Try.func10, Try.ntmps10
    go_wp2_with (fail)
    refine (HX.out _ (HM.out.alloc _) (HV.out.alloc _)).mono ?_
    rintro e w1 ⟨p, rfl, hb, _, _⟩
    have HB := Lib.hid (below_chain (by (repeat (first | exact Below.refl _ _ | assumption | refine below_alloc ?_ _ | refine below_drewN ?_ _ | refine below_set ?_ _ (by simp; try omega) | refine Below.drew ?_)) : Below w.heap.size w _) hb)
    clear hb
    go_wp2
    go_ret2
    exact retIC_nil rfl rfl HB.out
end Go.Proofs.Ytaloheljfefdeaa

/- DrawIsCounterexample. Condition: at most 4096 bytes of code. -/
namespace Go.Proofs.Ytaloheljfefdeaa
open Go.RowKit

theorem fbL_len2 (m : Mdl) (ts : List Tst) : (fbL m ts).length ≤ 1048576 := by
  unfold fbL
  split
  · split
    · simp
    · split
      · rename_i x hx
        have hinv : InvR (xmL m ts) := by
          unfold xmL
          split
          · exact xp_inv m
          · exact ⟨by simp, fun i x h => by simp at h, fun x h => by simp at h, fun i x h => by simp at h⟩
        have h1 := hinv.dt x (List.mem_of_getElem? hx)
        have h2 := hinv.di _ x hx
        have h3 := (List.getElem?_eq_some_iff.1 hx).1
        have h4 : (xmL m ts).length ≤ 4000 := by
          unfold xmL
          split
          · exact xp_len m
          · simp
        omega
      · simp
  · simp
set_option maxHeartbeats 1000000 in
set_option maxRecDepth 100000 in
theorem c_DrawIsCounterexample (A : Option Addr) (c n : Nat) (w : World) (hn : n ≤ 4096) (hb : Bytes w w.heap.size A n) : Calls Try.prog 13 #[.slice A n c] w (RetDMTV w) := by
  have HBX : Hid (MBox (w.alloc (.cells #[.slice none 0 0, .slice none 0 0, .slice none 0 0] 27)) w.heap.size w.heap.size (.slice none 0 0) (.slice none 0 0) (.slice none 0 0)) := Lib.hid (mbox_new (w := w) _ _ _)
  have hb1 := bytes_later hb (below_alloc (Below.refl w.heap.size w) (.cells #[.slice none 0 0, .slice none 0 0, .slice none 0 0] 27))
  have HB1 := Lib.hid (below_alloc (Below.refl w.heap.size w) (.cells #[.slice none 0 0, .slice none 0 0, .slice none 0 0] 27))
  clear hb
  go_enter Try.func13, Try.ntmps13
  go_wp2_with (fail)
  refine (c_From A c n _ hn hb1).mono ?_
  rintro e w1 ⟨rfl, hs, hb⟩
  have HS1 := Lib.hid hs
  have HB2 := Lib.hid (below_chain HB1.out hb)
  have HX1 : Hid (MBox w1 w.heap.size w.heap.size (.slice none 0 0) (.slice none 0 0) (.slice none 0 0)) := Lib.hid (own_below HBX.out hb)
  obtain ⟨B, hBe⟩ : ∃ B, B = (w.alloc (.cells #[.slice none 0 0, .slice none 0 0, .slice none 0 0] 27)).heap.size := ⟨_, rfl⟩
  rw [← hBe] at HS1 ⊢
  have hBw : B = w.heap.size + 1 := by rw [hBe]; simp
  clear hb hs hb1 HB1 HBX hBe
  have HBW := Lib.hid hBw
  have hB0 : w.heap.size < B := by omega
  have hB1 := HS1.out.lt
  clear hBw
  go_wp2_with (fail)
  refine (c_l21DrawTests B _ HS1.out).mono ?_
  rintro e w2 ⟨az, ax, ar, cz, cs, cr, sn, tn, rn, m, ds, A5, c5, k, ts, rfl, hmd, hn1, hn2, ht1, ht2, hr2, htl, hk, hto, hd⟩
  have HX2 : Hid (MBox w2 w.heap.size w.heap.size (.slice none 0 0) (.slice none 0 0) (.slice none 0 0)) := Lib.hid (kept_far2 HX1.out hd.g (by omega))
  have HB4 := Lib.hid (below_of_grown HB2.out hd.g (fun q hq => by simp at hq; omega))
  have hw12 := hd.g.size
  have hw01 : w.heap.size < w1.heap.size := by omega
  have hB2 : B < w2.heap.size := by omega
  have HM2 := Lib.hid hmd
  have HT2 := Lib.hid hto
  have HTL := Lib.hid htl
  have hs2 := hd.s
  have HD2 : Hid (DW B w2 (w2.alloc (.cells #[.slice az sn cz, .slice ax tn cs, .slice ar rn cr] 27))) := Lib.hid ((DW.start hs2).alloc hB2 _)
  have HMB2 : Hid (MBox (w2.alloc (.cells #[.slice az sn cz, .slice ax tn cs, .slice ar rn cr] 27)) w2.heap.size w2.heap.size (.slice az sn cz) (.slice ax tn cs) (.slice ar rn cr)) := Lib.hid (mbox_new _ _ _)
  have hx2 := (HX2.out).c.2.2.2.2.2.2.2
  have hok : MOk m := hmd.ok (by omega) (by omega) (by omega)
  have HOK := Lib.hid hok
  have HFB := Lib.hid (fun w' h hv => show Calls Try.prog 10 #[.agg #[.slice az sn cz, .slice ax tn cs, .slice ar rn cr], .slice A5 k c5] w' _ from by
    have := c_sFindBad m az ax ar cz cs cr A5 c5 ts w' hok (by omega) h hv
    unfold mv at this
    rw [hmd.z, hmd.s, hmd.r, htl] at this
    exact this)
  clear hmd hd HB2 HX1 hs2 hok hto htl
  go_wp2_with (fail)
  refine (c_NextD B _ _ HD2.out.s (by omega)).mono ?_
  rintro e w3 ⟨r, rfl, hr0, hr1, _, hd⟩
  have HD3a := Lib.hid (HD2.out.then_ hd)
  have HMB3 : Hid (MBox w3 w2.heap.size w2.heap.size (.slice az sn cz) (.slice ax tn cs) (.slice ar rn cr)) := Lib.hid (hd.own HMB2.out hB2)
  have hB3 : B < w3.heap.size := by have := HD3a.out.g.size; omega
  clear hd hr1 hr0 HD2 HMB2
  obtain ⟨b0, b1, b2, _, _, _, _, hplt⟩ := MBox.c HMB3.out
  by_cases hr : r = 0
  · subst hr
    go_wp2_with (fail)
    refine (HFB.out _ (HM2.out.far HD3a.out).o.md (Rd.own (HD3a.out.own HT2.out hB1))).mono ?_
    rintro e w4 ⟨A4, c4, rfl, hvo, hb⟩
    have HVL := Lib.hid (fbL_len2 m ts)
    have HD3 := Lib.hid (HD3a.out.below hB2 hb)
    have hw3 := HD3a.out.g.size
    have HVO : Hid (w4.ownsRow w2.heap.size 2 1 (.slice A4 (fbL m ts).length c4) (fbL m ts).length (ints (fbL m ts))) := Lib.hid (own_mono hvo hw3)
    replace b0 := cell_later hb b0
    replace b1 := cell_later hb b1
    replace b2 := cell_later hb b2
    clear hb hvo
    generalize fbL m ts = vs at HVL HVO ⊢
    by_cases hc : fbC m ts = 0
    · rw [hc]
      have HX3 : Hid (MBox w4 w.heap.size w.heap.size (.slice none 0 0) (.slice none 0 0) (.slice none 0 0)) := Lib.hid (kept_far2 HX2.out HD3.out.g (by omega))
      have HM3 := Lib.hid (HM2.out.far HD3.out)
      have HF := Lib.hid (MBox.set3 HX3.out (Value.slice az sn cz) (Value.slice ax tn cs) (Value.slice ar rn cr))
      have HB5 := Lib.hid (below_put (below_of_grown HB4.out HD3.out.g (fun q hq => by simp at hq; omega)) (Value.slice az sn cz) (Value.slice ax tn cs) (Value.slice ar rn cr) (Nat.le_refl _))
      have HFIN := Lib.hid (HM3.out.put2 HX3.out (x' := Value.slice az sn cz) (y' := Value.slice ax tn cs) (z' := Value.slice ar rn cr))
      have HVF := Lib.hid (put_row HVO.out HX3.out (by decide) (x' := Value.slice az sn cz) (y' := Value.slice ax tn cs) (z' := Value.slice ar rn cr))
      have HTF := Lib.hid (put_row (HD3.out.own HT2.out hB1) HX3.out (by decide) (x' := Value.slice az sn cz) (y' := Value.slice ax tn cs) (z' := Value.slice ar rn cr))
      obtain ⟨v0, v1, v2, f0, f1, f2, _, hxl⟩ := MBox.c HX3.out
      clear hc HVO
      go_wp2_with (fail)
      change bodyPost _ _ _ _ _ (set3 w4 w.heap.size (Value.slice az sn cz) (Value.slice ax tn cs) (Value.slice ar rn cr))
      generalize set3 w4 w.heap.size (Value.slice az sn cz) (Value.slice ax tn cs) (Value.slice ar rn cr) = WF at HF HB5 HFIN HVF HTF ⊢
      obtain ⟨r0, r1, r2, _⟩ := MBox.c HF.out.1
      clear f0 f1 f2 v0 v1 v2 b0 b1 b2
      have hz := HFIN.out.z
      have hs := HFIN.out.s
      have hr := HFIN.out.r
      have HMD := HFIN.out.o.mono (by omega : w.heap.size ≤ w1.heap.size)
      clear HFIN
      subst hz
      subst hs
      subst hr
      have htl := HTL.out
      clear HTL
      subst htl
      refine bodyPost_ret (v := .tuple #[mv m az ax ar cz cs cr, .slice A5 ts.length c5, .slice A4 vs.length c4]) (by simp [mv, results, Try.results13, go_sem, r0, r1, r2]) rfl ⟨az, ax, ar, cz, cs, cr, m, ds, A5, c5, A4, c4, ts, vs, rfl, HOK.out, HMD, by omega, own_mono HTF.out (Nat.le_of_lt hw01), HVL.out, own_mono HVF.out (by omega), HB5.out⟩
    · have hcb : (fbC m ts == 0) = false := by simpa using hc
      clear HVL HVO HD3a hw3
      have HD3a := HD3
      clear HD3
      generalize fbC m ts = C at *
      go_wp2_with (fail)
      refine wp_region_held_drew (S := (fun w' => w'.cell? ⟨w2.heap.size, 0, none⟩ = some (.slice az sn cz) ∧ w'.cell? ⟨w2.heap.size, 1, none⟩ = some (.slice ax tn cs) ∧ w'.cell? ⟨w2.heap.size, 2, none⟩ = some (.slice ar rn cr))) (by kernel_rfl) ?_ (fun hHeld => ?_)
      · exact ⟨b0, b1, b2⟩
      refine rg_take (v := ?_) 0 rfl (by kernel_rfl) (by kernel_rfl) (by kernel_rfl) (fun _ _ _ h => h) (by kernel_rfl) ?_ (by assumption) ?_
      rotate_left
      · (intro w' hSw; (try dsimp only at hSw); go_simp; first | done | with_reducible rfl)
      simp only [Act.put, List.setIfInBounds_toArray, List.set_cons_zero, List.set_cons_succ]
      refine rg_take (v := ?_) 1 rfl (by kernel_rfl) (by kernel_rfl) (by kernel_rfl) (fun _ _ _ h => h) (by kernel_rfl) ?_ (by assumption) ?_
      rotate_left
      · (intro w' hSw; (try dsimp only at hSw); go_simp; first | done | with_reducible rfl)
      simp only [Act.put, List.setIfInBounds_toArray, List.set_cons_zero, List.set_cons_succ]
      refine rg_take (v := ?_) 2 rfl (by kernel_rfl) (by kernel_rfl) (by kernel_rfl) (fun _ _ _ h => h) (by kernel_rfl) ?_ (by assumption) ?_
      rotate_left
      · (intro w' hSw; (try dsimp only at hSw); go_simp; first | done | with_reducible rfl)
      simp only [Act.put, List.setIfInBounds_toArray, List.set_cons_zero, List.set_cons_succ]
      refine rg_take (v := ?_) 3 rfl (by kernel_rfl) (by kernel_rfl) (by kernel_rfl) (fun _ _ _ h => h) (by kernel_rfl) ?_ (by assumption) ?_
      rotate_left
      · (intro w' hSw; (try dsimp only at hSw); go_simp; first | done | with_reducible rfl)
      simp only [Act.put, List.setIfInBounds_toArray, List.set_cons_zero, List.set_cons_succ]
      refine rg_run 4 rfl (by kernel_rfl) (by kernel_rfl) (fun K hK => ?_)
      go_simp
      refine (c_l21DrawTrace B w1.heap.size az ax ar cz cs cr sn tn rn m ds _ (HD3a.out.drew hB2).s (HM2.out.far (HD3a.out.drew hB2)) ht1 HOK.out).mono ?_
      rintro e w5 ⟨A4, c4, n4, vs, rfl, hvl, hvn, hvo, hd⟩
      have HD3 := Lib.hid ((HD3a.out.drew hB2).then_ hd)
      have hB2a : ¬ B = w2.heap.size := by omega
      replace b0 := hd.cell (by exact b0) hB2a
      replace b1 := hd.cell (by exact b1) hB2a
      replace b2 := hd.cell (by exact b2) hB2a
      have HVO : Hid (w5.ownsRow w2.heap.size 2 1 (.slice A4 n4 c4) n4 (ints vs)) := Lib.hid (own_mono hvo (by have := HD3a.out.g.size; exact this))
      have HVL := Lib.hid hvl
      have HX3 : Hid (MBox w5 w.heap.size w.heap.size (.slice none 0 0) (.slice none 0 0) (.slice none 0 0)) := Lib.hid (kept_far2 HX2.out HD3.out.g (by omega))
      have HM3 := Lib.hid (HM2.out.far HD3.out)
      have HF := Lib.hid (MBox.set3 HX3.out (Value.slice az sn cz) (Value.slice ax tn cs) (Value.slice ar rn cr))
      have HB5 := Lib.hid (below_put (below_of_grown HB4.out HD3.out.g (fun q hq => by simp at hq; omega)) (Value.slice az sn cz) (Value.slice ax tn cs) (Value.slice ar rn cr) (Nat.le_refl _))
      have HFIN := Lib.hid (HM3.out.put2 HX3.out (x' := Value.slice az sn cz) (y' := Value.slice ax tn cs) (z' := Value.slice ar rn cr))
      have HVF := Lib.hid (put_row HVO.out HX3.out (by decide) (x' := Value.slice az sn cz) (y' := Value.slice ax tn cs) (z' := Value.slice ar rn cr))
      have HTF := Lib.hid (put_row (HD3.out.own HT2.out hB1) HX3.out (by decide) (x' := Value.slice az sn cz) (y' := Value.slice ax tn cs) (z' := Value.slice ar rn cr))
      obtain ⟨v0, v1, v2, f0, f1, f2, _, hxl⟩ := MBox.c HX3.out
      clear hd hvo hvl HVO
      go_wp2
      clear hHeld
      refine hK.out _ _ ⟨b0, b1, b2⟩ (fun hHeld => ?_)
      clear hK K
      try simp only [Act.put, List.setIfInBounds_toArray, List.set_cons_zero, List.set_cons_succ]
      refine rg_run 5 rfl (by kernel_rfl) (by kernel_rfl) (fun K hK => ?_)
      go_simp
      have hq0 := HF.out.2.cell b0 (fun e => by simp at e; omega)
      have hq1 := HF.out.2.cell b1 (fun e => by simp at e; omega)
      have hq2 := HF.out.2.cell b2 (fun e => by simp at e; omega)
      clear hHeld
      refine hK.out _ _ ⟨hq0, hq1, hq2⟩ (fun hHeld => ?_)
      clear hK K
      try simp only [Act.put, List.setIfInBounds_toArray, List.set_cons_zero, List.set_cons_succ]
      refine rg_take (v := ?_) 6 rfl (by kernel_rfl) (by kernel_rfl) (by kernel_rfl) (fun _ _ _ h => h) (by kernel_rfl) ?_ (by assumption) ?_
      rotate_left
      · (intro w' hSw; (try dsimp only at hSw); go_simp; first | done | with_reducible rfl)
      simp only [Act.put, List.setIfInBounds_toArray, List.set_cons_zero, List.set_cons_succ]
      refine rg_take (v := ?_) 7 rfl (by kernel_rfl) (by kernel_rfl) (by kernel_rfl) (fun _ _ _ h => h) (by kernel_rfl) ?_ (by assumption) ?_
      rotate_left
      · (intro w' hSw; (try dsimp only at hSw); go_simp; first | done | with_reducible rfl)
      simp only [Act.put, List.setIfInBounds_toArray, List.set_cons_zero, List.set_cons_succ]
      refine wpAnyH_done (by kernel_rfl) ?_ _
      clear hHeld
      go_wp2_with (fail)
      change bodyPost _ _ _ _ _ (set3 w5 w.heap.size (Value.slice az sn cz) (Value.slice ax tn cs) (Value.slice ar rn cr))
      generalize set3 w5 w.heap.size (Value.slice az sn cz) (Value.slice ax tn cs) (Value.slice ar rn cr) = WF at HF HB5 HFIN HVF HTF ⊢
      obtain ⟨r0, r1, r2, _⟩ := MBox.c HF.out.1
      clear f0 f1 f2 v0 v1 v2 hq0 hq1 hq2 b0 b1 b2
      have hz := HFIN.out.z
      have hs := HFIN.out.s
      have hr := HFIN.out.r
      have HMD := HFIN.out.o.mono (by omega : w.heap.size ≤ w1.heap.size)
      clear HFIN
      subst hz
      subst hs
      subst hr
      have htl := HTL.out
      clear HTL
      subst htl
      have hvl := HVL.out
      clear HVL
      subst hvl
      refine bodyPost_ret (v := .tuple #[mv m az ax ar cz cs cr, .slice A5 ts.length c5, .slice A4 vs.length c4]) (by simp [mv, results, Try.results13, go_sem, r0, r1, r2]) rfl ⟨az, ax, ar, cz, cs, cr, m, ds, A5, c5, A4, c4, ts, vs, rfl, HOK.out, HMD, by omega, own_mono HTF.out (Nat.le_of_lt hw01), by omega, own_mono HVF.out (by omega), HB5.out⟩
  · have hrb : (r == 0) = false := by simpa using hr
    go_wp2_with (fail)
    refine wp_region_held_drew (S := (fun w' => w'.cell? ⟨w2.heap.size, 0, none⟩ = some (.slice az sn cz) ∧ w'.cell? ⟨w2.heap.size, 1, none⟩ = some (.slice ax tn cs) ∧ w'.cell? ⟨w2.heap.size, 2, none⟩ = some (.slice ar rn cr))) (by kernel_rfl) ?_ (fun hHeld => ?_)
    · exact ⟨b0, b1, b2⟩
    refine rg_take (v := ?_) 0 rfl (by kernel_rfl) (by kernel_rfl) (by kernel_rfl) (fun _ _ _ h => h) (by kernel_rfl) ?_ (by assumption) ?_
    rotate_left
    · (intro w' hSw; (try dsimp only at hSw); go_simp; first | done | with_reducible rfl)
    simp only [Act.put, List.setIfInBounds_toArray, List.set_cons_zero, List.set_cons_succ]
    refine rg_take (v := ?_) 1 rfl (by kernel_rfl) (by kernel_rfl) (by kernel_rfl) (fun _ _ _ h => h) (by kernel_rfl) ?_ (by assumption) ?_
    rotate_left
    · (intro w' hSw; (try dsimp only at hSw); go_simp; first | done | with_reducible rfl)
    simp only [Act.put, List.setIfInBounds_toArray, List.set_cons_zero, List.set_cons_succ]
    refine rg_take (v := ?_) 2 rfl (by kernel_rfl) (by kernel_rfl) (by kernel_rfl) (fun _ _ _ h => h) (by kernel_rfl) ?_ (by assumption) ?_
    rotate_left
    · (intro w' hSw; (try dsimp only at hSw); go_simp; first | done | with_reducible rfl)
    simp only [Act.put, List.setIfInBounds_toArray, List.set_cons_zero, List.set_cons_succ]
    refine rg_take (v := ?_) 3 rfl (by kernel_rfl) (by kernel_rfl) (by kernel_rfl) (fun _ _ _ h => h) (by kernel_rfl) ?_ (by assumption) ?_
    rotate_left
    · (intro w' hSw; (try dsimp only at hSw); go_simp; first | done | with_reducible rfl)
    simp only [Act.put, List.setIfInBounds_toArray, List.set_cons_zero, List.set_cons_succ]
    refine rg_run 4 rfl (by kernel_rfl) (by kernel_rfl) (fun K hK => ?_)
    go_simp
    refine (c_l21DrawTrace B w1.heap.size az ax ar cz cs cr sn tn rn m ds _ (HD3a.out.drew hB2).s (HM2.out.far (HD3a.out.drew hB2)) ht1 HOK.out).mono ?_
    rintro e w5 ⟨A4, c4, n4, vs, rfl, hvl, hvn, hvo, hd⟩
    have HD3 := Lib.hid ((HD3a.out.drew hB2).then_ hd)
    have hB2a : ¬ B = w2.heap.size := by omega
    replace b0 := hd.cell (by exact b0) hB2a
    replace b1 := hd.cell (by exact b1) hB2a
    replace b2 := hd.cell (by exact b2) hB2a
    have HVO : Hid (w5.ownsRow w2.heap.size 2 1 (.slice A4 n4 c4) n4 (ints vs)) := Lib.hid (own_mono hvo (by have := HD3a.out.g.size; exact this))
    have HVL := Lib.hid hvl
    have HX3 : Hid (MBox w5 w.heap.size w.heap.size (.slice none 0 0) (.slice none 0 0) (.slice none 0 0)) := Lib.hid (kept_far2 HX2.out HD3.out.g (by omega))
    have HM3 := Lib.hid (HM2.out.far HD3.out)
    have HF := Lib.hid (MBox.set3 HX3.out (Value.slice az sn cz) (Value.slice ax tn cs) (Value.slice ar rn cr))
    have HB5 := Lib.hid (below_put (below_of_grown HB4.out HD3.out.g (fun q hq => by simp at hq; omega)) (Value.slice az sn cz) (Value.slice ax tn cs) (Value.slice ar rn cr) (Nat.le_refl _))
    have HFIN := Lib.hid (HM3.out.put2 HX3.out (x' := Value.slice az sn cz) (y' := Value.slice ax tn cs) (z' := Value.slice ar rn cr))
    have HVF := Lib.hid (put_row HVO.out HX3.out (by decide) (x' := Value.slice az sn cz) (y' := Value.slice ax tn cs) (z' := Value.slice ar rn cr))
    have HTF := Lib.hid (put_row (HD3.out.own HT2.out hB1) HX3.out (by decide) (x' := Value.slice az sn cz) (y' := Value.slice ax tn cs) (z' := Value.slice ar rn cr))
    obtain ⟨v0, v1, v2, f0, f1, f2, _, hxl⟩ := MBox.c HX3.out
    clear hd hvo hvl HVO
    go_wp2
    clear hHeld
    refine hK.out _ _ ⟨b0, b1, b2⟩ (fun hHeld => ?_)
    clear hK K
    try simp only [Act.put, List.setIfInBounds_toArray, List.set_cons_zero, List.set_cons_succ]
    refine rg_run 5 rfl (by kernel_rfl) (by kernel_rfl) (fun K hK => ?_)
    go_simp
    have hq0 := HF.out.2.cell b0 (fun e => by simp at e; omega)
    have hq1 := HF.out.2.cell b1 (fun e => by simp at e; omega)
    have hq2 := HF.out.2.cell b2 (fun e => by simp at e; omega)
    clear hHeld
    refine hK.out _ _ ⟨hq0, hq1, hq2⟩ (fun hHeld => ?_)
    clear hK K
    try simp only [Act.put, List.setIfInBounds_toArray, List.set_cons_zero, List.set_cons_succ]
    refine rg_take (v := ?_) 6 rfl (by kernel_rfl) (by kernel_rfl) (by kernel_rfl) (fun _ _ _ h => h) (by kernel_rfl) ?_ (by assumption) ?_
    rotate_left
    · (intro w' hSw; (try dsimp only at hSw); go_simp; first | done | with_reducible rfl)
    simp only [Act.put, List.setIfInBounds_toArray, List.set_cons_zero, List.set_cons_succ]
    refine rg_take (v := ?_) 7 rfl (by kernel_rfl) (by kernel_rfl) (by kernel_rfl) (fun _ _ _ h => h) (by kernel_rfl) ?_ (by assumption) ?_
    rotate_left
    · (intro w' hSw; (try dsimp only at hSw); go_simp; first | done | with_reducible rfl)
    simp only [Act.put, List.setIfInBounds_toArray, List.set_cons_zero, List.set_cons_succ]
    refine wpAnyH_done (by kernel_rfl) ?_ _
    clear hHeld
    go_wp2_with (fail)
    change bodyPost _ _ _ _ _ (set3 w5 w.heap.size (Value.slice az sn cz) (Value.slice ax tn cs) (Value.slice ar rn cr))
    generalize set3 w5 w.heap.size (Value.slice az sn cz) (Value.slice ax tn cs) (Value.slice ar rn cr) = WF at HF HB5 HFIN HVF HTF ⊢
    obtain ⟨r0, r1, r2, _⟩ := MBox.c HF.out.1
    clear f0 f1 f2 v0 v1 v2 hq0 hq1 hq2 b0 b1 b2
    have hz := HFIN.out.z
    have hs := HFIN.out.s
    have hr := HFIN.out.r
    have HMD := HFIN.out.o.mono (by omega : w.heap.size ≤ w1.heap.size)
    clear HFIN
    subst hz
    subst hs
    subst hr
    have htl := HTL.out
    clear HTL
    subst htl
    have hvl := HVL.out
    clear HVL
    subst hvl
    refine bodyPost_ret (v := .tuple #[mv m az ax ar cz cs cr, .slice A5 ts.length c5, .slice A4 vs.length c4]) (by simp [mv, results, Try.results13, go_sem, r0, r1, r2]) rfl ⟨az, ax, ar, cz, cs, cr, m, ds, A5, c5, A4, c4, ts, vs, rfl, HOK.out, HMD, by omega, own_mono HTF.out (Nat.le_of_lt hw01), by omega, own_mono HVF.out (by omega), HB5.out⟩
end Go.Proofs.Ytaloheljfefdeaa

/- How the arguments of the laws read: lists of integers (the seats without layouts). No condition. -/
namespace Go.Proofs.Ytaloheljfefdeaa
open Go.ChangeShapes Go.WideShapes Go.ChangeAt Go.RowKit Go.Deep

theorem own : ownKnob Try.prog.godebug = none := by kernel_rfl
theorem laidOut : laidOutB Try.prog = true := by kernel_rfl
def wfB (n : Int) : Prop := (Lit.int .i64 n).wf = true
theorem wfB.bd {n : Int} (h : wfB n) : -9223372036854775808 ≤ n ∧ n ≤ 9223372036854775807 := by
  simpa [wfB, Lit.wf, IntKind.min, IntKind.max, IntKind.signed, IntKind.bits] using h
theorem cells_int64 : Try.prog.cellsOf 2 = 1 := by kernel_rfl
section
variable {H : Type} {enc : TypeId × Value → H} {W : World} {base : Nat} {spare : Nat → Bool} {held : Bool}
theorem choose_list {α : Type} {P : Nat → α → Prop} : ∀ (n : Nat), (∀ i, i < n → ∃ s, P i s) → ∃ l : List α, l.length = n ∧ ∀ i s, l[i]? = some s → P i s
  | 0, _ => ⟨[], rfl, fun i s h => by simp at h⟩
  | n + 1, h => by
    obtain ⟨l, hl, hp⟩ := choose_list n fun i hi => h i (by omega)
    obtain ⟨s, hs⟩ := h n (by omega)
    refine ⟨l ++ [s], by simp [hl], fun i t ht => ?_⟩
    rcases Nat.lt_or_ge i n with hi | hi
    · rw [List.getElem?_append_left (by omega)] at ht
      exact hp i t ht
    · rw [List.getElem?_append_right (by omega)] at ht
      have : i = n := by
        have := (List.getElem?_eq_some_iff.1 ht).1
        simp at this
        omega
      subst this
      rw [hl] at ht
      simp at ht
      rw [← ht]; exact hs
theorem add_plain' (b off n : Nat) : (⟨b, off, none⟩ : Addr).add n = ⟨b, off + n, none⟩ := by
  unfold Addr.add
  split <;> simp_all
/-- A row of cells that a slice leads to, as a reading. -/
theorem rd_of {W : World} {a : Addr} {xs : List Value} (h : ∀ j u, xs[j]? = some u → W.cell? (a.add j) = some u) : Rd W (some a) xs := by
  cases xs with
  | nil => exact .inl rfl
  | cons x t =>
    right
    have h0 := h 0 x rfl
    obtain ⟨b, off, spot⟩ := a
    have hspot : spot = none := by simpa [Addr.add] using World.cell?_spot h0
    subst hspot
    refine ⟨b, off, rfl, by simpa [Addr.add] using World.block_lt_of_cell? W _ h0, fun j u hu => ?_⟩
    rw [← add_plain']
    exact h j u hu
set_option maxRecDepth 100000 in
theorem open_intS {v : Value} {d : DataW H} {p : List MemPlace} (hv : Value.okWide Try.prog W .any base 24 v) (h : DataW.Trod enc Try.prog W 0 (fun _ => true) true 24 v d p) :
    ∃ A n c zs, v = .slice A n c ∧ n = zs.length ∧ n ≤ c ∧ n ≤ 9223372036854775807 ∧ Rd W A (ints zs) ∧ ∀ z ∈ zs, wfB z := by
  obtain ⟨A, n, c, rfl⟩ := okWide_slice Try.underlying24 hv
  obtain ⟨fuel, hf⟩ := h
  rcases open_ints Try.underlying24 Try.underlying2 cells_int64 hf with ⟨hcs, _⟩ | ⟨a, n', c', zs, hcs, _, hl, hm, hz, _, hcell, hwz⟩
  · simp [Value.cells] at hcs
    obtain ⟨rfl, rfl, rfl⟩ := hcs
    exact ⟨_, _, _, [], rfl, rfl, by omega, by omega, .inl rfl, by simp⟩
  · simp [Value.cells] at hcs
    obtain ⟨rfl, rfl, rfl⟩ := hcs
    unfold maxLen at hm
    simp only [if_true] at hz
    refine ⟨_, _, _, zs.take n, rfl, by simp; omega, hl, by omega, rd_of fun j u hu => ?_, fun z hz => hwz z (List.mem_of_mem_take hz)⟩
    simp only [ints, List.getElem?_map, Option.map_eq_some_iff] at hu
    obtain ⟨z, hz', rfl⟩ := hu
    rw [List.getElem?_take] at hz'
    split at hz'
    · rw [hcell j (List.getElem?_eq_some_iff.1 hz').1]
      simp [hz']
    · cases hz'
end
end Go.Proofs.Ytaloheljfefdeaa

/- How a slice of bytes reads as an argument of a law. No condition. -/
namespace Go.Proofs.Ytaloheljfefdeaa
open Go.ChangeShapes Go.WideShapes Go.ChangeAt Go.RowKit Go.Deep

theorem cells_uint8 : Try.prog.cellsOf 5 = 1 := by kernel_rfl
section
variable {H : Type} {enc : TypeId × Value → H} {W : World} {base : Nat}
set_option maxRecDepth 100000 in
theorem open_byteS {v : Value} {d : DataW H} {p : List MemPlace} (hv : Value.okWide Try.prog W .any base 22 v) (h : DataW.Trod enc Try.prog W 0 (fun _ => true) true 22 v d p) :
    ∃ A n c, v = .slice A n c ∧ n ≤ 9223372036854775807 ∧ Bytes W W.heap.size A n := by
  obtain ⟨A, n, c, rfl⟩ := okWide_slice Try.underlying22 hv
  obtain ⟨fuel, hf⟩ := h
  rcases open_ints Try.underlying22 Try.underlying5 cells_uint8 hf with ⟨hcs, _⟩ | ⟨a, n', c', zs, hcs, _, hl, hm, hz, _, hcell, hwz⟩
  · simp [Value.cells] at hcs
    obtain ⟨rfl, rfl, rfl⟩ := hcs
    exact ⟨_, _, _, rfl, by omega, fun j hj => by omega⟩
  · simp [Value.cells] at hcs
    obtain ⟨rfl, rfl, rfl⟩ := hcs
    unfold maxLen at hm
    simp only [if_true] at hz
    refine ⟨_, _, _, rfl, by omega, fun j hj => ?_⟩
    have hj2 : j < zs.length := by omega
    have hc := hcell j hj2
    have hw := hwz zs[j] (List.getElem_mem hj2)
    have hw2 : 0 ≤ zs[j] ∧ zs[j] < 256 := by
      have : (0 ≤ zs[j] ∧ zs[j] ≤ 255) := by simpa [Lit.wf, IntKind.min, IntKind.max, IntKind.signed, IntKind.bits] using hw
      omega
    obtain ⟨b, off, spot⟩ := a
    have hspot : spot = none := by simpa [Addr.add] using World.cell?_spot (hcell 0 (by omega))
    subst hspot
    rw [add_plain'] at hc
    refine ⟨b, off, zs[j].toNat, rfl, World.block_lt_of_cell? W _ hc, by omega, ?_⟩
    rw [hc]
    simp [hj2]
    omega
end
end Go.Proofs.Ytaloheljfefdeaa
