/- Contracts and helpers (joined texts, part 5). The conditions stand at each theorem. -/
import Derived.Test.YteengjcplmjakaaGreatDoorH4
import Derived.Test.YteengjcplmjakaaGreatDoorH0
import Derived.Test.YteengjcplmjakaaGreatDoorRgE
/- Draws of codes (printed by DnS.py). Condition: a source at hand. -/
namespace Go.Proofs.YteengjcplmjakaaGreatDoor
open Go.RowKit

theorem rd_litN (w : World) (zs : List Ins) (hn : zs.length ≤ 100) : Rd (w.alloc (.cells (insCells zs).toArray 88)) (some ⟨w.heap.size, 0, none⟩) (insCells zs) := by
  refine .inr ⟨w.heap.size, 0, rfl, by simp, fun j u h => ?_⟩
  have hj := (List.getElem?_eq_some_iff.1 h).1
  rw [insCells_length] at hj
  rw [Nat.zero_add]
  have h2 := World.ownsRow.cellAt (World.ownsRow_lit (e := 88) (size := 2) (base := w.heap.size) w (insCells zs).toArray zs.length (Nat.le_refl _) (by unfold maxLen; omega) (by simp [insCells_length])) j (by omega)
  rw [h2]
  simpa using h
theorem few_pg {p : Prg} {a b c : Option Addr} (h : Few p a b c) : PgB p := ⟨by have := h.2.1.1; omega, by have := h.2.1.2.1; omega, by have := h.2.1.2.2; omega, by have := h.2.2.2.1; omega, fun l hl => by have := (h.2.2.2.2 l hl).1; omega⟩
theorem few_tm {p : Prg} {a b c : Option Addr} (h : Few p a b c) (hok : PgOk p) : TmOk (cmp p).bs := by
  refine ⟨by have := blk_le (few_pg h); show (blk p).length ≤ _; omega, fun t ht => ?_⟩
  obtain ⟨l, hl, ht⟩ := List.mem_flatMap.1 (show t ∈ p.ls.flatMap blkL from ht)
  exact (hok.l.2 l hl).2.2 t (List.mem_filter.1 (show t ∈ l.ts.filter isB from ht)).1
set_option maxHeartbeats 8000000 in
set_option maxRecDepth 100000 in
theorem c_l17Draw (B : Nat) (w : World) (h : Src w B) :
    Calls Tryz.prog 47 #[.pointer (some ⟨B, 0, none⟩)] w (CodeP B w) := by
  have hBl := h.lt
  have HS := Lib.hid (DW.start h)
  clear h
  have HX0 : Hid (CBox (w.alloc (.cells #[.int .i64 0, .int .i64 0, .int .i64 0, .slice none 0 0, .slice none 0 0] 35)) w.heap.size w.heap.size [.int .i64 0, .int .i64 0, .int .i64 0, .slice none 0 0, .slice none 0 0]) := Lib.hid (own_box w w.heap.size 35 [.int .i64 0, .int .i64 0, .int .i64 0, .slice none 0 0, .slice none 0 0] 5 rfl (Nat.le_refl _))
  have HS0 := Lib.hid (HS.out.alloc hBl (.cells #[.int .i64 0, .int .i64 0, .int .i64 0, .slice none 0 0, .slice none 0 0] 35))
  go_enter Tryz.func47, Tryz.ntmps47
  go_wp2_with (fail)
  refine (c_l13Draw B _ HS0.out.s).mono ?_
  rintro e w2 ⟨p, a1, a2, a3, a4, c1, c2, c3, c4, ds, rfl, ho, hok, hF, hd2⟩
  have HX2 : Hid (CBox _ _ _ _) := Lib.hid (hd2.own2 HX0.out (fun q hq e => by simp only [Value.ownBlock, Option.some.injEq] at hq; omega))
  have HD2 := Lib.hid (HS0.out.then_ hd2)
  have hsz2 : w.heap.size < w2.heap.size := by have := hd2.g.size; simp at this; omega
  have HCW := Lib.hid (fun w h => c_l17CompileW p a1 a2 a3 a4 c1 c2 c3 c4 w hok (few_pg hF) (fun l hl t ht => (hF.2.2.2.2 l hl).2 t ht) h)
  have HTZ := Lib.hid (few_tm hF hok)
  obtain ⟨hl1, hl2⟩ := cmp_few hF.2.2.1 hF.2.2.2.1 (fun l hl => (hF.2.2.2.2 l hl).1)
  have HPG := Lib.hid ho.pg
  clear ho hok hF hd2 HX0 HS0
  generalize cmp p = CC at *
  obtain ⟨ci, cw, co, bs, l⟩ := CC
  dsimp only at hl1 hl2 HTZ
  go_wp2_with (fail)
  refine (HCW.out _ HPG.out).mono ?_
  rintro e w3 ⟨A1, q1, A2, q2, rfl, hob, hos, hb3⟩
  dsimp only [cv] at hob hos ⊢
  have HT3 := Lib.hid (own_mono hob (Nat.le_of_lt hsz2))
  obtain ⟨lb, lc, e9, _, _⟩ := hos.form (by omega)
  simp only [Value.slice.injEq, true_and] at e9
  obtain ⟨rfl, rfl⟩ := e9
  have HO3 := Lib.hid (Rd.own hos)
  have HX3 : Hid (CBox _ _ _ _) := Lib.hid (own_below HX2.out hb3)
  have HD3 := Lib.hid (HD2.out.below hBl hb3)
  have hsz3 := hb3.size
  clear hob hos hb3 HX2 HD2 HCW HPG
  generalize hnb : bs.length = nb at *
  generalize hns : l.length = ns at *
  have HNS := Lib.hid hns
  clear hnb hns
  have BA := below_alloc (Below.refl w3.heap.size w3) (.cells #[.int .i64 ci, .int .i64 cw, .int .i64 co, .slice A1 nb q1, .slice (some ⟨lb, 0, none⟩) ns q2] 35)
  have HT4 := Lib.hid (own_below HT3.out BA)
  have HO4 := Lib.hid (HO3.out.below BA)
  have HP4 : Hid (CBox (w3.alloc (.cells #[.int .i64 ci, .int .i64 cw, .int .i64 co, .slice A1 nb q1, .slice (some ⟨lb, 0, none⟩) ns q2] 35)) w.heap.size w3.heap.size [.int .i64 ci, .int .i64 cw, .int .i64 co, .slice A1 nb q1, .slice (some ⟨lb, 0, none⟩) ns q2]) := Lib.hid (own_box w3 w.heap.size 35 [.int .i64 ci, .int .i64 cw, .int .i64 co, .slice A1 nb q1, .slice (some ⟨lb, 0, none⟩) ns q2] 5 rfl (by omega))
  have HX4 : Hid (CBox _ _ _ _) := Lib.hid (own_below HX3.out BA)
  have HD4 := Lib.hid (HD3.out.below hBl BA)
  clear BA HT3 HX3 HD3 HO3
  go_upto_region 2 with (fail)
  generalize w3.alloc (.cells #[.int .i64 ci, .int .i64 cw, .int .i64 co, .slice A1 nb q1, .slice (some ⟨lb, 0, none⟩) ns q2] 35) = w4 at *
  generalize w3.heap.size = pb at *
  obtain ⟨⟨_, _, _, _, b4⟩, _, _⟩ := CBox.c HP4.out
  have hs4 := HD4.out.g.size
  go_wp2_with (first
    | (at_builtin
       refine app_ins _ rfl (.tmp 13) (.tmp 15) rfl w4.heap.size _ 0 [] rfl (own_litI0 w4) ⟨lb, 0, none⟩ ns q2 l rfl HNS.out.symm (HO4.out.below (below_alloc (Below.refl _ _) _)) (by omega) (by simp) ?_
       intro v5 w5 hown hgrow
       rw [Nat.zero_add, List.nil_append] at hown
       have HB5 := Lib.hid (below_of_grown (below_alloc (Below.refl w4.heap.size w4) _) hgrow (fun q hq => by cases hq; exact Nat.le_refl _))
       obtain ⟨sb, sc, rfl, _, _⟩ := hown.form (by omega)
       have HS5 := Lib.hid (own_mono hown hs4)
       have HT5 := Lib.hid (own_below HT4.out HB5.out)
       have HP5 : Hid (CBox _ _ _ _) := Lib.hid (own_below HP4.out HB5.out)
       have HX5 : Hid (CBox _ _ _ _) := Lib.hid (own_below HX4.out HB5.out)
       have HD5 := Lib.hid (HD4.out.below hBl HB5.out)
       clear HT4  HP4 HX4 HD4
       clear hown hgrow)
    )
  refine (c_NextD B ns _ HD5.out.s (by omega)).mono ?_
  rintro e w6 ⟨r, rfl, hr0, hr1, _, hd6⟩
  have hrm : r < ns := hr1 (by omega)
  obtain ⟨k, rfl⟩ : ∃ k : Nat, r = k := ⟨r.toNat, by omega⟩
  have HT6 := Lib.hid (hd6.own HT5.out hBl)
  have HS6 := Lib.hid (hd6.own HS5.out hBl)
  have HP6 : Hid (CBox _ _ _ _) := Lib.hid (hd6.own HP5.out hBl)
  have HX6 : Hid (CBox _ _ _ _) := Lib.hid (hd6.own2 HX5.out (fun q hq e => by simp only [Value.ownBlock, Option.some.injEq] at hq; omega))
  have HD6 := Lib.hid (HD5.out.then_ hd6)
  clear HT5 HS5 HP5 HX5 HD5
  clear hd6 hr1 b4 HO4 HB5
  go_wp2_with (fail)
  refine (c_NextD B 20 _ HD6.out.s (by omega)).mono ?_
  rintro e w7 ⟨r, rfl, hr0', hr1, _, hd7⟩
  have HT7 := Lib.hid (hd7.own HT6.out hBl)
  have HS7 := Lib.hid (hd7.own HS6.out hBl)
  have HP7 : Hid (CBox _ _ _ _) := Lib.hid (hd7.own HP6.out hBl)
  have HX7 : Hid (CBox _ _ _ _) := Lib.hid (hd7.own2 HX6.out (fun q hq e => by simp only [Value.ownBlock, Option.some.injEq] at hq; omega))
  have HD7 := Lib.hid (HD6.out.then_ hd7)
  clear HT6 HS6 HP6 HX6 HD6
  clear hd7 hr1
  have HDs := Lib.hid (show B < w7.heap.size from Nat.lt_of_lt_of_le hBl HD7.out.g.size)
  obtain ⟨⟨tq, ta⟩, ht⟩ : ∃ t, l[k]? = some t := ⟨_, List.getElem?_eq_getElem (by have := HNS.out; omega)⟩
  have HDK := Lib.hid ht
  have hcs := (own_cap HS7.out).1
  have hk0 : (0 : Int) ≤ (k : Int) := by omega
  have hkn : k < ns := by omega
  clear ht
  by_cases hc0 : r = 0
  · subst hc0
    have HCL := Lib.hid (rd_litI w7 [0, 1, 2, 3, 4, 5, 12] 2 (by decide))
    have BA := below_alloc (Below.refl w7.heap.size w7) (.cells (ints [0, 1, 2, 3, 4, 5, 12]).toArray 2)
    have HTc := Lib.hid (own_below HT7.out BA)
    have HSc := Lib.hid (own_below HS7.out BA)
    have HPc : Hid (CBox _ _ _ _) := Lib.hid (own_below HP7.out BA)
    have HXc : Hid (CBox _ _ _ _) := Lib.hid (own_below HX7.out BA)
    have HDc := Lib.hid (HD7.out.below hBl BA)
    clear HT7 HS7 HP7 HX7 HD7
    go_wp2_with (fail)
    refine (c_PickIn B w7.heap.size 7 7 [0, 1, 2, 3, 4, 5, 12] _ HDc.out.s (by have := HDs.out; omega) rfl (by omega) (by omega) (by exact HCL.out)).mono ?_
    rintro e w8 ⟨z, _, rfl, hd3⟩
    have HT8 := Lib.hid (hd3.own HTc.out hBl)
    have HS8 := Lib.hid (hd3.own HSc.out hBl)
    have HP8 : Hid (CBox _ _ _ _) := Lib.hid (hd3.own HPc.out hBl)
    have HX8 : Hid (CBox _ _ _ _) := Lib.hid (hd3.own2 HXc.out (fun q hq e => by simp only [Value.ownBlock, Option.some.injEq] at hq; omega))
    have HD8 := Lib.hid (HDc.out.then_ hd3)
    clear HTc HSc HPc HXc HDc
    clear hd3 HCL BA
    have hst := HS8.out.stored (k * 2 + 0) (.int .i64 z)
    rw [ins_set (i := 0) (by decide) (.int .i64 z) ⟨z, ta⟩ l k ⟨tq, ta⟩ HDK.out rfl] at hst
    obtain ⟨o0, e0⟩ := own_cell HS8.out (j := k * 2) (by omega)
    have f0 := HS8.out.frozenAt (k * 2)
    have HTt : Hid (World.ownsRow (w8.setCell ⟨sb, k * 2, none⟩ (.int .i64 z)) _ _ _ _ _ _) := Lib.hid (own_keep HT8.out HS8.out (by decide) hst.2)
    have HPt : Hid (CBox (w8.setCell ⟨sb, k * 2, none⟩ (.int .i64 z)) _ _ _) := Lib.hid (own_keep HP8.out HS8.out (by decide) hst.2)
    have HXt : Hid (CBox (w8.setCell ⟨sb, k * 2, none⟩ (.int .i64 z)) _ _ _) := Lib.hid (own_keep HX8.out HS8.out (by decide) hst.2)
    have HDt : Hid (DW B w (w8.setCell ⟨sb, k * 2, none⟩ (.int .i64 z))) := Lib.hid (HD8.out.far hBl hst.2 (fun q hq => (HS8.out.lt q hq).1))
    have HSt : Hid (World.ownsRow (w8.setCell ⟨sb, k * 2, none⟩ (.int .i64 z)) _ _ _ _ _ _) := Lib.hid hst.1
    clear hst HT8 HS8 HP8 HX8 HD8
    go_upto_region 31 with (fail)
    generalize w8.setCell ⟨sb, k * 2, none⟩ (.int .i64 z) = w9 at *
    clear o0 e0 f0
    obtain ⟨⟨b0, b1, b2, b3, b4⟩, _, hltb⟩ := CBox.c HPt.out
    obtain ⟨⟨y0, y1, y2, y3, y4⟩, ⟨f0, f1, f2, f3, f4⟩, hlta⟩ := CBox.c HXt.out
    have hz := CBox.fill HXt.out (.int .i64 ci) (.int .i64 cw) (.int .i64 co) (.slice A1 nb q1) (.slice (some ⟨sb, 0, none⟩) ns sc)
    have YT := Lib.hid (own_keep HTt.out HXt.out (by decide) hz.2)
    have YS := Lib.hid (own_keep HSt.out HXt.out (by decide) hz.2)
    have YD := Lib.hid (HDt.out.far hBl hz.2 (fun q hq => by simp only [Option.some.injEq] at hq; omega))
    have YC := Lib.hid hz.1
    obtain ⟨WF, hWF⟩ : ∃ WF, WF = (((((w9.setCell ⟨w.heap.size, 0, none⟩ (.int .i64 ci)).setCell ⟨w.heap.size, 1, none⟩ (.int .i64 cw)).setCell ⟨w.heap.size, 2, none⟩ (.int .i64 co)).setCell ⟨w.heap.size, 3, none⟩ (.slice A1 nb q1)).setCell ⟨w.heap.size, 4, none⟩ (.slice (some ⟨sb, 0, none⟩) ns sc)) := ⟨_, rfl⟩
    rw [← hWF] at YT YS YD YC
    have HF := Lib.hid hWF
    clear hWF hz HTt HSt HPt HXt HDt
    go_wp2_with (fail)
    rw [← HF.out]
    obtain ⟨⟨r0, r1, r2, r3, r4⟩, _⟩ := CBox.c YC.out
    clear y0 y1 y2 y3 y4 b0 b1 b2 b3 b4 f0 f1 f2 f3 f4
    refine bodyPost_ret (v := .agg #[.int .i64 ci, .int .i64 cw, .int .i64 co, .slice A1 nb q1, .slice (some ⟨sb, 0, none⟩) ns sc]) (by simp [results, Tryz.results47, go_sem, r0, r1, r2, r3, r4]) rfl (codeP_of YT.out YS.out HTZ.out (by omega) YD.out)
  by_cases hc1 : r = 1
  · subst hc1
    have HCL := Lib.hid (rd_litI w7 [-1, 0, 1, 2, 9] 2 (by decide))
    have BA := below_alloc (Below.refl w7.heap.size w7) (.cells (ints [-1, 0, 1, 2, 9]).toArray 2)
    have HTc := Lib.hid (own_below HT7.out BA)
    have HSc := Lib.hid (own_below HS7.out BA)
    have HPc : Hid (CBox _ _ _ _) := Lib.hid (own_below HP7.out BA)
    have HXc : Hid (CBox _ _ _ _) := Lib.hid (own_below HX7.out BA)
    have HDc := Lib.hid (HD7.out.below hBl BA)
    clear HT7 HS7 HP7 HX7 HD7
    go_wp2_with (fail)
    refine (c_PickIn B w7.heap.size 5 5 [-1, 0, 1, 2, 9] _ HDc.out.s (by have := HDs.out; omega) rfl (by omega) (by omega) (by exact HCL.out)).mono ?_
    rintro e w8 ⟨z, _, rfl, hd3⟩
    have HT8 := Lib.hid (hd3.own HTc.out hBl)
    have HS8 := Lib.hid (hd3.own HSc.out hBl)
    have HP8 : Hid (CBox _ _ _ _) := Lib.hid (hd3.own HPc.out hBl)
    have HX8 : Hid (CBox _ _ _ _) := Lib.hid (hd3.own2 HXc.out (fun q hq e => by simp only [Value.ownBlock, Option.some.injEq] at hq; omega))
    have HD8 := Lib.hid (HDc.out.then_ hd3)
    clear HTc HSc HPc HXc HDc
    clear hd3 HCL BA
    have hst := HS8.out.stored (k * 2 + 1) (.int .i64 z)
    rw [ins_set (i := 1) (by decide) (.int .i64 z) ⟨tq, z⟩ l k ⟨tq, ta⟩ HDK.out rfl] at hst
    obtain ⟨o0, e0⟩ := own_cell HS8.out (j := k * 2 + 1) (by omega)
    have f0 := HS8.out.frozenAt (k * 2 + 1)
    have HTt : Hid (World.ownsRow (w8.setCell ⟨sb, k * 2 + 1, none⟩ (.int .i64 z)) _ _ _ _ _ _) := Lib.hid (own_keep HT8.out HS8.out (by decide) hst.2)
    have HPt : Hid (CBox (w8.setCell ⟨sb, k * 2 + 1, none⟩ (.int .i64 z)) _ _ _) := Lib.hid (own_keep HP8.out HS8.out (by decide) hst.2)
    have HXt : Hid (CBox (w8.setCell ⟨sb, k * 2 + 1, none⟩ (.int .i64 z)) _ _ _) := Lib.hid (own_keep HX8.out HS8.out (by decide) hst.2)
    have HDt : Hid (DW B w (w8.setCell ⟨sb, k * 2 + 1, none⟩ (.int .i64 z))) := Lib.hid (HD8.out.far hBl hst.2 (fun q hq => (HS8.out.lt q hq).1))
    have HSt : Hid (World.ownsRow (w8.setCell ⟨sb, k * 2 + 1, none⟩ (.int .i64 z)) _ _ _ _ _ _) := Lib.hid hst.1
    clear hst HT8 HS8 HP8 HX8 HD8
    go_upto_region 31 with (fail)
    generalize w8.setCell ⟨sb, k * 2 + 1, none⟩ (.int .i64 z) = w9 at *
    clear o0 e0 f0
    obtain ⟨⟨b0, b1, b2, b3, b4⟩, _, hltb⟩ := CBox.c HPt.out
    obtain ⟨⟨y0, y1, y2, y3, y4⟩, ⟨f0, f1, f2, f3, f4⟩, hlta⟩ := CBox.c HXt.out
    have hz := CBox.fill HXt.out (.int .i64 ci) (.int .i64 cw) (.int .i64 co) (.slice A1 nb q1) (.slice (some ⟨sb, 0, none⟩) ns sc)
    have YT := Lib.hid (own_keep HTt.out HXt.out (by decide) hz.2)
    have YS := Lib.hid (own_keep HSt.out HXt.out (by decide) hz.2)
    have YD := Lib.hid (HDt.out.far hBl hz.2 (fun q hq => by simp only [Option.some.injEq] at hq; omega))
    have YC := Lib.hid hz.1
    obtain ⟨WF, hWF⟩ : ∃ WF, WF = (((((w9.setCell ⟨w.heap.size, 0, none⟩ (.int .i64 ci)).setCell ⟨w.heap.size, 1, none⟩ (.int .i64 cw)).setCell ⟨w.heap.size, 2, none⟩ (.int .i64 co)).setCell ⟨w.heap.size, 3, none⟩ (.slice A1 nb q1)).setCell ⟨w.heap.size, 4, none⟩ (.slice (some ⟨sb, 0, none⟩) ns sc)) := ⟨_, rfl⟩
    rw [← hWF] at YT YS YD YC
    have HF := Lib.hid hWF
    clear hWF hz HTt HSt HPt HXt HDt
    go_wp2_with (fail)
    rw [← HF.out]
    obtain ⟨⟨r0, r1, r2, r3, r4⟩, _⟩ := CBox.c YC.out
    clear y0 y1 y2 y3 y4 b0 b1 b2 b3 b4 f0 f1 f2 f3 f4
    refine bodyPost_ret (v := .agg #[.int .i64 ci, .int .i64 cw, .int .i64 co, .slice A1 nb q1, .slice (some ⟨sb, 0, none⟩) ns sc]) (by simp [results, Tryz.results47, go_sem, r0, r1, r2, r3, r4]) rfl (codeP_of YT.out YS.out HTZ.out (by omega) YD.out)
  by_cases hc2 : r = 2
  · subst hc2
    have hkc : (k : Int) ≤ sc := by omega
    have hk1 : (0 : Int) ≤ (k : Int) + 1 := by omega
    have hk2 : (k : Int) + 1 ≤ ns := by omega
    have hk3 : (ns : Int) ≤ sc := by omega
    have hk4 : (k : Int) + 1 ≤ sc := by omega
    have hk5 : IntKind.i64.wrap ((k : Int) + 1) = (k : Int) + 1 := IntWalk.i64_in _ (by omega)
    have hk6 : ((k : Int) + 1).toNat = k + 1 := by omega
    have hs7 := HD7.out.g.size
    by_cases hck : sc = k + 1
    · obtain rfl : ns = k + 1 := by omega
      subst hck
      have hk7 : (k : Int) ≤ (k : Int) + 1 := by omega
      go_upto_region 10 with (fail)
      refine wp_region_held_drew (S := (fun _ => True)) (by kernel_rfl) ?_ (fun hHeld => ?_)
      · exact trivial
      refine rg_take (v := ?_) 1 rfl (by kernel_rfl) (by kernel_rfl) (by kernel_rfl) (fun _ _ _ h => h) (by kernel_rfl) ?_ (by assumption) ?_
      rotate_left
      · (intro w' hSw; (try dsimp only at hSw); go_simp; first | done | with_reducible rfl)
      simp only [Act.put, List.setIfInBounds_toArray, List.set_cons_zero, List.set_cons_succ]
      refine rg_take (v := ?_) 2 rfl (by kernel_rfl) (by kernel_rfl) (by kernel_rfl) (fun _ _ _ h => h) (by kernel_rfl) ?_ (by assumption) ?_
      rotate_left
      · (intro w' hSw; (try dsimp only at hSw); go_simp; first | done | with_reducible rfl)
      simp only [Act.put, List.setIfInBounds_toArray, List.set_cons_zero, List.set_cons_succ]
      refine rg_take (v := ?_) 3 rfl (by kernel_rfl) (by kernel_rfl) (by kernel_rfl) (fun _ _ _ h => h) (by kernel_rfl) ?_ (by assumption) ?_
      rotate_left
      · (intro w' hSw; (try dsimp only at hSw); go_simp; first | done | with_reducible rfl)
      simp only [Act.put, List.setIfInBounds_toArray, List.set_cons_zero, List.set_cons_succ]
      refine rg_take (v := ?_) 5 rfl (by kernel_rfl) (by kernel_rfl) (by kernel_rfl) (fun _ _ _ h => h) (by kernel_rfl) ?_ (by assumption) ?_
      rotate_left
      · (intro w' hSw; (try dsimp only at hSw); go_simp; first | done | with_reducible rfl)
      simp only [Act.put, List.setIfInBounds_toArray, List.set_cons_zero, List.set_cons_succ]
      refine rg_take (v := ?_) 6 rfl (by kernel_rfl) (by kernel_rfl) (by kernel_rfl) (fun _ _ _ h => h) (by kernel_rfl) ?_ (by assumption) ?_
      rotate_left
      · (intro w' hSw; (try dsimp only at hSw); go_simp; first | done | with_reducible rfl)
      simp only [Act.put, List.setIfInBounds_toArray, List.set_cons_zero, List.set_cons_succ]
      refine rg_take (v := ?_) 7 rfl (by kernel_rfl) (by kernel_rfl) (by kernel_rfl) (fun _ _ _ h => h) (by kernel_rfl) ?_ (by assumption) ?_
      rotate_left
      · (intro w' hSw; (try dsimp only at hSw); go_simp; first | done | with_reducible rfl)
      simp only [Act.put, List.setIfInBounds_toArray, List.set_cons_zero, List.set_cons_succ]
      refine rg_take (v := ?_) 8 rfl (by kernel_rfl) (by kernel_rfl) (by kernel_rfl) (fun _ _ _ h => h) (by kernel_rfl) ?_ (by assumption) ?_
      rotate_left
      · (intro w' hSw; (try dsimp only at hSw); go_simp; first | done | with_reducible rfl)
      simp only [Act.put, List.setIfInBounds_toArray, List.set_cons_zero, List.set_cons_succ]
      refine rg_run 0 rfl (by kernel_rfl) (by kernel_rfl) (fun K hK => ?_)
      go_simp
      clear hHeld
      refine hK.out _ _ trivial (fun hHeld => ?_)
      clear hK K
      try simp only [Act.put, List.setIfInBounds_toArray, List.set_cons_zero, List.set_cons_succ]
      refine rg_run 4 rfl (by kernel_rfl) (by kernel_rfl) (fun K hK => ?_)
      have BA := below_alloc (Below.refl w7.heap.size w7).drew (.cells #[] 88)
      refine wp_app_ins _ (.tmp 43) (.tmp 46) rfl w7.heap.size _ 0 [] rfl (own_litI0 w7.drew) ⟨sb, 0, none⟩ k (k + 1) (l.take k) rfl (by rw [List.length_take, HNS.out]; omega) (rd_takeI ((Rd.own HS7.out).below BA) k) (by omega) (by simp) ?_
      intro v8 w8 hown hgrow
      have HB8 := Lib.hid (below_of_grown BA hgrow (fun q hq => by cases hq; exact Nat.le_refl _))
      have HO8 := Lib.hid hown
      clear hown hgrow BA
      clear hHeld
      refine hK.out _ _ trivial (fun hHeld => ?_)
      clear hK K
      try simp only [Act.put, List.setIfInBounds_toArray, List.set_cons_zero, List.set_cons_succ]
      refine rg_run 9 rfl (by kernel_rfl) (by kernel_rfl) (fun K hK => ?_)
      refine wp_app_ins _ (.tmp 47) (.tmp 51) rfl w7.heap.size v8 (0 + k) ([] ++ l.take k) rfl HO8.out ⟨sb, 0, none⟩ 0 0 [] rfl rfl (.inl rfl) (by omega) HB8.out.size ?_
      intro v9 w9 hown hgrow
      have HB9 := Lib.hid (below_of_grown HB8.out hgrow (fun q hq => (HO8.out.lt q hq).1))
      rw [show 0 + k + 0 = k by omega] at hown
      obtain ⟨A9, c9, rfl⟩ := own_shape hown
      have HSt := Lib.hid (own_mono hown hs7)
      have HTt := Lib.hid (own_below HT7.out HB9.out)
      have HPt : Hid (CBox _ _ _ _) := Lib.hid (own_below HP7.out HB9.out)
      have HXt : Hid (CBox _ _ _ _) := Lib.hid (own_below HX7.out HB9.out)
      have HDt := Lib.hid (HD7.out.below hBl HB9.out)
      clear HT7  HP7 HX7 HD7
      clear hown hgrow HO8 HB8
      clear hHeld
      refine hK.out _ _ trivial (fun hHeld => ?_)
      clear hK K
      try simp only [Act.put, List.setIfInBounds_toArray, List.set_cons_zero, List.set_cons_succ]
      refine rg_take (v := ?_) 10 rfl (by kernel_rfl) (by kernel_rfl) (by kernel_rfl) (fun _ _ _ h => h) (by kernel_rfl) ?_ (by assumption) ?_
      rotate_left
      · (intro w' hSw; (try dsimp only at hSw); go_simp; first | done | with_reducible rfl)
      simp only [Act.put, List.setIfInBounds_toArray, List.set_cons_zero, List.set_cons_succ]
      refine wpAnyH_done (by kernel_rfl) ?_ _
      clear hHeld
      clear HB9
      go_upto_region 31 with (fail)
      obtain ⟨⟨b0, b1, b2, b3, b4⟩, _, hltb⟩ := CBox.c HPt.out
      obtain ⟨⟨y0, y1, y2, y3, y4⟩, ⟨f0, f1, f2, f3, f4⟩, hlta⟩ := CBox.c HXt.out
      have hz := CBox.fill HXt.out (.int .i64 ci) (.int .i64 cw) (.int .i64 co) (.slice A1 nb q1) (.slice A9 k c9)
      have YT := Lib.hid (own_keep HTt.out HXt.out (by decide) hz.2)
      have YS := Lib.hid (own_keep HSt.out HXt.out (by decide) hz.2)
      have YD := Lib.hid (HDt.out.far hBl hz.2 (fun q hq => by simp only [Option.some.injEq] at hq; omega))
      have YC := Lib.hid hz.1
      obtain ⟨WF, hWF⟩ : ∃ WF, WF = (((((w9.setCell ⟨w.heap.size, 0, none⟩ (.int .i64 ci)).setCell ⟨w.heap.size, 1, none⟩ (.int .i64 cw)).setCell ⟨w.heap.size, 2, none⟩ (.int .i64 co)).setCell ⟨w.heap.size, 3, none⟩ (.slice A1 nb q1)).setCell ⟨w.heap.size, 4, none⟩ (.slice A9 k c9)) := ⟨_, rfl⟩
      rw [← hWF] at YT YS YD YC
      have HF := Lib.hid hWF
      clear hWF hz HTt HSt HPt HXt HDt
      go_wp2_with (fail)
      rw [← HF.out]
      obtain ⟨⟨r0, r1, r2, r3, r4⟩, _⟩ := CBox.c YC.out
      clear y0 y1 y2 y3 y4 b0 b1 b2 b3 b4 f0 f1 f2 f3 f4
      refine bodyPost_ret (v := .agg #[.int .i64 ci, .int .i64 cw, .int .i64 co, .slice A1 nb q1, .slice A9 k c9]) (by simp [results, Tryz.results47, go_sem, r0, r1, r2, r3, r4]) rfl (codeP_of YT.out YS.out HTZ.out (by omega) YD.out)
    · skip
      go_upto_region 10 with (fail)
      refine wp_region_held_drew (S := (fun _ => True)) (by kernel_rfl) ?_ (fun hHeld => ?_)
      · exact trivial
      refine rg_take (v := ?_) 1 rfl (by kernel_rfl) (by kernel_rfl) (by kernel_rfl) (fun _ _ _ h => h) (by kernel_rfl) ?_ (by assumption) ?_
      rotate_left
      · (intro w' hSw; (try dsimp only at hSw); go_simp; first | done | with_reducible rfl)
      simp only [Act.put, List.setIfInBounds_toArray, List.set_cons_zero, List.set_cons_succ]
      refine rg_take (v := ?_) 2 rfl (by kernel_rfl) (by kernel_rfl) (by kernel_rfl) (fun _ _ _ h => h) (by kernel_rfl) ?_ (by assumption) ?_
      rotate_left
      · (intro w' hSw; (try dsimp only at hSw); go_simp; first | done | with_reducible rfl)
      simp only [Act.put, List.setIfInBounds_toArray, List.set_cons_zero, List.set_cons_succ]
      refine rg_take (v := ?_) 3 rfl (by kernel_rfl) (by kernel_rfl) (by kernel_rfl) (fun _ _ _ h => h) (by kernel_rfl) ?_ (by assumption) ?_
      rotate_left
      · (intro w' hSw; (try dsimp only at hSw); go_simp; first | done | with_reducible rfl)
      simp only [Act.put, List.setIfInBounds_toArray, List.set_cons_zero, List.set_cons_succ]
      refine rg_take (v := ?_) 5 rfl (by kernel_rfl) (by kernel_rfl) (by kernel_rfl) (fun _ _ _ h => h) (by kernel_rfl) ?_ (by assumption) ?_
      rotate_left
      · (intro w' hSw; (try dsimp only at hSw); go_simp; first | done | with_reducible rfl)
      simp only [Act.put, List.setIfInBounds_toArray, List.set_cons_zero, List.set_cons_succ]
      refine rg_take (v := ?_) 6 rfl (by kernel_rfl) (by kernel_rfl) (by kernel_rfl) (fun _ _ _ h => h) (by kernel_rfl) ?_ (by assumption) ?_
      rotate_left
      · (intro w' hSw; (try dsimp only at hSw); go_simp; first | done | with_reducible rfl)
      simp only [Act.put, List.setIfInBounds_toArray, List.set_cons_zero, List.set_cons_succ]
      refine rg_take (v := ?_) 7 rfl (by kernel_rfl) (by kernel_rfl) (by kernel_rfl) (fun _ _ _ h => h) (by kernel_rfl) ?_ (by assumption) ?_
      rotate_left
      · (intro w' hSw; (try dsimp only at hSw); go_simp; first | done | with_reducible rfl)
      simp only [Act.put, List.setIfInBounds_toArray, List.set_cons_zero, List.set_cons_succ]
      refine rg_take (v := ?_) 8 rfl (by kernel_rfl) (by kernel_rfl) (by kernel_rfl) (fun _ _ _ h => h) (by kernel_rfl) ?_ (by assumption) ?_
      rotate_left
      · (intro w' hSw; (try dsimp only at hSw); go_simp; first | done | with_reducible rfl)
      simp only [Act.put, List.setIfInBounds_toArray, List.set_cons_zero, List.set_cons_succ]
      refine rg_run 0 rfl (by kernel_rfl) (by kernel_rfl) (fun K hK => ?_)
      go_simp
      clear hHeld
      refine hK.out _ _ trivial (fun hHeld => ?_)
      clear hK K
      try simp only [Act.put, List.setIfInBounds_toArray, List.set_cons_zero, List.set_cons_succ]
      refine rg_run 4 rfl (by kernel_rfl) (by kernel_rfl) (fun K hK => ?_)
      have BA := below_alloc (Below.refl w7.heap.size w7).drew (.cells #[] 88)
      refine wp_app_ins _ (.tmp 43) (.tmp 46) rfl w7.heap.size _ 0 [] rfl (own_litI0 w7.drew) ⟨sb, 0, none⟩ k sc (l.take k) rfl (by rw [List.length_take, HNS.out]; omega) (rd_takeI ((Rd.own HS7.out).below BA) k) (by omega) (by simp) ?_
      intro v8 w8 hown hgrow
      have HB8 := Lib.hid (below_of_grown BA hgrow (fun q hq => by cases hq; exact Nat.le_refl _))
      have HO8 := Lib.hid hown
      clear hown hgrow BA
      clear hHeld
      refine hK.out _ _ trivial (fun hHeld => ?_)
      clear hK K
      try simp only [Act.put, List.setIfInBounds_toArray, List.set_cons_zero, List.set_cons_succ]
      refine rg_run 9 rfl (by kernel_rfl) (by kernel_rfl) (fun K hK => ?_)
      refine wp_app_ins _ (.tmp 47) (.tmp 51) rfl w7.heap.size v8 (0 + k) ([] ++ l.take k) rfl HO8.out ⟨sb, (k + 1) * 2, none⟩ (ns - (k + 1)) (sc - (k + 1)) (l.drop (k + 1)) rfl (by rw [List.length_drop, HNS.out]) (by have := rd_dropI ((Rd.own HS7.out).below HB8.out) (k + 1); rwa [Nat.zero_add] at this) (by omega) HB8.out.size ?_
      intro v9 w9 hown hgrow
      have HB9 := Lib.hid (below_of_grown HB8.out hgrow (fun q hq => (HO8.out.lt q hq).1))
      rw [show 0 + k + (ns - (k + 1)) = ns - 1 by omega] at hown
      obtain ⟨A9, c9, rfl⟩ := own_shape hown
      have HSt := Lib.hid (own_mono hown hs7)
      have HTt := Lib.hid (own_below HT7.out HB9.out)
      have HPt : Hid (CBox _ _ _ _) := Lib.hid (own_below HP7.out HB9.out)
      have HXt : Hid (CBox _ _ _ _) := Lib.hid (own_below HX7.out HB9.out)
      have HDt := Lib.hid (HD7.out.below hBl HB9.out)
      clear HT7  HP7 HX7 HD7
      clear hown hgrow HO8 HB8
      clear hHeld
      refine hK.out _ _ trivial (fun hHeld => ?_)
      clear hK K
      try simp only [Act.put, List.setIfInBounds_toArray, List.set_cons_zero, List.set_cons_succ]
      refine rg_take (v := ?_) 10 rfl (by kernel_rfl) (by kernel_rfl) (by kernel_rfl) (fun _ _ _ h => h) (by kernel_rfl) ?_ (by assumption) ?_
      rotate_left
      · (intro w' hSw; (try dsimp only at hSw); go_simp; first | done | with_reducible rfl)
      simp only [Act.put, List.setIfInBounds_toArray, List.set_cons_zero, List.set_cons_succ]
      refine wpAnyH_done (by kernel_rfl) ?_ _
      clear hHeld
      clear HB9
      go_upto_region 31 with (fail)
      obtain ⟨⟨b0, b1, b2, b3, b4⟩, _, hltb⟩ := CBox.c HPt.out
      obtain ⟨⟨y0, y1, y2, y3, y4⟩, ⟨f0, f1, f2, f3, f4⟩, hlta⟩ := CBox.c HXt.out
      have hz := CBox.fill HXt.out (.int .i64 ci) (.int .i64 cw) (.int .i64 co) (.slice A1 nb q1) (.slice A9 (ns - 1) c9)
      have YT := Lib.hid (own_keep HTt.out HXt.out (by decide) hz.2)
      have YS := Lib.hid (own_keep HSt.out HXt.out (by decide) hz.2)
      have YD := Lib.hid (HDt.out.far hBl hz.2 (fun q hq => by simp only [Option.some.injEq] at hq; omega))
      have YC := Lib.hid hz.1
      obtain ⟨WF, hWF⟩ : ∃ WF, WF = (((((w9.setCell ⟨w.heap.size, 0, none⟩ (.int .i64 ci)).setCell ⟨w.heap.size, 1, none⟩ (.int .i64 cw)).setCell ⟨w.heap.size, 2, none⟩ (.int .i64 co)).setCell ⟨w.heap.size, 3, none⟩ (.slice A1 nb q1)).setCell ⟨w.heap.size, 4, none⟩ (.slice A9 (ns - 1) c9)) := ⟨_, rfl⟩
      rw [← hWF] at YT YS YD YC
      have HF := Lib.hid hWF
      clear hWF hz HTt HSt HPt HXt HDt
      go_wp2_with (fail)
      rw [← HF.out]
      obtain ⟨⟨r0, r1, r2, r3, r4⟩, _⟩ := CBox.c YC.out
      clear y0 y1 y2 y3 y4 b0 b1 b2 b3 b4 f0 f1 f2 f3 f4
      refine bodyPost_ret (v := .agg #[.int .i64 ci, .int .i64 cw, .int .i64 co, .slice A1 nb q1, .slice A9 (ns - 1) c9]) (by simp [results, Tryz.results47, go_sem, r0, r1, r2, r3, r4]) rfl (codeP_of YT.out YS.out HTZ.out (by omega) YD.out)
  by_cases hc3 : r = 3
  · subst hc3
    have hkc : (k : Int) ≤ sc := by omega
    have hkn2 : (k : Int) ≤ ns := by omega
    have hk3 : (ns : Int) ≤ sc := by omega
    have hk4 : ¬ sc = k := by omega
    have hs7 := HD7.out.g.size
    go_upto_region 31 with (first
      | (at_builtin
         refine app_ins _ rfl (.tmp 55) (.tmp 58) rfl w7.heap.size _ 0 [] rfl (own_litI0 w7) ⟨sb, 0, none⟩ k sc (l.take k) rfl (by rw [List.length_take, HNS.out]; omega) (rd_takeI ((Rd.own HS7.out).below (below_alloc (Below.refl _ _) _)) k) (by omega) (by simp) ?_
         intro v8 w8 hown hgrow
         have HB8 := Lib.hid (below_of_grown (below_alloc (Below.refl w7.heap.size w7) _) hgrow (fun q hq => by cases hq; exact Nat.le_refl _))
         have HO8 := Lib.hid hown
         have HCL : Hid (Rd (w8.alloc (.cells #[.int .i64 1, .int .i64 1, .int .i64 4, .int .i64 0, .int .i64 4, .int .i64 0, .int .i64 9, .int .i64 0] 88)) (some ⟨w8.heap.size, 0, none⟩) (insCells [⟨1, 1⟩, ⟨4, 0⟩, ⟨4, 0⟩, ⟨9, 0⟩])) := Lib.hid (rd_litN w8 [⟨1, 1⟩, ⟨4, 0⟩, ⟨4, 0⟩, ⟨9, 0⟩] (by decide))
         clear hown hgrow)
      | (at_builtin
         refine app_ins _ rfl (.tmp 60) (.tmp 65) rfl w7.heap.size v8 (0 + k) ([] ++ l.take k) rfl (own_below HO8.out (below_alloc (Below.refl _ _) _)) ⟨w8.heap.size, 0, none⟩ 4 4 [⟨1, 1⟩, ⟨4, 0⟩, ⟨4, 0⟩, ⟨9, 0⟩] rfl rfl HCL.out (by omega) (by have := HB8.out.size; simp; omega) ?_
         intro v9 w9 hown hgrow
         have HB9 := Lib.hid (below_of_grown (below_alloc HB8.out _) hgrow (fun q hq => (HO8.out.lt q hq).1))
         have HO9 := Lib.hid hown
         clear hown hgrow HO8 HB8 HCL)
      | (at_builtin
         refine app_ins _ rfl (.tmp 67) (.tmp 70) rfl w7.heap.size v9 (0 + k + 4) ([] ++ l.take k ++ [⟨1, 1⟩, ⟨4, 0⟩, ⟨4, 0⟩, ⟨9, 0⟩]) rfl HO9.out ⟨sb, k * 2, none⟩ (ns - k) (sc - k) (l.drop k) rfl (by rw [List.length_drop, HNS.out]) (by have := rd_dropI ((Rd.own HS7.out).below HB9.out) k; rwa [Nat.zero_add] at this) (by omega) HB9.out.size ?_
         intro v10 w10 hown hgrow
         have HB10 := Lib.hid (below_of_grown HB9.out hgrow (fun q hq => (HO9.out.lt q hq).1))
         rw [show 0 + k + 4 + (ns - k) = ns + 4 by omega] at hown
         obtain ⟨A9, c9, rfl⟩ := own_shape hown
         have HSt := Lib.hid (own_mono hown hs7)
         clear hown hgrow HO9 HB9)
      )
    have HTt := Lib.hid (own_below HT7.out HB10.out)
    have HPt : Hid (CBox _ _ _ _) := Lib.hid (own_below HP7.out HB10.out)
    have HXt : Hid (CBox _ _ _ _) := Lib.hid (own_below HX7.out HB10.out)
    have HDt := Lib.hid (HD7.out.below hBl HB10.out)
    clear HT7  HP7 HX7 HD7
    clear HB10
    obtain ⟨⟨b0, b1, b2, b3, b4⟩, _, hltb⟩ := CBox.c HPt.out
    obtain ⟨⟨y0, y1, y2, y3, y4⟩, ⟨f0, f1, f2, f3, f4⟩, hlta⟩ := CBox.c HXt.out
    have hz := CBox.fill HXt.out (.int .i64 ci) (.int .i64 cw) (.int .i64 co) (.slice A1 nb q1) (.slice A9 (ns + 4) c9)
    have YT := Lib.hid (own_keep HTt.out HXt.out (by decide) hz.2)
    have YS := Lib.hid (own_keep HSt.out HXt.out (by decide) hz.2)
    have YD := Lib.hid (HDt.out.far hBl hz.2 (fun q hq => by simp only [Option.some.injEq] at hq; omega))
    have YC := Lib.hid hz.1
    obtain ⟨WF, hWF⟩ : ∃ WF, WF = (((((w10.setCell ⟨w.heap.size, 0, none⟩ (.int .i64 ci)).setCell ⟨w.heap.size, 1, none⟩ (.int .i64 cw)).setCell ⟨w.heap.size, 2, none⟩ (.int .i64 co)).setCell ⟨w.heap.size, 3, none⟩ (.slice A1 nb q1)).setCell ⟨w.heap.size, 4, none⟩ (.slice A9 (ns + 4) c9)) := ⟨_, rfl⟩
    rw [← hWF] at YT YS YD YC
    have HF := Lib.hid hWF
    clear hWF hz HTt HSt HPt HXt HDt
    go_wp2_with (fail)
    rw [← HF.out]
    obtain ⟨⟨r0, r1, r2, r3, r4⟩, _⟩ := CBox.c YC.out
    clear y0 y1 y2 y3 y4 b0 b1 b2 b3 b4 f0 f1 f2 f3 f4
    refine bodyPost_ret (v := .agg #[.int .i64 ci, .int .i64 cw, .int .i64 co, .slice A1 nb q1, .slice A9 (ns + 4) c9]) (by simp [results, Tryz.results47, go_sem, r0, r1, r2, r3, r4]) rfl (codeP_of YT.out YS.out HTZ.out (by omega) YD.out)
  by_cases hc4 : r = 4
  · subst hc4
    go_wp2_with (fail)
    go_loopw [4] (fun u wr => ∃ (A : Option Addr) (n c : Nat) (L : List Ins), n ≤ 2001 ∧ u = .slice A n c ∧ Hid (wr.ownsRow w.heap.size 88 2 (.slice A n c) n (insCells L)) ∧ Hid (wr.ownsRow w.heap.size 60 3 (.slice A1 nb q1) nb (tmCells bs)) ∧ Hid (CBox wr w.heap.size pb [.int .i64 ci, .int .i64 cw, .int .i64 co, .slice A1 nb q1, .slice (some ⟨lb, 0, none⟩) ns q2]) ∧ Hid (CBox wr w.heap.size w.heap.size [.int .i64 0, .int .i64 0, .int .i64 0, .slice none 0 0, .slice none 0 0]) ∧ Hid (DW B w wr)) (fun u _ => 2002 - lenV u)
    case atStart => exact ⟨_, ns, sc, l, by omega, rfl, HS7, HT7, HP7, HX7, HD7⟩
    case round =>
      clear HS7 HT7 HP7 HX7 HD7 HDs hcs HDK
      obtain ⟨A, n, c, L, hnb, rfl, hs, htr, hbp, hbx, hdw⟩ := hrel
      have HS7 := hs
      have HT7 := htr
      have HP7 := hbp
      have HX7 := hbx
      have HD7 := hdw
      clear hs htr hbp hbx hdw
      go_wp2_with (fail)
      refine (c_NextD B 2 _ HD7.out.s (by omega)).mono ?_
      rintro e w8 ⟨r5, rfl, hq0, hq1, _, hd3⟩
      have hq2 := hq1 (by omega)
      have HT8 := Lib.hid (hd3.own HT7.out hBl)
      have HS8 := Lib.hid (hd3.own HS7.out hBl)
      have HP8 : Hid (CBox _ _ _ _) := Lib.hid (hd3.own HP7.out hBl)
      have HX8 : Hid (CBox _ _ _ _) := Lib.hid (hd3.own2 HX7.out (fun q hq e => by simp only [Value.ownBlock, Option.some.injEq] at hq; omega))
      have HD8 := Lib.hid (HD7.out.then_ hd3)
      clear HT7 HS7 HP7 HX7 HD7
      clear hd3 hq1
      have hw5 : IntKind.i64.wrap (2000 + r5) = 2000 + r5 := IntWalk.i64_in _ (by omega)
      by_cases hlt : (n : Int) < 2000 + r5
      · have BA := below_alloc (Below.refl w8.heap.size w8) (.cells #[.int .i64 10, .int .i64 0] 88)
        go_wp2_with (first
          | (at_builtin
             refine wpList_push_ins _ rfl (.tmp 80) (.tmp 82) rfl w.heap.size (.slice A n c) n L ⟨10, 0⟩ w8.heap.size 1 rfl (own_below HS8.out BA) rfl (by go_simp) (by go_simp) (by omega) (by have := HD8.out.g.size; simp; omega) ?_
             intro v9 w9 hown hgrow
             obtain ⟨A9, c9, rfl⟩ := own_shape hown
             have HO8 := own_below HS8.out BA
             have HTa := Lib.hid (own_below HT8.out BA)
             have HSa := Lib.hid (own_below HS8.out BA)
             have HPa : Hid (CBox _ _ _ _) := Lib.hid (own_below HP8.out BA)
             have HXa : Hid (CBox _ _ _ _) := Lib.hid (own_below HX8.out BA)
             have HDa := Lib.hid (HD8.out.below hBl BA)
             clear HT8 HS8 HP8 HX8 HD8
             have HT9 : Hid (World.ownsRow w9 _ _ _ _ _ _) := Lib.hid (own_keep HTa.out HO8 (by decide) hgrow)
             have HP9 : Hid (CBox w9 _ _ _) := Lib.hid (own_keep HPa.out HO8 (by decide) hgrow)
             have HX9 : Hid (CBox w9 _ _ _) := Lib.hid (own_keep HXa.out HO8 (by decide) hgrow)
             have HD9 : Hid (DW B w w9) := Lib.hid (HDa.out.far hBl hgrow (fun q hq => (HO8.lt q hq).1))
             have HS9 := Lib.hid hown
             clear hown hgrow HO8 HTa HSa HPa HXa HDa)
          )
        go_roundw
        case rel => exact ⟨A9, n + 1, c9, L ++ [⟨10, 0⟩], by omega, rfl, HS9, HT9, HP9, HX9, HD9⟩
        case measure => simp [lenV]; omega
      · have HTt := HT8
        have HSt := HS8
        have HPt := HP8
        have HXt := HX8
        have HDt := HD8
        clear HT8 HS8 HP8 HX8 HD8
        go_upto_region 31 with (fail)
        obtain ⟨⟨b0, b1, b2, b3, b4⟩, _, hltb⟩ := CBox.c HPt.out
        obtain ⟨⟨y0, y1, y2, y3, y4⟩, ⟨f0, f1, f2, f3, f4⟩, hlta⟩ := CBox.c HXt.out
        have hz := CBox.fill HXt.out (.int .i64 ci) (.int .i64 cw) (.int .i64 co) (.slice A1 nb q1) (.slice A n c)
        have YT := Lib.hid (own_keep HTt.out HXt.out (by decide) hz.2)
        have YS := Lib.hid (own_keep HSt.out HXt.out (by decide) hz.2)
        have YD := Lib.hid (HDt.out.far hBl hz.2 (fun q hq => by simp only [Option.some.injEq] at hq; omega))
        have YC := Lib.hid hz.1
        obtain ⟨WF, hWF⟩ : ∃ WF, WF = (((((w8.setCell ⟨w.heap.size, 0, none⟩ (.int .i64 ci)).setCell ⟨w.heap.size, 1, none⟩ (.int .i64 cw)).setCell ⟨w.heap.size, 2, none⟩ (.int .i64 co)).setCell ⟨w.heap.size, 3, none⟩ (.slice A1 nb q1)).setCell ⟨w.heap.size, 4, none⟩ (.slice A n c)) := ⟨_, rfl⟩
        rw [← hWF] at YT YS YD YC
        have HF := Lib.hid hWF
        clear hWF hz HTt HSt HPt HXt HDt
        go_wp2_with (fail)
        rw [← HF.out]
        obtain ⟨⟨r0, r1, r2, r3, r4⟩, _⟩ := CBox.c YC.out
        clear y0 y1 y2 y3 y4 b0 b1 b2 b3 b4 f0 f1 f2 f3 f4
        refine bodyPost_ret (v := .agg #[.int .i64 ci, .int .i64 cw, .int .i64 co, .slice A1 nb q1, .slice A n c]) (by simp [results, Tryz.results47, go_sem, r0, r1, r2, r3, r4]) rfl (codeP_of YT.out YS.out HTZ.out (by omega) YD.out)
  by_cases hc5 : r = 5
  · subst hc5
    obtain ⟨⟨k0, k1, k2, k3, k4⟩, _, hltb⟩ := CBox.c HP7.out
    have hpw : pb ≠ w.heap.size := by omega
    go_upto_region 19 with (fail)
    have HCL := Lib.hid (rd_litI w7.drew [-1, 20, 21] 2 (by decide))
    refine wp_region_held_drew (S := (fun w' => w'.cell? ⟨pb, 1, none⟩ = some (.int .i64 cw) ∧ w'.cell? ⟨pb, 2, none⟩ = some (.int .i64 co) ∧ w'.cell? ⟨pb, 3, none⟩ = some (.slice A1 nb q1))) (by kernel_rfl) ?_ (fun hHeld => ?_)
    · exact ⟨k1, k2, k3⟩
    refine rg_take (v := ?_) 0 rfl (by kernel_rfl) (by kernel_rfl) (by kernel_rfl) (fun _ _ _ h => h) (by kernel_rfl) ?_ (by assumption) ?_
    rotate_left
    · (intro w' hSw; (try dsimp only at hSw); go_simp; first | done | with_reducible rfl)
    simp only [Act.put, List.setIfInBounds_toArray, List.set_cons_zero, List.set_cons_succ]
    refine rg_take (v := ?_) 3 rfl (by kernel_rfl) (by kernel_rfl) (by kernel_rfl) (fun _ _ _ h => h) (by kernel_rfl) ?_ (by assumption) ?_
    rotate_left
    · (intro w' hSw; (try dsimp only at hSw); go_simp; first | done | with_reducible rfl)
    simp only [Act.put, List.setIfInBounds_toArray, List.set_cons_zero, List.set_cons_succ]
    refine rg_take (v := ?_) 4 rfl (by kernel_rfl) (by kernel_rfl) (by kernel_rfl) (fun _ _ _ h => h) (by kernel_rfl) ?_ (by assumption) ?_
    rotate_left
    · (intro w' hSw; (try dsimp only at hSw); go_simp; first | done | with_reducible rfl)
    simp only [Act.put, List.setIfInBounds_toArray, List.set_cons_zero, List.set_cons_succ]
    refine rg_take (v := ?_) 5 rfl (by kernel_rfl) (by kernel_rfl) (by kernel_rfl) (fun _ _ _ h => h) (by kernel_rfl) ?_ (by assumption) ?_
    rotate_left
    · (intro w' hSw; (try dsimp only at hSw); go_simp; first | done | with_reducible rfl)
    simp only [Act.put, List.setIfInBounds_toArray, List.set_cons_zero, List.set_cons_succ]
    refine rg_take (v := ?_) 6 rfl (by kernel_rfl) (by kernel_rfl) (by kernel_rfl) (fun _ _ _ h => h) (by kernel_rfl) ?_ (by assumption) ?_
    rotate_left
    · (intro w' hSw; (try dsimp only at hSw); go_simp; first | done | with_reducible rfl)
    simp only [Act.put, List.setIfInBounds_toArray, List.set_cons_zero, List.set_cons_succ]
    refine rg_take (v := ?_) 7 rfl (by kernel_rfl) (by kernel_rfl) (by kernel_rfl) (fun _ _ _ h => h) (by kernel_rfl) ?_ (by assumption) ?_
    rotate_left
    · (intro w' hSw; (try dsimp only at hSw); go_simp; first | done | with_reducible rfl)
    simp only [Act.put, List.setIfInBounds_toArray, List.set_cons_zero, List.set_cons_succ]
    refine rg_take (v := ?_) 8 rfl (by kernel_rfl) (by kernel_rfl) (by kernel_rfl) (fun _ _ _ h => h) (by kernel_rfl) ?_ (by assumption) ?_
    rotate_left
    · (intro w' hSw; (try dsimp only at hSw); go_simp; first | done | with_reducible rfl)
    simp only [Act.put, List.setIfInBounds_toArray, List.set_cons_zero, List.set_cons_succ]
    refine rg_take (v := ?_) 9 rfl (by kernel_rfl) (by kernel_rfl) (by kernel_rfl) (fun _ _ _ h => h) (by kernel_rfl) ?_ (by assumption) ?_
    rotate_left
    · (intro w' hSw; (try dsimp only at hSw); go_simp; first | done | with_reducible rfl)
    simp only [Act.put, List.setIfInBounds_toArray, List.set_cons_zero, List.set_cons_succ]
    have BA := below_alloc (Below.refl w7.heap.size w7).drew (.cells (ints [-1, 20, 21]).toArray 2)
    replace k1 := cell_later BA (by exact k1)
    replace k2 := cell_later BA (by exact k2)
    replace k3 := cell_later BA (by exact k3)
    refine rg_run 1 rfl (by kernel_rfl) (by kernel_rfl) (fun K hK => ?_)
    go_simp
    clear hHeld
    refine hK.out _ _ (by exact ⟨k1, k2, k3⟩) (fun hHeld => ?_)
    clear hK K
    try simp only [Act.put, List.setIfInBounds_toArray, List.set_cons_zero, List.set_cons_succ]
    have HTc := Lib.hid (own_below HT7.out BA)
    have HSc := Lib.hid (own_below HS7.out BA)
    have HPc : Hid (CBox _ _ _ _) := Lib.hid (own_below HP7.out BA)
    have HXc : Hid (CBox _ _ _ _) := Lib.hid (own_below HX7.out BA)
    have HDc := Lib.hid (HD7.out.below hBl BA)
    clear HT7 HS7 HP7 HX7 HD7
    refine rg_run 2 rfl (by kernel_rfl) (by kernel_rfl) (fun K hK => ?_)
    go_simp
    refine (c_PickIn B w7.heap.size 3 3 [-1, 20, 21] _ HDc.out.s (by have := HDs.out; omega) rfl (by omega) (by omega) (by exact HCL.out)).mono ?_
    rintro e w8 ⟨z, _, rfl, hdn⟩
    clear k0 k1 k2 k3 k4 hltb
    have HT8 := Lib.hid (hdn.own HTc.out hBl)
    have HS8 := Lib.hid (hdn.own HSc.out hBl)
    have HP8 : Hid (CBox _ _ _ _) := Lib.hid (hdn.own HPc.out hBl)
    have HX8 : Hid (CBox _ _ _ _) := Lib.hid (hdn.own2 HXc.out (fun q hq e => by simp only [Value.ownBlock, Option.some.injEq] at hq; omega))
    have HD8 := Lib.hid (HDc.out.then_ hdn)
    clear HTc HSc HPc HXc HDc
    obtain ⟨⟨k0, k1, k2, k3, k4⟩, _, hltb⟩ := CBox.c HP8.out
    clear hdn HCL BA
    go_wp2
    clear hHeld
    refine hK.out _ _ (by exact ⟨k1, k2, k3⟩) (fun hHeld => ?_)
    clear hK K
    try simp only [Act.put, List.setIfInBounds_toArray, List.set_cons_zero, List.set_cons_succ]
    refine rg_take (v := ?_) 10 rfl (by kernel_rfl) (by kernel_rfl) (by kernel_rfl) (fun _ _ _ h => h) (by kernel_rfl) ?_ (by assumption) ?_
    rotate_left
    · (intro w' hSw; (try dsimp only at hSw); go_simp; first | done | with_reducible rfl)
    simp only [Act.put, List.setIfInBounds_toArray, List.set_cons_zero, List.set_cons_succ]
    obtain ⟨⟨y0, y1, y2, y3, y4⟩, ⟨f0, f1, f2, f3, f4⟩, hlta⟩ := CBox.c HX8.out
    have hz := CBox.fill HX8.out (.int .i64 z) (.int .i64 cw) (.int .i64 co) (.slice A1 nb q1) (.slice (some ⟨sb, 0, none⟩) ns sc)
    have YT := Lib.hid (own_keep HT8.out HX8.out (by decide) hz.2)
    have YS := Lib.hid (own_keep HS8.out HX8.out (by decide) hz.2)
    have YD := Lib.hid (HD8.out.far hBl hz.2 (fun q hq => by simp only [Option.some.injEq] at hq; omega))
    have YC := Lib.hid hz.1
    have YP : CBox (((((w8.setCell ⟨w.heap.size, 0, none⟩ (.int .i64 z)).setCell ⟨w.heap.size, 1, none⟩ (.int .i64 cw)).setCell ⟨w.heap.size, 2, none⟩ (.int .i64 co)).setCell ⟨w.heap.size, 3, none⟩ (.slice A1 nb q1)).setCell ⟨w.heap.size, 4, none⟩ (.slice (some ⟨sb, 0, none⟩) ns sc)) _ _ _ := CBox.keep HP8.out hz.2 (by omega)
    obtain ⟨⟨p0, p1, p2, p3, p4⟩, _, _⟩ := CBox.c YP
    clear hz HT8 HS8 HP8 HX8 HD8 YP
    refine rg_run 11 rfl (by kernel_rfl) (by kernel_rfl) (fun K hK => ?_)
    go_simp
    clear hHeld
    refine hK.out _ _ (by exact ⟨p1, p2, p3⟩) (fun hHeld => ?_)
    clear hK K
    try simp only [Act.put, List.setIfInBounds_toArray, List.set_cons_zero, List.set_cons_succ]
    refine wpAnyH_done (by kernel_rfl) ?_ _
    clear hHeld
    obtain ⟨WF, hWF⟩ : ∃ WF, WF = (((((w8.setCell ⟨w.heap.size, 0, none⟩ (.int .i64 z)).setCell ⟨w.heap.size, 1, none⟩ (.int .i64 cw)).setCell ⟨w.heap.size, 2, none⟩ (.int .i64 co)).setCell ⟨w.heap.size, 3, none⟩ (.slice A1 nb q1)).setCell ⟨w.heap.size, 4, none⟩ (.slice (some ⟨sb, 0, none⟩) ns sc)) := ⟨_, rfl⟩
    rw [← hWF] at YT YS YD YC
    have HF := Lib.hid hWF
    clear hWF p0 p1 p2 p3 p4 k0 k1 k2 k3 k4 hltb
    go_wp2_with (fail)
    rw [← HF.out]
    obtain ⟨⟨r0, r1, r2, r3, r4⟩, _⟩ := CBox.c YC.out
    clear y0 y1 y2 y3 y4 f0 f1 f2 f3 f4
    refine bodyPost_ret (v := .agg #[.int .i64 z, .int .i64 cw, .int .i64 co, .slice A1 nb q1, .slice (some ⟨sb, 0, none⟩) ns sc]) (by simp [results, Tryz.results47, go_sem, r0, r1, r2, r3, r4]) rfl (codeP_of YT.out YS.out HTZ.out (by omega) YD.out)
  by_cases hc6 : r = 6
  · subst hc6
    have BA0 := below_alloc (Below.refl w7.heap.size w7) (.cells #[] 88)
    have hs7 := HD7.out.g.size
    have HT8 := Lib.hid (own_below HT7.out BA0)
    have HP8 : Hid (CBox _ _ _ _) := Lib.hid (own_below HP7.out BA0)
    have HX8 : Hid (CBox _ _ _ _) := Lib.hid (own_below HX7.out BA0)
    have HD8 := Lib.hid (HD7.out.below hBl BA0)
    clear HT7  HP7 HX7 HD7
    have HS8 := Lib.hid (own_mono (own_litI0 w7) hs7)
    clear BA0 HS7
    go_wp2_with (fail)
    refine (c_NextD B 2 _ HD8.out.s (by omega)).mono ?_
    rintro e w9 ⟨r5, rfl, hq0, hq1, _, hd3⟩
    have hq2 := hq1 (by omega)
    obtain ⟨j, rfl⟩ : ∃ j : Nat, r5 = j := ⟨r5.toNat, by omega⟩
    have HT9 := Lib.hid (hd3.own HT8.out hBl)
    have HS9 := Lib.hid (hd3.own HS8.out hBl)
    have HP9 : Hid (CBox _ _ _ _) := Lib.hid (hd3.own HP8.out hBl)
    have HX9 : Hid (CBox _ _ _ _) := Lib.hid (hd3.own2 HX8.out (fun q hq e => by simp only [Value.ownBlock, Option.some.injEq] at hq; omega))
    have HD9 := Lib.hid (HD8.out.then_ hd3)
    clear HT8 HS8 HP8 HX8 HD8
    clear hd3 hq1 hcs HDK
    have hw5 : IntKind.i64.wrap (40 + (j : Int)) = 40 + (j : Int) := IntWalk.i64_in _ (by omega)
    go_wp2_with (fail)
    go_loopw [7, 8] (fun u i wr => ∃ (A : Option Addr) (m n c : Nat) (L : List Ins), n + m ≤ 41 ∧ i = .int .i64 (m : Int) ∧ u = .slice A n c ∧ Hid (wr.ownsRow w.heap.size 88 2 (.slice A n c) n (insCells L)) ∧ Hid (wr.ownsRow w.heap.size 60 3 (.slice A1 nb q1) nb (tmCells bs)) ∧ Hid (CBox wr w.heap.size pb [.int .i64 ci, .int .i64 cw, .int .i64 co, .slice A1 nb q1, .slice (some ⟨lb, 0, none⟩) ns q2]) ∧ Hid (CBox wr w.heap.size w.heap.size [.int .i64 0, .int .i64 0, .int .i64 0, .slice none 0 0, .slice none 0 0]) ∧ Hid (DW B w wr)) (fun _ i _ => (intOf i).toNat)
    case atStart => exact ⟨_, 40 + j, 0, 0, [], by omega, by first | rfl | (rw [Int.natCast_add]; rfl), rfl, HS9, HT9, HP9, HX9, HD9⟩
    case round =>
      clear HS9 HT9 HP9 HX9 HD9 hw5
      obtain ⟨A, m, n, c, L, hnm, rfl, rfl, HS9, HT9, HP9, HX9, HD9⟩ := hrel
      by_cases hm : 0 < m
      · have hm1 : (0 : Int) < (m : Int) := by omega
        have hw6 : IntKind.i64.wrap ((m : Int) - 1) = ((m - 1 : Nat) : Int) := by rw [IntWalk.i64_in _ (by omega)]; omega
        generalize wr = wq at *
        have BA := below_alloc (Below.refl wq.heap.size wq) (.cells #[.int .i64 1, .int .i64 0] 88)
        go_wp2_with (first
          | (at_builtin
             refine wpList_push_ins _ rfl (.tmp 107) (.tmp 109) rfl w.heap.size (.slice A n c) n L ⟨1, 0⟩ wq.heap.size 1 rfl (own_below HS9.out BA) rfl (by go_simp) (by go_simp) (by omega) (by have := HD9.out.g.size; simp; omega) ?_
             intro v9 w10 hown hgrow
             obtain ⟨A10, c10, rfl⟩ := own_shape hown
             have HO8 := own_below HS9.out BA
             have HTa := Lib.hid (own_below HT9.out BA)
             have HSa := Lib.hid (own_below HS9.out BA)
             have HPa : Hid (CBox _ _ _ _) := Lib.hid (own_below HP9.out BA)
             have HXa : Hid (CBox _ _ _ _) := Lib.hid (own_below HX9.out BA)
             have HDa := Lib.hid (HD9.out.below hBl BA)
             clear HT9 HS9 HP9 HX9 HD9
             have HT10 : Hid (World.ownsRow w10 _ _ _ _ _ _) := Lib.hid (own_keep HTa.out HO8 (by decide) hgrow)
             have HP10 : Hid (CBox w10 _ _ _) := Lib.hid (own_keep HPa.out HO8 (by decide) hgrow)
             have HX10 : Hid (CBox w10 _ _ _) := Lib.hid (own_keep HXa.out HO8 (by decide) hgrow)
             have HD10 : Hid (DW B w w10) := Lib.hid (HDa.out.far hBl hgrow (fun q hq => (HO8.lt q hq).1))
             have HS10 := Lib.hid hown
             clear hown hgrow HO8 HTa HSa HPa HXa HDa)
          )
        go_roundw
        case rel => exact ⟨A10, m - 1, n + 1, c10, L ++ [⟨1, 0⟩], by omega, by first | rfl | go_num, rfl, HS10, HT10, HP10, HX10, HD10⟩
        case measure => simp [intOf] <;> omega
      · have hm1 : ¬ (0 : Int) < (m : Int) := by omega
        have hnm0 : n ≤ 41 := by omega
        clear hm hnm
        go_wp2_with (fail)
        clear hm1
        go_loopw [7, 9] (fun u i wr => ∃ (A : Option Addr) (m n c : Nat) (L : List Ins), n + m ≤ 82 ∧ i = .int .i64 (m : Int) ∧ u = .slice A n c ∧ Hid (wr.ownsRow w.heap.size 88 2 (.slice A n c) n (insCells L)) ∧ Hid (wr.ownsRow w.heap.size 60 3 (.slice A1 nb q1) nb (tmCells bs)) ∧ Hid (CBox wr w.heap.size pb [.int .i64 ci, .int .i64 cw, .int .i64 co, .slice A1 nb q1, .slice (some ⟨lb, 0, none⟩) ns q2]) ∧ Hid (CBox wr w.heap.size w.heap.size [.int .i64 0, .int .i64 0, .int .i64 0, .slice none 0 0, .slice none 0 0]) ∧ Hid (DW B w wr)) (fun _ i _ => (intOf i).toNat)
        case atStart => exact ⟨_, n, n, c, L, by omega, rfl, rfl, HS9, HT9, HP9, HX9, HD9⟩
        case round =>
          clear HS9 HT9 HP9 HX9 HD9
          obtain ⟨A, m, n, c, L, hnm, rfl, rfl, HS9, HT9, HP9, HX9, HD9⟩ := hrel
          by_cases hm : 1 < m
          · have hm1 : (1 : Int) < (m : Int) := by omega
            have hw6 : IntKind.i64.wrap ((m : Int) - 1) = ((m - 1 : Nat) : Int) := by rw [IntWalk.i64_in _ (by omega)]; omega
            generalize wr = wq at *
            have BA := below_alloc (Below.refl wq.heap.size wq) (.cells #[.int .i64 6, .int .i64 0] 88)
            go_wp2_with (first
              | (at_builtin
                 refine wpList_push_ins _ rfl (.tmp 117) (.tmp 119) rfl w.heap.size (.slice A n c) n L ⟨6, 0⟩ wq.heap.size 1 rfl (own_below HS9.out BA) rfl (by go_simp) (by go_simp) (by omega) (by have := HD9.out.g.size; simp; omega) ?_
                 intro v9 w10 hown hgrow
                 obtain ⟨A10, c10, rfl⟩ := own_shape hown
                 have HO8 := own_below HS9.out BA
                 have HTa := Lib.hid (own_below HT9.out BA)
                 have HSa := Lib.hid (own_below HS9.out BA)
                 have HPa : Hid (CBox _ _ _ _) := Lib.hid (own_below HP9.out BA)
                 have HXa : Hid (CBox _ _ _ _) := Lib.hid (own_below HX9.out BA)
                 have HDa := Lib.hid (HD9.out.below hBl BA)
                 clear HT9 HS9 HP9 HX9 HD9
                 have HT10 : Hid (World.ownsRow w10 _ _ _ _ _ _) := Lib.hid (own_keep HTa.out HO8 (by decide) hgrow)
                 have HP10 : Hid (CBox w10 _ _ _) := Lib.hid (own_keep HPa.out HO8 (by decide) hgrow)
                 have HX10 : Hid (CBox w10 _ _ _) := Lib.hid (own_keep HXa.out HO8 (by decide) hgrow)
                 have HD10 : Hid (DW B w w10) := Lib.hid (HDa.out.far hBl hgrow (fun q hq => (HO8.lt q hq).1))
                 have HS10 := Lib.hid hown
                 clear hown hgrow HO8 HTa HSa HPa HXa HDa)
              )
            go_roundw
            case rel => exact ⟨A10, m - 1, n + 1, c10, L ++ [⟨6, 0⟩], by omega, by first | rfl | go_num, rfl, HS10, HT10, HP10, HX10, HD10⟩
            case measure => simp [intOf] <;> omega
          · have hm1 : ¬ (1 : Int) < (m : Int) := by omega
            generalize wr = wq at *
            have BA := below_alloc (Below.refl wq.heap.size wq) (.cells #[.int .i64 9, .int .i64 0] 88)
            go_upto_region 31 with (first
              | (at_builtin
                 refine wpList_push_ins _ rfl (.tmp 121) (.tmp 123) rfl w.heap.size (.slice A n c) n L ⟨9, 0⟩ wq.heap.size 1 rfl (own_below HS9.out BA) rfl (by go_simp) (by go_simp) (by omega) (by have := HD9.out.g.size; simp; omega) ?_
                 intro v9 w10 hown hgrow
                 obtain ⟨A10, c10, rfl⟩ := own_shape hown
                 have HO8 := own_below HS9.out BA
                 have HTa := Lib.hid (own_below HT9.out BA)
                 have HSa := Lib.hid (own_below HS9.out BA)
                 have HPa : Hid (CBox _ _ _ _) := Lib.hid (own_below HP9.out BA)
                 have HXa : Hid (CBox _ _ _ _) := Lib.hid (own_below HX9.out BA)
                 have HDa := Lib.hid (HD9.out.below hBl BA)
                 clear HT9 HS9 HP9 HX9 HD9
                 have HTt : Hid (World.ownsRow w10 _ _ _ _ _ _) := Lib.hid (own_keep HTa.out HO8 (by decide) hgrow)
                 have HPt : Hid (CBox w10 _ _ _) := Lib.hid (own_keep HPa.out HO8 (by decide) hgrow)
                 have HXt : Hid (CBox w10 _ _ _) := Lib.hid (own_keep HXa.out HO8 (by decide) hgrow)
                 have HDt : Hid (DW B w w10) := Lib.hid (HDa.out.far hBl hgrow (fun q hq => (HO8.lt q hq).1))
                 have HSt := Lib.hid hown
                 clear hown hgrow HO8 HTa HSa HPa HXa HDa)
              )
            obtain ⟨⟨b0, b1, b2, b3, b4⟩, _, hltb⟩ := CBox.c HPt.out
            obtain ⟨⟨y0, y1, y2, y3, y4⟩, ⟨f0, f1, f2, f3, f4⟩, hlta⟩ := CBox.c HXt.out
            have hz := CBox.fill HXt.out (.int .i64 ci) (.int .i64 cw) (.int .i64 co) (.slice A1 nb q1) (.slice A10 (n + 1) c10)
            have YT := Lib.hid (own_keep HTt.out HXt.out (by decide) hz.2)
            have YS := Lib.hid (own_keep HSt.out HXt.out (by decide) hz.2)
            have YD := Lib.hid (HDt.out.far hBl hz.2 (fun q hq => by simp only [Option.some.injEq] at hq; omega))
            have YC := Lib.hid hz.1
            obtain ⟨WF, hWF⟩ : ∃ WF, WF = (((((w10.setCell ⟨w.heap.size, 0, none⟩ (.int .i64 ci)).setCell ⟨w.heap.size, 1, none⟩ (.int .i64 cw)).setCell ⟨w.heap.size, 2, none⟩ (.int .i64 co)).setCell ⟨w.heap.size, 3, none⟩ (.slice A1 nb q1)).setCell ⟨w.heap.size, 4, none⟩ (.slice A10 (n + 1) c10)) := ⟨_, rfl⟩
            rw [← hWF] at YT YS YD YC
            have HF := Lib.hid hWF
            clear hWF hz HTt HSt HPt HXt HDt
            go_wp2_with (fail)
            rw [← HF.out]
            obtain ⟨⟨r0, r1, r2, r3, r4⟩, _⟩ := CBox.c YC.out
            clear y0 y1 y2 y3 y4 b0 b1 b2 b3 b4 f0 f1 f2 f3 f4
            refine bodyPost_ret (v := .agg #[.int .i64 ci, .int .i64 cw, .int .i64 co, .slice A1 nb q1, .slice A10 (n + 1) c10]) (by simp [results, Tryz.results47, go_sem, r0, r1, r2, r3, r4]) rfl (codeP_of YT.out YS.out HTZ.out (by omega) YD.out)
  have g0 : (r == 0) = false := by simpa using hc0
  have g1 : (r == 1) = false := by simpa using hc1
  have g2 : (r == 2) = false := by simpa using hc2
  have g3 : (r == 3) = false := by simpa using hc3
  have g4 : (r == 4) = false := by simpa using hc4
  have g5 : (r == 5) = false := by simpa using hc5
  have g6 : (r == 6) = false := by simpa using hc6
  clear hc0 hc1 hc2 hc3 hc4 hc5 hc6
  have HTt := HT7
  have HSt := HS7
  have HPt := HP7
  have HXt := HX7
  have HDt := HD7
  clear HT7 HS7 HP7 HX7 HD7
  go_upto_region 31 with (fail)
  obtain ⟨⟨b0, b1, b2, b3, b4⟩, _, hltb⟩ := CBox.c HPt.out
  obtain ⟨⟨y0, y1, y2, y3, y4⟩, ⟨f0, f1, f2, f3, f4⟩, hlta⟩ := CBox.c HXt.out
  have hz := CBox.fill HXt.out (.int .i64 ci) (.int .i64 cw) (.int .i64 co) (.slice A1 nb q1) (.slice (some ⟨sb, 0, none⟩) ns sc)
  have YT := Lib.hid (own_keep HTt.out HXt.out (by decide) hz.2)
  have YS := Lib.hid (own_keep HSt.out HXt.out (by decide) hz.2)
  have YD := Lib.hid (HDt.out.far hBl hz.2 (fun q hq => by simp only [Option.some.injEq] at hq; omega))
  have YC := Lib.hid hz.1
  obtain ⟨WF, hWF⟩ : ∃ WF, WF = (((((w7.setCell ⟨w.heap.size, 0, none⟩ (.int .i64 ci)).setCell ⟨w.heap.size, 1, none⟩ (.int .i64 cw)).setCell ⟨w.heap.size, 2, none⟩ (.int .i64 co)).setCell ⟨w.heap.size, 3, none⟩ (.slice A1 nb q1)).setCell ⟨w.heap.size, 4, none⟩ (.slice (some ⟨sb, 0, none⟩) ns sc)) := ⟨_, rfl⟩
  rw [← hWF] at YT YS YD YC
  have HF := Lib.hid hWF
  clear hWF hz HTt HSt HPt HXt HDt
  go_wp2_with (fail)
  rw [← HF.out]
  obtain ⟨⟨r0, r1, r2, r3, r4⟩, _⟩ := CBox.c YC.out
  clear y0 y1 y2 y3 y4 b0 b1 b2 b3 b4 f0 f1 f2 f3 f4
  refine bodyPost_ret (v := .agg #[.int .i64 ci, .int .i64 cw, .int .i64 co, .slice A1 nb q1, .slice (some ⟨sb, 0, none⟩) ns sc]) (by simp [results, Tryz.results47, go_sem, r0, r1, r2, r3, r4]) rfl (codeP_of YT.out YS.out HTZ.out (by omega) YD.out)
end Go.Proofs.YteengjcplmjakaaGreatDoor

/- Draws of codes, with a step (printed by DnU.py). Condition: at most 4096 bytes of code. -/
namespace Go.Proofs.YteengjcplmjakaaGreatDoor
open Go.RowKit

/-- A code of the call's own, with some values behind it. -/
def CodeX (F : Value → List Value → Value) (X : List Value → Prop) (w : World) (e : Ending) (w' : World) : Prop :=
  ∃ c A1 q1 A2 q2 xs, e = .returned (F (cv c A1 A2 q1 q2) xs) ∧ w'.ownsRow w.heap.size 60 3 (.slice A1 c.bs.length q1) c.bs.length (tmCells c.bs) ∧ w'.ownsRow w.heap.size 88 2 (.slice A2 c.ss.length q2) c.ss.length (insCells c.ss) ∧ CdOk c ∧ X xs ∧ Below w.heap.size w w'
theorem codeX_of {F : Value → List Value → Value} {X : List Value → Prop} {w w' : World} {i v o : Int} {A1 A2 : Option Addr} {nb q1 ns q2 : Nat} {bs : List Tm} {l : List Ins} {xs : List Value} (h1 : w'.ownsRow w.heap.size 60 3 (.slice A1 nb q1) nb (tmCells bs)) (h2 : w'.ownsRow w.heap.size 88 2 (.slice A2 ns q2) ns (insCells l)) (hb : TmOk bs) (hl : ns ≤ 3000) (hX : X xs) (hbl : Below w.heap.size w w') : CodeX F X w (.returned (F (.agg #[.int .i64 i, .int .i64 v, .int .i64 o, .slice A1 nb q1, .slice A2 ns q2]) xs)) w' := by
  obtain rfl : nb = bs.length := by have := h1.1; rw [tmCells_length] at this; omega
  obtain rfl : ns = l.length := by have := h2.1; rw [insCells_length] at this; omega
  exact ⟨⟨i, v, o, bs, l⟩, A1, q1, A2, q2, xs, rfl, h1, h2, ⟨hb, by show l.length ≤ _; omega⟩, hX, hbl⟩
def XI (xs : List Value) : Prop := ∃ z : Int, xs = [.int .i64 z]
set_option maxHeartbeats 4000000 in
set_option maxRecDepth 100000 in
theorem c_DrawScanTime (A : Option Addr) (c n : Nat) (w : World) (hn : n ≤ 4096) (hb : Bytes w w.heap.size A n) :
    Calls Tryz.prog 10 #[.slice A n c] w (CodeX F1 (fun _ => True) w) := by
  have HX0 : Hid (CBox (w.alloc (.cells #[.int .i64 0, .int .i64 0, .int .i64 0, .slice none 0 0, .slice none 0 0] 35)) w.heap.size w.heap.size [.int .i64 0, .int .i64 0, .int .i64 0, .slice none 0 0, .slice none 0 0]) := Lib.hid (own_box w w.heap.size 35 [.int .i64 0, .int .i64 0, .int .i64 0, .slice none 0 0, .slice none 0 0] 5 rfl (Nat.le_refl _))
  have B0 := Lib.hid (below_alloc (Below.refl w.heap.size w) (.cells #[.int .i64 0, .int .i64 0, .int .i64 0, .slice none 0 0, .slice none 0 0] 35))
  have HY := Lib.hid (hb.later B0.out (show w.heap.size ≤ (w.alloc (.cells #[.int .i64 0, .int .i64 0, .int .i64 0, .slice none 0 0, .slice none 0 0] 35)).heap.size by simp))
  have hsA : (w.alloc (.cells #[.int .i64 0, .int .i64 0, .int .i64 0, .slice none 0 0, .slice none 0 0] 35)).heap.size = w.heap.size + 1 := by simp
  go_enter Tryz.func10, Tryz.ntmps10
  go_wp2_with (fail)
  refine (c_From A c n _ hn HY.out).mono ?_
  rintro e w1 ⟨rfl, hs1, hb1⟩
  rw [hsA] at hs1
  have HB1 := Lib.hid (below_chain B0.out hb1)
  have HX1 : Hid (CBox _ _ _ _) := Lib.hid (own_below HX0.out hb1)
  have HS1 := Lib.hid (DW.start hs1)
  have hlt1 := hs1.lt
  clear hs1 hb1 HX0 B0 hsA
  go_wp2_with (fail)
  refine (c_l17Draw (w.heap.size + 1) _ HS1.out.s).mono ?_
  rintro e w2 ⟨⟨ci, cw, co, bs, l⟩, A1, q1, A2, q2, rfl, ht, hs, hok, hns, hd2⟩
  have HZ : Hid (TmOk bs) := Lib.hid hok.1
  have HT2 : Hid (w2.ownsRow w1.heap.size 60 3 (.slice A1 bs.length q1) bs.length (tmCells bs)) := Lib.hid ht
  have HS2 : Hid (w2.ownsRow w1.heap.size 88 2 (.slice A2 l.length q2) l.length (insCells l)) := Lib.hid hs
  have HX2 : Hid (CBox _ _ _ _) := Lib.hid (hd2.own2 HX1.out (fun q hq e => by simp only [Value.ownBlock, Option.some.injEq] at hq; omega))
  have HD2 := Lib.hid (HS1.out.then_ hd2)
  have hsw2 := HD2.out.g.size
  dsimp only [cv] at hns ⊢
  clear ht hs hok hd2 HX1 HS1
  generalize bs.length = nb at *
  generalize l.length = ns at *
  have HTt := Lib.hid (own_mono HT2.out (show w.heap.size ≤ w1.heap.size by omega))
  have HSt := Lib.hid (own_mono HS2.out (show w.heap.size ≤ w1.heap.size by omega))
  have HXt := HX2
  have HBt := Lib.hid (DW.bel HB1.out HD2.out (by omega) rfl)
  clear HT2 HS2 HX2
  obtain ⟨⟨y0, y1, y2, y3, y4⟩, ⟨f0, f1, f2, f3, f4⟩, hlta⟩ := CBox.c HXt.out
  have hz := CBox.fill HXt.out (.int .i64 ci) (.int .i64 cw) (.int .i64 co) (.slice A1 nb q1) (.slice A2 ns q2)
  have YT := Lib.hid (own_keep HTt.out HXt.out (by decide) hz.2)
  have YS := Lib.hid (own_keep HSt.out HXt.out (by decide) hz.2)
  have YB := Lib.hid (below_of_grown HBt.out hz.2 (fun q hq => by simp only [Option.some.injEq] at hq; omega))
  have YC := Lib.hid hz.1
  obtain ⟨WF, hWF⟩ : ∃ WF, WF = (((((w2.setCell ⟨w.heap.size, 0, none⟩ (.int .i64 ci)).setCell ⟨w.heap.size, 1, none⟩ (.int .i64 cw)).setCell ⟨w.heap.size, 2, none⟩ (.int .i64 co)).setCell ⟨w.heap.size, 3, none⟩ (.slice A1 nb q1)).setCell ⟨w.heap.size, 4, none⟩ (.slice A2 ns q2)) := ⟨_, rfl⟩
  rw [← hWF] at YT YS YB YC
  have HF := Lib.hid hWF
  clear hWF hz HTt HSt HXt HBt
  go_wp2_with (fail)
  rw [← HF.out]
  obtain ⟨⟨r0, r1, r2, r3, r4⟩, _⟩ := CBox.c YC.out
  clear y0 y1 y2 y3 y4 f0 f1 f2 f3 f4
  refine bodyPost_ret (v := .agg #[.int .i64 ci, .int .i64 cw, .int .i64 co, .slice A1 nb q1, .slice A2 ns q2]) (by simp [results, Tryz.results10, go_sem, r0, r1, r2, r3, r4]) rfl (codeX_of (F := F1) (xs := []) YT.out YS.out HZ.out (by omega) trivial YB.out)
set_option maxHeartbeats 4000000 in
set_option maxRecDepth 100000 in
theorem c_DrawTimeOf (A : Option Addr) (c n : Nat) (w : World) (hn : n ≤ 4096) (hb : Bytes w w.heap.size A n) :
    Calls Tryz.prog 13 #[.slice A n c] w (CodeX F2 XI w) := by
  have HX0 : Hid (CBox (w.alloc (.cells #[.int .i64 0, .int .i64 0, .int .i64 0, .slice none 0 0, .slice none 0 0] 35)) w.heap.size w.heap.size [.int .i64 0, .int .i64 0, .int .i64 0, .slice none 0 0, .slice none 0 0]) := Lib.hid (own_box w w.heap.size 35 [.int .i64 0, .int .i64 0, .int .i64 0, .slice none 0 0, .slice none 0 0] 5 rfl (Nat.le_refl _))
  have B0 := Lib.hid (below_alloc (Below.refl w.heap.size w) (.cells #[.int .i64 0, .int .i64 0, .int .i64 0, .slice none 0 0, .slice none 0 0] 35))
  have HY := Lib.hid (hb.later B0.out (show w.heap.size ≤ (w.alloc (.cells #[.int .i64 0, .int .i64 0, .int .i64 0, .slice none 0 0, .slice none 0 0] 35)).heap.size by simp))
  have hsA : (w.alloc (.cells #[.int .i64 0, .int .i64 0, .int .i64 0, .slice none 0 0, .slice none 0 0] 35)).heap.size = w.heap.size + 1 := by simp
  go_enter Tryz.func13, Tryz.ntmps13
  go_wp2_with (fail)
  refine (c_From A c n _ hn HY.out).mono ?_
  rintro e w1 ⟨rfl, hs1, hb1⟩
  rw [hsA] at hs1
  have HB1 := Lib.hid (below_chain B0.out hb1)
  have HX1 : Hid (CBox _ _ _ _) := Lib.hid (own_below HX0.out hb1)
  have HS1 := Lib.hid (DW.start hs1)
  have hlt1 := hs1.lt
  clear hs1 hb1 HX0 B0 hsA
  go_wp2_with (fail)
  refine (c_l17Draw (w.heap.size + 1) _ HS1.out.s).mono ?_
  rintro e w2 ⟨⟨ci, cw, co, bs, l⟩, A1, q1, A2, q2, rfl, ht, hs, hok, hns, hd2⟩
  have HZ : Hid (TmOk bs) := Lib.hid hok.1
  have HT2 : Hid (w2.ownsRow w1.heap.size 60 3 (.slice A1 bs.length q1) bs.length (tmCells bs)) := Lib.hid ht
  have HS2 : Hid (w2.ownsRow w1.heap.size 88 2 (.slice A2 l.length q2) l.length (insCells l)) := Lib.hid hs
  have HX2 : Hid (CBox _ _ _ _) := Lib.hid (hd2.own2 HX1.out (fun q hq e => by simp only [Value.ownBlock, Option.some.injEq] at hq; omega))
  have HD2 := Lib.hid (HS1.out.then_ hd2)
  have hsw2 := HD2.out.g.size
  dsimp only [cv] at hns ⊢
  clear ht hs hok hd2 HX1 HS1
  generalize bs.length = nb at *
  generalize l.length = ns at *
  have BA := below_alloc (Below.refl w2.heap.size w2) (.cells #[.int .i64 ci, .int .i64 cw, .int .i64 co, .slice A1 nb q1, .slice A2 ns q2] 35)
  have HT3 := Lib.hid (own_below HT2.out BA)
  have HS3 := Lib.hid (own_below HS2.out BA)
  have HP3 : Hid (CBox (w2.alloc (.cells #[.int .i64 ci, .int .i64 cw, .int .i64 co, .slice A1 nb q1, .slice A2 ns q2] 35)) w1.heap.size w2.heap.size [.int .i64 ci, .int .i64 cw, .int .i64 co, .slice A1 nb q1, .slice A2 ns q2]) := Lib.hid (own_box w2 w1.heap.size 35 [.int .i64 ci, .int .i64 cw, .int .i64 co, .slice A1 nb q1, .slice A2 ns q2] 5 rfl hsw2)
  have HX3 : Hid (CBox _ _ _ _) := Lib.hid (own_below HX2.out BA)
  have HD3 := Lib.hid (HD2.out.below hlt1 BA)
  clear BA HT2 HS2 HX2 HD2
  go_upto_region 3 with (fail)
  generalize w2.alloc (.cells #[.int .i64 ci, .int .i64 cw, .int .i64 co, .slice A1 nb q1, .slice A2 ns q2] 35) = w3 at *
  generalize w2.heap.size = pb at *
  have hpw : w.heap.size + 1 < pb := by omega
  obtain ⟨⟨k0, k1, k2, k3, k4⟩, _, hltb⟩ := CBox.c HP3.out
  have hw1 : IntKind.i64.wrap ((ns : Int) + 2) = (ns : Int) + 2 := IntWalk.i64_in _ (by omega)
  refine wp_region_held_drew (S := (fun w' => w'.cell? ⟨pb, 0, none⟩ = some (.int .i64 ci) ∧ w'.cell? ⟨pb, 1, none⟩ = some (.int .i64 cw) ∧ w'.cell? ⟨pb, 2, none⟩ = some (.int .i64 co) ∧ w'.cell? ⟨pb, 3, none⟩ = some (.slice A1 nb q1) ∧ w'.cell? ⟨pb, 4, none⟩ = some (.slice A2 ns q2))) (by kernel_rfl) ?_ (fun hHeld => ?_)
  · exact ⟨k0, k1, k2, k3, k4⟩
  refine rg_take (v := ?_) 0 rfl (by kernel_rfl) (by kernel_rfl) (by kernel_rfl) (fun _ _ _ h => h) (by kernel_rfl) ?_ (by assumption) ?_
  rotate_left
  · (intro w' hSw; (try dsimp only at hSw); go_simp; first | done | with_reducible rfl)
  simp only [Act.put, List.setIfInBounds_toArray, List.set_cons_zero, List.set_cons_succ]
  refine rg_take (v := ?_) 1 rfl (by kernel_rfl) (by kernel_rfl) (by kernel_rfl) (fun _ _ _ h => h) (by kernel_rfl) ?_ (by assumption) ?_
  rotate_left
  · (intro w' hSw; (try dsimp only at hSw); go_simp; first | done | with_reducible rfl)
  simp only [Act.put, List.setIfInBounds_toArray, List.set_cons_zero, List.set_cons_succ]
  refine rg_take (v := ?_) 2 rfl (by kernel_rfl) (by kernel_rfl) (by kernel_rfl) (fun _ _ _ h => h) (by kernel_rfl) ?_ (by assumption) ?_
  rotate_left
  · (intro w' hSw; (try dsimp only at hSw); go_simp; first | done | with_reducible rfl)
  simp only [Act.put, List.setIfInBounds_toArray, List.set_cons_zero, List.set_cons_succ]
  refine rg_take (v := ?_) 3 rfl (by kernel_rfl) (by kernel_rfl) (by kernel_rfl) (fun _ _ _ h => h) (by kernel_rfl) ?_ (by assumption) ?_
  rotate_left
  · (intro w' hSw; (try dsimp only at hSw); go_simp; first | done | with_reducible rfl)
  simp only [Act.put, List.setIfInBounds_toArray, List.set_cons_zero, List.set_cons_succ]
  refine rg_take (v := ?_) 4 rfl (by kernel_rfl) (by kernel_rfl) (by kernel_rfl) (fun _ _ _ h => h) (by kernel_rfl) ?_ (by assumption) ?_
  rotate_left
  · (intro w' hSw; (try dsimp only at hSw); go_simp; first | done | with_reducible rfl)
  simp only [Act.put, List.setIfInBounds_toArray, List.set_cons_zero, List.set_cons_succ]
  refine rg_take (v := ?_) 5 rfl (by kernel_rfl) (by kernel_rfl) (by kernel_rfl) (fun _ _ _ h => h) (by kernel_rfl) ?_ (by assumption) ?_
  rotate_left
  · (intro w' hSw; (try dsimp only at hSw); go_simp; first | done | with_reducible rfl)
  simp only [Act.put, List.setIfInBounds_toArray, List.set_cons_zero, List.set_cons_succ]
  refine rg_run 6 rfl (by kernel_rfl) (by kernel_rfl) (fun K hK => ?_)
  go_simp
  refine (c_NextD (w.heap.size + 1) _ _ HD3.out.s.drew (by omega)).mono ?_
  rintro e w4 ⟨r, rfl, hr0, hr1, _, hdn⟩
  have hr2 := hr1 (by omega)
  have hdd := ((DW.start HD3.out.s).drew (by have := HD3.out.g.size; omega)).then_ hdn
  have HT4 := Lib.hid (hdd.own HT3.out hlt1)
  have HS4 := Lib.hid (hdd.own HS3.out hlt1)
  have HP4 : Hid (CBox _ _ _ _) := Lib.hid (hdd.own HP3.out hlt1)
  have HX4 : Hid (CBox _ _ _ _) := Lib.hid (hdd.own2 HX3.out (fun q hq e => by simp only [Value.ownBlock, Option.some.injEq] at hq; omega))
  have HD4 := Lib.hid (HD3.out.then_ hdd)
  clear HT3 HS3 HP3 HX3 HD3 hdn hdd k0 k1 k2 k3 k4 hltb hr1
  obtain ⟨⟨k0, k1, k2, k3, k4⟩, _, hltb⟩ := CBox.c HP4.out
  go_wp2
  clear hHeld
  refine hK.out _ _ (by exact ⟨k0, k1, k2, k3, k4⟩) (fun hHeld => ?_)
  clear hK K
  try simp only [Act.put, List.setIfInBounds_toArray, List.set_cons_zero, List.set_cons_succ]
  have hw2 : IntKind.i64.wrap (r - 1) = r - 1 := IntWalk.i64_in _ (by omega)
  refine rg_take (v := ?_) 7 rfl (by kernel_rfl) (by kernel_rfl) (by kernel_rfl) (fun _ _ _ h => h) (by kernel_rfl) ?_ (by assumption) ?_
  rotate_left
  · (intro w' hSw; (try dsimp only at hSw); go_simp; first | done | with_reducible rfl)
  simp only [Act.put, List.setIfInBounds_toArray, List.set_cons_zero, List.set_cons_succ]
  have HTt := Lib.hid (own_mono HT4.out (show w.heap.size ≤ w1.heap.size by omega))
  have HSt := Lib.hid (own_mono HS4.out (show w.heap.size ≤ w1.heap.size by omega))
  have HXt := HX4
  have HBt := Lib.hid (DW.bel HB1.out HD4.out (by omega) rfl)
  obtain ⟨⟨y0, y1, y2, y3, y4⟩, ⟨f0, f1, f2, f3, f4⟩, hlta⟩ := CBox.c HXt.out
  have hz := CBox.fill HXt.out (.int .i64 ci) (.int .i64 cw) (.int .i64 co) (.slice A1 nb q1) (.slice A2 ns q2)
  have YT := Lib.hid (own_keep HTt.out HXt.out (by decide) hz.2)
  have YS := Lib.hid (own_keep HSt.out HXt.out (by decide) hz.2)
  have YB := Lib.hid (below_of_grown HBt.out hz.2 (fun q hq => by simp only [Option.some.injEq] at hq; omega))
  have YC := Lib.hid hz.1
  have YP : CBox (((((w4.setCell ⟨w.heap.size, 0, none⟩ (.int .i64 ci)).setCell ⟨w.heap.size, 1, none⟩ (.int .i64 cw)).setCell ⟨w.heap.size, 2, none⟩ (.int .i64 co)).setCell ⟨w.heap.size, 3, none⟩ (.slice A1 nb q1)).setCell ⟨w.heap.size, 4, none⟩ (.slice A2 ns q2)) _ _ _ := CBox.keep HP4.out hz.2 (by omega)
  obtain ⟨⟨p0, p1, p2, p3, p4⟩, _, _⟩ := CBox.c YP
  clear HT4 HS4 HX4 HP4 HD4 HTt HSt HXt HBt hz YP
  refine rg_run 8 rfl (by kernel_rfl) (by kernel_rfl) (fun K hK => ?_)
  go_simp
  clear hHeld
  refine hK.out _ _ (by exact ⟨p0, p1, p2, p3, p4⟩) (fun hHeld => ?_)
  clear hK K
  try simp only [Act.put, List.setIfInBounds_toArray, List.set_cons_zero, List.set_cons_succ]
  refine rg_take (v := ?_) 9 rfl (by kernel_rfl) (by kernel_rfl) (by kernel_rfl) (fun _ _ _ h => h) (by kernel_rfl) ?_ (by assumption) ?_
  rotate_left
  · (intro w' hSw; (try dsimp only at hSw); go_simp; first | done | with_reducible rfl)
  simp only [Act.put, List.setIfInBounds_toArray, List.set_cons_zero, List.set_cons_succ]
  refine wpAnyH_done (by kernel_rfl) ?_ _
  clear hHeld
  obtain ⟨WF, hWF⟩ : ∃ WF, WF = (((((w4.setCell ⟨w.heap.size, 0, none⟩ (.int .i64 ci)).setCell ⟨w.heap.size, 1, none⟩ (.int .i64 cw)).setCell ⟨w.heap.size, 2, none⟩ (.int .i64 co)).setCell ⟨w.heap.size, 3, none⟩ (.slice A1 nb q1)).setCell ⟨w.heap.size, 4, none⟩ (.slice A2 ns q2)) := ⟨_, rfl⟩
  rw [← hWF] at YT YS YB YC
  have HF := Lib.hid hWF
  clear hWF p0 p1 p2 p3 p4 k0 k1 k2 k3 k4 hltb
  go_wp2_with (fail)
  rw [← HF.out]
  obtain ⟨⟨r0, r1, r2, r3, r4⟩, _⟩ := CBox.c YC.out
  clear y0 y1 y2 y3 y4 f0 f1 f2 f3 f4
  refine bodyPost_ret (v := .tuple #[.agg #[.int .i64 ci, .int .i64 cw, .int .i64 co, .slice A1 nb q1, .slice A2 ns q2], .int .i64 (r - 1)]) (by simp [results, Tryz.results13, go_sem, r0, r1, r2, r3, r4]) rfl (codeX_of (F := F2) (xs := [.int .i64 (r - 1)]) YT.out YS.out HZ.out (by omega) ⟨r - 1, rfl⟩ YB.out)
end Go.Proofs.YteengjcplmjakaaGreatDoor

/- The program's compiler: emit, load. Condition: the lengths. -/
namespace Go.Proofs.YteengjcplmjakaaGreatDoor
open Go.RowKit

/-- The compiler in its box, its steps in a row of the call's own (blocks from base on), the program's blocks. -/
def XBox (w : World) (base b : Nat) (x : List Value) : Prop := w.ownsRow base 82 12 (.slice (some ⟨b, 0, none⟩) 1 1) 1 x
def xCells (p : Prg) (a1 a2 a3 a4 ab : Option Addr) (c1 c2 c3 c4 cb : Nat) (A : Option Addr) (n c : Nat) (nb : Int) : List Value :=
  [.string p.nm, .slice a1 p.ins.length c1, .slice a2 p.vs.length c2, .slice a3 p.os.length c3, .string p.gd, .slice a4 p.ls.length c4, .int .i64 p.ins.length, .int .i64 p.vs.length, .int .i64 p.os.length, .slice ab (blk p).length cb, .slice A n c, .int .i64 nb]
/-- Blocks that a compiler's methods touch. -/
def PI (base : Nat) (k : Nat) (o : Obj) : Prop := base ≤ k ∧ ∃ cur fz, o = .cells cur 82 fz ∨ o = .cells cur 88 fz
structure XS (w0 w : World) (b : Nat) (p : Prg) (a1 a2 a3 a4 ab : Option Addr) (c1 c2 c3 c4 cb : Nat) (A : Option Addr) (c : Nat) (S : List Ins) (nb : Nat) : Prop where
  box : XBox w w0.heap.size b (xCells p a1 a2 a3 a4 ab c1 c2 c3 c4 cb A S.length c nb)
  row : w.ownsRow w0.heap.size 88 2 (.slice A S.length c) S.length (insCells S)
  blk : w.ownsRow w0.heap.size 60 3 (.slice ab (blk p).length cb) (blk p).length (tmCells (blk p))
  bel : Below w0.heap.size w0 w
theorem XS.below {w0 w w' : World} {b : Nat} {p : Prg} {a1 a2 a3 a4 ab : Option Addr} {c1 c2 c3 c4 cb : Nat} {A : Option Addr} {c : Nat} {S : List Ins} {nb : Nat} (h : XS w0 w b p a1 a2 a3 a4 ab c1 c2 c3 c4 cb A c S nb) (hb : Below w.heap.size w w') : XS w0 w' b p a1 a2 a3 a4 ab c1 c2 c3 c4 cb A c S nb :=
  ⟨own_below h.box hb, own_below h.row hb, own_below h.blk hb, below_chain h.bel hb⟩
/-- What the methods read of the compiler. -/
theorem XS.cells {w0 w : World} {b : Nat} {p : Prg} {a1 a2 a3 a4 ab : Option Addr} {c1 c2 c3 c4 cb : Nat} {A : Option Addr} {c : Nat} {S : List Ins} {nb : Nat} (h : XS w0 w b p a1 a2 a3 a4 ab c1 c2 c3 c4 cb A c S nb) :
    (w.cell? ⟨b, 1, none⟩ = some (.slice a1 p.ins.length c1) ∧ w.cell? ⟨b, 2, none⟩ = some (.slice a2 p.vs.length c2) ∧ w.cell? ⟨b, 3, none⟩ = some (.slice a3 p.os.length c3)) ∧
    (w.cell? ⟨b, 6, none⟩ = some (.int .i64 p.ins.length) ∧ w.cell? ⟨b, 7, none⟩ = some (.int .i64 p.vs.length) ∧ w.cell? ⟨b, 8, none⟩ = some (.int .i64 p.os.length) ∧ w.cell? ⟨b, 9, none⟩ = some (.slice ab (Go.Proofs.YteengjcplmjakaaGreatDoor.blk p).length cb) ∧ w.cell? ⟨b, 10, none⟩ = some (.slice A S.length c)) ∧
    w.cell? ⟨b, 11, none⟩ = some (.int .i64 nb) ∧ (w.frozen? ⟨b, 10, none⟩ = false ∧ w.frozen? ⟨b, 11, none⟩ = false) ∧ w0.heap.size ≤ b ∧ b < w.heap.size :=
  ⟨⟨World.ownsRow.cellAt h.box 1 (by decide), World.ownsRow.cellAt h.box 2 (by decide), World.ownsRow.cellAt h.box 3 (by decide)⟩,
   ⟨World.ownsRow.cellAt h.box 6 (by decide), World.ownsRow.cellAt h.box 7 (by decide), World.ownsRow.cellAt h.box 8 (by decide), World.ownsRow.cellAt h.box 9 (by decide), World.ownsRow.cellAt h.box 10 (by decide)⟩,
   World.ownsRow.cellAt h.box 11 (by decide), ⟨World.ownsRow.frozenAt h.box 10, World.ownsRow.frozenAt h.box 11⟩, own_ge h.box⟩
theorem fr_box {w : World} {base b : Nat} {x : List Value} (h : XBox w base b x) {j : Nat} (v : Value) : Fr (PI base) w (w.setCell ⟨b, j, none⟩ v) :=
  Fr.of_grown (World.ownsRow.stored h j v).2 (fun q o hq ho => by
    obtain ⟨h1, cur, h2⟩ := own_kind h hq ho
    exact ⟨h1, cur, _, .inl h2⟩)
theorem fr_row {w w' : World} {base n : Nat} {v : Value} {x : List Value} (h : w.ownsRow base 88 2 v n x) (hg : w.grownBy w' v.ownBlock) : Fr (PI base) w w' :=
  Fr.of_grown hg (fun q o hq ho => by
    obtain ⟨h1, cur, h2⟩ := own_kind h hq ho
    exact ⟨h1, cur, _, .inr h2⟩)
/-- The steps grow: the new row, then the box's cell. -/
theorem XS.push {w0 w w' : World} {b : Nat} {p : Prg} {a1 a2 a3 a4 ab : Option Addr} {c1 c2 c3 c4 cb : Nat} {A A' : Option Addr} {c c' : Nat} {S S' : List Ins} {nb : Nat} {n : Nat} (h : XS w0 w b p a1 a2 a3 a4 ab c1 c2 c3 c4 cb A c S nb)
    (hg : w.grownBy w' (Value.slice A S.length c).ownBlock) (ho : w'.ownsRow w0.heap.size 88 2 (.slice A' n c') n (insCells S')) (hn : n = S'.length) :
    XS w0 (w'.setCell ⟨b, 10, none⟩ (.slice A' n c')) b p a1 a2 a3 a4 ab c1 c2 c3 c4 cb A' c' S' nb ∧ Fr (PI w0.heap.size) w (w'.setCell ⟨b, 10, none⟩ (.slice A' n c')) := by
  subst hn
  have hb' : XBox w' w0.heap.size b _ := h.box.kept hg (.inr (fun e => own_ne h.box h.row (by decide) b rfl e.symm))
  have hst := World.ownsRow.stored hb' 10 (.slice A' S'.length c')
  have hblk : w'.ownsRow w0.heap.size 60 3 _ _ _ := h.blk.kept hg (by
    rcases hv : (Value.slice ab (Go.Proofs.YteengjcplmjakaaGreatDoor.blk p).length cb).ownBlock with _ | q
    · exact .inl rfl
    · exact .inr (fun e => own_ne h.blk h.row (by decide) q hv e.symm))
  have hF := (fr_row h.row hg).trans (fr_box hb' (j := 10) (.slice A' S'.length c'))
  refine ⟨⟨hst.1, ho.kept hst.2 ?_, hblk.kept hst.2 ?_, ?_⟩, hF⟩
  · rcases hv : (Value.slice A' S'.length c').ownBlock with _ | q
    · exact .inl rfl
    · exact .inr (fun e => own_ne ho hb' (by decide) q hv e.symm)
  · rcases hv : (Value.slice ab (Go.Proofs.YteengjcplmjakaaGreatDoor.blk p).length cb).ownBlock with _ | q
    · exact .inl rfl
    · exact .inr (fun e => own_ne hblk hb' (by decide) q hv e.symm)
  · exact h.bel.trans (hF.below (fun k o hp => hp.1) h.bel.size)
/-- The block counter is set. -/
theorem XS.count {w0 w : World} {b : Nat} {p : Prg} {a1 a2 a3 a4 ab : Option Addr} {c1 c2 c3 c4 cb : Nat} {A : Option Addr} {c : Nat} {S : List Ins} {nb : Nat} (h : XS w0 w b p a1 a2 a3 a4 ab c1 c2 c3 c4 cb A c S nb) (nb' : Nat) :
    XS w0 (w.setCell ⟨b, 11, none⟩ (.int .i64 nb')) b p a1 a2 a3 a4 ab c1 c2 c3 c4 cb A c S nb' ∧ Fr (PI w0.heap.size) w (w.setCell ⟨b, 11, none⟩ (.int .i64 nb')) := by
  have hst := World.ownsRow.stored h.box 11 (.int .i64 nb')
  have hF := fr_box h.box (j := 11) (.int .i64 nb')
  refine ⟨⟨hst.1, h.row.kept hst.2 ?_, h.blk.kept hst.2 ?_, ?_⟩, hF⟩
  · rcases hv : (Value.slice A S.length c).ownBlock with _ | q
    · exact .inl rfl
    · exact .inr (fun e => own_ne h.row h.box (by decide) q hv e.symm)
  · rcases hv : (Value.slice ab (Go.Proofs.YteengjcplmjakaaGreatDoor.blk p).length cb).ownBlock with _ | q
    · exact .inl rfl
    · exact .inr (fun e => own_ne h.blk h.box (by decide) q hv e.symm)
  · exact h.bel.trans (hF.below (fun k o hp => hp.1) h.bel.size)
/-- What a method of the compiler does: steps are added, the counter grows. -/
def RetX (w0 : World) (b : Nat) (p : Prg) (a1 a2 a3 a4 ab : Option Addr) (c1 c2 c3 c4 cb : Nat) (S : List Ins) (nb : Nat) (w : World) (e : Ending) (w' : World) : Prop :=
  e = .returned (.tuple #[]) ∧ (∃ A c, XS w0 w' b p a1 a2 a3 a4 ab c1 c2 c3 c4 cb A c S nb) ∧ Fr (PI w0.heap.size) w w'
set_option maxHeartbeats 1000000 in
set_option maxRecDepth 100000 in
theorem c_emit (w0 : World) (b : Nat) (p : Prg) (a1 a2 a3 a4 ab : Option Addr) (c1 c2 c3 c4 cb : Nat) (A : Option Addr) (c : Nat) (S : List Ins) (nb : Nat) (o a : Int) (w : World) (hS : S.length ≤ 3000) (h : XS w0 w b p a1 a2 a3 a4 ab c1 c2 c3 c4 cb A c S nb) :
    Calls Tryz.prog 91 #[.pointer (some ⟨b, 0, none⟩), .int .i64 o, .int .i64 a] w (RetX w0 b p a1 a2 a3 a4 ab c1 c2 c3 c4 cb (S ++ [⟨o, a⟩]) nb w) := by
  have HA := Lib.hid (h.below (below_alloc (Below.refl w.heap.size w) (.cells #[.int .i64 o, .int .i64 a] 88)))
  have HF := Lib.hid (show Fr (PI w0.heap.size) w (w.alloc (.cells #[.int .i64 o, .int .i64 a] 88)) from Fr.of_below (below_alloc (Below.refl w.heap.size w) _))
  obtain ⟨_, ⟨_, _, _, _, k10⟩, _, _, hb1, hb2⟩ := h.cells
  have HZ := Lib.hid (Nat.le_trans hb1 (Nat.le_of_lt hb2))
  clear h
  go_enter Tryz.func91, Tryz.ntmps91
  go_wp2_with (first
    | (at_builtin
       refine wpList_push_ins _ rfl (.tmp 11) (.tmp 15) rfl w0.heap.size _ S.length S ⟨o, a⟩ w.heap.size 1 rfl HA.out.row rfl (by go_simp) (by go_simp) (by omega) HA.out.bel.size ?_
       intro v7 w7 hown hgrow
       obtain ⟨A9, c9, rfl⟩ := own_shape hown
       have HP := Lib.hid (HA.out.push hgrow hown (by simp))
       have f10 := (World.ownsRow.frozenAt (HA.out.box.kept hgrow (.inr (fun e => own_ne HA.out.box HA.out.row (by decide) b rfl e.symm))) 10)
       have e10 := (World.ownsRow.cellAt (HA.out.box.kept hgrow (.inr (fun e => own_ne HA.out.box HA.out.row (by decide) b rfl e.symm))) 10 (by decide))
       clear hown hgrow k10)
    )
  go_end0
  exact ⟨rfl, ⟨_, _, HP.out.1⟩, HF.out.trans HP.out.2⟩
end Go.Proofs.YteengjcplmjakaaGreatDoor

/- The program's compiler: load, term, line (printed by QCj.py). Condition: the lengths. -/
namespace Go.Proofs.YteengjcplmjakaaGreatDoor
open Go.RowKit

set_option maxHeartbeats 1000000 in
set_option maxRecDepth 100000 in
theorem c_load (w0 : World) (b : Nat) (p : Prg) (a1 a2 a3 a4 ab : Option Addr) (c1 c2 c3 c4 cb : Nat) (A : Option Addr) (c : Nat) (S : List Ins) (nb : Nat) (s : ByteArray) (oa ob : Int) (w : World) (hs : PgOk p) (hS : S.length ≤ 3000) (hp : PgR w0 a1 a2 a3 a4 p) (h : XS w0 w b p a1 a2 a3 a4 ab c1 c2 c3 c4 cb A c S nb) :
    Calls Tryz.prog 103 #[.pointer (some ⟨b, 0, none⟩), .string s, .int .i64 oa, .int .i64 ob] w (RetX w0 b p a1 a2 a3 a4 ab c1 c2 c3 c4 cb (S ++ [nmI p s oa ob]) nb w) := by
  have HX := Lib.hid h
  have HP := Lib.hid hp
  have HI := Lib.hid (fun w h => c_IndexS a1 c1 _ p.ins s w rfl hs.i.1 h)
  have HJ := Lib.hid (fun w h => c_IndexS a2 c2 _ p.vs s w rfl hs.v.1 h)
  have HE := Lib.hid (fun o a w h => c_emit w0 b p a1 a2 a3 a4 ab c1 c2 c3 c4 cb A c S nb o a w hS h)
  have HV : Hid (0 ≤ ixS p.ins s ∧ nmI p s oa ob = ⟨oa, ixS p.ins s⟩ ∨ ixS p.ins s < 0 ∧ nmI p s oa ob = ⟨ob, ixS p.vs s⟩) := Lib.hid (by
    by_cases h0 : 0 ≤ ixS p.ins s
    · exact .inl ⟨h0, nmI_in h0⟩
    · exact .inr ⟨by omega, nmI_va h0⟩)
  generalize nmI p s oa ob = R at *
  generalize ixS p.ins s = z at *
  generalize ixS p.vs s = z2 at *
  obtain ⟨⟨k1, k2, k3⟩, _, k11, _, hb1, hb2⟩ := h.cells
  clear h hp hs
  go_enter Tryz.func103, Tryz.ntmps103
  go_wp2_with (fail)
  refine (HI.out _ ((HP.out.i.below HX.out.bel))).mono ?_
  rintro e w1 ⟨rfl, hb⟩
  have HX1 := Lib.hid (HX.out.below hb)
  have HF1 := Lib.hid (show Fr (PI w0.heap.size) w w1 from Fr.of_below hb)
  clear hb k1 k2 k3 k11 hb1 hb2
  obtain ⟨⟨k1, k2, k3⟩, _, k11, _, hb1, hb2⟩ := HX1.out.cells
  rcases HV.out with ⟨h0, rfl⟩ | ⟨h0, rfl⟩
  · clear HV k1 k2 k3 k11
    go_wp2_with (fail)
    refine (HE.out oa z _ HX1.out).mono ?_
    rintro e w2 ⟨rfl, hx, hf⟩
    have HX2 := Lib.hid hx
    have HF2 := Lib.hid (HF1.out.trans hf)
    clear hx hf
    go_wp2_with (fail)
    go_end0
    exact ⟨rfl, HX2.out, HF2.out⟩
  · clear HV
    go_wp2_with (fail)
    refine (HJ.out _ ((HP.out.v.below HX1.out.bel))).mono ?_
    rintro e w2 ⟨rfl, hb⟩
    have HX2 := Lib.hid (HX1.out.below hb)
    have HF2 := Lib.hid (HF1.out.trans (Fr.of_below hb))
    clear hb k1 k2 k3 k11
    go_wp2_with (fail)
    refine (HE.out ob z2 _ HX2.out).mono ?_
    rintro e w3 ⟨rfl, hx, hf⟩
    have HX3 := Lib.hid hx
    have HF3 := Lib.hid (HF2.out.trans hf)
    clear hx hf
    go_wp2_with (fail)
    go_end0
    exact ⟨rfl, HX3.out, HF3.out⟩
set_option maxRecDepth 100000 in
theorem c_truth (x : Bool) (w : World) : Calls Tryz.prog 139 #[.bool x] w fun e w' => e = .returned (.int .i64 (if x then 1 else 0)) ∧ w = w' := by
  cases x
  · skip
    go_enter Tryz.func139, Tryz.ntmps139
    go_wp2_with (fail)
    go_ret
    exact ⟨rfl, rfl⟩
  · skip
    go_enter Tryz.func139, Tryz.ntmps139
    go_wp2_with (fail)
    go_ret
    exact ⟨rfl, rfl⟩
theorem retX_of {w0 : World} {b : Nat} {p : Prg} {a1 a2 a3 a4 ab : Option Addr} {c1 c2 c3 c4 cb : Nat} {S S' : List Ins} {nb nb' : Nat} {w w' : World} (h1 : S' = S) (h2 : nb' = nb) (hx : ∃ A c, XS w0 w' b p a1 a2 a3 a4 ab c1 c2 c3 c4 cb A c S nb) (hf : Fr (PI w0.heap.size) w w') :
    RetX w0 b p a1 a2 a3 a4 ab c1 c2 c3 c4 cb S' nb' w (.returned (.tuple #[])) w' := by
  subst h1; subst h2
  exact ⟨rfl, hx, hf⟩
set_option maxHeartbeats 2000000 in
set_option maxRecDepth 100000 in
theorem c_term (w0 : World) (b : Nat) (p : Prg) (a1 a2 a3 a4 ab : Option Addr) (c1 c2 c3 c4 cb : Nat) (A : Option Addr) (c : Nat) (S : List Ins) (nb : Nat) (t : Tm) (w : World) (hs : PgOk p) (hk : trmT t.k t.nm t.n = true) (hS : S.length ≤ 2900) (hn : nb ≤ 2900) (hp : PgR w0 a1 a2 a3 a4 p) (h : XS w0 w b p a1 a2 a3 a4 ab c1 c2 c3 c4 cb A c S nb) :
    Calls Tryz.prog 89 #[.pointer (some ⟨b, 0, none⟩), .agg #[.int .i64 t.k, .string t.nm, .int .i64 t.n]] w (RetX w0 b p a1 a2 a3 a4 ab c1 c2 c3 c4 cb (S ++ [insT p nb t]) (nb + nbT [t]) w) := by
  obtain ⟨tk, tm, tx⟩ := t
  have hkk := trm_k hk
  dsimp only at hkk ⊢
  have hal := below_alloc (Below.refl w.heap.size w) (.cells #[.int .i64 tk, .string tm, .int .i64 tx] 60)
  have HX := Lib.hid (h.below hal)
  have HF := Lib.hid (show Fr (PI w0.heap.size) w _ from Fr.of_below hal)
  have HL := Lib.hid (fun s oa ob w h => c_load w0 b p a1 a2 a3 a4 ab c1 c2 c3 c4 cb A c S nb s oa ob w hs (by omega) hp h)
  have HE := Lib.hid (fun o a w h => c_emit w0 b p a1 a2 a3 a4 ab c1 c2 c3 c4 cb A c S nb o a w (by omega) h)
  have x0 : (w.alloc (.cells #[.int .i64 tk, .string tm, .int .i64 tx] 60)).cell? ⟨w.heap.size, 0, none⟩ = some (.int .i64 tk) := by go_simp
  have x1 : (w.alloc (.cells #[.int .i64 tk, .string tm, .int .i64 tx] 60)).cell? ⟨w.heap.size, 1, none⟩ = some (.string tm) := by go_simp
  clear hal h hk hs hp
  rcases (show tk = 1 ∨ tk = 2 ∨ tk = 3 ∨ tk = 4 ∨ tk = 5 ∨ tk = 6 ∨ 7 ≤ tk by omega) with rfl | rfl | rfl | rfl | rfl | rfl | h7
  · have HI : Hid (insT p nb ⟨1, tm, tx⟩ = nmI p tm 2 3) := Lib.hid rfl
    have HB : Hid (nb + nbT [⟨1, tm, tx⟩] = nb) := Lib.hid rfl
    go_enter Tryz.func89, Tryz.ntmps89
    go_upto_region 1 with (fail)
    generalize w.alloc (.cells #[.int .i64 1, .string tm, .int .i64 tx] 60) = W at *
    clear hkk
    go_wp2_with (fail)
    refine (HL.out tm 2 3 _ HX.out).mono ?_
    rintro e w2 ⟨rfl, hx, hf⟩
    have HX2 := Lib.hid hx
    have HF2 := Lib.hid (HF.out.trans hf)
    clear hx hf
    go_wp2_with (fail)
    go_end0
    exact retX_of (congrArg (S ++ [·]) HI.out) HB.out HX2.out HF2.out
  · have HI : Hid (insT p nb ⟨2, tm, tx⟩ = ⟨1, 1⟩) := Lib.hid rfl
    have HB : Hid (nb + nbT [⟨2, tm, tx⟩] = nb) := Lib.hid rfl
    go_enter Tryz.func89, Tryz.ntmps89
    go_upto_region 1 with (fail)
    generalize w.alloc (.cells #[.int .i64 2, .string tm, .int .i64 tx] 60) = W at *
    clear hkk
    go_wp2_with (first
      | (go_at_call 139
         refine (c_truth true _).mono ?_
         rintro e w' ⟨rfl, rfl⟩)
      )
    refine (HE.out 1 1 _ HX.out).mono ?_
    rintro e w2 ⟨rfl, hx, hf⟩
    have HX2 := Lib.hid hx
    have HF2 := Lib.hid (HF.out.trans hf)
    clear hx hf
    go_wp2_with (fail)
    go_end0
    exact retX_of (congrArg (S ++ [·]) HI.out) HB.out HX2.out HF2.out
  · have HI : Hid (insT p nb ⟨3, tm, tx⟩ = ⟨1, 0⟩) := Lib.hid rfl
    have HB : Hid (nb + nbT [⟨3, tm, tx⟩] = nb) := Lib.hid rfl
    go_enter Tryz.func89, Tryz.ntmps89
    go_upto_region 1 with (fail)
    generalize w.alloc (.cells #[.int .i64 3, .string tm, .int .i64 tx] 60) = W at *
    clear hkk
    go_wp2_with (first
      | (go_at_call 139
         refine (c_truth false _).mono ?_
         rintro e w' ⟨rfl, rfl⟩)
      )
    refine (HE.out 1 0 _ HX.out).mono ?_
    rintro e w2 ⟨rfl, hx, hf⟩
    have HX2 := Lib.hid hx
    have HF2 := Lib.hid (HF.out.trans hf)
    clear hx hf
    go_wp2_with (fail)
    go_end0
    exact retX_of (congrArg (S ++ [·]) HI.out) HB.out HX2.out HF2.out
  · have HI : Hid (insT p nb ⟨4, tm, tx⟩ = ⟨4, 0⟩) := Lib.hid rfl
    have HB : Hid (nb + nbT [⟨4, tm, tx⟩] = nb) := Lib.hid rfl
    go_enter Tryz.func89, Tryz.ntmps89
    go_upto_region 1 with (fail)
    generalize w.alloc (.cells #[.int .i64 4, .string tm, .int .i64 tx] 60) = W at *
    clear hkk
    go_wp2_with (fail)
    refine (HE.out 4 0 _ HX.out).mono ?_
    rintro e w2 ⟨rfl, hx, hf⟩
    have HX2 := Lib.hid hx
    have HF2 := Lib.hid (HF.out.trans hf)
    clear hx hf
    go_wp2_with (fail)
    go_end0
    exact retX_of (congrArg (S ++ [·]) HI.out) HB.out HX2.out HF2.out
  · have HI : Hid (insT p nb ⟨5, tm, tx⟩ = ⟨5, 0⟩) := Lib.hid rfl
    have HB : Hid (nb + nbT [⟨5, tm, tx⟩] = nb) := Lib.hid rfl
    go_enter Tryz.func89, Tryz.ntmps89
    go_upto_region 1 with (fail)
    generalize w.alloc (.cells #[.int .i64 5, .string tm, .int .i64 tx] 60) = W at *
    clear hkk
    go_wp2_with (fail)
    refine (HE.out 5 0 _ HX.out).mono ?_
    rintro e w2 ⟨rfl, hx, hf⟩
    have HX2 := Lib.hid hx
    have HF2 := Lib.hid (HF.out.trans hf)
    clear hx hf
    go_wp2_with (fail)
    go_end0
    exact retX_of (congrArg (S ++ [·]) HI.out) HB.out HX2.out HF2.out
  · have HI : Hid (insT p nb ⟨6, tm, tx⟩ = ⟨6, 0⟩) := Lib.hid rfl
    have HB : Hid (nb + nbT [⟨6, tm, tx⟩] = nb) := Lib.hid rfl
    go_enter Tryz.func89, Tryz.ntmps89
    go_upto_region 1 with (fail)
    generalize w.alloc (.cells #[.int .i64 6, .string tm, .int .i64 tx] 60) = W at *
    clear hkk
    go_wp2_with (fail)
    refine (HE.out 6 0 _ HX.out).mono ?_
    rintro e w2 ⟨rfl, hx, hf⟩
    have HX2 := Lib.hid hx
    have HF2 := Lib.hid (HF.out.trans hf)
    clear hx hf
    go_wp2_with (fail)
    go_end0
    exact retX_of (congrArg (S ++ [·]) HI.out) HB.out HX2.out HF2.out
  · have HI : Hid (insT p nb ⟨tk, tm, tx⟩ = ⟨7, (nb : Int)⟩) := Lib.hid (insT_d h7)
    have HB : Hid (nb + nbT [⟨tk, tm, tx⟩] = nb + 1) := Lib.hid (by rw [nbT_one, if_pos (show isB ⟨tk, tm, tx⟩ = true from decide_eq_true h7)])
    have e1 : (tk == 1) = false := by simp; omega
    have e2 : (tk == 2) = false := by simp; omega
    have e3 : (tk == 3) = false := by simp; omega
    have e4 : (tk == 4) = false := by simp; omega
    have e5 : (tk == 5) = false := by simp; omega
    have e6 : (tk == 6) = false := by simp; omega
    go_enter Tryz.func89, Tryz.ntmps89
    go_upto_region 1 with (fail)
    generalize w.alloc (.cells #[.int .i64 tk, .string tm, .int .i64 tx] 60) = W at *
    have hw9 : IntKind.i64.wrap ((nb : Int) + 1) = (nb : Int) + 1 := IntWalk.i64_in _ (by omega)
    obtain ⟨_, _, k11, ⟨_, f11⟩, hb1, hb2⟩ := HX.out.cells
    clear hkk h7
    go_wp2_with (fail)
    refine (HE.out 7 nb _ HX.out).mono ?_
    rintro e w2 ⟨rfl, ⟨A9, c9, hx⟩, hf⟩
    have HX2 := Lib.hid (hx.count (nb + 1))
    have HF2 := Lib.hid (HF.out.trans (hf.trans HX2.out.2))
    clear k11 f11 hb1 hb2
    obtain ⟨_, _, k11, ⟨_, f11⟩, hb1, hb2⟩ := hx.cells
    clear hx hf
    go_wp2_with (fail)
    go_end0
    exact retX_of (congrArg (S ++ [·]) HI.out) HB.out ⟨_, _, HX2.out.1⟩ HF2.out
theorem Fr.obj {P : Nat → Obj → Prop} {w a : World} (h : Fr P w a) {k : Nat} {o : Obj} (hk : w.heap[k]? = some o) (hp : ¬ P k o) : a.heap[k]? = some o := (h.blk k o hk).elim id (fun e => absurd e hp)
theorem pi_no {base k : Nat} {cur : Array Value} {e : TypeId} {fz : Nat × Nat} (h1 : e ≠ 82) (h2 : e ≠ 88) : ¬ PI base k (.cells cur e fz) := by
  rintro ⟨_, c, f, h | h⟩
  · simp only [Obj.cells.injEq] at h; exact h1 h.2.1
  · simp only [Obj.cells.injEq] at h; exact h2 h.2.1
theorem cell_obj {w : World} {k j : Nat} {cur : Array Value} {e : TypeId} {v : Value} (h : w.heap[k]? = some (.cells cur e (0, 0))) (hv : cur[j]? = some v) : w.cell? ⟨k, j, none⟩ = some v := by
  unfold World.cell?
  rw [h]
  exact hv
set_option maxHeartbeats 2000000 in
set_option maxRecDepth 100000 in
theorem c_line (w0 : World) (b : Nat) (p : Prg) (a1 a2 a3 a4 ab : Option Addr) (c1 c2 c3 c4 cb : Nat) (A : Option Addr) (c : Nat) (S : List Ins) (nb : Nat) (tg : ByteArray) (ts : List Tm) (la : Option Addr) (lc : Nat) (w : World) (hs : PgOk p) (hk : ∀ t ∈ ts, trmT t.k t.nm t.n = true) (hts : ts.length ≤ 40) (hS : S.length ≤ 2000) (hn : nb ≤ 2000) (hp : PgR w0 a1 a2 a3 a4 p) (hr : Rd w0 la (tmCells ts)) (h : XS w0 w b p a1 a2 a3 a4 ab c1 c2 c3 c4 cb A c S nb) :
    Calls Tryz.prog 42 #[.pointer (some ⟨b, 0, none⟩), .agg #[.string tg, .slice la ts.length lc]] w (RetX w0 b p a1 a2 a3 a4 ab c1 c2 c3 c4 cb (S ++ csL p nb ⟨tg, ts⟩) (nb + nbT ts) w) := by
  have hal := below_alloc (Below.refl w.heap.size w) (.cells #[.string tg, .slice la ts.length lc] 80)
  have HX := Lib.hid (h.below hal)
  have HF := Lib.hid (show Fr (PI w0.heap.size) w _ from Fr.of_below hal)
  have HP := Lib.hid hp
  have HR := Lib.hid hr
  have HK := Lib.hid hk
  have HT := Lib.hid (fun A c S nb t w hk hS hn h => c_term w0 b p a1 a2 a3 a4 ab c1 c2 c3 c4 cb A c S nb t w hs hk hS hn hp h)
  have HE := Lib.hid (fun A c S nb o a w hS h => c_emit w0 b p a1 a2 a3 a4 ab c1 c2 c3 c4 cb A c S nb o a w hS h)
  have HI := Lib.hid (fun w h => c_IndexS a2 c2 _ p.vs tg w rfl hs.v.1 h)
  have HJ := Lib.hid (fun w h => c_IndexS a3 c3 _ p.os tg w rfl hs.o.1 h)
  have HO : Hid ((w.alloc (.cells #[.string tg, .slice la ts.length lc] 80)).heap[w.heap.size]? = some (.cells #[.string tg, .slice la ts.length lc] 80 (0, 0))) := Lib.hid (Go.MapKept.heap_alloc w _).1
  have hcl : S.length + (csT p nb ts).length ≤ 2040 := by rw [csT_len]; omega
  have hnt := nbT_le ts
  have HV : Hid (0 ≤ ixS p.vs tg ∧ tgI p tg = ⟨8, ixS p.vs tg⟩ ∨ ixS p.vs tg < 0 ∧ tgI p tg = ⟨9, ixS p.os tg⟩) := Lib.hid (by
    by_cases h0 : 0 ≤ ixS p.vs tg
    · exact .inl ⟨h0, tgI_v h0⟩
    · exact .inr ⟨by omega, tgI_o (by omega)⟩)
  have HL : Hid (csL p nb ⟨tg, ts⟩ = csT p nb ts ++ [tgI p tg]) := Lib.hid rfl
  generalize csL p nb ⟨tg, ts⟩ = LL at *
  generalize tgI p tg = TG at *
  generalize ixS p.vs tg = z at *
  generalize ixS p.os tg = z2 at *
  clear hal h hs hp hr hk
  go_enter Tryz.func42, Tryz.ntmps42
  go_upto_region 1 with (fail)
  generalize w.alloc (.cells #[.string tg, .slice la ts.length lc] 80) = W at *
  have x0 := cell_obj (j := 0) HO.out rfl
  have x1 := cell_obj (j := 1) HO.out rfl
  go_wp2_with (fail)
  go_loopw [5, 10] (fun _ i wr => ∃ q : Nat, q ≤ ts.length ∧ i = .int .i64 q ∧ Hid (∃ A c, XS w0 wr b p a1 a2 a3 a4 ab c1 c2 c3 c4 cb A c (S ++ csT p nb (ts.take q)) (nb + nbT (ts.take q))) ∧ Hid (Fr (PI w0.heap.size) W wr)) (fun _ i _ => ts.length - (intOf i).toNat)
  case atStart => exact ⟨0, Nat.zero_le _, rfl, Lib.hid ⟨A, c, by simpa [csT, nbT] using HX.out⟩, Lib.hid (Fr.refl _ _)⟩
  case round =>
    obtain ⟨q, hq, rfl, hx, hf⟩ := hrel
    clear x0 x1
    obtain ⟨A1, cc1, hx1⟩ := hx.out
    have HX1 := Lib.hid hx1
    clear hx hx1
    have hcq : (csT p nb (ts.take q)).length = min q ts.length := by rw [csT_len, List.length_take]
    have hnq := nbT_le (ts.take q)
    rw [List.length_take] at hnq
    by_cases hlt : q < ts.length
    · obtain ⟨⟨tk, tm, tx⟩, hz⟩ : ∃ z, ts[q]? = some z := ⟨_, List.getElem?_eq_getElem hlt⟩
      obtain ⟨b2, o2, rfl, _, m0, m1, m2⟩ := (HR.out.below HX1.out.bel).tm hz
      dsimp only at m0 m1 m2
      have HST := Lib.hid (csT_step (p := p) (b := nb) hz)
      have HNT := Lib.hid (show nbT (ts.take (q + 1)) = nbT (ts.take q) + nbT [⟨tk, tm, tx⟩] by rw [nbT_step hz, nbT_one])
      have HKT := Lib.hid (HK.out _ (List.mem_of_getElem? hz))
      have hq0 : (0 : Int) ≤ (q : Int) := by omega
      have hq1 : (q : Int) < ts.length := by omega
      have hal := below_alloc (Below.refl wr.heap.size wr) (.cells #[.int .i64 tk, .string tm, .int .i64 tx] 60)
      have HX2 := Lib.hid (HX1.out.below hal)
      have HF2 := Lib.hid (hf.out.trans (Fr.of_below hal))
      have hlen1 : (S ++ csT p nb (ts.take q)).length ≤ 2900 := by rw [List.length_append]; omega
      have HL1 := Lib.hid hlen1
      clear hz hal hf hlen1 HX1 hcq
      go_wp2_with (fail)
      refine (HT.out _ _ _ _ ⟨tk, tm, tx⟩ _ HKT.out HL1.out (by omega) HX2.out).mono ?_
      rintro e w3 ⟨rfl, hx, hf⟩
      have HX3 := Lib.hid hx
      have HF3 := Lib.hid (HF2.out.trans hf)
      clear hx hf m0 m1 m2
      go_wp2_with (fail)
      go_roundw
      case rel => exact ⟨q + 1, by omega, by go_num, Lib.hid (by rw [HST.out, HNT.out, ← List.append_assoc, ← Nat.add_assoc]; exact HX3.out), HF3⟩
      case measure => simp [intOf]; omega
    · obtain rfl : q = ts.length := by omega
      rw [List.take_length] at HX1
      clear hcq hnq
      have HO1 := Lib.hid (hf.out.obj HO.out (pi_no (by decide) (by decide)))
      have x0 := cell_obj (j := 0) HO1.out rfl
      have x1 := cell_obj (j := 1) HO1.out rfl
      have HF1 := Lib.hid (HF.out.trans hf.out)
      obtain ⟨⟨k1, k2, k3⟩, _, k11, _, hb1, hb2⟩ := HX1.out.cells
      have hl9 : (S ++ csT p nb ts).length ≤ 3000 := by rw [List.length_append]; omega
      have HL9 := Lib.hid hl9
      have HLL : Hid (S ++ LL = (S ++ csT p nb ts) ++ [TG]) := Lib.hid (by rw [HL.out, List.append_assoc])
      generalize S ++ csT p nb ts = S9 at *
      clear hf hl9 k1 k11
      go_wp2_with (fail)
      refine wp_region_held_drew (S := (fun w' => (w'.cell? ⟨b, 2, none⟩ = some (.slice a2 p.vs.length c2) ∧ w'.cell? ⟨b, 3, none⟩ = some (.slice a3 p.os.length c3)) ∧ w'.cell? ⟨w.heap.size, 0, none⟩ = some (.string tg))) (by kernel_rfl) ?_ (fun hHeld => ?_)
      · exact ⟨⟨k2, k3⟩, x0⟩
      refine rg_take (v := ?_) 0 rfl (by kernel_rfl) (by kernel_rfl) (by kernel_rfl) (fun _ _ _ h => h) (by kernel_rfl) ?_ (by assumption) ?_
      rotate_left
      · (intro w' hSw; (try dsimp only at hSw); go_simp; first | done | with_reducible rfl)
      simp only [Act.put, List.setIfInBounds_toArray, List.set_cons_zero, List.set_cons_succ]
      refine rg_take (v := ?_) 1 rfl (by kernel_rfl) (by kernel_rfl) (by kernel_rfl) (fun _ _ _ h => h) (by kernel_rfl) ?_ (by assumption) ?_
      rotate_left
      · (intro w' hSw; (try dsimp only at hSw); go_simp; first | done | with_reducible rfl)
      simp only [Act.put, List.setIfInBounds_toArray, List.set_cons_zero, List.set_cons_succ]
      refine rg_take (v := ?_) 2 rfl (by kernel_rfl) (by kernel_rfl) (by kernel_rfl) (fun _ _ _ h => h) (by kernel_rfl) ?_ (by assumption) ?_
      rotate_left
      · (intro w' hSw; (try dsimp only at hSw); go_simp; first | done | with_reducible rfl)
      simp only [Act.put, List.setIfInBounds_toArray, List.set_cons_zero, List.set_cons_succ]
      refine rg_take (v := ?_) 3 rfl (by kernel_rfl) (by kernel_rfl) (by kernel_rfl) (fun _ _ _ h => h) (by kernel_rfl) ?_ (by assumption) ?_
      rotate_left
      · (intro w' hSw; (try dsimp only at hSw); go_simp; first | done | with_reducible rfl)
      simp only [Act.put, List.setIfInBounds_toArray, List.set_cons_zero, List.set_cons_succ]
      refine rg_take (v := ?_) 4 rfl (by kernel_rfl) (by kernel_rfl) (by kernel_rfl) (fun _ _ _ h => h) (by kernel_rfl) ?_ (by assumption) ?_
      rotate_left
      · (intro w' hSw; (try dsimp only at hSw); go_simp; first | done | with_reducible rfl)
      simp only [Act.put, List.setIfInBounds_toArray, List.set_cons_zero, List.set_cons_succ]
      refine rg_take (v := ?_) 5 rfl (by kernel_rfl) (by kernel_rfl) (by kernel_rfl) (fun _ _ _ h => h) (by kernel_rfl) ?_ (by assumption) ?_
      rotate_left
      · (intro w' hSw; (try dsimp only at hSw); go_simp; first | done | with_reducible rfl)
      simp only [Act.put, List.setIfInBounds_toArray, List.set_cons_zero, List.set_cons_succ]
      refine rg_take (v := ?_) 6 rfl (by kernel_rfl) (by kernel_rfl) (by kernel_rfl) (fun _ _ _ h => h) (by kernel_rfl) ?_ (by assumption) ?_
      rotate_left
      · (intro w' hSw; (try dsimp only at hSw); go_simp; first | done | with_reducible rfl)
      simp only [Act.put, List.setIfInBounds_toArray, List.set_cons_zero, List.set_cons_succ]
      refine rg_run 7 rfl (by kernel_rfl) (by kernel_rfl) (fun K hK => ?_)
      go_simp
      refine (HI.out _ ((HP.out.v.below HX1.out.bel).below (Below.refl _ _).drew)).mono ?_
      rintro e w5 ⟨rfl, hb5⟩
      have hbs : Below wr.heap.size wr w5 := below_chain (Below.refl _ _).drew hb5
      have HX5 := Lib.hid (HX1.out.below hbs)
      have HF5 := Lib.hid (HF1.out.trans (Fr.of_below hbs))
      replace k2 := cell_later hbs (by exact k2)
      replace k3 := cell_later hbs (by exact k3)
      replace x0 := cell_later hbs (by exact x0)
      clear hbs hb5
      go_wp2
      clear hHeld
      refine hK.out _ _ (by exact ⟨⟨k2, k3⟩, x0⟩) (fun hHeld => ?_)
      clear hK K
      try simp only [Act.put, List.setIfInBounds_toArray, List.set_cons_zero, List.set_cons_succ]
      refine rg_take (v := ?_) 8 rfl (by kernel_rfl) (by kernel_rfl) (by kernel_rfl) (fun _ _ _ h => h) (by kernel_rfl) ?_ (by assumption) ?_
      rotate_left
      · (intro w' hSw; (try dsimp only at hSw); go_simp; first | done | with_reducible rfl)
      simp only [Act.put, List.setIfInBounds_toArray, List.set_cons_zero, List.set_cons_succ]
      refine wpAnyH_done (by kernel_rfl) ?_ _
      clear hHeld
      rcases HV.out with ⟨h0, rfl⟩ | ⟨h0, rfl⟩
      · clear HV k2 k3 x0 x1
        go_wp2_with (fail)
        refine (HE.out _ _ _ _ 8 z _ HL9.out HX5.out).mono ?_
        rintro e w6 ⟨rfl, hx, hf⟩
        have HX6 := Lib.hid hx
        have HF6 := Lib.hid (HF5.out.trans hf)
        clear hx hf
        go_wp2_with (fail)
        go_end0
        exact retX_of HLL.out rfl HX6.out HF6.out
      · clear HV x1
        go_wp2_with (fail)
        refine wp_region_heldE 9 (S := (fun w' => (w'.cell? ⟨b, 2, none⟩ = some (.slice a2 p.vs.length c2) ∧ w'.cell? ⟨b, 3, none⟩ = some (.slice a3 p.os.length c3)) ∧ w'.cell? ⟨w.heap.size, 0, none⟩ = some (.string tg))) (by kernel_rfl) ?_ (fun hHeld => ?_)
        · exact ⟨⟨k2, k3⟩, x0⟩
        refine rgE_take (v := ?_) 0 12 rfl (by kernel_rfl) (by kernel_rfl) (by kernel_rfl) (by kernel_rfl) (by kernel_rfl) (fun _ _ _ h => h) (by kernel_rfl) ?_ (by assumption) ?_
        rotate_left
        · (intro w' hSw; (try dsimp only at hSw); go_simp; first | done | with_reducible rfl)
        simp only [Act.put, List.setIfInBounds_toArray, List.set_cons_zero, List.set_cons_succ]
        refine rgE_take (v := ?_) 1 12 rfl (by kernel_rfl) (by kernel_rfl) (by kernel_rfl) (by kernel_rfl) (by kernel_rfl) (fun _ _ _ h => h) (by kernel_rfl) ?_ (by assumption) ?_
        rotate_left
        · (intro w' hSw; (try dsimp only at hSw); go_simp; first | done | with_reducible rfl)
        simp only [Act.put, List.setIfInBounds_toArray, List.set_cons_zero, List.set_cons_succ]
        refine rgE_take (v := ?_) 2 12 rfl (by kernel_rfl) (by kernel_rfl) (by kernel_rfl) (by kernel_rfl) (by kernel_rfl) (fun _ _ _ h => h) (by kernel_rfl) ?_ (by assumption) ?_
        rotate_left
        · (intro w' hSw; (try dsimp only at hSw); go_simp; first | done | with_reducible rfl)
        simp only [Act.put, List.setIfInBounds_toArray, List.set_cons_zero, List.set_cons_succ]
        refine rgE_take (v := ?_) 3 12 rfl (by kernel_rfl) (by kernel_rfl) (by kernel_rfl) (by kernel_rfl) (by kernel_rfl) (fun _ _ _ h => h) (by kernel_rfl) ?_ (by assumption) ?_
        rotate_left
        · (intro w' hSw; (try dsimp only at hSw); go_simp; first | done | with_reducible rfl)
        simp only [Act.put, List.setIfInBounds_toArray, List.set_cons_zero, List.set_cons_succ]
        refine rgE_take (v := ?_) 4 12 rfl (by kernel_rfl) (by kernel_rfl) (by kernel_rfl) (by kernel_rfl) (by kernel_rfl) (fun _ _ _ h => h) (by kernel_rfl) ?_ (by assumption) ?_
        rotate_left
        · (intro w' hSw; (try dsimp only at hSw); go_simp; first | done | with_reducible rfl)
        simp only [Act.put, List.setIfInBounds_toArray, List.set_cons_zero, List.set_cons_succ]
        refine rgE_take (v := ?_) 5 12 rfl (by kernel_rfl) (by kernel_rfl) (by kernel_rfl) (by kernel_rfl) (by kernel_rfl) (fun _ _ _ h => h) (by kernel_rfl) ?_ (by assumption) ?_
        rotate_left
        · (intro w' hSw; (try dsimp only at hSw); go_simp; first | done | with_reducible rfl)
        simp only [Act.put, List.setIfInBounds_toArray, List.set_cons_zero, List.set_cons_succ]
        refine rgE_take (v := ?_) 6 12 rfl (by kernel_rfl) (by kernel_rfl) (by kernel_rfl) (by kernel_rfl) (by kernel_rfl) (fun _ _ _ h => h) (by kernel_rfl) ?_ (by assumption) ?_
        rotate_left
        · (intro w' hSw; (try dsimp only at hSw); go_simp; first | done | with_reducible rfl)
        simp only [Act.put, List.setIfInBounds_toArray, List.set_cons_zero, List.set_cons_succ]
        refine rgE_take (v := ?_) 7 12 rfl (by kernel_rfl) (by kernel_rfl) (by kernel_rfl) (by kernel_rfl) (by kernel_rfl) (fun _ _ _ h => h) (by kernel_rfl) ?_ (by assumption) ?_
        rotate_left
        · (intro w' hSw; (try dsimp only at hSw); go_simp; first | done | with_reducible rfl)
        simp only [Act.put, List.setIfInBounds_toArray, List.set_cons_zero, List.set_cons_succ]
        refine rgE_run 8 rfl (by kernel_rfl) (by kernel_rfl) (by decide) (fun K hK => ?_)
        go_simp
        refine (HJ.out _ ((HP.out.o.below HX5.out.bel).below (Below.refl _ _).drew)).mono ?_
        rintro e w6 ⟨rfl, hb6⟩
        have hbs : Below w5.heap.size w5 w6 := below_chain (Below.refl _ _).drew hb6
        have HX6 := Lib.hid (HX5.out.below hbs)
        have HF6 := Lib.hid (HF5.out.trans (Fr.of_below hbs))
        replace k2 := cell_later hbs (by exact k2)
        replace k3 := cell_later hbs (by exact k3)
        replace x0 := cell_later hbs (by exact x0)
        clear hbs hb6
        go_wp2
        clear hHeld
        refine hK.out _ _ (.inr (by exact ⟨⟨k2, k3⟩, x0⟩)) (fun hHeld => ?_)
        clear hK K
        try simp only [Act.put, List.setIfInBounds_toArray, List.set_cons_zero, List.set_cons_succ]
        refine rgE_last rfl (by kernel_rfl) (by kernel_rfl) (by kernel_rfl) (fun K hK => ?_)
        go_simp
        refine (HE.out _ _ _ _ 9 z2 _ HL9.out HX6.out).mono ?_
        rintro e w7 ⟨rfl, hx, hf⟩
        have HX7 := Lib.hid hx
        have HF7 := Lib.hid (HF6.out.trans hf)
        clear hx hf k2 k3 x0
        go_wp2
        clear hHeld
        refine hK.out _ _ ?_
        clear hK K
        try simp only [Act.put, List.setIfInBounds_toArray, List.set_cons_zero, List.set_cons_succ]
        go_wp2_with (fail)
        go_end0
        exact retX_of HLL.out rfl HX7.out HF7.out
end Go.Proofs.YteengjcplmjakaaGreatDoor

/- The program's compiler: newCompiler, compile. Condition: the program is sound; the lengths. -/
namespace Go.Proofs.YteengjcplmjakaaGreatDoor
open Go.RowKit

set_option maxRecDepth 100000 in
theorem c_lengthS (A : Option Addr) (c n : Nat) (w : World) (hn : n ≤ 1048576) : Calls Tryz.prog 88 #[.slice A n c] w fun e w' => e = .returned (.int .i64 n) ∧ w = w' := by
  have hw : IntKind.i64.wrap (n : Int) = n := IntWalk.i64_in _ (by omega)
  go_enter Tryz.func88, Tryz.ntmps88
  go_wp2_with (fail)
  go_ret
  exact ⟨rfl, rfl⟩
set_option maxHeartbeats 2000000 in
set_option maxRecDepth 100000 in
theorem c_newCompiler (p : Prg) (a1 a2 a3 a4 : Option Addr) (c1 c2 c3 c4 : Nat) (w : World) (hs : PgOk p) (hbd : PgB p) (h : PgR w a1 a2 a3 a4 p) :
    Calls Tryz.prog 41 #[pv p a1 a2 a3 a4 c1 c2 c3 c4] w fun e w' => ∃ b ab cb, e = .returned (.pointer (some ⟨b, 0, none⟩)) ∧ XS w w' b p a1 a2 a3 a4 ab c1 c2 c3 c4 cb none 0 [] 0 := by
  have H := Lib.hid h
  have HI := Lib.hid (fun w => c_lengthS a1 c1 p.ins.length w hs.i.1)
  have HV := Lib.hid (fun w => c_lengthS a2 c2 p.vs.length w hs.v.1)
  have HO := Lib.hid (fun w => c_lengthS a3 c3 p.os.length w hs.o.1)
  have HB := Lib.hid (fun w h => c_blocks p a1 a2 a3 a4 c1 c2 c3 c4 w hbd h)
  have B0 := Lib.hid (below_alloc (Below.refl w.heap.size w) (.cells #[.string p.nm, .slice a1 p.ins.length c1, .slice a2 p.vs.length c2, .slice a3 p.os.length c3, .string p.gd, .slice a4 p.ls.length c4] 27))
  have HP : Hid (PB (w.alloc (.cells #[.string p.nm, .slice a1 p.ins.length c1, .slice a2 p.vs.length c2, .slice a3 p.os.length c3, .string p.gd, .slice a4 p.ls.length c4] 27)) w.heap.size p a1 a2 a3 a4 c1 c2 c3 c4) := Lib.hid ⟨by go_simp, by go_simp, by go_simp, by go_simp, by go_simp, by go_simp⟩
  clear hs hbd h
  go_enter Tryz.func41, Tryz.ntmps41
  dsimp only [pv]
  go_upto_region 1 with (fail)
  generalize w.alloc (.cells #[.string p.nm, .slice a1 p.ins.length c1, .slice a2 p.vs.length c2, .slice a3 p.os.length c3, .string p.gd, .slice a4 p.ls.length c4] 27) = W at *
  obtain ⟨k0, k1, k2, k3, k4, k5⟩ := HP.out
  refine wp_region_held_drew (S := (fun w' => w'.cell? ⟨w.heap.size, 0, none⟩ = some (.string p.nm) ∧ w'.cell? ⟨w.heap.size, 1, none⟩ = some (.slice a1 p.ins.length c1) ∧ w'.cell? ⟨w.heap.size, 2, none⟩ = some (.slice a2 p.vs.length c2) ∧ w'.cell? ⟨w.heap.size, 3, none⟩ = some (.slice a3 p.os.length c3) ∧ w'.cell? ⟨w.heap.size, 4, none⟩ = some (.string p.gd) ∧ w'.cell? ⟨w.heap.size, 5, none⟩ = some (.slice a4 p.ls.length c4))) (by kernel_rfl) ?_ (fun hHeld => ?_)
  · exact ⟨k0, k1, k2, k3, k4, k5⟩
  refine rg_take (v := ?_) 0 rfl (by kernel_rfl) (by kernel_rfl) (by kernel_rfl) (fun _ _ _ h => h) (by kernel_rfl) ?_ (by assumption) ?_
  rotate_left
  · (intro w' hSw; (try dsimp only at hSw); go_simp; first | done | with_reducible rfl)
  simp only [Act.put, List.setIfInBounds_toArray, List.set_cons_zero, List.set_cons_succ]
  refine rg_take (v := ?_) 1 rfl (by kernel_rfl) (by kernel_rfl) (by kernel_rfl) (fun _ _ _ h => h) (by kernel_rfl) ?_ (by assumption) ?_
  rotate_left
  · (intro w' hSw; (try dsimp only at hSw); go_simp; first | done | with_reducible rfl)
  simp only [Act.put, List.setIfInBounds_toArray, List.set_cons_zero, List.set_cons_succ]
  refine rg_take (v := ?_) 2 rfl (by kernel_rfl) (by kernel_rfl) (by kernel_rfl) (fun _ _ _ h => h) (by kernel_rfl) ?_ (by assumption) ?_
  rotate_left
  · (intro w' hSw; (try dsimp only at hSw); go_simp; first | done | with_reducible rfl)
  simp only [Act.put, List.setIfInBounds_toArray, List.set_cons_zero, List.set_cons_succ]
  refine rg_take (v := ?_) 4 rfl (by kernel_rfl) (by kernel_rfl) (by kernel_rfl) (fun _ _ _ h => h) (by kernel_rfl) ?_ (by assumption) ?_
  rotate_left
  · (intro w' hSw; (try dsimp only at hSw); go_simp; first | done | with_reducible rfl)
  simp only [Act.put, List.setIfInBounds_toArray, List.set_cons_zero, List.set_cons_succ]
  refine rg_take (v := ?_) 5 rfl (by kernel_rfl) (by kernel_rfl) (by kernel_rfl) (fun _ _ _ h => h) (by kernel_rfl) ?_ (by assumption) ?_
  rotate_left
  · (intro w' hSw; (try dsimp only at hSw); go_simp; first | done | with_reducible rfl)
  simp only [Act.put, List.setIfInBounds_toArray, List.set_cons_zero, List.set_cons_succ]
  refine rg_take (v := ?_) 7 rfl (by kernel_rfl) (by kernel_rfl) (by kernel_rfl) (fun _ _ _ h => h) (by kernel_rfl) ?_ (by assumption) ?_
  rotate_left
  · (intro w' hSw; (try dsimp only at hSw); go_simp; first | done | with_reducible rfl)
  simp only [Act.put, List.setIfInBounds_toArray, List.set_cons_zero, List.set_cons_succ]
  refine rg_take (v := ?_) 8 rfl (by kernel_rfl) (by kernel_rfl) (by kernel_rfl) (fun _ _ _ h => h) (by kernel_rfl) ?_ (by assumption) ?_
  rotate_left
  · (intro w' hSw; (try dsimp only at hSw); go_simp; first | done | with_reducible rfl)
  simp only [Act.put, List.setIfInBounds_toArray, List.set_cons_zero, List.set_cons_succ]
  refine rg_take (v := ?_) 10 rfl (by kernel_rfl) (by kernel_rfl) (by kernel_rfl) (fun _ _ _ h => h) (by kernel_rfl) ?_ (by assumption) ?_
  rotate_left
  · (intro w' hSw; (try dsimp only at hSw); go_simp; first | done | with_reducible rfl)
  simp only [Act.put, List.setIfInBounds_toArray, List.set_cons_zero, List.set_cons_succ]
  refine rg_run 3 rfl (by kernel_rfl) (by kernel_rfl) (fun K hK => ?_)
  go_simp
  refine (HI.out _).mono ?_
  rintro e w1 ⟨rfl, rfl⟩
  go_wp2
  clear hHeld
  refine hK.out _ _ (by exact ⟨k0, k1, k2, k3, k4, k5⟩) (fun hHeld => ?_)
  clear hK K
  try simp only [Act.put, List.setIfInBounds_toArray, List.set_cons_zero, List.set_cons_succ]
  refine rg_run 6 rfl (by kernel_rfl) (by kernel_rfl) (fun K hK => ?_)
  go_simp
  refine (HV.out _).mono ?_
  rintro e w2 ⟨rfl, rfl⟩
  go_wp2
  clear hHeld
  refine hK.out _ _ (by exact ⟨k0, k1, k2, k3, k4, k5⟩) (fun hHeld => ?_)
  clear hK K
  try simp only [Act.put, List.setIfInBounds_toArray, List.set_cons_zero, List.set_cons_succ]
  refine rg_run 9 rfl (by kernel_rfl) (by kernel_rfl) (fun K hK => ?_)
  go_simp
  refine (HO.out _).mono ?_
  rintro e w3 ⟨rfl, rfl⟩
  go_wp2
  clear hHeld
  refine hK.out _ _ (by exact ⟨k0, k1, k2, k3, k4, k5⟩) (fun hHeld => ?_)
  clear hK K
  try simp only [Act.put, List.setIfInBounds_toArray, List.set_cons_zero, List.set_cons_succ]
  refine rg_run 11 rfl (by kernel_rfl) (by kernel_rfl) (fun K hK => ?_)
  go_simp
  refine (HB.out _ ((H.out.below B0.out).below (Below.refl _ _).drew)).mono ?_
  rintro e w4 ⟨A8, c8, rfl, ho, hb⟩
  have hbs : Below W.heap.size W w4 := below_chain (Below.refl _ _).drew hb
  have HB4 := Lib.hid (below_chain B0.out hbs)
  have HO4 := Lib.hid (own_mono ho (show w.heap.size ≤ W.drew.heap.size from B0.out.size))
  replace k0 := cell_later hbs (by exact k0)
  replace k1 := cell_later hbs (by exact k1)
  replace k2 := cell_later hbs (by exact k2)
  replace k3 := cell_later hbs (by exact k3)
  replace k4 := cell_later hbs (by exact k4)
  replace k5 := cell_later hbs (by exact k5)
  clear hb hbs ho
  go_wp2
  clear hHeld
  refine hK.out _ _ (by exact ⟨k0, k1, k2, k3, k4, k5⟩) (fun hHeld => ?_)
  clear hK K
  try simp only [Act.put, List.setIfInBounds_toArray, List.set_cons_zero, List.set_cons_succ]
  refine rg_take (v := ?_) 12 rfl (by kernel_rfl) (by kernel_rfl) (by kernel_rfl) (fun _ _ _ h => h) (by kernel_rfl) ?_ (by assumption) ?_
  rotate_left
  · (intro w' hSw; (try dsimp only at hSw); go_simp; first | done | with_reducible rfl)
  simp only [Act.put, List.setIfInBounds_toArray, List.set_cons_zero, List.set_cons_succ]
  refine rg_take (v := ?_) 13 rfl (by kernel_rfl) (by kernel_rfl) (by kernel_rfl) (fun _ _ _ h => h) (by kernel_rfl) ?_ (by assumption) ?_
  rotate_left
  · (intro w' hSw; (try dsimp only at hSw); go_simp; first | done | with_reducible rfl)
  simp only [Act.put, List.setIfInBounds_toArray, List.set_cons_zero, List.set_cons_succ]
  have hal := below_alloc (Below.refl w4.heap.size w4) (.cells (xCells p a1 a2 a3 a4 A8 c1 c2 c3 c4 c8 none 0 0 0).toArray 82)
  have HXX : Hid (XS w (w4.alloc (.cells (xCells p a1 a2 a3 a4 A8 c1 c2 c3 c4 c8 none 0 0 0).toArray 82)) w4.heap.size p a1 a2 a3 a4 A8 c1 c2 c3 c4 c8 none 0 [] 0) := Lib.hid
    ⟨own_box w4 w.heap.size 82 _ 12 rfl HB4.out.size, World.ownsRow_nil _ _ _ _, own_below HO4.out hal, below_chain HB4.out hal⟩
  replace k0 := cell_later hal (by exact k0)
  replace k1 := cell_later hal (by exact k1)
  replace k2 := cell_later hal (by exact k2)
  replace k3 := cell_later hal (by exact k3)
  replace k4 := cell_later hal (by exact k4)
  replace k5 := cell_later hal (by exact k5)
  clear hal
  unfold xCells at *
  refine rg_run 14 rfl (by kernel_rfl) (by kernel_rfl) (fun K hK => ?_)
  go_simp
  go_wp2
  clear hHeld
  refine hK.out _ _ (by exact ⟨k0, k1, k2, k3, k4, k5⟩) (fun hHeld => ?_)
  clear hK K
  try simp only [Act.put, List.setIfInBounds_toArray, List.set_cons_zero, List.set_cons_succ]
  refine rg_take (v := ?_) 15 rfl (by kernel_rfl) (by kernel_rfl) (by kernel_rfl) (fun _ _ _ h => h) (by kernel_rfl) ?_ (by assumption) ?_
  rotate_left
  · (intro w' hSw; (try dsimp only at hSw); go_simp; first | done | with_reducible rfl)
  simp only [Act.put, List.setIfInBounds_toArray, List.set_cons_zero, List.set_cons_succ]
  refine wpAnyH_done (by kernel_rfl) ?_ _
  clear hHeld
  go_wp2_with (fail)
  go_ret
  exact ⟨_, _, _, rfl, HXX.out⟩
set_option maxHeartbeats 2000000 in
set_option maxRecDepth 100000 in
theorem c_compile (p : Prg) (a1 a2 a3 a4 : Option Addr) (c1 c2 c3 c4 : Nat) (w : World) (hs : PgOk p) (hd : Snd p) (h : PgR w a1 a2 a3 a4 p) :
    Calls Tryz.prog 59 #[pv p a1 a2 a3 a4 c1 c2 c3 c4] w (RetCd (cmp p) w) := by
  have H := Lib.hid h
  have HD := Lib.hid hd
  have HNC := Lib.hid (fun w h => c_newCompiler p a1 a2 a3 a4 c1 c2 c3 c4 w hs hd.b h)
  have B0 := Lib.hid (below_alloc (below_alloc (Below.refl w.heap.size w) (.cells #[.string p.nm, .slice a1 p.ins.length c1, .slice a2 p.vs.length c2, .slice a3 p.os.length c3, .string p.gd, .slice a4 p.ls.length c4] 27)) (.cells #[.int .i64 0, .int .i64 0, .int .i64 0, .slice none 0 0, .slice none 0 0] 35))
  have HP : Hid (PB ((w.alloc (.cells #[.string p.nm, .slice a1 p.ins.length c1, .slice a2 p.vs.length c2, .slice a3 p.os.length c3, .string p.gd, .slice a4 p.ls.length c4] 27)).alloc (.cells #[.int .i64 0, .int .i64 0, .int .i64 0, .slice none 0 0, .slice none 0 0] 35)) w.heap.size p a1 a2 a3 a4 c1 c2 c3 c4) := Lib.hid ⟨by go_simp, by go_simp, by go_simp, by go_simp, by go_simp, by go_simp⟩
  have HX : Hid (CRB ((w.alloc (.cells #[.string p.nm, .slice a1 p.ins.length c1, .slice a2 p.vs.length c2, .slice a3 p.os.length c3, .string p.gd, .slice a4 p.ls.length c4] 27)).alloc (.cells #[.int .i64 0, .int .i64 0, .int .i64 0, .slice none 0 0, .slice none 0 0] 35)) (w.heap.size + 1)) := Lib.hid ⟨⟨by go_simp, by go_simp, by go_simp, by go_simp, by go_simp⟩, by go_simp, by go_simp, by go_simp, by go_simp, by go_simp⟩
  have bl := hd.b.l
  clear hd h
  go_enter Tryz.func59, Tryz.ntmps59
  dsimp only [pv]
  go_upto_region 1 with (fail)
  generalize (w.alloc (.cells #[.string p.nm, .slice a1 p.ins.length c1, .slice a2 p.vs.length c2, .slice a3 p.os.length c3, .string p.gd, .slice a4 p.ls.length c4] 27)).alloc (.cells #[.int .i64 0, .int .i64 0, .int .i64 0, .slice none 0 0, .slice none 0 0] 35) = W at *
  obtain ⟨k0, k1, k2, k3, k4, k5⟩ := HP.out
  have HPW := Lib.hid (H.out.below B0.out)
  have HS := Lib.hid hs
  have HRET : Hid (∀ A1 q1 A2 n2 q2 w', n2 = (cmp p).ss.length → w'.ownsRow w.heap.size 60 3 (.slice A1 (blk p).length q1) (blk p).length (tmCells (blk p)) → w'.ownsRow w.heap.size 88 2 (.slice A2 n2 q2) n2 (insCells (cmp p).ss) → Below w.heap.size w w' → RetCd (cmp p) w (.returned (.agg #[.int .i64 p.ins.length, .int .i64 p.vs.length, .int .i64 p.os.length, .slice A1 (blk p).length q1, .slice A2 n2 q2])) w') := Lib.hid (fun A1 q1 A2 n2 q2 w' e h1 h2 h3 => by subst e; exact ⟨A1, q1, A2, q2, rfl, h1, h2, h3⟩)
  have HSS : Hid ((cmp p).ss = csP p 0 p.ls ++ gdI p) := Lib.hid rfl
  clear hs
  go_wp2_with (fail)
  refine (HNC.out _ HPW.out).mono ?_
  rintro e w1 ⟨b, ab, cb, rfl, hx⟩
  have HX1 := Lib.hid hx
  clear hx
  replace k0 := cell_later HX1.out.bel (by exact k0)
  replace k1 := cell_later HX1.out.bel (by exact k1)
  replace k2 := cell_later HX1.out.bel (by exact k2)
  replace k3 := cell_later HX1.out.bel (by exact k3)
  replace k4 := cell_later HX1.out.bel (by exact k4)
  replace k5 := cell_later HX1.out.bel (by exact k5)
  go_wp2_with (fail)
  clear k0 k1 k2 k3 k4 k5
  go_loopw [5, 11] (fun _ i wr => ∃ k : Nat, k ≤ p.ls.length ∧ i = .int .i64 k ∧ Hid (∃ A c, XS W wr b p a1 a2 a3 a4 ab c1 c2 c3 c4 cb A c (csP p 0 (p.ls.take k)) (nbL (p.ls.take k)))) (fun _ i _ => p.ls.length - (intOf i).toNat)
  case atStart => exact ⟨0, Nat.zero_le _, rfl, Lib.hid ⟨none, 0, HX1.out⟩⟩
  case round =>
    obtain ⟨k, hk, rfl, hx⟩ := hrel
    clear HX1
    obtain ⟨A1, cc1, hx1⟩ := hx.out
    have HX1 := Lib.hid hx1
    clear hx hx1
    have hnb := nbL_le HD.out.b k
    have hlen := csP_len p (p.ls.take k) 0 (fun l hl => HD.out.b.t l (List.mem_of_mem_take hl))
    rw [List.length_take] at hlen
    by_cases hlt : k < p.ls.length
    · obtain ⟨⟨tg, ts⟩, hz⟩ : ∃ z, p.ls[k]? = some z := ⟨_, List.getElem?_eq_getElem hlt⟩
      obtain ⟨b2, o2, la, lc, rfl, hblt, g0w, g1w, hrow⟩ := HPW.out.l.at hz
      dsimp only at g0w g1w hrow
      have g0 := cell_later HX1.out.bel g0w
      have g1 := cell_later HX1.out.bel g1w
      have htl := HD.out.b.t _ (List.mem_of_getElem? hz)
      dsimp only at htl
      have hal := below_alloc (Below.refl wr.heap.size wr) (.cells #[.string tg, .slice la ts.length lc] 80)
      have HX2 := Lib.hid (HX1.out.below hal)
      have hl2 : (csP p 0 (p.ls.take k)).length ≤ 2000 := by omega
      have HLC := Lib.hid (fun w' hx => c_line W b p a1 a2 a3 _ ab c1 c2 c3 c4 cb A1 cc1 (csP p 0 (p.ls.take k)) (nbL (p.ls.take k)) tg ts la lc w' HS.out (HD.out.k _ (List.mem_of_getElem? hz)) htl hl2 (by omega) HPW.out hrow hx)
      have HST := Lib.hid (csP_step hz)
      have HNS := Lib.hid (nbL_step hz)
      have hk0 : (0 : Int) ≤ (k : Int) := by omega
      have hk1 : (k : Int) < p.ls.length := by omega
      clear hz hal g0w g1w hrow hblt hl2 hlen hnb
      go_wp2_with (fail)
      refine (HLC.out _ HX2.out).mono ?_
      rintro e w3 ⟨rfl, hx, hf⟩
      have HX3 := Lib.hid hx
      clear hx hf g0 g1
      go_wp2_with (fail)
      go_roundw
      case rel => exact ⟨k + 1, by omega, by go_num, Lib.hid (by rw [HST.out, HNS.out]; exact HX3.out)⟩
      case measure => simp [intOf]; omega
    · obtain rfl : k = p.ls.length := by omega
      rw [List.take_length] at HX1
      have hlen2 : (csP p 0 p.ls).length ≤ 3000 := by rw [List.take_length] at hlen; omega
      have HLD := Lib.hid (fun w' hx => c_load W b p a1 a2 a3 a4 ab c1 c2 c3 c4 cb A1 cc1 (csP p 0 p.ls) (nbL p.ls) p.gd 10 11 w' HS.out hlen2 HPW.out hx)
      obtain ⟨k0, k1, k2, k3, k4, k5⟩ := HP.out.below HX1.out.bel
      have hrb := World.block_lt_of_cell? _ _ HX.out.1.1
      dsimp only at hrb
      generalize csP p 0 p.ls = S0 at *
      generalize nbL p.ls = nb0 at *
      clear hlen hnb hlen2 hlt
      rcases hg : p.gd.toList.isEmpty with _ | _
      · have HGI : Hid (gdI p = [nmI p p.gd 10 11]) := Lib.hid (by unfold gdI; rw [hg]; rfl)
        rw [HGI.out] at HSS
        go_wp2_with (fail)
        refine (HLD.out _ HX1.out).mono ?_
        rintro e w3 ⟨rfl, ⟨A3, cc3, hx⟩, hf⟩
        have HX3 := Lib.hid hx
        clear hx hf k0 k1 k2 k3 k4 k5 hg HX1 HLD
        obtain ⟨_, ⟨k6, k7, k8, k9, k10⟩, _, _, hb1, hb2⟩ := HX3.out.cells
        obtain ⟨⟨x0, x1, x2, x3, x4⟩, f0, f1, f2, f3, f4⟩ := HX.out.below HX3.out.bel
        have HLN : Hid ((S0 ++ [nmI p p.gd 10 11]).length = (cmp p).ss.length) := Lib.hid (by rw [HSS.out])
        rw [HSS.out] at HRET
        generalize nmI p p.gd 10 11 = I at *
        have hxz := World.block_lt_of_cell? _ _ x0
        generalize hln : (S0 ++ [I]).length = n9 at *
        have HLNN := Lib.hid hln
        clear hln
        go_wp2_with (fail)
        refine bodyPost_ret (v := .agg #[.int .i64 p.ins.length, .int .i64 p.vs.length, .int .i64 p.os.length, .slice ab (blk p).length cb, .slice A3 n9 cc3]) (by simp [results, Tryz.results59, go_sem, x0, x1, x2, x3, x4]) rfl (by
          have h1 := HX3.out.blk
          have h2 := HX3.out.row
          rw [HLNN.out] at h2
          refine HRET.out _ _ _ _ _ _ rfl ?_ ?_ ?_
          · exact own_mono (own_set5 h1 hrb _ _ _ _ _) B0.out.size
          · exact own_mono (own_set5 h2 hrb _ _ _ _ _) B0.out.size
          · exact below_set5 (below_chain B0.out HX3.out.bel) (by omega) _ _ _ _ _)
      · have HGI : Hid (gdI p = []) := Lib.hid (by unfold gdI; rw [hg]; rfl)
        rw [HGI.out, List.append_nil] at HSS
        clear HLD
        obtain ⟨_, ⟨k6, k7, k8, k9, k10⟩, _, _, hb1, hb2⟩ := HX1.out.cells
        obtain ⟨⟨x0, x1, x2, x3, x4⟩, f0, f1, f2, f3, f4⟩ := HX.out.below HX1.out.bel
        rw [HSS.out] at HRET
        have hxz := World.block_lt_of_cell? _ _ x0
        generalize hln : S0.length = n9 at *
        have HLNN := Lib.hid hln
        clear hln
        go_wp2_with (fail)
        refine bodyPost_ret (v := .agg #[.int .i64 p.ins.length, .int .i64 p.vs.length, .int .i64 p.os.length, .slice ab (blk p).length cb, .slice A1 n9 cc1]) (by simp [results, Tryz.results59, go_sem, x0, x1, x2, x3, x4]) rfl (by
          have h1 := HX1.out.blk
          have h2 := HX1.out.row
          rw [HLNN.out] at h2
          refine HRET.out _ _ _ _ _ _ rfl ?_ ?_ ?_
          · exact own_mono (own_set5 h1 hrb _ _ _ _ _) B0.out.size
          · exact own_mono (own_set5 h2 hrb _ _ _ _ _) B0.out.size
          · exact below_set5 (below_chain B0.out HX1.out.bel) (by omega) _ _ _ _ _)
end Go.Proofs.YteengjcplmjakaaGreatDoor

/- The program's CompileProgram, of a sound program. Condition: the lengths; the keywords lie there. -/
namespace Go.Proofs.YteengjcplmjakaaGreatDoor
open Go.RowKit

/-- A code of the call's own, and no fault. -/
def RetCd0 (c : Cd) (w : World) (e : Ending) (w' : World) : Prop :=
  ∃ A1 c1 A2 c2, e = .returned (.tuple #[cv c A1 A2 c1 c2, .int .i64 0]) ∧ CdR w' A1 A2 c ∧ Below w.heap.size w w'
set_option maxHeartbeats 1000000 in
set_option maxRecDepth 100000 in
theorem c_CompileProgram (p : Prg) (a1 a2 a3 a4 : Option Addr) (c1 c2 c3 c4 : Nat) (w : World) (hs : PgOk p) (hz : PgZ a1 a2 a3 c1 c2 c3) (h : PgR w a1 a2 a3 a4 p) (hk : KwR w) (hso : (wrB p && fltB p) = true) :
    Calls Tryz.prog 18 #[pv p a1 a2 a3 a4 c1 c2 c3 c4] w (RetCd0 (cmp p) w) := by
  have HSO := Lib.hid (fun w h hk => c_IsSound p a1 a2 a3 a4 c1 c2 c3 c4 w hs hz h hk)
  have HK := Lib.hid hk
  have B0 := Lib.hid (below_alloc (below_alloc (Below.refl w.heap.size w) (.cells #[.string p.nm, .slice a1 p.ins.length c1, .slice a2 p.vs.length c2, .slice a3 p.os.length c3, .string p.gd, .slice a4 p.ls.length c4] 27)) (.cells #[.int .i64 0, .int .i64 0, .int .i64 0, .slice none 0 0, .slice none 0 0] 35))
  have HP : Hid (PB ((w.alloc (.cells #[.string p.nm, .slice a1 p.ins.length c1, .slice a2 p.vs.length c2, .slice a3 p.os.length c3, .string p.gd, .slice a4 p.ls.length c4] 27)).alloc (.cells #[.int .i64 0, .int .i64 0, .int .i64 0, .slice none 0 0, .slice none 0 0] 35)) w.heap.size p a1 a2 a3 a4 c1 c2 c3 c4) := Lib.hid ⟨by go_simp, by go_simp, by go_simp, by go_simp, by go_simp, by go_simp⟩
  have HCO := Lib.hid (fun w h => c_compile p a1 a2 a3 a4 c1 c2 c3 c4 w hs (snd_of hso) h)
  have H := Lib.hid h
  have HX : Hid (CRB ((w.alloc (.cells #[.string p.nm, .slice a1 p.ins.length c1, .slice a2 p.vs.length c2, .slice a3 p.os.length c3, .string p.gd, .slice a4 p.ls.length c4] 27)).alloc (.cells #[.int .i64 0, .int .i64 0, .int .i64 0, .slice none 0 0, .slice none 0 0] 35)) (w.heap.size + 1)) := Lib.hid ⟨⟨by go_simp, by go_simp, by go_simp, by go_simp, by go_simp⟩, by go_simp, by go_simp, by go_simp, by go_simp, by go_simp⟩
  have HWS : Hid (w.heap.size + 1 < ((w.alloc (.cells #[.string p.nm, .slice a1 p.ins.length c1, .slice a2 p.vs.length c2, .slice a3 p.os.length c3, .string p.gd, .slice a4 p.ls.length c4] 27)).alloc (.cells #[.int .i64 0, .int .i64 0, .int .i64 0, .slice none 0 0, .slice none 0 0] 35)).heap.size) := Lib.hid (by simp)
  rw [hso] at HSO
  generalize cmp p = C at *
  clear hs hz h hk hso
  dsimp only [pv] at *
  go_enter Tryz.func18, Tryz.ntmps18
  go_upto_region 1 with (fail)
  generalize ((w.alloc (.cells #[.string p.nm, .slice a1 p.ins.length c1, .slice a2 p.vs.length c2, .slice a3 p.os.length c3, .string p.gd, .slice a4 p.ls.length c4] 27)).alloc (.cells #[.int .i64 0, .int .i64 0, .int .i64 0, .slice none 0 0, .slice none 0 0] 35)) = W at *
  obtain ⟨k0, k1, k2, k3, k4, k5⟩ := HP.out
  go_wp2_with (fail)
  refine (HSO.out _ (H.out.below B0.out) (HK.out.below B0.out)).mono ?_
  rintro e w1 ⟨rfl, hb⟩
  have B1 := Lib.hid (below_chain B0.out hb)
  have BW1 := Lib.hid hb
  replace k0 := cell_later hb (by exact k0)
  replace k1 := cell_later hb (by exact k1)
  replace k2 := cell_later hb (by exact k2)
  replace k3 := cell_later hb (by exact k3)
  replace k4 := cell_later hb (by exact k4)
  replace k5 := cell_later hb (by exact k5)
  clear hb HSO
  go_wp2_with (fail)
  refine (HCO.out _ (H.out.below B1.out)).mono ?_
  rintro e w2 ⟨A1, q1, A2, q2, rfl, hob, hos, hb⟩
  have B2 := Lib.hid (below_chain B1.out hb)
  have BW := Lib.hid (below_chain BW1.out hb)
  have HOB := Lib.hid hob
  have HOS := Lib.hid hos
  have hrb : w.heap.size + 1 < w1.heap.size := Nat.lt_of_lt_of_le HWS.out BW1.out.size
  clear hob hos hb HCO k0 k1 k2 k3 k4 k5
  obtain ⟨⟨x0, x1, x2, x3, x4⟩, f0, f1, f2, f3, f4⟩ := HX.out.below BW.out
  have hxz := World.block_lt_of_cell? _ _ x0
  dsimp only [cv]
  go_wp2_with (fail)
  refine bodyPost_ret (v := .tuple #[.agg #[.int .i64 C.i, .int .i64 C.v, .int .i64 C.o, .slice A1 C.bs.length q1, .slice A2 C.ss.length q2], .int .i64 0]) (by simp [results, Tryz.results18, go_sem, x0, x1, x2, x3, x4]) rfl (by
    have h1 := own_set5 HOB.out hrb (.int .i64 C.i) (.int .i64 C.v) (.int .i64 C.o) (.slice A1 C.bs.length q1) (.slice A2 C.ss.length q2)
    have h2 := own_set5 HOS.out hrb (.int .i64 C.i) (.int .i64 C.v) (.int .i64 C.o) (.slice A1 C.bs.length q1) (.slice A2 C.ss.length q2)
    exact ⟨A1, q1, A2, q2, rfl, ⟨Rd.own h1, Rd.own h2⟩, below_set5 B2.out (by omega) _ _ _ _ _⟩)
end Go.Proofs.YteengjcplmjakaaGreatDoor

/- The time of some steps of a code, on the program's side. Condition: the code's head, its blocks; the steps fit. -/
namespace Go.Proofs.YteengjcplmjakaaGreatDoor
open Go.RowKit

theorem sumT_take {c : Cd} {l : List Ins} {k : Nat} {x : Ins} (hx : l[k]? = some x) : sumT c (l.take (k + 1)) = sumT c (l.take k) + timI c x := by
  rw [List.take_add_one, hx]
  exact sumT_app c _ x
theorem sumT_bd {c : Cd} (hd : Hd c) : ∀ l : List Ins, 0 ≤ sumT c l ∧ sumT c l ≤ 22 * l.length
  | [] => by simp [sumT]
  | x :: t => by
    have h1 := sumT_bd hd t
    have h2 := tim_bd hd x
    show 0 ≤ timI c x + sumT c t ∧ timI c x + sumT c t ≤ 22 * ((t.length + 1 : Nat) : Int)
    omega
set_option maxHeartbeats 2000000 in
set_option maxRecDepth 100000 in
theorem c_timeG (c : Cd) (l : List Ins) (ab as_ al : Option Addr) (cb cs cl n : Nat) (w : World) (hd : Hd c) (hbl : ∀ t ∈ c.bs, blkB t = true) (hn : l.length = n) (hn2 : n ≤ 3000) (hf : ∀ x ∈ l, fitB c x = true) (h : CdR w ab as_ c) (hl : Rd w al (insCells l)) :
    Calls Tryz.prog 43 #[cv c ab as_ cb cs, .slice al n cl] w fun e w' => e = .returned (.int .i64 (sumT c l)) ∧ Below w.heap.size w w' := by
  have HD := Lib.hid hd
  have HC := Lib.hid h
  have HBL := Lib.hid hbl
  have HFT := Lib.hid hf
  have HLR := Lib.hid hl
  have HN := Lib.hid hn
  have HV : Hid (sumT c l = sumT c (l.take n)) := Lib.hid (by rw [List.take_of_length_le (by omega)])
  have HAB : Hid (Below w.heap.size w (w.alloc (.cells #[.int .i64 c.i, .int .i64 c.v, .int .i64 c.o, .slice ab c.bs.length cb, .slice as_ c.ss.length cs] 35))) := Lib.hid (below_alloc (Below.refl _ _) _)
  have HA : Hid (CB (w.alloc (.cells #[.int .i64 c.i, .int .i64 c.v, .int .i64 c.o, .slice ab c.bs.length cb, .slice as_ c.ss.length cs] 35)) w.heap.size c ab as_ cb cs) := Lib.hid ⟨by go_simp, by go_simp, by go_simp, by go_simp, by go_simp⟩
  generalize sumT c l = R at *
  clear hd h hbl hf hl hn
  go_enter Tryz.func43, Tryz.ntmps43
  dsimp only [cv]
  go_wp2_with (fail)
  generalize w.alloc (.cells #[.int .i64 c.i, .int .i64 c.v, .int .i64 c.o, .slice ab c.bs.length cb, .slice as_ c.ss.length cs] 35) = W at *
  go_loopw [5, 7, 10] (fun t _ i wr => ∃ k : Nat, k ≤ n ∧ i = .int .i64 k ∧ t = .int .i64 (sumT c (l.take k)) ∧ Hid (Below w.heap.size w wr) ∧ Hid (CB wr w.heap.size c ab as_ cb cs)) (fun _ _ i _ => n - (intOf i).toNat)
  case atStart => exact ⟨0, Nat.zero_le _, rfl, rfl, HAB, HA⟩
  case round =>
    obtain ⟨k, hk, rfl, rfl, hb, ha⟩ := hrel
    clear HAB HA
    by_cases hlt : k < n
    · obtain ⟨x, hx⟩ : ∃ x, l[k]? = some x := ⟨_, List.getElem?_eq_getElem (by have := HN.out; omega)⟩
      have HX := Lib.hid (sumT_take (c := c) hx)
      have hsb := sumT_bd HD.out (l.take k)
      have hlk : (l.take k).length ≤ n := by rw [List.length_take]; have := HN.out; omega
      have htb := tim_bd HD.out x
      have HF1 := Lib.hid (HFT.out x (List.mem_of_getElem? hx))
      obtain ⟨b1, o1, rfl, _, g0, g1⟩ := (HLR.out.below hb.out).ins hx
      have hk0 : (0 : Int) ≤ (k : Int) := by omega
      have hk1 : (k : Int) < n := by omega
      have HX0 : Hid (w.heap.size ≤ wr.heap.size ∧ (wr.alloc (.cells #[.int .i64 x.o, .int .i64 x.a] 88)).cell? ⟨wr.heap.size, 0, none⟩ = some (.int .i64 x.o) ∧ (wr.alloc (.cells #[.int .i64 x.o, .int .i64 x.a] 88)).cell? ⟨wr.heap.size, 1, none⟩ = some (.int .i64 x.a)) := Lib.hid ⟨hb.out.size, by go_simp, by go_simp⟩
      have HBa := Lib.hid (below_alloc (Below.refl wr.heap.size wr) (.cells #[.int .i64 x.o, .int .i64 x.a] 88))
      clear hx
      generalize sumT c (l.take k) = S at *
      generalize (l.take k).length = lk at *
      go_upto_region 5 with (fail)
      generalize wr.alloc (.cells #[.int .i64 x.o, .int .i64 x.a] 88) = W1 at *
      have HA1 := Lib.hid (ha.out.below HBa.out)
      have HB1 := Lib.hid (below_chain hb.out HBa.out)
      clear ha hb HBa g0 g1
      obtain ⟨a0, a1, a2, a3, a4⟩ := HA1.out
      obtain ⟨_, g0, g1⟩ := HX0.out
      generalize wr.heap.size = bx at *
      have hw : IntKind.i64.wrap (S + timI c x) = S + timI c x := IntWalk.i64_in _ (by omega)
      go_wp2_with (fail)
      refine (c_timeOf c ab as_ cb cs x _ HD.out HBL.out HF1.out (HC.out.below HB1.out)).mono ?_
      rintro e w2 ⟨rfl, hb2⟩
      have HA2 := Lib.hid (HA1.out.below hb2)
      have HB2 := Lib.hid (below_chain HB1.out hb2)
      clear a0 a1 a2 a3 a4 g0 g1 hb2 HA1 HB1 HX0
      go_wp2_with (fail)
      go_roundw
      case rel => exact ⟨k + 1, by omega, by go_num, by rw [HX.out], HB2, HA2⟩
      case measure => simp [intOf]; omega
    · obtain rfl : k = n := by omega
      go_wp2_with (fail)
      go_ret
      exact ⟨by rw [HV.out]; rfl, hb.out⟩
end Go.Proofs.YteengjcplmjakaaGreatDoor
