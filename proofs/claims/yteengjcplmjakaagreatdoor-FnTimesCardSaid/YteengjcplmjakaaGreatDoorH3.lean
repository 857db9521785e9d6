/- Contracts and helpers (joined texts, part 3). The conditions stand at each theorem. -/
import Derived.Test.YteengjcplmjakaaGreatDoorH2
import Derived.Test.YteengjcplmjakaaGreatDoorPGb
/- Draws of programs, also of those that are not written (printed by DnQ.py). Condition: a source at hand. -/
namespace Go.Proofs.YteengjcplmjakaaGreatDoor
open Go.RowKit

theorem lid_set {i : Nat} (hi : i < 2) (u : Value) (d' : LiD) : ∀ (ds : List LiD) (k : Nat) (d : LiD), ds[k]? = some d → d.cells.set i u = d'.cells → (lidCells ds).set (k * 2 + i) u = lidCells (ds.set k d')
  | [], k, d, h, _ => by simp at h
  | a :: ds, 0, d, h, e => by
    simp only [List.getElem?_cons_zero, Option.some.injEq] at h
    subst h
    show (a.cells ++ lidCells ds).set (0 * 2 + i) u = d'.cells ++ lidCells ds
    rw [Nat.zero_mul, Nat.zero_add, List.set_append_left _ _ (by show i < 2; exact hi), e]
  | a :: ds, k + 1, d, h, e => by
    simp only [List.getElem?_cons_succ] at h
    have ih := lid_set hi u d' ds k d h e
    show (a.cells ++ lidCells ds).set ((k + 1) * 2 + i) u = a.cells ++ lidCells (ds.set k d')
    rw [List.set_append_right _ _ (by show 2 ≤ (k + 1) * 2 + i; omega), ← ih]
    congr 2
    show (k + 1) * 2 + i - 2 = _
    omega
theorem own_nil {w : World} {base : Nat} {e : TypeId} {s : Nat} : w.ownsRow base e s (.slice none 0 0) 0 [] := ⟨by simp, .inl ⟨rfl, rfl⟩⟩
theorem wpList_push_st2 (w : World) {ops : Array Oper} {rest : List Oper} {o : Oper} {a : Act} {Q : Exit → Act → World → Prop} (hgd : o.guard = none) (s x : Operand)
    (ho : o.op = .call { callee := .builtin .append, args := #[s, x], argTypes := #[24, 24] })
    (base : Nat) (v : Value) (n : Nat) (l : List ByteArray) (t : ByteArray) (g c : Nat) (hs : a.eval s = v) (hown : w.ownsRow base 9 1 v n (sts l))
    (hx : a.eval x = .slice (some ⟨g, 0, none⟩) 1 c) (h0 : w.cell? ⟨g, 0, none⟩ = some (.string t)) (hn : n ≤ 1048577) (hbase : base ≤ w.heap.size)
    (h : ∀ v' w', w'.ownsRow base 9 1 v' (n + 1) (sts (l ++ [t])) → w.grownBy w' v.ownBlock → (v'.ownBlock = v.ownBlock ∨ v'.ownBlock = some w.heap.size) → wpList Tryz.prog ops Q rest (a.put o.dst v') w') : wpList Tryz.prog ops Q (o :: rest) a w := by
  obtain ⟨i0, hi, hz0, hz1, hz2⟩ := info_parts info_string
  refine wpList_push w hgd s x 24 ho base 9 i0 _ 1 16 Tryz.underlying24 hi hz0 hz1 hz2 rfl (by decide) v n (sts l) hs hown ⟨g, 0, none⟩ c [.string t] hx rfl ?_ ?_ (by unfold maxLen; omega) (by omega) hbase ?_
  · intro j u hu
    match j, hu with
    | 0, hu => simp only [List.getElem?_cons_zero, Option.some.injEq] at hu; rw [← hu]; simpa [Addr.add] using h0
  · intro u hu
    simp only [List.mem_singleton] at hu
    subst hu; rfl
  · intro v' w' hown1 hgrow _ hbl
    refine h v' w' ?_ hgrow hbl
    have e : sts (l ++ [t]) = sts l ++ [.string t] := by simp [sts]
    rw [e]
    exact hown1
/-- A row of lines written: the rest stays. -/
theorem PRows.put {w w' : World} {base g cc : Nat} {a1 a2 a3 : Option Addr} {c1 c2 c3 n1 n2 n3 n4 : Nat} {ins vs os : List ByteArray} {ds : List LiD} (h : PRows w base a1 a2 a3 (some ⟨g, 0, none⟩) c1 c2 c3 cc n1 n2 n3 n4 ins vs os ds) (hg : w.grownBy w' (some g)) {A : Option Addr} {c n : Nat} {ds' : List LiD} (hn : w'.ownsRow base 80 2 (.slice A n c) n (lidCells ds')) (hd : ∀ d ∈ ds', NestT w base d) : PRows w' base a1 a2 a3 A c1 c2 c3 c n1 n2 n3 n ins vs os ds' :=
  ⟨own_keep h.i h.l (by decide) hg, own_keep h.v h.l (by decide) hg, own_keep h.o h.l (by decide) hg, hn, fun d hd2 => own_keep (hd d hd2) h.l (by decide) hg⟩
/-- A list of strings grown: the rest stays. -/
theorem PRows.grow {w w' : World} {base : Nat} {a2 a3 a4 A : Option Addr} {c n c2 c3 c4 n2 n3 n4 : Nat} {vs os L : List ByteArray} {ds : List LiD} (h : PRows w base none a2 a3 a4 0 c2 c3 c4 0 n2 n3 n4 [] vs os ds) (ho : w.ownsRow base 9 1 (.slice A n c) n (sts L)) (hg : w.grownBy w' (Value.slice A n c).ownBlock) (hs : SepI A a2 a3) : PRows w' base none a2 a3 a4 0 c2 c3 c4 0 n2 n3 n4 [] vs os ds :=
  ⟨own_nil, kept_sep h.v hg (fun b hb e => (hs b ((ob _ _ _).symm.trans hb)).1 ((ob _ _ _).symm.trans e)), kept_sep h.o hg (fun b hb e => (hs b ((ob _ _ _).symm.trans hb)).2 ((ob _ _ _).symm.trans e)), own_keep h.l ho (by decide) hg, fun d hd => own_keep (h.d d hd) ho (by decide) hg⟩
set_option maxHeartbeats 8000000 in
set_option maxRecDepth 100000 in
theorem c_l13DrawAny (B : Nat) (w : World) (h : Src w B) :
    Calls Tryz.prog 85 #[.pointer (some ⟨B, 0, none⟩)] w (ProgP (fun _ _ _ _ => True) B w) := by
  have hBl := h.lt
  have HS := Lib.hid (DW.start h)
  clear h
  have HX0 : Hid (PBox (w.alloc (.cells #[.string ⟨#[]⟩, .slice none 0 0, .slice none 0 0, .slice none 0 0, .string ⟨#[]⟩, .slice none 0 0] 27)) w.heap.size w.heap.size [.string ⟨#[]⟩, .slice none 0 0, .slice none 0 0, .slice none 0 0, .string ⟨#[]⟩, .slice none 0 0]) := Lib.hid (own_box w w.heap.size 27 [.string ⟨#[]⟩, .slice none 0 0, .slice none 0 0, .slice none 0 0, .string ⟨#[]⟩, .slice none 0 0] 6 rfl (Nat.le_refl _))
  have HS0 := Lib.hid (HS.out.alloc hBl (.cells #[.string ⟨#[]⟩, .slice none 0 0, .slice none 0 0, .slice none 0 0, .string ⟨#[]⟩, .slice none 0 0] 27))
  go_enter Tryz.func85, Tryz.ntmps85
  go_wp2_with (fail)
  refine (c_l13Draw B _ HS0.out.s).mono ?_
  rintro e w2 ⟨⟨nm, ins, vs, os, gd, ls⟩, a1, a2, a3, a4, c1, c2, c3, c4, ds, rfl, ho, hok, hF, hd2⟩
  have HZ := Lib.hid (hok.sizes ho.e)
  have HSEP := Lib.hid hF.1
  have hFv : vs.length ≤ 3 := hF.2.1.2.1
  have hF1 : 1 ≤ ls.length := hF.2.2.1
  have hF6 : ls.length ≤ 6 := hF.2.2.2.1
  have HX2 : Hid (PBox _ _ _ _) := Lib.hid (hd2.own2 HX0.out (fun q hq e => by simp only [Value.ownBlock, Option.some.injEq] at hq; omega))
  have HD2 := Lib.hid (HS0.out.then_ hd2)
  have HR2 : Hid (PRows w2 w.heap.size a1 a2 a3 a4 c1 c2 c3 c4 ins.length vs.length os.length ls.length ins vs os ds) := Lib.hid (ho.rows.mono (by simp))
  have hsz2 : w.heap.size < w2.heap.size := by have := hd2.g.size; simp at this; omega
  dsimp only [pv] at HZ ⊢
  clear ho hok hF hd2 HX0 HS0
  generalize ins.length = n1 at *
  generalize vs.length = n2 at *
  generalize os.length = n3 at *
  generalize ls.length = n4 at *
  have BA := below_alloc (Below.refl w2.heap.size w2) (.cells #[.string nm, .slice a1 n1 c1, .slice a2 n2 c2, .slice a3 n3 c3, .string gd, .slice a4 n4 c4] 27)
  have HR3 := Lib.hid (HR2.out.below BA)
  have HP3 : Hid (PBox (w2.alloc (.cells #[.string nm, .slice a1 n1 c1, .slice a2 n2 c2, .slice a3 n3 c3, .string gd, .slice a4 n4 c4] 27)) w.heap.size w2.heap.size [.string nm, .slice a1 n1 c1, .slice a2 n2 c2, .slice a3 n3 c3, .string gd, .slice a4 n4 c4]) := Lib.hid (own_box w2 w.heap.size 27 [.string nm, .slice a1 n1 c1, .slice a2 n2 c2, .slice a3 n3 c3, .string gd, .slice a4 n4 c4] 6 rfl (by omega))
  have HX3 : Hid (PBox _ _ _ _) := Lib.hid (own_below HX2.out BA)
  have HD3 := Lib.hid (HD2.out.below hBl BA)
  clear BA HR2 HX2 HD2
  go_upto_region 2 with (fail)
  generalize w2.alloc (.cells #[.string nm, .slice a1 n1 c1, .slice a2 n2 c2, .slice a3 n3 c3, .string gd, .slice a4 n4 c4] 27) = w3 at *
  generalize w2.heap.size = pb at *
  obtain ⟨⟨b0, b1, b2, b3, b4, b5⟩, _, hltb⟩ := PBox.c HP3.out
  go_wp2_with (fail)
  refine (c_NextD B n4 _ HD3.out.s (by omega)).mono ?_
  rintro e w4 ⟨r, rfl, hr0, hr1, _, hd4⟩
  have hrm : r < n4 := hr1 (by omega)
  obtain ⟨k, rfl⟩ : ∃ k : Nat, r = k := ⟨r.toNat, by omega⟩
  have HR4 := Lib.hid (HR3.out.dw hd4 hBl)
  have HP4 : Hid (PBox _ _ _ _) := Lib.hid (hd4.own HP3.out hBl)
  have HX4 : Hid (PBox _ _ _ _) := Lib.hid (hd4.own2 HX3.out (fun q hq e => by simp only [Value.ownBlock, Option.some.injEq] at hq; omega))
  have HD4 := Lib.hid (HD3.out.then_ hd4)
  clear HR3 HP3 HX3 HD3
  clear hd4 hr1 b0 b1 b2 b3 b4 b5 hltb
  go_wp2_with (fail)
  refine (c_NextD B 30 _ HD4.out.s (by omega)).mono ?_
  rintro e w5 ⟨r, rfl, hr0', hr1, _, hd5⟩
  have HR5 := Lib.hid (HR4.out.dw hd5 hBl)
  have HP5 : Hid (PBox _ _ _ _) := Lib.hid (hd5.own HP4.out hBl)
  have HX5 : Hid (PBox _ _ _ _) := Lib.hid (hd5.own2 HX4.out (fun q hq e => by simp only [Value.ownBlock, Option.some.injEq] at hq; omega))
  have HD5 := Lib.hid (HD4.out.then_ hd5)
  clear HR4 HP4 HX4 HD4
  clear hd5 hr1
  have HDs := Lib.hid (show B < w5.heap.size from Nat.lt_of_lt_of_le hBl HD5.out.g.size)
  have hltp := (PBox.c HP5.out).2.2
  by_cases hc0 : r = 0
  · subst hc0
    have HCL := Lib.hid (rd_litS w5 [⟨#[]⟩, ⟨#[101, 110, 100]⟩, ⟨#[82, 105, 100, 101]⟩] 9 (by decide))
    have BA := below_alloc (Below.refl w5.heap.size w5) (.cells (sts [⟨#[]⟩, ⟨#[101, 110, 100]⟩, ⟨#[82, 105, 100, 101]⟩]).toArray 9)
    have HRc := Lib.hid (HR5.out.below BA)
    have HPc : Hid (PBox _ _ _ _) := Lib.hid (own_below HP5.out BA)
    have HXc : Hid (PBox _ _ _ _) := Lib.hid (own_below HX5.out BA)
    have HDc := Lib.hid (HD5.out.below hBl BA)
    clear HR5 HP5 HX5 HD5
    go_wp2_with (fail)
    refine (c_NextD B 3 _ HDc.out.s (by omega)).mono ?_
    rintro e w6 ⟨r3, rfl, hq0, hq1, _, hd3⟩
    have hq2 := hq1 (by omega)
    obtain ⟨k3, rfl⟩ : ∃ k : Nat, r3 = k := ⟨r3.toNat, by omega⟩
    obtain ⟨x, hx⟩ : ∃ x, ([⟨#[]⟩, ⟨#[101, 110, 100]⟩, ⟨#[82, 105, 100, 101]⟩] : List ByteArray)[k3]? = some x := ⟨_, List.getElem?_eq_getElem (by show k3 < 3; omega)⟩
    have HXZ : Hid (x.size ≤ 1048576) := Lib.hid ((by decide : ∀ s ∈ ([⟨#[]⟩, ⟨#[101, 110, 100]⟩, ⟨#[82, 105, 100, 101]⟩] : List ByteArray), s.size ≤ 1048576) x (List.mem_of_getElem? hx))
    obtain ⟨b, off, e, _, g0⟩ := (HCL.out.dw hd3 (fun b off e => by cases e; have := HDs.out; omega)).st hx
    simp only [Option.some.injEq, Addr.mk.injEq, and_true] at e
    obtain ⟨rfl, rfl⟩ := e
    simp only [Nat.zero_add] at g0
    have HR6 := Lib.hid (HRc.out.dw hd3 hBl)
    have HP6 : Hid (PBox _ _ _ _) := Lib.hid (hd3.own HPc.out hBl)
    have HX6 : Hid (PBox _ _ _ _) := Lib.hid (hd3.own2 HXc.out (fun q hq e => by simp only [Value.ownBlock, Option.some.injEq] at hq; omega))
    have HD6 := Lib.hid (HDc.out.then_ hd3)
    clear HRc HPc HXc HDc
    clear hd3 hq1 hx HCL BA
    have hp := PBox.put HP6.out 0 (.string x)
    obtain ⟨⟨b0, b1, b2, b3, b4, b5⟩, ⟨f0, f1, f2, f3, f4, f5⟩, hltb⟩ := PBox.c HP6.out
    have HRt := Lib.hid (HR6.out.box HP6.out hp.2)
    have HPt : Hid (PBox (w6.setCell ⟨pb, 0, none⟩ (.string x)) w.heap.size pb [.string x, .slice a1 n1 c1, .slice a2 n2 c2, .slice a3 n3 c3, .string gd, .slice a4 n4 c4]) := Lib.hid hp.1
    have HXt := Lib.hid (HX6.out.keep hp.2 (by omega))
    have HDt := Lib.hid (HD6.out.far hBl hp.2 (fun q hq => by simp only [Option.some.injEq] at hq; omega))
    clear hp HR6 HP6 HX6 HD6
    go_upto_region 26 with (fail)
    generalize w6.setCell ⟨pb, 0, none⟩ (.string x) = w7 at *
    clear b0 b1 b2 b3 b4 b5 f0 f1 f2 f3 f4 f5 hltb
    obtain ⟨⟨b0, b1, b2, b3, b4, b5⟩, _, hltb⟩ := PBox.c HPt.out
    obtain ⟨⟨y0, y1, y2, y3, y4, y5⟩, ⟨f0, f1, f2, f3, f4, f5⟩, hlta⟩ := PBox.c HXt.out
    have hz := PBox.fill HXt.out (.string x) (.slice a1 n1 c1) (.slice a2 n2 c2) (.slice a3 n3 c3) (.string gd) (.slice a4 n4 c4)
    have YR := Lib.hid (HRt.out.box HXt.out hz.2)
    have YD := Lib.hid (HDt.out.far hBl hz.2 (fun q hq => by simp only [Option.some.injEq] at hq; omega))
    have YC := Lib.hid hz.1
    have YZ : Hid (PSizes x gd ins vs os ds) := Lib.hid ⟨HXZ.out, HZ.out.g, HZ.out.i, HZ.out.v, HZ.out.o, HZ.out.l, HZ.out.d⟩
    obtain ⟨WF, hWF⟩ : ∃ WF, WF = ((((((w7.setCell ⟨w.heap.size, 0, none⟩ (.string x)).setCell ⟨w.heap.size, 1, none⟩ (.slice a1 n1 c1)).setCell ⟨w.heap.size, 2, none⟩ (.slice a2 n2 c2)).setCell ⟨w.heap.size, 3, none⟩ (.slice a3 n3 c3)).setCell ⟨w.heap.size, 4, none⟩ (.string gd)).setCell ⟨w.heap.size, 5, none⟩ (.slice a4 n4 c4)) := ⟨_, rfl⟩
    rw [← hWF] at YR YD YC
    have HF := Lib.hid hWF
    clear hWF hz HRt HPt HXt HDt
    go_wp2_with (fail)
    rw [← HF.out]
    obtain ⟨⟨r0, r1, r2, r3, r4, r5⟩, _⟩ := PBox.c YC.out
    clear y0 y1 y2 y3 y4 y5 b0 b1 b2 b3 b4 b5 f0 f1 f2 f3 f4 f5
    refine bodyPost_ret (v := .agg #[.string x, .slice a1 n1 c1, .slice a2 n2 c2, .slice a3 n3 c3, .string gd, .slice a4 n4 c4]) (by simp [results, Tryz.results85, go_sem, r0, r1, r2, r3, r4, r5]) rfl (YR.out.prog YZ.out trivial YD.out)
  by_cases hc1 : r = 1
  · subst hc1
    have HRt : Hid (PRows w5 w.heap.size none a2 a3 a4 0 c2 c3 c4 0 n2 n3 n4 [] vs os ds) := Lib.hid ⟨own_nil, HR5.out.v, HR5.out.o, HR5.out.l, HR5.out.d⟩
    have HPt := HP5
    have HXt := HX5
    have HDt := HD5
    obtain ⟨⟨b0, b1, b2, b3, b4, b5⟩, _, hltb⟩ := PBox.c HPt.out
    obtain ⟨⟨y0, y1, y2, y3, y4, y5⟩, ⟨f0, f1, f2, f3, f4, f5⟩, hlta⟩ := PBox.c HXt.out
    have hz := PBox.fill HXt.out (.string nm) (.slice none 0 0) (.slice a2 n2 c2) (.slice a3 n3 c3) (.string ⟨#[]⟩) (.slice a4 n4 c4)
    have YR := Lib.hid (HRt.out.box HXt.out hz.2)
    have YD := Lib.hid (HDt.out.far hBl hz.2 (fun q hq => by simp only [Option.some.injEq] at hq; omega))
    have YC := Lib.hid hz.1
    have YZ : Hid (PSizes nm ⟨#[]⟩ [] vs os ds) := Lib.hid ⟨HZ.out.n, by decide, ⟨by decide, fun t h => by cases h⟩, HZ.out.v, HZ.out.o, HZ.out.l, HZ.out.d⟩
    obtain ⟨WF, hWF⟩ : ∃ WF, WF = ((((((w5.setCell ⟨w.heap.size, 0, none⟩ (.string nm)).setCell ⟨w.heap.size, 1, none⟩ (.slice none 0 0)).setCell ⟨w.heap.size, 2, none⟩ (.slice a2 n2 c2)).setCell ⟨w.heap.size, 3, none⟩ (.slice a3 n3 c3)).setCell ⟨w.heap.size, 4, none⟩ (.string ⟨#[]⟩)).setCell ⟨w.heap.size, 5, none⟩ (.slice a4 n4 c4)) := ⟨_, rfl⟩
    rw [← hWF] at YR YD YC
    have HF := Lib.hid hWF
    clear hWF hz HRt HPt HXt HDt
    go_wp2_with (fail)
    rw [← HF.out]
    obtain ⟨⟨r0, r1, r2, r3, r4, r5⟩, _⟩ := PBox.c YC.out
    clear y0 y1 y2 y3 y4 y5 b0 b1 b2 b3 b4 b5 f0 f1 f2 f3 f4 f5
    refine bodyPost_ret (v := .agg #[.string nm, .slice none 0 0, .slice a2 n2 c2, .slice a3 n3 c3, .string ⟨#[]⟩, .slice a4 n4 c4]) (by simp [results, Tryz.results85, go_sem, r0, r1, r2, r3, r4, r5]) rfl (YR.out.prog YZ.out trivial YD.out)
  by_cases hc2 : r = 2
  · subst hc2
    have HCL := Lib.hid (rd_litS w5 [⟨#[97, 110, 100]⟩, ⟨#[120]⟩, ⟨#[110, 111, 119, 104, 101, 114, 101]⟩] 9 (by decide))
    have BA := below_alloc (Below.refl w5.heap.size w5) (.cells (sts [⟨#[97, 110, 100]⟩, ⟨#[120]⟩, ⟨#[110, 111, 119, 104, 101, 114, 101]⟩]).toArray 9)
    have HRc := Lib.hid (HR5.out.below BA)
    have HPc : Hid (PBox _ _ _ _) := Lib.hid (own_below HP5.out BA)
    have HXc : Hid (PBox _ _ _ _) := Lib.hid (own_below HX5.out BA)
    have HDc := Lib.hid (HD5.out.below hBl BA)
    clear HR5 HP5 HX5 HD5
    go_wp2_with (fail)
    refine (c_NextD B 3 _ HDc.out.s (by omega)).mono ?_
    rintro e w6 ⟨r3, rfl, hq0, hq1, _, hd3⟩
    have hq2 := hq1 (by omega)
    obtain ⟨k3, rfl⟩ : ∃ k : Nat, r3 = k := ⟨r3.toNat, by omega⟩
    obtain ⟨x, hx⟩ : ∃ x, ([⟨#[97, 110, 100]⟩, ⟨#[120]⟩, ⟨#[110, 111, 119, 104, 101, 114, 101]⟩] : List ByteArray)[k3]? = some x := ⟨_, List.getElem?_eq_getElem (by show k3 < 3; omega)⟩
    have HXZ : Hid (x.size ≤ 1048576) := Lib.hid ((by decide : ∀ s ∈ ([⟨#[97, 110, 100]⟩, ⟨#[120]⟩, ⟨#[110, 111, 119, 104, 101, 114, 101]⟩] : List ByteArray), s.size ≤ 1048576) x (List.mem_of_getElem? hx))
    obtain ⟨b, off, e, _, g0⟩ := (HCL.out.dw hd3 (fun b off e => by cases e; have := HDs.out; omega)).st hx
    simp only [Option.some.injEq, Addr.mk.injEq, and_true] at e
    obtain ⟨rfl, rfl⟩ := e
    simp only [Nat.zero_add] at g0
    have HR6 := Lib.hid (HRc.out.dw hd3 hBl)
    have HP6 : Hid (PBox _ _ _ _) := Lib.hid (hd3.own HPc.out hBl)
    have HX6 : Hid (PBox _ _ _ _) := Lib.hid (hd3.own2 HXc.out (fun q hq e => by simp only [Value.ownBlock, Option.some.injEq] at hq; omega))
    have HD6 := Lib.hid (HDc.out.then_ hd3)
    clear HRc HPc HXc HDc
    clear hd3 hq1 hx HCL BA
    have hp := PBox.put HP6.out 4 (.string x)
    obtain ⟨⟨b0, b1, b2, b3, b4, b5⟩, ⟨f0, f1, f2, f3, f4, f5⟩, hltb⟩ := PBox.c HP6.out
    have HRt := Lib.hid (HR6.out.box HP6.out hp.2)
    have HPt : Hid (PBox (w6.setCell ⟨pb, 4, none⟩ (.string x)) w.heap.size pb [.string nm, .slice a1 n1 c1, .slice a2 n2 c2, .slice a3 n3 c3, .string x, .slice a4 n4 c4]) := Lib.hid hp.1
    have HXt := Lib.hid (HX6.out.keep hp.2 (by omega))
    have HDt := Lib.hid (HD6.out.far hBl hp.2 (fun q hq => by simp only [Option.some.injEq] at hq; omega))
    clear hp HR6 HP6 HX6 HD6
    go_upto_region 26 with (fail)
    generalize w6.setCell ⟨pb, 4, none⟩ (.string x) = w7 at *
    clear b0 b1 b2 b3 b4 b5 f0 f1 f2 f3 f4 f5 hltb
    obtain ⟨⟨b0, b1, b2, b3, b4, b5⟩, _, hltb⟩ := PBox.c HPt.out
    obtain ⟨⟨y0, y1, y2, y3, y4, y5⟩, ⟨f0, f1, f2, f3, f4, f5⟩, hlta⟩ := PBox.c HXt.out
    have hz := PBox.fill HXt.out (.string nm) (.slice a1 n1 c1) (.slice a2 n2 c2) (.slice a3 n3 c3) (.string x) (.slice a4 n4 c4)
    have YR := Lib.hid (HRt.out.box HXt.out hz.2)
    have YD := Lib.hid (HDt.out.far hBl hz.2 (fun q hq => by simp only [Option.some.injEq] at hq; omega))
    have YC := Lib.hid hz.1
    have YZ : Hid (PSizes nm x ins vs os ds) := Lib.hid ⟨HZ.out.n, HXZ.out, HZ.out.i, HZ.out.v, HZ.out.o, HZ.out.l, HZ.out.d⟩
    obtain ⟨WF, hWF⟩ : ∃ WF, WF = ((((((w7.setCell ⟨w.heap.size, 0, none⟩ (.string nm)).setCell ⟨w.heap.size, 1, none⟩ (.slice a1 n1 c1)).setCell ⟨w.heap.size, 2, none⟩ (.slice a2 n2 c2)).setCell ⟨w.heap.size, 3, none⟩ (.slice a3 n3 c3)).setCell ⟨w.heap.size, 4, none⟩ (.string x)).setCell ⟨w.heap.size, 5, none⟩ (.slice a4 n4 c4)) := ⟨_, rfl⟩
    rw [← hWF] at YR YD YC
    have HF := Lib.hid hWF
    clear hWF hz HRt HPt HXt HDt
    go_wp2_with (fail)
    rw [← HF.out]
    obtain ⟨⟨r0, r1, r2, r3, r4, r5⟩, _⟩ := PBox.c YC.out
    clear y0 y1 y2 y3 y4 y5 b0 b1 b2 b3 b4 b5 f0 f1 f2 f3 f4 f5
    refine bodyPost_ret (v := .agg #[.string nm, .slice a1 n1 c1, .slice a2 n2 c2, .slice a3 n3 c3, .string x, .slice a4 n4 c4]) (by simp [results, Tryz.results85, go_sem, r0, r1, r2, r3, r4, r5]) rfl (YR.out.prog YZ.out trivial YD.out)
  by_cases hc3 : r = 3
  · subst hc3
    obtain ⟨lb, lc, e9, _, _⟩ := HR5.out.l.form (by omega)
    simp only [Value.slice.injEq, true_and] at e9
    obtain ⟨rfl, rfl⟩ := e9
    obtain ⟨d, hd⟩ : ∃ d, ds[k]? = some d := ⟨_, List.getElem?_eq_getElem (by have := HR5.out.l.1; rw [lidCells_length] at this; omega)⟩
    have HDK := Lib.hid hd
    clear hd
    have hk0 : (0 : Int) ≤ (k : Int) := by omega
    obtain ⟨⟨_, _, _, _, _, b5⟩, _, _⟩ := PBox.c HP5.out
    go_upto_region 11 with (fail)
    refine wp_region_heldE 10 (S := (fun w' => w'.cell? ⟨pb, 5, none⟩ = some (.slice (some ⟨lb, 0, none⟩) n4 c4))) (by kernel_rfl) ?_ (fun hHeld => ?_)
    · exact b5
    refine rgE_take (v := ?_) 0 12 rfl (by kernel_rfl) (by kernel_rfl) (by kernel_rfl) (by kernel_rfl) (by kernel_rfl) (fun _ _ _ h => h) (by kernel_rfl) ?_ (by assumption) ?_
    rotate_left
    · (intro w' hSw; (try dsimp only at hSw); go_simp; first | done | with_reducible rfl)
    simp only [Act.put, List.setIfInBounds_toArray, List.set_cons_zero, List.set_cons_succ]
    refine rgE_take (v := ?_) 1 12 rfl (by kernel_rfl) (by kernel_rfl) (by kernel_rfl) (by kernel_rfl) (by kernel_rfl) (fun _ _ _ h => h) (by kernel_rfl) ?_ (by assumption) ?_
    rotate_left
    · (intro w' hSw; (try dsimp only at hSw); go_simp; first | done | with_reducible rfl)
    simp only [Act.put, List.setIfInBounds_toArray, List.set_cons_zero, List.set_cons_succ]
    refine rgE_take (v := ?_) 2 12 rfl (by kernel_rfl) (by kernel_rfl) (by kernel_rfl) (by kernel_rfl) (by kernel_rfl) (fun _ _ _ h => h) (by kernel_rfl) ?_ (by assumption) ?_
    rotate_left
    · (intro w' hSw; (try dsimp only at hSw); go_simp; first | done | with_reducible rfl)
    simp only [Act.put, List.setIfInBounds_toArray, List.set_cons_zero, List.set_cons_succ]
    refine rgE_take (v := ?_) 4 12 rfl (by kernel_rfl) (by kernel_rfl) (by kernel_rfl) (by kernel_rfl) (by kernel_rfl) (fun _ _ _ h => h) (by kernel_rfl) ?_ (by assumption) ?_
    rotate_left
    · (intro w' hSw; (try dsimp only at hSw); go_simp; first | done | with_reducible rfl)
    simp only [Act.put, List.setIfInBounds_toArray, List.set_cons_zero, List.set_cons_succ]
    refine rgE_two 3 5 rfl rfl (by kernel_rfl) (by kernel_rfl) (by kernel_rfl) (by decide) (by decide) (fun K hK => ?_) (fun K hK => ?_)
    · skip
      have HCL : Hid (Rd (w5.drew.alloc (.cells #[.string ⟨#[]⟩, .string ⟨#[111, 114]⟩, .string ⟨#[97]⟩, .string ⟨#[113]⟩] 9)) (some ⟨w5.heap.size, 0, none⟩) (sts [⟨#[]⟩, ⟨#[111, 114]⟩, ⟨#[97]⟩, ⟨#[113]⟩])) := Lib.hid (rd_litS w5.drew [⟨#[]⟩, ⟨#[111, 114]⟩, ⟨#[97]⟩, ⟨#[113]⟩] 9 (by decide))
      have BA := below_alloc (Below.refl w5.heap.size w5).drew (.cells #[.string ⟨#[]⟩, .string ⟨#[111, 114]⟩, .string ⟨#[97]⟩, .string ⟨#[113]⟩] 9)
      have HR6 := Lib.hid (HR5.out.below BA)
      have HP6 : Hid (PBox _ _ _ _) := Lib.hid (own_below HP5.out BA)
      have HX6 : Hid (PBox _ _ _ _) := Lib.hid (own_below HX5.out BA)
      have HD6 := Lib.hid (HD5.out.below hBl BA)
      clear HR5 HP5 HX5 HD5
      have hba := BA.size
      replace b5 := cell_later BA b5
      go_simp
      clear hHeld
      refine hK.out _ _ (.inr (by exact b5)) (fun hHeld => ?_)
      clear hK K
      try simp only [Act.put, List.setIfInBounds_toArray, List.set_cons_zero, List.set_cons_succ]
      refine rgE_run 5 rfl (by kernel_rfl) (by kernel_rfl) (by decide) (fun K hK => ?_)
      go_simp
      refine (c_NextD B 4 _ HD6.out.s (by omega)).mono ?_
      rintro e w7 ⟨r3, rfl, hq0, hq1, _, hd3⟩
      have hq2 := hq1 (by omega)
      obtain ⟨k3, rfl⟩ : ∃ k : Nat, r3 = k := ⟨r3.toNat, by omega⟩
      obtain ⟨x, hx⟩ : ∃ x, ([⟨#[]⟩, ⟨#[111, 114]⟩, ⟨#[97]⟩, ⟨#[113]⟩] : List ByteArray)[k3]? = some x := ⟨_, List.getElem?_eq_getElem (by show k3 < 4; omega)⟩
      have HXZ : Hid (x.size ≤ 1048576) := Lib.hid ((by decide : ∀ s ∈ ([⟨#[]⟩, ⟨#[111, 114]⟩, ⟨#[97]⟩, ⟨#[113]⟩] : List ByteArray), s.size ≤ 1048576) x (List.mem_of_getElem? hx))
      obtain ⟨b, off, e, _, g0⟩ := (HCL.out.dw hd3 (fun b off e => by cases e; have := HDs.out; simp; omega)).st hx
      simp only [Option.some.injEq, Addr.mk.injEq, and_true] at e
      obtain ⟨rfl, rfl⟩ := e
      simp only [Nat.zero_add] at g0
      replace b5 := hd3.cell b5 (by omega)
      have HR7 := Lib.hid (HR6.out.dw hd3 hBl)
      have HP7 : Hid (PBox _ _ _ _) := Lib.hid (hd3.own HP6.out hBl)
      have HX7 : Hid (PBox _ _ _ _) := Lib.hid (hd3.own2 HX6.out (fun q hq e => by simp only [Value.ownBlock, Option.some.injEq] at hq; omega))
      have HD7 := Lib.hid (HD6.out.then_ hd3)
      clear HR6 HP6 HX6 HD6
      clear hd3 hq1 hx HCL BA
      go_wp2
      clear hHeld
      refine hK.out _ _ (.inr (by exact b5)) (fun hHeld => ?_)
      clear hK K
      try simp only [Act.put, List.setIfInBounds_toArray, List.set_cons_zero, List.set_cons_succ]
      refine rgE_take (v := ?_) 6 12 rfl (by kernel_rfl) (by kernel_rfl) (by kernel_rfl) (by kernel_rfl) (by kernel_rfl) (fun _ _ _ h => h) (by kernel_rfl) ?_ (by assumption) ?_
      rotate_left
      · (intro w' hSw; (try dsimp only at hSw); go_simp; first | done | with_reducible rfl)
      simp only [Act.put, List.setIfInBounds_toArray, List.set_cons_zero, List.set_cons_succ]
      refine rgE_run 7 rfl (by kernel_rfl) (by kernel_rfl) (by decide) (fun K hK => ?_)
      go_simp
      clear hHeld
      refine hK.out _ _ (.inr (by exact b5)) (fun hHeld => ?_)
      clear hK K
      try simp only [Act.put, List.setIfInBounds_toArray, List.set_cons_zero, List.set_cons_succ]
      refine rgE_take (v := ?_) 8 12 rfl (by kernel_rfl) (by kernel_rfl) (by kernel_rfl) (by kernel_rfl) (by kernel_rfl) (fun _ _ _ h => h) (by kernel_rfl) ?_ (by assumption) ?_
      rotate_left
      · (intro w' hSw; (try dsimp only at hSw); go_simp; first | done | with_reducible rfl)
      simp only [Act.put, List.setIfInBounds_toArray, List.set_cons_zero, List.set_cons_succ]
      refine rgE_take (v := ?_) 9 12 rfl (by kernel_rfl) (by kernel_rfl) (by kernel_rfl) (by kernel_rfl) (by kernel_rfl) (fun _ _ _ h => h) (by kernel_rfl) ?_ (by assumption) ?_
      rotate_left
      · (intro w' hSw; (try dsimp only at hSw); go_simp; first | done | with_reducible rfl)
      simp only [Act.put, List.setIfInBounds_toArray, List.set_cons_zero, List.set_cons_succ]
      have HCE : Hid (d.cells.set 0 (.string x) = LiD.cells ⟨⟨x, d.l.ts⟩, d.a, d.c⟩) := Lib.hid rfl
      have HNE : Hid (NestT _ w.heap.size ⟨⟨x, d.l.ts⟩, d.a, d.c⟩) := Lib.hid (HR7.out.d d (List.mem_of_getElem? HDK.out))
      have HNZ : Hid ((x.size ≤ 1048576) ∧ TmOk d.l.ts) := Lib.hid ⟨HXZ.out, (HZ.out.d d (List.mem_of_getElem? HDK.out)).2⟩
      have hst := HR7.out.l.stored (k * 2 + 0) (.string x)
      rw [lid_set (i := 0) (by decide) (.string x) ⟨⟨x, d.l.ts⟩, d.a, d.c⟩ ds k d HDK.out HCE.out] at hst
      obtain ⟨o0, e0⟩ := own_cell HR7.out.l (j := k * 2) (by omega)
      have f0 := HR7.out.l.frozenAt (k * 2)
      have HRt : Hid (PRows (w7.setCell ⟨lb, k * 2, none⟩ (.string x)) w.heap.size a1 a2 a3 (some ⟨lb, 0, none⟩) c1 c2 c3 c4 n1 n2 n3 n4 ins vs os (ds.set k ⟨⟨x, d.l.ts⟩, d.a, d.c⟩)) := Lib.hid (HR7.out.put hst.2 hst.1 (fun d2 hd2 => (List.mem_or_eq_of_mem_set hd2).elim (HR7.out.d d2) (fun e => e ▸ HNE.out)))
      have HPt : Hid (PBox (w7.setCell ⟨lb, k * 2, none⟩ (.string x)) _ _ _) := Lib.hid (own_keep HP7.out HR7.out.l (by decide) hst.2)
      have HXt : Hid (PBox (w7.setCell ⟨lb, k * 2, none⟩ (.string x)) _ _ _) := Lib.hid (own_keep HX7.out HR7.out.l (by decide) hst.2)
      have HDt : Hid (DW B w (w7.setCell ⟨lb, k * 2, none⟩ (.string x))) := Lib.hid (HD7.out.far hBl hst.2 (fun q hq => by simp only [Option.some.injEq] at hq; have := (HR7.out.l.lt lb rfl).1; omega))
      clear hst HR7 HP7 HX7 HD7 b5
      refine rgE_last rfl (by kernel_rfl) (by kernel_rfl) (by kernel_rfl) (fun K hK => ?_)
      go_simp
      clear hHeld
      refine hK.out _ _ ?_
      clear hK K
      try simp only [Act.put, List.setIfInBounds_toArray, List.set_cons_zero, List.set_cons_succ]
      generalize w7.setCell ⟨lb, k * 2, none⟩ (.string x) = w8 at *
      clear o0 e0 f0
      go_upto_region 26 with (fail)
      obtain ⟨⟨b0, b1, b2, b3, b4, b5⟩, _, hltb⟩ := PBox.c HPt.out
      obtain ⟨⟨y0, y1, y2, y3, y4, y5⟩, ⟨f0, f1, f2, f3, f4, f5⟩, hlta⟩ := PBox.c HXt.out
      have hz := PBox.fill HXt.out (.string nm) (.slice a1 n1 c1) (.slice a2 n2 c2) (.slice a3 n3 c3) (.string gd) (.slice (some ⟨lb, 0, none⟩) n4 c4)
      have YR := Lib.hid (HRt.out.box HXt.out hz.2)
      have YD := Lib.hid (HDt.out.far hBl hz.2 (fun q hq => by simp only [Option.some.injEq] at hq; omega))
      have YC := Lib.hid hz.1
      have YZ : Hid (PSizes nm gd ins vs os (ds.set k ⟨⟨x, d.l.ts⟩, d.a, d.c⟩)) := Lib.hid ⟨HZ.out.n, HZ.out.g, HZ.out.i, HZ.out.v, HZ.out.o, by rw [List.length_set]; exact HZ.out.l, fun d2 hd2 => (List.mem_or_eq_of_mem_set hd2).elim (HZ.out.d d2) (fun e => e ▸ HNZ.out)⟩
      obtain ⟨WF, hWF⟩ : ∃ WF, WF = ((((((w8.setCell ⟨w.heap.size, 0, none⟩ (.string nm)).setCell ⟨w.heap.size, 1, none⟩ (.slice a1 n1 c1)).setCell ⟨w.heap.size, 2, none⟩ (.slice a2 n2 c2)).setCell ⟨w.heap.size, 3, none⟩ (.slice a3 n3 c3)).setCell ⟨w.heap.size, 4, none⟩ (.string gd)).setCell ⟨w.heap.size, 5, none⟩ (.slice (some ⟨lb, 0, none⟩) n4 c4)) := ⟨_, rfl⟩
      rw [← hWF] at YR YD YC
      have HF := Lib.hid hWF
      clear hWF hz HRt HPt HXt HDt
      go_wp2_with (fail)
      rw [← HF.out]
      obtain ⟨⟨r0, r1, r2, r3, r4, r5⟩, _⟩ := PBox.c YC.out
      clear y0 y1 y2 y3 y4 y5 b0 b1 b2 b3 b4 b5 f0 f1 f2 f3 f4 f5
      refine bodyPost_ret (v := .agg #[.string nm, .slice a1 n1 c1, .slice a2 n2 c2, .slice a3 n3 c3, .string gd, .slice (some ⟨lb, 0, none⟩) n4 c4]) (by simp [results, Tryz.results85, go_sem, r0, r1, r2, r3, r4, r5]) rfl (YR.out.prog YZ.out trivial YD.out)
    · skip
      go_simp
      refine (c_NextD B 4 _ HD5.out.s.drew (by omega)).mono ?_
      rintro e w6 ⟨r3, rfl, hq0, hq1, _, hd3⟩
      have hq2 := hq1 (by omega)
      obtain ⟨k3, rfl⟩ : ∃ k : Nat, r3 = k := ⟨r3.toNat, by omega⟩
      obtain ⟨x, hx⟩ : ∃ x, ([⟨#[]⟩, ⟨#[111, 114]⟩, ⟨#[97]⟩, ⟨#[113]⟩] : List ByteArray)[k3]? = some x := ⟨_, List.getElem?_eq_getElem (by show k3 < 4; omega)⟩
      have HXZ : Hid (x.size ≤ 1048576) := Lib.hid ((by decide : ∀ s ∈ ([⟨#[]⟩, ⟨#[111, 114]⟩, ⟨#[97]⟩, ⟨#[113]⟩] : List ByteArray), s.size ≤ 1048576) x (List.mem_of_getElem? hx))
      have hdd := ((DW.start HD5.out.s).drew HDs.out).then_ hd3
      have HCL : Hid (Rd (w6.alloc (.cells #[.string ⟨#[]⟩, .string ⟨#[111, 114]⟩, .string ⟨#[97]⟩, .string ⟨#[113]⟩] 9)) (some ⟨w6.heap.size, 0, none⟩) (sts [⟨#[]⟩, ⟨#[111, 114]⟩, ⟨#[97]⟩, ⟨#[113]⟩])) := Lib.hid (rd_litS w6 [⟨#[]⟩, ⟨#[111, 114]⟩, ⟨#[97]⟩, ⟨#[113]⟩] 9 (by decide))
      have BA := below_alloc (Below.refl w6.heap.size w6) (.cells #[.string ⟨#[]⟩, .string ⟨#[111, 114]⟩, .string ⟨#[97]⟩, .string ⟨#[113]⟩] 9)
      replace b5 := hdd.cell b5 (by omega)
      have HR6 := Lib.hid (HR5.out.dw hdd hBl)
      have HP6 : Hid (PBox _ _ _ _) := Lib.hid (hdd.own HP5.out hBl)
      have HX6 : Hid (PBox _ _ _ _) := Lib.hid (hdd.own2 HX5.out (fun q hq e => by simp only [Value.ownBlock, Option.some.injEq] at hq; omega))
      have HD6 := Lib.hid (HD5.out.then_ hdd)
      clear HR5 HP5 HX5 HD5
      go_wp2
      clear hHeld
      refine hK.out _ _ (.inr (by exact b5)) (fun hHeld => ?_)
      clear hK K
      try simp only [Act.put, List.setIfInBounds_toArray, List.set_cons_zero, List.set_cons_succ]
      refine rgE_run 3 rfl (by kernel_rfl) (by kernel_rfl) (by decide) (fun K hK => ?_)
      go_simp
      obtain ⟨b, off, e, _, g0⟩ := HCL.out.st hx
      simp only [Option.some.injEq, Addr.mk.injEq, and_true] at e
      obtain ⟨rfl, rfl⟩ := e
      simp only [Nat.zero_add] at g0
      replace b5 := cell_later BA b5
      have HR7 := Lib.hid (HR6.out.below BA)
      have HP7 : Hid (PBox _ _ _ _) := Lib.hid (own_below HP6.out BA)
      have HX7 : Hid (PBox _ _ _ _) := Lib.hid (own_below HX6.out BA)
      have HD7 := Lib.hid (HD6.out.below hBl BA)
      clear HR6 HP6 HX6 HD6
      clear hHeld
      refine hK.out _ _ (.inr (by exact b5)) (fun hHeld => ?_)
      clear hK K
      try simp only [Act.put, List.setIfInBounds_toArray, List.set_cons_zero, List.set_cons_succ]
      refine rgE_take (v := ?_) 6 12 rfl (by kernel_rfl) (by kernel_rfl) (by kernel_rfl) (by kernel_rfl) (by kernel_rfl) (fun _ _ _ h => h) (by kernel_rfl) ?_ (by assumption) ?_
      rotate_left
      · (intro w' hSw; (try dsimp only at hSw); go_simp; first | done | with_reducible rfl)
      simp only [Act.put, List.setIfInBounds_toArray, List.set_cons_zero, List.set_cons_succ]
      refine rgE_run 7 rfl (by kernel_rfl) (by kernel_rfl) (by decide) (fun K hK => ?_)
      go_simp
      clear hHeld
      refine hK.out _ _ (.inr (by exact b5)) (fun hHeld => ?_)
      clear hK K
      try simp only [Act.put, List.setIfInBounds_toArray, List.set_cons_zero, List.set_cons_succ]
      refine rgE_take (v := ?_) 8 12 rfl (by kernel_rfl) (by kernel_rfl) (by kernel_rfl) (by kernel_rfl) (by kernel_rfl) (fun _ _ _ h => h) (by kernel_rfl) ?_ (by assumption) ?_
      rotate_left
      · (intro w' hSw; (try dsimp only at hSw); go_simp; first | done | with_reducible rfl)
      simp only [Act.put, List.setIfInBounds_toArray, List.set_cons_zero, List.set_cons_succ]
      refine rgE_take (v := ?_) 9 12 rfl (by kernel_rfl) (by kernel_rfl) (by kernel_rfl) (by kernel_rfl) (by kernel_rfl) (fun _ _ _ h => h) (by kernel_rfl) ?_ (by assumption) ?_
      rotate_left
      · (intro w' hSw; (try dsimp only at hSw); go_simp; first | done | with_reducible rfl)
      simp only [Act.put, List.setIfInBounds_toArray, List.set_cons_zero, List.set_cons_succ]
      clear hd3 hdd hq1 hx HCL BA
      have HCE : Hid (d.cells.set 0 (.string x) = LiD.cells ⟨⟨x, d.l.ts⟩, d.a, d.c⟩) := Lib.hid rfl
      have HNE : Hid (NestT _ w.heap.size ⟨⟨x, d.l.ts⟩, d.a, d.c⟩) := Lib.hid (HR7.out.d d (List.mem_of_getElem? HDK.out))
      have HNZ : Hid ((x.size ≤ 1048576) ∧ TmOk d.l.ts) := Lib.hid ⟨HXZ.out, (HZ.out.d d (List.mem_of_getElem? HDK.out)).2⟩
      have hst := HR7.out.l.stored (k * 2 + 0) (.string x)
      rw [lid_set (i := 0) (by decide) (.string x) ⟨⟨x, d.l.ts⟩, d.a, d.c⟩ ds k d HDK.out HCE.out] at hst
      obtain ⟨o0, e0⟩ := own_cell HR7.out.l (j := k * 2) (by omega)
      have f0 := HR7.out.l.frozenAt (k * 2)
      have HRt : Hid (PRows ((w6.alloc (.cells #[.string ⟨#[]⟩, .string ⟨#[111, 114]⟩, .string ⟨#[97]⟩, .string ⟨#[113]⟩] 9)).setCell ⟨lb, k * 2, none⟩ (.string x)) w.heap.size a1 a2 a3 (some ⟨lb, 0, none⟩) c1 c2 c3 c4 n1 n2 n3 n4 ins vs os (ds.set k ⟨⟨x, d.l.ts⟩, d.a, d.c⟩)) := Lib.hid (HR7.out.put hst.2 hst.1 (fun d2 hd2 => (List.mem_or_eq_of_mem_set hd2).elim (HR7.out.d d2) (fun e => e ▸ HNE.out)))
      have HPt : Hid (PBox ((w6.alloc (.cells #[.string ⟨#[]⟩, .string ⟨#[111, 114]⟩, .string ⟨#[97]⟩, .string ⟨#[113]⟩] 9)).setCell ⟨lb, k * 2, none⟩ (.string x)) _ _ _) := Lib.hid (own_keep HP7.out HR7.out.l (by decide) hst.2)
      have HXt : Hid (PBox ((w6.alloc (.cells #[.string ⟨#[]⟩, .string ⟨#[111, 114]⟩, .string ⟨#[97]⟩, .string ⟨#[113]⟩] 9)).setCell ⟨lb, k * 2, none⟩ (.string x)) _ _ _) := Lib.hid (own_keep HX7.out HR7.out.l (by decide) hst.2)
      have HDt : Hid (DW B w ((w6.alloc (.cells #[.string ⟨#[]⟩, .string ⟨#[111, 114]⟩, .string ⟨#[97]⟩, .string ⟨#[113]⟩] 9)).setCell ⟨lb, k * 2, none⟩ (.string x))) := Lib.hid (HD7.out.far hBl hst.2 (fun q hq => by simp only [Option.some.injEq] at hq; have := (HR7.out.l.lt lb rfl).1; omega))
      clear hst HR7 HP7 HX7 HD7 b5
      refine rgE_last rfl (by kernel_rfl) (by kernel_rfl) (by kernel_rfl) (fun K hK => ?_)
      go_simp
      clear hHeld
      refine hK.out _ _ ?_
      clear hK K
      try simp only [Act.put, List.setIfInBounds_toArray, List.set_cons_zero, List.set_cons_succ]
      generalize (w6.alloc (.cells #[.string ⟨#[]⟩, .string ⟨#[111, 114]⟩, .string ⟨#[97]⟩, .string ⟨#[113]⟩] 9)).setCell ⟨lb, k * 2, none⟩ (.string x) = w8 at *
      clear o0 e0 f0
      go_upto_region 26 with (fail)
      obtain ⟨⟨b0, b1, b2, b3, b4, b5⟩, _, hltb⟩ := PBox.c HPt.out
      obtain ⟨⟨y0, y1, y2, y3, y4, y5⟩, ⟨f0, f1, f2, f3, f4, f5⟩, hlta⟩ := PBox.c HXt.out
      have hz := PBox.fill HXt.out (.string nm) (.slice a1 n1 c1) (.slice a2 n2 c2) (.slice a3 n3 c3) (.string gd) (.slice (some ⟨lb, 0, none⟩) n4 c4)
      have YR := Lib.hid (HRt.out.box HXt.out hz.2)
      have YD := Lib.hid (HDt.out.far hBl hz.2 (fun q hq => by simp only [Option.some.injEq] at hq; omega))
      have YC := Lib.hid hz.1
      have YZ : Hid (PSizes nm gd ins vs os (ds.set k ⟨⟨x, d.l.ts⟩, d.a, d.c⟩)) := Lib.hid ⟨HZ.out.n, HZ.out.g, HZ.out.i, HZ.out.v, HZ.out.o, by rw [List.length_set]; exact HZ.out.l, fun d2 hd2 => (List.mem_or_eq_of_mem_set hd2).elim (HZ.out.d d2) (fun e => e ▸ HNZ.out)⟩
      obtain ⟨WF, hWF⟩ : ∃ WF, WF = ((((((w8.setCell ⟨w.heap.size, 0, none⟩ (.string nm)).setCell ⟨w.heap.size, 1, none⟩ (.slice a1 n1 c1)).setCell ⟨w.heap.size, 2, none⟩ (.slice a2 n2 c2)).setCell ⟨w.heap.size, 3, none⟩ (.slice a3 n3 c3)).setCell ⟨w.heap.size, 4, none⟩ (.string gd)).setCell ⟨w.heap.size, 5, none⟩ (.slice (some ⟨lb, 0, none⟩) n4 c4)) := ⟨_, rfl⟩
      rw [← hWF] at YR YD YC
      have HF := Lib.hid hWF
      clear hWF hz HRt HPt HXt HDt
      go_wp2_with (fail)
      rw [← HF.out]
      obtain ⟨⟨r0, r1, r2, r3, r4, r5⟩, _⟩ := PBox.c YC.out
      clear y0 y1 y2 y3 y4 y5 b0 b1 b2 b3 b4 b5 f0 f1 f2 f3 f4 f5
      refine bodyPost_ret (v := .agg #[.string nm, .slice a1 n1 c1, .slice a2 n2 c2, .slice a3 n3 c3, .string gd, .slice (some ⟨lb, 0, none⟩) n4 c4]) (by simp [results, Tryz.results85, go_sem, r0, r1, r2, r3, r4, r5]) rfl (YR.out.prog YZ.out trivial YD.out)
  by_cases hc4 : r = 4
  · subst hc4
    obtain ⟨lb, lc, e9, _, _⟩ := HR5.out.l.form (by omega)
    simp only [Value.slice.injEq, true_and] at e9
    obtain ⟨rfl, rfl⟩ := e9
    obtain ⟨d, hd⟩ : ∃ d, ds[k]? = some d := ⟨_, List.getElem?_eq_getElem (by have := HR5.out.l.1; rw [lidCells_length] at this; omega)⟩
    have HDK := Lib.hid hd
    clear hd
    have hk0 : (0 : Int) ≤ (k : Int) := by omega
    obtain ⟨⟨_, _, _, _, _, b5⟩, _, _⟩ := PBox.c HP5.out
    go_upto_region 13 with (fail)
    refine wp_region_heldE 7 (S := (fun w' => w'.cell? ⟨pb, 5, none⟩ = some (.slice (some ⟨lb, 0, none⟩) n4 c4))) (by kernel_rfl) ?_ (fun hHeld => ?_)
    · exact b5
    refine rgE_take (v := ?_) 0 12 rfl (by kernel_rfl) (by kernel_rfl) (by kernel_rfl) (by kernel_rfl) (by kernel_rfl) (fun _ _ _ h => h) (by kernel_rfl) ?_ (by assumption) ?_
    rotate_left
    · (intro w' hSw; (try dsimp only at hSw); go_simp; first | done | with_reducible rfl)
    simp only [Act.put, List.setIfInBounds_toArray, List.set_cons_zero, List.set_cons_succ]
    refine rgE_take (v := ?_) 1 12 rfl (by kernel_rfl) (by kernel_rfl) (by kernel_rfl) (by kernel_rfl) (by kernel_rfl) (fun _ _ _ h => h) (by kernel_rfl) ?_ (by assumption) ?_
    rotate_left
    · (intro w' hSw; (try dsimp only at hSw); go_simp; first | done | with_reducible rfl)
    simp only [Act.put, List.setIfInBounds_toArray, List.set_cons_zero, List.set_cons_succ]
    refine rgE_take (v := ?_) 2 12 rfl (by kernel_rfl) (by kernel_rfl) (by kernel_rfl) (by kernel_rfl) (by kernel_rfl) (fun _ _ _ h => h) (by kernel_rfl) ?_ (by assumption) ?_
    rotate_left
    · (intro w' hSw; (try dsimp only at hSw); go_simp; first | done | with_reducible rfl)
    simp only [Act.put, List.setIfInBounds_toArray, List.set_cons_zero, List.set_cons_succ]
    refine rgE_take (v := ?_) 3 12 rfl (by kernel_rfl) (by kernel_rfl) (by kernel_rfl) (by kernel_rfl) (by kernel_rfl) (fun _ _ _ h => h) (by kernel_rfl) ?_ (by assumption) ?_
    rotate_left
    · (intro w' hSw; (try dsimp only at hSw); go_simp; first | done | with_reducible rfl)
    simp only [Act.put, List.setIfInBounds_toArray, List.set_cons_zero, List.set_cons_succ]
    refine rgE_run 4 rfl (by kernel_rfl) (by kernel_rfl) (by decide) (fun K hK => ?_)
    go_simp
    refine (c_DrawExpression B _ HD5.out.s.drew).mono ?_
    rintro e w7 ⟨g, n, ce, us, rfl, hnt, hn41, ho, hnm, hd3⟩
    have hdd := ((DW.start HD5.out.s).drew HDs.out).then_ hd3
    replace b5 := hdd.cell b5 (by omega)
    have HNT := Lib.hid hnt
    have HNE : Hid (NestT w7 w.heap.size ⟨⟨d.l.tg, us⟩, some ⟨g, 0, none⟩, ce⟩) := Lib.hid (by
      show w7.ownsRow _ _ 3 (Value.slice (some ⟨g, 0, none⟩) us.length ce) us.length _
      rw [← HNT.out]
      exact own_mono ho HD5.out.g.size)
    have HNZ : Hid ((d.l.tg.size ≤ 1048576) ∧ TmOk us) := Lib.hid ⟨(HZ.out.d d (List.mem_of_getElem? HDK.out)).1, by rw [← HNT.out]; omega, hnm⟩
    have HCE : Hid (d.cells.set 1 (.slice (some ⟨g, 0, none⟩) n ce) = LiD.cells ⟨⟨d.l.tg, us⟩, some ⟨g, 0, none⟩, ce⟩) := Lib.hid (by
      show [_, _] = [_, Value.slice (some ⟨g, 0, none⟩) us.length ce]
      rw [← HNT.out])
    have HR7 := Lib.hid (HR5.out.dw hdd hBl)
    have HP7 : Hid (PBox _ _ _ _) := Lib.hid (hdd.own HP5.out hBl)
    have HX7 : Hid (PBox _ _ _ _) := Lib.hid (hdd.own2 HX5.out (fun q hq e => by simp only [Value.ownBlock, Option.some.injEq] at hq; omega))
    have HD7 := Lib.hid (HD5.out.then_ hdd)
    clear HR5 HP5 HX5 HD5
    clear hd3 hdd hnt hnm ho
    go_wp2
    clear hHeld
    refine hK.out _ _ (.inr (by exact b5)) (fun hHeld => ?_)
    clear hK K
    try simp only [Act.put, List.setIfInBounds_toArray, List.set_cons_zero, List.set_cons_succ]
    refine rgE_take (v := ?_) 5 12 rfl (by kernel_rfl) (by kernel_rfl) (by kernel_rfl) (by kernel_rfl) (by kernel_rfl) (fun _ _ _ h => h) (by kernel_rfl) ?_ (by assumption) ?_
    rotate_left
    · (intro w' hSw; (try dsimp only at hSw); go_simp; first | done | with_reducible rfl)
    simp only [Act.put, List.setIfInBounds_toArray, List.set_cons_zero, List.set_cons_succ]
    refine rgE_take (v := ?_) 6 12 rfl (by kernel_rfl) (by kernel_rfl) (by kernel_rfl) (by kernel_rfl) (by kernel_rfl) (fun _ _ _ h => h) (by kernel_rfl) ?_ (by assumption) ?_
    rotate_left
    · (intro w' hSw; (try dsimp only at hSw); go_simp; first | done | with_reducible rfl)
    simp only [Act.put, List.setIfInBounds_toArray, List.set_cons_zero, List.set_cons_succ]
    have hst := HR7.out.l.stored (k * 2 + 1) (.slice (some ⟨g, 0, none⟩) n ce)
    rw [lid_set (i := 1) (by decide) (.slice (some ⟨g, 0, none⟩) n ce) ⟨⟨d.l.tg, us⟩, some ⟨g, 0, none⟩, ce⟩ ds k d HDK.out HCE.out] at hst
    obtain ⟨o0, e0⟩ := own_cell HR7.out.l (j := k * 2 + 1) (by omega)
    have f0 := HR7.out.l.frozenAt (k * 2 + 1)
    have HRt : Hid (PRows (w7.setCell ⟨lb, k * 2 + 1, none⟩ (.slice (some ⟨g, 0, none⟩) n ce)) w.heap.size a1 a2 a3 (some ⟨lb, 0, none⟩) c1 c2 c3 c4 n1 n2 n3 n4 ins vs os (ds.set k ⟨⟨d.l.tg, us⟩, some ⟨g, 0, none⟩, ce⟩)) := Lib.hid (HR7.out.put hst.2 hst.1 (fun d2 hd2 => (List.mem_or_eq_of_mem_set hd2).elim (HR7.out.d d2) (fun e => e ▸ HNE.out)))
    have HPt : Hid (PBox (w7.setCell ⟨lb, k * 2 + 1, none⟩ (.slice (some ⟨g, 0, none⟩) n ce)) _ _ _) := Lib.hid (own_keep HP7.out HR7.out.l (by decide) hst.2)
    have HXt : Hid (PBox (w7.setCell ⟨lb, k * 2 + 1, none⟩ (.slice (some ⟨g, 0, none⟩) n ce)) _ _ _) := Lib.hid (own_keep HX7.out HR7.out.l (by decide) hst.2)
    have HDt : Hid (DW B w (w7.setCell ⟨lb, k * 2 + 1, none⟩ (.slice (some ⟨g, 0, none⟩) n ce))) := Lib.hid (HD7.out.far hBl hst.2 (fun q hq => by simp only [Option.some.injEq] at hq; have := (HR7.out.l.lt lb rfl).1; omega))
    clear hst HR7 HP7 HX7 HD7 b5
    refine rgE_last rfl (by kernel_rfl) (by kernel_rfl) (by kernel_rfl) (fun K hK => ?_)
    go_simp
    clear hHeld
    refine hK.out _ _ ?_
    clear hK K
    try simp only [Act.put, List.setIfInBounds_toArray, List.set_cons_zero, List.set_cons_succ]
    generalize w7.setCell ⟨lb, k * 2 + 1, none⟩ (.slice (some ⟨g, 0, none⟩) n ce) = w8 at *
    clear o0 e0 f0
    go_upto_region 26 with (fail)
    obtain ⟨⟨b0, b1, b2, b3, b4, b5⟩, _, hltb⟩ := PBox.c HPt.out
    obtain ⟨⟨y0, y1, y2, y3, y4, y5⟩, ⟨f0, f1, f2, f3, f4, f5⟩, hlta⟩ := PBox.c HXt.out
    have hz := PBox.fill HXt.out (.string nm) (.slice a1 n1 c1) (.slice a2 n2 c2) (.slice a3 n3 c3) (.string gd) (.slice (some ⟨lb, 0, none⟩) n4 c4)
    have YR := Lib.hid (HRt.out.box HXt.out hz.2)
    have YD := Lib.hid (HDt.out.far hBl hz.2 (fun q hq => by simp only [Option.some.injEq] at hq; omega))
    have YC := Lib.hid hz.1
    have YZ : Hid (PSizes nm gd ins vs os (ds.set k ⟨⟨d.l.tg, us⟩, some ⟨g, 0, none⟩, ce⟩)) := Lib.hid ⟨HZ.out.n, HZ.out.g, HZ.out.i, HZ.out.v, HZ.out.o, by rw [List.length_set]; exact HZ.out.l, fun d2 hd2 => (List.mem_or_eq_of_mem_set hd2).elim (HZ.out.d d2) (fun e => e ▸ HNZ.out)⟩
    obtain ⟨WF, hWF⟩ : ∃ WF, WF = ((((((w8.setCell ⟨w.heap.size, 0, none⟩ (.string nm)).setCell ⟨w.heap.size, 1, none⟩ (.slice a1 n1 c1)).setCell ⟨w.heap.size, 2, none⟩ (.slice a2 n2 c2)).setCell ⟨w.heap.size, 3, none⟩ (.slice a3 n3 c3)).setCell ⟨w.heap.size, 4, none⟩ (.string gd)).setCell ⟨w.heap.size, 5, none⟩ (.slice (some ⟨lb, 0, none⟩) n4 c4)) := ⟨_, rfl⟩
    rw [← hWF] at YR YD YC
    have HF := Lib.hid hWF
    clear hWF hz HRt HPt HXt HDt
    go_wp2_with (fail)
    rw [← HF.out]
    obtain ⟨⟨r0, r1, r2, r3, r4, r5⟩, _⟩ := PBox.c YC.out
    clear y0 y1 y2 y3 y4 y5 b0 b1 b2 b3 b4 b5 f0 f1 f2 f3 f4 f5
    refine bodyPost_ret (v := .agg #[.string nm, .slice a1 n1 c1, .slice a2 n2 c2, .slice a3 n3 c3, .string gd, .slice (some ⟨lb, 0, none⟩) n4 c4]) (by simp [results, Tryz.results85, go_sem, r0, r1, r2, r3, r4, r5]) rfl (YR.out.prog YZ.out trivial YD.out)
  by_cases hc5 : r = 5
  · subst hc5
    obtain ⟨⟨_, b1, _, _, _, _⟩, _, _⟩ := PBox.c HP5.out
    go_wp2_with (fail)
    go_loopw [5] (fun u wr => ∃ (A : Option Addr) (n c : Nat) (L : List ByteArray), n ≤ 1048576 ∧ u = .slice A n c ∧ Hid (wr.ownsRow w.heap.size 9 1 (.slice A n c) n (sts L)) ∧ Hid (∀ s ∈ L, s.size ≤ 1048576) ∧ Hid (SepI A a2 a3) ∧ Hid (PRows wr w.heap.size none a2 a3 a4 0 c2 c3 c4 0 n2 n3 n4 [] vs os ds)
        ∧ Hid (PBox wr w.heap.size pb [.string nm, .slice a1 n1 c1, .slice a2 n2 c2, .slice a3 n3 c3, .string gd, .slice a4 n4 c4]) ∧ Hid (PBox wr w.heap.size w.heap.size [.string ⟨#[]⟩, .slice none 0 0, .slice none 0 0, .slice none 0 0, .string ⟨#[]⟩, .slice none 0 0]) ∧ Hid (DW B w wr)) (fun u _ => 22 - lenV u)
    case atStart => exact ⟨a1, n1, c1, ins, by have := HR5.out.i.1; rw [sts_length] at this; have := HZ.out.i.1; omega, rfl, Lib.hid HR5.out.i, Lib.hid HZ.out.i.2, HSEP, Lib.hid ⟨own_nil, HR5.out.v, HR5.out.o, HR5.out.l, HR5.out.d⟩, HP5, HX5, HD5⟩
    case round =>
      clear b1 HR5 HP5 HX5 HD5 HDs hltp
      obtain ⟨A, n, c, L, hnb, rfl, ho, hsz, hsep, hrr, hbp, hbx, hdw⟩ := hrel
      go_wp2_with (fail)
      refine (c_NextD B 2 _ hdw.out.s (by omega)).mono ?_
      rintro e w6 ⟨r5, rfl, hq0, hq1, _, hd3⟩
      have hq2 := hq1 (by omega)
      have HO6 := Lib.hid (hd3.own ho.out hBl)
      have HR6 := Lib.hid (hrr.out.dw hd3 hBl)
      have HP6 : Hid (PBox _ _ _ _) := Lib.hid (hd3.own hbp.out hBl)
      have HX6 : Hid (PBox _ _ _ _) := Lib.hid (hd3.own2 hbx.out (fun q hq e => by simp only [Value.ownBlock, Option.some.injEq] at hq; omega))
      have HD6 := Lib.hid (hdw.out.then_ hd3)
      clear hd3 hq1 ho hrr hbp hbx hdw
      have hw5 : IntKind.i64.wrap (20 + r5) = 20 + r5 := IntWalk.i64_in _ (by omega)
      by_cases hlt : (n : Int) < 20 + r5
      · go_wp2_with (fail)
        refine (c_l01Dec n (by omega) _).mono ?_
        rintro e w7 ⟨s, rfl, hs, hb7⟩
        have hss := size_list hs
        have hdl := dec_len 17 n (by omega)
        have hs18 : s.size ≤ 18 := by omega
        have had := add_str ⟨#[105]⟩ s (by have e1 : (⟨#[105]⟩ : ByteArray).size = 1 := rfl; omega)
        have HSS : Hid ((⟨#[105]⟩ ++ s : ByteArray).size ≤ 1048576) := Lib.hid (by rw [ByteArray.size_append]; have e1 : (⟨#[105]⟩ : ByteArray).size = 1 := rfl; omega)
        have HO7 := Lib.hid (own_below HO6.out hb7)
        have HR7 := Lib.hid (HR6.out.below hb7)
        have HP7 : Hid (PBox _ _ _ _) := Lib.hid (own_below HP6.out hb7)
        have HX7 : Hid (PBox _ _ _ _) := Lib.hid (own_below HX6.out hb7)
        have HD7 := Lib.hid (HD6.out.below hBl hb7)
        clear HR6 HP6 HX6 HD6
        clear hb7 hs hss hdl HO6
        generalize (⟨#[105]⟩ ++ s : ByteArray) = y at *
        have BA := below_alloc (Below.refl w7.heap.size w7) (.cells #[.string y] 9)
        go_wp2_with (first
          | (at_builtin
             refine wpList_push_st2 _ rfl (.tmp 74) (.tmp 79) rfl w.heap.size (.slice A n c) n L y w7.heap.size 1 rfl (own_below HO7.out BA) rfl (by go_simp) (by omega) (by have := HD7.out.g.size; simp; omega) ?_
             intro v8 w8 hown hgrow hbl
             obtain ⟨A8, c8, rfl⟩ := own_shape hown
             have HO8 := Lib.hid hown
             rw [ob, ob] at hbl
             have HS8 : Hid (SepI A8 a2 a3) := Lib.hid (fun b hb => ⟨sep_next hbl (fun b hb => (hsep.out b hb).1) (fun b hb => by have := (HR7.out.v.lt b ((ob _ _ _).trans hb)).2; simp; omega) b hb, sep_next hbl (fun b hb => (hsep.out b hb).2) (fun b hb => by have := (HR7.out.o.lt b ((ob _ _ _).trans hb)).2; simp; omega) b hb⟩)
             have HR8 := Lib.hid ((HR7.out.below BA).grow (own_below HO7.out BA) hgrow hsep.out)
             have HP8 : Hid (PBox w8 w.heap.size pb [.string nm, .slice a1 n1 c1, .slice a2 n2 c2, .slice a3 n3 c3, .string gd, .slice a4 n4 c4]) := Lib.hid (own_keep (own_below HP7.out BA) (own_below HO7.out BA) (by decide) hgrow)
             have HX8 : Hid (PBox w8 w.heap.size w.heap.size [.string ⟨#[]⟩, .slice none 0 0, .slice none 0 0, .slice none 0 0, .string ⟨#[]⟩, .slice none 0 0]) := Lib.hid (own_keep (own_below HX7.out BA) (own_below HO7.out BA) (by decide) hgrow)
             have HD8 := Lib.hid ((HD7.out.below hBl BA).far hBl hgrow (fun q hq => (HO7.out.lt q hq).1))
             clear hown hgrow hbl HO7 HR7 HP7 HX7 HD7)
          )
        go_roundw
        case rel => exact ⟨A8, n + 1, c8, L ++ [y], by omega, rfl, HO8, Lib.hid (fun t ht => (List.mem_append.1 ht).elim (hsz.out t) (fun e => by rw [List.mem_singleton] at e; subst e; exact HSS.out)), HS8, HR8, HP8, HX8, HD8⟩
        case measure => simp [lenV]; omega
      · have hp := PBox.put HP6.out 1 (.slice A n c)
        obtain ⟨⟨b0, b1, b2, b3, b4, b5⟩, ⟨f0, f1, f2, f3, f4, f5⟩, hltb⟩ := PBox.c HP6.out
        have hx1 : pb ≠ w.heap.size := by omega
        have HRt : Hid (PRows (w6.setCell ⟨pb, 1, none⟩ (.slice A n c)) w.heap.size A a2 a3 a4 c c2 c3 c4 n n2 n3 n4 L vs os ds) := Lib.hid (PRows.box ⟨HO6.out, HR6.out.v, HR6.out.o, HR6.out.l, HR6.out.d⟩ HP6.out hp.2)
        have HPt : Hid (PBox (w6.setCell ⟨pb, 1, none⟩ (.slice A n c)) w.heap.size pb [.string nm, .slice A n c, .slice a2 n2 c2, .slice a3 n3 c3, .string gd, .slice a4 n4 c4]) := Lib.hid hp.1
        have HXt := Lib.hid (HX6.out.keep hp.2 (by omega))
        have HDt := Lib.hid (HD6.out.far hBl hp.2 (fun q hq => by simp only [Option.some.injEq] at hq; omega))
        have hnl : L.length = n := by have := HO6.out.1; rw [sts_length] at this; omega
        have HLZ : Hid (L.length ≤ 1048576) := Lib.hid (by omega)
        clear hp HR6 HP6 HX6 HD6 HO6 hnl
        go_upto_region 26 with (fail)
        generalize w6.setCell ⟨pb, 1, none⟩ (.slice A n c) = w7 at *
        clear b0 b1 b2 b3 b4 b5 f0 f1 f2 f3 f4 f5 hltb
        obtain ⟨⟨b0, b1, b2, b3, b4, b5⟩, _, hltb⟩ := PBox.c HPt.out
        obtain ⟨⟨y0, y1, y2, y3, y4, y5⟩, ⟨f0, f1, f2, f3, f4, f5⟩, hlta⟩ := PBox.c HXt.out
        have hz := PBox.fill HXt.out (.string nm) (.slice A n c) (.slice a2 n2 c2) (.slice a3 n3 c3) (.string gd) (.slice a4 n4 c4)
        have YR := Lib.hid (HRt.out.box HXt.out hz.2)
        have YD := Lib.hid (HDt.out.far hBl hz.2 (fun q hq => by simp only [Option.some.injEq] at hq; omega))
        have YC := Lib.hid hz.1
        have YZ : Hid (PSizes nm gd L vs os ds) := Lib.hid ⟨HZ.out.n, HZ.out.g, ⟨HLZ.out, hsz.out⟩, HZ.out.v, HZ.out.o, HZ.out.l, HZ.out.d⟩
        obtain ⟨WF, hWF⟩ : ∃ WF, WF = ((((((w7.setCell ⟨w.heap.size, 0, none⟩ (.string nm)).setCell ⟨w.heap.size, 1, none⟩ (.slice A n c)).setCell ⟨w.heap.size, 2, none⟩ (.slice a2 n2 c2)).setCell ⟨w.heap.size, 3, none⟩ (.slice a3 n3 c3)).setCell ⟨w.heap.size, 4, none⟩ (.string gd)).setCell ⟨w.heap.size, 5, none⟩ (.slice a4 n4 c4)) := ⟨_, rfl⟩
        rw [← hWF] at YR YD YC
        have HF := Lib.hid hWF
        clear hWF hz HRt HPt HXt HDt
        go_wp2_with (fail)
        rw [← HF.out]
        obtain ⟨⟨r0, r1, r2, r3, r4, r5⟩, _⟩ := PBox.c YC.out
        clear y0 y1 y2 y3 y4 y5 b0 b1 b2 b3 b4 b5 f0 f1 f2 f3 f4 f5
        refine bodyPost_ret (v := .agg #[.string nm, .slice A n c, .slice a2 n2 c2, .slice a3 n3 c3, .string gd, .slice a4 n4 c4]) (by simp [results, Tryz.results85, go_sem, r0, r1, r2, r3, r4, r5]) rfl (YR.out.prog YZ.out trivial YD.out)
  by_cases hc6 : r = 6
  · subst hc6
    obtain ⟨lb0, lc0, e9, _, _⟩ := HR5.out.l.form (by omega)
    simp only [Value.slice.injEq, true_and] at e9
    obtain ⟨rfl, rfl⟩ := e9
    obtain ⟨⟨_, _, _, _, _, b5⟩, _, _⟩ := PBox.c HP5.out
    go_wp2_with (fail)
    go_loopw [6] (fun u wr => ∃ (lb n c : Nat) (us : List LiD), 1 ≤ n ∧ n ≤ 1048576 ∧ u = .slice (some ⟨lb, 0, none⟩) n c ∧ Hid (PRows wr w.heap.size a1 a2 a3 (some ⟨lb, 0, none⟩) c1 c2 c3 c n1 n2 n3 n ins vs os us) ∧ Hid (∀ d ∈ us, d.l.tg.size ≤ 1048576 ∧ TmOk d.l.ts)
        ∧ Hid (PBox wr w.heap.size pb [.string nm, .slice a1 n1 c1, .slice a2 n2 c2, .slice a3 n3 c3, .string gd, .slice (some ⟨lb0, 0, none⟩) n4 c4]) ∧ Hid (PBox wr w.heap.size w.heap.size [.string ⟨#[]⟩, .slice none 0 0, .slice none 0 0, .slice none 0 0, .string ⟨#[]⟩, .slice none 0 0]) ∧ Hid (DW B w wr)) (fun u _ => 42 - lenV u)
    case atStart => exact ⟨lb0, n4, c4, ds, hF1, by omega, rfl, HR5, Lib.hid HZ.out.d, HP5, HX5, HD5⟩
    case round =>
      clear b5 HR5 HP5 HX5 HD5 HDs hltp
      obtain ⟨lb, n, c, us, hn1, hnb, rfl, hrr, hsz, hbp, hbx, hdw⟩ := hrel
      go_wp2_with (fail)
      refine (c_NextD B 2 _ hdw.out.s (by omega)).mono ?_
      rintro e w6 ⟨r5, rfl, hq0, hq1, _, hd3⟩
      have hq2 := hq1 (by omega)
      have HR6 := Lib.hid (hrr.out.dw hd3 hBl)
      have HP6 : Hid (PBox _ _ _ _) := Lib.hid (hd3.own hbp.out hBl)
      have HX6 : Hid (PBox _ _ _ _) := Lib.hid (hd3.own2 hbx.out (fun q hq e => by simp only [Value.ownBlock, Option.some.injEq] at hq; omega))
      have HD6 := Lib.hid (hdw.out.then_ hd3)
      clear hd3 hq1 hrr hbp hbx hdw
      have hw5 : IntKind.i64.wrap (40 + r5) = 40 + r5 := IntWalk.i64_in _ (by omega)
      have hul : us.length = n := by have := HR6.out.l.1; rw [lidCells_length] at this; omega
      have HUL := Lib.hid hul
      clear hul
      by_cases hlt : (n : Int) < 40 + r5
      · obtain ⟨d, hd⟩ : ∃ d, us[0]? = some d := ⟨_, List.getElem?_eq_getElem (by have := HUL.out; omega)⟩
        have HDK := Lib.hid (List.mem_of_getElem? hd)
        obtain ⟨u0, u1⟩ := lidCells_at hd
        have g0 : w6.cell? ⟨lb, 0, none⟩ = some (.string d.l.tg) := (HR6.out.l.cellAt 0 (by omega)).trans u0
        have g1 : w6.cell? ⟨lb, 1, none⟩ = some d.v := (HR6.out.l.cellAt 1 (by omega)).trans u1
        have hn0 : (0 : Int) < (n : Int) := by omega
        clear hd u0 u1
        have HV : ∃ dv, Hid (d.v = dv) := ⟨d.v, Lib.hid rfl⟩
        obtain ⟨ad, nd, cd, hdv⟩ : ∃ ad nd cd, Hid (d.v = .slice ad nd cd) := ⟨d.a, d.l.ts.length, d.c, Lib.hid rfl⟩
        rw [hdv.out] at g1
        obtain ⟨tg, htg⟩ : ∃ tg, Hid (d.l.tg = tg) := ⟨_, Lib.hid rfl⟩
        rw [htg.out] at g0
        have BA := below_alloc (Below.refl w6.heap.size w6) (.cells #[.string tg, .slice ad nd cd] 80)
        clear HV
        go_wp2_with (first
          | (at_builtin
             refine wpList_push_ln _ rfl (.tmp 93) (.tmp 97) rfl w.heap.size (.slice (some ⟨lb, 0, none⟩) n c) n us d w6.heap.size 1 rfl (own_below HR6.out.l BA) rfl (by rw [htg.out]; go_simp) (by rw [hdv.out]; go_simp) (by omega) (by have := HD6.out.g.size; simp; omega) ?_
             intro v8 w8 hown hgrow hbl
             obtain ⟨lb8, c8, rfl, _, _⟩ := hown.form (by omega)
             have HR8 := Lib.hid ((HR6.out.below BA).put hgrow hown (fun d2 hd2 => (HR6.out.below BA).d d2 ((List.mem_append.1 hd2).elim id (fun e => by rw [List.mem_singleton] at e; subst e; exact HDK.out))))
             have HP8 : Hid (PBox w8 w.heap.size pb [.string nm, .slice a1 n1 c1, .slice a2 n2 c2, .slice a3 n3 c3, .string gd, .slice (some ⟨lb0, 0, none⟩) n4 c4]) := Lib.hid (own_keep (own_below HP6.out BA) (own_below HR6.out.l BA) (by decide) hgrow)
             have HX8 : Hid (PBox w8 w.heap.size w.heap.size [.string ⟨#[]⟩, .slice none 0 0, .slice none 0 0, .slice none 0 0, .string ⟨#[]⟩, .slice none 0 0]) := Lib.hid (own_keep (own_below HX6.out BA) (own_below HR6.out.l BA) (by decide) hgrow)
             have HD8 := Lib.hid ((HD6.out.below hBl BA).far hBl hgrow (fun q hq => (HR6.out.l.lt q hq).1))
             clear hown hgrow hbl HR6 HP6 HX6 HD6)
          )
        go_roundw
        case rel => exact ⟨lb8, n + 1, c8, us ++ [d], by omega, by omega, rfl, HR8, Lib.hid (fun t ht => (List.mem_append.1 ht).elim (hsz.out t) (fun e => by rw [List.mem_singleton] at e; subst e; exact hsz.out _ HDK.out)), HP8, HX8, HD8⟩
        case measure => simp [lenV]; omega
      · have hp := PBox.put HP6.out 5 (.slice (some ⟨lb, 0, none⟩) n c)
        obtain ⟨⟨b0, b1, b2, b3, b4, b5⟩, ⟨f0, f1, f2, f3, f4, f5⟩, hltb⟩ := PBox.c HP6.out
        have HRt := Lib.hid (HR6.out.box HP6.out hp.2)
        have HPt : Hid (PBox (w6.setCell ⟨pb, 5, none⟩ (.slice (some ⟨lb, 0, none⟩) n c)) w.heap.size pb [.string nm, .slice a1 n1 c1, .slice a2 n2 c2, .slice a3 n3 c3, .string gd, .slice (some ⟨lb, 0, none⟩) n c]) := Lib.hid hp.1
        have HXt := Lib.hid (HX6.out.keep hp.2 (by omega))
        have HDt := Lib.hid (HD6.out.far hBl hp.2 (fun q hq => by simp only [Option.some.injEq] at hq; omega))
        have HLZ : Hid (us.length ≤ 1048576) := Lib.hid (by have := HUL.out; omega)
        clear hp HR6 HP6 HX6 HD6
        go_upto_region 26 with (fail)
        generalize w6.setCell ⟨pb, 5, none⟩ (.slice (some ⟨lb, 0, none⟩) n c) = w7 at *
        clear b0 b1 b2 b3 b4 b5 f0 f1 f2 f3 f4 f5 hltb
        obtain ⟨⟨b0, b1, b2, b3, b4, b5⟩, _, hltb⟩ := PBox.c HPt.out
        obtain ⟨⟨y0, y1, y2, y3, y4, y5⟩, ⟨f0, f1, f2, f3, f4, f5⟩, hlta⟩ := PBox.c HXt.out
        have hz := PBox.fill HXt.out (.string nm) (.slice a1 n1 c1) (.slice a2 n2 c2) (.slice a3 n3 c3) (.string gd) (.slice (some ⟨lb, 0, none⟩) n c)
        have YR := Lib.hid (HRt.out.box HXt.out hz.2)
        have YD := Lib.hid (HDt.out.far hBl hz.2 (fun q hq => by simp only [Option.some.injEq] at hq; omega))
        have YC := Lib.hid hz.1
        have YZ : Hid (PSizes nm gd ins vs os us) := Lib.hid ⟨HZ.out.n, HZ.out.g, HZ.out.i, HZ.out.v, HZ.out.o, HLZ.out, hsz.out⟩
        obtain ⟨WF, hWF⟩ : ∃ WF, WF = ((((((w7.setCell ⟨w.heap.size, 0, none⟩ (.string nm)).setCell ⟨w.heap.size, 1, none⟩ (.slice a1 n1 c1)).setCell ⟨w.heap.size, 2, none⟩ (.slice a2 n2 c2)).setCell ⟨w.heap.size, 3, none⟩ (.slice a3 n3 c3)).setCell ⟨w.heap.size, 4, none⟩ (.string gd)).setCell ⟨w.heap.size, 5, none⟩ (.slice (some ⟨lb, 0, none⟩) n c)) := ⟨_, rfl⟩
        rw [← hWF] at YR YD YC
        have HF := Lib.hid hWF
        clear hWF hz HRt HPt HXt HDt
        go_wp2_with (fail)
        rw [← HF.out]
        obtain ⟨⟨r0, r1, r2, r3, r4, r5⟩, _⟩ := PBox.c YC.out
        clear y0 y1 y2 y3 y4 y5 b0 b1 b2 b3 b4 b5 f0 f1 f2 f3 f4 f5
        refine bodyPost_ret (v := .agg #[.string nm, .slice a1 n1 c1, .slice a2 n2 c2, .slice a3 n3 c3, .string gd, .slice (some ⟨lb, 0, none⟩) n c]) (by simp [results, Tryz.results85, go_sem, r0, r1, r2, r3, r4, r5]) rfl (YR.out.prog YZ.out trivial YD.out)
  by_cases hc7 : r = 7
  · subst hc7
    obtain ⟨⟨_, _, b2, _, _, _⟩, _, _⟩ := PBox.c HP5.out
    have hvl : n2 = vs.length := by have := HR5.out.v.1; rw [sts_length] at this; omega
    have HVL := Lib.hid hvl
    have hv2 : n2 ≤ 1048576 := by have := HZ.out.v.1; omega
    clear hvl
    have HI5 := Lib.hid (fun b (hb : (Value.slice a1 n1 c1).ownBlock = some b) => (HR5.out.i.lt b hb).2)
    have HO5 := Lib.hid (fun b (hb : (Value.slice a3 n3 c3).ownBlock = some b) => (HR5.out.o.lt b hb).2)
    have BA := below_alloc (Below.refl w5.heap.size w5) (.cells #[] 9)
    go_wp2_with (first
      | (at_builtin
         refine app_strs _ rfl (.tmp 103) (.tmp 105) rfl w5.heap.size _ 0 [] rfl (own_lit0 w5) a2 n2 c2 vs rfl HVL.out (Rd.own (own_below HR5.out.v BA)) (own_none HR5.out.v) (by omega) (by simp) ?_
         intro v6 w6 hown hgrow
         rw [Nat.zero_add, List.nil_append] at hown
         obtain ⟨A6, c6, rfl⟩ := own_shape hown
         have HB6 := Lib.hid (below_of_grown BA hgrow (fun q hq => by cases hq; exact Nat.le_refl _))
         have HO6 := Lib.hid hown
         have HCL := Lib.hid (rd_litS w6 [⟨#[97]⟩, ⟨#[113]⟩, ⟨#[119]⟩, ⟨#[111, 110]⟩] 9 (by decide))
         have BA6 := below_alloc (Below.refl w6.heap.size w6) (.cells (sts [⟨#[97]⟩, ⟨#[113]⟩, ⟨#[119]⟩, ⟨#[111, 110]⟩]).toArray 9)
         clear hown hgrow)
      )
    have hbb : Below w5.heap.size w5 (w6.alloc (.cells (sts [⟨#[97]⟩, ⟨#[113]⟩, ⟨#[119]⟩, ⟨#[111, 110]⟩]).toArray 9)) := below_alloc HB6.out _
    have hs56 := HB6.out.size
    have hs5 := HD5.out.g.size
    have HR6 := Lib.hid (HR5.out.below hbb)
    have HP6 : Hid (PBox _ _ _ _) := Lib.hid (own_below HP5.out hbb)
    have HX6 : Hid (PBox _ _ _ _) := Lib.hid (own_below HX5.out hbb)
    have HD6 := Lib.hid (HD5.out.below hBl hbb)
    clear HR5 HP5 HX5 HD5
    refine (c_NextD B 4 _ HD6.out.s (by omega)).mono ?_
    rintro e w7 ⟨r3, rfl, hq0, hq1, _, hd3⟩
    have hq2 := hq1 (by omega)
    obtain ⟨k3, rfl⟩ : ∃ k : Nat, r3 = k := ⟨r3.toNat, by omega⟩
    obtain ⟨x, hx⟩ : ∃ x, ([⟨#[97]⟩, ⟨#[113]⟩, ⟨#[119]⟩, ⟨#[111, 110]⟩] : List ByteArray)[k3]? = some x := ⟨_, List.getElem?_eq_getElem (by show k3 < 4; omega)⟩
    have HXZ : Hid (x.size ≤ 1048576) := Lib.hid ((by decide : ∀ s ∈ ([⟨#[97]⟩, ⟨#[113]⟩, ⟨#[119]⟩, ⟨#[111, 110]⟩] : List ByteArray), s.size ≤ 1048576) x (List.mem_of_getElem? hx))
    obtain ⟨b, off, e, _, g0⟩ := (HCL.out.dw hd3 (fun b off e => by cases e; omega)).st hx
    simp only [Option.some.injEq, Addr.mk.injEq, and_true] at e
    obtain ⟨rfl, rfl⟩ := e
    simp only [Nat.zero_add] at g0
    have HO7 := Lib.hid (hd3.own (own_below HO6.out BA6) (show B < w5.heap.size from HDs.out))
    have hs37 := hd3.g.size
    have HR7 := Lib.hid (HR6.out.dw hd3 hBl)
    have HP7 : Hid (PBox _ _ _ _) := Lib.hid (hd3.own HP6.out hBl)
    have HX7 : Hid (PBox _ _ _ _) := Lib.hid (hd3.own2 HX6.out (fun q hq e => by simp only [Value.ownBlock, Option.some.injEq] at hq; omega))
    have HD7 := Lib.hid (HD6.out.then_ hd3)
    clear HR6 HP6 HX6 HD6
    clear hd3 hq1 hx HCL BA BA6 b2 hbb HO6 HB6
    have hx1 : pb ≠ w.heap.size := by omega
    have BA7 := below_alloc (Below.refl w7.heap.size w7) (.cells #[.string x] 9)
    go_upto_region 26 with (first
      | (at_builtin
         refine wpList_push_st2 _ rfl (.tmp 106) (.tmp 112) rfl w5.heap.size (.slice A6 n2 c6) n2 vs x w7.heap.size 1 rfl (own_below HO7.out BA7) rfl (by go_simp) (by omega) (by simp at hs37 ⊢; omega) ?_
         intro v8 w8 hown hgrow hbl
         obtain ⟨A8, c8, rfl⟩ := own_shape hown
         have HR8 : Hid (PRows w8 w.heap.size a1 A8 a3 a4 c1 c8 c3 c4 n1 (n2 + 1) n3 n4 ins (vs ++ [x]) os ds) := Lib.hid ⟨kept_sep (own_below HR7.out.i BA7) hgrow (fun b hb e => by have h1 := HI5.out b e; have h2 := (HO7.out.lt b hb).1; omega), own_mono hown hs5, kept_sep (own_below HR7.out.o BA7) hgrow (fun b hb e => by have h1 := HO5.out b e; have h2 := (HO7.out.lt b hb).1; omega), own_keep (own_below HR7.out.l BA7) (own_below HO7.out BA7) (by decide) hgrow, fun d hd => own_keep (own_below (HR7.out.d d hd) BA7) (own_below HO7.out BA7) (by decide) hgrow⟩
         have HP8 : Hid (PBox w8 _ _ _) := Lib.hid (own_keep (own_below HP7.out BA7) (own_below HO7.out BA7) (by decide) hgrow)
         have HX8 : Hid (PBox w8 _ _ _) := Lib.hid (own_keep (own_below HX7.out BA7) (own_below HO7.out BA7) (by decide) hgrow)
         have HD8 := Lib.hid ((HD7.out.below hBl BA7).far hBl hgrow (fun q hq => by have := (HO7.out.lt q hq).1; omega))
         obtain ⟨⟨b0, b1, b2, b3, b4, b5⟩, ⟨f0, f1, f2, f3, f4, f5⟩, hltb⟩ := PBox.c HP8.out
         clear hown hgrow hbl HR7 HP7 HX7 HD7 HO7)
      )
    have hp := PBox.put HP8.out 2 (.slice A8 (n2 + 1) c8)
    have HRt := Lib.hid (HR8.out.box HP8.out hp.2)
    have HPt : Hid (PBox (w8.setCell ⟨pb, 2, none⟩ (.slice A8 (n2 + 1) c8)) w.heap.size pb [.string nm, .slice a1 n1 c1, .slice A8 (n2 + 1) c8, .slice a3 n3 c3, .string gd, .slice a4 n4 c4]) := Lib.hid hp.1
    have HXt : Hid (PBox _ _ _ _) := Lib.hid (HX8.out.keep hp.2 hx1)
    have HDt := Lib.hid (HD8.out.far hBl hp.2 (fun q hq => by simp only [Option.some.injEq] at hq; omega))
    have HLZ : Hid (StOk (vs ++ [x])) := Lib.hid ⟨by rw [List.length_append]; have := HVL.out; show vs.length + 1 ≤ _; omega, fun t ht => (List.mem_append.1 ht).elim (HZ.out.v.2 t) (fun e => by rw [List.mem_singleton] at e; subst e; exact HXZ.out)⟩
    clear hp HR8 HP8 HX8 HD8
    generalize w8.setCell ⟨pb, 2, none⟩ (.slice A8 (n2 + 1) c8) = w9 at *
    clear b0 b1 b2 b3 b4 b5 f0 f1 f2 f3 f4 f5 hltb
    obtain ⟨⟨b0, b1, b2, b3, b4, b5⟩, _, hltb⟩ := PBox.c HPt.out
    obtain ⟨⟨y0, y1, y2, y3, y4, y5⟩, ⟨f0, f1, f2, f3, f4, f5⟩, hlta⟩ := PBox.c HXt.out
    have hz := PBox.fill HXt.out (.string nm) (.slice a1 n1 c1) (.slice A8 (n2 + 1) c8) (.slice a3 n3 c3) (.string gd) (.slice a4 n4 c4)
    have YR := Lib.hid (HRt.out.box HXt.out hz.2)
    have YD := Lib.hid (HDt.out.far hBl hz.2 (fun q hq => by simp only [Option.some.injEq] at hq; omega))
    have YC := Lib.hid hz.1
    have YZ : Hid (PSizes nm gd ins (vs ++ [x]) os ds) := Lib.hid ⟨HZ.out.n, HZ.out.g, HZ.out.i, HLZ.out, HZ.out.o, HZ.out.l, HZ.out.d⟩
    obtain ⟨WF, hWF⟩ : ∃ WF, WF = ((((((w9.setCell ⟨w.heap.size, 0, none⟩ (.string nm)).setCell ⟨w.heap.size, 1, none⟩ (.slice a1 n1 c1)).setCell ⟨w.heap.size, 2, none⟩ (.slice A8 (n2 + 1) c8)).setCell ⟨w.heap.size, 3, none⟩ (.slice a3 n3 c3)).setCell ⟨w.heap.size, 4, none⟩ (.string gd)).setCell ⟨w.heap.size, 5, none⟩ (.slice a4 n4 c4)) := ⟨_, rfl⟩
    rw [← hWF] at YR YD YC
    have HF := Lib.hid hWF
    clear hWF hz HRt HPt HXt HDt
    go_wp2_with (fail)
    rw [← HF.out]
    obtain ⟨⟨r0, r1, r2, r3, r4, r5⟩, _⟩ := PBox.c YC.out
    clear y0 y1 y2 y3 y4 y5 b0 b1 b2 b3 b4 b5 f0 f1 f2 f3 f4 f5
    refine bodyPost_ret (v := .agg #[.string nm, .slice a1 n1 c1, .slice A8 (n2 + 1) c8, .slice a3 n3 c3, .string gd, .slice a4 n4 c4]) (by simp [results, Tryz.results85, go_sem, r0, r1, r2, r3, r4, r5]) rfl (YR.out.prog YZ.out trivial YD.out)
  have g0 : (r == 0) = false := by simpa using hc0
  have g1 : (r == 1) = false := by simpa using hc1
  have g2 : (r == 2) = false := by simpa using hc2
  have g3 : (r == 3) = false := by simpa using hc3
  have g4 : (r == 4) = false := by simpa using hc4
  have g5 : (r == 5) = false := by simpa using hc5
  have g6 : (r == 6) = false := by simpa using hc6
  have g7 : (r == 7) = false := by simpa using hc7
  clear hc0 hc1 hc2 hc3 hc4 hc5 hc6 hc7
  have HRt := HR5
  have HPt := HP5
  have HXt := HX5
  have HDt := HD5
  clear HR5 HP5 HX5 HD5
  go_upto_region 26 with (fail)
  obtain ⟨⟨b0, b1, b2, b3, b4, b5⟩, _, hltb⟩ := PBox.c HPt.out
  obtain ⟨⟨y0, y1, y2, y3, y4, y5⟩, ⟨f0, f1, f2, f3, f4, f5⟩, hlta⟩ := PBox.c HXt.out
  have hz := PBox.fill HXt.out (.string nm) (.slice a1 n1 c1) (.slice a2 n2 c2) (.slice a3 n3 c3) (.string gd) (.slice a4 n4 c4)
  have YR := Lib.hid (HRt.out.box HXt.out hz.2)
  have YD := Lib.hid (HDt.out.far hBl hz.2 (fun q hq => by simp only [Option.some.injEq] at hq; omega))
  have YC := Lib.hid hz.1
  have YZ : Hid (PSizes nm gd ins vs os ds) := Lib.hid HZ.out
  obtain ⟨WF, hWF⟩ : ∃ WF, WF = ((((((w5.setCell ⟨w.heap.size, 0, none⟩ (.string nm)).setCell ⟨w.heap.size, 1, none⟩ (.slice a1 n1 c1)).setCell ⟨w.heap.size, 2, none⟩ (.slice a2 n2 c2)).setCell ⟨w.heap.size, 3, none⟩ (.slice a3 n3 c3)).setCell ⟨w.heap.size, 4, none⟩ (.string gd)).setCell ⟨w.heap.size, 5, none⟩ (.slice a4 n4 c4)) := ⟨_, rfl⟩
  rw [← hWF] at YR YD YC
  have HF := Lib.hid hWF
  clear hWF hz HRt HPt HXt HDt
  go_wp2_with (fail)
  rw [← HF.out]
  obtain ⟨⟨r0, r1, r2, r3, r4, r5⟩, _⟩ := PBox.c YC.out
  clear y0 y1 y2 y3 y4 y5 b0 b1 b2 b3 b4 b5 f0 f1 f2 f3 f4 f5
  refine bodyPost_ret (v := .agg #[.string nm, .slice a1 n1 c1, .slice a2 n2 c2, .slice a3 n3 c3, .string gd, .slice a4 n4 c4]) (by simp [results, Tryz.results85, go_sem, r0, r1, r2, r3, r4, r5]) rfl (YR.out.prog YZ.out trivial YD.out)
end Go.Proofs.YteengjcplmjakaaGreatDoor

/- Draws of programs with names (printed by DnR.py). Condition: at most 4096 bytes of code. -/
namespace Go.Proofs.YteengjcplmjakaaGreatDoor
open Go.RowKit

theorem ProgP.mono {F G : Prg → Option Addr → Option Addr → Option Addr → Prop} {B : Nat} {w w' : World} {e : Ending} (h : ProgP F B w e w') (hfg : ∀ p a b c, F p a b c → G p a b c) : ProgP G B w e w' := by
  obtain ⟨p, a1, a2, a3, a4, c1, c2, c3, c4, ds, h1, h2, h3, h4, h5⟩ := h
  exact ⟨p, a1, a2, a3, a4, c1, c2, c3, c4, ds, h1, h2, h3, hfg _ _ _ _ h4, h5⟩
theorem Bytes.later {w w' : World} {B B' n : Nat} {A : Option Addr} (h : Bytes w B A n) (hb : Below w.heap.size w w') (hle : B ≤ B') : Bytes w' B' A n := by
  intro j hj
  obtain ⟨b, off, u, e, h1, h2, h3⟩ := h j hj
  exact ⟨b, off, u, e, by omega, h2, cell_later hb h3⟩
theorem DW.bel {B base : Nat} {w a b : World} (h : Below base w a) (hd : DW B a b) (hB : base ≤ B) (hs : w.heap.size = base) : Below base w b := by
  subst hs
  exact below_of_grown h hd.g (fun q hq => by simp only [Option.some.injEq] at hq; omega)
set_option maxHeartbeats 2000000 in
set_option maxRecDepth 100000 in
theorem c_l14Draw (B : Nat) (w : World) (h : Src w B) :
    Calls Tryz.prog 38 #[.pointer (some ⟨B, 0, none⟩)] w (ProgP (fun _ _ _ _ => True) B w) := by
  have hBl := h.lt
  have HS := Lib.hid (DW.start h)
  clear h
  have HX0 : Hid (PBox (w.alloc (.cells #[.string ⟨#[]⟩, .slice none 0 0, .slice none 0 0, .slice none 0 0, .string ⟨#[]⟩, .slice none 0 0] 27)) w.heap.size w.heap.size [.string ⟨#[]⟩, .slice none 0 0, .slice none 0 0, .slice none 0 0, .string ⟨#[]⟩, .slice none 0 0]) := Lib.hid (own_box w w.heap.size 27 [.string ⟨#[]⟩, .slice none 0 0, .slice none 0 0, .slice none 0 0, .string ⟨#[]⟩, .slice none 0 0] 6 rfl (Nat.le_refl _))
  have HS0 := Lib.hid (HS.out.alloc hBl (.cells #[.string ⟨#[]⟩, .slice none 0 0, .slice none 0 0, .slice none 0 0, .string ⟨#[]⟩, .slice none 0 0] 27))
  go_enter Tryz.func38, Tryz.ntmps38
  go_wp2_with (fail)
  refine (c_NextD B 4 _ HS0.out.s (by omega)).mono ?_
  rintro e w1 ⟨r, rfl, hr0, hr1, _, hd1⟩
  have HX1 : Hid (PBox _ _ _ _) := Lib.hid (hd1.own2 HX0.out (fun q hq e => by simp only [Value.ownBlock, Option.some.injEq] at hq; omega))
  have HS1 := Lib.hid (HS0.out.then_ hd1)
  have hsz1 : w.heap.size < w1.heap.size := by have := hd1.g.size; simp at this; omega
  clear hd1 hr1 HX0 HS0
  by_cases hr : r = 0
  · skip
    subst hr
    go_wp2_with (fail)
    refine (c_l13DrawAny B _ HS1.out.s).mono ?_
    rintro e w2 ⟨⟨nm, ins, vs, os, gd, ls⟩, a1, a2, a3, a4, c1, c2, c3, c4, ds, rfl, ho, hok, _, hd2⟩
    have HZ := Lib.hid (hok.sizes ho.e)
    have HX2 : Hid (PBox _ _ _ _) := Lib.hid (hd2.own2 HX1.out (fun q hq e => by simp only [Value.ownBlock, Option.some.injEq] at hq; omega))
    have HD2 := Lib.hid (HS1.out.then_ hd2)
    have HR2 : Hid (PRows w2 w.heap.size a1 a2 a3 a4 c1 c2 c3 c4 ins.length vs.length os.length ls.length ins vs os ds) := Lib.hid (ho.rows.mono (by show w.heap.size ≤ w1.heap.size; omega))
    dsimp only [pv] at HZ ⊢
    clear ho hok hd2 HX1 HS1
    generalize ins.length = n1 at *
    generalize vs.length = n2 at *
    generalize os.length = n3 at *
    generalize ls.length = n4 at *
    obtain ⟨⟨y0, y1, y2, y3, y4, y5⟩, ⟨f0, f1, f2, f3, f4, f5⟩, hlta⟩ := PBox.c HX2.out
    have hz := PBox.fill HX2.out (.string nm) (.slice a1 n1 c1) (.slice a2 n2 c2) (.slice a3 n3 c3) (.string gd) (.slice a4 n4 c4)
    have YR := Lib.hid (HR2.out.box HX2.out hz.2)
    have YD := Lib.hid (HD2.out.far hBl hz.2 (fun q hq => by simp only [Option.some.injEq] at hq; omega))
    have YC := Lib.hid hz.1
    obtain ⟨WF, hWF⟩ : ∃ WF, WF = ((((((w2.setCell ⟨w.heap.size, 0, none⟩ (.string nm)).setCell ⟨w.heap.size, 1, none⟩ (.slice a1 n1 c1)).setCell ⟨w.heap.size, 2, none⟩ (.slice a2 n2 c2)).setCell ⟨w.heap.size, 3, none⟩ (.slice a3 n3 c3)).setCell ⟨w.heap.size, 4, none⟩ (.string gd)).setCell ⟨w.heap.size, 5, none⟩ (.slice a4 n4 c4)) := ⟨_, rfl⟩
    rw [← hWF] at YR YD YC
    have HF := Lib.hid hWF
    clear hWF hz HR2 HX2 HD2
    go_wp2_with (fail)
    rw [← HF.out]
    obtain ⟨⟨r0, r1, r2, r3, r4, r5⟩, _⟩ := PBox.c YC.out
    clear y0 y1 y2 y3 y4 y5 f0 f1 f2 f3 f4 f5
    refine bodyPost_ret (v := .agg #[.string nm, .slice a1 n1 c1, .slice a2 n2 c2, .slice a3 n3 c3, .string gd, .slice a4 n4 c4]) (by simp [results, Tryz.results38, go_sem, r0, r1, r2, r3, r4, r5]) rfl (YR.out.prog HZ.out trivial YD.out)
  · skip
    have hr0 : (r == 0) = false := by simpa using hr
    go_wp2_with (fail)
    refine (c_l13Draw B _ HS1.out.s).mono ?_
    rintro e w2 ⟨⟨nm, ins, vs, os, gd, ls⟩, a1, a2, a3, a4, c1, c2, c3, c4, ds, rfl, ho, hok, _, hd2⟩
    have HZ := Lib.hid (hok.sizes ho.e)
    have HX2 : Hid (PBox _ _ _ _) := Lib.hid (hd2.own2 HX1.out (fun q hq e => by simp only [Value.ownBlock, Option.some.injEq] at hq; omega))
    have HD2 := Lib.hid (HS1.out.then_ hd2)
    have HR2 : Hid (PRows w2 w.heap.size a1 a2 a3 a4 c1 c2 c3 c4 ins.length vs.length os.length ls.length ins vs os ds) := Lib.hid (ho.rows.mono (by show w.heap.size ≤ w1.heap.size; omega))
    dsimp only [pv] at HZ ⊢
    clear ho hok hd2 HX1 HS1
    generalize ins.length = n1 at *
    generalize vs.length = n2 at *
    generalize os.length = n3 at *
    generalize ls.length = n4 at *
    obtain ⟨⟨y0, y1, y2, y3, y4, y5⟩, ⟨f0, f1, f2, f3, f4, f5⟩, hlta⟩ := PBox.c HX2.out
    have hz := PBox.fill HX2.out (.string nm) (.slice a1 n1 c1) (.slice a2 n2 c2) (.slice a3 n3 c3) (.string gd) (.slice a4 n4 c4)
    have YR := Lib.hid (HR2.out.box HX2.out hz.2)
    have YD := Lib.hid (HD2.out.far hBl hz.2 (fun q hq => by simp only [Option.some.injEq] at hq; omega))
    have YC := Lib.hid hz.1
    obtain ⟨WF, hWF⟩ : ∃ WF, WF = ((((((w2.setCell ⟨w.heap.size, 0, none⟩ (.string nm)).setCell ⟨w.heap.size, 1, none⟩ (.slice a1 n1 c1)).setCell ⟨w.heap.size, 2, none⟩ (.slice a2 n2 c2)).setCell ⟨w.heap.size, 3, none⟩ (.slice a3 n3 c3)).setCell ⟨w.heap.size, 4, none⟩ (.string gd)).setCell ⟨w.heap.size, 5, none⟩ (.slice a4 n4 c4)) := ⟨_, rfl⟩
    rw [← hWF] at YR YD YC
    have HF := Lib.hid hWF
    clear hWF hz HR2 HX2 HD2
    go_wp2_with (fail)
    rw [← HF.out]
    obtain ⟨⟨r0, r1, r2, r3, r4, r5⟩, _⟩ := PBox.c YC.out
    clear y0 y1 y2 y3 y4 y5 f0 f1 f2 f3 f4 f5
    refine bodyPost_ret (v := .agg #[.string nm, .slice a1 n1 c1, .slice a2 n2 c2, .slice a3 n3 c3, .string gd, .slice a4 n4 c4]) (by simp [results, Tryz.results38, go_sem, r0, r1, r2, r3, r4, r5]) rfl (YR.out.prog HZ.out trivial YD.out)
/-- A program of the call's own, with some values behind it. -/
def ProgX (F : Value → List Value → Value) (X : List Value → Prop) (w : World) (e : Ending) (w' : World) : Prop :=
  ∃ p a1 a2 a3 a4 c1 c2 c3 c4 ds xs, e = .returned (F (pv p a1 a2 a3 a4 c1 c2 c3 c4) xs) ∧ POwn w' w.heap.size a1 a2 a3 a4 c1 c2 c3 c4 p ds ∧ PgOk p ∧ X xs ∧ Below w.heap.size w w'
theorem PRows.progX {F : Value → List Value → Value} {X : List Value → Prop} {w w' : World} {a1 a2 a3 a4 : Option Addr} {c1 c2 c3 c4 n1 n2 n3 n4 : Nat} {ins vs os : List ByteArray} {ds : List LiD} {nm gd : ByteArray} {xs : List Value} (h : PRows w' w.heap.size a1 a2 a3 a4 c1 c2 c3 c4 n1 n2 n3 n4 ins vs os ds) (hz : PSizes nm gd ins vs os ds) (hX : X xs) (hb : Below w.heap.size w w') :
    ProgX F X w (.returned (F (.agg #[.string nm, .slice a1 n1 c1, .slice a2 n2 c2, .slice a3 n3 c3, .string gd, .slice a4 n4 c4]) xs)) w' := by
  obtain rfl : n1 = ins.length := by have := h.i.1; rw [sts_length] at this; omega
  obtain rfl : n2 = vs.length := by have := h.v.1; rw [sts_length] at this; omega
  obtain rfl : n3 = os.length := by have := h.o.1; rw [sts_length] at this; omega
  obtain rfl : n4 = ds.length := by have := h.l.1; rw [lidCells_length] at this; omega
  refine ⟨⟨nm, ins, vs, os, gd, ds.map LiD.l⟩, a1, a2, a3, a4, c1, c2, c3, c4, ds, xs, ?_, ⟨h.i, h.v, h.o, ?_, rfl, h.d⟩, ⟨hz.n, hz.i, hz.v, hz.o, hz.g, ?_, ?_⟩, hX, hb⟩
  · simp [pv]
  · simpa using h.l
  · simpa using hz.l
  · intro r hr
    obtain ⟨d, hd, rfl⟩ := List.mem_map.1 hr
    exact hz.d d hd
def F1 (p : Value) (_ : List Value) : Value := p
def F2 (p : Value) (xs : List Value) : Value := .tuple (p :: xs).toArray
def X1 (xs : List Value) : Prop := ∃ s : ByteArray, xs = [.string s] ∧ s.size ≤ 1048576
def X2 (xs : List Value) : Prop := ∃ s t : ByteArray, xs = [.string s, .string t] ∧ s.size ≤ 1048576 ∧ t.size ≤ 1048576
def X3 (xs : List Value) : Prop := ∃ (s t : ByteArray) (z : Int), xs = [.string s, .string t, .int .i64 z] ∧ s.size ≤ 1048576 ∧ t.size ≤ 1048576 ∧ 0 ≤ z ∧ z ≤ 1000001
set_option maxHeartbeats 4000000 in
set_option maxRecDepth 100000 in
theorem c_DrawLineTimes (A : Option Addr) (c n : Nat) (w : World) (hn : n ≤ 4096) (hb : Bytes w w.heap.size A n) :
    Calls Tryz.prog 7 #[.slice A n c] w (ProgX F1 (fun _ => True) w) := by
  have HX0 : Hid (PBox (w.alloc (.cells #[.string ⟨#[]⟩, .slice none 0 0, .slice none 0 0, .slice none 0 0, .string ⟨#[]⟩, .slice none 0 0] 27)) w.heap.size w.heap.size [.string ⟨#[]⟩, .slice none 0 0, .slice none 0 0, .slice none 0 0, .string ⟨#[]⟩, .slice none 0 0]) := Lib.hid (own_box w w.heap.size 27 [.string ⟨#[]⟩, .slice none 0 0, .slice none 0 0, .slice none 0 0, .string ⟨#[]⟩, .slice none 0 0] 6 rfl (Nat.le_refl _))
  have B0 := Lib.hid (below_alloc (Below.refl w.heap.size w) (.cells #[.string ⟨#[]⟩, .slice none 0 0, .slice none 0 0, .slice none 0 0, .string ⟨#[]⟩, .slice none 0 0] 27))
  have HY := Lib.hid (hb.later B0.out (show w.heap.size ≤ (w.alloc (.cells #[.string ⟨#[]⟩, .slice none 0 0, .slice none 0 0, .slice none 0 0, .string ⟨#[]⟩, .slice none 0 0] 27)).heap.size by simp))
  have HYW := Lib.hid (fun w' (h' : Below w.heap.size w w') => hb.later h' h'.size)
  have hsA : (w.alloc (.cells #[.string ⟨#[]⟩, .slice none 0 0, .slice none 0 0, .slice none 0 0, .string ⟨#[]⟩, .slice none 0 0] 27)).heap.size = w.heap.size + 1 := by simp
  go_enter Tryz.func7, Tryz.ntmps7
  go_wp2_with (fail)
  refine (c_From A c n _ hn HY.out).mono ?_
  rintro e w1 ⟨rfl, hs1, hb1⟩
  rw [hsA] at hs1
  have HB1 := Lib.hid (below_chain B0.out hb1)
  have HX1 : Hid (PBox _ _ _ _) := Lib.hid (own_below HX0.out hb1)
  have HS1 := Lib.hid (DW.start hs1)
  have hlt1 := hs1.lt
  clear hs1 hb1 HX0 B0 hsA
  go_wp2_with (fail)
  refine (c_l14Draw (w.heap.size + 1) _ HS1.out.s).mono ?_
  rintro e w2 ⟨⟨nm, ins, vs, os, gd, ls⟩, a1, a2, a3, a4, c1, c2, c3, c4, ds, rfl, ho, hok, _, hd2⟩
  have HZ := Lib.hid (hok.sizes ho.e)
  have HX2 : Hid (PBox _ _ _ _) := Lib.hid (hd2.own2 HX1.out (fun q hq e => by simp only [Value.ownBlock, Option.some.injEq] at hq; omega))
  have HD2 := Lib.hid (HS1.out.then_ hd2)
  have hsw2 := HD2.out.g.size
  have HR2 : Hid (PRows w2 w1.heap.size a1 a2 a3 a4 c1 c2 c3 c4 ins.length vs.length os.length ls.length ins vs os ds) := Lib.hid ho.rows
  have HSI : Hid (ins.length ≤ 1048576) := Lib.hid hok.i.1
  have HSO : Hid (os.length ≤ 1048576) := Lib.hid hok.o.1
  dsimp only [pv] at HZ ⊢
  clear ho hok hd2 HX1 HS1
  generalize ins.length = n1 at *
  generalize vs.length = n2 at *
  generalize os.length = n3 at *
  generalize ls.length = n4 at *
  have HRt := Lib.hid (HR2.out.mono (show w.heap.size ≤ w1.heap.size by omega))
  have HXt := HX2
  have HBt := Lib.hid (DW.bel HB1.out HD2.out (by omega) rfl)
  clear HR2 HX2
  obtain ⟨⟨y0, y1, y2, y3, y4, y5⟩, ⟨f0, f1, f2, f3, f4, f5⟩, hlta⟩ := PBox.c HXt.out
  have hz := PBox.fill HXt.out (.string nm) (.slice a1 n1 c1) (.slice a2 n2 c2) (.slice a3 n3 c3) (.string gd) (.slice a4 n4 c4)
  have YR := Lib.hid (HRt.out.box HXt.out hz.2)
  have YB := Lib.hid (below_of_grown HBt.out hz.2 (fun q hq => by simp only [Option.some.injEq] at hq; omega))
  have YC := Lib.hid hz.1
  obtain ⟨WF, hWF⟩ : ∃ WF, WF = ((((((w2.setCell ⟨w.heap.size, 0, none⟩ (.string nm)).setCell ⟨w.heap.size, 1, none⟩ (.slice a1 n1 c1)).setCell ⟨w.heap.size, 2, none⟩ (.slice a2 n2 c2)).setCell ⟨w.heap.size, 3, none⟩ (.slice a3 n3 c3)).setCell ⟨w.heap.size, 4, none⟩ (.string gd)).setCell ⟨w.heap.size, 5, none⟩ (.slice a4 n4 c4)) := ⟨_, rfl⟩
  rw [← hWF] at YR YB YC
  have HF := Lib.hid hWF
  clear hWF hz HRt HXt HBt
  go_wp2_with (fail)
  rw [← HF.out]
  obtain ⟨⟨r0, r1, r2, r3, r4, r5⟩, _⟩ := PBox.c YC.out
  clear y0 y1 y2 y3 y4 y5 f0 f1 f2 f3 f4 f5
  refine bodyPost_ret (v := .agg #[.string nm, .slice a1 n1 c1, .slice a2 n2 c2, .slice a3 n3 c3, .string gd, .slice a4 n4 c4]) (by simp [results, Tryz.results7, go_sem, r0, r1, r2, r3, r4, r5]) rfl (YR.out.progX (xs := []) HZ.out trivial YB.out)
set_option maxHeartbeats 4000000 in
set_option maxRecDepth 100000 in
theorem c_DrawFirstMemory (A : Option Addr) (c n : Nat) (w : World) (hn : n ≤ 4096) (hb : Bytes w w.heap.size A n) :
    Calls Tryz.prog 23 #[.slice A n c] w (ProgX F1 (fun _ => True) w) := by
  have HX0 : Hid (PBox (w.alloc (.cells #[.string ⟨#[]⟩, .slice none 0 0, .slice none 0 0, .slice none 0 0, .string ⟨#[]⟩, .slice none 0 0] 27)) w.heap.size w.heap.size [.string ⟨#[]⟩, .slice none 0 0, .slice none 0 0, .slice none 0 0, .string ⟨#[]⟩, .slice none 0 0]) := Lib.hid (own_box w w.heap.size 27 [.string ⟨#[]⟩, .slice none 0 0, .slice none 0 0, .slice none 0 0, .string ⟨#[]⟩, .slice none 0 0] 6 rfl (Nat.le_refl _))
  have B0 := Lib.hid (below_alloc (Below.refl w.heap.size w) (.cells #[.string ⟨#[]⟩, .slice none 0 0, .slice none 0 0, .slice none 0 0, .string ⟨#[]⟩, .slice none 0 0] 27))
  have HY := Lib.hid (hb.later B0.out (show w.heap.size ≤ (w.alloc (.cells #[.string ⟨#[]⟩, .slice none 0 0, .slice none 0 0, .slice none 0 0, .string ⟨#[]⟩, .slice none 0 0] 27)).heap.size by simp))
  have HYW := Lib.hid (fun w' (h' : Below w.heap.size w w') => hb.later h' h'.size)
  have hsA : (w.alloc (.cells #[.string ⟨#[]⟩, .slice none 0 0, .slice none 0 0, .slice none 0 0, .string ⟨#[]⟩, .slice none 0 0] 27)).heap.size = w.heap.size + 1 := by simp
  go_enter Tryz.func23, Tryz.ntmps23
  go_wp2_with (fail)
  refine (c_From A c n _ hn HY.out).mono ?_
  rintro e w1 ⟨rfl, hs1, hb1⟩
  rw [hsA] at hs1
  have HB1 := Lib.hid (below_chain B0.out hb1)
  have HX1 : Hid (PBox _ _ _ _) := Lib.hid (own_below HX0.out hb1)
  have HS1 := Lib.hid (DW.start hs1)
  have hlt1 := hs1.lt
  clear hs1 hb1 HX0 B0 hsA
  go_wp2_with (fail)
  refine (c_l14Draw (w.heap.size + 1) _ HS1.out.s).mono ?_
  rintro e w2 ⟨⟨nm, ins, vs, os, gd, ls⟩, a1, a2, a3, a4, c1, c2, c3, c4, ds, rfl, ho, hok, _, hd2⟩
  have HZ := Lib.hid (hok.sizes ho.e)
  have HX2 : Hid (PBox _ _ _ _) := Lib.hid (hd2.own2 HX1.out (fun q hq e => by simp only [Value.ownBlock, Option.some.injEq] at hq; omega))
  have HD2 := Lib.hid (HS1.out.then_ hd2)
  have hsw2 := HD2.out.g.size
  have HR2 : Hid (PRows w2 w1.heap.size a1 a2 a3 a4 c1 c2 c3 c4 ins.length vs.length os.length ls.length ins vs os ds) := Lib.hid ho.rows
  have HSI : Hid (ins.length ≤ 1048576) := Lib.hid hok.i.1
  have HSO : Hid (os.length ≤ 1048576) := Lib.hid hok.o.1
  dsimp only [pv] at HZ ⊢
  clear ho hok hd2 HX1 HS1
  generalize ins.length = n1 at *
  generalize vs.length = n2 at *
  generalize os.length = n3 at *
  generalize ls.length = n4 at *
  have HRt := Lib.hid (HR2.out.mono (show w.heap.size ≤ w1.heap.size by omega))
  have HXt := HX2
  have HBt := Lib.hid (DW.bel HB1.out HD2.out (by omega) rfl)
  clear HR2 HX2
  obtain ⟨⟨y0, y1, y2, y3, y4, y5⟩, ⟨f0, f1, f2, f3, f4, f5⟩, hlta⟩ := PBox.c HXt.out
  have hz := PBox.fill HXt.out (.string nm) (.slice a1 n1 c1) (.slice a2 n2 c2) (.slice a3 n3 c3) (.string gd) (.slice a4 n4 c4)
  have YR := Lib.hid (HRt.out.box HXt.out hz.2)
  have YB := Lib.hid (below_of_grown HBt.out hz.2 (fun q hq => by simp only [Option.some.injEq] at hq; omega))
  have YC := Lib.hid hz.1
  obtain ⟨WF, hWF⟩ : ∃ WF, WF = ((((((w2.setCell ⟨w.heap.size, 0, none⟩ (.string nm)).setCell ⟨w.heap.size, 1, none⟩ (.slice a1 n1 c1)).setCell ⟨w.heap.size, 2, none⟩ (.slice a2 n2 c2)).setCell ⟨w.heap.size, 3, none⟩ (.slice a3 n3 c3)).setCell ⟨w.heap.size, 4, none⟩ (.string gd)).setCell ⟨w.heap.size, 5, none⟩ (.slice a4 n4 c4)) := ⟨_, rfl⟩
  rw [← hWF] at YR YB YC
  have HF := Lib.hid hWF
  clear hWF hz HRt HXt HBt
  go_wp2_with (fail)
  rw [← HF.out]
  obtain ⟨⟨r0, r1, r2, r3, r4, r5⟩, _⟩ := PBox.c YC.out
  clear y0 y1 y2 y3 y4 y5 f0 f1 f2 f3 f4 f5
  refine bodyPost_ret (v := .agg #[.string nm, .slice a1 n1 c1, .slice a2 n2 c2, .slice a3 n3 c3, .string gd, .slice a4 n4 c4]) (by simp [results, Tryz.results23, go_sem, r0, r1, r2, r3, r4, r5]) rfl (YR.out.progX (xs := []) HZ.out trivial YB.out)
set_option maxHeartbeats 4000000 in
set_option maxRecDepth 100000 in
theorem c_DrawReachedBy (A : Option Addr) (c n : Nat) (w : World) (hn : n ≤ 4096) (hb : Bytes w w.heap.size A n) :
    Calls Tryz.prog 33 #[.slice A n c] w (ProgX F2 X1 w) := by
  have HX0 : Hid (PBox (w.alloc (.cells #[.string ⟨#[]⟩, .slice none 0 0, .slice none 0 0, .slice none 0 0, .string ⟨#[]⟩, .slice none 0 0] 27)) w.heap.size w.heap.size [.string ⟨#[]⟩, .slice none 0 0, .slice none 0 0, .slice none 0 0, .string ⟨#[]⟩, .slice none 0 0]) := Lib.hid (own_box w w.heap.size 27 [.string ⟨#[]⟩, .slice none 0 0, .slice none 0 0, .slice none 0 0, .string ⟨#[]⟩, .slice none 0 0] 6 rfl (Nat.le_refl _))
  have B0 := Lib.hid (below_alloc (Below.refl w.heap.size w) (.cells #[.string ⟨#[]⟩, .slice none 0 0, .slice none 0 0, .slice none 0 0, .string ⟨#[]⟩, .slice none 0 0] 27))
  have HY := Lib.hid (hb.later B0.out (show w.heap.size ≤ (w.alloc (.cells #[.string ⟨#[]⟩, .slice none 0 0, .slice none 0 0, .slice none 0 0, .string ⟨#[]⟩, .slice none 0 0] 27)).heap.size by simp))
  have HYW := Lib.hid (fun w' (h' : Below w.heap.size w w') => hb.later h' h'.size)
  have hsA : (w.alloc (.cells #[.string ⟨#[]⟩, .slice none 0 0, .slice none 0 0, .slice none 0 0, .string ⟨#[]⟩, .slice none 0 0] 27)).heap.size = w.heap.size + 1 := by simp
  go_enter Tryz.func33, Tryz.ntmps33
  go_wp2_with (fail)
  refine (c_From A c n _ hn HY.out).mono ?_
  rintro e w1 ⟨rfl, hs1, hb1⟩
  rw [hsA] at hs1
  have HB1 := Lib.hid (below_chain B0.out hb1)
  have HX1 : Hid (PBox _ _ _ _) := Lib.hid (own_below HX0.out hb1)
  have HS1 := Lib.hid (DW.start hs1)
  have hlt1 := hs1.lt
  clear hs1 hb1 HX0 B0 hsA
  go_wp2_with (fail)
  refine (c_l14Draw (w.heap.size + 1) _ HS1.out.s).mono ?_
  rintro e w2 ⟨⟨nm, ins, vs, os, gd, ls⟩, a1, a2, a3, a4, c1, c2, c3, c4, ds, rfl, ho, hok, _, hd2⟩
  have HZ := Lib.hid (hok.sizes ho.e)
  have HX2 : Hid (PBox _ _ _ _) := Lib.hid (hd2.own2 HX1.out (fun q hq e => by simp only [Value.ownBlock, Option.some.injEq] at hq; omega))
  have HD2 := Lib.hid (HS1.out.then_ hd2)
  have hsw2 := HD2.out.g.size
  have HR2 : Hid (PRows w2 w1.heap.size a1 a2 a3 a4 c1 c2 c3 c4 ins.length vs.length os.length ls.length ins vs os ds) := Lib.hid ho.rows
  have HSI : Hid (ins.length ≤ 1048576) := Lib.hid hok.i.1
  have HSO : Hid (os.length ≤ 1048576) := Lib.hid hok.o.1
  dsimp only [pv] at HZ ⊢
  clear ho hok hd2 HX1 HS1
  generalize ins.length = n1 at *
  generalize vs.length = n2 at *
  generalize os.length = n3 at *
  generalize ls.length = n4 at *
  have BA := below_alloc (Below.refl w2.heap.size w2) (.cells #[.string nm, .slice a1 n1 c1, .slice a2 n2 c2, .slice a3 n3 c3, .string gd, .slice a4 n4 c4] 27)
  have HR3 := Lib.hid (HR2.out.below BA)
  have HP3 : Hid (PBox (w2.alloc (.cells #[.string nm, .slice a1 n1 c1, .slice a2 n2 c2, .slice a3 n3 c3, .string gd, .slice a4 n4 c4] 27)) w1.heap.size w2.heap.size [.string nm, .slice a1 n1 c1, .slice a2 n2 c2, .slice a3 n3 c3, .string gd, .slice a4 n4 c4]) := Lib.hid (own_box w2 w1.heap.size 27 [.string nm, .slice a1 n1 c1, .slice a2 n2 c2, .slice a3 n3 c3, .string gd, .slice a4 n4 c4] 6 rfl hsw2)
  have HX3 : Hid (PBox _ _ _ _) := Lib.hid (own_below HX2.out BA)
  have HD3 := Lib.hid (HD2.out.below hlt1 BA)
  clear BA HR2 HX2 HD2
  go_upto_region 3 with (fail)
  generalize w2.alloc (.cells #[.string nm, .slice a1 n1 c1, .slice a2 n2 c2, .slice a3 n3 c3, .string gd, .slice a4 n4 c4] 27) = w3 at *
  generalize w2.heap.size = pb at *
  have hpw : w.heap.size + 1 < pb := by omega
  obtain ⟨⟨k0, k1, k2, k3, k4, k5⟩, _, hltb⟩ := PBox.c HP3.out
  go_upto_region 3 with (fail)
  refine wp_region_held_drew (S := (fun w' => w'.cell? ⟨pb, 0, none⟩ = some (.string nm) ∧ w'.cell? ⟨pb, 1, none⟩ = some (.slice a1 n1 c1) ∧ w'.cell? ⟨pb, 2, none⟩ = some (.slice a2 n2 c2) ∧ w'.cell? ⟨pb, 3, none⟩ = some (.slice a3 n3 c3) ∧ w'.cell? ⟨pb, 4, none⟩ = some (.string gd) ∧ w'.cell? ⟨pb, 5, none⟩ = some (.slice a4 n4 c4))) (by kernel_rfl) ?_ (fun hHeld => ?_)
  · exact ⟨k0, k1, k2, k3, k4, k5⟩
  refine rg_take (v := ?_) 0 rfl (by kernel_rfl) (by kernel_rfl) (by kernel_rfl) (fun _ _ _ h => h) (by kernel_rfl) ?_ (by assumption) ?_
  rotate_left
  · (intro w' hSw; (try dsimp only at hSw); go_simp; first | done | with_reducible rfl)
  simp only [Act.put, List.setIfInBounds_toArray, List.set_cons_zero, List.set_cons_succ]
  refine rg_take (v := ?_) 1 rfl (by kernel_rfl) (by kernel_rfl) (by kernel_rfl) (fun _ _ _ h => h) (by kernel_rfl) ?_ (by assumption) ?_
  rotate_left
  · (intro w' hSw; (try dsimp only at hSw); go_simp; first | done | with_reducible rfl)
  simp only [Act.put, List.setIfInBounds_toArray, List.set_cons_zero, List.set_cons_succ]
  refine rg_take (v := ?_) 2 rfl (by kernel_rfl) (by kernel_rfl) (by kernel_rfl) (fun _ _ _ h => h) (by kernel_rfl) ?_ (by assumption) ?_
  rotate_left
  · (intro w' hSw; (try dsimp only at hSw); go_simp; first | done | with_reducible rfl)
  simp only [Act.put, List.setIfInBounds_toArray, List.set_cons_zero, List.set_cons_succ]
  refine rg_take (v := ?_) 3 rfl (by kernel_rfl) (by kernel_rfl) (by kernel_rfl) (fun _ _ _ h => h) (by kernel_rfl) ?_ (by assumption) ?_
  rotate_left
  · (intro w' hSw; (try dsimp only at hSw); go_simp; first | done | with_reducible rfl)
  simp only [Act.put, List.setIfInBounds_toArray, List.set_cons_zero, List.set_cons_succ]
  refine rg_run 4 rfl (by kernel_rfl) (by kernel_rfl) (fun K hK => ?_)
  go_simp
  refine (c_DrawName (w.heap.size + 1) a1 n1 c1 ins _ HD3.out.s.drew (by have := HR3.out.i.1; rw [sts_length] at this; omega) HSI.out ((Rd.own HR3.out.i).drew) (fun b off e => by have := (HR3.out.i.lt b (by rw [e]; rfl)).1; omega) HZ.out.i.2).mono ?_
  rintro e w4 ⟨s, rfl, hss, hdn⟩
  have Hs := Lib.hid hss
  clear hss k0 k1 k2 k3 k4 k5 hltb
  have hdd := ((DW.start HD3.out.s).drew (by have := HD3.out.g.size; omega)).then_ hdn
  have HR4 := Lib.hid (HR3.out.dw hdd hlt1)
  have HP4 : Hid (PBox _ _ _ _) := Lib.hid (hdd.own HP3.out hlt1)
  have HX4 : Hid (PBox _ _ _ _) := Lib.hid (hdd.own2 HX3.out (fun q hq e => by simp only [Value.ownBlock, Option.some.injEq] at hq; omega))
  have HD4 := Lib.hid (HD3.out.then_ hdd)
  clear HR3 HP3 HX3 HD3
  obtain ⟨⟨k0, k1, k2, k3, k4, k5⟩, _, hltb⟩ := PBox.c HP4.out
  clear hdn hdd
  go_wp2
  clear hHeld
  refine hK.out _ _ (by exact ⟨k0, k1, k2, k3, k4, k5⟩) (fun hHeld => ?_)
  clear hK K
  try simp only [Act.put, List.setIfInBounds_toArray, List.set_cons_zero, List.set_cons_succ]
  have HRt := Lib.hid (HR4.out.mono (show w.heap.size ≤ w1.heap.size by omega))
  have HXt := HX4
  have HBt := Lib.hid (DW.bel HB1.out HD4.out (by omega) rfl)
  obtain ⟨⟨y0, y1, y2, y3, y4, y5⟩, ⟨f0, f1, f2, f3, f4, f5⟩, hlta⟩ := PBox.c HXt.out
  have hz := PBox.fill HXt.out (.string nm) (.slice a1 n1 c1) (.slice a2 n2 c2) (.slice a3 n3 c3) (.string gd) (.slice a4 n4 c4)
  have YR := Lib.hid (HRt.out.box HXt.out hz.2)
  have YB := Lib.hid (below_of_grown HBt.out hz.2 (fun q hq => by simp only [Option.some.injEq] at hq; omega))
  have YC := Lib.hid hz.1
  have YP : PBox ((((((w4.setCell ⟨w.heap.size, 0, none⟩ (.string nm)).setCell ⟨w.heap.size, 1, none⟩ (.slice a1 n1 c1)).setCell ⟨w.heap.size, 2, none⟩ (.slice a2 n2 c2)).setCell ⟨w.heap.size, 3, none⟩ (.slice a3 n3 c3)).setCell ⟨w.heap.size, 4, none⟩ (.string gd)).setCell ⟨w.heap.size, 5, none⟩ (.slice a4 n4 c4)) _ _ _ := PBox.keep HP4.out hz.2 (by omega)
  obtain ⟨⟨p0, p1, p2, p3, p4, p5⟩, _, _⟩ := PBox.c YP
  clear HR4 HX4 HP4 HD4 HRt HXt HBt hz YP
  refine rg_run 5 rfl (by kernel_rfl) (by kernel_rfl) (fun K hK => ?_)
  go_simp
  clear hHeld
  refine hK.out _ _ (by exact ⟨p0, p1, p2, p3, p4, p5⟩) (fun hHeld => ?_)
  clear hK K
  try simp only [Act.put, List.setIfInBounds_toArray, List.set_cons_zero, List.set_cons_succ]
  refine rg_take (v := ?_) 6 rfl (by kernel_rfl) (by kernel_rfl) (by kernel_rfl) (fun _ _ _ h => h) (by kernel_rfl) ?_ (by assumption) ?_
  rotate_left
  · (intro w' hSw; (try dsimp only at hSw); go_simp; first | done | with_reducible rfl)
  simp only [Act.put, List.setIfInBounds_toArray, List.set_cons_zero, List.set_cons_succ]
  refine wpAnyH_done (by kernel_rfl) ?_ _
  clear hHeld
  obtain ⟨WF, hWF⟩ : ∃ WF, WF = ((((((w4.setCell ⟨w.heap.size, 0, none⟩ (.string nm)).setCell ⟨w.heap.size, 1, none⟩ (.slice a1 n1 c1)).setCell ⟨w.heap.size, 2, none⟩ (.slice a2 n2 c2)).setCell ⟨w.heap.size, 3, none⟩ (.slice a3 n3 c3)).setCell ⟨w.heap.size, 4, none⟩ (.string gd)).setCell ⟨w.heap.size, 5, none⟩ (.slice a4 n4 c4)) := ⟨_, rfl⟩
  rw [← hWF] at YR YB YC
  have HF := Lib.hid hWF
  clear hWF p0 p1 p2 p3 p4 p5 k0 k1 k2 k3 k4 k5 hltb
  go_wp2_with (fail)
  rw [← HF.out]
  obtain ⟨⟨r0, r1, r2, r3, r4, r5⟩, _⟩ := PBox.c YC.out
  clear y0 y1 y2 y3 y4 y5 f0 f1 f2 f3 f4 f5
  refine bodyPost_ret (v := .tuple #[.agg #[.string nm, .slice a1 n1 c1, .slice a2 n2 c2, .slice a3 n3 c3, .string gd, .slice a4 n4 c4], .string s]) (by simp [results, Tryz.results33, go_sem, r0, r1, r2, r3, r4, r5]) rfl (YR.out.progX (F := F2) (xs := [.string s]) HZ.out ⟨s, rfl, Hs.out⟩ YB.out)
set_option maxHeartbeats 4000000 in
set_option maxRecDepth 100000 in
theorem c_DrawDelayOf (A : Option Addr) (c n : Nat) (w : World) (hn : n ≤ 4096) (hb : Bytes w w.heap.size A n) :
    Calls Tryz.prog 70 #[.slice A n c] w (ProgX F2 X2 w) := by
  have HX0 : Hid (PBox (w.alloc (.cells #[.string ⟨#[]⟩, .slice none 0 0, .slice none 0 0, .slice none 0 0, .string ⟨#[]⟩, .slice none 0 0] 27)) w.heap.size w.heap.size [.string ⟨#[]⟩, .slice none 0 0, .slice none 0 0, .slice none 0 0, .string ⟨#[]⟩, .slice none 0 0]) := Lib.hid (own_box w w.heap.size 27 [.string ⟨#[]⟩, .slice none 0 0, .slice none 0 0, .slice none 0 0, .string ⟨#[]⟩, .slice none 0 0] 6 rfl (Nat.le_refl _))
  have B0 := Lib.hid (below_alloc (Below.refl w.heap.size w) (.cells #[.string ⟨#[]⟩, .slice none 0 0, .slice none 0 0, .slice none 0 0, .string ⟨#[]⟩, .slice none 0 0] 27))
  have HY := Lib.hid (hb.later B0.out (show w.heap.size ≤ (w.alloc (.cells #[.string ⟨#[]⟩, .slice none 0 0, .slice none 0 0, .slice none 0 0, .string ⟨#[]⟩, .slice none 0 0] 27)).heap.size by simp))
  have HYW := Lib.hid (fun w' (h' : Below w.heap.size w w') => hb.later h' h'.size)
  have hsA : (w.alloc (.cells #[.string ⟨#[]⟩, .slice none 0 0, .slice none 0 0, .slice none 0 0, .string ⟨#[]⟩, .slice none 0 0] 27)).heap.size = w.heap.size + 1 := by simp
  go_enter Tryz.func70, Tryz.ntmps70
  go_wp2_with (fail)
  refine (c_From A c n _ hn HY.out).mono ?_
  rintro e w1 ⟨rfl, hs1, hb1⟩
  rw [hsA] at hs1
  have HB1 := Lib.hid (below_chain B0.out hb1)
  have HX1 : Hid (PBox _ _ _ _) := Lib.hid (own_below HX0.out hb1)
  have HS1 := Lib.hid (DW.start hs1)
  have hlt1 := hs1.lt
  clear hs1 hb1 HX0 B0 hsA
  go_wp2_with (fail)
  refine (c_l14Draw (w.heap.size + 1) _ HS1.out.s).mono ?_
  rintro e w2 ⟨⟨nm, ins, vs, os, gd, ls⟩, a1, a2, a3, a4, c1, c2, c3, c4, ds, rfl, ho, hok, _, hd2⟩
  have HZ := Lib.hid (hok.sizes ho.e)
  have HX2 : Hid (PBox _ _ _ _) := Lib.hid (hd2.own2 HX1.out (fun q hq e => by simp only [Value.ownBlock, Option.some.injEq] at hq; omega))
  have HD2 := Lib.hid (HS1.out.then_ hd2)
  have hsw2 := HD2.out.g.size
  have HR2 : Hid (PRows w2 w1.heap.size a1 a2 a3 a4 c1 c2 c3 c4 ins.length vs.length os.length ls.length ins vs os ds) := Lib.hid ho.rows
  have HSI : Hid (ins.length ≤ 1048576) := Lib.hid hok.i.1
  have HSO : Hid (os.length ≤ 1048576) := Lib.hid hok.o.1
  dsimp only [pv] at HZ ⊢
  clear ho hok hd2 HX1 HS1
  generalize ins.length = n1 at *
  generalize vs.length = n2 at *
  generalize os.length = n3 at *
  generalize ls.length = n4 at *
  have BA := below_alloc (Below.refl w2.heap.size w2) (.cells #[.string nm, .slice a1 n1 c1, .slice a2 n2 c2, .slice a3 n3 c3, .string gd, .slice a4 n4 c4] 27)
  have HR3 := Lib.hid (HR2.out.below BA)
  have HP3 : Hid (PBox (w2.alloc (.cells #[.string nm, .slice a1 n1 c1, .slice a2 n2 c2, .slice a3 n3 c3, .string gd, .slice a4 n4 c4] 27)) w1.heap.size w2.heap.size [.string nm, .slice a1 n1 c1, .slice a2 n2 c2, .slice a3 n3 c3, .string gd, .slice a4 n4 c4]) := Lib.hid (own_box w2 w1.heap.size 27 [.string nm, .slice a1 n1 c1, .slice a2 n2 c2, .slice a3 n3 c3, .string gd, .slice a4 n4 c4] 6 rfl hsw2)
  have HX3 : Hid (PBox _ _ _ _) := Lib.hid (own_below HX2.out BA)
  have HD3 := Lib.hid (HD2.out.below hlt1 BA)
  clear BA HR2 HX2 HD2
  go_upto_region 3 with (fail)
  generalize w2.alloc (.cells #[.string nm, .slice a1 n1 c1, .slice a2 n2 c2, .slice a3 n3 c3, .string gd, .slice a4 n4 c4] 27) = w3 at *
  generalize w2.heap.size = pb at *
  have hpw : w.heap.size + 1 < pb := by omega
  obtain ⟨⟨k0, k1, k2, k3, k4, k5⟩, _, hltb⟩ := PBox.c HP3.out
  go_wp2_with (fail)
  refine (c_DrawName (w.heap.size + 1) a1 n1 c1 ins _ HD3.out.s (by have := HR3.out.i.1; rw [sts_length] at this; omega) HSI.out ((Rd.own HR3.out.i)) (fun b off e => by have := (HR3.out.i.lt b (by rw [e]; rfl)).1; omega) HZ.out.i.2).mono ?_
  rintro e w4 ⟨s, rfl, hss, hdn⟩
  have Hs := Lib.hid hss
  clear hss k0 k1 k2 k3 k4 k5 hltb
  have HR4 := Lib.hid (HR3.out.dw hdn hlt1)
  have HP4 : Hid (PBox _ _ _ _) := Lib.hid (hdn.own HP3.out hlt1)
  have HX4 : Hid (PBox _ _ _ _) := Lib.hid (hdn.own2 HX3.out (fun q hq e => by simp only [Value.ownBlock, Option.some.injEq] at hq; omega))
  have HD4 := Lib.hid (HD3.out.then_ hdn)
  clear HR3 HP3 HX3 HD3
  obtain ⟨⟨k0, k1, k2, k3, k4, k5⟩, _, hltb⟩ := PBox.c HP4.out
  clear hdn
  go_upto_region 4 with (fail)
  refine wp_region_held_drew (S := (fun w' => w'.cell? ⟨pb, 0, none⟩ = some (.string nm) ∧ w'.cell? ⟨pb, 1, none⟩ = some (.slice a1 n1 c1) ∧ w'.cell? ⟨pb, 2, none⟩ = some (.slice a2 n2 c2) ∧ w'.cell? ⟨pb, 3, none⟩ = some (.slice a3 n3 c3) ∧ w'.cell? ⟨pb, 4, none⟩ = some (.string gd) ∧ w'.cell? ⟨pb, 5, none⟩ = some (.slice a4 n4 c4))) (by kernel_rfl) ?_ (fun hHeld => ?_)
  · exact ⟨k0, k1, k2, k3, k4, k5⟩
  refine rg_take (v := ?_) 0 rfl (by kernel_rfl) (by kernel_rfl) (by kernel_rfl) (fun _ _ _ h => h) (by kernel_rfl) ?_ (by assumption) ?_
  rotate_left
  · (intro w' hSw; (try dsimp only at hSw); go_simp; first | done | with_reducible rfl)
  simp only [Act.put, List.setIfInBounds_toArray, List.set_cons_zero, List.set_cons_succ]
  refine rg_take (v := ?_) 1 rfl (by kernel_rfl) (by kernel_rfl) (by kernel_rfl) (fun _ _ _ h => h) (by kernel_rfl) ?_ (by assumption) ?_
  rotate_left
  · (intro w' hSw; (try dsimp only at hSw); go_simp; first | done | with_reducible rfl)
  simp only [Act.put, List.setIfInBounds_toArray, List.set_cons_zero, List.set_cons_succ]
  refine rg_take (v := ?_) 2 rfl (by kernel_rfl) (by kernel_rfl) (by kernel_rfl) (fun _ _ _ h => h) (by kernel_rfl) ?_ (by assumption) ?_
  rotate_left
  · (intro w' hSw; (try dsimp only at hSw); go_simp; first | done | with_reducible rfl)
  simp only [Act.put, List.setIfInBounds_toArray, List.set_cons_zero, List.set_cons_succ]
  refine rg_take (v := ?_) 3 rfl (by kernel_rfl) (by kernel_rfl) (by kernel_rfl) (fun _ _ _ h => h) (by kernel_rfl) ?_ (by assumption) ?_
  rotate_left
  · (intro w' hSw; (try dsimp only at hSw); go_simp; first | done | with_reducible rfl)
  simp only [Act.put, List.setIfInBounds_toArray, List.set_cons_zero, List.set_cons_succ]
  refine rg_take (v := ?_) 4 rfl (by kernel_rfl) (by kernel_rfl) (by kernel_rfl) (fun _ _ _ h => h) (by kernel_rfl) ?_ (by assumption) ?_
  rotate_left
  · (intro w' hSw; (try dsimp only at hSw); go_simp; first | done | with_reducible rfl)
  simp only [Act.put, List.setIfInBounds_toArray, List.set_cons_zero, List.set_cons_succ]
  refine rg_run 5 rfl (by kernel_rfl) (by kernel_rfl) (fun K hK => ?_)
  go_simp
  refine (c_DrawName (w.heap.size + 1) a3 n3 c3 os _ HD4.out.s.drew (by have := HR4.out.o.1; rw [sts_length] at this; omega) HSO.out ((Rd.own HR4.out.o).drew) (fun b off e => by have := (HR4.out.o.lt b (by rw [e]; rfl)).1; omega) HZ.out.o.2).mono ?_
  rintro e w5 ⟨t, rfl, hst, hdn⟩
  have Ht := Lib.hid hst
  clear hst k0 k1 k2 k3 k4 k5 hltb
  have hdd := ((DW.start HD4.out.s).drew (by have := HD4.out.g.size; omega)).then_ hdn
  have HR5 := Lib.hid (HR4.out.dw hdd hlt1)
  have HP5 : Hid (PBox _ _ _ _) := Lib.hid (hdd.own HP4.out hlt1)
  have HX5 : Hid (PBox _ _ _ _) := Lib.hid (hdd.own2 HX4.out (fun q hq e => by simp only [Value.ownBlock, Option.some.injEq] at hq; omega))
  have HD5 := Lib.hid (HD4.out.then_ hdd)
  clear HR4 HP4 HX4 HD4
  obtain ⟨⟨k0, k1, k2, k3, k4, k5⟩, _, hltb⟩ := PBox.c HP5.out
  clear hdn hdd
  go_wp2
  clear hHeld
  refine hK.out _ _ (by exact ⟨k0, k1, k2, k3, k4, k5⟩) (fun hHeld => ?_)
  clear hK K
  try simp only [Act.put, List.setIfInBounds_toArray, List.set_cons_zero, List.set_cons_succ]
  have HRt := Lib.hid (HR5.out.mono (show w.heap.size ≤ w1.heap.size by omega))
  have HXt := HX5
  have HBt := Lib.hid (DW.bel HB1.out HD5.out (by omega) rfl)
  obtain ⟨⟨y0, y1, y2, y3, y4, y5⟩, ⟨f0, f1, f2, f3, f4, f5⟩, hlta⟩ := PBox.c HXt.out
  have hz := PBox.fill HXt.out (.string nm) (.slice a1 n1 c1) (.slice a2 n2 c2) (.slice a3 n3 c3) (.string gd) (.slice a4 n4 c4)
  have YR := Lib.hid (HRt.out.box HXt.out hz.2)
  have YB := Lib.hid (below_of_grown HBt.out hz.2 (fun q hq => by simp only [Option.some.injEq] at hq; omega))
  have YC := Lib.hid hz.1
  have YP : PBox ((((((w5.setCell ⟨w.heap.size, 0, none⟩ (.string nm)).setCell ⟨w.heap.size, 1, none⟩ (.slice a1 n1 c1)).setCell ⟨w.heap.size, 2, none⟩ (.slice a2 n2 c2)).setCell ⟨w.heap.size, 3, none⟩ (.slice a3 n3 c3)).setCell ⟨w.heap.size, 4, none⟩ (.string gd)).setCell ⟨w.heap.size, 5, none⟩ (.slice a4 n4 c4)) _ _ _ := PBox.keep HP5.out hz.2 (by omega)
  obtain ⟨⟨p0, p1, p2, p3, p4, p5⟩, _, _⟩ := PBox.c YP
  clear HR5 HX5 HP5 HD5 HRt HXt HBt hz YP
  refine rg_run 6 rfl (by kernel_rfl) (by kernel_rfl) (fun K hK => ?_)
  go_simp
  clear hHeld
  refine hK.out _ _ (by exact ⟨p0, p1, p2, p3, p4, p5⟩) (fun hHeld => ?_)
  clear hK K
  try simp only [Act.put, List.setIfInBounds_toArray, List.set_cons_zero, List.set_cons_succ]
  refine rg_take (v := ?_) 7 rfl (by kernel_rfl) (by kernel_rfl) (by kernel_rfl) (fun _ _ _ h => h) (by kernel_rfl) ?_ (by assumption) ?_
  rotate_left
  · (intro w' hSw; (try dsimp only at hSw); go_simp; first | done | with_reducible rfl)
  simp only [Act.put, List.setIfInBounds_toArray, List.set_cons_zero, List.set_cons_succ]
  refine rg_take (v := ?_) 8 rfl (by kernel_rfl) (by kernel_rfl) (by kernel_rfl) (fun _ _ _ h => h) (by kernel_rfl) ?_ (by assumption) ?_
  rotate_left
  · (intro w' hSw; (try dsimp only at hSw); go_simp; first | done | with_reducible rfl)
  simp only [Act.put, List.setIfInBounds_toArray, List.set_cons_zero, List.set_cons_succ]
  refine wpAnyH_done (by kernel_rfl) ?_ _
  clear hHeld
  obtain ⟨WF, hWF⟩ : ∃ WF, WF = ((((((w5.setCell ⟨w.heap.size, 0, none⟩ (.string nm)).setCell ⟨w.heap.size, 1, none⟩ (.slice a1 n1 c1)).setCell ⟨w.heap.size, 2, none⟩ (.slice a2 n2 c2)).setCell ⟨w.heap.size, 3, none⟩ (.slice a3 n3 c3)).setCell ⟨w.heap.size, 4, none⟩ (.string gd)).setCell ⟨w.heap.size, 5, none⟩ (.slice a4 n4 c4)) := ⟨_, rfl⟩
  rw [← hWF] at YR YB YC
  have HF := Lib.hid hWF
  clear hWF p0 p1 p2 p3 p4 p5 k0 k1 k2 k3 k4 k5 hltb
  go_wp2_with (fail)
  rw [← HF.out]
  obtain ⟨⟨r0, r1, r2, r3, r4, r5⟩, _⟩ := PBox.c YC.out
  clear y0 y1 y2 y3 y4 y5 f0 f1 f2 f3 f4 f5
  refine bodyPost_ret (v := .tuple #[.agg #[.string nm, .slice a1 n1 c1, .slice a2 n2 c2, .slice a3 n3 c3, .string gd, .slice a4 n4 c4], .string s, .string t]) (by simp [results, Tryz.results70, go_sem, r0, r1, r2, r3, r4, r5]) rfl (YR.out.progX (F := F2) (xs := [.string s, .string t]) HZ.out ⟨s, t, rfl, Hs.out, Ht.out⟩ YB.out)
set_option maxHeartbeats 4000000 in
set_option maxRecDepth 100000 in
theorem c_DrawReactionTime (A : Option Addr) (c n : Nat) (w : World) (hn : n ≤ 4096) (hb : Bytes w w.heap.size A n) :
    Calls Tryz.prog 30 #[.slice A n c] w (ProgX F2 X3 w) := by
  have HX0 : Hid (PBox (w.alloc (.cells #[.string ⟨#[]⟩, .slice none 0 0, .slice none 0 0, .slice none 0 0, .string ⟨#[]⟩, .slice none 0 0] 27)) w.heap.size w.heap.size [.string ⟨#[]⟩, .slice none 0 0, .slice none 0 0, .slice none 0 0, .string ⟨#[]⟩, .slice none 0 0]) := Lib.hid (own_box w w.heap.size 27 [.string ⟨#[]⟩, .slice none 0 0, .slice none 0 0, .slice none 0 0, .string ⟨#[]⟩, .slice none 0 0] 6 rfl (Nat.le_refl _))
  have B0 := Lib.hid (below_alloc (Below.refl w.heap.size w) (.cells #[.string ⟨#[]⟩, .slice none 0 0, .slice none 0 0, .slice none 0 0, .string ⟨#[]⟩, .slice none 0 0] 27))
  have HY := Lib.hid (hb.later B0.out (show w.heap.size ≤ (w.alloc (.cells #[.string ⟨#[]⟩, .slice none 0 0, .slice none 0 0, .slice none 0 0, .string ⟨#[]⟩, .slice none 0 0] 27)).heap.size by simp))
  have HYW := Lib.hid (fun w' (h' : Below w.heap.size w w') => hb.later h' h'.size)
  have hsA : (w.alloc (.cells #[.string ⟨#[]⟩, .slice none 0 0, .slice none 0 0, .slice none 0 0, .string ⟨#[]⟩, .slice none 0 0] 27)).heap.size = w.heap.size + 1 := by simp
  go_enter Tryz.func30, Tryz.ntmps30
  go_wp2_with (fail)
  refine (c_From A c n _ hn HY.out).mono ?_
  rintro e w1 ⟨rfl, hs1, hb1⟩
  rw [hsA] at hs1
  have HB1 := Lib.hid (below_chain B0.out hb1)
  have HX1 : Hid (PBox _ _ _ _) := Lib.hid (own_below HX0.out hb1)
  have HS1 := Lib.hid (DW.start hs1)
  have hlt1 := hs1.lt
  clear hs1 hb1 HX0 B0 hsA
  go_wp2_with (fail)
  refine (c_DrawDelayOf A c n _ hn (HYW.out _ HB1.out)).mono ?_
  rintro e w2 ⟨⟨nm, ins, vs, os, gd, ls⟩, a1, a2, a3, a4, c1, c2, c3, c4, ds, xs, rfl, ho, hok, ⟨s, t, rfl, hs, ht⟩, hd2⟩
  have Hs := Lib.hid hs
  have Ht := Lib.hid ht
  have HZ := Lib.hid (hok.sizes ho.e)
  have HX2 : Hid (PBox _ _ _ _) := Lib.hid (own_below HX1.out hd2)
  have HD2 := Lib.hid (HS1.out.below hlt1 hd2)
  have hsw2 := HD2.out.g.size
  have HR2 : Hid (PRows w2 w1.heap.size a1 a2 a3 a4 c1 c2 c3 c4 ins.length vs.length os.length ls.length ins vs os ds) := Lib.hid ho.rows
  dsimp only [F2, pv] at HZ ⊢
  simp only [List.toArray] 
  clear ho hok hd2 HX1 HS1 hs ht
  generalize ins.length = n1 at *
  generalize vs.length = n2 at *
  generalize os.length = n3 at *
  generalize ls.length = n4 at *
  have BA := below_alloc (Below.refl w2.heap.size w2) (.cells #[.string nm, .slice a1 n1 c1, .slice a2 n2 c2, .slice a3 n3 c3, .string gd, .slice a4 n4 c4] 27)
  have HR3 := Lib.hid (HR2.out.below BA)
  have HP3 : Hid (PBox (w2.alloc (.cells #[.string nm, .slice a1 n1 c1, .slice a2 n2 c2, .slice a3 n3 c3, .string gd, .slice a4 n4 c4] 27)) w1.heap.size w2.heap.size [.string nm, .slice a1 n1 c1, .slice a2 n2 c2, .slice a3 n3 c3, .string gd, .slice a4 n4 c4]) := Lib.hid (own_box w2 w1.heap.size 27 [.string nm, .slice a1 n1 c1, .slice a2 n2 c2, .slice a3 n3 c3, .string gd, .slice a4 n4 c4] 6 rfl hsw2)
  have HX3 : Hid (PBox _ _ _ _) := Lib.hid (own_below HX2.out BA)
  have HD3 := Lib.hid (HD2.out.below hlt1 BA)
  clear BA HR2 HX2 HD2
  go_upto_region 3 with (fail)
  generalize w2.alloc (.cells #[.string nm, .slice a1 n1 c1, .slice a2 n2 c2, .slice a3 n3 c3, .string gd, .slice a4 n4 c4] 27) = w3 at *
  generalize w2.heap.size = pb at *
  have hpw : w.heap.size + 1 < pb := by omega
  obtain ⟨⟨k0, k1, k2, k3, k4, k5⟩, _, hltb⟩ := PBox.c HP3.out
  go_upto_region 3 with (fail)
  have HCL := Lib.hid (rd_litI w3.drew [1, 100, 5000, 0, 1000000, 1000001] 2 (by decide))
  refine wp_region_held_drew (S := (fun w' => w'.cell? ⟨pb, 0, none⟩ = some (.string nm) ∧ w'.cell? ⟨pb, 1, none⟩ = some (.slice a1 n1 c1) ∧ w'.cell? ⟨pb, 2, none⟩ = some (.slice a2 n2 c2) ∧ w'.cell? ⟨pb, 3, none⟩ = some (.slice a3 n3 c3) ∧ w'.cell? ⟨pb, 4, none⟩ = some (.string gd) ∧ w'.cell? ⟨pb, 5, none⟩ = some (.slice a4 n4 c4))) (by kernel_rfl) ?_ (fun hHeld => ?_)
  · exact ⟨k0, k1, k2, k3, k4, k5⟩
  refine rg_take (v := ?_) 0 rfl (by kernel_rfl) (by kernel_rfl) (by kernel_rfl) (fun _ _ _ h => h) (by kernel_rfl) ?_ (by assumption) ?_
  rotate_left
  · (intro w' hSw; (try dsimp only at hSw); go_simp; first | done | with_reducible rfl)
  simp only [Act.put, List.setIfInBounds_toArray, List.set_cons_zero, List.set_cons_succ]
  refine rg_take (v := ?_) 1 rfl (by kernel_rfl) (by kernel_rfl) (by kernel_rfl) (fun _ _ _ h => h) (by kernel_rfl) ?_ (by assumption) ?_
  rotate_left
  · (intro w' hSw; (try dsimp only at hSw); go_simp; first | done | with_reducible rfl)
  simp only [Act.put, List.setIfInBounds_toArray, List.set_cons_zero, List.set_cons_succ]
  refine rg_take (v := ?_) 2 rfl (by kernel_rfl) (by kernel_rfl) (by kernel_rfl) (fun _ _ _ h => h) (by kernel_rfl) ?_ (by assumption) ?_
  rotate_left
  · (intro w' hSw; (try dsimp only at hSw); go_simp; first | done | with_reducible rfl)
  simp only [Act.put, List.setIfInBounds_toArray, List.set_cons_zero, List.set_cons_succ]
  refine rg_take (v := ?_) 3 rfl (by kernel_rfl) (by kernel_rfl) (by kernel_rfl) (fun _ _ _ h => h) (by kernel_rfl) ?_ (by assumption) ?_
  rotate_left
  · (intro w' hSw; (try dsimp only at hSw); go_simp; first | done | with_reducible rfl)
  simp only [Act.put, List.setIfInBounds_toArray, List.set_cons_zero, List.set_cons_succ]
  have BA := below_alloc (Below.refl w3.heap.size w3).drew (.cells (ints [1, 100, 5000, 0, 1000000, 1000001]).toArray 2)
  replace k0 := cell_later BA (by exact k0)
  replace k1 := cell_later BA (by exact k1)
  replace k2 := cell_later BA (by exact k2)
  replace k3 := cell_later BA (by exact k3)
  replace k4 := cell_later BA (by exact k4)
  replace k5 := cell_later BA (by exact k5)
  refine rg_run 4 rfl (by kernel_rfl) (by kernel_rfl) (fun K hK => ?_)
  go_simp
  clear hHeld
  refine hK.out _ _ (by exact ⟨k0, k1, k2, k3, k4, k5⟩) (fun hHeld => ?_)
  clear hK K
  try simp only [Act.put, List.setIfInBounds_toArray, List.set_cons_zero, List.set_cons_succ]
  refine rg_run 5 rfl (by kernel_rfl) (by kernel_rfl) (fun K hK => ?_)
  go_simp
  have hdA := (DW.start HD3.out.s).below (by have := HD3.out.g.size; omega) BA
  have hs31 := HD3.out.g.size
  refine (c_PickIn (w.heap.size + 1) w3.heap.size 6 6 [1, 100, 5000, 0, 1000000, 1000001] _ hdA.s (by omega) rfl (by omega) (by omega) (by exact HCL.out)).mono ?_
  rintro e w4 ⟨z, hz, rfl, hdn⟩
  have HZZ : Hid (0 ≤ z ∧ z ≤ 1000001) := Lib.hid ((by decide : ∀ z ∈ ([1, 100, 5000, 0, 1000000, 1000001] : List Int), 0 ≤ z ∧ z ≤ 1000001) z hz)
  have hdd := hdA.then_ hdn
  clear k0 k1 k2 k3 k4 k5 hltb
  have HR4 := Lib.hid (HR3.out.dw hdd hlt1)
  have HP4 : Hid (PBox _ _ _ _) := Lib.hid (hdd.own HP3.out hlt1)
  have HX4 : Hid (PBox _ _ _ _) := Lib.hid (hdd.own2 HX3.out (fun q hq e => by simp only [Value.ownBlock, Option.some.injEq] at hq; omega))
  have HD4 := Lib.hid (HD3.out.then_ hdd)
  clear HR3 HP3 HX3 HD3
  obtain ⟨⟨k0, k1, k2, k3, k4, k5⟩, _, hltb⟩ := PBox.c HP4.out
  clear hdn hdd hdA hz HCL BA
  go_wp2
  clear hHeld
  refine hK.out _ _ (by exact ⟨k0, k1, k2, k3, k4, k5⟩) (fun hHeld => ?_)
  clear hK K
  try simp only [Act.put, List.setIfInBounds_toArray, List.set_cons_zero, List.set_cons_succ]
  have HRt := Lib.hid (HR4.out.mono (show w.heap.size ≤ w1.heap.size by omega))
  have HXt := HX4
  have HBt := Lib.hid (DW.bel HB1.out HD4.out (by omega) rfl)
  obtain ⟨⟨y0, y1, y2, y3, y4, y5⟩, ⟨f0, f1, f2, f3, f4, f5⟩, hlta⟩ := PBox.c HXt.out
  have hz := PBox.fill HXt.out (.string nm) (.slice a1 n1 c1) (.slice a2 n2 c2) (.slice a3 n3 c3) (.string gd) (.slice a4 n4 c4)
  have YR := Lib.hid (HRt.out.box HXt.out hz.2)
  have YB := Lib.hid (below_of_grown HBt.out hz.2 (fun q hq => by simp only [Option.some.injEq] at hq; omega))
  have YC := Lib.hid hz.1
  have YP : PBox ((((((w4.setCell ⟨w.heap.size, 0, none⟩ (.string nm)).setCell ⟨w.heap.size, 1, none⟩ (.slice a1 n1 c1)).setCell ⟨w.heap.size, 2, none⟩ (.slice a2 n2 c2)).setCell ⟨w.heap.size, 3, none⟩ (.slice a3 n3 c3)).setCell ⟨w.heap.size, 4, none⟩ (.string gd)).setCell ⟨w.heap.size, 5, none⟩ (.slice a4 n4 c4)) _ _ _ := PBox.keep HP4.out hz.2 (by omega)
  obtain ⟨⟨p0, p1, p2, p3, p4, p5⟩, _, _⟩ := PBox.c YP
  clear HR4 HX4 HP4 HD4 HRt HXt HBt hz YP
  refine rg_run 6 rfl (by kernel_rfl) (by kernel_rfl) (fun K hK => ?_)
  go_simp
  clear hHeld
  refine hK.out _ _ (by exact ⟨p0, p1, p2, p3, p4, p5⟩) (fun hHeld => ?_)
  clear hK K
  try simp only [Act.put, List.setIfInBounds_toArray, List.set_cons_zero, List.set_cons_succ]
  refine rg_take (v := ?_) 7 rfl (by kernel_rfl) (by kernel_rfl) (by kernel_rfl) (fun _ _ _ h => h) (by kernel_rfl) ?_ (by assumption) ?_
  rotate_left
  · (intro w' hSw; (try dsimp only at hSw); go_simp; first | done | with_reducible rfl)
  simp only [Act.put, List.setIfInBounds_toArray, List.set_cons_zero, List.set_cons_succ]
  refine rg_take (v := ?_) 8 rfl (by kernel_rfl) (by kernel_rfl) (by kernel_rfl) (fun _ _ _ h => h) (by kernel_rfl) ?_ (by assumption) ?_
  rotate_left
  · (intro w' hSw; (try dsimp only at hSw); go_simp; first | done | with_reducible rfl)
  simp only [Act.put, List.setIfInBounds_toArray, List.set_cons_zero, List.set_cons_succ]
  refine rg_take (v := ?_) 9 rfl (by kernel_rfl) (by kernel_rfl) (by kernel_rfl) (fun _ _ _ h => h) (by kernel_rfl) ?_ (by assumption) ?_
  rotate_left
  · (intro w' hSw; (try dsimp only at hSw); go_simp; first | done | with_reducible rfl)
  simp only [Act.put, List.setIfInBounds_toArray, List.set_cons_zero, List.set_cons_succ]
  refine wpAnyH_done (by kernel_rfl) ?_ _
  clear hHeld
  obtain ⟨WF, hWF⟩ : ∃ WF, WF = ((((((w4.setCell ⟨w.heap.size, 0, none⟩ (.string nm)).setCell ⟨w.heap.size, 1, none⟩ (.slice a1 n1 c1)).setCell ⟨w.heap.size, 2, none⟩ (.slice a2 n2 c2)).setCell ⟨w.heap.size, 3, none⟩ (.slice a3 n3 c3)).setCell ⟨w.heap.size, 4, none⟩ (.string gd)).setCell ⟨w.heap.size, 5, none⟩ (.slice a4 n4 c4)) := ⟨_, rfl⟩
  rw [← hWF] at YR YB YC
  have HF := Lib.hid hWF
  clear hWF p0 p1 p2 p3 p4 p5 k0 k1 k2 k3 k4 k5 hltb
  go_wp2_with (fail)
  rw [← HF.out]
  obtain ⟨⟨r0, r1, r2, r3, r4, r5⟩, _⟩ := PBox.c YC.out
  clear y0 y1 y2 y3 y4 y5 f0 f1 f2 f3 f4 f5
  refine bodyPost_ret (v := .tuple #[.agg #[.string nm, .slice a1 n1 c1, .slice a2 n2 c2, .slice a3 n3 c3, .string gd, .slice a4 n4 c4], .string s, .string t, .int .i64 z]) (by simp [results, Tryz.results30, go_sem, r0, r1, r2, r3, r4, r5]) rfl (YR.out.progX (F := F2) (xs := [.string s, .string t, .int .i64 z]) HZ.out ⟨s, t, z, rfl, Hs.out, Ht.out, HZZ.out.1, HZZ.out.2⟩ YB.out)
end Go.Proofs.YteengjcplmjakaaGreatDoor

/- The blocks of a program on both sides (printed by PBl.py). Condition: the program is written. -/
namespace Go.Proofs.YteengjcplmjakaaGreatDoor
open Go.RowKit

theorem wpList_push_tm (w : World) {ops : Array Oper} {rest : List Oper} {o : Oper} {a : Act} {Q : Exit → Act → World → Prop} (hgd : o.guard = none) (s x : Operand)
    (ho : o.op = .call { callee := .builtin .append, args := #[s, x], argTypes := #[32, 32] })
    (base : Nat) (v : Value) (n : Nat) (l : List Tm) (t : Tm) (g c : Nat) (hs : a.eval s = v) (hown : w.ownsRow base 60 3 v n (tmCells l))
    (hx : a.eval x = .slice (some ⟨g, 0, none⟩) 1 c) (h0 : w.cell? ⟨g, 0, none⟩ = some (.int .i64 t.k)) (h1 : w.cell? ⟨g, 1, none⟩ = some (.string t.nm)) (h2 : w.cell? ⟨g, 2, none⟩ = some (.int .i64 t.n)) (hn : n ≤ 1048577) (hbase : base ≤ w.heap.size)
    (h : ∀ v' w', w'.ownsRow base 60 3 v' (n + 1) (tmCells (l ++ [t])) → w.grownBy w' v.ownBlock → wpList Tryz.prog ops Q rest (a.put o.dst v') w') : wpList Tryz.prog ops Q (o :: rest) a w := by
  obtain ⟨i0, hi, hz0, hz1, hz2⟩ := info_parts info_iTerm
  refine wpList_push w hgd s x 32 ho base 60 i0 _ 3 32 Tryz.underlying32 hi hz0 hz1 hz2 rfl (by decide) v n (tmCells l) hs hown ⟨g, 0, none⟩ c t.cells hx rfl ?_ ?_ (by unfold maxLen; omega) (by omega) hbase ?_
  · intro j u hu
    match j, hu with
    | 0, hu => simp only [Tm.cells, List.getElem?_cons_zero, Option.some.injEq] at hu; rw [← hu]; simpa [Addr.add] using h0
    | 1, hu => simp only [Tm.cells, List.getElem?_cons_succ, List.getElem?_cons_zero, Option.some.injEq] at hu; rw [← hu]; simpa [Addr.add] using h1
    | 2, hu => simp only [Tm.cells, List.getElem?_cons_succ, List.getElem?_cons_zero, Option.some.injEq] at hu; rw [← hu]; simpa [Addr.add] using h2
  · intro u hu
    simp only [Tm.cells, List.mem_cons, List.not_mem_nil, or_false] at hu
    rcases hu with rfl | rfl | rfl <;> rfl
  · intro v' w' hown1 hgrow _ _
    refine h v' w' ?_ hgrow
    have e : tmCells (l ++ [t]) = tmCells l ++ t.cells := by simp [tmCells]
    rw [e]
    exact hown1
def isB (t : Tm) : Bool := decide (7 ≤ t.k)
def blkL (l : Lin) : List Tm := l.ts.filter isB
/-- The blocks of a program, in their order. -/
def blk (p : Prg) : List Tm := p.ls.flatMap blkL
theorem flat_snoc {l : List Lin} {k : Nat} {t : Lin} (h : l[k]? = some t) : (l.take (k + 1)).flatMap blkL = (l.take k).flatMap blkL ++ blkL t := by
  rw [List.take_add_one, h, List.flatMap_append]; simp
theorem filt_snoc {l : List Tm} {k : Nat} {t : Tm} (h : l[k]? = some t) : (l.take (k + 1)).filter isB = (l.take k).filter isB ++ (if isB t then [t] else []) := by
  rw [List.take_add_one, h, List.filter_append]
  congr 1
  show [t].filter isB = _
  rw [List.filter_cons]
  cases hb : isB t <;> simp
/-- What is handed back is a list of terms of the call's own. -/
def RetTms (l : List Tm) (w : World) (e : Ending) (w' : World) : Prop := ∃ A c, e = .returned (.slice A l.length c) ∧ w'.ownsRow w.heap.size 60 3 (.slice A l.length c) l.length (tmCells l) ∧ Below w.heap.size w w'
theorem retTms {l l' : List Tm} {n : Nat} {w w' : World} {A : Option Addr} {c : Nat} (h : l = l') (hn : n = l'.length) (ho : w'.ownsRow w.heap.size 60 3 (.slice A n c) n (tmCells l')) (hb : Below w.heap.size w w') : RetTms l w (.returned (.slice A n c)) w' := by
  subst h; subst hn; exact ⟨A, c, rfl, ho, hb⟩
set_option maxHeartbeats 2000000 in
set_option maxRecDepth 100000 in
theorem c_l14Blocks (p : Prg) (a1 a2 a3 a4 : Option Addr) (c1 c2 c3 c4 : Nat) (w : World) (hbd : PgB p) (h : PgR w a1 a2 a3 a4 p) :
    Calls Tryz.prog 63 #[pv p a1 a2 a3 a4 c1 c2 c3 c4] w (RetTms (blk p) w) := by
  have HV : Hid (blk p = p.ls.flatMap blkL) := Lib.hid rfl
  obtain ⟨nm, ins, vs, os, gd, ls⟩ := p
  have bl := hbd.l
  have BT := Lib.hid hbd.t
  have HL := Lib.hid h.l
  dsimp only at bl HV HL
  generalize blk ⟨nm, ins, vs, os, gd, ls⟩ = R at *
  have B0 := Lib.hid (below_alloc (Below.refl w.heap.size w) (.cells #[.string nm, .slice a1 ins.length c1, .slice a2 vs.length c2, .slice a3 os.length c3, .string gd, .slice a4 ls.length c4] 27))
  have k5 : (w.alloc (.cells #[.string nm, .slice a1 ins.length c1, .slice a2 vs.length c2, .slice a3 os.length c3, .string gd, .slice a4 ls.length c4] 27)).cell? ⟨w.heap.size, 5, none⟩ = some (.slice a4 ls.length c4) := by go_simp
  have K5 := Lib.hid k5
  clear hbd h k5
  dsimp only [pv]
  go_enter Tryz.func63, Tryz.ntmps63
  go_upto_region 1 with (fail)
  generalize w.alloc (.cells #[.string nm, .slice a1 ins.length c1, .slice a2 vs.length c2, .slice a3 os.length c3, .string gd, .slice a4 ls.length c4] 27) = W at *
  have HO0 : Hid ((W.alloc (.cells #[] 60)).ownsRow W.heap.size 60 3 (.slice (some ⟨W.heap.size, 0, none⟩) 0 0) 0 (tmCells ((ls.take 0).flatMap blkL))) := Lib.hid (by
    have h := World.ownsRow_lit (e := 60) (size := 3) (base := W.heap.size) W #[] 0 (Nat.le_refl _) (by decide) (by simp)
    simpa [tmCells] using h)
  have BE := Lib.hid (below_alloc (Below.refl W.heap.size W) (.cells #[] 60))
  generalize hln : ls.length = ln at *
  have HLEN := Lib.hid hln
  clear hln
  go_wp2_with (fail)
  go_loopw [3, 4, 5] (fun u i _ wr => ∃ (k n : Nat) (A3 : Option Addr) (c3 : Nat), k ≤ ln ∧ n ≤ 40 * k ∧ i = .int .i64 k ∧ u = .slice A3 n c3 ∧ Hid (((ls.take k).flatMap blkL).length = n) ∧ Hid (wr.ownsRow W.heap.size 60 3 (.slice A3 n c3) n (tmCells ((ls.take k).flatMap blkL))) ∧ Hid (Below W.heap.size W wr)) (fun _ i _ _ => ln - (intOf i).toNat)
  case atStart => exact ⟨0, 0, _, _, Nat.zero_le _, by omega, rfl, rfl, Lib.hid rfl, HO0, BE⟩
  case round =>
    obtain ⟨k, n, A3, C3, hk, hn, rfl, rfl, hl3, ho, hb⟩ := hrel
    clear HO0 BE
    have k5 := cell_later hb.out K5.out
    by_cases hlt : k < ln
    · obtain ⟨⟨tg, ts⟩, hz⟩ : ∃ z, ls[k]? = some z := ⟨_, List.getElem?_eq_getElem (by have := HLEN.out; omega)⟩
      have htl := BT.out _ (List.mem_of_getElem? hz)
      dsimp only at htl
      have HFS := Lib.hid (flat_snoc hz)
      have HZ := Lib.hid hz
      have hk0 : (0 : Int) ≤ (k : Int) := by omega
      have hk1 : (k : Int) < ln := by omega
      clear hz
      go_wp2_with (fail)
      go_loopw [3, 5] (fun u i wq => ∃ (q n2 : Nat) (A3 : Option Addr) (c3 : Nat), q ≤ ts.length ∧ n2 ≤ 40 * k + q ∧ i = .int .i64 q ∧ u = .slice A3 n2 c3 ∧ Hid (((ls.take k).flatMap blkL ++ (ts.take q).filter isB).length = n2) ∧ Hid (wq.ownsRow W.heap.size 60 3 (.slice A3 n2 c3) n2 (tmCells ((ls.take k).flatMap blkL ++ (ts.take q).filter isB))) ∧ Hid (Below W.heap.size W wq)) (fun _ i _ => ts.length - (intOf i).toNat)
      case atStart => exact ⟨0, n, A3, C3, Nat.zero_le _, by omega, rfl, rfl, Lib.hid (by simpa using hl3.out), Lib.hid (by simpa using ho.out), hb⟩
      case round =>
        obtain ⟨q, n2, A3, C3, hq, hn2, rfl, rfl, hl3, ho, hb⟩ := hrel
        clear k5
        have k5 := cell_later hb.out K5.out
        obtain ⟨b, off, la, lc, rfl, _, g0, g1, hrow⟩ := (HL.out.below (below_chain B0.out hb.out)).at HZ.out
        dsimp only at g1 hrow
        by_cases hlt2 : q < ts.length
        · obtain ⟨⟨tk, tn, tx⟩, hz2⟩ : ∃ z, ts[q]? = some z := ⟨_, List.getElem?_eq_getElem hlt2⟩
          obtain ⟨b2, o2, rfl, _, m0, m1, m2⟩ := hrow.tm hz2
          dsimp only at m0 m1 m2
          have hq0 : (0 : Int) ≤ (q : Int) := by omega
          have hq1 : (q : Int) < ts.length := by omega
          have HFL := Lib.hid (filt_snoc hz2)
          clear hz2 hrow g0
          by_cases h7 : (7 : Int) ≤ tk
          · have HIB : Hid (isB ⟨tk, tn, tx⟩ = true) := Lib.hid (decide_eq_true h7)
            rw [HIB.out] at HFL
            have HB1 := Lib.hid (below_alloc hb.out (.cells #[.int .i64 tk, .string tn, .int .i64 tx] 60))
            go_wp2_with (first
              | (at_builtin
                 refine wpList_push_tm _ rfl (.tmp 36) (.tmp 46) rfl W.heap.size _ n2 _ ⟨tk, tn, tx⟩ wr.heap.size 1 rfl (own_below ho.out (below_alloc (Below.refl _ _) _)) rfl (by go_simp) (by go_simp) (by go_simp) (by omega) HB1.out.size ?_
                 intro v7 w7 hown hgrow
                 obtain ⟨A9, c9, rfl⟩ := own_shape hown
                 have HB7 := Lib.hid (below_of_grown HB1.out hgrow (fun q hq => (ho.out.lt q hq).1))
                 have HO7 := Lib.hid hown
                 clear hown hgrow)
              )
            go_roundw
            case rel => exact ⟨q + 1, n2 + 1, A9, c9, by omega, by omega, by go_num, rfl, Lib.hid (by rw [HFL.out, ← List.append_assoc, List.length_append, hl3.out]; rfl), Lib.hid (by rw [HFL.out, ← List.append_assoc]; exact HO7.out), HB7⟩
            case measure => simp [intOf]; omega
          · have HIB : Hid (isB ⟨tk, tn, tx⟩ = false) := Lib.hid (decide_eq_false h7)
            rw [HIB.out] at HFL
            have h7b : tk < 7 := by omega
            clear h7
            go_wp2_with (fail)
            go_roundw
            case rel => exact ⟨q + 1, n2, A3, C3, by omega, by omega, by go_num, rfl, Lib.hid (by rw [HFL.out]; simpa using hl3.out), Lib.hid (by rw [HFL.out]; simpa using ho.out), hb⟩
            case measure => simp [intOf]; omega
        · obtain rfl : q = ts.length := by omega
          have hts : ts.take ts.length = ts := List.take_length
          have HL4 : Hid (((ls.take (k + 1)).flatMap blkL).length = n2) := Lib.hid (by rw [HFS.out]; have := hl3.out; rw [hts] at this; exact this)
          have HO4 : Hid (wr.ownsRow W.heap.size 60 3 (.slice A3 n2 C3) n2 (tmCells ((ls.take (k + 1)).flatMap blkL))) := Lib.hid (by rw [HFS.out]; have := ho.out; rw [hts] at this; exact this)
          clear hts hrow
          go_wp2_with (fail)
          go_roundw
          case rel => exact ⟨k + 1, n2, A3, C3, by omega, by omega, by go_num, rfl, HL4, HO4, hb⟩
          case measure => simp [intOf]; omega
    · obtain rfl : k = ln := by omega
      have htk : ls.take k = ls := List.take_of_length_le (by have := HLEN.out; omega)
      have HO4 := ho.out
      have HL4 := hl3.out
      rw [htk] at HO4 HL4
      have HOF := Lib.hid HO4
      have HLF := Lib.hid HL4
      clear HO4 HL4 htk
      go_wp2_with (fail)
      go_ret
      exact retTms HV.out HLF.out.symm (own_mono HOF.out B0.out.size) (below_chain B0.out hb.out)
end Go.Proofs.YteengjcplmjakaaGreatDoor

/- The blocks of a program on the program's side (printed by PBm.py). Condition: the program is written. -/
namespace Go.Proofs.YteengjcplmjakaaGreatDoor
open Go.RowKit

set_option maxHeartbeats 2000000 in
set_option maxRecDepth 100000 in
theorem c_blocks (p : Prg) (a1 a2 a3 a4 : Option Addr) (c1 c2 c3 c4 : Nat) (w : World) (hbd : PgB p) (h : PgR w a1 a2 a3 a4 p) :
    Calls Tryz.prog 68 #[pv p a1 a2 a3 a4 c1 c2 c3 c4] w (RetTms (blk p) w) := by
  have HV : Hid (blk p = p.ls.flatMap blkL) := Lib.hid rfl
  obtain ⟨nm, ins, vs, os, gd, ls⟩ := p
  have bl := hbd.l
  have BT := Lib.hid hbd.t
  have HL := Lib.hid h.l
  dsimp only at bl HV HL
  generalize blk ⟨nm, ins, vs, os, gd, ls⟩ = R at *
  have B0 := Lib.hid (below_alloc (Below.refl w.heap.size w) (.cells #[.string nm, .slice a1 ins.length c1, .slice a2 vs.length c2, .slice a3 os.length c3, .string gd, .slice a4 ls.length c4] 27))
  have k5 : (w.alloc (.cells #[.string nm, .slice a1 ins.length c1, .slice a2 vs.length c2, .slice a3 os.length c3, .string gd, .slice a4 ls.length c4] 27)).cell? ⟨w.heap.size, 5, none⟩ = some (.slice a4 ls.length c4) := by go_simp
  clear hbd h
  dsimp only [pv]
  go_enter Tryz.func68, Tryz.ntmps68
  go_upto_region 2 with (fail)
  generalize w.alloc (.cells #[.string nm, .slice a1 ins.length c1, .slice a2 vs.length c2, .slice a3 os.length c3, .string gd, .slice a4 ls.length c4] 27) = W at *
  generalize hln : ls.length = ln at *
  have HLEN := Lib.hid hln
  clear hln
  go_wp2_with (fail)
  clear k5
  go_loopw [3, 5, 7, 11] (fun u _ _ i wr => ∃ (k n : Nat) (A3 : Option Addr) (c3 : Nat), k ≤ ln ∧ n ≤ 40 * k ∧ i = .int .i64 k ∧ u = .slice A3 n c3 ∧ Hid (((ls.take k).flatMap blkL).length = n) ∧ Hid (wr.ownsRow W.heap.size 60 3 (.slice A3 n c3) n (tmCells ((ls.take k).flatMap blkL))) ∧ Hid (Below W.heap.size W wr)) (fun _ _ _ i _ => ln - (intOf i).toNat)
  case atStart => exact ⟨0, 0, none, 0, Nat.zero_le _, by omega, rfl, rfl, Lib.hid rfl, Lib.hid (World.ownsRow_nil _ _ _ _), Lib.hid (Below.refl _ _)⟩
  case round =>
    obtain ⟨k, n, A3, C3, hk, hn, rfl, rfl, hl3, ho, hb⟩ := hrel
    by_cases hlt : k < ln
    · obtain ⟨⟨tg, ts⟩, hz⟩ : ∃ z, ls[k]? = some z := ⟨_, List.getElem?_eq_getElem (by have := HLEN.out; omega)⟩
      have htl := BT.out _ (List.mem_of_getElem? hz)
      dsimp only at htl
      obtain ⟨b, off, la, lc, rfl, _, g0W, g1W, hrow⟩ := (HL.out.below B0.out).at hz
      dsimp only at g0W g1W hrow
      have g0 := cell_later hb.out g0W
      have g1 := cell_later hb.out g1W
      have HFS : Hid ((ls.take (k + 1)).flatMap blkL = (ls.take k).flatMap blkL ++ ts.filter isB) := Lib.hid (flat_snoc hz)
      have HROW := Lib.hid hrow
      have hk0 : (0 : Int) ≤ (k : Int) := by omega
      have hk1 : (k : Int) < ln := by omega
      generalize htn : ts.length = tn at *
      have HTN := Lib.hid htn
      have hal := below_alloc (Below.refl wr.heap.size wr) (.cells #[.string tg, .slice la tn lc] 80)
      have HB1 := Lib.hid (below_chain hb.out hal)
      have HO1 := Lib.hid (own_below ho.out hal)
      clear g0W g1W
      clear hz hrow htn hal ho hb
      go_upto_region 6 with (fail)
      generalize wr.alloc (.cells #[.string tg, .slice la tn lc] 80) = wl at *
      clear g0 g1
      go_loopw [3, 7, 18] (fun u _ i wq => ∃ (q n2 : Nat) (A3 : Option Addr) (c3 : Nat), q ≤ tn ∧ n2 ≤ 40 * k + q ∧ i = .int .i64 q ∧ u = .slice A3 n2 c3 ∧ Hid (((ls.take k).flatMap blkL ++ (ts.take q).filter isB).length = n2) ∧ Hid (wq.ownsRow W.heap.size 60 3 (.slice A3 n2 c3) n2 (tmCells ((ls.take k).flatMap blkL ++ (ts.take q).filter isB))) ∧ Hid (Below W.heap.size W wq)) (fun _ _ i _ => tn - (intOf i).toNat)
      case atStart => exact ⟨0, n, A3, C3, Nat.zero_le _, by omega, rfl, rfl, Lib.hid (by simpa using hl3.out), Lib.hid (by simpa using HO1.out), HB1⟩
      case round =>
        obtain ⟨q, n2, A3, C3, hq, hn2, rfl, rfl, hl3, ho, hb⟩ := hrel
        by_cases hlt2 : q < tn
        · obtain ⟨⟨tk, tm, tx⟩, hz2⟩ : ∃ z, ts[q]? = some z := ⟨_, List.getElem?_eq_getElem (by have := HTN.out; omega)⟩
          obtain ⟨b2, o2, rfl, hb2, m0, m1, m2⟩ := (HROW.out.below hb.out).tm hz2
          dsimp only at m0 m1 m2
          have hq0 : (0 : Int) ≤ (q : Int) := by omega
          have hq1 : (q : Int) < tn := by omega
          have HFL := Lib.hid (filt_snoc hz2)
          have hal := below_alloc (Below.refl wr.heap.size wr) (.cells #[.int .i64 tk, .string tm, .int .i64 tx] 60)
          have HB2 := Lib.hid (below_chain hb.out hal)
          have HO2 := Lib.hid (own_below ho.out hal)
          clear hz2 hal ho hb
          by_cases h7 : (7 : Int) ≤ tk
          · have HIB : Hid (isB ⟨tk, tm, tx⟩ = true) := Lib.hid (decide_eq_true h7)
            rw [HIB.out] at HFL
            have hal2 := below_alloc (Below.refl (wr.alloc (.cells #[.int .i64 tk, .string tm, .int .i64 tx] 60)).heap.size (wr.alloc (.cells #[.int .i64 tk, .string tm, .int .i64 tx] 60))) (.cells #[.int .i64 tk, .string tm, .int .i64 tx] 60)
            have HB3 := Lib.hid (below_chain HB2.out hal2)
            have HO3 := Lib.hid (own_below HO2.out hal2)
            clear hal2
            go_wp2_with (first
              | (at_builtin
                 refine wpList_push_tm _ rfl (.tmp 25) (.tmp 27) rfl W.heap.size _ n2 _ ⟨tk, tm, tx⟩ (wr.heap.size + 1) 1 rfl HO3.out (by first | rfl | (go_simp; done)) (by go_simp) (by go_simp) (by go_simp) (by omega) HB3.out.size ?_
                 intro v7 w7 hown hgrow
                 obtain ⟨A9, c9, rfl⟩ := own_shape hown
                 have HB7 := Lib.hid (below_of_grown HB3.out hgrow (fun q hq => (HO3.out.lt q hq).1))
                 have HO7 := Lib.hid hown
                 clear hown hgrow)
              )
            go_roundw
            case rel => exact ⟨q + 1, n2 + 1, A9, c9, by omega, by omega, by go_num, rfl, Lib.hid (by rw [HFL.out, ← List.append_assoc, List.length_append, hl3.out]; rfl), Lib.hid (by rw [HFL.out, ← List.append_assoc]; exact HO7.out), HB7⟩
            case measure => simp [intOf]; omega
          · have HIB : Hid (isB ⟨tk, tm, tx⟩ = false) := Lib.hid (decide_eq_false h7)
            rw [HIB.out] at HFL
            have h7b : tk < 7 := by omega
            clear h7
            go_wp2_with (fail)
            go_roundw
            case rel => exact ⟨q + 1, n2, A3, C3, by omega, by omega, by go_num, rfl, Lib.hid (by rw [HFL.out]; simpa using hl3.out), Lib.hid (by rw [HFL.out]; simpa using HO2.out), HB2⟩
            case measure => simp [intOf]; omega
        · obtain rfl : q = tn := by omega
          have hts : ts.take q = ts := List.take_of_length_le (by have := HTN.out; omega)
          have HL4 : Hid (((ls.take (k + 1)).flatMap blkL).length = n2) := Lib.hid (by rw [HFS.out]; have := hl3.out; rw [hts] at this; exact this)
          have HO4 : Hid (wr.ownsRow W.heap.size 60 3 (.slice A3 n2 C3) n2 (tmCells ((ls.take (k + 1)).flatMap blkL))) := Lib.hid (by rw [HFS.out]; have := ho.out; rw [hts] at this; exact this)
          clear hts
          go_wp2_with (fail)
          go_roundw
          case rel => exact ⟨k + 1, n2, A3, C3, by omega, by omega, by go_num, rfl, HL4, HO4, hb⟩
          case measure => simp [intOf]; omega
    · obtain rfl : k = ln := by omega
      have htk : ls.take k = ls := List.take_of_length_le (by have := HLEN.out; omega)
      have HO4 := ho.out
      have HL4 := hl3.out
      rw [htk] at HO4 HL4
      have HOF := Lib.hid HO4
      have HLF := Lib.hid HL4
      clear HO4 HL4 htk
      go_wp2_with (fail)
      go_ret
      exact retTms HV.out HLF.out.symm (own_mono HOF.out B0.out.size) (below_chain B0.out hb.out)
end Go.Proofs.YteengjcplmjakaaGreatDoor
