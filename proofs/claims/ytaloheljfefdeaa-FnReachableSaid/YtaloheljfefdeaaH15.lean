/- Contracts and helpers (joined texts, part 15). The conditions stand at each theorem. -/
import Derived.Test.YtaloheljfefdeaaH14
/- l21Draw. Condition: none but the source. -/
namespace Go.Proofs.Ytaloheljfefdeaa
open Go.RowKit

theorem DMd.put {B base p : Nat} {wD : World} {x y z x' y' z' : Value} {az ax ar : Option Addr} {cz cs cr sn tn rn : Nat} {m : Mdl} {ds : List RuD} (hx : MBox wD base p x y z) (hm : DMd B base wD az ax ar cz cs cr sn tn rn m ds) : DMd B base (set3 wD p x' y' z') az ax ar cz cs cr sn tn rn m ds := by
  have hbo : wD.ownsRow base 27 1 (.slice (some ⟨p, 0, none⟩) 3 3) 3 _ := hx
  have hbx : wD.grownBy (set3 wD p x' y' z') (Value.slice (some ⟨p, 0, none⟩) 3 3).ownBlock := (MBox.set3 hx x' y' z').2
  exact ⟨⟨own_keep hm.o.z hbo (by decide) hbx, own_keep hm.o.s hbo (by decide) hbx, own_keep hm.o.r hbo (by decide) hbx, hm.o.e, fun d hd => ⟨own_keep (hm.o.d d hd).1 hbo (by decide) hbx, own_keep (hm.o.d d hd).2 hbo (by decide) hbx⟩⟩, hm.z, hm.s, hm.r, hm.sep, hm.zb, hm.rb, hm.B⟩
theorem set3_alloc {w : World} (o : Obj) {p : Nat} {x y z : Value} (hp : p < w.heap.size) : (((w.setCell ⟨p, 0, none⟩ x).setCell ⟨p, 1, none⟩ y).setCell ⟨p, 2, none⟩ z).alloc o = set3 (w.alloc o) p x y z := by
  unfold set3
  rw [World.setCell_alloc_past _ _ _ _ hp, World.setCell_alloc_past _ _ _ _ (by simpa using hp), World.setCell_alloc_past _ _ _ _ (by simpa using hp)]
def sz4 (W : World) : World := (((W.alloc (.cells #[.int .i64 16, .int .i64 16, .int .i64 16] 2)).alloc (.cells #[.int .i64 8, .int .i64 8, .int .i64 8] 2)).alloc (.cells #[.int .i64 20, .int .i64 20, .int .i64 10] 2)).alloc (.cells #[.slice (some ⟨W.heap.size, 0, none⟩) 3 3, .slice (some ⟨W.heap.size + 1, 0, none⟩) 3 3, .slice (some ⟨W.heap.size + 2, 0, none⟩) 3 3] 24)
theorem lit3 (W : World) (base : Nat) (hb : base ≤ W.heap.size) (x y z : Int) : (W.alloc (.cells #[.int .i64 x, .int .i64 y, .int .i64 z] 2)).ownsRow base 2 1 (.slice (some ⟨W.heap.size, 0, none⟩) 3 3) 3 (ints [x, y, z]) := by
  have h := World.ownsRow_lit (e := 2) (size := 1) (base := base) W #[.int .i64 x, .int .i64 y, .int .i64 z] 3 hb (by decide) (by simp)
  simpa [ints] using h
theorem szs_at (W : World) (k : Nat) (hk : k < 3) : ∃ (g : Nat) (zs : List Int), W.heap.size ≤ g ∧ zs.length = 3 ∧ (∀ z ∈ zs, z ≤ 20) ∧ (sz4 W).cell? ⟨W.heap.size + 3, k, none⟩ = some (.slice (some ⟨g, 0, none⟩) 3 3) ∧ (sz4 W).ownsRow W.heap.size 2 1 (.slice (some ⟨g, 0, none⟩) 3 3) 3 (ints zs) := by
  match k, hk with
  | 0, _ =>
    refine ⟨W.heap.size, [16, 16, 16], Nat.le_refl _, rfl, by decide, by unfold sz4; go_simp, ?_⟩
    exact own_below (own_below (own_below (lit3 W _ (Nat.le_refl _) 16 16 16) (below_alloc (Below.refl _ _) _)) (below_alloc (Below.refl _ _) _)) (below_alloc (Below.refl _ _) _)
  | 1, _ =>
    refine ⟨W.heap.size + 1, [8, 8, 8], by omega, rfl, by decide, by unfold sz4; go_simp, ?_⟩
    have h := lit3 (W.alloc (.cells #[.int .i64 16, .int .i64 16, .int .i64 16] 2)) W.heap.size (by simp) 8 8 8
    simp only [World.size_alloc] at h
    exact own_below (own_below h (below_alloc (Below.refl _ _) _)) (below_alloc (Below.refl _ _) _)
  | 2, _ =>
    refine ⟨W.heap.size + 2, [20, 20, 10], by omega, rfl, by decide, by unfold sz4; go_simp, ?_⟩
    have h := lit3 ((W.alloc (.cells #[.int .i64 16, .int .i64 16, .int .i64 16] 2)).alloc (.cells #[.int .i64 8, .int .i64 8, .int .i64 8] 2)) W.heap.size (by simp; omega) 20 20 10
    simp only [World.size_alloc] at h
    exact own_below h (below_alloc (Below.refl _ _) _)
theorem lit1 (W : World) (base : Nat) (hb : base ≤ W.heap.size) (x y : Int) (z : Bool) : (W.alloc (.cells #[.int .i64 x, .int .i64 y, .bool z] 100)).ownsRow base 100 3 (.slice (some ⟨W.heap.size, 0, none⟩) 1 1) 1 (tstCells [⟨x, y, z⟩]) := by
  have h := World.ownsRow_lit (e := 100) (size := 3) (base := base) W #[.int .i64 x, .int .i64 y, .bool z] 1 hb (by decide) (by simp)
  simpa [tstCells, Tst.cells] using h
theorem lit2 (W : World) (base : Nat) (hb : base ≤ W.heap.size) (x y : Int) : (W.alloc (.cells #[.int .i64 x, .int .i64 y] 104)).ownsRow base 104 2 (.slice (some ⟨W.heap.size, 0, none⟩) 1 1) 1 (asgCells [⟨x, y⟩]) := by
  have h := World.ownsRow_lit (e := 104) (size := 2) (base := base) W #[.int .i64 x, .int .i64 y] 1 hb (by decide) (by simp)
  simpa [asgCells, Asg.cells] using h
set_option maxHeartbeats 2000000 in
set_option maxRecDepth 100000 in
theorem c_l21Draw (B : Nat) (w : World) (h : Src w B) : Calls Try.prog 86 #[.pointer (some ⟨B, 0, none⟩)] w (DrMd B 1 10 300 1000 w) := by
  have hBl := h.lt
  have HD := Lib.hid ((DW.start h).alloc hBl (.cells #[.slice none 0 0, .slice none 0 0, .slice none 0 0] 27))
  have HBX : Hid (MBox (w.alloc (.cells #[.slice none 0 0, .slice none 0 0, .slice none 0 0] 27)) w.heap.size w.heap.size (.slice none 0 0) (.slice none 0 0) (.slice none 0 0)) := Lib.hid (mbox_new (w := w) _ _ _)
  clear h
  go_enter Try.func86, Try.ntmps86
  go_wp2_with (fail)
  refine (c_NextD B _ _ HD.out.s (by omega)).mono ?_
  rintro e w1 ⟨r, rfl, hr0, hr1, _, hd⟩
  have HD1 := Lib.hid (HD.out.then_ hd)
  have HX1 : Hid (MBox w1 w.heap.size w.heap.size (.slice none 0 0) (.slice none 0 0) (.slice none 0 0)) := Lib.hid (hd.own HBX.out hBl)
  have hw1 := (HX1.out).c.2.2.2.2.2.2.2
  have hB1 : B < w1.heap.size := by omega
  clear hd hr0 hr1 HD HBX
  by_cases hr : r = 0
  · subst hr
    go_wp2_with (fail)
    refine (c_NextD B _ _ (((((DW.start HD1.out.s).alloc hB1 _).alloc hB1 _).alloc hB1 _).alloc hB1 _).s (by omega)).mono ?_
    rintro e w2 ⟨y, rfl, hy0, hy1, _, hd⟩
    have hy3 := hy1 (by omega)
    obtain ⟨k, rfl⟩ : ∃ k : Nat, y = k := ⟨y.toNat, by omega⟩
    obtain ⟨g, zs, hg, hzl, hz20, gc, go⟩ := szs_at w1 k (by omega)
    replace gc := hd.cell (by exact gc) (by omega)
    have HZ : Hid (w2.ownsRow w1.heap.size 2 1 (.slice (some ⟨g, 0, none⟩) 3 3) 3 (ints zs)) := Lib.hid (hd.own (by exact go) (by omega))
    have HD2 : Hid (DW B w1 w2) := Lib.hid ((((((DW.start HD1.out.s).alloc hB1 _).alloc hB1 _).alloc hB1 _).alloc hB1 _).then_ (by exact hd))
    have HZL := Lib.hid hzl
    have HZ2 := Lib.hid hz20
    have hw2 := HD2.out.g.size
    have HX2 : Hid (MBox w2 w.heap.size w.heap.size (.slice none 0 0) (.slice none 0 0) (.slice none 0 0)) := Lib.hid (HD2.out.own HX1.out hBl)
    have HE0 : Hid ((w2.alloc (Obj.cells #[] 54)).ownsRow w2.heap.size 54 3 (.slice (some ⟨w2.heap.size, 0, none⟩) 0 0) 0 (rudCells [])) := Lib.hid (by
      have := World.ownsRow_made (e := 54) (size := 3) (base := w2.heap.size) w2 #[] 0 (Nat.le_refl _) (Nat.zero_le _) rfl
      simpa [rudCells] using this)
    have hB2 : B < w2.heap.size := by omega
    have HDE := Lib.hid ((DW.start HD2.out.s).alloc hB2 (Obj.cells #[] 54))
    clear hd hy0 hy1 go hzl hz20
    go_wp2
    clear gc
    go_loopw [4, 5] (fun v i wr => ∃ (a k : Nat) (dl : List RuD), a ≤ 3 ∧ k ≤ 20 * a ∧ i = .int .i64 a ∧ Hid (dl.length = k) ∧ Hid (wr.ownsRow w2.heap.size 54 3 v k (rudCells dl)) ∧ Hid (∀ d ∈ dl, Nest wr w2.heap.size d ∧ d.r.gs.length ≤ 1000 ∧ d.r.es.length ≤ 1000 ∧ d.r.nm.size ≤ 1000) ∧ Hid (DW B w2 wr)) (fun _ i _ => 3 - (intOf i).toNat)
    case atStart => exact ⟨0, 0, [], by omega, by omega, rfl, Lib.hid rfl, HE0, Lib.hid (by simp), HDE⟩
    case round =>
      clear HE0 HDE
      obtain ⟨a, k0, dl, ha, hk0, rfl, hdl, ho, hn, hdw⟩ := hrel
      by_cases ha3 : a < 3
      · obtain ⟨wo, rfl⟩ : ∃ wo, wo = wr := ⟨_, rfl⟩
        have ha3i : (a : Int) < 3 := by omega
        obtain ⟨z, hz⟩ : ∃ z, zs[a]? = some z := ⟨_, List.getElem?_eq_getElem (by have := HZL.out; omega)⟩
        have hz20 := HZ2.out z (List.mem_of_getElem? hz)
        have HZA := Lib.hid hz
        clear hz
        go_wp2
        go_loopw [4, 6] (fun v i wr => ∃ (b k : Nat) (dl : List RuD), b ≤ 20 ∧ k ≤ 20 * a + b ∧ i = .int .i64 b ∧ Hid (dl.length = k) ∧ Hid (wr.ownsRow w2.heap.size 54 3 v k (rudCells dl)) ∧ Hid (∀ d ∈ dl, Nest wr w2.heap.size d ∧ d.r.gs.length ≤ 1000 ∧ d.r.es.length ≤ 1000 ∧ d.r.nm.size ≤ 1000) ∧ Hid (DW B w2 wr)) (fun _ i _ => 20 - (intOf i).toNat)
        case atStart => exact ⟨0, k0, dl, by omega, by omega, rfl, hdl, ho, hn, hdw⟩
        case round =>
          clear hdl ho hn hdw hk0
          obtain ⟨b, k, dl, hb, hk, rfl, hdl, ho, hn, hdw⟩ := hrel
          obtain ⟨wi, rfl⟩ : ∃ wi, wi = wr := ⟨_, rfl⟩
          obtain ⟨gb, go, hge, _, z0⟩ := (Rd.own (hdw.out.own HZ.out (by omega))).int HZA.out
          simp only [Option.some.injEq, Addr.mk.injEq, and_true] at hge
          obtain ⟨rfl, rfl⟩ := hge
          simp only [Nat.zero_add] at z0
          have hsw := hdw.out.g.size
          by_cases hlt : (b : Int) + 1 < z
          · go_wp2_with (first
              | (at_builtin
                 refine wpList_push_rul _ (by rfl) (.tmp 32) (.tmp 43) (by rfl) w2.heap.size _ k dl ⟨⟨⟨#[117, 112]⟩, [⟨(a : Int), (b : Int), true⟩], [⟨(a : Int), (b : Int) + 1⟩]⟩, some ⟨wi.heap.size, 0, none⟩, 1, some ⟨wi.heap.size + 1, 0, none⟩, 1⟩ (wi.heap.size + 2) 1 (by rfl) (own_below (own_below (own_below ho.out (below_alloc (Below.refl _ _) _)) (below_alloc (Below.refl _ _) _)) (below_alloc (Below.refl _ _) _)) (by rfl) (by go_simp) (by dsimp only [RuD.vg]; go_simp) (by dsimp only [RuD.ve]; go_simp) (by omega) (by simp; omega) ?_
                 intro v1 wG hown1 hgrow
                 have HOG := Lib.hid hown1
                 have HGG := Lib.hid hgrow
                 clear hown1 hgrow)
              )
            go_roundw
            case rel =>
              have hB3 : B < w2.heap.size := by omega
              have hge := fun q hq => (ho.out.lt q hq).1
              have hO := own_below (own_below (own_below ho.out (below_alloc (Below.refl _ _) (Obj.cells #[.int .i64 (a : Int), .int .i64 (b : Int), .bool true] 100))) (below_alloc (Below.refl _ _) (Obj.cells #[.int .i64 (a : Int), .int .i64 ((b : Int) + 1)] 104))) (below_alloc (Below.refl _ _) (Obj.cells #[.string ⟨#[117, 112]⟩, .slice (some ⟨wi.heap.size, 0, none⟩) 1 1, .slice (some ⟨wi.heap.size + 1, 0, none⟩) 1 1] 54))
              exact ⟨b + 1, k + 1, _, by omega, by omega, by go_num, Lib.hid (by rw [List.length_append, hdl.out]; rfl), HOG, Lib.hid (fun d' hd' => by
                rcases List.mem_append.1 hd' with hd' | hd'
                · have h9 := hn.out d' hd'
                  exact ⟨⟨own_keep (own_below (own_below (own_below h9.1.1 (below_alloc (Below.refl _ _) _)) (below_alloc (Below.refl _ _) _)) (below_alloc (Below.refl _ _) _)) hO (by decide) HGG.out, own_keep (own_below (own_below (own_below h9.1.2 (below_alloc (Below.refl _ _) _)) (below_alloc (Below.refl _ _) _)) (below_alloc (Below.refl _ _) _)) hO (by decide) HGG.out⟩, h9.2⟩
                · rw [List.mem_singleton] at hd'
                  subst hd'
                  refine ⟨⟨own_keep (own_below (own_below (lit1 wi w2.heap.size hsw (a : Int) (b : Int) true) (below_alloc (Below.refl _ _) _)) (below_alloc (Below.refl _ _) _)) hO (by decide) HGG.out, own_keep (own_below ?_ (below_alloc (Below.refl _ _) _)) hO (by decide) HGG.out⟩, by show (1 : Nat) ≤ 1000; omega, by show (1 : Nat) ≤ 1000; omega, by show (2 : Nat) ≤ 1000; omega⟩
                  have h2 := lit2 (wi.alloc (Obj.cells #[.int .i64 (a : Int), .int .i64 (b : Int), .bool true] 100)) w2.heap.size (by simp; omega) (a : Int) ((b : Int) + 1)
                  simp only [World.size_alloc] at h2
                  exact h2), Lib.hid ((((hdw.out.alloc hB3 _).alloc hB3 _).alloc hB3 _).far hB3 HGG.out (fun q hq => hge q hq))⟩
            case measure => simp [intOf]; omega
          · go_wp2
            go_roundw
            case rel => exact ⟨a + 1, k, dl, by omega, by omega, by go_num, hdl, ho, hn, hdw⟩
            case measure => simp [intOf]; omega
      · have ha3 : a = 3 := by omega
        subst ha3
        obtain ⟨ar, cr, hvr⟩ := own_shape ho.out
        subst hvr
        obtain ⟨wo, rfl⟩ : ∃ wo, wo = wr := ⟨_, rfl⟩
        have hso := hdw.out.g.size
        have HS0 := Lib.hid (lit3 wo w.heap.size (by omega) 0 0 0)
        have HX3 := Lib.hid (own_below (hdw.out.own HX2.out hBl) (below_alloc (Below.refl _ wo) (Obj.cells #[.int .i64 0, .int .i64 0, .int .i64 0] 2)))
        have HZ3 := Lib.hid (own_below (own_mono (hdw.out.own HZ.out (by omega)) (Nat.le_of_lt hw1)) (below_alloc (Below.refl _ wo) (Obj.cells #[.int .i64 0, .int .i64 0, .int .i64 0] 2)))
        have HR3 := Lib.hid (own_below (own_mono ho.out (by omega : w.heap.size ≤ w2.heap.size)) (below_alloc (Below.refl _ wo) (Obj.cells #[.int .i64 0, .int .i64 0, .int .i64 0] 2)))
        have hlz := (HZ.out.lt g rfl).2
        have HM : Hid (DMd B w.heap.size (wo.alloc (Obj.cells #[.int .i64 0, .int .i64 0, .int .i64 0] 2)) (some ⟨g, 0, none⟩) (some ⟨wo.heap.size, 0, none⟩) ar 3 3 cr 3 3 k0 ⟨zs, [0, 0, 0], dl.map RuD.r⟩ dl) := Lib.hid (by
          have e1 := HZL.out
          have e2 := hdl.out
          refine ⟨⟨?_, ?_, ?_, rfl, fun d hd => ⟨own_below (own_mono (hn.out d hd).1.1 (by omega)) (below_alloc (Below.refl _ _) _), own_below (own_mono (hn.out d hd).1.2 (by omega)) (below_alloc (Below.refl _ _) _)⟩⟩, e1, rfl, by rw [List.length_map, e2], fun q hq hq2 => by simp [Value.ownBlock] at hq hq2; omega, fun z hz => by have := HZ2.out z hz; omega, fun d hd => (hn.out d hd).2, hBl⟩
          · show World.ownsRow _ _ _ _ (.slice _ zs.length _) zs.length _
            rw [e1]
            exact HZ3.out
          · exact HS0.out
          · show World.ownsRow _ _ _ _ (.slice _ (dl.map RuD.r).length _) (dl.map RuD.r).length _
            rw [List.length_map, e2]
            exact HR3.out)
        have HDW := Lib.hid (((HD1.out.then_ HD2.out).then_ hdw.out).alloc hBl (Obj.cells #[.int .i64 0, .int .i64 0, .int .i64 0] 2))
        have HF := Lib.hid (MBox.set3 HX3.out (Value.slice (some ⟨g, 0, none⟩) 3 3) (Value.slice (some ⟨wo.heap.size, 0, none⟩) 3 3) (Value.slice ar k0 cr))
        have HDF := Lib.hid (HDW.out.set3 hBl (Value.slice (some ⟨g, 0, none⟩) 3 3) (Value.slice (some ⟨wo.heap.size, 0, none⟩) 3 3) (Value.slice ar k0 cr) (Nat.le_refl _))
        have HFIN := Lib.hid (HM.out.put HX3.out (x' := Value.slice (some ⟨g, 0, none⟩) 3 3) (y' := Value.slice (some ⟨wo.heap.size, 0, none⟩) 3 3) (z' := Value.slice ar k0 cr))
        obtain ⟨_, _, _, f0, f1, f2, _, hxl⟩ := MBox.c HX3.out
        obtain ⟨v0, v1, v2, j0, j1, j2, _, hxl2⟩ := MBox.c (hdw.out.own HX2.out hBl)
        clear HS0 HX3 HZ3 HR3 HM HDW ho hn hdw
        go_wp2_with (fail)
        rw [set3_alloc (Obj.cells #[.int .i64 0, .int .i64 0, .int .i64 0] 2) hxl2]
        change bodyPost _ _ _ _ _ (set3 (wo.alloc (Obj.cells #[.int .i64 0, .int .i64 0, .int .i64 0] 2)) w.heap.size (Value.slice (some ⟨g, 0, none⟩) 3 3) (Value.slice (some ⟨wo.heap.size, 0, none⟩) 3 3) (Value.slice ar k0 cr))
        generalize set3 (wo.alloc (Obj.cells #[.int .i64 0, .int .i64 0, .int .i64 0] 2)) w.heap.size (Value.slice (some ⟨g, 0, none⟩) 3 3) (Value.slice (some ⟨wo.heap.size, 0, none⟩) 3 3) (Value.slice ar k0 cr) = WF at HF HDF HFIN ⊢
        obtain ⟨r0, r1, r2, _⟩ := MBox.c HF.out.1
        clear f0 f1 f2 v0 v1 v2 j0 j1 j2
        refine bodyPost_ret (v := .agg #[.slice (some ⟨g, 0, none⟩) 3 3, .slice (some ⟨wo.heap.size, 0, none⟩) 3 3, .slice ar k0 cr]) (by simp [results, Try.results86, go_sem, r0, r1, r2]) rfl ⟨_, _, _, _, _, _, _, _, _, _, _, rfl, HFIN.out, by omega, by omega, by omega, by omega, by omega, HFIN.out.rb, HDF.out⟩
  · have hrb : (r == 0) = false := by simpa using hr
    go_wp2_with (fail)
    refine (c_l20Draw B _ HD1.out.s).mono ?_
    rintro e w2 ⟨az, ax, ar, cz, cs, cr, sn, tn, rn, m, ds, rfl, hmd, hn1, hn2, ht1, ht2, hr2, hR, hd⟩
    have HX3 : Hid (MBox w2 w.heap.size w.heap.size (.slice none 0 0) (.slice none 0 0) (.slice none 0 0)) := Lib.hid (hd.own HX1.out hBl)
    have HM := Lib.hid (hmd.mono (Nat.le_of_lt hw1) hBl)
    have HF := Lib.hid (MBox.set3 HX3.out (Value.slice az sn cz) (Value.slice ax tn cs) (Value.slice ar rn cr))
    have HDF := Lib.hid ((HD1.out.then_ hd).set3 hBl (Value.slice az sn cz) (Value.slice ax tn cs) (Value.slice ar rn cr) (Nat.le_refl _))
    have HFIN := Lib.hid (HM.out.put HX3.out (x' := Value.slice az sn cz) (y' := Value.slice ax tn cs) (z' := Value.slice ar rn cr))
    obtain ⟨v0, v1, v2, f0, f1, f2, _, hxl⟩ := MBox.c HX3.out
    clear hmd hR hd
    go_wp2_with (fail)
    change bodyPost _ _ _ _ _ (set3 w2 w.heap.size (Value.slice az sn cz) (Value.slice ax tn cs) (Value.slice ar rn cr))
    generalize set3 w2 w.heap.size (Value.slice az sn cz) (Value.slice ax tn cs) (Value.slice ar rn cr) = WF at HF HDF HFIN ⊢
    obtain ⟨r0, r1, r2, _⟩ := MBox.c HF.out.1
    clear f0 f1 f2 v0 v1 v2
    refine bodyPost_ret (v := .agg #[.slice az sn cz, .slice ax tn cs, .slice ar rn cr]) (by simp [results, Try.results86, go_sem, r0, r1, r2]) rfl ⟨_, _, _, _, _, _, _, _, _, _, _, rfl, HFIN.out, hn1, hn2, ht1, ht2, hr2, HFIN.out.rb, HDF.out⟩
end Go.Proofs.Ytaloheljfefdeaa

/- l21DrawTests. Condition: none but the source. -/
namespace Go.Proofs.Ytaloheljfefdeaa
open Go.RowKit

theorem put_row {base b2 p n size : Nat} {wD : World} {x y z x' y' z' v : Value} {e : TypeId} {xs : List Value} (h : wD.ownsRow b2 e size v n xs) (hx : MBox wD base p x y z) (he : e ≠ 27) : (set3 wD p x' y' z').ownsRow b2 e size v n xs := by
  have hbo : wD.ownsRow base 27 1 (.slice (some ⟨p, 0, none⟩) 3 3) 3 _ := hx
  have hbx : wD.grownBy (set3 wD p x' y' z') (Value.slice (some ⟨p, 0, none⟩) 3 3).ownBlock := (MBox.set3 hx x' y' z').2
  exact own_keep h hbo he hbx
def DrMT (B : Nat) (w : World) (e : Ending) (w' : World) : Prop :=
  ∃ az ax ar cz cs cr sn tn rn m ds A c n, ∃ ts : List Tst, e = .returned (.tuple #[.agg #[.slice az sn cz, .slice ax tn cs, .slice ar rn cr], .slice A n c]) ∧ DMd B w.heap.size w' az ax ar cz cs cr sn tn rn m ds ∧ 1 ≤ sn ∧ sn ≤ 10 ∧ 1 ≤ tn ∧ tn ≤ 10 ∧ rn ≤ 300 ∧
    ts.length = n ∧ n ≤ 10 ∧ w'.ownsRow w.heap.size 100 3 (.slice A n c) n (tstCells ts) ∧ DW B w w'
set_option maxHeartbeats 2000000 in
set_option maxRecDepth 100000 in
theorem c_l21DrawTests (B : Nat) (w : World) (h : Src w B) : Calls Try.prog 46 #[.pointer (some ⟨B, 0, none⟩)] w (DrMT B w) := by
  have hBl := h.lt
  have HD := Lib.hid ((DW.start h).alloc hBl (.cells #[.slice none 0 0, .slice none 0 0, .slice none 0 0] 27))
  have HBX : Hid (MBox (w.alloc (.cells #[.slice none 0 0, .slice none 0 0, .slice none 0 0] 27)) w.heap.size w.heap.size (.slice none 0 0) (.slice none 0 0) (.slice none 0 0)) := Lib.hid (mbox_new (w := w) _ _ _)
  clear h
  go_enter Try.func46, Try.ntmps46
  go_wp2_with (fail)
  refine (c_l21Draw B _ HD.out.s).mono ?_
  rintro e w1 ⟨az, ax, ar, cz, cs, cr, sn, tn, rn, m, ds, rfl, hmd, hn1, hn2, ht1, ht2, hr2, hR, hd⟩
  have HX1 : Hid (MBox w1 w.heap.size w.heap.size (.slice none 0 0) (.slice none 0 0) (.slice none 0 0)) := Lib.hid (hd.own HBX.out hBl)
  have hw1 := (HX1.out).c.2.2.2.2.2.2.2
  have hB1 : B < w1.heap.size := by omega
  have HD1 := Lib.hid (HD.out.then_ hd)
  have HM1 := Lib.hid (hmd.mono (by simp) hBl)
  clear hmd hR hd HD HBX
  have HDW : Hid (DW B w1 ((w1.alloc (.cells #[.slice az sn cz, .slice ax tn cs, .slice ar rn cr] 27)).alloc (.cells #[] 100))) := Lib.hid (((DW.start HD1.out.s).alloc hB1 _).alloc hB1 _)
  have HMB : Hid (MBox ((w1.alloc (.cells #[.slice az sn cz, .slice ax tn cs, .slice ar rn cr] 27)).alloc (.cells #[] 100)) w1.heap.size w1.heap.size (.slice az sn cz) (.slice ax tn cs) (.slice ar rn cr)) := Lib.hid (own_below (mbox_new _ _ _) (below_alloc (Below.refl _ _) _))
  have hsni : (0 : Int) < (sn : Int) := by omega
  go_upto_region 4 with (fail)
  obtain ⟨b0, b1, b2, _, _, _, _, hplt⟩ := MBox.c HMB.out
  go_wp2_with (fail)
  have hzo := HDW.out.own HM1.out.o.z hBl
  rw [HM1.out.z] at hzo
  refine (c_l20DrawTests B 3 w.heap.size az ax ar cz cs cr sn tn rn m.sz _ HDW.out.s (by omega) HM1.out.z hn1 (by omega) HM1.out.zb hBl hzo).mono ?_
  rintro e w2 ⟨A, c, n, ts, rfl, hts, hn3, hto, hd⟩
  have HDW2 := Lib.hid (HDW.out.then_ hd)
  have HMB2 : Hid (MBox w2 w1.heap.size w1.heap.size (.slice az sn cz) (.slice ax tn cs) (.slice ar rn cr)) := Lib.hid (hd.own HMB.out hB1)
  have HT2 : Hid (w2.ownsRow w1.heap.size 100 3 (.slice A n c) n (tstCells ts)) := Lib.hid (own_mono hto (by simp; omega))
  have HTS := Lib.hid hts
  clear hzo hto hts hd b0 b1 b2 hplt HDW HMB
  go_wp2_with (fail)
  refine (c_NextD B _ _ HDW2.out.s (by omega)).mono ?_
  rintro e w3 ⟨r, rfl, hr0, hr1, _, hd⟩
  have HDW3 := Lib.hid (HDW2.out.then_ hd)
  have HMB3 : Hid (MBox w3 w1.heap.size w1.heap.size (.slice az sn cz) (.slice ax tn cs) (.slice ar rn cr)) := Lib.hid (hd.own HMB2.out hB1)
  have HT3 := Lib.hid (hd.own HT2.out hB1)
  clear hd hr0 hr1 HDW2 HMB2 HT2
  go_upto_if 18 with (fail)
  go_cut [5] from 19 to 31 (fun v wx => ∃ (k : Nat) (tl : List Tst), Hid (tl.length = k) ∧ k ≤ 10 ∧ Hid (wx.ownsRow w1.heap.size 100 3 v k (tstCells tl)) ∧ Hid (MBox wx w1.heap.size w1.heap.size (.slice az sn cz) (.slice ax tn cs) (.slice ar rn cr)) ∧ Hid (DW B w1 wx))
  case first =>
    by_cases hr : r = 0
    · subst hr
      obtain ⟨b0, b1, b2, _, _, _, _, hplt⟩ := MBox.c HMB3.out
      have hB3 : B < w3.heap.size := by omega
      go_wp2_with (fail)
      refine (c_PickIn B w3.heap.size 3 3 [-1, (sn : Int), 0] _ ((DW.start HDW3.out.s).alloc hB3 _).s (by omega) rfl (by omega) (by omega) (by exact rd_lit3 w3 (-1) (sn : Int) 0)).mono ?_
      rintro e w4 ⟨p1, _, rfl, hd4⟩
      have HD4 := Lib.hid (((DW.start HDW3.out.s).alloc hB3 (Obj.cells #[Value.int .i64 (-1), Value.int .i64 sn, Value.int .i64 0] 2)).then_ hd4)
      have hw4 := HD4.out.g.size
      have hB4 : B < w4.heap.size := by omega
      clear hd4
      go_wp2_with (fail)
      refine (c_PickIn B w4.heap.size 3 3 [-1, 0, 40] _ ((DW.start HD4.out.s).alloc hB4 _).s (by omega) rfl (by omega) (by omega) (by exact rd_lit3 w4 (-1) 0 40)).mono ?_
      rintro e w5 ⟨p2, _, rfl, hd5⟩
      have HD5 := Lib.hid (HD4.out.then_ (((DW.start HD4.out.s).alloc hB4 (Obj.cells #[Value.int .i64 (-1), Value.int .i64 0, Value.int .i64 40] 2)).then_ hd5))
      have hw5 := HD5.out.g.size
      have hB5 : B < w5.heap.size := by omega
      have HT5 := Lib.hid (HD5.out.own HT3.out hB1)
      have hw15 : w1.heap.size ≤ w5.heap.size := by omega
      clear hd5
      go_wp2_with (first
        | (at_builtin
           refine wpList_push_tst _ (by rfl) (.tmp 19) (.tmp 30) (by rfl) w1.heap.size _ n ts ⟨p1, p2, false⟩ w5.heap.size 1 (by rfl) (own_below HT5.out (below_alloc (Below.refl _ _) _)) (by rfl) (by go_simp) (by go_simp) (by go_simp) (by omega) (by simp; omega) ?_
           intro v1 w7 hown1 hgrow
           have HW1 := Lib.hid hown1
           have HG7 := Lib.hid hgrow
           clear hown1 hgrow)
        )
      go_meet
      case rel =>
        have hge := fun q hq => (HT5.out.lt q hq).1
        exact ⟨n + 1, _, Lib.hid (by rw [List.length_append, HTS.out]; rfl), by omega, HW1, Lib.hid (own_keep (own_below (HD5.out.own HMB3.out hB1) (below_alloc (Below.refl _ _) _)) (own_below HT5.out (below_alloc (Below.refl _ _) _)) (by decide) HG7.out), Lib.hid ((HDW3.out.then_ (HD5.out.alloc hB3 _)).far hB1 HG7.out (fun q hq => hge q hq))⟩
    · have hrb : (r == 0) = false := by simpa using hr
      go_wp2
      go_meet
      case rel => exact ⟨n, ts, HTS, by omega, HT3, HMB3, HDW3⟩
  case rest =>
    obtain ⟨wF, rfl⟩ : ∃ wF, wF = wc := ⟨_, rfl⟩
    obtain ⟨k, tl, htl, hk, hto, hmb, hdw⟩ := hcut
    obtain ⟨A5, c5, hv5⟩ := own_shape hto.out
    subst hv5
    have HX3 : Hid (MBox wF w.heap.size w.heap.size (.slice none 0 0) (.slice none 0 0) (.slice none 0 0)) := Lib.hid (hdw.out.own HX1.out hBl)
    have HMF := Lib.hid (HM1.out.far hdw.out)
    have HF := Lib.hid (MBox.set3 HX3.out (Value.slice az sn cz) (Value.slice ax tn cs) (Value.slice ar rn cr))
    have HDF := Lib.hid ((HD1.out.then_ hdw.out).set3 hBl (Value.slice az sn cz) (Value.slice ax tn cs) (Value.slice ar rn cr) (Nat.le_refl _))
    have HFIN := Lib.hid (HMF.out.put HX3.out (x' := Value.slice az sn cz) (y' := Value.slice ax tn cs) (z' := Value.slice ar rn cr))
    have HTF := Lib.hid (own_mono (put_row hto.out HX3.out (by decide) (x' := Value.slice az sn cz) (y' := Value.slice ax tn cs) (z' := Value.slice ar rn cr)) (Nat.le_of_lt hw1))
    obtain ⟨v0, v1, v2, f0, f1, f2, _, hxl⟩ := MBox.c HX3.out
    obtain ⟨b0, b1, b2, _, _, _, _, hplt⟩ := MBox.c hmb.out
    clear hto hdw HT3 HMB3 HDW3
    go_wp2_with (fail)
    change bodyPost _ _ _ _ _ (set3 wF w.heap.size (Value.slice az sn cz) (Value.slice ax tn cs) (Value.slice ar rn cr))
    generalize set3 wF w.heap.size (Value.slice az sn cz) (Value.slice ax tn cs) (Value.slice ar rn cr) = WF at HF HDF HFIN HTF ⊢
    obtain ⟨r0, r1, r2, _⟩ := MBox.c HF.out.1
    clear f0 f1 f2 v0 v1 v2 b0 b1 b2
    refine bodyPost_ret (v := .tuple #[.agg #[.slice az sn cz, .slice ax tn cs, .slice ar rn cr], .slice A5 k c5]) (by simp [results, Try.results46, go_sem, r0, r1, r2]) rfl ⟨_, _, _, _, _, _, _, _, _, _, _, A5, c5, k, tl, rfl, HFIN.out, hn1, hn2, ht1, ht2, hr2, htl.out, hk, HTF.out, HDF.out⟩
end Go.Proofs.Ytaloheljfefdeaa

/- l21DrawTrace. Condition: a model of the call's own. -/
namespace Go.Proofs.Ytaloheljfefdeaa
open Go.RowKit

set_option maxHeartbeats 2000000 in
set_option maxRecDepth 100000 in
theorem c_l21DrawTrace (B base : Nat) (az ax ar : Option Addr) (cz cs cr sn tn rn : Nat) (m : Mdl) (ds : List RuD) (w : World) (h : Src w B) (hm : DMd B base w az ax ar cz cs cr sn tn rn m ds) (ht1 : 1 ≤ tn) (hok : MOk m) :
    Calls Try.prog 58 #[.pointer (some ⟨B, 0, none⟩), .agg #[.slice az sn cz, .slice ax tn cs, .slice ar rn cr]] w (DrIs B 10 w) := by
  have hBl := h.lt
  have hz := hm.z
  have hs := hm.s
  have hr := hm.r
  have hrl := hok.1.2.2.1
  have hsl := hok.1.2.1
  have HM := Lib.hid hm
  have HOK := Lib.hid hok
  have HI := Lib.hid (fun w' h => show Calls Try.prog 85 #[.agg #[.slice az sn cz, .slice ax tn cs, .slice ar rn cr]] w' _ from by
    have := c_sIsModel m az ax ar cz cs cr w' hok h
    unfold mv at this
    rw [hz, hs, hr] at this
    exact this)
  have HD := Lib.hid (((DW.start h).alloc hBl (.cells #[.slice az sn cz, .slice ax tn cs, .slice ar rn cr] 27)).alloc hBl (.cells #[] 2))
  have HT : Hid (((w.alloc (.cells #[.slice az sn cz, .slice ax tn cs, .slice ar rn cr] 27)).alloc (.cells #[] 2)).ownsRow (w.heap.size + 1) 2 1 (.slice (some ⟨w.heap.size + 1, 0, none⟩) 0 0) 0 (ints [])) := Lib.hid (by
    have := World.ownsRow_made (e := 2) (size := 1) (base := w.heap.size + 1) (w.alloc (.cells #[.slice az sn cz, .slice ax tn cs, .slice ar rn cr] 27)) #[] 0 (by simp) (Nat.zero_le _) rfl
    simpa [ints] using this)
  obtain ⟨bs, os, has, _, _⟩ := hm.o.md.s.some_ (by intro e; have h5 := ints_length m.st; rw [e] at h5; simp at h5; omega)
  subst has
  rcases hmd : mdB m with _ | _
  · rw [hmd] at HI
    clear h hm hok hmd hz hs hr hrl hsl
    go_enter Try.func58, Try.ntmps58
    go_wp2_with (fail)
    refine (HI.out _ (HM.out.far HD.out).o.md).mono ?_
    rintro e w1 ⟨rfl, hb⟩
    have HD1 := Lib.hid (HD.out.below hBl hb)
    have HT1 := Lib.hid (own_below HT.out hb)
    clear hb
    go_wp2
    go_ret
    exact ⟨_, _, 0, [], rfl, rfl, by omega, own_mono HT1.out (by omega), HD1.out⟩
  rw [hmd] at HI
  have hst := st_of hmd
  have HST := Lib.hid hst
  have HEN := Lib.hid (fun (vs : List Int) (hv1 : stB m.sz vs = true) (hv2 : vs.length = tn) A c w' h hv => show Calls Try.prog 75 #[.agg #[.slice az sn cz, .slice (some ⟨bs, os, none⟩) tn cs, .slice ar rn cr], .slice A tn c] w' _ from by
    have := c_l20Enabled m az (some ⟨bs, os, none⟩) ar cz cs cr A c vs w' hrl (by omega) (gs_of hmd hv1 hok) h hv
    unfold mv at this
    rw [hz, hs, hr, hv2] at this
    exact this)
  have HAP := Lib.hid (fun (vs : List Int) (hv1 : stB m.sz vs = true) (hv2 : vs.length = tn) (k : Nat) (r : Rul) (hk : m.rs[k]? = some r) b off c w' hv he => show Calls Try.prog 77 #[.agg #[.slice az sn cz, .slice (some ⟨bs, os, none⟩) tn cs, .slice ar rn cr], .slice (some ⟨b, off, none⟩) tn c, .int .i64 k] w' _ from by
    have := c_l20Apply m az (some ⟨bs, os, none⟩) ar cz cs cr k r b off c tn vs w' hk hrl hv2.symm (by omega) (hok.1.2.2.2 r (List.mem_of_getElem? hk)).2 (by rw [← hv2]; exact es_of hmd hv1 (List.mem_of_getElem? hk)) hv he
    unfold mv at this
    rw [hz, hs, hr] at this
    exact this)
  have HSA := Lib.hid (fun (vs : List Int) (hv1 : stB m.sz vs = true) (k : Nat) (r : Rul) (hk : m.rs[k]? = some r) => st_apR hmd hv1 (List.mem_of_getElem? hk))
  have HLS := Lib.hid hs
  have htl : tn ≤ 1048576 := by omega
  clear h hm hok hmd hz hs hr hst
  go_enter Try.func58, Try.ntmps58
  go_wp2_with (fail)
  refine (HI.out _ (HM.out.far HD.out).o.md).mono ?_
  rintro e w1 ⟨rfl, hb⟩
  have k0 : w1.cell? ⟨w.heap.size, 0, none⟩ = some (.slice az sn cz) := cell_later hb (by go_simp)
  have k1 : w1.cell? ⟨w.heap.size, 1, none⟩ = some (.slice (some ⟨bs, os, none⟩) tn cs) := cell_later hb (by go_simp)
  have k2 : w1.cell? ⟨w.heap.size, 2, none⟩ = some (.slice ar rn cr) := cell_later hb (by go_simp)
  have HD1 := Lib.hid (HD.out.below hBl hb)
  have HT1 := Lib.hid (own_below HT.out hb)
  clear hb HI HD HT
  go_wp2_with (fail)
  refine (c_l01Own bs os cs tn m.st _ HLS.out.symm (by omega) (HM.out.far HD1.out).o.md.s).mono ?_
  rintro e w2 ⟨g6, c6, rfl, ho6, hb⟩
  have HD2 := Lib.hid (HD1.out.below hBl hb)
  have HT2 := Lib.hid (own_below HT1.out hb)
  have HV2 := Lib.hid ho6
  have hw10 := World.block_lt_of_cell? _ _ k0
  dsimp only at hw10
  replace k0 := cell_later hb k0
  replace k1 := cell_later hb k1
  replace k2 := cell_later hb k2
  have HSEP : Hid (∀ q, (Value.slice (some ⟨w.heap.size + 1, 0, none⟩) 0 0).ownBlock = some q → (Value.slice (some ⟨g6, 0, none⟩) tn c6).ownBlock ≠ some q) := Lib.hid (fun q hq hq2 => by
    have h1 := (HT1.out.lt q hq).2
    have h2 := (ho6.lt q hq2).1
    omega)
  clear hb ho6 HD1 HT1
  go_wp2_with (fail)
  refine (c_NextD B _ _ HD2.out.s (by omega)).mono ?_
  rintro e w3 ⟨r, rfl, hr0, hr1, _, hd⟩
  have hrm := hr1 (by omega)
  obtain ⟨j, rfl⟩ : ∃ j : Nat, r = j := ⟨r.toNat, by omega⟩
  have hj6 : j ≤ 6 := by omega
  have HD3 := Lib.hid (HD2.out.then_ hd)
  have HT3 := Lib.hid (hd.own HT2.out (by omega))
  have HV3 := Lib.hid (hd.own HV2.out (by have := HD2.out.g.size; omega))
  replace k0 := hd.cell k0 (by omega)
  replace k1 := hd.cell k1 (by omega)
  replace k2 := hd.cell k2 (by omega)
  clear hd hr0 hr1 hrm HD2 HT2 HV2
  go_upto_block 0 with (fail)
  go_cut [5, 6, 7] from 20 to 44 (fun v5 v6 v7 wx => ∃ (k : Nat) (tr : List Int), k ≤ 6 ∧ Hid (tr.length = k) ∧ Hid (wx.ownsRow (w.heap.size + 1) 2 1 v5 k (ints tr)) ∧ wx.cell? ⟨w.heap.size, 2, none⟩ = some (.slice ar rn cr) ∧ Hid (DW B w wx))
  case first =>
    have hB1 : B < w.heap.size + 1 := by omega
    go_wp2_with (fail)
    go_loopw [5, 6, 7] (fun v5 v6 v7 wx => ∃ (j k : Nat) (tr vs : List Int) (g6 c6 : Nat), j + k ≤ 6 ∧ v7 = .int .i64 j ∧ v6 = .slice (some ⟨g6, 0, none⟩) tn c6 ∧ Hid (tr.length = k) ∧ Hid (stB m.sz vs = true ∧ vs.length = tn) ∧ Hid (wx.ownsRow (w.heap.size + 1) 2 1 v5 k (ints tr)) ∧ Hid (wx.ownsRow (w.heap.size + 1) 2 1 (.slice (some ⟨g6, 0, none⟩) tn c6) tn (ints vs)) ∧ Hid (∀ q, v5.ownBlock = some q → (Value.slice (some ⟨g6, 0, none⟩) tn c6).ownBlock ≠ some q) ∧ wx.cell? ⟨w.heap.size, 0, none⟩ = some (.slice az sn cz) ∧ wx.cell? ⟨w.heap.size, 1, none⟩ = some (.slice (some ⟨bs, os, none⟩) tn cs) ∧ wx.cell? ⟨w.heap.size, 2, none⟩ = some (.slice ar rn cr) ∧ Hid (DW B w wx)) (fun _ _ v7 _ => (intOf v7).toNat)
    case atStart => exact ⟨j, 0, [], m.st, g6, c6, by omega, rfl, rfl, Lib.hid rfl, Lib.hid ⟨HST.out, HLS.out⟩, HT3, Lib.hid (own_mono HV3.out (by omega)), HSEP, k0, k1, k2, HD3⟩
    case round =>
      clear HT3 HV3 HSEP k0 k1 k2 HD3 hj6 HST
      obtain ⟨j, k, tr, vs, g6, c6, hjk, rfl, rfl, htr, hvs, hto, hvo, hsep, k0, k1, k2, hdw⟩ := hrel
      obtain ⟨wa, rfl⟩ : ∃ wa, wa = wr := ⟨_, rfl⟩
      have hwa := World.block_lt_of_cell? _ _ k0
      dsimp only at hwa
      by_cases hj0 : 0 < j
      · obtain ⟨j, rfl⟩ : ∃ j', j = j' + 1 := ⟨j - 1, by omega⟩
        have hji : (0 : Int) < ((j + 1 : Nat) : Int) := by omega
        have hji2 : (0 : Int) < (j : Int) + 1 := by omega
        have hBa : B < wa.heap.size := by omega
        go_wp2_with (fail)
        refine (HEN.out vs hvs.out.1 hvs.out.2 _ _ _ (HM.out.far hdw.out).o.md (Rd.own hvo.out)).mono ?_
        rintro e w4 ⟨A8, c8, rfl, ho8, hb⟩
        have HL8 : Hid (∀ y ∈ enL vs m.rs, ∃ k : Nat, y = k ∧ k < m.rs.length) := Lib.hid (fun y hy => enL_mem hy)
        have HO8 := Lib.hid ho8
        generalize enL vs m.rs = es at HL8 HO8 ho8 ⊢
        have HD4 := Lib.hid (hdw.out.below hBl hb)
        have HT4 := Lib.hid (own_below hto.out hb)
        have HV4 := Lib.hid (own_below hvo.out hb)
        replace k0 := cell_later hb k0
        replace k1 := cell_later hb k1
        replace k2 := cell_later hb k2
        have hwb := hb.size
        have hel := own_cap ho8
        unfold maxLen at hel
        clear hb ho8 hto hvo hdw
        by_cases he0 : es.length = 0
        · have HE := Lib.hid he0
          rw [he0]
          clear he0
          go_wp2
          go_meet
          case rel => exact ⟨k, tr, by omega, htr, HT4, k2, HD4⟩
        · have he1 : ¬ ((es.length : Int) = 0) := by omega
          have he2 : (0 : Int) < (es.length : Int) := by omega
          go_wp2_with (fail)
          refine (c_NextD B _ _ HD4.out.s (by omega)).mono ?_
          rintro e w5 ⟨q, rfl, hq0, hq1, _, hd⟩
          have hqn := hq1 (by omega)
          obtain ⟨q, rfl⟩ : ∃ q' : Nat, q = q' := ⟨q.toNat, by omega⟩
          obtain ⟨y, hy⟩ : ∃ z, es[q]? = some z := ⟨_, List.getElem?_eq_getElem (by omega)⟩
          obtain ⟨kk, hyk, hkk⟩ := HL8.out y (List.mem_of_getElem? hy)
          subst hyk
          obtain ⟨r, hr⟩ : ∃ r, m.rs[kk]? = some r := ⟨_, List.getElem?_eq_getElem hkk⟩
          have HR := Lib.hid hr
          obtain ⟨eb, eo, rfl, _, e0⟩ := (Rd.own (hd.own HO8.out hBa)).int hy
          have HD5 := Lib.hid (HD4.out.then_ hd)
          have HT5 := Lib.hid (hd.own HT4.out hB1)
          have HV5 := Lib.hid (hd.own HV4.out hB1)
          replace k0 := hd.cell k0 (by omega)
          replace k1 := hd.cell k1 (by omega)
          replace k2 := hd.cell k2 (by omega)
          have hw5 := hd.g.size
          clear hd hy hq1 hr HL8 HO8 HD4 HT4 HV4 hkk
          go_wp2_with (first
            | (at_builtin
               refine wpList_push_int _ (by rfl) (.tmp 37) (.tmp 39) (by rfl) (w.heap.size + 1) _ k tr (kk : Int) w5.heap.size 1 (by rfl) (own_below HT5.out (below_alloc (Below.refl _ _) _)) (by rfl) (by go_simp) (by omega) (by simp; omega) ?_
               intro v1 w6 hown1 hgrow _ hnew
               have HW1 := Lib.hid hown1
               have HG6 := Lib.hid hgrow
               have HNW := Lib.hid hnew
               have HVa := own_below HV5.out (below_alloc (Below.refl _ w5) (Obj.cells #[.int .i64 (kk : Int)] 2))
               have HSEP6 := Lib.hid (sep_new hsep.out hnew HVa)
               have HV6 := Lib.hid (kept_ne HVa hgrow (fun q hq e => hsep.out q e hq))
               have hge := fun q hq => (HT5.out.lt q hq).1
               have HD6 := Lib.hid ((HD5.out.alloc hBl (Obj.cells #[.int .i64 (kk : Int)] 2)).far hBl hgrow (fun q hq => by have := hge q hq; omega))
               replace k0 := hgrow.cell (cell_later (below_alloc (Below.refl _ _) _) k0) (fun e => by have := hge _ e.symm; dsimp only at this; omega)
               replace k1 := hgrow.cell (cell_later (below_alloc (Below.refl _ _) _) k1) (fun e => by have := hge _ e.symm; dsimp only at this; omega)
               replace k2 := hgrow.cell (cell_later (below_alloc (Below.refl _ _) _) k2) (fun e => by have := hge _ e.symm; dsimp only at this; omega)
               clear hown1 hgrow hnew HVa hge)
            )
          refine (HAP.out vs hvs.out.1 hvs.out.2 kk r HR.out g6 0 c6 _ (Rd.own HV6.out) (HM.out.far HD6.out).o.md.r).mono ?_
          rintro e w7 ⟨g7, c7, rfl, ho7, hb⟩
          have HD7 := Lib.hid (HD6.out.below hBl hb)
          have HT7 := Lib.hid (own_below HW1.out hb)
          have HV7 := Lib.hid (own_mono ho7 (show w.heap.size + 1 ≤ w6.heap.size by have := World.block_lt_of_cell? _ _ k0; dsimp only at this; omega))
          have HSEP7 : Hid (∀ q, v1.ownBlock = some q → (Value.slice (some ⟨g7, 0, none⟩) tn c7).ownBlock ≠ some q) := Lib.hid (fun q hq hq2 => by
            have h1 := (HW1.out.lt q hq).2
            have h2 := (ho7.lt q hq2).1
            omega)
          replace k0 := cell_later hb k0
          replace k1 := cell_later hb k1
          replace k2 := cell_later hb k2
          clear hb ho7
          go_wp2_with (fail)
          go_roundw
          case rel => exact ⟨j, k + 1, _, _, g7, c7, by omega, by go_num, rfl, Lib.hid (by rw [List.length_append, htr.out]; rfl), Lib.hid ⟨HSA.out vs hvs.out.1 kk r HR.out, by rw [apL_len]; exact hvs.out.2⟩, HT7, HV7, HSEP7, k0, k1, k2, HD7⟩
          case measure => simp [intOf] <;> omega
      · have hj1 : j = 0 := by omega
        subst hj1
        go_wp2
        go_meet
        case rel => exact ⟨k, tr, by omega, htr, hto, k2, hdw⟩
  case rest =>
    clear HT3 HV3 HSEP k0 k1 k2 HD3 HST HEN HAP HSA
    obtain ⟨wF, rfl⟩ : ∃ wF, wF = wc := ⟨_, rfl⟩
    obtain ⟨k, tr, hk, htr, hto, k2, hdw⟩ := hcut
    have hrli : rn ≤ 1048576 := by have := HM.out.r; have := HOK.out.1.2.2.1; omega
    go_wp2_with (fail)
    refine (c_NextD B _ _ hdw.out.s (by omega)).mono ?_
    rintro e w4 ⟨r, rfl, hr0, hr1, _, hd⟩
    have hB1 : B < w.heap.size + 1 := by omega
    have HD4 := Lib.hid (hdw.out.then_ hd)
    have HT4 := Lib.hid (hd.own hto.out hB1)
    replace k2 := hd.cell k2 (by omega)
    have hw4 := World.block_lt_of_cell? _ _ k2
    dsimp only at hw4
    clear hd hto hdw hr1
    by_cases hr : r = 0
    · subst hr
      have hwr : IntKind.i64.wrap ((rn : Int) + 1) = rn + 1 := IntWalk.i64_in _ (by omega)
      go_wp2_with (fail)
      refine (c_NextD B _ _ HD4.out.s (by omega)).mono ?_
      rintro e w5 ⟨y, rfl, _, _, _, hd⟩
      have HD5 := Lib.hid (HD4.out.then_ hd)
      have HT5 := Lib.hid (hd.own HT4.out hB1)
      have hw5 := hd.g.size
      clear hd
      go_wp2_with (first
        | (at_builtin
           refine wpList_push_int _ (by rfl) (.tmp 49) (.tmp 56) (by rfl) (w.heap.size + 1) _ k tr y w5.heap.size 1 (by rfl) (own_below HT5.out (below_alloc (Below.refl _ _) _)) (by rfl) (by go_simp) (by omega) (by simp; omega) ?_
           intro v1 w6 hown1 hgrow _ _
           have hge := fun q hq => (HT5.out.lt q hq).1
           have HW1 := Lib.hid hown1
           have HD6 := Lib.hid ((HD5.out.alloc hBl (Obj.cells #[.int .i64 y] 2)).far hBl hgrow (fun q hq => by have := hge q hq; omega))
           clear hown1 hgrow hge)
        )
      obtain ⟨A3, c3, hv3⟩ := own_shape HW1.out
      subst hv3
      go_ret
      exact ⟨A3, c3, k + 1, _, rfl, by rw [List.length_append, htr.out]; rfl, by omega, own_mono HW1.out (by omega), HD6.out⟩
    · have hrb : (r == 0) = false := by simpa using hr
      by_cases hr1 : r = 1
      · subst hr1
        go_wp2_with (first
          | (at_builtin
             refine wpList_push_int _ (by rfl) (.tmp 60) (.tmp 61) (by rfl) (w.heap.size + 1) _ k tr (-1) w4.heap.size 1 (by rfl) (own_below HT4.out (below_alloc (Below.refl _ _) _)) (by rfl) (by go_simp) (by omega) (by simp; omega) ?_
             intro v1 w6 hown1 hgrow _ _
             have hge := fun q hq => (HT4.out.lt q hq).1
             have HW1 := Lib.hid hown1
             have HD6 := Lib.hid ((HD4.out.alloc hBl (Obj.cells #[.int .i64 (-1)] 2)).far hBl hgrow (fun q hq => by have := hge q hq; omega))
             clear hown1 hgrow hge)
          )
        obtain ⟨A3, c3, hv3⟩ := own_shape HW1.out
        subst hv3
        go_ret
        exact ⟨A3, c3, k + 1, _, rfl, by rw [List.length_append, htr.out]; rfl, by omega, own_mono HW1.out (by omega), HD6.out⟩
      · have hr1b : (r == 1) = false := by simpa using hr1
        obtain ⟨A3, c3, hv3⟩ := own_shape HT4.out
        subst hv3
        go_wp2
        go_ret
        exact ⟨A3, c3, k, tr, rfl, htr.out, by omega, own_mono HT4.out (by omega), HD4.out⟩
end Go.Proofs.Ytaloheljfefdeaa

/- Draws of models, as the laws call them (printed by DrP.py). Condition: at most 4096 bytes of code. -/
namespace Go.Proofs.Ytaloheljfefdeaa
open Go.RowKit

theorem bytes_later {w w' : World} {A : Option Addr} {n : Nat} (h : Bytes w w.heap.size A n) (hb : Below w.heap.size w w') : Bytes w' w'.heap.size A n := by
  intro j hj
  obtain ⟨b, off, u, e, hb1, hu, hc⟩ := h j hj
  exact ⟨b, off, u, e, Nat.lt_of_lt_of_le hb1 hb.size, hu, cell_later hb hc⟩
theorem DMd.put2 {B base b2 p : Nat} {wD : World} {x y z x' y' z' : Value} {az ax ar : Option Addr} {cz cs cr sn tn rn : Nat} {m : Mdl} {ds : List RuD} (hx : MBox wD base p x y z) (hm : DMd B b2 wD az ax ar cz cs cr sn tn rn m ds) : DMd B b2 (set3 wD p x' y' z') az ax ar cz cs cr sn tn rn m ds := by
  have hbo : wD.ownsRow base 27 1 (.slice (some ⟨p, 0, none⟩) 3 3) 3 _ := hx
  have hbx : wD.grownBy (set3 wD p x' y' z') (Value.slice (some ⟨p, 0, none⟩) 3 3).ownBlock := (MBox.set3 hx x' y' z').2
  exact ⟨⟨own_keep hm.o.z hbo (by decide) hbx, own_keep hm.o.s hbo (by decide) hbx, own_keep hm.o.r hbo (by decide) hbx, hm.o.e, fun d hd => ⟨own_keep (hm.o.d d hd).1 hbo (by decide) hbx, own_keep (hm.o.d d hd).2 hbo (by decide) hbx⟩⟩, hm.z, hm.s, hm.r, hm.sep, hm.zb, hm.rb, hm.B⟩
theorem MOwn.mono {w : World} {base base' : Nat} {az ax ar : Option Addr} {cz cs cr : Nat} {m : Mdl} {ds : List RuD} (h : MOwn w base az ax ar cz cs cr m ds) (hb : base' ≤ base) : MOwn w base' az ax ar cz cs cr m ds :=
  ⟨own_mono h.z hb, own_mono h.s hb, own_mono h.r hb, h.e, fun d hd => (h.d d hd).mono hb⟩
theorem MOwn.put {base b2 p : Nat} {wD : World} {x y z x' y' z' : Value} {az ax ar : Option Addr} {cz cs cr : Nat} {m : Mdl} {ds : List RuD} (hx : MBox wD base p x y z) (hm : MOwn wD b2 az ax ar cz cs cr m ds) : MOwn (set3 wD p x' y' z') b2 az ax ar cz cs cr m ds :=
  ⟨put_row hm.z hx (by decide), put_row hm.s hx (by decide), put_row hm.r hx (by decide), hm.e, fun d hd => ⟨put_row (hm.d d hd).1 hx (by decide), put_row (hm.d d hd).2 hx (by decide)⟩⟩
theorem below_put {w wD : World} {p : Nat} (h : Below w.heap.size w wD) (x y z : Value) (hp : w.heap.size ≤ p) : Below w.heap.size w (set3 wD p x y z) :=
  below_set (below_set (below_set h (p := ⟨p, 0, none⟩) x hp) (p := ⟨p, 1, none⟩) y hp) (p := ⟨p, 2, none⟩) z hp
/-- The model drawn, in the laws' words. -/
def RetDM (w : World) (e : Ending) (w' : World) : Prop := ∃ az ax ar cz cs cr m ds, e = .returned (mv m az ax ar cz cs cr) ∧ MOk m ∧ MOwn w' w.heap.size az ax ar cz cs cr m ds ∧ Below w.heap.size w w'
def RetDMT (w : World) (e : Ending) (w' : World) : Prop := ∃ az ax ar cz cs cr m ds A c, ∃ ts : List Tst, e = .returned (.tuple #[mv m az ax ar cz cs cr, .slice A ts.length c]) ∧ MOk m ∧ MOwn w' w.heap.size az ax ar cz cs cr m ds ∧ ts.length ≤ 1048576 ∧ w'.ownsRow w.heap.size 100 3 (.slice A ts.length c) ts.length (tstCells ts) ∧ Below w.heap.size w w'
def RetDMV (w : World) (e : Ending) (w' : World) : Prop := ∃ az ax ar cz cs cr m ds A c, ∃ vs : List Int, e = .returned (.tuple #[mv m az ax ar cz cs cr, .slice A vs.length c]) ∧ MOk m ∧ MOwn w' w.heap.size az ax ar cz cs cr m ds ∧ vs.length ≤ 1048576 ∧ w'.ownsRow w.heap.size 2 1 (.slice A vs.length c) vs.length (ints vs) ∧ Below w.heap.size w w'
def RetDMVT (w : World) (e : Ending) (w' : World) : Prop := ∃ az ax ar cz cs cr m ds A c A2 c2, ∃ (vs : List Int) (ts : List Tst), e = .returned (.tuple #[mv m az ax ar cz cs cr, .slice A vs.length c, .slice A2 ts.length c2]) ∧ MOk m ∧ MOwn w' w.heap.size az ax ar cz cs cr m ds ∧ vs.length ≤ 1048576 ∧ w'.ownsRow w.heap.size 2 1 (.slice A vs.length c) vs.length (ints vs) ∧ ts.length ≤ 1048576 ∧ w'.ownsRow w.heap.size 100 3 (.slice A2 ts.length c2) ts.length (tstCells ts) ∧ Below w.heap.size w w'
def RetDMTV (w : World) (e : Ending) (w' : World) : Prop := ∃ az ax ar cz cs cr m ds A c A2 c2, ∃ (ts : List Tst) (vs : List Int), e = .returned (.tuple #[mv m az ax ar cz cs cr, .slice A ts.length c, .slice A2 vs.length c2]) ∧ MOk m ∧ MOwn w' w.heap.size az ax ar cz cs cr m ds ∧ ts.length ≤ 1048576 ∧ w'.ownsRow w.heap.size 100 3 (.slice A ts.length c) ts.length (tstCells ts) ∧ vs.length ≤ 1048576 ∧ w'.ownsRow w.heap.size 2 1 (.slice A2 vs.length c2) vs.length (ints vs) ∧ Below w.heap.size w w'
theorem kept_far2 {w w' : World} {B base p : Nat} {x y z : Value} (h : MBox w base p x y z) (hg : w.grownBy w' (some B)) (hne : ¬ B = p) : MBox w' base p x y z := MBox.kept h hg (fun q hq => by simp at hq; omega)
set_option maxHeartbeats 1000000 in
set_option maxRecDepth 100000 in
theorem c_DrawCountTests (A : Option Addr) (c n : Nat) (w : World) (hn : n ≤ 4096) (hb : Bytes w w.heap.size A n) : Calls Try.prog 26 #[.slice A n c] w (RetDM w) := by
  have HBX : Hid (MBox (w.alloc (.cells #[.slice none 0 0, .slice none 0 0, .slice none 0 0] 27)) w.heap.size w.heap.size (.slice none 0 0) (.slice none 0 0) (.slice none 0 0)) := Lib.hid (mbox_new (w := w) _ _ _)
  have hb1 := bytes_later hb (below_alloc (Below.refl w.heap.size w) (.cells #[.slice none 0 0, .slice none 0 0, .slice none 0 0] 27))
  have HB1 := Lib.hid (below_alloc (Below.refl w.heap.size w) (.cells #[.slice none 0 0, .slice none 0 0, .slice none 0 0] 27))
  clear hb
  go_enter Try.func26, Try.ntmps26
  go_wp2_with (fail)
  refine (c_From A c n _ hn hb1).mono ?_
  rintro e w1 ⟨rfl, hs, hb⟩
  have HS1 := Lib.hid hs
  have HB2 := Lib.hid (below_chain HB1.out hb)
  have HX1 : Hid (MBox w1 w.heap.size w.heap.size (.slice none 0 0) (.slice none 0 0) (.slice none 0 0)) := Lib.hid (own_below HBX.out hb)
  obtain ⟨B, hBe⟩ : ∃ B, B = (w.alloc (.cells #[.slice none 0 0, .slice none 0 0, .slice none 0 0] 27)).heap.size := ⟨_, rfl⟩
  rw [← hBe] at HS1 ⊢
  have hBw : B = w.heap.size + 1 := by rw [hBe]; simp
  clear hb hs hb1 HB1 HBX hBe
  have HBW := Lib.hid hBw
  have hB0 : w.heap.size < B := by omega
  have hB1 := HS1.out.lt
  clear hBw
  go_wp2_with (fail)
  refine (c_l20Draw B _ HS1.out).mono ?_
  rintro e w2 ⟨az, ax, ar, cz, cs, cr, sn, tn, rn, m, ds, rfl, hmd, hn1, hn2, ht1, ht2, hr2, hR, hd⟩
  clear hR
  have HX3 : Hid (MBox w2 w.heap.size w.heap.size (.slice none 0 0) (.slice none 0 0) (.slice none 0 0)) := Lib.hid (kept_far2 HX1.out hd.g (by omega))
  have HF := Lib.hid (MBox.set3 HX3.out (Value.slice az sn cz) (Value.slice ax tn cs) (Value.slice ar rn cr))
  have HB3 := Lib.hid (below_put (below_of_grown HB2.out hd.g (fun q hq => by simp at hq; omega)) (Value.slice az sn cz) (Value.slice ax tn cs) (Value.slice ar rn cr) (Nat.le_refl _))
  have HFIN := Lib.hid (hmd.put2 HX3.out (x' := Value.slice az sn cz) (y' := Value.slice ax tn cs) (z' := Value.slice ar rn cr))
  obtain ⟨v0, v1, v2, f0, f1, f2, _, hxl⟩ := MBox.c HX3.out
  clear hmd hd
  go_wp2_with (fail)
  change bodyPost _ _ _ _ _ (set3 w2 w.heap.size (Value.slice az sn cz) (Value.slice ax tn cs) (Value.slice ar rn cr))
  generalize set3 w2 w.heap.size (Value.slice az sn cz) (Value.slice ax tn cs) (Value.slice ar rn cr) = WF at HF HB3 HFIN ⊢
  obtain ⟨r0, r1, r2, _⟩ := MBox.c HF.out.1
  clear f0 f1 f2 v0 v1 v2
  have hok := HFIN.out.ok (by omega) (by omega) (by omega)
  have hz := HFIN.out.z
  have hs := HFIN.out.s
  have hr := HFIN.out.r
  have HMD := HFIN.out.o.mono (Nat.le_trans (Nat.le_of_lt hB0) (Nat.le_of_lt hB1))
  clear HFIN
  subst hz
  subst hs
  subst hr
  refine bodyPost_ret (v := mv m az ax ar cz cs cr) (by simp [mv, results, Try.results26, go_sem, r0, r1, r2]) rfl ⟨az, ax, ar, cz, cs, cr, m, ds, rfl, hok, HMD, HB3.out⟩
set_option maxHeartbeats 1000000 in
set_option maxRecDepth 100000 in
theorem c_DrawReachableStates (A : Option Addr) (c n : Nat) (w : World) (hn : n ≤ 4096) (hb : Bytes w w.heap.size A n) : Calls Try.prog 32 #[.slice A n c] w (RetDM w) := by
  have HBX : Hid (MBox (w.alloc (.cells #[.slice none 0 0, .slice none 0 0, .slice none 0 0] 27)) w.heap.size w.heap.size (.slice none 0 0) (.slice none 0 0) (.slice none 0 0)) := Lib.hid (mbox_new (w := w) _ _ _)
  have hb1 := bytes_later hb (below_alloc (Below.refl w.heap.size w) (.cells #[.slice none 0 0, .slice none 0 0, .slice none 0 0] 27))
  have HB1 := Lib.hid (below_alloc (Below.refl w.heap.size w) (.cells #[.slice none 0 0, .slice none 0 0, .slice none 0 0] 27))
  clear hb
  go_enter Try.func32, Try.ntmps32
  go_wp2_with (fail)
  refine (c_From A c n _ hn hb1).mono ?_
  rintro e w1 ⟨rfl, hs, hb⟩
  have HS1 := Lib.hid hs
  have HB2 := Lib.hid (below_chain HB1.out hb)
  have HX1 : Hid (MBox w1 w.heap.size w.heap.size (.slice none 0 0) (.slice none 0 0) (.slice none 0 0)) := Lib.hid (own_below HBX.out hb)
  obtain ⟨B, hBe⟩ : ∃ B, B = (w.alloc (.cells #[.slice none 0 0, .slice none 0 0, .slice none 0 0] 27)).heap.size := ⟨_, rfl⟩
  rw [← hBe] at HS1 ⊢
  have hBw : B = w.heap.size + 1 := by rw [hBe]; simp
  clear hb hs hb1 HB1 HBX hBe
  have HBW := Lib.hid hBw
  have hB0 : w.heap.size < B := by omega
  have hB1 := HS1.out.lt
  clear hBw
  go_wp2_with (fail)
  refine (c_l21Draw B _ HS1.out).mono ?_
  rintro e w2 ⟨az, ax, ar, cz, cs, cr, sn, tn, rn, m, ds, rfl, hmd, hn1, hn2, ht1, ht2, hr2, hR, hd⟩
  clear hR
  have HX3 : Hid (MBox w2 w.heap.size w.heap.size (.slice none 0 0) (.slice none 0 0) (.slice none 0 0)) := Lib.hid (kept_far2 HX1.out hd.g (by omega))
  have HF := Lib.hid (MBox.set3 HX3.out (Value.slice az sn cz) (Value.slice ax tn cs) (Value.slice ar rn cr))
  have HB3 := Lib.hid (below_put (below_of_grown HB2.out hd.g (fun q hq => by simp at hq; omega)) (Value.slice az sn cz) (Value.slice ax tn cs) (Value.slice ar rn cr) (Nat.le_refl _))
  have HFIN := Lib.hid (hmd.put2 HX3.out (x' := Value.slice az sn cz) (y' := Value.slice ax tn cs) (z' := Value.slice ar rn cr))
  obtain ⟨v0, v1, v2, f0, f1, f2, _, hxl⟩ := MBox.c HX3.out
  clear hmd hd
  go_wp2_with (fail)
  change bodyPost _ _ _ _ _ (set3 w2 w.heap.size (Value.slice az sn cz) (Value.slice ax tn cs) (Value.slice ar rn cr))
  generalize set3 w2 w.heap.size (Value.slice az sn cz) (Value.slice ax tn cs) (Value.slice ar rn cr) = WF at HF HB3 HFIN ⊢
  obtain ⟨r0, r1, r2, _⟩ := MBox.c HF.out.1
  clear f0 f1 f2 v0 v1 v2
  have hok := HFIN.out.ok (by omega) (by omega) (by omega)
  have hz := HFIN.out.z
  have hs := HFIN.out.s
  have hr := HFIN.out.r
  have HMD := HFIN.out.o.mono (Nat.le_trans (Nat.le_of_lt hB0) (Nat.le_of_lt hB1))
  clear HFIN
  subst hz
  subst hs
  subst hr
  refine bodyPost_ret (v := mv m az ax ar cz cs cr) (by simp [mv, results, Try.results32, go_sem, r0, r1, r2]) rfl ⟨az, ax, ar, cz, cs, cr, m, ds, rfl, hok, HMD, HB3.out⟩
set_option maxHeartbeats 1000000 in
set_option maxRecDepth 100000 in
theorem c_DrawDeadStates (A : Option Addr) (c n : Nat) (w : World) (hn : n ≤ 4096) (hb : Bytes w w.heap.size A n) : Calls Try.prog 39 #[.slice A n c] w (RetDM w) := by
  have HBX : Hid (MBox (w.alloc (.cells #[.slice none 0 0, .slice none 0 0, .slice none 0 0] 27)) w.heap.size w.heap.size (.slice none 0 0) (.slice none 0 0) (.slice none 0 0)) := Lib.hid (mbox_new (w := w) _ _ _)
  have hb1 := bytes_later hb (below_alloc (Below.refl w.heap.size w) (.cells #[.slice none 0 0, .slice none 0 0, .slice none 0 0] 27))
  have HB1 := Lib.hid (below_alloc (Below.refl w.heap.size w) (.cells #[.slice none 0 0, .slice none 0 0, .slice none 0 0] 27))
  clear hb
  go_enter Try.func39, Try.ntmps39
  go_wp2_with (fail)
  refine (c_From A c n _ hn hb1).mono ?_
  rintro e w1 ⟨rfl, hs, hb⟩
  have HS1 := Lib.hid hs
  have HB2 := Lib.hid (below_chain HB1.out hb)
  have HX1 : Hid (MBox w1 w.heap.size w.heap.size (.slice none 0 0) (.slice none 0 0) (.slice none 0 0)) := Lib.hid (own_below HBX.out hb)
  obtain ⟨B, hBe⟩ : ∃ B, B = (w.alloc (.cells #[.slice none 0 0, .slice none 0 0, .slice none 0 0] 27)).heap.size := ⟨_, rfl⟩
  rw [← hBe] at HS1 ⊢
  have hBw : B = w.heap.size + 1 := by rw [hBe]; simp
  clear hb hs hb1 HB1 HBX hBe
  have HBW := Lib.hid hBw
  have hB0 : w.heap.size < B := by omega
  have hB1 := HS1.out.lt
  clear hBw
  go_wp2_with (fail)
  refine (c_l21Draw B _ HS1.out).mono ?_
  rintro e w2 ⟨az, ax, ar, cz, cs, cr, sn, tn, rn, m, ds, rfl, hmd, hn1, hn2, ht1, ht2, hr2, hR, hd⟩
  clear hR
  have HX3 : Hid (MBox w2 w.heap.size w.heap.size (.slice none 0 0) (.slice none 0 0) (.slice none 0 0)) := Lib.hid (kept_far2 HX1.out hd.g (by omega))
  have HF := Lib.hid (MBox.set3 HX3.out (Value.slice az sn cz) (Value.slice ax tn cs) (Value.slice ar rn cr))
  have HB3 := Lib.hid (below_put (below_of_grown HB2.out hd.g (fun q hq => by simp at hq; omega)) (Value.slice az sn cz) (Value.slice ax tn cs) (Value.slice ar rn cr) (Nat.le_refl _))
  have HFIN := Lib.hid (hmd.put2 HX3.out (x' := Value.slice az sn cz) (y' := Value.slice ax tn cs) (z' := Value.slice ar rn cr))
  obtain ⟨v0, v1, v2, f0, f1, f2, _, hxl⟩ := MBox.c HX3.out
  clear hmd hd
  go_wp2_with (fail)
  change bodyPost _ _ _ _ _ (set3 w2 w.heap.size (Value.slice az sn cz) (Value.slice ax tn cs) (Value.slice ar rn cr))
  generalize set3 w2 w.heap.size (Value.slice az sn cz) (Value.slice ax tn cs) (Value.slice ar rn cr) = WF at HF HB3 HFIN ⊢
  obtain ⟨r0, r1, r2, _⟩ := MBox.c HF.out.1
  clear f0 f1 f2 v0 v1 v2
  have hok := HFIN.out.ok (by omega) (by omega) (by omega)
  have hz := HFIN.out.z
  have hs := HFIN.out.s
  have hr := HFIN.out.r
  have HMD := HFIN.out.o.mono (Nat.le_trans (Nat.le_of_lt hB0) (Nat.le_of_lt hB1))
  clear HFIN
  subst hz
  subst hs
  subst hr
  refine bodyPost_ret (v := mv m az ax ar cz cs cr) (by simp [mv, results, Try.results39, go_sem, r0, r1, r2]) rfl ⟨az, ax, ar, cz, cs, cr, m, ds, rfl, hok, HMD, HB3.out⟩
set_option maxHeartbeats 1000000 in
set_option maxRecDepth 100000 in
theorem c_DrawFindBad (A : Option Addr) (c n : Nat) (w : World) (hn : n ≤ 4096) (hb : Bytes w w.heap.size A n) : Calls Try.prog 8 #[.slice A n c] w (RetDMT w) := by
  have HBX : Hid (MBox (w.alloc (.cells #[.slice none 0 0, .slice none 0 0, .slice none 0 0] 27)) w.heap.size w.heap.size (.slice none 0 0) (.slice none 0 0) (.slice none 0 0)) := Lib.hid (mbox_new (w := w) _ _ _)
  have hb1 := bytes_later hb (below_alloc (Below.refl w.heap.size w) (.cells #[.slice none 0 0, .slice none 0 0, .slice none 0 0] 27))
  have HB1 := Lib.hid (below_alloc (Below.refl w.heap.size w) (.cells #[.slice none 0 0, .slice none 0 0, .slice none 0 0] 27))
  clear hb
  go_enter Try.func8, Try.ntmps8
  go_wp2_with (fail)
  refine (c_From A c n _ hn hb1).mono ?_
  rintro e w1 ⟨rfl, hs, hb⟩
  have HS1 := Lib.hid hs
  have HB2 := Lib.hid (below_chain HB1.out hb)
  have HX1 : Hid (MBox w1 w.heap.size w.heap.size (.slice none 0 0) (.slice none 0 0) (.slice none 0 0)) := Lib.hid (own_below HBX.out hb)
  obtain ⟨B, hBe⟩ : ∃ B, B = (w.alloc (.cells #[.slice none 0 0, .slice none 0 0, .slice none 0 0] 27)).heap.size := ⟨_, rfl⟩
  rw [← hBe] at HS1 ⊢
  have hBw : B = w.heap.size + 1 := by rw [hBe]; simp
  clear hb hs hb1 HB1 HBX hBe
  have HBW := Lib.hid hBw
  have hB0 : w.heap.size < B := by omega
  have hB1 := HS1.out.lt
  clear hBw
  go_wp2_with (fail)
  refine (c_l21DrawTests B _ HS1.out).mono ?_
  rintro e w2 ⟨az, ax, ar, cz, cs, cr, sn, tn, rn, m, ds, A5, c5, k, ts, rfl, hmd, hn1, hn2, ht1, ht2, hr2, htl, hk, hto, hd⟩
  have HX3 : Hid (MBox w2 w.heap.size w.heap.size (.slice none 0 0) (.slice none 0 0) (.slice none 0 0)) := Lib.hid (kept_far2 HX1.out hd.g (by omega))
  have HF := Lib.hid (MBox.set3 HX3.out (Value.slice az sn cz) (Value.slice ax tn cs) (Value.slice ar rn cr))
  have HB3 := Lib.hid (below_put (below_of_grown HB2.out hd.g (fun q hq => by simp at hq; omega)) (Value.slice az sn cz) (Value.slice ax tn cs) (Value.slice ar rn cr) (Nat.le_refl _))
  have HFIN := Lib.hid (hmd.put2 HX3.out (x' := Value.slice az sn cz) (y' := Value.slice ax tn cs) (z' := Value.slice ar rn cr))
  have HTF := Lib.hid (put_row hto HX3.out (by decide) (x' := Value.slice az sn cz) (y' := Value.slice ax tn cs) (z' := Value.slice ar rn cr))
  clear hto
  obtain ⟨v0, v1, v2, f0, f1, f2, _, hxl⟩ := MBox.c HX3.out
  clear hmd hd
  go_wp2_with (fail)
  change bodyPost _ _ _ _ _ (set3 w2 w.heap.size (Value.slice az sn cz) (Value.slice ax tn cs) (Value.slice ar rn cr))
  generalize set3 w2 w.heap.size (Value.slice az sn cz) (Value.slice ax tn cs) (Value.slice ar rn cr) = WF at HF HB3 HFIN HTF ⊢
  obtain ⟨r0, r1, r2, _⟩ := MBox.c HF.out.1
  clear f0 f1 f2 v0 v1 v2
  have hok := HFIN.out.ok (by omega) (by omega) (by omega)
  have hz := HFIN.out.z
  have hs := HFIN.out.s
  have hr := HFIN.out.r
  have HMD := HFIN.out.o.mono (Nat.le_trans (Nat.le_of_lt hB0) (Nat.le_of_lt hB1))
  clear HFIN
  subst hz
  subst hs
  subst hr
  subst htl
  refine bodyPost_ret (v := .tuple #[mv m az ax ar cz cs cr, .slice A5 ts.length c5]) (by simp [mv, results, Try.results8, go_sem, r0, r1, r2]) rfl ⟨az, ax, ar, cz, cs, cr, m, ds, A5, c5, ts, rfl, hok, HMD, by omega, own_mono HTF.out (Nat.le_trans (Nat.le_of_lt hB0) (Nat.le_of_lt hB1)), HB3.out⟩
end Go.Proofs.Ytaloheljfefdeaa

/- Draws of models with a state, with tests, as the laws call them. Condition: at most 4096 bytes of code. -/
namespace Go.Proofs.Ytaloheljfefdeaa
open Go.RowKit

set_option maxHeartbeats 1000000 in
set_option maxRecDepth 100000 in
theorem c_DrawEnabledRules (A : Option Addr) (c n : Nat) (w : World) (hn : n ≤ 4096) (hb : Bytes w w.heap.size A n) : Calls Try.prog 70 #[.slice A n c] w (RetDMV w) := by
  have HBX : Hid (MBox (w.alloc (.cells #[.slice none 0 0, .slice none 0 0, .slice none 0 0] 27)) w.heap.size w.heap.size (.slice none 0 0) (.slice none 0 0) (.slice none 0 0)) := Lib.hid (mbox_new (w := w) _ _ _)
  have hb1 := bytes_later hb (below_alloc (Below.refl w.heap.size w) (.cells #[.slice none 0 0, .slice none 0 0, .slice none 0 0] 27))
  have HB1 := Lib.hid (below_alloc (Below.refl w.heap.size w) (.cells #[.slice none 0 0, .slice none 0 0, .slice none 0 0] 27))
  clear hb
  go_enter Try.func70, Try.ntmps70
  go_wp2_with (fail)
  refine (c_From A c n _ hn hb1).mono ?_
  rintro e w1 ⟨rfl, hs, hb⟩
  have HS1 := Lib.hid hs
  have HB2 := Lib.hid (below_chain HB1.out hb)
  have HX1 : Hid (MBox w1 w.heap.size w.heap.size (.slice none 0 0) (.slice none 0 0) (.slice none 0 0)) := Lib.hid (own_below HBX.out hb)
  obtain ⟨B, hBe⟩ : ∃ B, B = (w.alloc (.cells #[.slice none 0 0, .slice none 0 0, .slice none 0 0] 27)).heap.size := ⟨_, rfl⟩
  rw [← hBe] at HS1 ⊢
  have hBw : B = w.heap.size + 1 := by rw [hBe]; simp
  clear hb hs hb1 HB1 HBX hBe
  have HBW := Lib.hid hBw
  have hB0 : w.heap.size < B := by omega
  have hB1 := HS1.out.lt
  clear hBw
  go_wp2_with (fail)
  refine (c_l20Draw B _ HS1.out).mono ?_
  rintro e w2 ⟨az, ax, ar, cz, cs, cr, sn, tn, rn, m, ds, rfl, hmd, hn1, hn2, ht1, ht2, hr2, hR, hd⟩
  clear hR
  have HX2 : Hid (MBox w2 w.heap.size w.heap.size (.slice none 0 0) (.slice none 0 0) (.slice none 0 0)) := Lib.hid (kept_far2 HX1.out hd.g (by omega))
  have HB4 := Lib.hid (below_of_grown HB2.out hd.g (fun q hq => by simp at hq; omega))
  have hw12 := hd.g.size
  have hB2 : B < w2.heap.size := by omega
  have HM2 := Lib.hid hmd
  have hs2 := hd.s
  have HD2 : Hid (DW B w2 (w2.alloc (.cells #[.slice az sn cz, .slice ax tn cs, .slice ar rn cr] 27))) := Lib.hid ((DW.start hs2).alloc hB2 _)
  clear hmd hd HB2 HX1
  go_wp2_with (fail)
  have hx2 := (HX2.out).c.2.2.2.2.2.2.2
  have hzo := HM2.out.o.z
  rw [HM2.out.z] at hzo
  have HZO := Lib.hid hzo
  obtain ⟨b0, b1, b2, _, _, _, _, hplt⟩ := MBox.c (mbox_new (w := w2) (.slice az sn cz) (.slice ax tn cs) (.slice ar rn cr))
  clear hzo hs2
  refine wp_region_held_drew (S := (fun w' => w'.cell? ⟨w2.heap.size, 0, none⟩ = some (.slice az sn cz) ∧ w'.cell? ⟨w2.heap.size, 1, none⟩ = some (.slice ax tn cs) ∧ w'.cell? ⟨w2.heap.size, 2, none⟩ = some (.slice ar rn cr))) (by kernel_rfl) ?_ (fun hHeld => ?_)
  · exact ⟨b0, b1, b2⟩
  refine rg_take (v := ?_) 0 rfl (by kernel_rfl) (by kernel_rfl) (by kernel_rfl) (fun _ _ _ h => h) (by kernel_rfl) ?_ (by assumption) ?_
  rotate_left
  · (intro w' hSw; (try dsimp only at hSw); go_simp; first | done | with_reducible rfl)
  simp only [Act.put, List.setIfInBounds_toArray, List.set_cons_zero, List.set_cons_succ]
  refine rg_take (v := ?_) 1 rfl (by kernel_rfl) (by kernel_rfl) (by kernel_rfl) (fun _ _ _ h => h) (by kernel_rfl) ?_ (by assumption) ?_
  rotate_left
  · (intro w' hSw; (try dsimp only at hSw); go_simp; first | done | with_reducible rfl)
  simp only [Act.put, List.setIfInBounds_toArray, List.set_cons_zero, List.set_cons_succ]
  refine rg_take (v := ?_) 2 rfl (by kernel_rfl) (by kernel_rfl) (by kernel_rfl) (fun _ _ _ h => h) (by kernel_rfl) ?_ (by assumption) ?_
  rotate_left
  · (intro w' hSw; (try dsimp only at hSw); go_simp; first | done | with_reducible rfl)
  simp only [Act.put, List.setIfInBounds_toArray, List.set_cons_zero, List.set_cons_succ]
  refine rg_run 3 rfl (by kernel_rfl) (by kernel_rfl) (fun K hK => ?_)
  go_simp
  refine (c_l20DrawState B w1.heap.size az ax ar cz cs cr sn tn rn m.sz _ (HD2.out.drew hB2).s HM2.out.z (by omega) HM2.out.zb hB1 ((HD2.out.drew hB2).own HZO.out hB1)).mono ?_
  rintro e w3 ⟨A4, c4, n4, vs, rfl, hvl, hvn, hvo, hd⟩
  have HD3 := Lib.hid ((HD2.out.drew hB2).then_ hd)
  have hB2a : ¬ B = w2.heap.size := by omega
  replace b0 := hd.cell (by exact b0) hB2a
  replace b1 := hd.cell (by exact b1) hB2a
  replace b2 := hd.cell (by exact b2) hB2a
  have HX3 : Hid (MBox w3 w.heap.size w.heap.size (.slice none 0 0) (.slice none 0 0) (.slice none 0 0)) := Lib.hid (kept_far2 HX2.out HD3.out.g (by omega))
  have HM3 := Lib.hid (HM2.out.far HD3.out)
  have HF := Lib.hid (MBox.set3 HX3.out (Value.slice az sn cz) (Value.slice ax tn cs) (Value.slice ar rn cr))
  have HB5 := Lib.hid (below_put (below_of_grown HB4.out HD3.out.g (fun q hq => by simp at hq; omega)) (Value.slice az sn cz) (Value.slice ax tn cs) (Value.slice ar rn cr) (Nat.le_refl _))
  have HFIN := Lib.hid (HM3.out.put2 HX3.out (x' := Value.slice az sn cz) (y' := Value.slice ax tn cs) (z' := Value.slice ar rn cr))
  have HTF := Lib.hid (put_row hvo HX3.out (by decide) (x' := Value.slice az sn cz) (y' := Value.slice ax tn cs) (z' := Value.slice ar rn cr))
  have HVL := Lib.hid hvl
  obtain ⟨v0, v1, v2, f0, f1, f2, _, hxl⟩ := MBox.c HX3.out
  clear hd hvo hvl
  go_wp2
  clear hHeld
  refine hK.out _ _ ⟨b0, b1, b2⟩ (fun hHeld => ?_)
  clear hK K
  try simp only [Act.put, List.setIfInBounds_toArray, List.set_cons_zero, List.set_cons_succ]
  refine rg_run 4 rfl (by kernel_rfl) (by kernel_rfl) (fun K hK => ?_)
  go_simp
  have hq0 := HF.out.2.cell b0 (fun e => by simp at e; omega)
  have hq1 := HF.out.2.cell b1 (fun e => by simp at e; omega)
  have hq2 := HF.out.2.cell b2 (fun e => by simp at e; omega)
  clear hHeld
  refine hK.out _ _ ⟨hq0, hq1, hq2⟩ (fun hHeld => ?_)
  clear hK K
  try simp only [Act.put, List.setIfInBounds_toArray, List.set_cons_zero, List.set_cons_succ]
  refine rg_take (v := ?_) 5 rfl (by kernel_rfl) (by kernel_rfl) (by kernel_rfl) (fun _ _ _ h => h) (by kernel_rfl) ?_ (by assumption) ?_
  rotate_left
  · (intro w' hSw; (try dsimp only at hSw); go_simp; first | done | with_reducible rfl)
  simp only [Act.put, List.setIfInBounds_toArray, List.set_cons_zero, List.set_cons_succ]
  refine wpAnyH_done (by kernel_rfl) ?_ _
  clear hHeld
  go_wp2_with (fail)
  change bodyPost _ _ _ _ _ (set3 w3 w.heap.size (Value.slice az sn cz) (Value.slice ax tn cs) (Value.slice ar rn cr))
  generalize set3 w3 w.heap.size (Value.slice az sn cz) (Value.slice ax tn cs) (Value.slice ar rn cr) = WF at HF HB5 HFIN HTF ⊢
  obtain ⟨r0, r1, r2, _⟩ := MBox.c HF.out.1
  clear f0 f1 f2 v0 v1 v2 hq0 hq1 hq2 b0 b1 b2
  have hok := HFIN.out.ok (by omega) (by omega) (by omega)
  have hz := HFIN.out.z
  have hs := HFIN.out.s
  have hr := HFIN.out.r
  have HMD := HFIN.out.o.mono (by omega : w.heap.size ≤ w1.heap.size)
  clear HFIN
  subst hz
  subst hs
  subst hr
  have hvl := HVL.out
  clear HVL
  subst hvl
  refine bodyPost_ret (v := .tuple #[mv m az ax ar cz cs cr, .slice A4 vs.length c4]) (by simp [mv, results, Try.results70, go_sem, r0, r1, r2]) rfl ⟨az, ax, ar, cz, cs, cr, m, ds, A4, c4, vs, rfl, hok, HMD, by omega, own_mono HTF.out (by simp; omega), HB5.out⟩
set_option maxHeartbeats 1000000 in
set_option maxRecDepth 100000 in
theorem c_DrawNextStates (A : Option Addr) (c n : Nat) (w : World) (hn : n ≤ 4096) (hb : Bytes w w.heap.size A n) : Calls Try.prog 19 #[.slice A n c] w (RetDMV w) := by
  have HBX : Hid (MBox (w.alloc (.cells #[.slice none 0 0, .slice none 0 0, .slice none 0 0] 27)) w.heap.size w.heap.size (.slice none 0 0) (.slice none 0 0) (.slice none 0 0)) := Lib.hid (mbox_new (w := w) _ _ _)
  have hb1 := bytes_later hb (below_alloc (Below.refl w.heap.size w) (.cells #[.slice none 0 0, .slice none 0 0, .slice none 0 0] 27))
  have HB1 := Lib.hid (below_alloc (Below.refl w.heap.size w) (.cells #[.slice none 0 0, .slice none 0 0, .slice none 0 0] 27))
  clear hb
  go_enter Try.func19, Try.ntmps19
  go_wp2_with (fail)
  refine (c_DrawEnabledRules A c n _ hn hb1).mono ?_
  rintro e w2 ⟨az, ax, ar, cz, cs, cr, m, ds, A4, c4, vs, rfl, hok, hmo, hvl, hvo, hb⟩
  have HX3 : Hid (MBox w2 w.heap.size w.heap.size (.slice none 0 0) (.slice none 0 0) (.slice none 0 0)) := Lib.hid (own_below HBX.out hb)
  have HOK := Lib.hid hok
  have HVL := Lib.hid hvl
  have HF := Lib.hid (MBox.set3 HX3.out (Value.slice az m.sz.length cz) (Value.slice ax m.st.length cs) (Value.slice ar m.rs.length cr))
  have HB5 := Lib.hid (below_put (below_chain HB1.out hb) (Value.slice az m.sz.length cz) (Value.slice ax m.st.length cs) (Value.slice ar m.rs.length cr) (Nat.le_refl _))
  have HFIN := Lib.hid (MOwn.put HX3.out (hmo.mono (base' := w.heap.size) (by simp)) (x' := Value.slice az m.sz.length cz) (y' := Value.slice ax m.st.length cs) (z' := Value.slice ar m.rs.length cr))
  have HTF := Lib.hid (put_row (own_mono (base' := w.heap.size) hvo (by simp)) HX3.out (by decide) (x' := Value.slice az m.sz.length cz) (y' := Value.slice ax m.st.length cs) (z' := Value.slice ar m.rs.length cr))
  obtain ⟨v0, v1, v2, f0, f1, f2, _, hxl⟩ := MBox.c HX3.out
  clear hok hmo hvo hvl hb hb1 HB1 HBX HX3
  dsimp only [mv]
  go_wp2_with (fail)
  change bodyPost _ _ _ _ _ (set3 w2 w.heap.size (Value.slice az m.sz.length cz) (Value.slice ax m.st.length cs) (Value.slice ar m.rs.length cr))
  generalize set3 w2 w.heap.size (Value.slice az m.sz.length cz) (Value.slice ax m.st.length cs) (Value.slice ar m.rs.length cr) = WF at HF HB5 HFIN HTF ⊢
  obtain ⟨r0, r1, r2, _⟩ := MBox.c HF.out.1
  clear f0 f1 f2 v0 v1 v2
  refine bodyPost_ret (v := .tuple #[mv m az ax ar cz cs cr, .slice A4 vs.length c4]) (by simp [mv, results, Try.results19, go_sem, r0, r1, r2]) rfl ⟨az, ax, ar, cz, cs, cr, m, ds, A4, c4, vs, rfl, HOK.out, HFIN.out, HVL.out, HTF.out, HB5.out⟩
end Go.Proofs.Ytaloheljfefdeaa

/- Draws of models with a state and tests, as the laws call them. Condition: at most 4096 bytes of code. -/
namespace Go.Proofs.Ytaloheljfefdeaa
open Go.RowKit

set_option maxHeartbeats 1000000 in
set_option maxRecDepth 100000 in
theorem c_DrawHoldsIn (A : Option Addr) (c n : Nat) (w : World) (hn : n ≤ 4096) (hb : Bytes w w.heap.size A n) : Calls Try.prog 24 #[.slice A n c] w (RetDMVT w) := by
  have HBX : Hid (MBox (w.alloc (.cells #[.slice none 0 0, .slice none 0 0, .slice none 0 0] 27)) w.heap.size w.heap.size (.slice none 0 0) (.slice none 0 0) (.slice none 0 0)) := Lib.hid (mbox_new (w := w) _ _ _)
  have hb1 := bytes_later hb (below_alloc (Below.refl w.heap.size w) (.cells #[.slice none 0 0, .slice none 0 0, .slice none 0 0] 27))
  have HB1 := Lib.hid (below_alloc (Below.refl w.heap.size w) (.cells #[.slice none 0 0, .slice none 0 0, .slice none 0 0] 27))
  clear hb
  go_enter Try.func24, Try.ntmps24
  go_wp2_with (fail)
  refine (c_From A c n _ hn hb1).mono ?_
  rintro e w1 ⟨rfl, hs, hb⟩
  have HS1 := Lib.hid hs
  have HB2 := Lib.hid (below_chain HB1.out hb)
  have HX1 : Hid (MBox w1 w.heap.size w.heap.size (.slice none 0 0) (.slice none 0 0) (.slice none 0 0)) := Lib.hid (own_below HBX.out hb)
  obtain ⟨B, hBe⟩ : ∃ B, B = (w.alloc (.cells #[.slice none 0 0, .slice none 0 0, .slice none 0 0] 27)).heap.size := ⟨_, rfl⟩
  rw [← hBe] at HS1 ⊢
  have hBw : B = w.heap.size + 1 := by rw [hBe]; simp
  clear hb hs hb1 HB1 HBX hBe
  have HBW := Lib.hid hBw
  have hB0 : w.heap.size < B := by omega
  have hB1 := HS1.out.lt
  clear hBw
  go_wp2_with (fail)
  refine (c_l20Draw B _ HS1.out).mono ?_
  rintro e w2 ⟨az, ax, ar, cz, cs, cr, sn, tn, rn, m, ds, rfl, hmd, hn1, hn2, ht1, ht2, hr2, hR, hd⟩
  clear hR
  have HX2 : Hid (MBox w2 w.heap.size w.heap.size (.slice none 0 0) (.slice none 0 0) (.slice none 0 0)) := Lib.hid (kept_far2 HX1.out hd.g (by omega))
  have HB4 := Lib.hid (below_of_grown HB2.out hd.g (fun q hq => by simp at hq; omega))
  have hw12 := hd.g.size
  have hB2 : B < w2.heap.size := by omega
  have HM2 := Lib.hid hmd
  have hs2 := hd.s
  have HD2 : Hid (DW B w2 (w2.alloc (.cells #[.slice az sn cz, .slice ax tn cs, .slice ar rn cr] 27))) := Lib.hid ((DW.start hs2).alloc hB2 _)
  have HMB2 : Hid (MBox (w2.alloc (.cells #[.slice az sn cz, .slice ax tn cs, .slice ar rn cr] 27)) w2.heap.size w2.heap.size (.slice az sn cz) (.slice ax tn cs) (.slice ar rn cr)) := Lib.hid (mbox_new _ _ _)
  have hx2 := (HX2.out).c.2.2.2.2.2.2.2
  have hzo := HM2.out.o.z
  rw [HM2.out.z] at hzo
  have HZO := Lib.hid hzo
  have hsni : (0 : Int) < (sn : Int) := by omega
  clear hmd hd HB2 HX1 hzo hs2
  obtain ⟨b0, b1, b2, _, _, _, _, hplt⟩ := MBox.c HMB2.out
  go_wp2_with (fail)
  refine (c_l20DrawState B w1.heap.size az ax ar cz cs cr sn tn rn m.sz _ HD2.out.s HM2.out.z (by omega) HM2.out.zb hB1 (HD2.out.own HZO.out hB1)).mono ?_
  rintro e w3 ⟨A4, c4, n4, vs, rfl, hvl, hvn, hvo, hd⟩
  have HD3 := Lib.hid (HD2.out.then_ hd)
  have HMB3 : Hid (MBox w3 w2.heap.size w2.heap.size (.slice az sn cz) (.slice ax tn cs) (.slice ar rn cr)) := Lib.hid (hd.own HMB2.out hB2)
  have HVO : Hid (w3.ownsRow w2.heap.size 2 1 (.slice A4 n4 c4) n4 (ints vs)) := Lib.hid (own_mono hvo (by simp))
  have HVL := Lib.hid hvl
  clear hd hvo hvl b0 b1 b2 hplt HMB2 HD2
  have hw23 := HD3.out.g.size
  have hB3 : B < w3.heap.size := by omega
  obtain ⟨b0, b1, b2, _, _, _, _, hplt⟩ := MBox.c HMB3.out
  have HDE := Lib.hid ((DW.start HD3.out.s).alloc hB3 (Obj.cells #[] 100))
  go_wp2_with (fail)
  refine (c_l20DrawTests B 3 w1.heap.size az ax ar cz cs cr sn tn rn m.sz _ HDE.out.s (by omega) HM2.out.z hn1 (by omega) HM2.out.zb hB1 ((HD3.out.then_ HDE.out).own HZO.out hB1)).mono ?_
  rintro e w4 ⟨A5, c5, n5, ts, rfl, htl, htn, hto, hd⟩
  have HD4 := Lib.hid (HDE.out.then_ hd)
  have HT4 : Hid (w4.ownsRow w3.heap.size 100 3 (.slice A5 n5 c5) n5 (tstCells ts)) := Lib.hid (own_mono hto (by simp))
  have HTL := Lib.hid htl
  clear hd hto htl b0 b1 b2 hplt HDE
  go_wp2_with (fail)
  refine (c_NextD B _ _ HD4.out.s (by omega)).mono ?_
  rintro e w5 ⟨r, rfl, hr0, hr1, _, hd⟩
  have HD5 := Lib.hid (HD4.out.then_ hd)
  have HT5 := Lib.hid (hd.own HT4.out hB3)
  have HMB5 : Hid (MBox w5 w2.heap.size w2.heap.size (.slice az sn cz) (.slice ax tn cs) (.slice ar rn cr)) := Lib.hid (HD5.out.own HMB3.out hB2)
  clear hd hr1 HD4 HT4
  go_upto_block 0 with (fail)
  go_cut [8] from 26 to 49 (fun v wx => ∃ (k : Nat) (tl : List Tst), Hid (tl.length = k) ∧ k ≤ 100 ∧ Hid (wx.ownsRow w3.heap.size 100 3 v k (tstCells tl)) ∧ Hid (DW B w3 wx))
  case first =>
    have hw35 := HD5.out.g.size
    have hB5 : B < w5.heap.size := by omega
    obtain ⟨b0, b1, b2, _, _, _, _, hplt⟩ := MBox.c HMB5.out
    by_cases hr : r = 0
    · subst hr
      go_wp2_with (fail)
      refine (c_PickIn B w5.heap.size 2 2 [-1, (sn : Int)] _ ((DW.start HD5.out.s).alloc hB5 _).s (by omega) rfl (by omega) (by omega) (by exact rd_lit2 w5 (-1) (sn : Int))).mono ?_
      rintro e w6 ⟨p1, _, rfl, hd⟩
      have HD6 := Lib.hid (((DW.start HD5.out.s).alloc hB5 (Obj.cells #[Value.int .i64 (-1), Value.int .i64 sn] 2)).then_ hd)
      have hw56 := HD6.out.g.size
      have HT6 := Lib.hid (HD6.out.own HT5.out hB3)
      clear hd
      go_wp2_with (first
        | (at_builtin
           refine wpList_push_tst _ (by rfl) (.tmp 28) (.tmp 36) (by rfl) w3.heap.size _ n5 ts ⟨p1, 0, false⟩ w6.heap.size 1 (by rfl) (own_below HT6.out (below_alloc (Below.refl _ _) _)) (by rfl) (by go_simp) (by go_simp) (by go_simp) (by omega) (by simp; omega) ?_
           intro v1 w7 hown1 hgrow
           have HW1 := Lib.hid hown1
           have HG7 := Lib.hid hgrow
           clear hown1 hgrow)
        )
      go_meet
      case rel =>
        have hge := fun q hq => (HT6.out.lt q hq).1
        exact ⟨n5 + 1, _, Lib.hid (by rw [List.length_append, HTL.out]; rfl), by omega, HW1, Lib.hid ((HD5.out.then_ (HD6.out.alloc hB5 _)).far hB3 HG7.out (fun q hq => hge q hq))⟩
    have hrb : (r == 0) = false := by simpa using hr
    by_cases hr1 : r = 1
    · subst hr1
      go_wp2_with (first
        | (at_builtin
           refine wpList_push_tst _ (by rfl) (.tmp 40) (.tmp 42) (by rfl) w3.heap.size _ n5 ts ⟨0, 40, false⟩ w5.heap.size 1 (by rfl) (own_below HT5.out (below_alloc (Below.refl _ _) _)) (by rfl) (by go_simp) (by go_simp) (by go_simp) (by omega) (by simp; omega) ?_
           intro v1 w7 hown1 hgrow
           have HW1 := Lib.hid hown1
           have HG7 := Lib.hid hgrow
           clear hown1 hgrow)
        )
      go_meet
      case rel =>
        have hge := fun q hq => (HT5.out.lt q hq).1
        exact ⟨n5 + 1, _, Lib.hid (by rw [List.length_append, HTL.out]; rfl), by omega, HW1, Lib.hid ((HD5.out.alloc hB3 _).far hB3 HG7.out (fun q hq => hge q hq))⟩
    have hr1b : (r == 1) = false := by simpa using hr1
    by_cases hr2 : r = 2
    · subst hr2
      go_wp2_with (fail)
      refine (c_NextD B _ _ HD5.out.s (by omega)).mono ?_
      rintro e w6 ⟨y, rfl, hy0, hy1, _, hd⟩
      have hy4 := hy1 (by omega)
      have HD6 := Lib.hid (HD5.out.then_ hd)
      have hw36 := HD6.out.g.size
      obtain ⟨i0, hi, hz0, hz1, hz2⟩ := info_parts info_iTest
      clear hd
      rcases (by omega : y = 0 ∨ y = 1) with rfl | rfl
      · go_wp2_with (first
          | (at_make
             refine wpList_make_full _ (by rfl) (.tmp 48) (.tmp 48) _ (by rfl) w3.heap.size 100 i0 _ 3 Try.underlying28 hi hz0 hz1 .i64 .i64 _ _ 24 (by rfl) (by rfl) (by rfl) (by rfl) (by rw [hz2]; omega) (by unfold maxLen; omega) hw36 ?_
             intro w7 hown hgrow
             have HT7 : Hid (w7.ownsRow w3.heap.size 100 3 (.slice (some ⟨w6.heap.size, 0, none⟩) 24 24) 24 (tstCells (List.replicate 24 ⟨0, 0, false⟩))) := Lib.hid (by rw [← made_tst]; exact hown)
             have HD7 := Lib.hid (HD6.out.far hB3 hgrow (by simp))
             clear hown hgrow)
          )
        go_meet
        case rel => exact ⟨24, _, Lib.hid (by rw [List.length_replicate]), by omega, HT7, HD7⟩
      · go_wp2_with (first
          | (at_make
             refine wpList_make_full _ (by rfl) (.tmp 48) (.tmp 48) _ (by rfl) w3.heap.size 100 i0 _ 3 Try.underlying28 hi hz0 hz1 .i64 .i64 _ _ 25 (by rfl) (by rfl) (by rfl) (by rfl) (by rw [hz2]; omega) (by unfold maxLen; omega) hw36 ?_
             intro w7 hown hgrow
             have HT7 : Hid (w7.ownsRow w3.heap.size 100 3 (.slice (some ⟨w6.heap.size, 0, none⟩) 25 25) 25 (tstCells (List.replicate 25 ⟨0, 0, false⟩))) := Lib.hid (by rw [← made_tst]; exact hown)
             have HD7 := Lib.hid (HD6.out.far hB3 hgrow (by simp))
             clear hown hgrow)
          )
        go_meet
        case rel => exact ⟨25, _, Lib.hid (by rw [List.length_replicate]), by omega, HT7, HD7⟩
    have hr2b : (r == 2) = false := by simpa using hr2
    go_wp2
    go_meet
    case rel => exact ⟨n5, ts, HTL, by omega, HT5, HD5⟩
  case rest =>
    clear HT5 HD5 HMB5
    obtain ⟨wF, rfl⟩ : ∃ wF, wF = wc := ⟨_, rfl⟩
    obtain ⟨k, tl, htl, hk, hto, hdw⟩ := hcut
    obtain ⟨A6, c6, hv6⟩ := own_shape hto.out
    subst hv6
    have HX3 : Hid (MBox wF w.heap.size w.heap.size (.slice none 0 0) (.slice none 0 0) (.slice none 0 0)) := Lib.hid (kept_far2 HX2.out (HD3.out.then_ hdw.out).g (by omega))
    have HMF := Lib.hid (HM2.out.far (HD3.out.then_ hdw.out))
    have HF := Lib.hid (MBox.set3 HX3.out (Value.slice az sn cz) (Value.slice ax tn cs) (Value.slice ar rn cr))
    have HB5 := Lib.hid (below_put (below_of_grown HB4.out (HD3.out.then_ hdw.out).g (fun q hq => by simp at hq; omega)) (Value.slice az sn cz) (Value.slice ax tn cs) (Value.slice ar rn cr) (Nat.le_refl _))
    have HFIN := Lib.hid (HMF.out.put2 HX3.out (x' := Value.slice az sn cz) (y' := Value.slice ax tn cs) (z' := Value.slice ar rn cr))
    have HTF := Lib.hid (put_row hto.out HX3.out (by decide) (x' := Value.slice az sn cz) (y' := Value.slice ax tn cs) (z' := Value.slice ar rn cr))
    have HVF := Lib.hid (put_row (hdw.out.own HVO.out hB2) HX3.out (by decide) (x' := Value.slice az sn cz) (y' := Value.slice ax tn cs) (z' := Value.slice ar rn cr))
    obtain ⟨v0, v1, v2, f0, f1, f2, _, hxl⟩ := MBox.c HX3.out
    obtain ⟨b0, b1, b2, _, _, _, _, hplt⟩ := MBox.c (hdw.out.own HMB3.out hB2)
    clear hto hdw HX3 HMF
    go_wp2_with (fail)
    change bodyPost _ _ _ _ _ (set3 wF w.heap.size (Value.slice az sn cz) (Value.slice ax tn cs) (Value.slice ar rn cr))
    generalize set3 wF w.heap.size (Value.slice az sn cz) (Value.slice ax tn cs) (Value.slice ar rn cr) = WF at HF HB5 HFIN HTF HVF ⊢
    obtain ⟨r0, r1, r2, _⟩ := MBox.c HF.out.1
    clear f0 f1 f2 v0 v1 v2 b0 b1 b2
    have hok := HFIN.out.ok (by omega) (by omega) (by omega)
    have hz := HFIN.out.z
    have hs := HFIN.out.s
    have hr := HFIN.out.r
    have HMD := HFIN.out.o.mono (by omega : w.heap.size ≤ w1.heap.size)
    clear HFIN
    subst hz
    subst hs
    subst hr
    have hvl := HVL.out
    clear HVL
    subst hvl
    have htl := htl.out
    subst htl
    refine bodyPost_ret (v := .tuple #[mv m az ax ar cz cs cr, .slice A4 vs.length c4, .slice A6 tl.length c6]) (by simp [mv, results, Try.results24, go_sem, r0, r1, r2]) rfl ⟨az, ax, ar, cz, cs, cr, m, ds, A4, c4, A6, c6, vs, tl, rfl, hok, HMD, by omega, own_mono HVF.out (by omega), by omega, own_mono HTF.out (by omega), HB5.out⟩
end Go.Proofs.Ytaloheljfefdeaa
