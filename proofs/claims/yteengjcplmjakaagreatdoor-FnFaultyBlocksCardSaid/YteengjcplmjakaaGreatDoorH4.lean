/- Contracts and helpers (joined texts, part 4). The conditions stand at each theorem. -/
import Derived.Test.YteengjcplmjakaaGreatDoorH3
/- A scan, on the reference's side: outputs and a memory of the call's own, of the same lengths (printed by FbD.py). Condition: a sound program, the lengths. -/
namespace Go.Proofs.YteengjcplmjakaaGreatDoor
open Go.RowKit

theorem nbL_mono (ls : List Lin) (k : Nat) : nbL (ls.take k) ≤ nbL ls := by
  unfold nbL
  conv => rhs; rw [← List.take_append_drop k ls, List.flatMap_append, List.length_append]
  omega
theorem MBox.c0 {w : World} {base b : Nat} {x0 x1 : Value} (h : MBox w base b [x0, x1]) : w.cell? ⟨b, 0, none⟩ = some x0 ∧ w.cell? ⟨b, 1, none⟩ = some x1 := (MBox.c h).1
/-- The scan's own state: the memory's rows, its box, the outputs' row. -/
structure ScW (W wr : World) (u1 u2 : Option Addr) (e1 e2 nv nb og no tb : Nat) (vs : List Int) (bs : List Bs) (os : List Int) : Prop where
  m : MemW W wr u1 u2 e1 e2 nv nb vs bs
  k : MBox wr W.heap.size tb [.slice u1 nv e1, .slice u2 nb e2]
  o : wr.ownsRow og 2 1 (.slice (some ⟨og, 0, none⟩) no no) no (ints os)
  l : ∀ q, blkO u1 = some q → q < og
  s : W.heap.size ≤ og
section
variable {W wr wr' : World} {u1 u2 : Option Addr} {e1 e2 nv nb og no tb : Nat} {vs : List Int} {bs : List Bs} {os : List Int}
theorem ScW.below (h : ScW W wr u1 u2 e1 e2 nv nb og no tb vs bs os) (hb : Below wr.heap.size wr wr') : ScW W wr' u1 u2 e1 e2 nv nb og no tb vs bs os :=
  ⟨h.m.below hb, own_below h.k hb, own_below h.o hb, h.l, h.s⟩
theorem ScW.line {bs' : List Bs} (h : ScW W wr u1 u2 e1 e2 nv nb og no tb vs bs os) (hm : MemW W wr' u1 u2 e1 e2 nv nb vs bs') (hg : wr.grownBy wr' (blkO u2)) : ScW W wr' u1 u2 e1 e2 nv nb og no tb vs bs' os :=
  ⟨hm, own_keep h.k h.m.b (by decide) (by rw [ob]; exact hg), own_keep h.o h.m.b (by decide) (by rw [ob]; exact hg), h.l, h.s⟩
theorem ScW.putV {q : Nat} (h : ScW W wr (some ⟨q, 0, none⟩) u2 e1 e2 nv nb og no tb vs bs os) (j : Nat) (z : Int) : ScW W (wr.setCell ⟨q, j, none⟩ (.int .i64 z)) (some ⟨q, 0, none⟩) u2 e1 e2 nv nb og no tb (vs.set j z) bs os := by
  have hst := World.ownsRow.stored h.m.v j (.int .i64 z)
  have hq := h.l q rfl
  have hv : (ints vs).set j (.int .i64 z) = ints (vs.set j z) := by simp [ints, List.map_set]
  refine ⟨⟨by rw [← hv]; exact hst.1, own_keep h.m.b h.m.v (by decide) hst.2, below_of_grown h.m.w hst.2 (fun k hk => by simp at hk; have := (own_ge h.m.v).1; omega)⟩, own_keep h.k h.m.v (by decide) hst.2, h.o.kept hst.2 (.inr (fun e => ?_)), h.l, h.s⟩
  simp only [Value.ownBlock, Option.some.injEq] at e
  omega
theorem ScW.putO (h : ScW W wr u1 u2 e1 e2 nv nb og no tb vs bs os) (j : Nat) (z : Int) : ScW W (wr.setCell ⟨og, j, none⟩ (.int .i64 z)) u1 u2 e1 e2 nv nb og no tb vs bs (os.set j z) := by
  have hst := World.ownsRow.stored h.o j (.int .i64 z)
  have hv : (ints os).set j (.int .i64 z) = ints (os.set j z) := by simp [ints, List.map_set]
  refine ⟨⟨h.m.v.kept hst.2 ?_, own_keep h.m.b h.o (by decide) hst.2, below_of_grown h.m.w hst.2 (fun k hk => by simp at hk; have := h.s; omega)⟩, own_keep h.k h.o (by decide) hst.2, by rw [← hv]; exact hst.1, h.l, h.s⟩
  rw [ob]
  rcases hu : blkO u1 with _ | q
  · exact .inl rfl
  · exact .inr (fun e => by have := h.l q hu; simp only [Option.some.injEq] at e; omega)
end
/-- A scan's result. -/
def ScanP (nv nb : Nat) (w : World) (e : Ending) (w' : World) : Prop :=
  ∃ O on oc os x1 x2 d1 d2 vs bs, e = .returned (.tuple #[.slice O on oc, .agg #[.slice x1 nv d1, .slice x2 nb d2]]) ∧ w'.ownsRow w.heap.size 2 1 (.slice O on oc) on (ints os) ∧ MemW w w' x1 x2 d1 d2 nv nb vs bs
set_option maxHeartbeats 20000000 in
set_option maxRecDepth 100000 in
theorem c_l16Scan (p : Prg) (a1 a2 a3 a4 x1 x2 I : Option Addr) (c1 c2 c3 c4 d1 d2 ci nv nb ni : Nat) (vs is : List Int) (bs : List Bs) (w00 w : World) (hs : PgOk p) (hd : Snd p) (hro : ∀ l ∈ p.ls, runH l.ts 0 = some 1) (h : PgR w a1 a2 a3 a4 p) (hv2 : nv = p.vs.length) (hnb : nb = (blk p).length) (hi : ni = is.length) (hi2 : ni = p.ins.length) (hI : Rd w I (ints is)) (hx : MemW w00 w x1 x2 d1 d2 nv nb vs bs) :
    Calls Tryz.prog 191 #[pv p a1 a2 a3 a4 c1 c2 c3 c4, .agg #[.slice x1 nv d1, .slice x2 nb d2], .slice I ni ci] w (ScanP nv nb w) := by
  have hpl := hd.b.l
  have hnb2 : nb ≤ 1600 := by rw [hnb]; exact blk_len hd.b
  have hnv2 : nv ≤ 20 := by rw [hv2]; exact hd.b.v
  have hno : p.os.length ≤ 20 := hd.b.o
  have HIX := Lib.hid (fun s w h => c_l14Index a2 c2 _ p.vs s w rfl hs.v.1 h)
  have HJX := Lib.hid (fun s w h => c_l14Index a3 c3 _ p.os s w rfl hs.o.1 h)
  have HNV := Lib.hid hv2
  have HNB : Hid (nb = nbL p.ls) := Lib.hid hnb
  have B0 := below_alloc (below_alloc (below_alloc (Below.refl w.heap.size w) (.cells #[.string p.nm, .slice a1 p.ins.length c1, .slice a2 p.vs.length c2, .slice a3 p.os.length c3, .string p.gd, .slice a4 p.ls.length c4] 27)) (.cells #[.slice x1 nv d1, .slice x2 nb d2] 48)) (.cells #[.slice none 0 0, .slice none 0 0] 48)
  have HP : Hid (PB (((w.alloc (.cells #[.string p.nm, .slice a1 p.ins.length c1, .slice a2 p.vs.length c2, .slice a3 p.os.length c3, .string p.gd, .slice a4 p.ls.length c4] 27)).alloc (.cells #[.slice x1 nv d1, .slice x2 nb d2] 48)).alloc (.cells #[.slice none 0 0, .slice none 0 0] 48)) w.heap.size p a1 a2 a3 a4 c1 c2 c3 c4) := Lib.hid ⟨by go_simp, by go_simp, by go_simp, by go_simp, by go_simp, by go_simp⟩
  have y0 : (((w.alloc (.cells #[.string p.nm, .slice a1 p.ins.length c1, .slice a2 p.vs.length c2, .slice a3 p.os.length c3, .string p.gd, .slice a4 p.ls.length c4] 27)).alloc (.cells #[.slice x1 nv d1, .slice x2 nb d2] 48)).alloc (.cells #[.slice none 0 0, .slice none 0 0] 48)).cell? ⟨w.heap.size + 1, 0, none⟩ = some (.slice x1 nv d1) := by go_simp
  have y1 : (((w.alloc (.cells #[.string p.nm, .slice a1 p.ins.length c1, .slice a2 p.vs.length c2, .slice a3 p.os.length c3, .string p.gd, .slice a4 p.ls.length c4] 27)).alloc (.cells #[.slice x1 nv d1, .slice x2 nb d2] 48)).alloc (.cells #[.slice none 0 0, .slice none 0 0] 48)).cell? ⟨w.heap.size + 1, 1, none⟩ = some (.slice x2 nb d2) := by go_simp
  have HX : Hid (MBox (((w.alloc (.cells #[.string p.nm, .slice a1 p.ins.length c1, .slice a2 p.vs.length c2, .slice a3 p.os.length c3, .string p.gd, .slice a4 p.ls.length c4] 27)).alloc (.cells #[.slice x1 nv d1, .slice x2 nb d2] 48)).alloc (.cells #[.slice none 0 0, .slice none 0 0] 48)) w.heap.size (w.heap.size + 1 + 1) [.slice none 0 0, .slice none 0 0]) := Lib.hid (by
    have h := own_box ((w.alloc (.cells #[.string p.nm, .slice a1 p.ins.length c1, .slice a2 p.vs.length c2, .slice a3 p.os.length c3, .string p.gd, .slice a4 p.ls.length c4] 27)).alloc (.cells #[.slice x1 nv d1, .slice x2 nb d2] 48)) w.heap.size 48 [.slice none 0 0, .slice none 0 0] 2 rfl (by simp; omega)
    simpa [MBox] using h)
  have HB := Lib.hid B0
  have H0 := Lib.hid (h.below B0)
  have HI0 := Lib.hid (hI.below B0)
  have HX0 := Lib.hid (hx.below B0)
  have HD := Lib.hid hd
  have HRO := Lib.hid hro
  have HS := Lib.hid hs
  have HNI := Lib.hid hi
  have HNI2 := Lib.hid hi2
  clear B0 h hI hx hd hro hs hi hi2 hv2 hnb
  go_enter Tryz.func191, Tryz.ntmps191
  dsimp only [pv]
  go_upto_region 1 with (fail)
  generalize ((w.alloc (.cells #[.string p.nm, .slice a1 p.ins.length c1, .slice a2 p.vs.length c2, .slice a3 p.os.length c3, .string p.gd, .slice a4 p.ls.length c4] 27)).alloc (.cells #[.slice x1 nv d1, .slice x2 nb d2] 48)).alloc (.cells #[.slice none 0 0, .slice none 0 0] 48) = W at *
  have HLINE := Lib.hid (fun (u1 u2 : Option Addr) (e1 e2 : Nat) (T : Option Addr) (tc bk : Nat) (vs' : List Int) (bs' : List Bs) (ts : List Tm) (wr : World) ht htl hbk hr hnm hx => c_l16Line p a1 a2 a3 a4 u1 u2 I T c1 c2 c3 c4 e1 e2 ci tc nv nb ni ts.length bk vs' is bs' ts W wr HS.out H0.out HNV.out HNI.out HNI2.out HI0.out rfl ht htl hbk hnb2 hr hnm hx)
  have HGV := Lib.hid (fun (u1 u2 : Option Addr) (e1 e2 : Nat) (vs' : List Int) (s : ByteArray) (wr : World) (hb : Below W.heap.size W wr) hv hx hm => c_l16Value p a1 a2 a3 a4 u1 u2 I c1 c2 c3 c4 e1 e2 ci ni nv nb vs' is s wr HS.out (H0.out.below hb) hv HNV.out hx HNI.out HNI2.out (HI0.out.below hb) hm)
  go_wp2_with (fail)
  refine (c_l16Own x1 x2 d1 d2 nv nb vs bs w00 _ (by omega) (by omega) HX0.out).mono ?_
  rintro e v1 ⟨u1, u2, e1, e2, rfl, hm⟩
  have BK := below_alloc (Below.refl v1.heap.size v1) (.cells #[.slice u1 nv e1, .slice u2 nb e2] 48)
  have HK : Hid (MBox (v1.alloc (.cells #[.slice u1 nv e1, .slice u2 nb e2] 48)) W.heap.size v1.heap.size [.slice u1 nv e1, .slice u2 nb e2]) := Lib.hid (own_box v1 W.heap.size 48 [.slice u1 nv e1, .slice u2 nb e2] 2 rfl hm.w.size)
  have HM := Lib.hid (hm.below BK)
  clear hm y0 y1 BK HX0
  go_upto_region 2 with (fail)
  generalize v1.alloc (.cells #[.slice u1 nv e1, .slice u2 nb e2] 48) = v2 at *
  generalize v1.heap.size = tb at *
  obtain ⟨k0, k1, k2, k3, k4, k5⟩ := HP.out.below HM.out.w
  obtain ⟨i0, hi, hz0, hz1, hz2⟩ := info_parts info_int64
  go_wp2_with (first
    | (at_make
       refine wpList_make_full _ rfl (.tmp 19) (.tmp 19) _ rfl v2.heap.size 2 i0 _ 1 Tryz.underlying29 hi hz0 hz1 .i64 .i64 _ _ p.os.length rfl rfl rfl rfl (by rw [hz2]; omega) (by unfold maxLen; omega) (Nat.le_refl _) ?_
       intro v3 hown hgrow)
    )
  have hb3 := below_of_grown (Below.refl v2.heap.size v2) hgrow (by simp)
  rw [made_intQ] at hown
  have HSC : Hid (ScW W v3 u1 u2 e1 e2 nv nb v2.heap.size p.os.length tb vs bs (List.replicate p.os.length 0)) := Lib.hid ⟨HM.out.below hb3, own_below HK.out hb3, hown, fun q hq => (HM.out.v.lt q (by rw [ob]; exact hq)).2, HM.out.w.size⟩
  clear hown hgrow hb3 HK HM k0 k1 k2 k3 k4 k5
  generalize v2.heap.size = og at *
  generalize List.replicate p.os.length (0 : Int) = os at *
  go_loopw [10, 11] (fun bk i wr => ∃ (k : Nat) (vs' os' : List Int) (bs' : List Bs), k ≤ p.ls.length ∧ i = .int .i64 k ∧ bk = .int .i64 (nbL (p.ls.take k) : Nat) ∧ Hid (ScW W wr u1 u2 e1 e2 nv nb og p.os.length tb vs' bs' os')) (fun _ i _ => p.ls.length - (intOf i).toNat)
  case atStart => exact ⟨0, vs, os, bs, Nat.zero_le _, rfl, rfl, HSC⟩
  case round =>
    clear vs bs os HSC
    obtain ⟨k, vs, os, bs, hk, rfl, rfl, hsc⟩ := hrel
    have HSC := hsc
    clear hsc
    obtain ⟨k0, k1, k2, k3, k4, k5⟩ := HP.out.below HSC.out.m.w
    obtain ⟨q0, q1⟩ := HSC.out.k.c0
    by_cases hlt : k < p.ls.length
    · skip
      obtain ⟨l, hl⟩ : ∃ l, p.ls[k]? = some l := ⟨_, List.getElem?_eq_getElem hlt⟩
      have hlm := List.mem_of_getElem? hl
      obtain ⟨lb, lo, la, lc, rfl, hlb, g0, g1, hrd⟩ := H0.out.l.at hl
      have hk0 : (0 : Int) ≤ (k : Int) := by omega
      have hk1 : (k : Int) < p.ls.length := by omega
      have htl := HD.out.b.t l hlm
      have HNS := Lib.hid (nbL_step hl)
      have HNM := Lib.hid (nbL_mono p.ls (k + 1))
      have HR1 := Lib.hid (HRO.out l hlm)
      have HR2 := Lib.hid (HD.out.r l hlm)
      have HTG := Lib.hid (HD.out.t l hlm)
      have G0 := Lib.hid g0
      have G1 := Lib.hid g1
      have HRD := Lib.hid hrd
      obtain ⟨tg, ts⟩ := l
      dsimp only at *
      clear hl hlm g0 g1 hrd hlb
      have g0 := cell_later HSC.out.m.w G0.out
      have g1 := cell_later HSC.out.m.w G1.out
      have hbk : nbL (p.ls.take k) + nbT ts ≤ nb := by have := HNS.out; have := HNM.out; have := HNB.out; omega
      generalize nbL (p.ls.take k) = nb0 at *
      go_upto_region 7 with (fail)
      refine wp_region_held_drew (S := (fun w' => (((w'.cell? ⟨w.heap.size, 0, none⟩ = some (.string p.nm) ∧ w'.cell? ⟨w.heap.size, 1, none⟩ = some (.slice a1 p.ins.length c1)) ∧ (w'.cell? ⟨w.heap.size, 2, none⟩ = some (.slice a2 p.vs.length c2) ∧ w'.cell? ⟨w.heap.size, 3, none⟩ = some (.slice a3 p.os.length c3))) ∧ (w'.cell? ⟨w.heap.size, 4, none⟩ = some (.string p.gd) ∧ w'.cell? ⟨w.heap.size, 5, none⟩ = some (.slice (some ⟨lb, lo, none⟩) p.ls.length c4)) ∧ (w'.cell? ⟨tb, 0, none⟩ = some (.slice u1 nv e1) ∧ w'.cell? ⟨tb, 1, none⟩ = some (.slice u2 nb e2))) ∧ w'.cell? ⟨lb, lo + k * 2 + 1, none⟩ = some (.slice la ts.length lc))) (by kernel_rfl) ?_ (fun hHeld => ?_)
      · exact ⟨⟨⟨⟨k0, k1⟩, ⟨k2, k3⟩⟩, ⟨k4, k5⟩, ⟨q0, q1⟩⟩, g1⟩
      refine rg_take (v := ?_) 0 rfl (by kernel_rfl) (by kernel_rfl) (by kernel_rfl) (fun _ _ _ h => h) (by kernel_rfl) ?_ (by assumption) ?_
      rotate_left
      · (intro w' hSw; (try dsimp only at hSw); go_simp; first | done | with_reducible rfl)
      simp only [Act.put, List.setIfInBounds_toArray, List.set_cons_zero, List.set_cons_succ]
      refine rg_take (v := ?_) 1 rfl (by kernel_rfl) (by kernel_rfl) (by kernel_rfl) (fun _ _ _ h => h) (by kernel_rfl) ?_ (by assumption) ?_
      rotate_left
      · (intro w' hSw; (try dsimp only at hSw); go_simp; first | done | with_reducible rfl)
      simp only [Act.put, List.setIfInBounds_toArray, List.set_cons_zero, List.set_cons_succ]
      refine rg_take (v := ?_) 2 rfl (by kernel_rfl) (by kernel_rfl) (by kernel_rfl) (fun _ _ _ h => h) (by kernel_rfl) ?_ (by assumption) ?_
      rotate_left
      · (intro w' hSw; (try dsimp only at hSw); go_simp; first | done | with_reducible rfl)
      simp only [Act.put, List.setIfInBounds_toArray, List.set_cons_zero, List.set_cons_succ]
      refine rg_take (v := ?_) 3 rfl (by kernel_rfl) (by kernel_rfl) (by kernel_rfl) (fun _ _ _ h => h) (by kernel_rfl) ?_ (by assumption) ?_
      rotate_left
      · (intro w' hSw; (try dsimp only at hSw); go_simp; first | done | with_reducible rfl)
      simp only [Act.put, List.setIfInBounds_toArray, List.set_cons_zero, List.set_cons_succ]
      refine rg_take (v := ?_) 4 rfl (by kernel_rfl) (by kernel_rfl) (by kernel_rfl) (fun _ _ _ h => h) (by kernel_rfl) ?_ (by assumption) ?_
      rotate_left
      · (intro w' hSw; (try dsimp only at hSw); go_simp; first | done | with_reducible rfl)
      simp only [Act.put, List.setIfInBounds_toArray, List.set_cons_zero, List.set_cons_succ]
      refine rg_take (v := ?_) 5 rfl (by kernel_rfl) (by kernel_rfl) (by kernel_rfl) (fun _ _ _ h => h) (by kernel_rfl) ?_ (by assumption) ?_
      rotate_left
      · (intro w' hSw; (try dsimp only at hSw); go_simp; first | done | with_reducible rfl)
      simp only [Act.put, List.setIfInBounds_toArray, List.set_cons_zero, List.set_cons_succ]
      refine rg_take (v := ?_) 6 rfl (by kernel_rfl) (by kernel_rfl) (by kernel_rfl) (fun _ _ _ h => h) (by kernel_rfl) ?_ (by assumption) ?_
      rotate_left
      · (intro w' hSw; (try dsimp only at hSw); go_simp; first | done | with_reducible rfl)
      simp only [Act.put, List.setIfInBounds_toArray, List.set_cons_zero, List.set_cons_succ]
      refine rg_take (v := ?_) 7 rfl (by kernel_rfl) (by kernel_rfl) (by kernel_rfl) (fun _ _ _ h => h) (by kernel_rfl) ?_ (by assumption) ?_
      rotate_left
      · (intro w' hSw; (try dsimp only at hSw); go_simp; first | done | with_reducible rfl)
      simp only [Act.put, List.setIfInBounds_toArray, List.set_cons_zero, List.set_cons_succ]
      refine rg_take (v := ?_) 8 rfl (by kernel_rfl) (by kernel_rfl) (by kernel_rfl) (fun _ _ _ h => h) (by kernel_rfl) ?_ (by assumption) ?_
      rotate_left
      · (intro w' hSw; (try dsimp only at hSw); go_simp; first | done | with_reducible rfl)
      simp only [Act.put, List.setIfInBounds_toArray, List.set_cons_zero, List.set_cons_succ]
      refine rg_take (v := ?_) 9 rfl (by kernel_rfl) (by kernel_rfl) (by kernel_rfl) (fun _ _ _ h => h) (by kernel_rfl) ?_ (by assumption) ?_
      rotate_left
      · (intro w' hSw; (try dsimp only at hSw); go_simp; first | done | with_reducible rfl)
      simp only [Act.put, List.setIfInBounds_toArray, List.set_cons_zero, List.set_cons_succ]
      refine rg_run 10 rfl (by kernel_rfl) (by kernel_rfl) (fun K hK => ?_)
      go_simp
      refine (HLINE.out u1 u2 e1 e2 la lc nb0 vs bs ts _ HRD.out htl hbk HR1.out HR2.out (HSC.out.m.below (Below.refl _ _).drew)).mono ?_
      rintro e w5 ⟨z, bs5, rfl, hm5, hg5⟩
      have HS5 := Lib.hid ((HSC.out.below (Below.refl _ _).drew).line hm5 hg5)
      clear hm5 hg5 HSC k0 k1 k2 k3 k4 k5 q0 q1 g0 g1 bs
      obtain ⟨k0, k1, k2, k3, k4, k5⟩ := HP.out.below HS5.out.m.w
      have g0 := cell_later HS5.out.m.w G0.out
      have g1 := cell_later HS5.out.m.w G1.out
      obtain ⟨q0, q1⟩ := HS5.out.k.c0
      go_wp2
      clear hHeld
      refine hK.out _ _ (by exact ⟨⟨⟨⟨k0, k1⟩, ⟨k2, k3⟩⟩, ⟨k4, k5⟩, ⟨q0, q1⟩⟩, g1⟩) (fun hHeld => ?_)
      clear hK K
      try simp only [Act.put, List.setIfInBounds_toArray, List.set_cons_zero, List.set_cons_succ]
      refine rg_take (v := ?_) 11 rfl (by kernel_rfl) (by kernel_rfl) (by kernel_rfl) (fun _ _ _ h => h) (by kernel_rfl) ?_ (by assumption) ?_
      rotate_left
      · (intro w' hSw; (try dsimp only at hSw); go_simp; first | done | with_reducible rfl)
      simp only [Act.put, List.setIfInBounds_toArray, List.set_cons_zero, List.set_cons_succ]
      refine wpAnyH_done (by kernel_rfl) ?_ _
      clear hHeld
      go_upto_region 8 with (fail)
      refine wp_region_held_drew (S := (fun w' => (w'.cell? ⟨w.heap.size, 2, none⟩ = some (.slice a2 p.vs.length c2) ∧ w'.cell? ⟨w.heap.size, 5, none⟩ = some (.slice (some ⟨lb, lo, none⟩) p.ls.length c4)) ∧ w'.cell? ⟨lb, lo + k * 2, none⟩ = some (.string tg))) (by kernel_rfl) ?_ (fun hHeld => ?_)
      · exact ⟨⟨k2, k5⟩, g0⟩
      refine rg_take (v := ?_) 0 rfl (by kernel_rfl) (by kernel_rfl) (by kernel_rfl) (fun _ _ _ h => h) (by kernel_rfl) ?_ (by assumption) ?_
      rotate_left
      · (intro w' hSw; (try dsimp only at hSw); go_simp; first | done | with_reducible rfl)
      simp only [Act.put, List.setIfInBounds_toArray, List.set_cons_zero, List.set_cons_succ]
      refine rg_take (v := ?_) 1 rfl (by kernel_rfl) (by kernel_rfl) (by kernel_rfl) (fun _ _ _ h => h) (by kernel_rfl) ?_ (by assumption) ?_
      rotate_left
      · (intro w' hSw; (try dsimp only at hSw); go_simp; first | done | with_reducible rfl)
      simp only [Act.put, List.setIfInBounds_toArray, List.set_cons_zero, List.set_cons_succ]
      refine rg_take (v := ?_) 2 rfl (by kernel_rfl) (by kernel_rfl) (by kernel_rfl) (fun _ _ _ h => h) (by kernel_rfl) ?_ (by assumption) ?_
      rotate_left
      · (intro w' hSw; (try dsimp only at hSw); go_simp; first | done | with_reducible rfl)
      simp only [Act.put, List.setIfInBounds_toArray, List.set_cons_zero, List.set_cons_succ]
      refine rg_take (v := ?_) 3 rfl (by kernel_rfl) (by kernel_rfl) (by kernel_rfl) (fun _ _ _ h => h) (by kernel_rfl) ?_ (by assumption) ?_
      rotate_left
      · (intro w' hSw; (try dsimp only at hSw); go_simp; first | done | with_reducible rfl)
      simp only [Act.put, List.setIfInBounds_toArray, List.set_cons_zero, List.set_cons_succ]
      refine rg_take (v := ?_) 4 rfl (by kernel_rfl) (by kernel_rfl) (by kernel_rfl) (fun _ _ _ h => h) (by kernel_rfl) ?_ (by assumption) ?_
      rotate_left
      · (intro w' hSw; (try dsimp only at hSw); go_simp; first | done | with_reducible rfl)
      simp only [Act.put, List.setIfInBounds_toArray, List.set_cons_zero, List.set_cons_succ]
      refine rg_take (v := ?_) 5 rfl (by kernel_rfl) (by kernel_rfl) (by kernel_rfl) (fun _ _ _ h => h) (by kernel_rfl) ?_ (by assumption) ?_
      rotate_left
      · (intro w' hSw; (try dsimp only at hSw); go_simp; first | done | with_reducible rfl)
      simp only [Act.put, List.setIfInBounds_toArray, List.set_cons_zero, List.set_cons_succ]
      refine rg_take (v := ?_) 6 rfl (by kernel_rfl) (by kernel_rfl) (by kernel_rfl) (fun _ _ _ h => h) (by kernel_rfl) ?_ (by assumption) ?_
      rotate_left
      · (intro w' hSw; (try dsimp only at hSw); go_simp; first | done | with_reducible rfl)
      simp only [Act.put, List.setIfInBounds_toArray, List.set_cons_zero, List.set_cons_succ]
      refine rg_take (v := ?_) 7 rfl (by kernel_rfl) (by kernel_rfl) (by kernel_rfl) (fun _ _ _ h => h) (by kernel_rfl) ?_ (by assumption) ?_
      rotate_left
      · (intro w' hSw; (try dsimp only at hSw); go_simp; first | done | with_reducible rfl)
      simp only [Act.put, List.setIfInBounds_toArray, List.set_cons_zero, List.set_cons_succ]
      refine rg_run 8 rfl (by kernel_rfl) (by kernel_rfl) (fun K hK => ?_)
      go_simp
      refine (HIX.out tg _ ((H0.out.below HS5.out.m.w.drew).v)).mono ?_
      rintro e w6 ⟨rfl, hb⟩
      have HS6 := Lib.hid (HS5.out.below (below_chain (Below.refl _ _).drew hb))
      clear hb HS5 k0 k1 k2 k3 k4 k5 q0 q1 g0 g1
      obtain ⟨k0, k1, k2, k3, k4, k5⟩ := HP.out.below HS6.out.m.w
      have g0 := cell_later HS6.out.m.w G0.out
      have g1 := cell_later HS6.out.m.w G1.out
      go_wp2
      clear hHeld
      refine hK.out _ _ (by exact ⟨⟨k2, k5⟩, g0⟩) (fun hHeld => ?_)
      clear hK K
      try simp only [Act.put, List.setIfInBounds_toArray, List.set_cons_zero, List.set_cons_succ]
      refine rg_take (v := ?_) 9 rfl (by kernel_rfl) (by kernel_rfl) (by kernel_rfl) (fun _ _ _ h => h) (by kernel_rfl) ?_ (by assumption) ?_
      rotate_left
      · (intro w' hSw; (try dsimp only at hSw); go_simp; first | done | with_reducible rfl)
      simp only [Act.put, List.setIfInBounds_toArray, List.set_cons_zero, List.set_cons_succ]
      refine wpAnyH_done (by kernel_rfl) ?_ _
      clear hHeld
      have hb1 := ixS_bd tg p.vs
      have hb2 := ixS_bd tg p.os
      have HV : Hid (ixS p.vs tg < 0 → 0 ≤ ixS p.os tg) := Lib.hid (fun h0 => HTG.out.elim (fun hm => absurd (ix_mem hm) (by omega)) (fun hm => ix_mem hm))
      have HVL : Hid (ixS p.vs tg < nv) := Lib.hid (by rw [HNV.out]; exact hb1.2)
      have HOL : Hid (ixS p.os tg < p.os.length) := Lib.hid hb2.2
      have HJY := Lib.hid (fun w h => HJX.out tg w h)
      generalize ixS p.vs tg = zi at *
      generalize ixS p.os tg = zo at *
      clear hb1 hb2
      by_cases hzi : 0 ≤ zi
      · skip
        obtain ⟨j, rfl⟩ : ∃ j : Nat, zi = j := ⟨zi.toNat, by omega⟩
        have hjn : j < nv := by have := HVL.out; omega
        have hj1 : (j : Int) < nv := by omega
        obtain ⟨q, qc, e9⟩ : ∃ q c, Value.slice u1 nv e1 = .slice (some ⟨q, 0, none⟩) nv c := by
          rcases HS6.out.m.v.2 with ⟨_, h2⟩ | ⟨g, cap, cur, hv, _⟩
          · omega
          · exact ⟨_, _, hv⟩
        simp only [Value.slice.injEq, true_and] at e9
        obtain ⟨rfl, rfl⟩ := e9
        obtain ⟨o0, p0⟩ := own_cell HS6.out.m.v (j := j) (by omega)
        have f0 := HS6.out.m.v.frozenAt j
        obtain ⟨q0, q1⟩ := HS6.out.k.c0
        have HS7 := Lib.hid (HS6.out.putV j z)
        clear HV HOL HVL
        go_upto_region 12 with (fail)
        generalize w6.setCell ⟨q, j, none⟩ (.int .i64 z) = w7 at *
        clear o0 p0 f0 q0 q1 HS6
        clear k0 k1 k2 k3 k4 k5 g0 g1
        obtain ⟨k0, k1, k2, k3, k4, k5⟩ := HP.out.below HS7.out.m.w
        have g0 := cell_later HS7.out.m.w G0.out
        have g1 := cell_later HS7.out.m.w G1.out
        go_wp2_with (fail)
        go_loop [10, 14] (fun bk j => ∃ q : Nat, q ≤ ts.length ∧ j = .int .i64 q ∧ bk = .int .i64 (nb0 + nbT (ts.take q) : Nat)) (fun _ j => ts.length - (intOf j).toNat)
        case atStart => exact ⟨0, Nat.zero_le _, rfl, by simp [nbT]⟩
        case round =>
          obtain ⟨q, hq, rfl, rfl⟩ := hrel
          by_cases hql : q < ts.length
          · obtain ⟨t, ht⟩ : ∃ t, ts[q]? = some t := ⟨_, List.getElem?_eq_getElem hql⟩
            obtain ⟨tb2, to2, rfl, _, t0, _, _⟩ := (HRD.out.below HS7.out.m.w).tm ht
            have HTS := Lib.hid (nbT_step ht)
            have hnt := nbT_mono ts q
            have hnt2 := nbT_le ts
            obtain ⟨tk, tn2, tz⟩ := t
            dsimp only at t0 HTS
            have hq0 : (0 : Int) ≤ (q : Int) := by omega
            have hq1 : (q : Int) < ts.length := by omega
            clear ht
            generalize nbT (ts.take q) = m0 at *
            by_cases h7 : 7 ≤ tk
            · have HT7 : Hid (nbT (ts.take (q + 1)) = m0 + 1) := Lib.hid (by rw [HTS.out]; simp [isB, h7])
              go_wp2_with (fail)
              go_round
              case rel => exact ⟨q + 1, by omega, by go_num, by rw [HT7.out]; go_num⟩
              case measure => simp [intOf]; omega
            · have HT7 : Hid (nbT (ts.take (q + 1)) = m0) := Lib.hid (by rw [HTS.out]; simp [isB, h7])
              go_wp2_with (fail)
              go_round
              case rel => exact ⟨q + 1, by omega, by go_num, by rw [HT7.out]⟩
              case measure => simp [intOf]; omega
          · obtain rfl : q = ts.length := by omega
            have HTL : Hid (nbL (p.ls.take (k + 1)) = nb0 + nbT (ts.take ts.length)) := Lib.hid (by rw [List.take_length]; exact HNS.out)
            go_wp2_with (fail)
            go_roundw
            case rel => exact ⟨k + 1, _, _, _, by omega, by go_num, by rw [HTL.out], HS7⟩
            case measure => simp [intOf]; omega
      · skip
        have hzo := HV.out (by omega)
        obtain ⟨j, rfl⟩ : ∃ j : Nat, zo = j := ⟨zo.toNat, by omega⟩
        have hjn : j < p.os.length := by have := HOL.out; omega
        have hj1 : (j : Int) < p.os.length := by omega
        have hj0 : (0 : Int) ≤ j := by omega
        clear HV HOL HVL
        go_upto_region 11 with (fail)
        refine wp_region_heldE 12 (S := (fun w' => (w'.cell? ⟨w.heap.size, 3, none⟩ = some (.slice a3 p.os.length c3) ∧ w'.cell? ⟨w.heap.size, 5, none⟩ = some (.slice (some ⟨lb, lo, none⟩) p.ls.length c4)) ∧ w'.cell? ⟨lb, lo + k * 2, none⟩ = some (.string tg))) (by kernel_rfl) ?_ (fun hHeld => ?_)
        · exact ⟨⟨k3, k5⟩, g0⟩
        refine rgE_take (v := ?_) 0 14 rfl (by kernel_rfl) (by kernel_rfl) (by kernel_rfl) (by kernel_rfl) (by kernel_rfl) (fun _ _ _ h => h) (by kernel_rfl) ?_ (by assumption) ?_
        rotate_left
        · (intro w' hSw; (try dsimp only at hSw); go_simp; first | done | with_reducible rfl)
        simp only [Act.put, List.setIfInBounds_toArray, List.set_cons_zero, List.set_cons_succ]
        refine rgE_take (v := ?_) 1 14 rfl (by kernel_rfl) (by kernel_rfl) (by kernel_rfl) (by kernel_rfl) (by kernel_rfl) (fun _ _ _ h => h) (by kernel_rfl) ?_ (by assumption) ?_
        rotate_left
        · (intro w' hSw; (try dsimp only at hSw); go_simp; first | done | with_reducible rfl)
        simp only [Act.put, List.setIfInBounds_toArray, List.set_cons_zero, List.set_cons_succ]
        refine rgE_take (v := ?_) 2 14 rfl (by kernel_rfl) (by kernel_rfl) (by kernel_rfl) (by kernel_rfl) (by kernel_rfl) (fun _ _ _ h => h) (by kernel_rfl) ?_ (by assumption) ?_
        rotate_left
        · (intro w' hSw; (try dsimp only at hSw); go_simp; first | done | with_reducible rfl)
        simp only [Act.put, List.setIfInBounds_toArray, List.set_cons_zero, List.set_cons_succ]
        refine rgE_take (v := ?_) 3 14 rfl (by kernel_rfl) (by kernel_rfl) (by kernel_rfl) (by kernel_rfl) (by kernel_rfl) (fun _ _ _ h => h) (by kernel_rfl) ?_ (by assumption) ?_
        rotate_left
        · (intro w' hSw; (try dsimp only at hSw); go_simp; first | done | with_reducible rfl)
        simp only [Act.put, List.setIfInBounds_toArray, List.set_cons_zero, List.set_cons_succ]
        refine rgE_take (v := ?_) 4 14 rfl (by kernel_rfl) (by kernel_rfl) (by kernel_rfl) (by kernel_rfl) (by kernel_rfl) (fun _ _ _ h => h) (by kernel_rfl) ?_ (by assumption) ?_
        rotate_left
        · (intro w' hSw; (try dsimp only at hSw); go_simp; first | done | with_reducible rfl)
        simp only [Act.put, List.setIfInBounds_toArray, List.set_cons_zero, List.set_cons_succ]
        refine rgE_take (v := ?_) 5 14 rfl (by kernel_rfl) (by kernel_rfl) (by kernel_rfl) (by kernel_rfl) (by kernel_rfl) (fun _ _ _ h => h) (by kernel_rfl) ?_ (by assumption) ?_
        rotate_left
        · (intro w' hSw; (try dsimp only at hSw); go_simp; first | done | with_reducible rfl)
        simp only [Act.put, List.setIfInBounds_toArray, List.set_cons_zero, List.set_cons_succ]
        refine rgE_take (v := ?_) 6 14 rfl (by kernel_rfl) (by kernel_rfl) (by kernel_rfl) (by kernel_rfl) (by kernel_rfl) (fun _ _ _ h => h) (by kernel_rfl) ?_ (by assumption) ?_
        rotate_left
        · (intro w' hSw; (try dsimp only at hSw); go_simp; first | done | with_reducible rfl)
        simp only [Act.put, List.setIfInBounds_toArray, List.set_cons_zero, List.set_cons_succ]
        refine rgE_take (v := ?_) 7 14 rfl (by kernel_rfl) (by kernel_rfl) (by kernel_rfl) (by kernel_rfl) (by kernel_rfl) (fun _ _ _ h => h) (by kernel_rfl) ?_ (by assumption) ?_
        rotate_left
        · (intro w' hSw; (try dsimp only at hSw); go_simp; first | done | with_reducible rfl)
        simp only [Act.put, List.setIfInBounds_toArray, List.set_cons_zero, List.set_cons_succ]
        refine rgE_take (v := ?_) 8 14 rfl (by kernel_rfl) (by kernel_rfl) (by kernel_rfl) (by kernel_rfl) (by kernel_rfl) (fun _ _ _ h => h) (by kernel_rfl) ?_ (by assumption) ?_
        rotate_left
        · (intro w' hSw; (try dsimp only at hSw); go_simp; first | done | with_reducible rfl)
        simp only [Act.put, List.setIfInBounds_toArray, List.set_cons_zero, List.set_cons_succ]
        refine rgE_take (v := ?_) 10 14 rfl (by kernel_rfl) (by kernel_rfl) (by kernel_rfl) (by kernel_rfl) (by kernel_rfl) (fun _ _ _ h => h) (by kernel_rfl) ?_ (by assumption) ?_
        rotate_left
        · (intro w' hSw; (try dsimp only at hSw); go_simp; first | done | with_reducible rfl)
        simp only [Act.put, List.setIfInBounds_toArray, List.set_cons_zero, List.set_cons_succ]
        refine rgE_run 9 rfl (by kernel_rfl) (by kernel_rfl) (by decide) (fun K hK => ?_)
        go_simp
        refine (HJY.out _ ((H0.out.below HS6.out.m.w.drew).o)).mono ?_
        rintro e w6b ⟨rfl, hb⟩
        have HS6b := Lib.hid (HS6.out.below (below_chain (Below.refl _ _).drew hb))
        clear hb HS6 k0 k1 k2 k3 k4 k5 g0 g1
        obtain ⟨k0, k1, k2, k3, k4, k5⟩ := HP.out.below HS6b.out.m.w
        have g0 := cell_later HS6b.out.m.w G0.out
        have g1 := cell_later HS6b.out.m.w G1.out
        go_wp2
        clear hHeld
        refine hK.out _ _ (.inr (by exact ⟨⟨k3, k5⟩, g0⟩)) (fun hHeld => ?_)
        clear hK K
        try simp only [Act.put, List.setIfInBounds_toArray, List.set_cons_zero, List.set_cons_succ]
        refine rgE_take (v := ?_) 11 14 rfl (by kernel_rfl) (by kernel_rfl) (by kernel_rfl) (by kernel_rfl) (by kernel_rfl) (fun _ _ _ h => h) (by kernel_rfl) ?_ (by assumption) ?_
        rotate_left
        · (intro w' hSw; (try dsimp only at hSw); go_simp; first | done | with_reducible rfl)
        simp only [Act.put, List.setIfInBounds_toArray, List.set_cons_zero, List.set_cons_succ]
        obtain ⟨o0, p0⟩ := own_cell HS6b.out.o (j := j) (by omega)
        have f0 := HS6b.out.o.frozenAt j
        have HS7 := Lib.hid (HS6b.out.putO j z)
        refine rgE_last rfl (by kernel_rfl) (by kernel_rfl) (by kernel_rfl) (fun K hK => ?_)
        go_simp
        clear hHeld
        refine hK.out _ _ ?_
        clear hK K
        try simp only [Act.put, List.setIfInBounds_toArray, List.set_cons_zero, List.set_cons_succ]
        go_upto_region 12 with (fail)
        generalize w6b.setCell ⟨og, j, none⟩ (.int .i64 z) = w7 at *
        clear o0 p0 f0 HS6b
        clear k0 k1 k2 k3 k4 k5 g0 g1
        obtain ⟨k0, k1, k2, k3, k4, k5⟩ := HP.out.below HS7.out.m.w
        have g0 := cell_later HS7.out.m.w G0.out
        have g1 := cell_later HS7.out.m.w G1.out
        go_wp2_with (fail)
        go_loop [10, 14] (fun bk j => ∃ q : Nat, q ≤ ts.length ∧ j = .int .i64 q ∧ bk = .int .i64 (nb0 + nbT (ts.take q) : Nat)) (fun _ j => ts.length - (intOf j).toNat)
        case atStart => exact ⟨0, Nat.zero_le _, rfl, by simp [nbT]⟩
        case round =>
          obtain ⟨q, hq, rfl, rfl⟩ := hrel
          by_cases hql : q < ts.length
          · obtain ⟨t, ht⟩ : ∃ t, ts[q]? = some t := ⟨_, List.getElem?_eq_getElem hql⟩
            obtain ⟨tb2, to2, rfl, _, t0, _, _⟩ := (HRD.out.below HS7.out.m.w).tm ht
            have HTS := Lib.hid (nbT_step ht)
            have hnt := nbT_mono ts q
            have hnt2 := nbT_le ts
            obtain ⟨tk, tn2, tz⟩ := t
            dsimp only at t0 HTS
            have hq0 : (0 : Int) ≤ (q : Int) := by omega
            have hq1 : (q : Int) < ts.length := by omega
            clear ht
            generalize nbT (ts.take q) = m0 at *
            by_cases h7 : 7 ≤ tk
            · have HT7 : Hid (nbT (ts.take (q + 1)) = m0 + 1) := Lib.hid (by rw [HTS.out]; simp [isB, h7])
              go_wp2_with (fail)
              go_round
              case rel => exact ⟨q + 1, by omega, by go_num, by rw [HT7.out]; go_num⟩
              case measure => simp [intOf]; omega
            · have HT7 : Hid (nbT (ts.take (q + 1)) = m0) := Lib.hid (by rw [HTS.out]; simp [isB, h7])
              go_wp2_with (fail)
              go_round
              case rel => exact ⟨q + 1, by omega, by go_num, by rw [HT7.out]⟩
              case measure => simp [intOf]; omega
          · obtain rfl : q = ts.length := by omega
            have HTL : Hid (nbL (p.ls.take (k + 1)) = nb0 + nbT (ts.take ts.length)) := Lib.hid (by rw [List.take_length]; exact HNS.out)
            go_wp2_with (fail)
            go_roundw
            case rel => exact ⟨k + 1, _, _, _, by omega, by go_num, by rw [HTL.out], HS7⟩
            case measure => simp [intOf]; omega
    · skip
      obtain rfl : k = p.ls.length := by omega
      have HGM := Lib.hid HD.out.g
      clear hk hlt
      rcases hg : p.gd.toList.isEmpty with _ | _
      · skip
        have HGN : Hid (p.gd ∈ p.ins ∨ p.gd ∈ p.vs) := Lib.hid (HGM.out.resolve_left (by rw [hg]; simp))
        go_wp2_with (fail)
        refine (HGV.out u1 u2 e1 e2 vs p.gd _ HSC.out.m.w HSC.out.m.lenv.symm (Rd.own HSC.out.m.v) HGN.out).mono ?_
        rintro e w5 ⟨z, rfl, hb⟩
        have HSCn := Lib.hid (HSC.out.below hb)
        clear HSC hb k0 k1 k2 k3 k4 k5 q0 q1
        have HSC := HSCn
        clear HSCn
        obtain ⟨k0, k1, k2, k3, k4, k5⟩ := HP.out.below HSC.out.m.w
        by_cases hz : z = 0
        · subst hz
          go_wp2_with (first
            | (at_make
               refine wpList_make_full _ rfl (.tmp 105) (.tmp 105) _ rfl w5.heap.size 2 i0 _ 1 Tryz.underlying29 hi hz0 hz1 .i64 .i64 _ _ p.os.length rfl rfl rfl rfl (by rw [hz2]; omega) (by unfold maxLen; omega) (Nat.le_refl _) ?_
               intro w6 hown hgrow)
            )
          have hb3 := below_of_grown (Below.refl w5.heap.size w5) hgrow (by simp)
          rw [made_intQ] at hown
          have HNO := Lib.hid hown
          have HSCn := Lib.hid (HSC.out.below hb3)
          have hw5 := Nat.le_trans HB.out.size HSC.out.m.w.size
          clear HSC hown hgrow hb3 k0 k1 k2 k3 k4 k5
          have HSC := HSCn
          clear HSCn
          obtain ⟨q0, q1⟩ := HSC.out.k.c0
          have HXw := Lib.hid (own_below HX.out HSC.out.m.w)
          obtain ⟨⟨m0, m1⟩, ⟨f0, f1⟩, hlt9⟩ := MBox.c HXw.out
          have z0 := MBox.put HXw.out 0 (.slice u1 nv e1)
          have z1 := MBox.put z0.1 1 (.slice u2 nb e2)
          have zg := grown_trans z0.2 z1.2
          have Y0 := Lib.hid (own_keep HNO.out HXw.out (by decide) zg)
          have Y1 := Lib.hid (own_keep HSC.out.m.v HXw.out (by decide) zg)
          have Y2 := Lib.hid (own_keep HSC.out.m.b HXw.out (by decide) zg)
          have YB := Lib.hid (below_of_grown (below_chain HB.out HSC.out.m.w) zg (fun k hk => by simp at hk; omega))
          have YC := Lib.hid z1.1
          have hws := HB.out.size
          have hog := HSC.out.s
          clear z0 z1 zg
          go_upto_region 19 with (fail)
          refine wp_region_heldE 3 (S := (fun w' => w'.cell? ⟨tb, 0, none⟩ = some (.slice u1 nv e1) ∧ w'.cell? ⟨tb, 1, none⟩ = some (.slice u2 nb e2))) (by kernel_rfl) ?_ (fun hHeld => ?_)
          · exact ⟨q0, q1⟩
          refine rgE_take (v := ?_) 0 12 rfl (by kernel_rfl) (by kernel_rfl) (by kernel_rfl) (by kernel_rfl) (by kernel_rfl) (fun _ _ _ h => h) (by kernel_rfl) ?_ (by assumption) ?_
          rotate_left
          · (intro w' hSw; (try dsimp only at hSw); go_simp; first | done | with_reducible rfl)
          simp only [Act.put, List.setIfInBounds_toArray, List.set_cons_zero, List.set_cons_succ]
          refine rgE_take (v := ?_) 1 12 rfl (by kernel_rfl) (by kernel_rfl) (by kernel_rfl) (by kernel_rfl) (by kernel_rfl) (fun _ _ _ h => h) (by kernel_rfl) ?_ (by assumption) ?_
          rotate_left
          · (intro w' hSw; (try dsimp only at hSw); go_simp; first | done | with_reducible rfl)
          simp only [Act.put, List.setIfInBounds_toArray, List.set_cons_zero, List.set_cons_succ]
          refine rgE_take (v := ?_) 2 12 rfl (by kernel_rfl) (by kernel_rfl) (by kernel_rfl) (by kernel_rfl) (by kernel_rfl) (fun _ _ _ h => h) (by kernel_rfl) ?_ (by assumption) ?_
          rotate_left
          · (intro w' hSw; (try dsimp only at hSw); go_simp; first | done | with_reducible rfl)
          simp only [Act.put, List.setIfInBounds_toArray, List.set_cons_zero, List.set_cons_succ]
          have Y0' := Lib.hid (own_below Y0.out (Below.refl _ _).drew)
          have Y1' := Lib.hid (own_below Y1.out (Below.refl _ _).drew)
          have Y2' := Lib.hid (own_below Y2.out (Below.refl _ _).drew)
          have YB' := Lib.hid YB.out.drew
          have YC' : Hid (MBox _ _ _ _) := Lib.hid (own_below YC.out (Below.refl _ _).drew)
          clear Y0 Y1 Y2 YB YC
          refine rgE_last rfl (by kernel_rfl) (by kernel_rfl) (by kernel_rfl) (fun K hK => ?_)
          go_simp
          clear hHeld
          refine hK.out _ _ ?_
          clear hK K
          try simp only [Act.put, List.setIfInBounds_toArray, List.set_cons_zero, List.set_cons_succ]
          go_wp2_with (fail)
          generalize ((w6.setCell ⟨w.heap.size + 1 + 1, 0, none⟩ (.slice u1 nv e1)).setCell ⟨w.heap.size + 1 + 1, 1, none⟩ (.slice u2 nb e2)).drew = WF at *
          clear m0 m1 f0 f1 q0 q1
          have zc := YC'.out
          simp only [List.set_cons_zero, List.set_cons_succ] at zc
          obtain ⟨⟨r0, r1⟩, _⟩ := MBox.c zc
          refine bodyPost_ret (v := .tuple #[.slice (some ⟨w5.heap.size, 0, none⟩) p.os.length p.os.length, .agg #[.slice u1 nv e1, .slice u2 nb e2]]) (by simp [results, Tryz.results191, go_sem, r0, r1]) rfl ⟨_, _, _, _, _, _, _, _, _, _, rfl, own_mono Y0'.out (by omega), own_mono Y1'.out hws, own_mono Y2'.out hws, YB'.out⟩
        · have ez : (z == 0) = false := by simpa using hz
          obtain ⟨q0, q1⟩ := HSC.out.k.c0
          have HXw := Lib.hid (own_below HX.out HSC.out.m.w)
          obtain ⟨⟨m0, m1⟩, ⟨f0, f1⟩, hlt9⟩ := MBox.c HXw.out
          have z0 := MBox.put HXw.out 0 (.slice u1 nv e1)
          have z1 := MBox.put z0.1 1 (.slice u2 nb e2)
          have zg := grown_trans z0.2 z1.2
          have Y0 := Lib.hid (own_keep HSC.out.o HXw.out (by decide) zg)
          have Y1 := Lib.hid (own_keep HSC.out.m.v HXw.out (by decide) zg)
          have Y2 := Lib.hid (own_keep HSC.out.m.b HXw.out (by decide) zg)
          have YB := Lib.hid (below_of_grown (below_chain HB.out HSC.out.m.w) zg (fun k hk => by simp at hk; omega))
          have YC := Lib.hid z1.1
          have hws := HB.out.size
          have hog := HSC.out.s
          clear z0 z1 zg
          go_upto_region 19 with (fail)
          refine wp_region_heldE 3 (S := (fun w' => w'.cell? ⟨tb, 0, none⟩ = some (.slice u1 nv e1) ∧ w'.cell? ⟨tb, 1, none⟩ = some (.slice u2 nb e2))) (by kernel_rfl) ?_ (fun hHeld => ?_)
          · exact ⟨q0, q1⟩
          refine rgE_take (v := ?_) 0 12 rfl (by kernel_rfl) (by kernel_rfl) (by kernel_rfl) (by kernel_rfl) (by kernel_rfl) (fun _ _ _ h => h) (by kernel_rfl) ?_ (by assumption) ?_
          rotate_left
          · (intro w' hSw; (try dsimp only at hSw); go_simp; first | done | with_reducible rfl)
          simp only [Act.put, List.setIfInBounds_toArray, List.set_cons_zero, List.set_cons_succ]
          refine rgE_take (v := ?_) 1 12 rfl (by kernel_rfl) (by kernel_rfl) (by kernel_rfl) (by kernel_rfl) (by kernel_rfl) (fun _ _ _ h => h) (by kernel_rfl) ?_ (by assumption) ?_
          rotate_left
          · (intro w' hSw; (try dsimp only at hSw); go_simp; first | done | with_reducible rfl)
          simp only [Act.put, List.setIfInBounds_toArray, List.set_cons_zero, List.set_cons_succ]
          refine rgE_take (v := ?_) 2 12 rfl (by kernel_rfl) (by kernel_rfl) (by kernel_rfl) (by kernel_rfl) (by kernel_rfl) (fun _ _ _ h => h) (by kernel_rfl) ?_ (by assumption) ?_
          rotate_left
          · (intro w' hSw; (try dsimp only at hSw); go_simp; first | done | with_reducible rfl)
          simp only [Act.put, List.setIfInBounds_toArray, List.set_cons_zero, List.set_cons_succ]
          have Y0' := Lib.hid (own_below Y0.out (Below.refl _ _).drew)
          have Y1' := Lib.hid (own_below Y1.out (Below.refl _ _).drew)
          have Y2' := Lib.hid (own_below Y2.out (Below.refl _ _).drew)
          have YB' := Lib.hid YB.out.drew
          have YC' : Hid (MBox _ _ _ _) := Lib.hid (own_below YC.out (Below.refl _ _).drew)
          clear Y0 Y1 Y2 YB YC
          refine rgE_last rfl (by kernel_rfl) (by kernel_rfl) (by kernel_rfl) (fun K hK => ?_)
          go_simp
          clear hHeld
          refine hK.out _ _ ?_
          clear hK K
          try simp only [Act.put, List.setIfInBounds_toArray, List.set_cons_zero, List.set_cons_succ]
          go_wp2_with (fail)
          generalize ((w5.setCell ⟨w.heap.size + 1 + 1, 0, none⟩ (.slice u1 nv e1)).setCell ⟨w.heap.size + 1 + 1, 1, none⟩ (.slice u2 nb e2)).drew = WF at *
          clear m0 m1 f0 f1 q0 q1
          have zc := YC'.out
          simp only [List.set_cons_zero, List.set_cons_succ] at zc
          obtain ⟨⟨r0, r1⟩, _⟩ := MBox.c zc
          refine bodyPost_ret (v := .tuple #[.slice (some ⟨og, 0, none⟩) p.os.length p.os.length, .agg #[.slice u1 nv e1, .slice u2 nb e2]]) (by simp [results, Tryz.results191, go_sem, r0, r1]) rfl ⟨_, _, _, _, _, _, _, _, _, _, rfl, own_mono Y0'.out (by omega), own_mono Y1'.out hws, own_mono Y2'.out hws, YB'.out⟩
      · skip
        clear q0 q1
        obtain ⟨q0, q1⟩ := HSC.out.k.c0
        have HXw := Lib.hid (own_below HX.out HSC.out.m.w)
        obtain ⟨⟨m0, m1⟩, ⟨f0, f1⟩, hlt9⟩ := MBox.c HXw.out
        have z0 := MBox.put HXw.out 0 (.slice u1 nv e1)
        have z1 := MBox.put z0.1 1 (.slice u2 nb e2)
        have zg := grown_trans z0.2 z1.2
        have Y0 := Lib.hid (own_keep HSC.out.o HXw.out (by decide) zg)
        have Y1 := Lib.hid (own_keep HSC.out.m.v HXw.out (by decide) zg)
        have Y2 := Lib.hid (own_keep HSC.out.m.b HXw.out (by decide) zg)
        have YB := Lib.hid (below_of_grown (below_chain HB.out HSC.out.m.w) zg (fun k hk => by simp at hk; omega))
        have YC := Lib.hid z1.1
        have hws := HB.out.size
        have hog := HSC.out.s
        clear z0 z1 zg
        go_upto_region 19 with (fail)
        refine wp_region_heldE 3 (S := (fun w' => w'.cell? ⟨tb, 0, none⟩ = some (.slice u1 nv e1) ∧ w'.cell? ⟨tb, 1, none⟩ = some (.slice u2 nb e2))) (by kernel_rfl) ?_ (fun hHeld => ?_)
        · exact ⟨q0, q1⟩
        refine rgE_take (v := ?_) 0 12 rfl (by kernel_rfl) (by kernel_rfl) (by kernel_rfl) (by kernel_rfl) (by kernel_rfl) (fun _ _ _ h => h) (by kernel_rfl) ?_ (by assumption) ?_
        rotate_left
        · (intro w' hSw; (try dsimp only at hSw); go_simp; first | done | with_reducible rfl)
        simp only [Act.put, List.setIfInBounds_toArray, List.set_cons_zero, List.set_cons_succ]
        refine rgE_take (v := ?_) 1 12 rfl (by kernel_rfl) (by kernel_rfl) (by kernel_rfl) (by kernel_rfl) (by kernel_rfl) (fun _ _ _ h => h) (by kernel_rfl) ?_ (by assumption) ?_
        rotate_left
        · (intro w' hSw; (try dsimp only at hSw); go_simp; first | done | with_reducible rfl)
        simp only [Act.put, List.setIfInBounds_toArray, List.set_cons_zero, List.set_cons_succ]
        refine rgE_take (v := ?_) 2 12 rfl (by kernel_rfl) (by kernel_rfl) (by kernel_rfl) (by kernel_rfl) (by kernel_rfl) (fun _ _ _ h => h) (by kernel_rfl) ?_ (by assumption) ?_
        rotate_left
        · (intro w' hSw; (try dsimp only at hSw); go_simp; first | done | with_reducible rfl)
        simp only [Act.put, List.setIfInBounds_toArray, List.set_cons_zero, List.set_cons_succ]
        have Y0' := Lib.hid (own_below Y0.out (Below.refl _ _).drew)
        have Y1' := Lib.hid (own_below Y1.out (Below.refl _ _).drew)
        have Y2' := Lib.hid (own_below Y2.out (Below.refl _ _).drew)
        have YB' := Lib.hid YB.out.drew
        have YC' : Hid (MBox _ _ _ _) := Lib.hid (own_below YC.out (Below.refl _ _).drew)
        clear Y0 Y1 Y2 YB YC
        refine rgE_last rfl (by kernel_rfl) (by kernel_rfl) (by kernel_rfl) (fun K hK => ?_)
        go_simp
        clear hHeld
        refine hK.out _ _ ?_
        clear hK K
        try simp only [Act.put, List.setIfInBounds_toArray, List.set_cons_zero, List.set_cons_succ]
        go_wp2_with (fail)
        generalize ((wr.setCell ⟨w.heap.size + 1 + 1, 0, none⟩ (.slice u1 nv e1)).setCell ⟨w.heap.size + 1 + 1, 1, none⟩ (.slice u2 nb e2)).drew = WF at *
        clear m0 m1 f0 f1 q0 q1
        have zc := YC'.out
        simp only [List.set_cons_zero, List.set_cons_succ] at zc
        obtain ⟨⟨r0, r1⟩, _⟩ := MBox.c zc
        refine bodyPost_ret (v := .tuple #[.slice (some ⟨og, 0, none⟩) p.os.length p.os.length, .agg #[.slice u1 nv e1, .slice u2 nb e2]]) (by simp [results, Tryz.results191, go_sem, r0, r1]) rfl ⟨_, _, _, _, _, _, _, _, _, _, rfl, own_mono Y0'.out (by omega), own_mono Y1'.out hws, own_mono Y2'.out hws, YB'.out⟩
end Go.Proofs.YteengjcplmjakaaGreatDoor

/- Several scans, on the reference's side: some memory of the call's own, and a code (printed by FbR.py). Condition: the lengths. -/
namespace Go.Proofs.YteengjcplmjakaaGreatDoor
open Go.RowKit

theorem LsOwn.box {w w' : World} {base b2 n2 : Nat} {v v2 : Value} {L : List (List Int)} {x2 : List Value} (h : LsOwn w base v L) (hx : w.ownsRow b2 48 2 v2 n2 x2) (hg : w.grownBy w' v2.ownBlock) : LsOwn w' base v L := by
  obtain ⟨ds, e, h1, h2⟩ := h
  exact ⟨ds, e, own_keep h1 hx (by decide) hg, fun d hd => own_keep (h2 d hd) hx (by decide) hg⟩
theorem LsOwn.keep {w w' : World} {base b1 s1 n1 : Nat} {v v1 : Value} {L : List (List Int)} {e1 : TypeId} {x1 : List Value} (h : LsOwn w base v L) (h1 : w.ownsRow b1 e1 s1 v1 n1 x1) (he : e1 ≠ 29) (hg : w.grownBy w' v.ownBlock) : w'.ownsRow b1 e1 s1 v1 n1 x1 := by
  obtain ⟨ds, e, h2, _⟩ := h
  exact own_keep h1 h2 he hg
theorem MemW.mono {w0 w1 w : World} {x1 x2 : Option Addr} {d1 d2 nv nb : Nat} {vs : List Int} {bs : List Bs} (h : MemW w1 w x1 x2 d1 d2 nv nb vs bs) (hb : Below w0.heap.size w0 w1) : MemW w0 w x1 x2 d1 d2 nv nb vs bs :=
  ⟨own_mono h.v hb.size, own_mono h.b hb.size, below_chain hb h.w⟩
set_option maxRecDepth 100000 in
theorem c_l22BitsW (A : Option Addr) (c n : Nat) (zs : List Int) (X : Int) (w : World) (hn : n = zs.length) (hs : n ≤ 100000000) (hr : Rd w A (ints zs)) :
    Calls Tryz.prog 109 #[.slice A n c, .int .i64 X] w fun e w' => e = .returned (.bool (bitsB zs X)) ∧ w = w' := by
  have HN := Lib.hid hn
  clear hn
  go_enter Tryz.func109, Tryz.ntmps109
  go_wp2
  go_loop [5] (fun i => ∃ k : Nat, k ≤ n ∧ i = .int .i64 k ∧ Hid (∀ j y, j < k → zs[j]? = some y → nbit y = false)) (fun i => n - (intOf i).toNat)
  case atStart => exact ⟨0, Nat.zero_le _, rfl, fun j y h _ => absurd h (by omega)⟩
  case round =>
    obtain ⟨k, hk, rfl, ha⟩ := hrel
    by_cases hlt : k < n
    · obtain ⟨z, hz⟩ : ∃ z, zs[k]? = some z := ⟨_, List.getElem?_eq_getElem (by have := HN.out; omega)⟩
      have HZ := Lib.hid hz
      obtain ⟨b, off, rfl, _, g0⟩ := hr.int hz
      clear hz hr
      have HP : Hid (nbit z = !inB z 0 1) := Lib.hid rfl
      go_wp2_with (fail)
      refine (c_l01In z 0 1 _).mono ?_
      rintro e w2 ⟨rfl, rfl⟩
      rcases hp : inB z 0 1 with _ | _
      · have HP := Lib.hid (HP.out.trans (by rw [hp]))
        clear hp
        go_wp2
        go_ret
        exact ⟨ret_bool (by unfold bitsB; rw [any_hit HZ.out HP.out]; simp), rfl⟩
      · have HP := Lib.hid (HP.out.trans (by rw [hp]))
        clear hp
        go_wp2
        go_round
        case rel =>
          refine ⟨k + 1, by omega, by go_num, fun j y hj hy => ?_⟩
          rcases Nat.lt_or_ge j k with h | h
          · exact ha.out j y h hy
          · obtain rfl : j = k := by omega
            have := HZ.out.symm.trans hy
            simp only [Option.some.injEq] at this
            rw [← this]; exact HP.out
        case measure => simp [intOf]; omega
    · have : k = n := by omega
      subst this
      by_cases hX : (k : Int) = X
      · subst hX
        go_wp2
        go_ret
        exact ⟨ret_bool (by unfold bitsB; rw [any_none (by rw [← HN.out]; exact ha.out), HN.out]; simp), rfl⟩
      · have hne : ((k : Int) == X) = false := by simpa using hX
        have HX := Lib.hid hX
        clear hX
        go_wp2
        go_ret
        exact ⟨ret_bool (by unfold bitsB; rw [← HN.out, decide_eq_false HX.out]; rfl), rfl⟩
/-- What several scans hand back. -/
def RnP (w : World) (e : Ending) (w' : World) : Prop :=
  ∃ O on oc x1 x2 n1 n2 d1 d2 code vs bs, e = .returned (.tuple #[.slice O on oc, .agg #[.slice x1 n1 d1, .slice x2 n2 d2], .int .i64 code]) ∧ MemW w w' x1 x2 d1 d2 n1 n2 vs bs ∧ n1 ≤ 20 ∧ n2 ≤ 1600
theorem memW_nil {w w' : World} (hb : Below w.heap.size w w') : MemW w w' none none 0 0 0 0 [] [] := ⟨World.ownsRow_nil _ _ _ _, World.ownsRow_nil _ _ _ _, hb⟩
set_option maxHeartbeats 20000000 in
set_option maxRecDepth 100000 in
theorem c_l16Run (p : Prg) (a1 a2 a3 a4 A : Option Addr) (c1 c2 c3 c4 c n : Nat) (L : List (List Int)) (w : World) (hs : PgOk p) (hz : PgZ a1 a2 a3 c1 c2 c3) (h : PgR w a1 a2 a3 a4 p) (hn : n = L.length) (hn2 : n ≤ 1000) (hll : ∀ l ∈ L, l.length ≤ 100000000) (hL : RdS w A L) :
    Calls Tryz.prog 181 #[pv p a1 a2 a3 a4 c1 c2 c3 c4, .slice A n c] w (RnP w) := by
  have HI := Lib.hid (fun w h => c_sIsSound p a1 a2 a3 a4 c1 c2 c3 c4 w hs hz h)
  have HSN := Lib.hid (fun h => snd_of (p := p) h)
  have HRO := Lib.hid (fun h => run_one (p := p) h)
  have hpi : p.ins.length ≤ 1048576 := hs.i.1
  have HS := Lib.hid hs
  have HN := Lib.hid hn
  have HLL := Lib.hid hll
  have B0 := below_alloc (below_alloc (Below.refl w.heap.size w) (.cells #[.string p.nm, .slice a1 p.ins.length c1, .slice a2 p.vs.length c2, .slice a3 p.os.length c3, .string p.gd, .slice a4 p.ls.length c4] 27)) (.cells #[.slice none 0 0, .slice none 0 0] 48)
  have HP : Hid (PB ((w.alloc (.cells #[.string p.nm, .slice a1 p.ins.length c1, .slice a2 p.vs.length c2, .slice a3 p.os.length c3, .string p.gd, .slice a4 p.ls.length c4] 27)).alloc (.cells #[.slice none 0 0, .slice none 0 0] 48)) w.heap.size p a1 a2 a3 a4 c1 c2 c3 c4) := Lib.hid ⟨by go_simp, by go_simp, by go_simp, by go_simp, by go_simp, by go_simp⟩
  have HX : Hid (MBox ((w.alloc (.cells #[.string p.nm, .slice a1 p.ins.length c1, .slice a2 p.vs.length c2, .slice a3 p.os.length c3, .string p.gd, .slice a4 p.ls.length c4] 27)).alloc (.cells #[.slice none 0 0, .slice none 0 0] 48)) w.heap.size (w.heap.size + 1) [.slice none 0 0, .slice none 0 0]) := Lib.hid (by
    have h := own_box (w.alloc (.cells #[.string p.nm, .slice a1 p.ins.length c1, .slice a2 p.vs.length c2, .slice a3 p.os.length c3, .string p.gd, .slice a4 p.ls.length c4] 27)) w.heap.size 48 [.slice none 0 0, .slice none 0 0] 2 rfl (by simp)
    simpa [MBox] using h)
  have HB := Lib.hid B0
  have H0 := Lib.hid (h.below B0)
  have HL0 := Lib.hid (hL.below B0)
  clear B0 h hL hs hn hll hz
  generalize hsn : (wrB p && fltB p) = s at *
  have HSS := Lib.hid hsn
  clear hsn
  go_enter Tryz.func181, Tryz.ntmps181
  dsimp only [pv]
  go_upto_region 1 with (fail)
  generalize (w.alloc (.cells #[.string p.nm, .slice a1 p.ins.length c1, .slice a2 p.vs.length c2, .slice a3 p.os.length c3, .string p.gd, .slice a4 p.ls.length c4] 27)).alloc (.cells #[.slice none 0 0, .slice none 0 0] 48) = W at *
  obtain ⟨k0, k1, k2, k3, k4, k5⟩ := HP.out
  go_wp2_with (fail)
  refine (HI.out _ H0.out).mono ?_
  rintro e w1 ⟨rfl, hb⟩
  have HB1 := Lib.hid hb
  replace k0 := cell_later hb (by exact k0)
  replace k1 := cell_later hb (by exact k1)
  replace k2 := cell_later hb (by exact k2)
  replace k3 := cell_later hb (by exact k3)
  replace k4 := cell_later hb (by exact k4)
  replace k5 := cell_later hb (by exact k5)
  clear hb
  cases s
  · skip
    have HXw := Lib.hid (own_below HX.out HB1.out)
    obtain ⟨⟨m0, m1⟩, ⟨f0, f1⟩, hlt9⟩ := MBox.c HXw.out
    have z0 := MBox.put HXw.out 0 (.slice none 0 0)
    have z1 := MBox.put z0.1 1 (.slice none 0 0)
    have zg := grown_trans z0.2 z1.2
    have YB := Lib.hid (below_of_grown (below_chain HB.out HB1.out) zg (fun k hk => by simp at hk; omega))
    have YC := Lib.hid z1.1
    clear z0 z1 zg
    go_wp2_with (fail)
    generalize (w1.setCell ⟨w.heap.size + 1, 0, none⟩ (.slice none 0 0)).setCell ⟨w.heap.size + 1, 1, none⟩ (.slice none 0 0) = WF at *
    clear m0 m1 f0 f1
    have zc := YC.out
    simp only [List.set_cons_zero, List.set_cons_succ] at zc
    obtain ⟨⟨r0, r1⟩, _⟩ := MBox.c zc
    refine bodyPost_ret (v := .tuple #[.slice none 0 0, .agg #[.slice none 0 0, .slice none 0 0], .int .i64 1]) (by simp [results, Tryz.results181, go_sem, r0, r1]) rfl ⟨_, _, _, _, _, _, _, _, _, _, _, _, rfl, memW_nil YB.out, by omega, by omega⟩
  have HD := Lib.hid (HSN.out (by trivial))
  have HR1 := Lib.hid (HRO.out (by trivial))
  clear HSN HRO HI
  by_cases hlong : 200 < n
  · skip
    have hl2 : (200 : Int) < n := by omega
    have HXw := Lib.hid (own_below HX.out HB1.out)
    obtain ⟨⟨m0, m1⟩, ⟨f0, f1⟩, hlt9⟩ := MBox.c HXw.out
    have z0 := MBox.put HXw.out 0 (.slice none 0 0)
    have z1 := MBox.put z0.1 1 (.slice none 0 0)
    have zg := grown_trans z0.2 z1.2
    have YB := Lib.hid (below_of_grown (below_chain HB.out HB1.out) zg (fun k hk => by simp at hk; omega))
    have YC := Lib.hid z1.1
    clear z0 z1 zg
    go_wp2_with (fail)
    generalize (w1.setCell ⟨w.heap.size + 1, 0, none⟩ (.slice none 0 0)).setCell ⟨w.heap.size + 1, 1, none⟩ (.slice none 0 0) = WF at *
    clear m0 m1 f0 f1
    have zc := YC.out
    simp only [List.set_cons_zero, List.set_cons_succ] at zc
    obtain ⟨⟨r0, r1⟩, _⟩ := MBox.c zc
    refine bodyPost_ret (v := .tuple #[.slice none 0 0, .agg #[.slice none 0 0, .slice none 0 0], .int .i64 3]) (by simp [results, Tryz.results181, go_sem, r0, r1]) rfl ⟨_, _, _, _, _, _, _, _, _, _, _, _, rfl, memW_nil YB.out, by omega, by omega⟩
  have hl2 : ¬ (200 : Int) < n := by omega
  go_wp2_with (fail)
  go_loopw [7] (fun i wr => ∃ k : Nat, k ≤ n ∧ i = .int .i64 k ∧ Hid (∀ (j : Nat) (l : List Int), j < k → L[j]? = some l → l.length = p.ins.length) ∧ Hid (Below W.heap.size W wr)) (fun i _ => n - (intOf i).toNat)
  case atStart => exact ⟨0, Nat.zero_le _, rfl, Lib.hid (by intro j l hj; omega), HB1⟩
  case round =>
    obtain ⟨k, hk, rfl, hall, hb⟩ := hrel
    clear HB1 k0 k1 k2 k3 k4 k5
    obtain ⟨k0, k1, k2, k3, k4, k5⟩ := HP.out.below hb.out
    by_cases hlt : k < n
    · skip
      obtain ⟨l, hl⟩ : ∃ l, L[k]? = some l := ⟨_, List.getElem?_eq_getElem (by have := HN.out; omega)⟩
      obtain ⟨b, off, la, lc, rfl, hbl, g0, hrd⟩ := (HL0.out.below hb.out).at hl
      have hk0 : (0 : Int) ≤ (k : Int) := by omega
      have hk1 : (k : Int) < n := by omega
      have HRD := Lib.hid hrd
      have HLZ := Lib.hid (HLL.out l (List.mem_of_getElem? hl))
      have HLK := Lib.hid hl
      have HB2 := hb
      clear hl hrd hb
      go_upto_region 8 with (fail)
      refine wp_region_held_drew (S := (fun w' => w'.cell? ⟨w.heap.size, 1, none⟩ = some (.slice a1 p.ins.length c1) ∧ w'.cell? ⟨b, off + k, none⟩ = some (.slice la l.length lc))) (by kernel_rfl) ?_ (fun hHeld => ?_)
      · exact ⟨k1, g0⟩
      refine rg_take (v := ?_) 0 rfl (by kernel_rfl) (by kernel_rfl) (by kernel_rfl) (fun _ _ _ h => h) (by kernel_rfl) ?_ (by assumption) ?_
      rotate_left
      · (intro w' hSw; (try dsimp only at hSw); go_simp; first | done | with_reducible rfl)
      simp only [Act.put, List.setIfInBounds_toArray, List.set_cons_zero, List.set_cons_succ]
      refine rg_take (v := ?_) 1 rfl (by kernel_rfl) (by kernel_rfl) (by kernel_rfl) (fun _ _ _ h => h) (by kernel_rfl) ?_ (by assumption) ?_
      rotate_left
      · (intro w' hSw; (try dsimp only at hSw); go_simp; first | done | with_reducible rfl)
      simp only [Act.put, List.setIfInBounds_toArray, List.set_cons_zero, List.set_cons_succ]
      refine rg_take (v := ?_) 2 rfl (by kernel_rfl) (by kernel_rfl) (by kernel_rfl) (fun _ _ _ h => h) (by kernel_rfl) ?_ (by assumption) ?_
      rotate_left
      · (intro w' hSw; (try dsimp only at hSw); go_simp; first | done | with_reducible rfl)
      simp only [Act.put, List.setIfInBounds_toArray, List.set_cons_zero, List.set_cons_succ]
      refine rg_take (v := ?_) 3 rfl (by kernel_rfl) (by kernel_rfl) (by kernel_rfl) (fun _ _ _ h => h) (by kernel_rfl) ?_ (by assumption) ?_
      rotate_left
      · (intro w' hSw; (try dsimp only at hSw); go_simp; first | done | with_reducible rfl)
      simp only [Act.put, List.setIfInBounds_toArray, List.set_cons_zero, List.set_cons_succ]
      refine rg_take (v := ?_) 4 rfl (by kernel_rfl) (by kernel_rfl) (by kernel_rfl) (fun _ _ _ h => h) (by kernel_rfl) ?_ (by assumption) ?_
      rotate_left
      · (intro w' hSw; (try dsimp only at hSw); go_simp; first | done | with_reducible rfl)
      simp only [Act.put, List.setIfInBounds_toArray, List.set_cons_zero, List.set_cons_succ]
      refine rg_take (v := ?_) 5 rfl (by kernel_rfl) (by kernel_rfl) (by kernel_rfl) (fun _ _ _ h => h) (by kernel_rfl) ?_ (by assumption) ?_
      rotate_left
      · (intro w' hSw; (try dsimp only at hSw); go_simp; first | done | with_reducible rfl)
      simp only [Act.put, List.setIfInBounds_toArray, List.set_cons_zero, List.set_cons_succ]
      refine rg_take (v := ?_) 6 rfl (by kernel_rfl) (by kernel_rfl) (by kernel_rfl) (fun _ _ _ h => h) (by kernel_rfl) ?_ (by assumption) ?_
      rotate_left
      · (intro w' hSw; (try dsimp only at hSw); go_simp; first | done | with_reducible rfl)
      simp only [Act.put, List.setIfInBounds_toArray, List.set_cons_zero, List.set_cons_succ]
      refine rg_run 7 rfl (by kernel_rfl) (by kernel_rfl) (fun K hK => ?_)
      go_simp
      refine (c_l22BitsW la lc l.length l (p.ins.length : Nat) _ rfl HLZ.out (HRD.out.below (Below.refl _ _).drew)).mono ?_
      rintro e w2' ⟨rfl, rfl⟩
      have hb : Below wr.heap.size wr wr.drew := (Below.refl _ _).drew
      generalize wr.drew = w2 at *
      have HB3 := Lib.hid (below_chain HB2.out hb)
      replace k1 := cell_later hb (by exact k1)
      replace g0 := cell_later hb (by exact g0)
      clear hb HB2
      have HBT : Hid (bitsB l (p.ins.length : Nat) = true → l.length = p.ins.length) := Lib.hid (fun e => by unfold bitsB at e; rw [Bool.and_eq_true, decide_eq_true_eq] at e; omega)
      generalize bitsB l (p.ins.length : Nat) = u at *
      go_wp2
      clear hHeld
      refine hK.out _ _ (by exact ⟨k1, g0⟩) (fun hHeld => ?_)
      clear hK K
      try simp only [Act.put, List.setIfInBounds_toArray, List.set_cons_zero, List.set_cons_succ]
      refine rg_take (v := ?_) 8 rfl (by kernel_rfl) (by kernel_rfl) (by kernel_rfl) (fun _ _ _ h => h) (by kernel_rfl) ?_ (by assumption) ?_
      rotate_left
      · (intro w' hSw; (try dsimp only at hSw); go_simp; first | done | with_reducible rfl)
      simp only [Act.put, List.setIfInBounds_toArray, List.set_cons_zero, List.set_cons_succ]
      refine wpAnyH_done (by kernel_rfl) ?_ _
      clear hHeld
      cases u
      · skip
        have HXw := Lib.hid (own_below HX.out HB3.out)
        obtain ⟨⟨m0, m1⟩, ⟨f0, f1⟩, hlt9⟩ := MBox.c HXw.out
        have z0 := MBox.put HXw.out 0 (.slice none 0 0)
        have z1 := MBox.put z0.1 1 (.slice none 0 0)
        have zg := grown_trans z0.2 z1.2
        have YB := Lib.hid (below_of_grown (below_chain HB.out HB3.out) zg (fun k hk => by simp at hk; omega))
        have YC := Lib.hid z1.1
        clear z0 z1 zg
        go_wp2_with (fail)
        generalize (w2.setCell ⟨w.heap.size + 1, 0, none⟩ (.slice none 0 0)).setCell ⟨w.heap.size + 1, 1, none⟩ (.slice none 0 0) = WF at *
        clear m0 m1 f0 f1
        have zc := YC.out
        simp only [List.set_cons_zero, List.set_cons_succ] at zc
        obtain ⟨⟨r0, r1⟩, _⟩ := MBox.c zc
        refine bodyPost_ret (v := .tuple #[.slice none 0 0, .agg #[.slice none 0 0, .slice none 0 0], .int .i64 2]) (by simp [results, Tryz.results181, go_sem, r0, r1]) rfl ⟨_, _, _, _, _, _, _, _, _, _, _, _, rfl, memW_nil YB.out, by omega, by omega⟩
      · go_wp2_with (fail)
        go_roundw
        case rel => exact ⟨k + 1, by omega, by go_num, Lib.hid (fun j l2 hj hl2 => by
          rcases Nat.lt_or_ge j k with h | h
          · exact hall.out j l2 h hl2
          · obtain rfl : j = k := by omega
            rw [HLK.out] at hl2
            simp only [Option.some.injEq] at hl2
            subst hl2
            exact HBT.out (by trivial)), HB3⟩
        case measure => simp [intOf]; omega
    · skip
      obtain rfl : k = n := by omega
      have HALL := hall
      have HB2 := hb
      clear hall hb hlt
      have BE := below_alloc (Below.refl wr.heap.size wr) (.cells #[] 29)
      have HO2 := Lib.hid (lsOwn_start wr W.heap.size HB2.out.size)
      have HB3 := Lib.hid (below_chain HB2.out BE)
      clear BE HB2
      go_upto_region 11 with (fail)
      generalize wr.alloc (.cells #[] 29) = w2 at *
      generalize wr.heap.size = og at *
      clear k0 k1 k2 k3 k4 k5
      obtain ⟨k0, k1, k2, k3, k4, k5⟩ := HP.out.below HB3.out
      have HFST := Lib.hid (fun w h => c_l16First p a1 a2 a3 a4 c1 c2 c3 c4 w HD.out.b h)
      have hnv : p.vs.length ≤ 20 := HD.out.b.v
      have hnb : (blk p).length ≤ 1600 := blk_len HD.out.b
      have HSCAN := Lib.hid (fun (x1 x2 I : Option Addr) (d1 d2 ci : Nat) (vs is : List Int) (bs : List Bs) (w00 w : World) h hi hI hx => c_l16Scan p a1 a2 a3 a4 x1 x2 I c1 c2 c3 c4 d1 d2 ci p.vs.length (blk p).length p.ins.length vs is bs w00 w HS.out HD.out HR1.out h rfl rfl hi rfl hI hx)
      generalize (blk p).length = nb at *
      go_wp2_with (fail)
      refine (HFST.out _ (H0.out.below HB3.out)).mono ?_
      rintro e w3 ⟨x1, x2, d1, d2, rfl, hm, hb⟩
      have e1 : (zMem p.vs.length nb).vs.length = p.vs.length := by simp [zMem]
      have e2 : (zMem p.vs.length nb).bs.length = nb := by simp [zMem]
      have hv := hm.v
      have hbb := hm.b
      rw [e1] at hv
      rw [e2] at hbb
      dsimp only [mv]
      rw [e1, e2]
      have HM3 : Hid (MemW W w3 x1 x2 d1 d2 p.vs.length nb (zMem p.vs.length nb).vs (zMem p.vs.length nb).bs) := Lib.hid ⟨own_mono hv HB3.out.size, own_mono hbb HB3.out.size, below_chain HB3.out hb⟩
      have HO3 := Lib.hid (HO2.out.below hb)
      clear hv hbb hm hb HO2 HB3 e1 e2 k0 k1 k2 k3 k4 k5
      generalize (zMem p.vs.length nb).vs = vs0 at *
      generalize (zMem p.vs.length nb).bs = bs0 at *
      have BK := below_alloc (Below.refl w3.heap.size w3) (.cells #[.slice x1 p.vs.length d1, .slice x2 nb d2] 48)
      have HK4 : Hid (MBox (w3.alloc (.cells #[.slice x1 p.vs.length d1, .slice x2 nb d2] 48)) W.heap.size w3.heap.size [.slice x1 p.vs.length d1, .slice x2 nb d2]) := Lib.hid (own_box w3 W.heap.size 48 [.slice x1 p.vs.length d1, .slice x2 nb d2] 2 rfl HM3.out.w.size)
      have HM4 := Lib.hid (HM3.out.below BK)
      have HO4 := Lib.hid (HO3.out.below BK)
      clear BK HM3 HO3
      go_upto_region 12 with (fail)
      generalize w3.alloc (.cells #[.slice x1 p.vs.length d1, .slice x2 nb d2] 48) = w4 at *
      generalize w3.heap.size = tb at *
      go_wp2_with (fail)
      go_loopw [8, 10, 11, 12] (fun o i _ _ wr => ∃ (j : Nat) (x1 x2 O : Option Addr) (d1 d2 oc : Nat) (vs : List Int) (bs : List Bs) (Ls : List (List Int)), j ≤ k ∧ Ls.length = j ∧ i = .int .i64 j ∧ o = .slice O j oc ∧ Hid (MemW W wr x1 x2 d1 d2 p.vs.length nb vs bs) ∧ Hid (MBox wr W.heap.size tb [.slice x1 p.vs.length d1, .slice x2 nb d2]) ∧ Hid (LsOwn wr W.heap.size (.slice O j oc) Ls)) (fun _ i _ _ _ => k - (intOf i).toNat)
      case atStart => exact ⟨0, x1, x2, _, d1, d2, _, vs0, bs0, [], Nat.zero_le _, rfl, rfl, rfl, HM4, HK4, HO4⟩
      case round =>
        obtain ⟨j, x1, x2, O, d1, d2, oc, vs, bs, Ls, hj, hlj, rfl, rfl, hm, hk9, ho⟩ := hrel
        clear HM4 HK4 HO4
        obtain ⟨k0, k1, k2, k3, k4, k5⟩ := HP.out.below hm.out.w
        obtain ⟨q0, q1⟩ := hk9.out.c0
        have HM := hm
        have HK := hk9
        have HO := ho
        clear hm hk9 ho
        by_cases hlt : j < k
        · skip
          obtain ⟨l, hl⟩ : ∃ l, L[j]? = some l := ⟨_, List.getElem?_eq_getElem (by have := HN.out; omega)⟩
          obtain ⟨b, off, la, lc, rfl, hbl, g0, hrd⟩ := (HL0.out.below HM.out.w).at hl
          have hj0 : (0 : Int) ≤ (j : Int) := by omega
          have hj1 : (j : Int) < k := by omega
          have HLI : Hid (l.length = p.ins.length) := Lib.hid (HALL.out j l hlt hl)
          rw [HLI.out] at g0
          have HRD := Lib.hid hrd
          clear hl hrd
          go_upto_region 15 with (fail)
          refine wp_region_heldE 12 (S := (fun w' => (((w'.cell? ⟨w.heap.size, 0, none⟩ = some (.string p.nm) ∧ w'.cell? ⟨w.heap.size, 1, none⟩ = some (.slice a1 p.ins.length c1)) ∧ (w'.cell? ⟨w.heap.size, 2, none⟩ = some (.slice a2 p.vs.length c2) ∧ w'.cell? ⟨w.heap.size, 3, none⟩ = some (.slice a3 p.os.length c3))) ∧ (w'.cell? ⟨w.heap.size, 4, none⟩ = some (.string p.gd) ∧ w'.cell? ⟨w.heap.size, 5, none⟩ = some (.slice a4 p.ls.length c4)) ∧ (w'.cell? ⟨tb, 0, none⟩ = some (.slice x1 p.vs.length d1) ∧ w'.cell? ⟨tb, 1, none⟩ = some (.slice x2 nb d2))) ∧ w'.cell? ⟨b, off + j, none⟩ = some (.slice la p.ins.length lc))) (by kernel_rfl) ?_ (fun hHeld => ?_)
          · exact ⟨⟨⟨⟨k0, k1⟩, ⟨k2, k3⟩⟩, ⟨k4, k5⟩, ⟨q0, q1⟩⟩, g0⟩
          refine rgE_take (v := ?_) 0 14 rfl (by kernel_rfl) (by kernel_rfl) (by kernel_rfl) (by kernel_rfl) (by kernel_rfl) (fun _ _ _ h => h) (by kernel_rfl) ?_ (by assumption) ?_
          rotate_left
          · (intro w' hSw; (try dsimp only at hSw); go_simp; first | done | with_reducible rfl)
          simp only [Act.put, List.setIfInBounds_toArray, List.set_cons_zero, List.set_cons_succ]
          refine rgE_take (v := ?_) 1 14 rfl (by kernel_rfl) (by kernel_rfl) (by kernel_rfl) (by kernel_rfl) (by kernel_rfl) (fun _ _ _ h => h) (by kernel_rfl) ?_ (by assumption) ?_
          rotate_left
          · (intro w' hSw; (try dsimp only at hSw); go_simp; first | done | with_reducible rfl)
          simp only [Act.put, List.setIfInBounds_toArray, List.set_cons_zero, List.set_cons_succ]
          refine rgE_take (v := ?_) 2 14 rfl (by kernel_rfl) (by kernel_rfl) (by kernel_rfl) (by kernel_rfl) (by kernel_rfl) (fun _ _ _ h => h) (by kernel_rfl) ?_ (by assumption) ?_
          rotate_left
          · (intro w' hSw; (try dsimp only at hSw); go_simp; first | done | with_reducible rfl)
          simp only [Act.put, List.setIfInBounds_toArray, List.set_cons_zero, List.set_cons_succ]
          refine rgE_take (v := ?_) 3 14 rfl (by kernel_rfl) (by kernel_rfl) (by kernel_rfl) (by kernel_rfl) (by kernel_rfl) (fun _ _ _ h => h) (by kernel_rfl) ?_ (by assumption) ?_
          rotate_left
          · (intro w' hSw; (try dsimp only at hSw); go_simp; first | done | with_reducible rfl)
          simp only [Act.put, List.setIfInBounds_toArray, List.set_cons_zero, List.set_cons_succ]
          refine rgE_take (v := ?_) 4 14 rfl (by kernel_rfl) (by kernel_rfl) (by kernel_rfl) (by kernel_rfl) (by kernel_rfl) (fun _ _ _ h => h) (by kernel_rfl) ?_ (by assumption) ?_
          rotate_left
          · (intro w' hSw; (try dsimp only at hSw); go_simp; first | done | with_reducible rfl)
          simp only [Act.put, List.setIfInBounds_toArray, List.set_cons_zero, List.set_cons_succ]
          refine rgE_take (v := ?_) 5 14 rfl (by kernel_rfl) (by kernel_rfl) (by kernel_rfl) (by kernel_rfl) (by kernel_rfl) (fun _ _ _ h => h) (by kernel_rfl) ?_ (by assumption) ?_
          rotate_left
          · (intro w' hSw; (try dsimp only at hSw); go_simp; first | done | with_reducible rfl)
          simp only [Act.put, List.setIfInBounds_toArray, List.set_cons_zero, List.set_cons_succ]
          refine rgE_two 6 10 rfl rfl (by kernel_rfl) (by kernel_rfl) (by kernel_rfl) (by decide) (by decide) (fun K hK => ?_) (fun K hK => ?_)
          · skip
            go_simp
            have hmd := HM.out.below (Below.refl _ _).drew
            refine (HSCAN.out x1 x2 la d1 d2 lc vs l bs W _ (H0.out.below hmd.w) HLI.out.symm (HRD.out.below (Below.refl _ _).drew) hmd).mono ?_
            rintro e w5 ⟨VO, von, voc, vos, y1, y2, t1, t2, vs5, bs5, rfl, hv5, hm5⟩
            have hbs : Below wr.heap.size wr w5 := below_chain (Below.refl _ _).drew hm5.w
            have HM5 := Lib.hid (hm5.mono hmd.w)
            have HV5 := Lib.hid (own_mono hv5 (base' := W.heap.size) HM.out.w.size)
            have HK5 : Hid (MBox w5 _ _ _) := Lib.hid (own_below HK.out hbs)
            have HO5 := Lib.hid (HO.out.below hbs)
            replace k0 := cell_later hbs (by exact k0)
            replace k1 := cell_later hbs (by exact k1)
            replace k2 := cell_later hbs (by exact k2)
            replace k3 := cell_later hbs (by exact k3)
            replace k4 := cell_later hbs (by exact k4)
            replace k5 := cell_later hbs (by exact k5)
            replace q0 := cell_later hbs (by exact q0)
            replace q1 := cell_later hbs (by exact q1)
            replace g0 := cell_later hbs (by exact g0)
            clear hm5 hv5 hmd hbs HM HK HO
            go_wp2
            clear hHeld
            refine hK.out _ _ (.inr (by exact ⟨⟨⟨⟨k0, k1⟩, ⟨k2, k3⟩⟩, ⟨k4, k5⟩, ⟨q0, q1⟩⟩, g0⟩)) (fun hHeld => ?_)
            clear hK K
            try simp only [Act.put, List.setIfInBounds_toArray, List.set_cons_zero, List.set_cons_succ]
            refine rgE_take (v := ?_) 7 14 rfl (by kernel_rfl) (by kernel_rfl) (by kernel_rfl) (by kernel_rfl) (by kernel_rfl) (fun _ _ _ h => h) (by kernel_rfl) ?_ (by assumption) ?_
            rotate_left
            · (intro w' hSw; (try dsimp only at hSw); go_simp; first | done | with_reducible rfl)
            simp only [Act.put, List.setIfInBounds_toArray, List.set_cons_zero, List.set_cons_succ]
            refine rgE_take (v := ?_) 8 14 rfl (by kernel_rfl) (by kernel_rfl) (by kernel_rfl) (by kernel_rfl) (by kernel_rfl) (fun _ _ _ h => h) (by kernel_rfl) ?_ (by assumption) ?_
            rotate_left
            · (intro w' hSw; (try dsimp only at hSw); go_simp; first | done | with_reducible rfl)
            simp only [Act.put, List.setIfInBounds_toArray, List.set_cons_zero, List.set_cons_succ]
            refine rgE_take (v := ?_) 9 14 rfl (by kernel_rfl) (by kernel_rfl) (by kernel_rfl) (by kernel_rfl) (by kernel_rfl) (fun _ _ _ h => h) (by kernel_rfl) ?_ (by assumption) ?_
            rotate_left
            · (intro w' hSw; (try dsimp only at hSw); go_simp; first | done | with_reducible rfl)
            simp only [Act.put, List.setIfInBounds_toArray, List.set_cons_zero, List.set_cons_succ]
            refine rgE_run 10 rfl (by kernel_rfl) (by kernel_rfl) (by decide) (fun K hK => ?_)
            go_simp
            have BN := below_alloc (Below.refl w5.heap.size w5) (.cells #[.slice none 0 0, .slice none 0 0] 48)
            replace k0 := cell_later BN (by exact k0)
            replace k1 := cell_later BN (by exact k1)
            replace k2 := cell_later BN (by exact k2)
            replace k3 := cell_later BN (by exact k3)
            replace k4 := cell_later BN (by exact k4)
            replace k5 := cell_later BN (by exact k5)
            replace q0 := cell_later BN (by exact q0)
            replace q1 := cell_later BN (by exact q1)
            replace g0 := cell_later BN (by exact g0)
            clear BN
            clear hHeld
            refine hK.out _ _ (.inr (by exact ⟨⟨⟨⟨k0, k1⟩, ⟨k2, k3⟩⟩, ⟨k4, k5⟩, ⟨q0, q1⟩⟩, g0⟩)) (fun hHeld => ?_)
            clear hK K
            try simp only [Act.put, List.setIfInBounds_toArray, List.set_cons_zero, List.set_cons_succ]
            refine rgE_take (v := ?_) 11 14 rfl (by kernel_rfl) (by kernel_rfl) (by kernel_rfl) (by kernel_rfl) (by kernel_rfl) (fun _ _ _ h => h) (by kernel_rfl) ?_ (by assumption) ?_
            rotate_left
            · (intro w' hSw; (try dsimp only at hSw); go_simp; first | done | with_reducible rfl)
            simp only [Act.put, List.setIfInBounds_toArray, List.set_cons_zero, List.set_cons_succ]
            refine rgE_last rfl (by kernel_rfl) (by kernel_rfl) (by kernel_rfl) (fun K hK => ?_)
            go_simp
            clear hHeld
            refine hK.out _ _ ?_
            clear hK K
            try simp only [Act.put, List.setIfInBounds_toArray, List.set_cons_zero, List.set_cons_succ]
            have BN := below_alloc (Below.refl w5.heap.size w5) (.cells #[.slice y1 p.vs.length t1, .slice y2 nb t2] 48)
            have HM2 := Lib.hid (HM5.out.below BN)
            have HK2 : Hid (MBox _ _ _ _) := Lib.hid (own_below HK5.out BN)
            have HO2 := Lib.hid (HO5.out.below BN)
            have HV2 := Lib.hid (own_below HV5.out BN)
            have HN2 : Hid (MBox (w5.alloc (.cells #[.slice y1 p.vs.length t1, .slice y2 nb t2] 48)) W.heap.size w5.heap.size [.slice y1 p.vs.length t1, .slice y2 nb t2]) := Lib.hid (own_box w5 W.heap.size 48 [.slice y1 p.vs.length t1, .slice y2 nb t2] 2 rfl HM5.out.w.size)
            clear BN HM5 HK5 HO5 HV5 k0 k1 k2 k3 k4 k5 q0 q1 g0
            go_upto_region 16 with (fail)
            generalize w5.alloc (.cells #[.slice y1 p.vs.length t1, .slice y2 nb t2] 48) = w6 at *
            generalize w5.heap.size = nk at *
            obtain ⟨⟨n0, n1⟩, _, _⟩ := MBox.c HN2.out
            have hfb := HM2.out.w.size
            have BV := below_alloc (Below.refl w6.heap.size w6) (.cells #[.slice VO von voc] 29)
            have HMv := Lib.hid (HM2.out.below BV)
            have HKv : Hid (MBox _ _ _ _) := Lib.hid (own_below HK2.out BV)
            have HOv := Lib.hid (HO2.out.below BV)
            have HNv : Hid (MBox _ _ _ _) := Lib.hid (own_below HN2.out BV)
            have HVv := Lib.hid (own_below HV2.out BV)
            have hzv := Nat.le_trans hfb BV.size
            clear BV HM2 HK2 HO2 HN2 HV2
            obtain rfl : von = vos.length := by have := HVv.out.1; rw [ints_length] at this; omega
            go_upto_region 17 with (first
              | (at_builtin
                 refine wpList_push_row _ rfl (.tmp 56) (.tmp 58) rfl W.heap.size _ Ls ⟨vos, VO, voc⟩ w6.heap.size 1 rfl HOv.out rfl (by go_simp; rfl) HVv.out (by omega) hzv ?_
                 intro v7 w7 hown hgrow
                 have HM7 : Hid (MemW W w7 _ _ _ _ _ _ _ _) := Lib.hid ⟨HOv.out.keep HMv.out.v (by decide) hgrow, HOv.out.keep HMv.out.b (by decide) hgrow, below_of_grown HMv.out.w hgrow (fun q hq => (HOv.out.ge q hq).1)⟩
                 have HK7 : Hid (MBox w7 _ _ _) := Lib.hid (HOv.out.keep HKv.out (by decide) hgrow)
                 have HN7 : Hid (MBox w7 _ _ _) := Lib.hid (HOv.out.keep HNv.out (by decide) hgrow)
                 obtain ⟨O7, oc7, e7⟩ := hown.form
                 subst e7
                 have HO7 := Lib.hid hown
                 clear hown hgrow HMv HKv HOv HNv HVv n0 n1)
              )
            rw [show (Ls ++ [vos]).length = j + 1 by simp [hlj]] at HO7
            obtain ⟨⟨n0, n1⟩, _, _⟩ := MBox.c HN7.out
            obtain ⟨⟨m0, m1⟩, ⟨f0, f1⟩, _⟩ := MBox.c HK7.out
            have z0 := MBox.put HK7.out 0 (.slice y1 p.vs.length t1)
            have z1 := MBox.put z0.1 1 (.slice y2 nb t2)
            have zg := grown_trans z0.2 z1.2
            have HM8 : Hid (MemW W _ _ _ _ _ _ _ _ _) := Lib.hid ⟨own_keep HM7.out.v HK7.out (by decide) zg, own_keep HM7.out.b HK7.out (by decide) zg, below_of_grown HM7.out.w zg (fun k hk => by simp at hk; have := (own_ge HK7.out).1; omega)⟩
            have HO8 := Lib.hid (HO7.out.box HK7.out zg)
            have HK8 := Lib.hid z1.1
            simp only [List.set_cons_zero, List.set_cons_succ] at HK8
            clear z0 z1 zg HM7 HK7 HO7 HN7
            go_upto_region 14 with (fail)
            generalize (w7.setCell ⟨tb, 0, none⟩ (.slice y1 p.vs.length t1)).setCell ⟨tb, 1, none⟩ (.slice y2 nb t2) = w8 at *
            clear n0 n1 m0 m1 f0 f1
            go_wp2_with (fail)
            go_roundw
            case rel => exact ⟨j + 1, y1, y2, O7, t1, t2, oc7, _, _, Ls ++ [vos], by omega, by simp [hlj], by go_num, rfl, HM8, HK8, HO8⟩
            case measure => simp [intOf]; omega
          · skip
            have BN := below_alloc (Below.refl wr.heap.size wr) (.cells #[.slice none 0 0, .slice none 0 0] 48)
            have HNa : Hid (MBox (wr.alloc (.cells #[.slice none 0 0, .slice none 0 0] 48)) W.heap.size wr.heap.size [.slice none 0 0, .slice none 0 0]) := Lib.hid (own_box wr W.heap.size 48 [.slice none 0 0, .slice none 0 0] 2 rfl HM.out.w.size)
            have HMa := Lib.hid (HM.out.below BN)
            have HKa : Hid (MBox _ _ _ _) := Lib.hid (own_below HK.out BN)
            have HOa := Lib.hid (HO.out.below BN)
            have HRDa := Lib.hid (HRD.out.below BN)
            have htl := (own_ge HK.out).2
            replace k0 := cell_later BN (by exact k0)
            replace k1 := cell_later BN (by exact k1)
            replace k2 := cell_later BN (by exact k2)
            replace k3 := cell_later BN (by exact k3)
            replace k4 := cell_later BN (by exact k4)
            replace k5 := cell_later BN (by exact k5)
            replace q0 := cell_later BN (by exact q0)
            replace q1 := cell_later BN (by exact q1)
            replace g0 := cell_later BN (by exact g0)
            clear BN HM HK HO
            go_simp
            clear hHeld
            refine hK.out _ _ (.inr (by exact ⟨⟨⟨⟨k0, k1⟩, ⟨k2, k3⟩⟩, ⟨k4, k5⟩, ⟨q0, q1⟩⟩, g0⟩)) (fun hHeld => ?_)
            clear hK K
            try simp only [Act.put, List.setIfInBounds_toArray, List.set_cons_zero, List.set_cons_succ]
            refine rgE_run 6 rfl (by kernel_rfl) (by kernel_rfl) (by decide) (fun K hK => ?_)
            go_simp
            have hmd := HMa.out.below (Below.refl _ _).drew
            refine (HSCAN.out x1 x2 la d1 d2 lc vs l bs W _ (H0.out.below hmd.w) HLI.out.symm (HRDa.out.below (Below.refl _ _).drew) hmd).mono ?_
            rintro e w5 ⟨VO, von, voc, vos, y1, y2, t1, t2, vs5, bs5, rfl, hv5, hm5⟩
            have hbs := below_chain (Below.refl (wr.alloc (.cells #[.slice none 0 0, .slice none 0 0] 48)).heap.size (wr.alloc (.cells #[.slice none 0 0, .slice none 0 0] 48))).drew hm5.w
            have HM5 := Lib.hid (hm5.mono hmd.w)
            have HV5 := Lib.hid (own_mono hv5 (base' := W.heap.size) HMa.out.w.size)
            have HK5 : Hid (MBox w5 _ _ _) := Lib.hid (own_below HKa.out hbs)
            have HN5 : Hid (MBox w5 _ _ _) := Lib.hid (own_below HNa.out hbs)
            have HO5 := Lib.hid (HOa.out.below hbs)
            replace k0 := cell_later hbs (by exact k0)
            replace k1 := cell_later hbs (by exact k1)
            replace k2 := cell_later hbs (by exact k2)
            replace k3 := cell_later hbs (by exact k3)
            replace k4 := cell_later hbs (by exact k4)
            replace k5 := cell_later hbs (by exact k5)
            replace q0 := cell_later hbs (by exact q0)
            replace q1 := cell_later hbs (by exact q1)
            replace g0 := cell_later hbs (by exact g0)
            clear hm5 hv5 hmd hbs HMa HKa HOa HNa HRDa
            go_wp2
            clear hHeld
            refine hK.out _ _ (.inr (by exact ⟨⟨⟨⟨k0, k1⟩, ⟨k2, k3⟩⟩, ⟨k4, k5⟩, ⟨q0, q1⟩⟩, g0⟩)) (fun hHeld => ?_)
            clear hK K
            try simp only [Act.put, List.setIfInBounds_toArray, List.set_cons_zero, List.set_cons_succ]
            refine rgE_take (v := ?_) 7 14 rfl (by kernel_rfl) (by kernel_rfl) (by kernel_rfl) (by kernel_rfl) (by kernel_rfl) (fun _ _ _ h => h) (by kernel_rfl) ?_ (by assumption) ?_
            rotate_left
            · (intro w' hSw; (try dsimp only at hSw); go_simp; first | done | with_reducible rfl)
            simp only [Act.put, List.setIfInBounds_toArray, List.set_cons_zero, List.set_cons_succ]
            refine rgE_take (v := ?_) 8 14 rfl (by kernel_rfl) (by kernel_rfl) (by kernel_rfl) (by kernel_rfl) (by kernel_rfl) (fun _ _ _ h => h) (by kernel_rfl) ?_ (by assumption) ?_
            rotate_left
            · (intro w' hSw; (try dsimp only at hSw); go_simp; first | done | with_reducible rfl)
            simp only [Act.put, List.setIfInBounds_toArray, List.set_cons_zero, List.set_cons_succ]
            refine rgE_take (v := ?_) 9 14 rfl (by kernel_rfl) (by kernel_rfl) (by kernel_rfl) (by kernel_rfl) (by kernel_rfl) (fun _ _ _ h => h) (by kernel_rfl) ?_ (by assumption) ?_
            rotate_left
            · (intro w' hSw; (try dsimp only at hSw); go_simp; first | done | with_reducible rfl)
            simp only [Act.put, List.setIfInBounds_toArray, List.set_cons_zero, List.set_cons_succ]
            refine rgE_take (v := ?_) 11 14 rfl (by kernel_rfl) (by kernel_rfl) (by kernel_rfl) (by kernel_rfl) (by kernel_rfl) (fun _ _ _ h => h) (by kernel_rfl) ?_ (by assumption) ?_
            rotate_left
            · (intro w' hSw; (try dsimp only at hSw); go_simp; first | done | with_reducible rfl)
            simp only [Act.put, List.setIfInBounds_toArray, List.set_cons_zero, List.set_cons_succ]
            obtain ⟨⟨m0, m1⟩, ⟨f0, f1⟩, _⟩ := MBox.c HN5.out
            have z0 := MBox.put HN5.out 0 (.slice y1 p.vs.length t1)
            have z1 := MBox.put z0.1 1 (.slice y2 nb t2)
            have zg := grown_trans z0.2 z1.2
            have HM2 : Hid (MemW W _ _ _ _ _ _ _ _ _) := Lib.hid ⟨own_keep HM5.out.v HN5.out (by decide) zg, own_keep HM5.out.b HN5.out (by decide) zg, below_of_grown HM5.out.w zg (fun k hk => by simp at hk; have := (own_ge HN5.out).1; omega)⟩
            have HO2 := Lib.hid (HO5.out.box HN5.out zg)
            have HV2 := Lib.hid (own_keep HV5.out HN5.out (by decide) zg)
            have HK2 : Hid (MBox _ _ _ _) := Lib.hid (MBox.keep HK5.out zg (by omega))
            have HN2 := Lib.hid z1.1
            simp only [List.set_cons_zero, List.set_cons_succ] at HN2
            clear z0 z1 zg HM5 HK5 HO5 HV5 HN5
            refine rgE_last rfl (by kernel_rfl) (by kernel_rfl) (by kernel_rfl) (fun K hK => ?_)
            go_simp
            clear hHeld
            refine hK.out _ _ ?_
            clear hK K
            try simp only [Act.put, List.setIfInBounds_toArray, List.set_cons_zero, List.set_cons_succ]
            go_upto_region 16 with (fail)
            generalize (w5.setCell ⟨wr.heap.size, 0, none⟩ (.slice y1 p.vs.length t1)).setCell ⟨wr.heap.size, 1, none⟩ (.slice y2 nb t2) = w6 at *
            clear m0 m1 f0 f1 k0 k1 k2 k3 k4 k5 q0 q1 g0
            generalize wr.heap.size = nk at *
            obtain ⟨⟨n0, n1⟩, _, _⟩ := MBox.c HN2.out
            have hfb := HM2.out.w.size
            have BV := below_alloc (Below.refl w6.heap.size w6) (.cells #[.slice VO von voc] 29)
            have HMv := Lib.hid (HM2.out.below BV)
            have HKv : Hid (MBox _ _ _ _) := Lib.hid (own_below HK2.out BV)
            have HOv := Lib.hid (HO2.out.below BV)
            have HNv : Hid (MBox _ _ _ _) := Lib.hid (own_below HN2.out BV)
            have HVv := Lib.hid (own_below HV2.out BV)
            have hzv := Nat.le_trans hfb BV.size
            clear BV HM2 HK2 HO2 HN2 HV2
            obtain rfl : von = vos.length := by have := HVv.out.1; rw [ints_length] at this; omega
            go_upto_region 17 with (first
              | (at_builtin
                 refine wpList_push_row _ rfl (.tmp 56) (.tmp 58) rfl W.heap.size _ Ls ⟨vos, VO, voc⟩ w6.heap.size 1 rfl HOv.out rfl (by go_simp; rfl) HVv.out (by omega) hzv ?_
                 intro v7 w7 hown hgrow
                 have HM7 : Hid (MemW W w7 _ _ _ _ _ _ _ _) := Lib.hid ⟨HOv.out.keep HMv.out.v (by decide) hgrow, HOv.out.keep HMv.out.b (by decide) hgrow, below_of_grown HMv.out.w hgrow (fun q hq => (HOv.out.ge q hq).1)⟩
                 have HK7 : Hid (MBox w7 _ _ _) := Lib.hid (HOv.out.keep HKv.out (by decide) hgrow)
                 have HN7 : Hid (MBox w7 _ _ _) := Lib.hid (HOv.out.keep HNv.out (by decide) hgrow)
                 obtain ⟨O7, oc7, e7⟩ := hown.form
                 subst e7
                 have HO7 := Lib.hid hown
                 clear hown hgrow HMv HKv HOv HNv HVv n0 n1)
              )
            rw [show (Ls ++ [vos]).length = j + 1 by simp [hlj]] at HO7
            obtain ⟨⟨n0, n1⟩, _, _⟩ := MBox.c HN7.out
            obtain ⟨⟨m0, m1⟩, ⟨f0, f1⟩, _⟩ := MBox.c HK7.out
            have z0 := MBox.put HK7.out 0 (.slice y1 p.vs.length t1)
            have z1 := MBox.put z0.1 1 (.slice y2 nb t2)
            have zg := grown_trans z0.2 z1.2
            have HM8 : Hid (MemW W _ _ _ _ _ _ _ _ _) := Lib.hid ⟨own_keep HM7.out.v HK7.out (by decide) zg, own_keep HM7.out.b HK7.out (by decide) zg, below_of_grown HM7.out.w zg (fun k hk => by simp at hk; have := (own_ge HK7.out).1; omega)⟩
            have HO8 := Lib.hid (HO7.out.box HK7.out zg)
            have HK8 := Lib.hid z1.1
            simp only [List.set_cons_zero, List.set_cons_succ] at HK8
            clear z0 z1 zg HM7 HK7 HO7 HN7
            go_upto_region 14 with (fail)
            generalize (w7.setCell ⟨tb, 0, none⟩ (.slice y1 p.vs.length t1)).setCell ⟨tb, 1, none⟩ (.slice y2 nb t2) = w8 at *
            clear n0 n1 m0 m1 f0 f1
            go_wp2_with (fail)
            go_roundw
            case rel => exact ⟨j + 1, y1, y2, O7, t1, t2, oc7, _, _, Ls ++ [vos], by omega, by simp [hlj], by go_num, rfl, HM8, HK8, HO8⟩
            case measure => simp [intOf]; omega
        · skip
          obtain rfl : j = k := by omega
          have HXw := Lib.hid (own_below HX.out HM.out.w)
          obtain ⟨⟨m0, m1⟩, ⟨f0, f1⟩, hlt9⟩ := MBox.c HXw.out
          have z0 := MBox.put HXw.out 0 (.slice x1 p.vs.length d1)
          have z1 := MBox.put z0.1 1 (.slice x2 nb d2)
          have zg := grown_trans z0.2 z1.2
          have hws := HB.out.size
          have YM : Hid (MemW w _ _ _ _ _ _ _ _ _) := Lib.hid ⟨own_mono (own_keep HM.out.v HXw.out (by decide) zg) hws, own_mono (own_keep HM.out.b HXw.out (by decide) zg) hws, below_of_grown (below_chain HB.out HM.out.w) zg (fun k hk => by simp at hk; omega)⟩
          have YC := Lib.hid z1.1
          have hWs : w.heap.size + 1 < W.heap.size := (own_ge HX.out).2
          have htb := (own_ge HK.out).1
          have HKz : Hid (MBox _ _ _ _) := Lib.hid (MBox.keep HK.out zg (by omega))
          obtain ⟨q0', q1'⟩ := HKz.out.c0
          clear z0 z1 zg
          go_upto_region 18 with (fail)
          refine wp_region_held_drew (S := (fun w' => w'.cell? ⟨tb, 0, none⟩ = some (.slice x1 p.vs.length d1) ∧ w'.cell? ⟨tb, 1, none⟩ = some (.slice x2 nb d2))) (by kernel_rfl) ?_ (fun hHeld => ?_)
          · exact ⟨q0, q1⟩
          refine rg_take (v := ?_) 0 rfl (by kernel_rfl) (by kernel_rfl) (by kernel_rfl) (fun _ _ _ h => h) (by kernel_rfl) ?_ (by assumption) ?_
          rotate_left
          · (intro w' hSw; (try dsimp only at hSw); go_simp; first | done | with_reducible rfl)
          simp only [Act.put, List.setIfInBounds_toArray, List.set_cons_zero, List.set_cons_succ]
          refine rg_take (v := ?_) 1 rfl (by kernel_rfl) (by kernel_rfl) (by kernel_rfl) (fun _ _ _ h => h) (by kernel_rfl) ?_ (by assumption) ?_
          rotate_left
          · (intro w' hSw; (try dsimp only at hSw); go_simp; first | done | with_reducible rfl)
          simp only [Act.put, List.setIfInBounds_toArray, List.set_cons_zero, List.set_cons_succ]
          refine rg_take (v := ?_) 2 rfl (by kernel_rfl) (by kernel_rfl) (by kernel_rfl) (fun _ _ _ h => h) (by kernel_rfl) ?_ (by assumption) ?_
          rotate_left
          · (intro w' hSw; (try dsimp only at hSw); go_simp; first | done | with_reducible rfl)
          simp only [Act.put, List.setIfInBounds_toArray, List.set_cons_zero, List.set_cons_succ]
          have YM' := Lib.hid (YM.out.below (Below.refl _ _).drew)
          have YC' : Hid (MBox _ _ _ _) := Lib.hid (own_below YC.out (Below.refl _ _).drew)
          clear YM YC
          refine rg_run 3 rfl (by kernel_rfl) (by kernel_rfl) (fun K hK => ?_)
          go_simp
          clear hHeld
          refine hK.out _ _ (by exact ⟨q0', q1'⟩) (fun hHeld => ?_)
          clear hK K
          try simp only [Act.put, List.setIfInBounds_toArray, List.set_cons_zero, List.set_cons_succ]
          refine rg_take (v := ?_) 4 rfl (by kernel_rfl) (by kernel_rfl) (by kernel_rfl) (fun _ _ _ h => h) (by kernel_rfl) ?_ (by assumption) ?_
          rotate_left
          · (intro w' hSw; (try dsimp only at hSw); go_simp; first | done | with_reducible rfl)
          simp only [Act.put, List.setIfInBounds_toArray, List.set_cons_zero, List.set_cons_succ]
          refine wpAnyH_done (by kernel_rfl) ?_ _
          clear hHeld
          go_wp2_with (fail)
          generalize ((wr.setCell ⟨w.heap.size + 1, 0, none⟩ (.slice x1 p.vs.length d1)).setCell ⟨w.heap.size + 1, 1, none⟩ (.slice x2 nb d2)).drew = WF at *
          clear m0 m1 f0 f1 q0 q1 q0' q1' HKz
          have zc := YC'.out
          simp only [List.set_cons_zero, List.set_cons_succ] at zc
          obtain ⟨⟨r0, r1⟩, _⟩ := MBox.c zc
          refine bodyPost_ret (v := .tuple #[.slice O j oc, .agg #[.slice x1 p.vs.length d1, .slice x2 nb d2], .int .i64 0]) (by simp [results, Tryz.results181, go_sem, r0, r1]) rfl ⟨_, _, _, _, _, _, _, _, _, _, _, _, rfl, YM'.out, hnv, hnb⟩
end Go.Proofs.YteengjcplmjakaaGreatDoor

/- Inputs drawn for a scan: some numbers of the call's own. Condition: the lengths. -/
namespace Go.Proofs.YteengjcplmjakaaGreatDoor
open Go.RowKit

/-- Some numbers of the call's own, at most m + 1; the source goes on. -/
def InsP (m B : Nat) (w : World) (e : Ending) (w' : World) : Prop := ∃ A n c zs, e = .returned (.slice A n c) ∧ w'.ownsRow w.heap.size 2 1 (.slice A n c) n (ints zs) ∧ n ≤ m + 1 ∧ DW B w w'
theorem own_litZ0 (w : World) : (w.alloc (.cells #[] 2)).ownsRow w.heap.size 2 1 (.slice (some ⟨w.heap.size, 0, none⟩) 0 0) 0 (ints []) := by
  have h := World.ownsRow_lit (e := 2) (size := 1) (base := w.heap.size) w #[] 0 (Nat.le_refl _) (by decide) (by simp)
  simpa [ints] using h
set_option maxHeartbeats 4000000 in
set_option maxRecDepth 100000 in
theorem c_l16DrawInputs (B : Nat) (p : Prg) (a1 a2 a3 a4 : Option Addr) (c1 c2 c3 c4 : Nat) (w : World) (h : Src w B) (hpi : p.ins.length ≤ 1048576) :
    Calls Tryz.prog 182 #[.pointer (some ⟨B, 0, none⟩), pv p a1 a2 a3 a4 c1 c2 c3 c4] w (InsP p.ins.length B w) := by
  have hBl := h.lt
  have HP0 : Hid (PBox (w.alloc (.cells #[.string p.nm, .slice a1 p.ins.length c1, .slice a2 p.vs.length c2, .slice a3 p.os.length c3, .string p.gd, .slice a4 p.ls.length c4] 27)) w.heap.size w.heap.size [.string p.nm, .slice a1 p.ins.length c1, .slice a2 p.vs.length c2, .slice a3 p.os.length c3, .string p.gd, .slice a4 p.ls.length c4]) := Lib.hid (own_box w w.heap.size 27 [.string p.nm, .slice a1 p.ins.length c1, .slice a2 p.vs.length c2, .slice a3 p.os.length c3, .string p.gd, .slice a4 p.ls.length c4] 6 rfl (Nat.le_refl _))
  have HS0 := Lib.hid ((DW.start h).alloc hBl (.cells #[.string p.nm, .slice a1 p.ins.length c1, .slice a2 p.vs.length c2, .slice a3 p.os.length c3, .string p.gd, .slice a4 p.ls.length c4] 27))
  clear h
  go_enter Tryz.func182, Tryz.ntmps182
  dsimp only [pv]
  go_upto_region 1 with (fail)
  generalize w.alloc (.cells #[.string p.nm, .slice a1 p.ins.length c1, .slice a2 p.vs.length c2, .slice a3 p.os.length c3, .string p.gd, .slice a4 p.ls.length c4] 27) = W at *
  have BE := below_alloc (Below.refl W.heap.size W) (.cells #[] 2)
  have HP1 : Hid (PBox _ _ _ _) := Lib.hid (own_below HP0.out BE)
  have HS1 := Lib.hid (HS0.out.below hBl BE)
  have HO1 : Hid ((W.alloc (.cells #[] 2)).ownsRow w.heap.size 2 1 (.slice (some ⟨W.heap.size, 0, none⟩) 0 0) 0 (ints [])) := Lib.hid (own_mono (own_litZ0 W) HS0.out.g.size)
  clear BE HP0 HS0
  go_upto_region 2 with (fail)
  generalize W.alloc (.cells #[] 2) = W1 at *
  generalize W.heap.size = og at *
  go_wp2_with (fail)
  go_loopw [5, 6] (fun o i wr => ∃ (k c : Nat) (A : Option Addr) (zs : List Int), k ≤ p.ins.length ∧ i = .int .i64 k ∧ o = .slice A k c ∧ Hid (wr.ownsRow w.heap.size 2 1 (.slice A k c) k (ints zs)) ∧ Hid (PBox wr w.heap.size w.heap.size [.string p.nm, .slice a1 p.ins.length c1, .slice a2 p.vs.length c2, .slice a3 p.os.length c3, .string p.gd, .slice a4 p.ls.length c4]) ∧ Hid (DW B w wr)) (fun _ i _ => p.ins.length - (intOf i).toNat)
  case atStart => exact ⟨0, _, _, [], Nat.zero_le _, rfl, rfl, HO1, HP1, HS1⟩
  case round =>
    obtain ⟨k, c, A, zs, hk, rfl, rfl, ho, hp, hd⟩ := hrel
    clear HO1 HP1 HS1
    obtain ⟨⟨k0, k1, k2, k3, k4, k5⟩, _, _⟩ := PBox.c hp.out
    by_cases hlt : k < p.ins.length
    · have hk0 : (0 : Int) ≤ (k : Int) := by omega
      have hk1 : (k : Int) < p.ins.length := by omega
      go_wp2_with (fail)
      refine (c_NextD B 2 _ hd.out.s (by omega)).mono ?_
      rintro e w2 ⟨r, rfl, _, _, _, hd2⟩
      have HO2 := Lib.hid (hd2.own ho.out hBl)
      have HP2 : Hid (PBox _ _ _ _) := Lib.hid (hd2.own hp.out hBl)
      have HD2 := Lib.hid (hd.out.then_ hd2)
      clear ho hp hd hd2 k0 k1 k2 k3 k4 k5
      have BV := below_alloc (Below.refl w2.heap.size w2) (.cells #[.int .i64 r] 2)
      have HOv := Lib.hid (own_below HO2.out BV)
      have HPv : Hid (PBox _ _ _ _) := Lib.hid (own_below HP2.out BV)
      have HDv := Lib.hid (HD2.out.below hBl BV)
      clear BV HO2 HP2 HD2
      go_wp2_with (first
        | (at_builtin
           refine wpList_push_int _ rfl (.tmp 15) (.tmp 18) rfl w.heap.size _ k zs r w2.heap.size 1 rfl HOv.out rfl (by go_simp) (by omega) HDv.out.g.size ?_
           intro v7 w7 hown hgrow _ _
           obtain ⟨A7, c7, rfl⟩ := own_shape hown
           have HP7 : Hid (PBox w7 _ _ _) := Lib.hid (own_keep HPv.out HOv.out (by decide) hgrow)
           have HD7 := Lib.hid (HDv.out.far hBl hgrow (fun q hq => (HOv.out.lt q hq).1))
           have HO7 := Lib.hid hown
           clear hown hgrow HOv HPv HDv)
        )
      go_roundw
      case rel => exact ⟨k + 1, c7, A7, zs ++ [r], by omega, by go_num, rfl, HO7, HP7, HD7⟩
      case measure => simp [intOf]; omega
    · obtain rfl : k = p.ins.length := by omega
      go_wp2_with (fail)
      refine (c_NextD B 40 _ hd.out.s (by omega)).mono ?_
      rintro e w2 ⟨r, rfl, hr0, _, _, hd2⟩
      have HO2 := Lib.hid (hd2.own ho.out hBl)
      have HD2 := Lib.hid (hd.out.then_ hd2)
      clear ho hp hd hd2 k0 k1 k2 k3 k4 k5
      by_cases hc0 : r = 0
      · subst hc0
        have BV := below_alloc (Below.refl w2.heap.size w2) (.cells #[.int .i64 0] 2)
        have HOv := Lib.hid (own_below HO2.out BV)
        have HDv := Lib.hid (HD2.out.below hBl BV)
        clear BV HO2 HD2
        go_wp2_with (first
          | (at_builtin
             refine wpList_push_int _ rfl (.tmp 24) (.tmp 25) rfl w.heap.size _ p.ins.length zs 0 w2.heap.size 1 rfl HOv.out rfl (by go_simp) (by omega) HDv.out.g.size ?_
             intro v7 w7 hown hgrow _ _
             obtain ⟨A7, c7, rfl⟩ := own_shape hown
             have HD7 := Lib.hid (HDv.out.far hBl hgrow (fun q hq => (HOv.out.lt q hq).1))
             have HO7 := Lib.hid hown
             clear hown hgrow HOv HDv)
          )
        go_ret
        exact ⟨_, _, _, _, rfl, HO7.out, by omega, HD7.out⟩
      have e0 : (r == 0) = false := by simpa using hc0
      by_cases hc1 : r = 1
      · subst hc1
        by_cases hz : 0 < p.ins.length
        · have hz1 : (0 : Int) < p.ins.length := by omega
          obtain ⟨ab, ac, e9⟩ : ∃ q cc, Value.slice A p.ins.length c = .slice (some ⟨q, 0, none⟩) p.ins.length cc := by
            rcases HO2.out.2 with ⟨_, h2⟩ | ⟨g, cap, cur, hv, _⟩
            · omega
            · exact ⟨_, _, hv⟩
          simp only [Value.slice.injEq, true_and] at e9
          obtain ⟨rfl, rfl⟩ := e9
          have HD2s := Lib.hid HD2.out.g.size
          have BV := below_alloc (Below.refl w2.heap.size w2) (.cells #[.int .i64 (-1), .int .i64 2] 2)
          have HCL : Hid (Rd (w2.alloc (.cells #[.int .i64 (-1), .int .i64 2] 2)) (some ⟨w2.heap.size, 0, none⟩) (ints [-1, 2])) := Lib.hid (rd_litI w2 [-1, 2] 2 (by decide))
          have HOv := Lib.hid (own_below HO2.out BV)
          have HDv := Lib.hid (HD2.out.below hBl BV)
          clear BV HO2 HD2
          go_wp2_with (fail)
          refine (c_PickIn B w2.heap.size 2 2 [-1, 2] _ HDv.out.s (by have := HD2s.out; omega) rfl (by omega) (by omega) HCL.out).mono ?_
          rintro e w3 ⟨z, _, rfl, hd3⟩
          have HO3 := Lib.hid (hd3.own HOv.out hBl)
          have HD3 := Lib.hid (HDv.out.then_ hd3)
          clear hd3 HOv HDv HCL
          obtain ⟨o0, g0⟩ := own_cell HO3.out (j := 0) (by omega)
          have f0 := HO3.out.frozenAt 0
          have hst := World.ownsRow.stored HO3.out 0 (.int .i64 z)
          have hv : (ints zs).set 0 (.int .i64 z) = ints (zs.set 0 z) := by simp [ints, List.map_set]
          rw [hv] at hst
          have HO4 := Lib.hid hst.1
          have HD4 := Lib.hid (HD3.out.far hBl hst.2 (fun q hq => by simp only [Option.some.injEq] at hq; have := (own_ge HO3.out).1; omega))
          clear hst hv
          go_wp2_with (fail)
          go_ret
          exact ⟨_, _, _, _, rfl, HO4.out, by omega, HD4.out⟩
        · have hz1 : ¬ (0 : Int) < p.ins.length := by omega
          go_wp2_with (fail)
          go_ret
          exact ⟨_, _, _, _, rfl, HO2.out, by omega, HD2.out⟩
      · have e1 : (r == 1) = false := by simpa using hc1
        go_wp2_with (fail)
        go_ret
        exact ⟨_, _, _, _, rfl, HO2.out, by omega, HD2.out⟩
end Go.Proofs.YteengjcplmjakaaGreatDoor

/- Inputs drawn for several scans: some rows of numbers of the call's own. Condition: the lengths. -/
namespace Go.Proofs.YteengjcplmjakaaGreatDoor
open Go.RowKit

/-- The list so far, the program's box, the source. -/
structure LdW (B : Nat) (w wr : World) (p : Prg) (a1 a2 a3 a4 : Option Addr) (c1 c2 c3 c4 : Nat) (O : Option Addr) (q oc : Nat) (L : List (List Int)) : Prop where
  o : LsOwn wr w.heap.size (.slice O q oc) L
  n : L.length = q
  b : ∀ l ∈ L, l.length ≤ p.ins.length + 1
  p : PBox wr w.heap.size w.heap.size [.string p.nm, .slice a1 p.ins.length c1, .slice a2 p.vs.length c2, .slice a3 p.os.length c3, .string p.gd, .slice a4 p.ls.length c4]
  d : DW B w wr
section
variable {B : Nat} {w wr w2 : World} {p : Prg} {a1 a2 a3 a4 : Option Addr} {c1 c2 c3 c4 : Nat} {O : Option Addr} {q oc : Nat} {L : List (List Int)}
theorem LdW.dw (h : LdW B w wr p a1 a2 a3 a4 c1 c2 c3 c4 O q oc L) (hd : DW B wr w2) (hB : B < w.heap.size) : LdW B w w2 p a1 a2 a3 a4 c1 c2 c3 c4 O q oc L :=
  ⟨h.o.dw hd hB, h.n, h.b, hd.own h.p hB, h.d.then_ hd⟩
theorem LdW.below (h : LdW B w wr p a1 a2 a3 a4 c1 c2 c3 c4 O q oc L) (hb : Below wr.heap.size wr w2) (hB : B < w.heap.size) : LdW B w w2 p a1 a2 a3 a4 c1 c2 c3 c4 O q oc L :=
  ⟨h.o.below hb, h.n, h.b, own_below h.p hb, h.d.below hB hb⟩
theorem LdW.push {v' : Value} {l : List Int} (h : LdW B w wr p a1 a2 a3 a4 c1 c2 c3 c4 O q oc L) (hB : B < w.heap.size) (hl : l.length ≤ p.ins.length + 1) (ho : LsOwn w2 w.heap.size v' (L ++ [l])) (hg : wr.grownBy w2 (Value.slice O q oc).ownBlock) :
    ∃ O' oc', v' = .slice O' (q + 1) oc' ∧ LdW B w w2 p a1 a2 a3 a4 c1 c2 c3 c4 O' (q + 1) oc' (L ++ [l]) := by
  obtain ⟨O', oc', e⟩ := ho.form
  have hq : (L ++ [l]).length = q + 1 := by simp [h.n]
  rw [hq] at e
  subst e
  refine ⟨O', oc', rfl, ho, hq, fun x hx => ?_, h.o.keep h.p (by decide) hg, h.d.far hB hg (fun k hk => (h.o.ge k hk).1)⟩
  rcases List.mem_append.1 hx with hx | hx
  · exact h.b x hx
  · simp only [List.mem_singleton] at hx
    subst hx
    exact hl
end
def slen : Value → Nat
  | .slice _ n _ => n
  | _ => 0
/-- Some rows of the call's own; the source goes on. -/
def LstP (m B : Nat) (w : World) (e : Ending) (w' : World) : Prop := ∃ O n c L, e = .returned (.slice O n c) ∧ n = L.length ∧ n ≤ 1000 ∧ LsOwn w' w.heap.size (.slice O n c) L ∧ (∀ l ∈ L, l.length ≤ m + 1) ∧ DW B w w'
set_option maxHeartbeats 8000000 in
set_option maxRecDepth 100000 in
theorem c_l16DrawList (B : Nat) (p : Prg) (a1 a2 a3 a4 : Option Addr) (c1 c2 c3 c4 : Nat) (w : World) (h : Src w B) (hpi : p.ins.length ≤ 1048576) :
    Calls Tryz.prog 158 #[.pointer (some ⟨B, 0, none⟩), pv p a1 a2 a3 a4 c1 c2 c3 c4] w (LstP p.ins.length B w) := by
  have HDI := Lib.hid (fun w h => c_l16DrawInputs B p a1 a2 a3 a4 c1 c2 c3 c4 w h hpi)
  have hBl := h.lt
  have HP0 : Hid (PBox (w.alloc (.cells #[.string p.nm, .slice a1 p.ins.length c1, .slice a2 p.vs.length c2, .slice a3 p.os.length c3, .string p.gd, .slice a4 p.ls.length c4] 27)) w.heap.size w.heap.size [.string p.nm, .slice a1 p.ins.length c1, .slice a2 p.vs.length c2, .slice a3 p.os.length c3, .string p.gd, .slice a4 p.ls.length c4]) := Lib.hid (own_box w w.heap.size 27 [.string p.nm, .slice a1 p.ins.length c1, .slice a2 p.vs.length c2, .slice a3 p.os.length c3, .string p.gd, .slice a4 p.ls.length c4] 6 rfl (Nat.le_refl _))
  have HS0 := Lib.hid ((DW.start h).alloc hBl (.cells #[.string p.nm, .slice a1 p.ins.length c1, .slice a2 p.vs.length c2, .slice a3 p.os.length c3, .string p.gd, .slice a4 p.ls.length c4] 27))
  clear h
  go_enter Tryz.func158, Tryz.ntmps158
  dsimp only [pv] at *
  go_upto_region 1 with (fail)
  generalize w.alloc (.cells #[.string p.nm, .slice a1 p.ins.length c1, .slice a2 p.vs.length c2, .slice a3 p.os.length c3, .string p.gd, .slice a4 p.ls.length c4] 27) = W at *
  have BE := below_alloc (Below.refl W.heap.size W) (.cells #[] 29)
  have HL1 : Hid (LdW B w (W.alloc (.cells #[] 29)) p a1 a2 a3 a4 c1 c2 c3 c4 (some ⟨W.heap.size, 0, none⟩) 0 0 []) := Lib.hid ⟨lsOwn_start W w.heap.size HS0.out.g.size, rfl, by simp, own_below HP0.out BE, HS0.out.below hBl BE⟩
  clear BE HP0 HS0
  go_upto_region 2 with (fail)
  generalize W.alloc (.cells #[] 29) = W1 at *
  generalize W.heap.size = og at *
  go_wp2_with (fail)
  refine (c_NextD B 8 _ HL1.out.d.s (by omega)).mono ?_
  rintro e w2 ⟨r, rfl, hr0, hr1, _, hd2⟩
  have HL2 := Lib.hid (HL1.out.dw hd2 hBl)
  have hr8 := hr1 (by omega)
  obtain ⟨r8, rfl⟩ : ∃ k : Nat, r = k := ⟨r.toNat, by omega⟩
  clear hd2 HL1 hr1
  go_wp2_with (fail)
  go_loopw [5, 6, 7, 8] (fun o i _ _ wr => ∃ (m q oc : Nat) (O : Option Addr) (L : List (List Int)), m ≤ 7 ∧ q + 4 * m ≤ 28 ∧ i = .int .i64 m ∧ o = .slice O q oc ∧ Hid (LdW B w wr p a1 a2 a3 a4 c1 c2 c3 c4 O q oc L)) (fun _ i _ _ _ => (intOf i).toNat)
  case atStart => exact ⟨r8, 0, _, _, [], by omega, by omega, rfl, rfl, HL2⟩
  case round =>
    obtain ⟨m, q, oc, O, L, hm, hq, rfl, rfl, hl⟩ := hrel
    clear HL2
    have HL := hl
    clear hl
    obtain ⟨⟨k0, k1, k2, k3, k4, k5⟩, _, _⟩ := PBox.c HL.out.p
    by_cases hm0 : 0 < m
    · have hmi : (0 : Int) < m := by omega
      go_wp2_with (fail)
      refine (HDI.out _ HL.out.d.s).mono ?_
      rintro e w3 ⟨IA, IN, IC, izs, rfl, hio, hin, hd3⟩
      have HL3 := Lib.hid (HL.out.dw hd3 hBl)
      have HI3 := Lib.hid (own_mono hio (base' := w.heap.size) HL.out.d.g.size)
      clear hd3 hio HL k0 k1 k2 k3 k4 k5
      go_wp2_with (fail)
      refine (c_NextD B 4 _ HL3.out.d.s (by omega)).mono ?_
      rintro e w4 ⟨r4, rfl, hs0, hs1, _, hd4⟩
      have hs4 := hs1 (by omega)
      have HL4 := Lib.hid (HL3.out.dw hd4 hBl)
      have HI4 := Lib.hid (hd4.own HI3.out hBl)
      clear hd4 HL3 HI3 hs1
      go_wp2_with (fail)
      go_loopw [5, 8] (fun o z wr => ∃ (x : Int) (q2 oc2 : Nat) (O2 : Option Addr) (L2 : List (List Int)), -1 ≤ x ∧ x ≤ 3 ∧ (q2 : Int) + x ≤ q + 3 ∧ z = .int .i64 x ∧ o = .slice O2 q2 oc2 ∧ Hid (LdW B w wr p a1 a2 a3 a4 c1 c2 c3 c4 O2 q2 oc2 L2) ∧ Hid (wr.ownsRow w.heap.size 2 1 (.slice IA IN IC) IN (ints izs))) (fun _ z _ => (intOf z + 1).toNat)
      case atStart => exact ⟨r4, q, oc, O, L, by omega, by omega, by omega, rfl, rfl, HL4, HI4⟩
      case round =>
        obtain ⟨x, q2, oc2, O2, L2, hx0, hx1, hx2, rfl, rfl, hl, hi⟩ := hrel
        clear HL4 HI4
        have HL4 := hl
        have HI4 := hi
        clear hl hi
        by_cases hx : 0 ≤ x
        · have hIz : izs.length = IN := by have := HI4.out.1; rw [ints_length] at this; omega
          have HIZ := Lib.hid hIz
          clear hIz
          go_wp2_with (fail)
          refine (c_l01OwnQ w.heap.size IN IC IA izs _ HIZ.out.symm (by omega) HI4.out).mono ?_
          rintro e w5 ⟨g5, c5, rfl, ho5, hb5⟩
          have hs5 := HL4.out.d.g.size
          have BV := below_alloc (Below.refl w5.heap.size w5) (.cells #[.slice (some ⟨g5, 0, none⟩) IN c5] 29)
          have HL5 := Lib.hid (HL4.out.below (below_chain hb5 BV) hBl)
          have HI5 := Lib.hid (own_below HI4.out (below_chain hb5 BV))
          have HO5 : Hid ((w5.alloc (.cells #[.slice (some ⟨g5, 0, none⟩) IN c5] 29)).ownsRow w.heap.size 2 1 (.slice (some ⟨g5, 0, none⟩) izs.length c5) izs.length (ints izs)) := Lib.hid (by rw [HIZ.out]; exact own_below (own_mono ho5 hs5) BV)
          clear ho5 hb5 BV HL4 HI4 hs5
          go_wp2_with (first
            | (at_builtin
               refine wpList_push_row _ rfl (.tmp 25) (.tmp 28) rfl w.heap.size _ L2 ⟨izs, some ⟨g5, 0, none⟩, c5⟩ w5.heap.size 1 rfl HL5.out.o rfl (by unfold IvD.v; dsimp only; rw [HIZ.out]; go_simp) HO5.out (by have := HL5.out.n; omega) HL5.out.d.g.size ?_
               intro v7 w7 hown hgrow
               have HI7 := Lib.hid (HL5.out.o.keep HI5.out (by decide) hgrow)
               obtain ⟨O7, oc7, e7, hl7⟩ := HL5.out.push hBl (by rw [HIZ.out]; exact hin) hown hgrow
               subst e7
               have HL7 := Lib.hid hl7
               clear hown hgrow hl7 HL5 HI5 HO5)
            )
          have hw : IntKind.i64.wrap (x - 1) = x - 1 := IntWalk.i64_in _ (by omega)
          go_roundw
          case rel => exact ⟨x - 1, q2 + 1, oc7, O7, _, by omega, by omega, by omega, by go_num, rfl, HL7, HI7⟩
          case measure => simp [intOf]; omega
        · have hx9 : x = -1 := by omega
          have hqq : q2 ≤ q + 4 := by omega
          go_wp2_with (fail)
          go_roundw
          case rel => exact ⟨m - 1, q2, oc2, O2, L2, by omega, by omega, by go_num, rfl, HL4⟩
          case measure => simp [intOf]; omega
    · obtain rfl : m = 0 := by omega
      go_wp2_with (fail)
      refine (c_NextD B 80 _ HL.out.d.s (by omega)).mono ?_
      rintro e w3 ⟨r3, rfl, _, _, _, hd3⟩
      have HL3 := Lib.hid (HL.out.dw hd3 hBl)
      clear hd3 HL k0 k1 k2 k3 k4 k5
      by_cases hz : r3 = 0
      · subst hz
        obtain ⟨i0, hi, hz0, hz1, hz2⟩ := info_parts info_int64
        go_wp2_with (fail)
        go_loopw [5] (fun o wr => ∃ (q oc : Nat) (O : Option Addr) (L : List (List Int)), q ≤ 201 ∧ o = .slice O q oc ∧ Hid (LdW B w wr p a1 a2 a3 a4 c1 c2 c3 c4 O q oc L)) (fun o _ => 202 - slen o)
        case atStart => exact ⟨q, oc, O, L, by omega, rfl, HL3⟩
        case round =>
          clear HL3 hq
          obtain ⟨q, oc, O, L, hq, rfl, hl⟩ := hrel
          have HL3 := hl
          clear hl
          go_wp2_with (fail)
          refine (c_NextD B 2 _ HL3.out.d.s (by omega)).mono ?_
          rintro e w4 ⟨r4, rfl, hs0, hs1, _, hd4⟩
          have hs4 := hs1 (by omega)
          have HL4 := Lib.hid (HL3.out.dw hd4 hBl)
          obtain ⟨⟨k0, k1, k2, k3, k4, k5⟩, _, _⟩ := PBox.c HL4.out.p
          have hw : IntKind.i64.wrap (200 + r4) = 200 + r4 := IntWalk.i64_in _ (by omega)
          clear hd4 HL3 hs1
          by_cases hlt : (q : Int) < 200 + r4
          · go_wp2_with (first
              | (at_make
                 refine wpList_make_full _ rfl (.tmp 42) (.tmp 42) _ rfl w.heap.size 2 i0 _ 1 Tryz.underlying29 hi hz0 hz1 .i64 .i64 _ _ p.ins.length rfl rfl rfl rfl (by rw [hz2]; omega) (by unfold maxLen; omega) HL4.out.d.g.size ?_
                 intro w5 hown hgrow
                 have hb5 := below_of_grown (Below.refl w4.heap.size w4) hgrow (by simp)
                 rw [made_intQ] at hown
                 have BV := below_alloc (Below.refl w5.heap.size w5) (.cells #[.slice (some ⟨w4.heap.size, 0, none⟩) p.ins.length p.ins.length] 29)
                 have HL5 := Lib.hid (HL4.out.below (below_chain hb5 BV) hBl)
                 have HIZ : Hid ((List.replicate p.ins.length (0 : Int)).length = p.ins.length) := Lib.hid (by simp)
                 have HO5 : Hid ((w5.alloc (.cells #[.slice (some ⟨w4.heap.size, 0, none⟩) p.ins.length p.ins.length] 29)).ownsRow w.heap.size 2 1 (.slice (some ⟨w4.heap.size, 0, none⟩) p.ins.length p.ins.length) p.ins.length (ints (List.replicate p.ins.length (0 : Int)))) := Lib.hid (own_below hown BV)
                 generalize List.replicate p.ins.length (0 : Int) = rz at *
                 clear hown hgrow hb5 BV HL4 k0 k1 k2 k3 k4 k5)
              | (at_builtin
                 refine wpList_push_row _ rfl (.tmp 39) (.tmp 44) rfl w.heap.size _ L ⟨rz, some ⟨w4.heap.size, 0, none⟩, p.ins.length⟩ w5.heap.size 1 rfl HL5.out.o rfl (by unfold IvD.v; dsimp only; rw [HIZ.out]; go_simp) (by unfold IvD.v; dsimp only; rw [HIZ.out]; exact HO5.out) (by have := HL5.out.n; omega) HL5.out.d.g.size ?_
                 intro v7 w7 hown hgrow
                 obtain ⟨O7, oc7, e7, hl7⟩ := HL5.out.push hBl (by rw [HIZ.out]; omega) hown hgrow
                 subst e7
                 have HL7 := Lib.hid hl7
                 clear hown hgrow hl7 HL5 HO5)
              )
            go_roundw
            case rel => exact ⟨q + 1, oc7, O7, _, by omega, rfl, HL7⟩
            case measure => simp [slen]; omega
          · go_wp2_with (fail)
            go_ret
            exact ⟨_, _, _, _, rfl, HL4.out.n.symm, by omega, HL4.out.o, HL4.out.b, HL4.out.d⟩
      · have ez : (r3 == 0) = false := by simpa using hz
        go_wp2_with (fail)
        go_ret
        exact ⟨_, _, _, _, rfl, HL3.out.n.symm, by omega, HL3.out.o, HL3.out.b, HL3.out.d⟩
end Go.Proofs.YteengjcplmjakaaGreatDoor

/- The memory behind several scans, on the reference's side. Condition: the lengths. -/
namespace Go.Proofs.YteengjcplmjakaaGreatDoor
open Go.RowKit

/-- Some memory of the call's own, and a code. -/
def MaP (w : World) (e : Ending) (w' : World) : Prop :=
  ∃ x1 x2 n1 n2 d1 d2 code vs bs, e = .returned (.tuple #[.agg #[.slice x1 n1 d1, .slice x2 n2 d2], .int .i64 code]) ∧ MemW w w' x1 x2 d1 d2 n1 n2 vs bs ∧ n1 ≤ 20 ∧ n2 ≤ 1600
set_option maxHeartbeats 4000000 in
set_option maxRecDepth 100000 in
theorem c_MemoryAfter (p : Prg) (a1 a2 a3 a4 A : Option Addr) (c1 c2 c3 c4 c n : Nat) (L : List (List Int)) (w : World) (hs : PgOk p) (hz : PgZ a1 a2 a3 c1 c2 c3) (h : PgR w a1 a2 a3 a4 p) (hn : n = L.length) (hn2 : n ≤ 1000) (hll : ∀ l ∈ L, l.length ≤ 100000000) (hL : RdS w A L) :
    Calls Tryz.prog 157 #[pv p a1 a2 a3 a4 c1 c2 c3 c4, .slice A n c] w (MaP w) := by
  have HRUN := Lib.hid (fun w h hL => c_l16Run p a1 a2 a3 a4 A c1 c2 c3 c4 c n L w hs hz h hn hn2 hll hL)
  have B0 := below_alloc (below_alloc (Below.refl w.heap.size w) (.cells #[.string p.nm, .slice a1 p.ins.length c1, .slice a2 p.vs.length c2, .slice a3 p.os.length c3, .string p.gd, .slice a4 p.ls.length c4] 27)) (.cells #[.slice none 0 0, .slice none 0 0] 48)
  have HP : Hid (PB ((w.alloc (.cells #[.string p.nm, .slice a1 p.ins.length c1, .slice a2 p.vs.length c2, .slice a3 p.os.length c3, .string p.gd, .slice a4 p.ls.length c4] 27)).alloc (.cells #[.slice none 0 0, .slice none 0 0] 48)) w.heap.size p a1 a2 a3 a4 c1 c2 c3 c4) := Lib.hid ⟨by go_simp, by go_simp, by go_simp, by go_simp, by go_simp, by go_simp⟩
  have HX : Hid (MBox ((w.alloc (.cells #[.string p.nm, .slice a1 p.ins.length c1, .slice a2 p.vs.length c2, .slice a3 p.os.length c3, .string p.gd, .slice a4 p.ls.length c4] 27)).alloc (.cells #[.slice none 0 0, .slice none 0 0] 48)) w.heap.size (w.heap.size + 1) [.slice none 0 0, .slice none 0 0]) := Lib.hid (by
    have h := own_box (w.alloc (.cells #[.string p.nm, .slice a1 p.ins.length c1, .slice a2 p.vs.length c2, .slice a3 p.os.length c3, .string p.gd, .slice a4 p.ls.length c4] 27)) w.heap.size 48 [.slice none 0 0, .slice none 0 0] 2 rfl (by simp)
    simpa [MBox] using h)
  have HB := Lib.hid B0
  have H0 := Lib.hid (h.below B0)
  have HL0 := Lib.hid (hL.below B0)
  clear B0 h hL hs hz hn hn2 hll
  go_enter Tryz.func157, Tryz.ntmps157
  dsimp only [pv] at *
  go_upto_region 1 with (fail)
  generalize (w.alloc (.cells #[.string p.nm, .slice a1 p.ins.length c1, .slice a2 p.vs.length c2, .slice a3 p.os.length c3, .string p.gd, .slice a4 p.ls.length c4] 27)).alloc (.cells #[.slice none 0 0, .slice none 0 0] 48) = W at *
  obtain ⟨k0, k1, k2, k3, k4, k5⟩ := HP.out
  go_wp2_with (fail)
  refine (HRUN.out _ H0.out HL0.out).mono ?_
  rintro e w1 ⟨O, on, oc, x1, x2, n1, n2, d1, d2, code, vs, bs, rfl, hm, hn1, hn2⟩
  have BK := below_alloc (Below.refl w1.heap.size w1) (.cells #[.slice x1 n1 d1, .slice x2 n2 d2] 48)
  have q0 : (w1.alloc (.cells #[.slice x1 n1 d1, .slice x2 n2 d2] 48)).cell? ⟨w1.heap.size, 0, none⟩ = some (.slice x1 n1 d1) := by go_simp
  have q1 : (w1.alloc (.cells #[.slice x1 n1 d1, .slice x2 n2 d2] 48)).cell? ⟨w1.heap.size, 1, none⟩ = some (.slice x2 n2 d2) := by go_simp
  have HM := Lib.hid (hm.below BK)
  have HX1 : Hid (MBox _ _ _ _) := Lib.hid (own_below HX.out (below_chain hm.w BK))
  clear hm BK k0 k1 k2 k3 k4 k5 HP HX
  go_upto_region 2 with (fail)
  generalize w1.alloc (.cells #[.slice x1 n1 d1, .slice x2 n2 d2] 48) = w2 at *
  generalize w1.heap.size = tb at *
  obtain ⟨⟨m0, m1⟩, ⟨f0, f1⟩, hlt9⟩ := MBox.c HX1.out
  have z0 := MBox.put HX1.out 0 (.slice x1 n1 d1)
  have z1 := MBox.put z0.1 1 (.slice x2 n2 d2)
  have zg := grown_trans z0.2 z1.2
  have hws := HB.out.size
  have YM : Hid (MemW w _ _ _ _ _ _ _ _ _) := Lib.hid ⟨own_mono (own_keep HM.out.v HX1.out (by decide) zg) hws, own_mono (own_keep HM.out.b HX1.out (by decide) zg) hws, below_of_grown (below_chain HB.out HM.out.w) zg (fun k hk => by simp at hk; omega)⟩
  have YC := Lib.hid z1.1
  clear z0 z1 zg
  go_wp2_with (fail)
  generalize (w2.setCell ⟨w.heap.size + 1, 0, none⟩ (.slice x1 n1 d1)).setCell ⟨w.heap.size + 1, 1, none⟩ (.slice x2 n2 d2) = WF at *
  clear m0 m1 f0 f1 q0 q1
  have zc := YC.out
  simp only [List.set_cons_zero, List.set_cons_succ] at zc
  obtain ⟨⟨r0, r1⟩, _⟩ := MBox.c zc
  refine bodyPost_ret (v := .tuple #[.agg #[.slice x1 n1 d1, .slice x2 n2 d2], .int .i64 code]) (by simp [results, Tryz.results157, go_sem, r0, r1]) rfl ⟨_, _, _, _, _, _, _, _, _, rfl, YM.out, hn1, hn2⟩
end Go.Proofs.YteengjcplmjakaaGreatDoor
