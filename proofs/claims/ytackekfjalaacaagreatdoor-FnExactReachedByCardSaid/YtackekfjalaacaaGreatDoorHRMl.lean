/- Marks of lines, of a program and of a memory: what they touch. No condition but the sizes. -/
import Derived.Test.YtackekfjalaacaaGreatDoorHRMk
namespace Go.Proofs.YtackekfjalaacaaGreatDoor
open Go.RowKit

/-- The slices that lie in a row of lines. -/
def CtL (w : World) (A : Option Addr) (ds : List LiD) : Prop := ∀ g, A = some ⟨g, 0, none⟩ → ∀ j d, ds[j]? = some d → w.cell? ⟨g, j * 2 + 1, none⟩ = some d.v
theorem CtL.below {w w' : World} {A : Option Addr} {ds : List LiD} (h : CtL w A ds) (hb : Below w.heap.size w w') : CtL w' A ds := fun g hg j d hd => cell_later hb (h g hg j d hd)
theorem CtL.set {w : World} {ds : List LiD} {g : Nat} (h : CtL w (some ⟨g, 0, none⟩) ds) (i : Nat) (v : Value) : CtL (w.setCell ⟨g, i * 2, none⟩ v) (some ⟨g, 0, none⟩) ds := fun g' hg j d hd => by
  simp only [Option.some.injEq, Addr.mk.injEq, and_true] at hg
  subst hg
  have := h g rfl j d hd
  rw [World.cell?_setCell_other _ _ _ _ (fun e => by simp only [Addr.mk.injEq, and_true, true_and] at e; omega)]
  exact this
theorem CtL.typ {w w' : World} {ds : List LiD} {g : Nat} {T : TypeId} {cur : Array Value} (h : CtL w (some ⟨g, 0, none⟩) ds) (ht : Typ T w w') (hg : w.heap[g]? = some (Obj.cells cur 93 (0, 0))) (hne : (show TypeId from 93) ≠ T) : CtL w' (some ⟨g, 0, none⟩) ds := fun g' hg' j d hd => by
  simp only [Option.some.injEq, Addr.mk.injEq, and_true] at hg'
  subst hg'
  have e := ht g cur _ _ hg hne
  have := h g rfl j d hd
  rw [World.cell?_of_block (a := ⟨g, j * 2 + 1, none⟩) e]
  exact this
theorem CtL.typ2 {w w' : World} {A : Option Addr} {ds : List LiD} {lo hi : Nat} {n c : Nat} {T : TypeId} (h : CtL w A ds) (ho : OwnL w lo hi 93 2 (.slice A n c) n) (hl : ds.length = n) (ht : Typ T w w') (hne : (show TypeId from 93) ≠ T) : CtL w' A ds := by
  rcases Nat.eq_zero_or_pos n with h0 | h0
  · intro g _ j d hd
    have : ds = [] := List.eq_nil_of_length_eq_zero (by omega)
    subst this
    simp at hd
  · obtain ⟨g, rfl, _, _, ⟨cur, hcur⟩, _⟩ := ho.blk h0
    exact h.typ ht hcur hne
/-- The row behind a line is the call's own, and below hi. -/
def NestQ (w : World) (lo hi : Nat) (d : LiD) : Prop := OwnL w lo hi 109 3 d.v d.l.ts.length ∧ d.l.ts.length ≤ 1048576
theorem NestQ.mk {lo hi lo2 hi2 : Nat} {a b : World} {d : LiD} (h : NestQ a lo2 hi2 d) (hm : Mk lo hi a b) : NestQ b lo2 hi2 d := ⟨h.1.mk hm, h.2⟩
set_option maxHeartbeats 1000000 in
set_option maxRecDepth 100000 in
theorem c_markLineS (A : Option Addr) (c n lo hi k : Nat) (kz : Int) (ds : List LiD) (w : World) (hz : kz = (k : Int)) (hk : k ≤ 10000000000) (hn : n ≤ 1048576) (hds : ds.length = n) (ho : OwnL w lo hi 93 2 (.slice A n c) n) (hc : CtL w A ds) (hN : ∀ d ∈ ds, NestQ w lo hi d) :
    Calls Tryz.prog 39 #[.slice A n c, .int .i64 kz] w (RetMo lo hi (k + n * 3145729) w) := by
  subst hz
  have HO := Lib.hid ho
  have HC := Lib.hid hc
  have HN := Lib.hid hN
  have HD := Lib.hid hds
  clear ho hc hN hds
  go_enter Tryz.func39, Tryz.ntmps39
  go_wp2
  go_loopw [1, 5] (fun t i wr => ∃ j kk : Nat, j ≤ n ∧ kk ≤ k + j * 3145729 ∧ i = .int .i64 j ∧ t = .int .i64 kk ∧ Hid (CtL wr A ds) ∧ Mk lo hi w wr) (fun _ i _ => n - (intOf i).toNat)
  case atStart => exact ⟨0, k, Nat.zero_le _, by omega, rfl, rfl, HC, Mk.refl _ _ _⟩
  case round =>
    obtain ⟨j, kk, hj, hkk, rfl, rfl, hct, hm⟩ := hrel
    by_cases hlt : j < n
    · obtain ⟨d, hd⟩ : ∃ z, ds[j]? = some z := ⟨_, List.getElem?_eq_getElem (by have := HD.out; omega)⟩
      obtain ⟨g, rfl, hg1, hg2, _, _⟩ := (HO.out.mk hm).blk (by omega)
      have HDD := Lib.hid hd
      have HM := Lib.hid hm
      have HNd := Lib.hid (HN.out d (List.mem_of_getElem? hd))
      have hgn := HNd.out.2
      clear hd hm
      go_wp2_with (fail)
      refine (c_markText kk _ (by omega)).mono ?_
      rintro e w2 ⟨s, rfl, hb⟩
      have HM2 := Lib.hid (HM.out.trans (Mk.of_below (lo := lo) (hi := hi) hb))
      have HC2 := Lib.hid (hct.out.below hb)
      clear hb hct
      obtain ⟨g', hgg, _, _, ⟨cur, hcur⟩, hce⟩ := (HO.out.mk HM2.out).blk (by omega)
      simp only [Option.some.injEq, Addr.mk.injEq, and_true] at hgg
      subst hgg
      obtain ⟨⟨o0, e0⟩, f0⟩ := hce (j * 2) (by omega)
      clear hce
      have HC3 := Lib.hid (HC2.out.set j (.string s))
      have HM3 := Lib.hid (HM2.out.setCell (p := ⟨g, j * 2, none⟩) (.string s) hg1 hg2)
      obtain ⟨cur3, hcur3⟩ := heap_set (off := j * 2) hcur (.string s)
      have HH3 := Lib.hid hcur3
      clear hcur hcur3
      have l1 := HC3.out g rfl j d HDD.out
      unfold LiD.v at l1
      go_wp2_with (fail)
      generalize w2.setCell ⟨g, j * 2, none⟩ (.string s) = w3 at *
      clear e0 f0 l1 HC2 HM2
      refine (c_markTermS d.a d.c _ lo hi (kk + 1) _ _ (by omega) (by omega) hgn (HNd.out.1.mk HM3.out)).mono ?_
      rintro e w4 ⟨k4, hk4, rfl, hm4, ht4⟩
      have HM4 := Lib.hid (HM3.out.trans hm4)
      have HC4 := Lib.hid (HC3.out.typ ht4 HH3.out (by decide))
      clear hm4 ht4 HC3 HM3 HH3
      go_wp2
      go_roundw
      case rel => exact ⟨j + 1, k4, by omega, by omega, by go_num, rfl, HC4, HM4.out⟩
      case measure => simp [intOf]; omega
    · obtain rfl : j = n := by omega
      have HM := Lib.hid hm
      clear hm
      go_wp2
      go_ret
      exact ⟨kk, hkk, rfl, HM.out⟩
/-- The rows of a program are the call's own, and lie below hi. -/
structure POwnL (w : World) (lo hi : Nat) (a1 a2 a3 a4 : Option Addr) (c1 c2 c3 c4 : Nat) (p : Prg) (ds : List LiD) : Prop where
  i : OwnL w lo hi 9 1 (.slice a1 p.ins.length c1) p.ins.length
  v : OwnL w lo hi 9 1 (.slice a2 p.vs.length c2) p.vs.length
  o : OwnL w lo hi 9 1 (.slice a3 p.os.length c3) p.os.length
  l : OwnL w lo hi 93 2 (.slice a4 p.ls.length c4) p.ls.length
  c : CtL w a4 ds
  n : ds.length = p.ls.length
  d : ∀ d ∈ ds, NestQ w lo hi d
theorem POwn.toL {w : World} {lo : Nat} {a1 a2 a3 a4 : Option Addr} {c1 c2 c3 c4 : Nat} {p : Prg} {ds : List LiD} (h : POwn w lo a1 a2 a3 a4 c1 c2 c3 c4 p ds) (hok : PgOk p) : POwnL w lo w.heap.size a1 a2 a3 a4 c1 c2 c3 c4 p ds := by
  refine ⟨.of_own h.i, .of_own h.v, .of_own h.o, .of_own h.l, fun g hg j d hd => ?_, by rw [← h.e, List.length_map], fun d hd => ?_⟩
  · subst hg
    obtain ⟨_, u1⟩ := lidCells_at hd
    have c1 := h.l.cells (g := g) rfl _ _ u1
    have hadd : ∀ q, (⟨g, 0, none⟩ : Addr).add q = ⟨g, 0 + q, none⟩ := fun q => by unfold Addr.add; split <;> simp_all
    rw [hadd, Nat.zero_add] at c1
    exact c1
  · have hm : d.l ∈ p.ls := by rw [← h.e]; exact List.mem_map.2 ⟨d, hd, rfl⟩
    exact ⟨.of_own (h.d d hd), (hok.l.2 _ hm).2.1⟩
theorem POwnL.below {w w' : World} {lo hi : Nat} {a1 a2 a3 a4 : Option Addr} {c1 c2 c3 c4 : Nat} {p : Prg} {ds : List LiD} (h : POwnL w lo hi a1 a2 a3 a4 c1 c2 c3 c4 p ds) (hb : Below w.heap.size w w') : POwnL w' lo hi a1 a2 a3 a4 c1 c2 c3 c4 p ds :=
  ⟨h.i.below hb, h.v.below hb, h.o.below hb, h.l.below hb, h.c.below hb, h.n, fun d hd => ⟨(h.d d hd).1.below hb, (h.d d hd).2⟩⟩
theorem POwnL.mkT {w w' : World} {lo hi lo2 hi2 : Nat} {a1 a2 a3 a4 : Option Addr} {c1 c2 c3 c4 : Nat} {p : Prg} {ds : List LiD} {T : TypeId} (h : POwnL w lo hi a1 a2 a3 a4 c1 c2 c3 c4 p ds) (hm : Mk lo2 hi2 w w') (ht : Typ T w w') (hne : (show TypeId from 93) ≠ T) : POwnL w' lo hi a1 a2 a3 a4 c1 c2 c3 c4 p ds :=
  ⟨h.i.mk hm, h.v.mk hm, h.o.mk hm, h.l.mk hm, h.c.typ2 h.l h.n ht hne, h.n, fun d hd => (h.d d hd).mk hm⟩
set_option maxHeartbeats 1000000 in
set_option maxRecDepth 100000 in
theorem c_markProgram (p : Prg) (a1 a2 a3 a4 : Option Addr) (c1 c2 c3 c4 : Nat) (ds : List LiD) (lo hi : Nat) (w : World) (hok : PgOk p) (ho : POwnL w lo hi a1 a2 a3 a4 c1 c2 c3 c4 p ds) (hhi : hi ≤ w.heap.size) :
    Calls Tryz.prog 12 #[pv p a1 a2 a3 a4 c1 c2 c3 c4, .int .i64 1] w (RetMo lo hi 10000000000000 w) := by
  obtain ⟨nm, ins, vs, os, gd, ls⟩ := p
  have H0 := Lib.hid (ho.below (below_alloc (Below.refl w.heap.size w) (.cells #[.string nm, .slice a1 ins.length c1, .slice a2 vs.length c2, .slice a3 os.length c3, .string gd, .slice a4 ls.length c4] 31)))
  have h1 := hok.i.1
  have h2 := hok.v.1
  have h3 := hok.o.1
  have h4 := hok.l.1
  dsimp only at h1 h2 h3 h4
  clear ho hok
  dsimp only [pv] at *
  have M0 := Lib.hid (Mk.of_below (lo := lo) (hi := hi) (below_alloc (Below.refl w.heap.size w) (.cells #[.string nm, .slice a1 ins.length c1, .slice a2 vs.length c2, .slice a3 os.length c3, .string gd, .slice a4 ls.length c4] 31)))
  have k1 : (w.alloc (.cells #[.string nm, .slice a1 ins.length c1, .slice a2 vs.length c2, .slice a3 os.length c3, .string gd, .slice a4 ls.length c4] 31)).cell? ⟨w.heap.size, 1, none⟩ = some (.slice a1 ins.length c1) := by go_simp
  have k2 : (w.alloc (.cells #[.string nm, .slice a1 ins.length c1, .slice a2 vs.length c2, .slice a3 os.length c3, .string gd, .slice a4 ls.length c4] 31)).cell? ⟨w.heap.size, 2, none⟩ = some (.slice a2 vs.length c2) := by go_simp
  have k3 : (w.alloc (.cells #[.string nm, .slice a1 ins.length c1, .slice a2 vs.length c2, .slice a3 os.length c3, .string gd, .slice a4 ls.length c4] 31)).cell? ⟨w.heap.size, 3, none⟩ = some (.slice a3 os.length c3) := by go_simp
  have k5 : (w.alloc (.cells #[.string nm, .slice a1 ins.length c1, .slice a2 vs.length c2, .slice a3 os.length c3, .string gd, .slice a4 ls.length c4] 31)).cell? ⟨w.heap.size, 5, none⟩ = some (.slice a4 ls.length c4) := by go_simp
  go_enter Tryz.func12, Tryz.ntmps12
  go_upto_region 1 with (fail)
  generalize w.alloc (.cells #[.string nm, .slice a1 ins.length c1, .slice a2 vs.length c2, .slice a3 os.length c3, .string gd, .slice a4 ls.length c4] 31) = W at *
  go_wp2_with (fail)
  refine (c_markStringS a1 c1 _ lo hi 1 _ _ (by rfl) (by omega) h1 H0.out.i).mono ?_
  rintro e w1 ⟨m1, hk1, rfl, hm1, ht1⟩
  replace k2 := hm1.cell k2 (.inr hhi)
  replace k3 := hm1.cell k3 (.inr hhi)
  replace k5 := hm1.cell k5 (.inr hhi)
  have H1 := Lib.hid (H0.out.mkT hm1 ht1 (by decide))
  have M1 := Lib.hid (M0.out.trans hm1)
  clear hm1 ht1 k1
  go_wp2_with (fail)
  refine (c_markStringS a2 c2 _ lo hi m1 _ _ (by rfl) (by omega) h2 H1.out.v).mono ?_
  rintro e w2 ⟨m2, hk2, rfl, hm2, ht2⟩
  replace k3 := hm2.cell k3 (.inr hhi)
  replace k5 := hm2.cell k5 (.inr hhi)
  have H2 := Lib.hid (H1.out.mkT hm2 ht2 (by decide))
  have M2 := Lib.hid (M1.out.trans hm2)
  clear hm2 ht2 k2
  go_wp2_with (fail)
  refine (c_markStringS a3 c3 _ lo hi m2 _ _ (by rfl) (by omega) h3 H2.out.o).mono ?_
  rintro e w3 ⟨m3, hk3, rfl, hm3, ht3⟩
  replace k5 := hm3.cell k5 (.inr hhi)
  have H3 := Lib.hid (H2.out.mkT hm3 ht3 (by decide))
  have M3 := Lib.hid (M2.out.trans hm3)
  clear hm3 ht3 k3
  go_wp2_with (fail)
  refine (c_markLineS a4 c4 _ lo hi m3 _ ds _ (by rfl) (by omega) h4 H3.out.n H3.out.l H3.out.c H3.out.d).mono ?_
  rintro e w4 ⟨m4, hk4, rfl, hm4⟩
  have M4 := Lib.hid (M3.out.trans hm4)
  clear hm4 k5
  go_wp2
  go_ret
  exact ⟨m4, by omega, rfl, M4.out⟩
end Go.Proofs.YtackekfjalaacaaGreatDoor
