/- Marks of rules and of a model: what they touch. No condition but the sizes. -/
import Derived.Test.YticlpjljcedfmaaMMrk
namespace Go.Proofs.Yticlpjljcedfmaa
open Go.RowKit

theorem c_markTestZ (A : Option Addr) (c n lo hi k : Nat) (kz : Int) (w : World) (hz : kz = (k : Int)) (hk : k ≤ 100000000000000) (hn : n ≤ 1048576) (ho : OwnL w lo hi 77 3 (.slice A n c) n) :
    Calls Try.prog 85 #[.slice A n c, .int .i64 kz] w (RetMk 77 lo hi (k + 3 * n) w) := by subst hz; exact c_markTestS A c n lo hi k w hk hn ho
theorem c_markAssignZ (A : Option Addr) (c n lo hi k : Nat) (kz : Int) (w : World) (hz : kz = (k : Int)) (hk : k ≤ 100000000000000) (hn : n ≤ 1048576) (ho : OwnL w lo hi 80 2 (.slice A n c) n) :
    Calls Try.prog 86 #[.slice A n c, .int .i64 kz] w (RetMk 80 lo hi (k + 2 * n) w) := by subst hz; exact c_markAssignS A c n lo hi k w hk hn ho
/-- The slices that lie in a row of rules. -/
def Cts (w : World) (A : Option Addr) (ds : List RuD) : Prop := ∀ g, A = some ⟨g, 0, none⟩ → ∀ j d, ds[j]? = some d → w.cell? ⟨g, j * 3 + 1, none⟩ = some d.vg ∧ w.cell? ⟨g, j * 3 + 2, none⟩ = some d.ve
theorem Cts.below {w w' : World} {A : Option Addr} {ds : List RuD} (h : Cts w A ds) (hb : Below w.heap.size w w') : Cts w' A ds := fun g hg j d hd => ⟨cell_later hb (h g hg j d hd).1, cell_later hb (h g hg j d hd).2⟩
theorem Cts.set {w : World} {ds : List RuD} {g : Nat} (h : Cts w (some ⟨g, 0, none⟩) ds) (i : Nat) (v : Value) : Cts (w.setCell ⟨g, i * 3, none⟩ v) (some ⟨g, 0, none⟩) ds := fun g' hg j d hd => by
  simp only [Option.some.injEq, Addr.mk.injEq, and_true] at hg
  subst hg
  have := h g rfl j d hd
  rw [World.cell?_setCell_other _ _ _ _ (fun e => by simp only [Addr.mk.injEq, and_true, true_and] at e; omega), World.cell?_setCell_other _ _ _ _ (fun e => by simp only [Addr.mk.injEq, and_true, true_and] at e; omega)]
  exact this
theorem Cts.typ {w w' : World} {ds : List RuD} {g : Nat} {T : TypeId} {cur : Array Value} (h : Cts w (some ⟨g, 0, none⟩) ds) (ht : Typ T w w') (hg : w.heap[g]? = some (Obj.cells cur 66 (0, 0))) (hne : (show TypeId from 66) ≠ T) : Cts w' (some ⟨g, 0, none⟩) ds := fun g' hg' j d hd => by
  simp only [Option.some.injEq, Addr.mk.injEq, and_true] at hg'
  subst hg'
  have e := ht g cur _ _ hg hne
  have := h g rfl j d hd
  rw [World.cell?_of_block (a := ⟨g, j * 3 + 1, none⟩) e, World.cell?_of_block (a := ⟨g, j * 3 + 2, none⟩) e]
  exact this
/-- The rows behind a rule are the call's own, and below hi. -/
def NestL (w : World) (lo hi : Nat) (d : RuD) : Prop := OwnL w lo hi 77 3 d.vg d.r.gs.length ∧ OwnL w lo hi 80 2 d.ve d.r.es.length ∧ d.r.gs.length ≤ 1048576 ∧ d.r.es.length ≤ 1048576
theorem NestL.mk {lo hi lo2 hi2 : Nat} {a b : World} {d : RuD} (h : NestL a lo2 hi2 d) (hm : Mk lo hi a b) : NestL b lo2 hi2 d := ⟨h.1.mk hm, h.2.1.mk hm, h.2.2⟩
/-- The end of a mark that touches rows of several types. -/
def RetMo (lo hi : Nat) (bd : Nat) (w : World) (e : Ending) (w' : World) : Prop := ∃ kk : Nat, kk ≤ bd ∧ e = .returned (.int .i64 kk) ∧ Mk lo hi w w'
set_option maxHeartbeats 1000000 in
set_option maxRecDepth 100000 in
theorem c_markRuleS (A : Option Addr) (c n lo hi k : Nat) (ds : List RuD) (w : World) (hk : k ≤ 10000000000) (hn : n ≤ 1048576) (hds : ds.length = n) (ho : OwnL w lo hi 66 3 (.slice A n c) n) (hc : Cts w A ds) (hN : ∀ d ∈ ds, NestL w lo hi d) :
    Calls Try.prog 65 #[.slice A n c, .int .i64 k] w (RetMo lo hi (k + n * 5242881) w) := by
  have HO := Lib.hid ho
  have HC := Lib.hid hc
  have HN := Lib.hid hN
  have HD := Lib.hid hds
  clear ho hc hN hds
  go_enter Try.func65, Try.ntmps65
  go_wp2
  go_loopw [1, 5] (fun t i wr => ∃ j kk : Nat, j ≤ n ∧ kk ≤ k + j * 5242881 ∧ i = .int .i64 j ∧ t = .int .i64 kk ∧ Hid (Cts wr A ds) ∧ Mk lo hi w wr) (fun _ i _ => n - (intOf i).toNat)
  case atStart => exact ⟨0, k, Nat.zero_le _, by omega, rfl, rfl, HC, Mk.refl _ _ _⟩
  case round =>
    obtain ⟨j, kk, hj, hkk, rfl, rfl, hct, hm⟩ := hrel
    by_cases hlt : j < n
    · obtain ⟨d, hd⟩ : ∃ z, ds[j]? = some z := ⟨_, List.getElem?_eq_getElem (by have := HD.out; omega)⟩
      obtain ⟨g, rfl, hg1, hg2, _, _⟩ := (HO.out.mk hm).blk (by omega)
      have HDD := Lib.hid hd
      have HM := Lib.hid hm
      have HNd := Lib.hid (HN.out d (List.mem_of_getElem? hd))
      have hgn := HNd.out.2.2.1
      have hen := HNd.out.2.2.2
      clear hd hm
      go_wp2_with (fail)
      refine (c_markText kk _ (by omega)).mono ?_
      rintro e w2 ⟨s, rfl, hb⟩
      have HM2 := Lib.hid (HM.out.trans (Mk.of_below (lo := lo) (hi := hi) hb))
      have HC2 := Lib.hid (hct.out.below hb)
      clear hb hct
      obtain ⟨g', hgg, _, _, ⟨cur, hcur⟩, hce⟩ := (HO.out.mk HM2.out).blk (by omega)
      simp only [Option.some.injEq, Addr.mk.injEq, and_true] at hgg
      subst hgg
      obtain ⟨⟨o0, e0⟩, f0⟩ := hce (j * 3) (by omega)
      clear hce
      have HC3 := Lib.hid (HC2.out.set j (.string s))
      have HM3 := Lib.hid (HM2.out.setCell (p := ⟨g, j * 3, none⟩) (.string s) hg1 hg2)
      obtain ⟨cur3, hcur3⟩ := heap_set (off := j * 3) hcur (.string s)
      have HH3 := Lib.hid hcur3
      clear hcur hcur3
      have l1 := (HC3.out g rfl j d HDD.out).1
      unfold RuD.vg at l1
      go_wp2_with (fail)
      generalize w2.setCell ⟨g, j * 3, none⟩ (.string s) = w3 at *
      clear e0 f0 l1 HC2 HM2
      refine (c_markTestZ d.ag d.cg _ lo hi (kk + 1) _ _ (by omega) (by omega) hgn (HNd.out.1.mk HM3.out)).mono ?_
      rintro e w4 ⟨k4, hk4, rfl, hm4, ht4⟩
      have HM4 := Lib.hid (HM3.out.trans hm4)
      have HC4 := Lib.hid (HC3.out.typ ht4 HH3.out (by decide))
      have HH4 := Lib.hid ((ht4 g cur3 _ _ HH3.out (by decide)).trans HH3.out)
      clear hm4 ht4 HC3 HM3 HH3
      have l2 := (HC4.out g rfl j d HDD.out).2
      unfold RuD.ve at l2
      go_wp2_with (fail)
      refine (c_markAssignZ d.ae d.ce _ lo hi k4 _ _ (by omega) (by omega) hen (HNd.out.2.1.mk HM4.out)).mono ?_
      rintro e w5 ⟨k5, hk5, rfl, hm5, ht5⟩
      have HM5 := Lib.hid (HM4.out.trans hm5)
      have HC5 := Lib.hid (HC4.out.typ ht5 HH4.out (by decide))
      clear hm5 ht5 HC4 HM4 HH4 l2
      go_wp2
      go_roundw
      case rel => exact ⟨j + 1, k5, by omega, by omega, by go_num, rfl, HC5, HM5.out⟩
      case measure => simp [intOf]; omega
    · obtain rfl : j = n := by omega
      have HM := Lib.hid hm
      clear hm
      go_wp2
      go_ret
      exact ⟨kk, hkk, rfl, HM.out⟩
end Go.Proofs.Yticlpjljcedfmaa
