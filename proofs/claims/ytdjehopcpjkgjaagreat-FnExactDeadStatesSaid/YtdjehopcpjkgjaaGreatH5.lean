/- Contracts and helpers (joined texts, part 5). The conditions stand at each theorem. -/
import Derived.Test.YtdjehopcpjkgjaaGreatH4
import Derived.Deep.RegionLaw
import Derived.Lib.SliceRun
import Derived.Laws.OwnMore
import Derived.Shelf.RegionOpenPlain
import Derived.Test.YtdjehopcpjkgjaaGreatH1
/- Marks of rules and of a model: what they touch. No condition but the sizes. -/
namespace Go.Proofs.YtdjehopcpjkgjaaGreat
open Go.RowKit

theorem c_markTestZ (A : Option Addr) (c n lo hi k : Nat) (kz : Int) (w : World) (hz : kz = (k : Int)) (hk : k ≤ 100000000000000) (hn : n ≤ 1048576) (ho : OwnL w lo hi 100 3 (.slice A n c) n) :
    Calls Tryz.prog 58 #[.slice A n c, .int .i64 kz] w (RetMk 100 lo hi (k + 3 * n) w) := by subst hz; exact c_markTestS A c n lo hi k w hk hn ho
theorem c_markAssignZ (A : Option Addr) (c n lo hi k : Nat) (kz : Int) (w : World) (hz : kz = (k : Int)) (hk : k ≤ 100000000000000) (hn : n ≤ 1048576) (ho : OwnL w lo hi 79 2 (.slice A n c) n) :
    Calls Tryz.prog 59 #[.slice A n c, .int .i64 kz] w (RetMk 79 lo hi (k + 2 * n) w) := by subst hz; exact c_markAssignS A c n lo hi k w hk hn ho
/-- The slices that lie in a row of rules. -/
def Cts (w : World) (A : Option Addr) (ds : List RuD) : Prop := ∀ g, A = some ⟨g, 0, none⟩ → ∀ j d, ds[j]? = some d → w.cell? ⟨g, j * 3 + 1, none⟩ = some d.vg ∧ w.cell? ⟨g, j * 3 + 2, none⟩ = some d.ve
theorem Cts.below {w w' : World} {A : Option Addr} {ds : List RuD} (h : Cts w A ds) (hb : Below w.heap.size w w') : Cts w' A ds := fun g hg j d hd => ⟨cell_later hb (h g hg j d hd).1, cell_later hb (h g hg j d hd).2⟩
theorem Cts.set {w : World} {ds : List RuD} {g : Nat} (h : Cts w (some ⟨g, 0, none⟩) ds) (i : Nat) (v : Value) : Cts (w.setCell ⟨g, i * 3, none⟩ v) (some ⟨g, 0, none⟩) ds := fun g' hg j d hd => by
  simp only [Option.some.injEq, Addr.mk.injEq, and_true] at hg
  subst hg
  have := h g rfl j d hd
  rw [World.cell?_setCell_other _ _ _ _ (fun e => by simp only [Addr.mk.injEq, and_true, true_and] at e; omega), World.cell?_setCell_other _ _ _ _ (fun e => by simp only [Addr.mk.injEq, and_true, true_and] at e; omega)]
  exact this
theorem Cts.typ {w w' : World} {ds : List RuD} {g : Nat} {T : TypeId} {cur : Array Value} (h : Cts w (some ⟨g, 0, none⟩) ds) (ht : Typ T w w') (hg : w.heap[g]? = some (Obj.cells cur 75 (0, 0))) (hne : (show TypeId from 75) ≠ T) : Cts w' (some ⟨g, 0, none⟩) ds := fun g' hg' j d hd => by
  simp only [Option.some.injEq, Addr.mk.injEq, and_true] at hg'
  subst hg'
  have e := ht g cur _ _ hg hne
  have := h g rfl j d hd
  rw [World.cell?_of_block (a := ⟨g, j * 3 + 1, none⟩) e, World.cell?_of_block (a := ⟨g, j * 3 + 2, none⟩) e]
  exact this
/-- The rows behind a rule are the call's own, and below hi. -/
def NestL (w : World) (lo hi : Nat) (d : RuD) : Prop := OwnL w lo hi 100 3 d.vg d.r.gs.length ∧ OwnL w lo hi 79 2 d.ve d.r.es.length ∧ d.r.gs.length ≤ 1048576 ∧ d.r.es.length ≤ 1048576
theorem NestL.mk {lo hi lo2 hi2 : Nat} {a b : World} {d : RuD} (h : NestL a lo2 hi2 d) (hm : Mk lo hi a b) : NestL b lo2 hi2 d := ⟨h.1.mk hm, h.2.1.mk hm, h.2.2⟩
/-- The end of a mark that touches rows of several types. -/
def RetMo (lo hi : Nat) (bd : Nat) (w : World) (e : Ending) (w' : World) : Prop := ∃ kk : Nat, kk ≤ bd ∧ e = .returned (.int .i64 kk) ∧ Mk lo hi w w'
set_option maxHeartbeats 1000000 in
set_option maxRecDepth 100000 in
theorem c_markRuleS (A : Option Addr) (c n lo hi k : Nat) (ds : List RuD) (w : World) (hk : k ≤ 10000000000) (hn : n ≤ 1048576) (hds : ds.length = n) (ho : OwnL w lo hi 75 3 (.slice A n c) n) (hc : Cts w A ds) (hN : ∀ d ∈ ds, NestL w lo hi d) :
    Calls Tryz.prog 33 #[.slice A n c, .int .i64 k] w (RetMo lo hi (k + n * 5242881) w) := by
  have HO := Lib.hid ho
  have HC := Lib.hid hc
  have HN := Lib.hid hN
  have HD := Lib.hid hds
  clear ho hc hN hds
  go_enter Tryz.func33, Tryz.ntmps33
  go_wp2
  go_loopw [1, 5] (fun t i wr => ∃ j kk : Nat, j ≤ n ∧ kk ≤ k + j * 5242881 ∧ i = .int .i64 j ∧ t = .int .i64 kk ∧ Hid (Cts wr A ds) ∧ Mk lo hi w wr) (fun _ i _ => n - (intOf i).toNat)
  case atStart => exact ⟨0, k, Nat.zero_le _, by omega, rfl, rfl, HC, Mk.refl _ _ _⟩
  case round =>
    obtain ⟨j, kk, hj, hkk, rfl, rfl, hct, hm⟩ := hrel
    by_cases hlt : j < n
    · obtain ⟨d, hd⟩ : ∃ z, ds[j]? = some z := ⟨_, List.getElem?_eq_getElem (by have := HD.out; omega)⟩
      obtain ⟨g, rfl, hg1, hg2, _, _⟩ := (HO.out.mk hm).blk (by omega)
      have HDD := Lib.hid hd
      have HM := Lib.hid hm
      have HNd := Lib.hid (HN.out d (List.mem_of_getElem? hd))
      have hgn := HNd.out.2.2.1
      have hen := HNd.out.2.2.2
      clear hd hm
      go_wp2_with (fail)
      refine (c_markText kk _ (by omega)).mono ?_
      rintro e w2 ⟨s, rfl, hb⟩
      have HM2 := Lib.hid (HM.out.trans (Mk.of_below (lo := lo) (hi := hi) hb))
      have HC2 := Lib.hid (hct.out.below hb)
      clear hb hct
      obtain ⟨g', hgg, _, _, ⟨cur, hcur⟩, hce⟩ := (HO.out.mk HM2.out).blk (by omega)
      simp only [Option.some.injEq, Addr.mk.injEq, and_true] at hgg
      subst hgg
      obtain ⟨⟨o0, e0⟩, f0⟩ := hce (j * 3) (by omega)
      clear hce
      have HC3 := Lib.hid (HC2.out.set j (.string s))
      have HM3 := Lib.hid (HM2.out.setCell (p := ⟨g, j * 3, none⟩) (.string s) hg1 hg2)
      obtain ⟨cur3, hcur3⟩ := heap_set (off := j * 3) hcur (.string s)
      have HH3 := Lib.hid hcur3
      clear hcur hcur3
      have l1 := (HC3.out g rfl j d HDD.out).1
      unfold RuD.vg at l1
      go_wp2_with (fail)
      generalize w2.setCell ⟨g, j * 3, none⟩ (.string s) = w3 at *
      clear e0 f0 l1 HC2 HM2
      refine (c_markTestZ d.ag d.cg _ lo hi (kk + 1) _ _ (by omega) (by omega) hgn (HNd.out.1.mk HM3.out)).mono ?_
      rintro e w4 ⟨k4, hk4, rfl, hm4, ht4⟩
      have HM4 := Lib.hid (HM3.out.trans hm4)
      have HC4 := Lib.hid (HC3.out.typ ht4 HH3.out (by decide))
      have HH4 := Lib.hid ((ht4 g cur3 _ _ HH3.out (by decide)).trans HH3.out)
      clear hm4 ht4 HC3 HM3 HH3
      have l2 := (HC4.out g rfl j d HDD.out).2
      unfold RuD.ve at l2
      go_wp2_with (fail)
      refine (c_markAssignZ d.ae d.ce _ lo hi k4 _ _ (by omega) (by omega) hen (HNd.out.2.1.mk HM4.out)).mono ?_
      rintro e w5 ⟨k5, hk5, rfl, hm5, ht5⟩
      have HM5 := Lib.hid (HM4.out.trans hm5)
      have HC5 := Lib.hid (HC4.out.typ ht5 HH4.out (by decide))
      clear hm5 ht5 HC4 HM4 HH4 l2
      go_wp2
      go_roundw
      case rel => exact ⟨j + 1, k5, by omega, by omega, by go_num, rfl, HC5, HM5.out⟩
      case measure => simp [intOf]; omega
    · obtain rfl : j = n := by omega
      have HM := Lib.hid hm
      clear hm
      go_wp2
      go_ret
      exact ⟨kk, hkk, rfl, HM.out⟩
end Go.Proofs.YtdjehopcpjkgjaaGreat

/- The mark of a model: what it touches. No condition but the sizes. -/
namespace Go.Proofs.YtdjehopcpjkgjaaGreat
open Go.RowKit

set_option maxRecDepth 100000 in
theorem c_markIntsL (A : Option Addr) (c n lo hi k : Nat) (kz : Int) (w : World) (hz : kz = (k : Int)) (hk : k ≤ 100000000000000) (hn : n ≤ 1048576) (ho : OwnL w lo hi 2 1 (.slice A n c) n) :
    Calls Tryz.prog 15 #[.slice A n c, .int .i64 kz] w (RetMo lo hi (k + n) w) := by
  subst hz
  have HO := Lib.hid ho
  clear ho
  go_enter Tryz.func15, Tryz.ntmps15
  go_wp2
  go_loopw [1, 5] (fun t i wr => ∃ j kk : Nat, j ≤ n ∧ kk ≤ k + j ∧ i = .int .i64 j ∧ t = .int .i64 kk ∧ Mk lo hi w wr) (fun _ i _ => n - (intOf i).toNat)
  case atStart => exact ⟨0, k, Nat.zero_le _, by omega, rfl, rfl, Mk.refl _ _ _⟩
  case round =>
    obtain ⟨j, kk, hj, hkk, rfl, rfl, hm⟩ := hrel
    by_cases hlt : j < n
    · obtain ⟨g, rfl, hg1, hg2, _, hc⟩ := (HO.out.mk hm).blk (by omega)
      obtain ⟨⟨o0, e0⟩, f0⟩ := hc j (by omega)
      have HM := Lib.hid (fun v0 => hm.setCell (p := ⟨g, j, none⟩) v0 hg1 hg2)
      clear hc hm
      go_wp2
      go_roundw
      case rel => exact ⟨j + 1, kk + 1, by omega, by omega, by go_num, by go_num, HM.out _⟩
      case measure => simp [intOf]; omega
    · obtain rfl : j = n := by omega
      have HM := Lib.hid hm
      clear hm
      go_wp2
      go_ret
      exact ⟨kk, hkk, rfl, HM.out⟩
theorem OwnL.of_own {w : World} {lo : Nat} {e : TypeId} {size n : Nat} {v : Value} {xs : List Value} (h : w.ownsRow lo e size v n xs) : OwnL w lo w.heap.size e size v n := ⟨⟨xs, h⟩, fun q hq => (h.lt q hq).2⟩
theorem OwnL.below {w w' : World} {lo hi : Nat} {e : TypeId} {size n : Nat} {v : Value} (h : OwnL w lo hi e size v n) (hb : Below w.heap.size w w') : OwnL w' lo hi e size v n := by
  obtain ⟨⟨xs, ho⟩, hq⟩ := h
  exact ⟨⟨xs, own_below ho hb⟩, hq⟩
/-- The rows of a model are the call's own, and lie below hi. -/
structure MOwnL (w : World) (lo hi : Nat) (az ax ar : Option Addr) (cz cs cr : Nat) (m : Mdl) (ds : List RuD) : Prop where
  z : OwnL w lo hi 2 1 (.slice az m.sz.length cz) m.sz.length
  s : OwnL w lo hi 2 1 (.slice ax m.st.length cs) m.st.length
  r : OwnL w lo hi 75 3 (.slice ar m.rs.length cr) m.rs.length
  c : Cts w ar ds
  l : ds.length = m.rs.length
  n : ∀ d ∈ ds, NestL w lo hi d
theorem MOwn.toL {w : World} {lo : Nat} {az ax ar : Option Addr} {cz cs cr : Nat} {m : Mdl} {ds : List RuD} (h : MOwn w lo az ax ar cz cs cr m ds) (hok : MdlOk m) : MOwnL w lo w.heap.size az ax ar cz cs cr m ds := by
  refine ⟨.of_own h.z, .of_own h.s, .of_own h.r, fun g hg j d hd => ?_, by rw [← h.e, List.length_map], fun d hd => ?_⟩
  · subst hg
    obtain ⟨_, u1, u2⟩ := rudCells_at hd
    have c1 := h.r.cells (g := g) rfl _ _ u1
    have c2 := h.r.cells (g := g) rfl _ _ u2
    have hadd : ∀ q, (⟨g, 0, none⟩ : Addr).add q = ⟨g, 0 + q, none⟩ := fun q => by unfold Addr.add; split <;> simp_all
    rw [hadd, Nat.zero_add] at c1 c2
    exact ⟨c1, c2⟩
  · have hm : d.r ∈ m.rs := by rw [← h.e]; exact List.mem_map.2 ⟨d, hd, rfl⟩
    exact ⟨.of_own (h.d d hd).1, .of_own (h.d d hd).2, (hok.2.2.2 _ hm).1, (hok.2.2.2 _ hm).2⟩
theorem MOwnL.below {w w' : World} {lo hi : Nat} {az ax ar : Option Addr} {cz cs cr : Nat} {m : Mdl} {ds : List RuD} (h : MOwnL w lo hi az ax ar cz cs cr m ds) (hb : Below w.heap.size w w') : MOwnL w' lo hi az ax ar cz cs cr m ds :=
  ⟨h.z.below hb, h.s.below hb, h.r.below hb, h.c.below hb, h.l, fun d hd => ⟨(h.n d hd).1.below hb, (h.n d hd).2.1.below hb, (h.n d hd).2.2⟩⟩
theorem Cts.typ2 {w w' : World} {A : Option Addr} {ds : List RuD} {lo hi : Nat} {n c : Nat} (h : Cts w A ds) (ho : OwnL w lo hi 75 3 (.slice A n c) n) (hl : ds.length = n) (ht : Typ 2 w w') : Cts w' A ds := by
  rcases Nat.eq_zero_or_pos n with h0 | h0
  · intro g _ j d hd
    have : ds = [] := List.eq_nil_of_length_eq_zero (by omega)
    subst this
    simp at hd
  · obtain ⟨g, rfl, _, _, ⟨cur, hcur⟩, _⟩ := ho.blk h0
    exact h.typ ht hcur (by decide)
set_option maxHeartbeats 1000000 in
set_option maxRecDepth 100000 in
theorem c_markIntsT (A : Option Addr) (c n lo hi k : Nat) (kz : Int) (w : World) (hz : kz = (k : Int)) (hk : k ≤ 100000000000000) (hn : n ≤ 1048576) (ho : OwnL w lo hi 2 1 (.slice A n c) n) :
    Calls Tryz.prog 15 #[.slice A n c, .int .i64 kz] w (RetMk 2 lo hi (k + n) w) := by
  subst hz
  have HO := Lib.hid ho
  clear ho
  go_enter Tryz.func15, Tryz.ntmps15
  go_wp2
  go_loopw [1, 5] (fun t i wr => ∃ j kk : Nat, j ≤ n ∧ kk ≤ k + j ∧ i = .int .i64 j ∧ t = .int .i64 kk ∧ Mk lo hi w wr ∧ Typ 2 w wr) (fun _ i _ => n - (intOf i).toNat)
  case atStart => exact ⟨0, k, Nat.zero_le _, by omega, rfl, rfl, Mk.refl _ _ _, Typ.refl _ _⟩
  case round =>
    obtain ⟨j, kk, hj, hkk, rfl, rfl, hm, ht⟩ := hrel
    by_cases hlt : j < n
    · obtain ⟨g, rfl, hg1, hg2, ⟨cur, hcur⟩, hc⟩ := (HO.out.mk hm).blk (by omega)
      obtain ⟨⟨o0, e0⟩, f0⟩ := hc j (by omega)
      have HM := Lib.hid (fun v0 => hm.setCell (p := ⟨g, j, none⟩) v0 hg1 hg2)
      have HT := Lib.hid (fun v0 => ht.set (off := j) (n := j) hcur v0 rfl)
      clear hc hm ht hcur
      go_wp2
      go_roundw
      case rel => exact ⟨j + 1, kk + 1, by omega, by omega, by go_num, by go_num, HM.out _, HT.out _⟩
      case measure => simp [intOf]; omega
    · obtain rfl : j = n := by omega
      have HM := Lib.hid hm
      have HT := Lib.hid ht
      clear hm ht
      go_wp2
      go_ret
      exact ⟨kk, hkk, rfl, HM.out, HT.out⟩
set_option maxHeartbeats 1000000 in
set_option maxRecDepth 100000 in
theorem c_markModel (m : Mdl) (az ax ar : Option Addr) (cz cs cr : Nat) (ds : List RuD) (lo hi : Nat) (w : World) (hok : MdlOk m) (ho : MOwnL w lo hi az ax ar cz cs cr m ds) (hhi : hi ≤ w.heap.size) :
    Calls Tryz.prog 14 #[mv m az ax ar cz cs cr, .int .i64 1] w (RetMo lo hi 10000000000000 w) := by
  have HO := Lib.hid ho
  have h1 := hok.1
  have h2 := hok.2.1
  have h3 := hok.2.2.1
  have HL := Lib.hid ho.l
  have hal : Hid (∀ o, MOwnL (w.alloc o) lo hi az ax ar cz cs cr m ds) := Lib.hid fun o => ho.below (below_alloc (Below.refl _ _) o)
  clear ho hok
  dsimp only [mv] at *
  have HMZ := Lib.hid (fun w' (h : OwnL w' lo hi 2 1 (.slice az m.sz.length cz) m.sz.length) => c_markIntsT az cz m.sz.length lo hi 1 1 w' rfl (by omega) h1 h)
  have HMS := Lib.hid (fun k (hk : k ≤ 2097152) w' (h : OwnL w' lo hi 2 1 (.slice ax m.st.length cs) m.st.length) => c_markIntsT ax cs m.st.length lo hi k k w' rfl (by omega) h2 h)
  have HMR := Lib.hid (fun k (hk : k ≤ 5000000) w' h hc hn => c_markRuleS ar cr m.rs.length lo hi k ds w' (by omega) h3 HL.out h hc hn)
  have HZ := Lib.hid (fun o => (hal.out o).z)
  have HS := Lib.hid (fun o => (hal.out o).s)
  have HR := Lib.hid (fun o => (hal.out o).r)
  have HC := Lib.hid (fun o => (hal.out o).c)
  have HN := Lib.hid (fun o => (hal.out o).n)
  clear HO hal
  generalize m.sz.length = sn at *
  generalize m.st.length = tn at *
  generalize m.rs.length = rn at *
  go_enter Tryz.func14, Tryz.ntmps14
  go_wp2_with (fail)
  refine (HMZ.out _ (HZ.out _)).mono ?_
  rintro e w1 ⟨k1, hk1, rfl, hm1, ht1⟩
  have a1 : w1.cell? ⟨w.heap.size, 1, none⟩ = some (.slice ax tn cs) := hm1.cell (by go_simp) (.inr hhi)
  have a2 : w1.cell? ⟨w.heap.size, 2, none⟩ = some (.slice ar rn cr) := hm1.cell (by go_simp) (.inr hhi)
  have S1 := Lib.hid ((HS.out _).mk hm1)
  have R1 := Lib.hid ((HR.out _).mk hm1)
  have C1 := Lib.hid ((HC.out _).typ2 (HR.out _) HL.out ht1)
  have N1 := Lib.hid (fun d hd => (HN.out _ d hd).mk hm1)
  have M1 := Lib.hid ((Mk.of_below (lo := lo) (hi := hi) (below_alloc (Below.refl w.heap.size w) _)).trans hm1)
  clear hm1 ht1
  go_wp2_with (fail)
  refine (HMS.out k1 (by omega) _ S1.out).mono ?_
  rintro e w2 ⟨k2, hk2, rfl, hm2, ht2⟩
  have b2 : w2.cell? ⟨w.heap.size, 2, none⟩ = some (.slice ar rn cr) := hm2.cell a2 (.inr hhi)
  have R2 := Lib.hid (R1.out.mk hm2)
  have C2 := Lib.hid (C1.out.typ2 R1.out HL.out ht2)
  have N2 := Lib.hid (fun d hd => (N1.out d hd).mk hm2)
  have M2 := Lib.hid (M1.out.trans hm2)
  clear hm2 ht2 a1 a2
  go_wp2_with (fail)
  refine (HMR.out k2 (by omega) _ R2.out C2.out N2.out).mono ?_
  rintro e w3 ⟨k3, hk3, rfl, hm3⟩
  have M3 := Lib.hid (M2.out.trans hm3)
  clear hm3
  go_wp2
  go_ret
  exact ⟨k3, by omega, rfl, M3.out⟩
end Go.Proofs.YtdjehopcpjkgjaaGreat

/- append of a list of numbers to a list of the call's own; slices.Clone, l01Own (the seats without layouts). No condition but the sizes. -/
namespace Go.Proofs.YtdjehopcpjkgjaaGreat
open Go.RowKit

theorem own_prefix {w : World} {base : Nat} {e : TypeId} {size g n cap : Nat} {xs : List Value} (h : w.ownsRow base e size (.slice (some ⟨g, 0, none⟩) n cap) n xs) {i : Nat} (hi : i ≤ n) :
    w.ownsRow base e size (.slice (some ⟨g, 0, none⟩) i cap) i (xs.take (i * size)) := by
  have hle := Nat.mul_le_mul_right size hi
  refine ⟨by rw [List.length_take, h.1]; omega, ?_⟩
  rcases h.2 with ⟨h', _⟩ | ⟨g', cap', cur, h', hb, hg, hnc, hcm, hcs, ht⟩
  · simp at h'
  · simp only [Value.slice.injEq, Option.some.injEq, Addr.mk.injEq, and_true, true_and] at h'
    obtain ⟨rfl, rfl⟩ := h'
    refine .inr ⟨g, cap, cur, rfl, hb, hg, by omega, hcm, hcs, ?_⟩
    rw [← ht, List.take_take, Nat.min_eq_left hle]
theorem own_has {w : World} {base : Nat} {e : TypeId} {size g n cap : Nat} {xs : List Value} (h : w.ownsRow base e size (.slice (some ⟨g, 0, none⟩) n cap) n xs) {j : Nat} (hj : j < cap * size) : (w.cell? ⟨g, j, none⟩).isSome = true := by
  rcases h.2 with ⟨h', _⟩ | ⟨g', cap', cur, h', hb, hg, hnc, hcm, hcs, ht⟩
  · simp at h'
  · simp only [Value.slice.injEq, Option.some.injEq, Addr.mk.injEq, and_true, true_and] at h'
    obtain ⟨rfl, rfl⟩ := h'
    rw [cell_of_row w g j cur e (0, 0) hg]
    rw [Array.getElem?_eq_getElem (by omega)]
    rfl
theorem news_of {w : World} {A : Option Addr} {ys : List Int} {ad : Addr} (hr : Rd w A (ints ys)) (hA : A = some ad) : ∀ j u, (ints ys)[j]? = some u → w.cell? (ad.add j) = some u := by
  intro j u hu
  rcases hr with h | ⟨b, off, e, _, hc⟩
  · rw [h] at hu; simp at hu
  · rw [hA] at e
    simp only [Option.some.injEq] at e
    subst e
    rw [Addr.add_lit]
    exact hc j u hu
theorem ints_cells (ys : List Int) : ∀ u ∈ ints ys, u.oneCell' = true := by
  intro u hu
  obtain ⟨x, _, rfl⟩ := List.mem_map.1 hu
  rfl
theorem ints_append (a b : List Int) : ints a ++ ints b = ints (a ++ b) := by simp [ints]
theorem wpList_append_ints (w : World) {ops : Array Oper} {rest : List Oper} {o : Oper} {a : Act} {Q : Exit → Act → World → Prop} (hgd : o.guard = none) (s x : Operand)
    (ho : o.op = .call { callee := .builtin .append, args := #[s, x], argTypes := #[22, 22] })
    (base : Nat) (v : Value) (n : Nat) (zs ys : List Int) (ad : Addr) (m c : Nat) (hs : a.eval s = v) (hown : w.ownsRow base 2 1 v n (ints zs))
    (hx : a.eval x = .slice (some ad) m c) (hr : Rd w (some ad) (ints ys)) (hm : m = ys.length) (hn : n + m ≤ 1000000000000) (hbase : base ≤ w.heap.size)
    (h : ∀ v' w', w'.ownsRow base 2 1 v' (n + m) (ints (zs ++ ys)) → w.grownBy w' v.ownBlock → (v' = .slice none 0 0 ↔ v = .slice none 0 0 ∧ m = 0) → wpList Tryz.prog ops Q rest (a.put o.dst v') w') : wpList Tryz.prog ops Q (o :: rest) a w := by
  obtain ⟨i0, hi, hz0, hz1, hz2⟩ := info_parts info_int64
  refine wpList_append_own w hgd s x 22 ho base 2 i0 (.int .i64 0) 1 8 Tryz.underlying22 hi hz0 hz1 hz2 rfl (by decide) v n (ints zs) hs hown ad m c (ints ys) hx (by rw [ints_length, hm, Nat.mul_one]) (news_of hr rfl) (ints_cells ys) (by unfold maxLen; omega) (by omega) hbase ?_
  intro v' w' h1 h2 h3
  exact h v' w' (by rw [← ints_append]; exact h1) h2 h3
theorem step_append_fits {ops : Array Oper} {o : Oper} {a : Act} {w : World} {K : Act → World → Prop} {Q : Exit → Act → World → Prop} {E : Prop}
    (hg : o.guard = none) (s x : Operand) (hop : o.op = Op.call { callee := Callee.builtin Builtin.append, args := #[s, x], argTypes := #[22, 22] })
    (base g n cap : Nat) (zs ys : List Int) (hs : a.eval s = .slice (some ⟨g, 0, none⟩) n cap) (hown : w.ownsRow base 2 1 (.slice (some ⟨g, 0, none⟩) n cap) n (ints zs))
    (ad : Addr) (m c : Nat) (hx : a.eval x = .slice (some ad) m c) (hr : Rd w (some ad) (ints ys)) (hm : m = ys.length) (hroom : n + m ≤ cap)
    (h : ∀ w', w'.ownsRow base 2 1 (.slice (some ⟨g, 0, none⟩) (n + m) cap) (n + m) (ints (zs ++ ys)) → w.grownBy w' (some g) → K (a.put o.dst (.slice (some ⟨g, 0, none⟩) (n + m) cap)) w') :
    if Region.wanted o (yielded ops a.tmps) = true then Oper.wp Tryz.prog o a w K Q else E := by
  obtain ⟨i0, hi, hz0, hz1, hz2⟩ := info_parts info_int64
  have hw : Region.wanted o (yielded ops a.tmps) = true := by simp [Region.wanted, hg]
  rw [if_pos hw]
  obtain ⟨w', hrun, h1, h2⟩ := run_append_fits (P := Tryz.prog) w base 22 o.type 2 i0 1 Tryz.underlying22 hi hz1 g n cap (ints zs) hown ad m c (ints ys) (by rw [ints_length, hm, Nat.mul_one]) (news_of hr rfl) (ints_cells ys) hroom
  unfold Oper.wp
  simp [execOp, hop, resolve, invoke, builtin, hs, hx, hrun, Result.andThen]
  exact h w' (by rw [← ints_append]; exact h1) h2
theorem step_append_ints (w : World) {ops : Array Oper} {o : Oper} {a : Act} {K : Act → World → Prop} {Q : Exit → Act → World → Prop} {E : Prop} (hgd : o.guard = none) (s x : Operand)
    (ho : o.op = .call { callee := .builtin .append, args := #[s, x], argTypes := #[22, 22] })
    (base : Nat) (v : Value) (n : Nat) (zs ys : List Int) (ad : Addr) (m c : Nat) (hs : a.eval s = v) (hown : w.ownsRow base 2 1 v n (ints zs))
    (hx : a.eval x = .slice (some ad) m c) (hr : Rd w (some ad) (ints ys)) (hm : m = ys.length) (hn : n + m ≤ 1000000000000) (hbase : base ≤ w.heap.size)
    (h : ∀ v' w', w'.ownsRow base 2 1 v' (n + m) (ints (zs ++ ys)) → w.grownBy w' v.ownBlock → (v' = .slice none 0 0 ↔ v = .slice none 0 0 ∧ m = 0) → K (a.put o.dst v') w') :
    if Region.wanted o (yielded ops a.tmps) = true then Oper.wp Tryz.prog o a w K Q else E := by
  obtain ⟨i0, hi, hz0, hz1, hz2⟩ := info_parts info_int64
  have hw : Region.wanted o (yielded ops a.tmps) = true := by simp [Region.wanted, hgd]
  rw [if_pos hw]
  refine wp_append_own w s x 22 ho base 2 i0 (.int .i64 0) 1 8 Tryz.underlying22 hi hz0 hz1 hz2 rfl (by decide) v n (ints zs) hs hown ad m c (ints ys) hx (by rw [ints_length, hm, Nat.mul_one]) (news_of hr rfl) (ints_cells ys) (by unfold maxLen; omega) (by omega) hbase ?_
  intro v' w' h1 h2 h3
  exact h v' w' (by rw [← ints_append]; exact h1) h2 h3
set_option maxRecDepth 100000 in
theorem c_l01Own (b off c n : Nat) (zs : List Int) (w : World) (hn : n = zs.length) (hs : n ≤ 100000000) (hr : Rd w (some ⟨b, off, none⟩) (ints zs)) :
    Calls Tryz.prog 36 #[.slice (some ⟨b, off, none⟩) n c] w fun e w' => ∃ g c', e = .returned (.slice (some ⟨g, 0, none⟩) n c') ∧ w'.ownsRow w.heap.size 2 1 (.slice (some ⟨g, 0, none⟩) n c') n (ints zs) ∧ Below w.heap.size w w' := by
  have HN := Lib.hid hn
  have HR := Lib.hid hr
  clear hn hr
  go_enter Tryz.func36, Tryz.ntmps36
  go_wp2_with (first
    | (at_builtin
       refine wpList_append_ints _ (by rfl) (.tmp 3) (.tmp 4) (by rfl) w.heap.size (.slice (some ⟨w.heap.size, 0, none⟩) 0 0) 0 [] zs ⟨b, off, none⟩ n c (by rfl) (World.ownsRow_made w #[] 0 (Nat.le_refl _) (Nat.zero_le _) rfl) (by rfl) (HR.out.alloc _) HN.out (by omega) (by simp) ?_
       intro v' w1 hown hgrow hnil
       have HO := Lib.hid hown
       have HB := Lib.hid (show Below w.heap.size w w1 from ((Below.refl _ w).alloc (Nat.le_refl _) _).grown hgrow (by simp) (by intro k hk; simp [Value.ownBlock] at hk; omega))
       have HV := Lib.hid (show ∃ g c', v' = .slice (some ⟨g, 0, none⟩) n c' by
         rcases hown.2 with ⟨h1, h2⟩ | ⟨g, cap, cur, h1, _⟩
         · rw [hnil] at h1; simp at h1
         · exact ⟨g, cap, by rw [h1, Nat.zero_add]⟩)
       clear hown hgrow hnil)
    )
  go_ret
  obtain ⟨g, c', rfl⟩ := HV.out
  refine ⟨g, c', rfl, by simpa using HO.out, HB.out⟩
set_option maxRecDepth 100000 in
theorem c_Clone (b off c n : Nat) (zs : List Int) (w : World) (hn : n = zs.length) (hs : n ≤ 100000000) (hr : Rd w (some ⟨b, off, none⟩) (ints zs)) :
    Calls Tryz.prog 83 #[.slice (some ⟨b, off, none⟩) n c] w fun e w' => ∃ g c', e = .returned (.slice (some ⟨g, 0, none⟩) n c') ∧ w'.ownsRow w.heap.size 2 1 (.slice (some ⟨g, 0, none⟩) n c') n (ints zs) ∧ Below w.heap.size w w' := by
  have HN := Lib.hid hn
  have HR := Lib.hid hr
  clear hn hr
  have q22 : ∀ (w : World) (a : Option Addr) (n c n' c' : Nat), (binOp .eql 22 (.slice a n c) (.slice none n' c')).run Tryz.prog w = .ok (.bool a.isNone) w := fun w a n c n' c' => Lib.run_eql_slice_nil w _ _ a n c n' c' Tryz.underlying22
  go_enter Tryz.func83, Tryz.ntmps83
  go_wp2_with (first
    | (at_builtin
       refine wpList_append_ints _ (by rfl) (.tmp 5) (.tmp 6) (by rfl) w.heap.size (.slice (some ⟨w.heap.size, 0, none⟩) 0 0) 0 [] zs ⟨b, off, none⟩ n c (by rfl) (World.ownsRow_made w #[] 0 (Nat.le_refl _) (Nat.zero_le _) rfl) (by rfl) (HR.out.alloc _) HN.out (by omega) (by simp) ?_
       intro v' w1 hown hgrow hnil
       have HO := Lib.hid hown
       have HB := Lib.hid (show Below w.heap.size w w1 from ((Below.refl _ w).alloc (Nat.le_refl _) _).grown hgrow (by simp) (by intro k hk; simp [Value.ownBlock] at hk; omega))
       have HV := Lib.hid (show ∃ g c', v' = .slice (some ⟨g, 0, none⟩) n c' by
         rcases hown.2 with ⟨h1, h2⟩ | ⟨g, cap, cur, h1, _⟩
         · rw [hnil] at h1; simp at h1
         · exact ⟨g, cap, by rw [h1, Nat.zero_add]⟩)
       clear hown hgrow hnil)
    )
  go_ret
  obtain ⟨g, c', rfl⟩ := HV.out
  refine ⟨g, c', rfl, by simpa using HO.out, HB.out⟩
end Go.Proofs.YtdjehopcpjkgjaaGreat

/- The state to which a rule leads: apply (program), l20Apply (reference). Condition: the effect's variables lie within the state. -/
namespace Go.Proofs.YtdjehopcpjkgjaaGreat
open Go.RowKit

def ap1 (vs : List Int) (a : Asg) : List Int := vs.set a.v.toNat a.x
def apL (vs : List Int) (es : List Asg) : List Int := es.foldl ap1 vs
theorem apL_snoc {vs : List Int} {es : List Asg} {k : Nat} {a : Asg} (h : es[k]? = some a) : apL vs (es.take (k + 1)) = (apL vs (es.take k)).set a.v.toNat a.x := by
  unfold apL
  rw [List.take_add_one, h, List.foldl_append]
  rfl
theorem apL_len : ∀ (es : List Asg) (vs : List Int), (apL vs es).length = vs.length
  | [], _ => rfl
  | a :: es, vs => by
    have := apL_len es (ap1 vs a)
    unfold apL at this ⊢
    rw [List.foldl_cons, this]
    simp [ap1]
/-- The effect's variables lie within the state. -/
def EsIn (n : Nat) (es : List Asg) : Prop := ∀ a ∈ es, 0 ≤ a.v ∧ a.v < n
theorem es_in {sz : List Int} {es : List Asg} (h : esK sz es es.length = true) : EsIn sz.length es := by
  intro a ha
  obtain ⟨k, hk, rfl⟩ := List.getElem_of_mem ha
  unfold esK at h
  rw [List.all_eq_true] at h
  have := h k (List.mem_range.2 hk)
  unfold esS at this
  rw [getDA (List.getElem?_eq_getElem hk)] at this
  simp [hasB, inB] at this
  omega
theorem ints_set (l : List Int) (j : Nat) (x : Int) : (ints l).set j (.int .i64 x) = ints (l.set j x) := by simp [ints, List.map_set]
/-- A list of the call's own of length n, in one block. -/
def RetI3 (n : Nat) (zs : List Int) (w : World) (e : Ending) (w' : World) : Prop :=
  ∃ g c, e = .returned (.slice (some ⟨g, 0, none⟩) n c) ∧ w'.ownsRow w.heap.size 2 1 (.slice (some ⟨g, 0, none⟩) n c) n (ints zs) ∧ Below w.heap.size w w'
set_option maxHeartbeats 1000000 in
set_option maxRecDepth 100000 in
theorem c_apply (nm : ByteArray) (ag ae : Option Addr) (gn cg en ce : Nat) (es : List Asg) (b off c vn : Nat) (vs : List Int) (w : World) (hvn : vn = vs.length) (hvl : vn ≤ 1048576) (hen : en = es.length) (hel : en ≤ 1048576) (hin : EsIn vn es) (hv : Rd w (some ⟨b, off, none⟩) (ints vs)) (he : Rd w ae (asgCells es)) :
    Calls Tryz.prog 55 #[.agg #[.string nm, .slice ag gn cg, .slice ae en ce], .slice (some ⟨b, off, none⟩) vn c] w (RetI3 vn (apL vs es) w) := by
  have HIN := Lib.hid hin
  have HE := Lib.hid he
  have HEN := Lib.hid hen
  have HVN := Lib.hid hvn
  have HCL := Lib.hid (fun w' h => c_Clone b off c vn vs w' hvn (by omega) h)
  have HV := Lib.hid hv
  clear hin he hen hvn hv
  go_enter Tryz.func55, Tryz.ntmps55
  go_wp2_with (fail)
  refine (HCL.out _ (HV.out.alloc _)).mono ?_
  rintro e w1 ⟨g, c', rfl, ho, hb⟩
  have k2 : w1.cell? ⟨w.heap.size, 2, none⟩ = some (.slice ae en ce) := cell_later hb (by go_simp)
  have HO0 := Lib.hid (own_mono ho (show w.heap.size + 1 ≤ _ by simp))
  have HB0 := Lib.hid (below_chain (by (repeat (first | exact Below.refl _ _ | assumption | refine below_alloc ?_ _ | refine below_drewN ?_ _ | refine below_set ?_ _ (by simp; try omega) | refine Below.drew ?_)) : Below w.heap.size w _) hb)
  have hg0 : w.heap.size + 1 ≤ g := by have := (ho.lt g rfl).1; simp at this; omega
  clear ho hb
  go_wp2
  clear k2
  go_loopw [13] (fun i wr => ∃ k : Nat, k ≤ en ∧ i = .int .i64 k ∧ Hid (wr.ownsRow (w.heap.size + 1) 2 1 (.slice (some ⟨g, 0, none⟩) vn c') vn (ints (apL vs (es.take k)))) ∧ Below w.heap.size w wr) (fun i _ => en - (intOf i).toNat)
  case atStart => exact ⟨0, Nat.zero_le _, rfl, HO0, HB0.out⟩
  case round =>
    clear HO0 HB0
    obtain ⟨k, hk, rfl, ho, hb⟩ := hrel
    by_cases hlt : k < en
    · obtain ⟨a, hz⟩ : ∃ z, es[k]? = some z := ⟨_, List.getElem?_eq_getElem (by have := HEN.out; omega)⟩
      obtain ⟨b2, off2, rfl, _, g0, g1⟩ := (HE.out.below hb).asg hz
      have hai := HIN.out a (List.mem_of_getElem? hz)
      have HS := Lib.hid (apL_snoc (vs := vs) hz)
      obtain ⟨av, ax⟩ := a
      dsimp only at *
      obtain ⟨j, rfl⟩ : ∃ j : Nat, av = j := ⟨av.toNat, by omega⟩
      have hj : j < vn := by omega
      have hj0 : (0 : Int) ≤ (j : Int) := by omega
      have hj1 : (j : Int) < (vn : Int) := by omega
      have HB := Lib.hid hb
      have ho1 := own_below ho.out (below_alloc (Below.refl wr.heap.size wr) (Obj.cells #[Value.int .i64 (j : Int), Value.int .i64 ax] 79))
      have f0 := ho1.frozenAt j
      obtain ⟨o0, e0⟩ := own_cell ho1 (j := j) (by omega)
      have hst := (ho1.stored j (.int .i64 ax)).1
      rw [ints_set] at hst
      have HST := Lib.hid hst
      clear hz hai hb ho ho1 hst
      go_wp2
      go_roundw
      case rel => exact ⟨k + 1, by omega, by go_num, Lib.hid (by rw [HS.out, Int.toNat_natCast]; exact HST.out), below_set (below_alloc HB.out _) _ (by dsimp only; omega)⟩
      case measure => simp [intOf]; omega
    · obtain rfl : k = en := by omega
      have hA := ho.out
      rw [List.take_of_length_le (by have := HEN.out; omega)] at hA
      have HA := Lib.hid hA
      have HB := Lib.hid hb
      clear hA ho hb
      go_wp2
      go_ret
      exact ⟨g, c', rfl, own_mono HA.out (by omega), HB.out⟩
set_option maxHeartbeats 1000000 in
set_option maxRecDepth 100000 in
theorem c_l20Apply (m : Mdl) (az ax ar : Option Addr) (cz cs cr : Nat) (k0 : Nat) (r : Rul) (b off c vn : Nat) (vs : List Int) (w : World) (hr : m.rs[k0]? = some r) (_hrl : m.rs.length ≤ 1048576) (hvn : vn = vs.length) (hvl : vn ≤ 1048576) (hel : r.es.length ≤ 1048576) (hin : EsIn vn r.es) (hv : Rd w (some ⟨b, off, none⟩) (ints vs)) (h : Rl w ar m.rs) :
    Calls Tryz.prog 27 #[mv m az ax ar cz cs cr, .slice (some ⟨b, off, none⟩) vn c, .int .i64 k0] w (RetI3 vn (apL vs r.es) w) := by
  have hk0 : k0 < m.rs.length := (List.getElem?_eq_some_iff.1 hr).1
  obtain ⟨bb, ob, ag, cg, ae, ce, rfl, hbb, g0, g1, g2, _, he⟩ := h.at hr
  have HIN := Lib.hid hin
  have HE := Lib.hid he
  have HVN := Lib.hid hvn
  have HCL := Lib.hid (fun w' h => c_l01Own b off c vn vs w' hvn (by omega) h)
  have HV := Lib.hid hv
  have HEN := Lib.hid (rfl : r.es.length = r.es.length)
  clear hin he hvn hv h hr
  dsimp only [mv] at *
  generalize m.sz.length = sn at *
  generalize m.st.length = tn at *
  generalize m.rs.length = rn at *
  generalize r.gs.length = gn at *
  generalize hen : r.es.length = en at *
  replace HEN := Lib.hid hen
  clear hen
  generalize r.es = es at *
  generalize r.nm = nm at *
  have hi0 : (0 : Int) ≤ (k0 : Int) := by omega
  have hi1 : (k0 : Int) < (rn : Int) := by omega
  go_enter Tryz.func27, Tryz.ntmps27
  go_wp2_with (fail)
  refine (HCL.out _ (HV.out.alloc _)).mono ?_
  rintro e w1 ⟨g, c', rfl, ho, hb⟩
  have k2 : w1.cell? ⟨w.heap.size, 2, none⟩ = some (.slice (some ⟨bb, ob, none⟩) rn cr) := cell_later hb (by go_simp)
  have HO0 := Lib.hid (own_mono ho (show w.heap.size + 1 ≤ _ by simp))
  have hst : Below w.heap.size w w1 := below_chain (by (repeat (first | exact Below.refl _ _ | assumption | refine below_alloc ?_ _ | refine below_drewN ?_ _ | refine below_set ?_ _ (by simp; try omega) | refine Below.drew ?_)) : Below w.heap.size w _) hb
  have HB0 := Lib.hid hst
  replace g2 := cell_later hst g2
  have hg0 : w.heap.size + 1 ≤ g := by have := (ho.lt g rfl).1; simp at this; omega
  clear ho hb hst g0 g1
  go_wp2
  clear k2 g2
  go_loopw [9] (fun i wr => ∃ k : Nat, k ≤ en ∧ i = .int .i64 k ∧ Hid (wr.ownsRow (w.heap.size + 1) 2 1 (.slice (some ⟨g, 0, none⟩) vn c') vn (ints (apL vs (es.take k)))) ∧ Below w.heap.size w wr) (fun i _ => en - (intOf i).toNat)
  case atStart => exact ⟨0, Nat.zero_le _, rfl, HO0, HB0.out⟩
  case round =>
    clear HO0 HB0
    obtain ⟨k, hk, rfl, ho, hb⟩ := hrel
    by_cases hlt : k < en
    · obtain ⟨a, hz⟩ : ∃ z, es[k]? = some z := ⟨_, List.getElem?_eq_getElem (by have := HEN.out; omega)⟩
      obtain ⟨b2, off2, hA2, hlt2, _, _⟩ := HE.out.asg hz
      obtain ⟨b3, off3, hA3, _, g0, g1⟩ := (HE.out.below hb).asg hz
      rw [hA2] at hA3
      simp only [Option.some.injEq, Addr.mk.injEq, and_true] at hA3
      obtain ⟨rfl, rfl⟩ := hA3
      subst hA2
      have hai := HIN.out a (List.mem_of_getElem? hz)
      have HS := Lib.hid (apL_snoc (vs := vs) hz)
      obtain ⟨av, ax⟩ := a
      dsimp only at *
      obtain ⟨j, rfl⟩ : ∃ j : Nat, av = j := ⟨av.toNat, by omega⟩
      have hj : j < vn := by omega
      have hj0 : (0 : Int) ≤ (j : Int) := by omega
      have hj1 : (j : Int) < (vn : Int) := by omega
      have hq0 : (0 : Int) ≤ (k : Int) := by omega
      have hq1 : (k : Int) < (en : Int) := by omega
      have HB := Lib.hid hb
      have f0 := ho.out.frozenAt j
      obtain ⟨o0, e0⟩ := own_cell ho.out (j := j) (by omega)
      have hst := (ho.out.stored j (.int .i64 ax)).1
      rw [ints_set] at hst
      have HST := Lib.hid hst
      clear hz hai hb ho hst
      go_wp2
      refine wp_region_held_drew (S := (fun w' => w'.cell? ⟨b2, off2 + k * 2, none⟩ = some (.int .i64 j) ∧ w'.cell? ⟨b2, off2 + k * 2 + 1, none⟩ = some (.int .i64 ax))) (by kernel_rfl) ?_ (fun hHeld => ?_)
      · exact ⟨g0, g1⟩
      refine rg_take (v := ?_) 0 rfl (by kernel_rfl) (by kernel_rfl) (by kernel_rfl) (fun _ _ _ h => h) (by kernel_rfl) ?_ (by assumption) ?_
      rotate_left
      · (intro w' hSw; (try dsimp only at hSw); go_simp; first | done | with_reducible rfl)
      simp only [Act.put, List.setIfInBounds_toArray, List.set_cons_zero, List.set_cons_succ]
      refine rg_take (v := ?_) 1 rfl (by kernel_rfl) (by kernel_rfl) (by kernel_rfl) (fun _ _ _ h => h) (by kernel_rfl) ?_ (by assumption) ?_
      rotate_left
      · (intro w' hSw; (try dsimp only at hSw); go_simp; first | done | with_reducible rfl)
      simp only [Act.put, List.setIfInBounds_toArray, List.set_cons_zero, List.set_cons_succ]
      refine rg_take (v := ?_) 2 rfl (by kernel_rfl) (by kernel_rfl) (by kernel_rfl) (fun _ _ _ h => h) (by kernel_rfl) ?_ (by assumption) ?_
      rotate_left
      · (intro w' hSw; (try dsimp only at hSw); go_simp; first | done | with_reducible rfl)
      simp only [Act.put, List.setIfInBounds_toArray, List.set_cons_zero, List.set_cons_succ]
      refine rg_take (v := ?_) 3 rfl (by kernel_rfl) (by kernel_rfl) (by kernel_rfl) (fun _ _ _ h => h) (by kernel_rfl) ?_ (by assumption) ?_
      rotate_left
      · (intro w' hSw; (try dsimp only at hSw); go_simp; first | done | with_reducible rfl)
      simp only [Act.put, List.setIfInBounds_toArray, List.set_cons_zero, List.set_cons_succ]
      refine rg_take (v := ?_) 4 rfl (by kernel_rfl) (by kernel_rfl) (by kernel_rfl) (fun _ _ _ h => h) (by kernel_rfl) ?_ (by assumption) ?_
      rotate_left
      · (intro w' hSw; (try dsimp only at hSw); go_simp; first | done | with_reducible rfl)
      simp only [Act.put, List.setIfInBounds_toArray, List.set_cons_zero, List.set_cons_succ]
      refine rg_take (v := ?_) 5 rfl (by kernel_rfl) (by kernel_rfl) (by kernel_rfl) (fun _ _ _ h => h) (by kernel_rfl) ?_ (by assumption) ?_
      rotate_left
      · (intro w' hSw; (try dsimp only at hSw); go_simp; first | done | with_reducible rfl)
      simp only [Act.put, List.setIfInBounds_toArray, List.set_cons_zero, List.set_cons_succ]
      refine rg_take (v := ?_) 6 rfl (by kernel_rfl) (by kernel_rfl) (by kernel_rfl) (fun _ _ _ h => h) (by kernel_rfl) ?_ (by assumption) ?_
      rotate_left
      · (intro w' hSw; (try dsimp only at hSw); go_simp; first | done | with_reducible rfl)
      simp only [Act.put, List.setIfInBounds_toArray, List.set_cons_zero, List.set_cons_succ]
      refine rg_take (v := ?_) 7 rfl (by kernel_rfl) (by kernel_rfl) (by kernel_rfl) (fun _ _ _ h => h) (by kernel_rfl) ?_ (by assumption) ?_
      rotate_left
      · (intro w' hSw; (try dsimp only at hSw); go_simp; first | done | with_reducible rfl)
      simp only [Act.put, List.setIfInBounds_toArray, List.set_cons_zero, List.set_cons_succ]
      refine rg_take (v := ?_) 8 rfl (by kernel_rfl) (by kernel_rfl) (by kernel_rfl) (fun _ _ _ h => h) (by kernel_rfl) ?_ (by assumption) ?_
      rotate_left
      · (intro w' hSw; (try dsimp only at hSw); go_simp; first | done | with_reducible rfl)
      simp only [Act.put, List.setIfInBounds_toArray, List.set_cons_zero, List.set_cons_succ]
      refine rg_take (v := ?_) 9 rfl (by kernel_rfl) (by kernel_rfl) (by kernel_rfl) (fun _ _ _ h => h) (by kernel_rfl) ?_ (by assumption) ?_
      rotate_left
      · (intro w' hSw; (try dsimp only at hSw); go_simp; first | done | with_reducible rfl)
      simp only [Act.put, List.setIfInBounds_toArray, List.set_cons_zero, List.set_cons_succ]
      refine rg_take (v := ?_) 10 rfl (by kernel_rfl) (by kernel_rfl) (by kernel_rfl) (fun _ _ _ h => h) (by kernel_rfl) ?_ (by assumption) ?_
      rotate_left
      · (intro w' hSw; (try dsimp only at hSw); go_simp; first | done | with_reducible rfl)
      simp only [Act.put, List.setIfInBounds_toArray, List.set_cons_zero, List.set_cons_succ]
      refine rg_take (v := ?_) 11 rfl (by kernel_rfl) (by kernel_rfl) (by kernel_rfl) (fun _ _ _ h => h) (by kernel_rfl) ?_ (by assumption) ?_
      rotate_left
      · (intro w' hSw; (try dsimp only at hSw); go_simp; first | done | with_reducible rfl)
      simp only [Act.put, List.setIfInBounds_toArray, List.set_cons_zero, List.set_cons_succ]
      refine rg_run 12 rfl (by kernel_rfl) (by kernel_rfl) (fun K hK => ?_)
      go_simp
      clear hHeld
      refine hK.out _ _ ⟨(World.cell?_setCell_far _ ⟨g, j, none⟩ ⟨b2, off2 + k * 2, none⟩ _ (by dsimp only; omega)).trans (by exact g0), (World.cell?_setCell_far _ ⟨g, j, none⟩ ⟨b2, off2 + k * 2 + 1, none⟩ _ (by dsimp only; omega)).trans (by exact g1)⟩ (fun hHeld => ?_)
      clear hK K
      try simp only [Act.put, List.setIfInBounds_toArray, List.set_cons_zero, List.set_cons_succ]
      refine wpAnyH_done (by kernel_rfl) ?_ _
      clear hHeld
      go_wp2
      go_roundw
      case rel => exact ⟨k + 1, by omega, by go_num, Lib.hid (by rw [HS.out, Int.toNat_natCast]; exact HST.out), below_set HB.out.drew _ (by dsimp only; omega)⟩
      case measure => simp [intOf]; omega
    · obtain rfl : k = en := by omega
      have hA := ho.out
      rw [List.take_of_length_le (by have := HEN.out; omega)] at hA
      have HA := Lib.hid hA
      have HB := Lib.hid hb
      clear hA ho hb
      go_wp2
      go_ret
      exact ⟨g, c', rfl, own_mono HA.out (by omega), HB.out⟩
end Go.Proofs.YtdjehopcpjkgjaaGreat

/- ApplyRule, on both sides. Condition: the lengths are those that the laws let by. -/
namespace Go.Proofs.YtdjehopcpjkgjaaGreat
open Go.RowKit

def arR (m : Mdl) (y : Int) : Rul := m.rs.getD y.toNat rul0
def arC (m : Mdl) (vs : List Int) (y : Int) : Int := if mdB m && stB m.sz vs then (if inB y 0 (m.rs.length - 1) then (if hlB vs (arR m y).gs then 0 else 5) else 4) else stC m vs
def arL (m : Mdl) (vs : List Int) (y : Int) : List Int := if mdB m && stB m.sz vs then (if inB y 0 (m.rs.length - 1) then (if hlB vs (arR m y).gs then apL vs (arR m y).es else []) else []) else []
theorem rl_of {m : Mdl} {r : Rul} (h : mdB m = true) (hr : r ∈ m.rs) : rlB m.sz r = true := by
  unfold mdB rsB at h
  simp only [Bool.and_eq_true, Bool.not_eq_true', List.any_eq_false] at h
  have h3 := h.2.2.2.2 r hr
  simpa using h3
theorem es_of {m : Mdl} {r : Rul} {vs : List Int} (h : mdB m = true) (h2 : stB m.sz vs = true) (hr : r ∈ m.rs) : EsIn vs.length r.es := by
  have h4 := rl_of h hr
  unfold rlB at h4
  simp only [Bool.and_eq_true] at h4
  rw [st_len h2]
  exact es_in h4.1
theorem vs_pos {m : Mdl} {vs : List Int} (h : mdB m = true) (h2 : stB m.sz vs = true) : 1 ≤ vs.length ∧ vs.length ≤ 16 := by
  rw [st_len h2]
  unfold mdB at h
  simp only [Bool.and_eq_true] at h
  have := h.2.1
  simp [inB] at this
  omega
end Go.Proofs.YtdjehopcpjkgjaaGreat

/- Lists of lists of numbers: how they read, how they are owned, how one is appended. No condition but the sizes. -/
namespace Go.Proofs.YtdjehopcpjkgjaaGreat
open Go.RowKit

/-- A list of numbers as it lies in memory. -/
structure IvD where
  l : List Int
  a : Option Addr
  c : Nat
def IvD.v (d : IvD) : Value := .slice d.a d.l.length d.c
def rowsC (ds : List IvD) : List Value := ds.map IvD.v
theorem rowsC_length (ds : List IvD) : (rowsC ds).length = ds.length := by simp [rowsC]
/-- The slice value `.slice A L.length c` holds the lists L. -/
def RdS (w : World) (A : Option Addr) (L : List (List Int)) : Prop :=
  ∃ ds : List IvD, ds.map IvD.l = L ∧ Rd w A (rowsC ds) ∧ ∀ d ∈ ds, Rd w d.a (ints d.l)
theorem RdS.below {w w1 : World} {A : Option Addr} {L : List (List Int)} (h : RdS w A L) (hb : Below w.heap.size w w1) : RdS w1 A L := by
  obtain ⟨ds, e, h1, h2⟩ := h
  exact ⟨ds, e, h1.below hb, fun d hd => (h2 d hd).below hb⟩
theorem RdS.at {w : World} {A : Option Addr} {L : List (List Int)} {k : Nat} {l : List Int} (h : RdS w A L) (hk : L[k]? = some l) : ∃ b off a c, A = some ⟨b, off, none⟩ ∧ b < w.heap.size ∧ w.cell? ⟨b, off + k, none⟩ = some (.slice a l.length c) ∧ Rd w a (ints l) := by
  obtain ⟨ds, rfl, h1, h2⟩ := h
  rw [List.getElem?_map, Option.map_eq_some_iff] at hk
  obtain ⟨d, hd, rfl⟩ := hk
  have u0 : (rowsC ds)[k]? = some d.v := by simp [rowsC, hd]
  obtain ⟨b, off, rfl, hb, hc⟩ := h1.some_ (by intro e; rw [e] at u0; simp at u0)
  exact ⟨b, off, d.a, d.c, rfl, hb, hc _ _ u0, h2 d (List.mem_of_getElem? hd)⟩
/-- The lists are the call's own, each in a block below hi, no two in one; and so is the row of their slices. -/
def OwnS (w : World) (base hi : Nat) (v : Value) (L : List (List Int)) : Prop :=
  ∃ ds : List IvD, ds.map IvD.l = L ∧ w.ownsRow base 22 1 v L.length (rowsC ds) ∧ (∀ d ∈ ds, w.ownsRow base 2 1 d.v d.l.length (ints d.l) ∧ ∀ q, d.v.ownBlock = some q → q < hi) ∧ ds.Pairwise fun a b => ∀ q, a.v.ownBlock = some q → b.v.ownBlock ≠ some q
theorem OwnS.below {w w1 : World} {base hi : Nat} {v : Value} {L : List (List Int)} (h : OwnS w base hi v L) (hb : Below w.heap.size w w1) : OwnS w1 base hi v L := by
  obtain ⟨ds, e, h1, h2, h3⟩ := h
  exact ⟨ds, e, own_below h1 hb, fun d hd => ⟨own_below (h2 d hd).1 hb, (h2 d hd).2⟩, h3⟩
theorem OwnS.mono {w : World} {base base' hi hi' : Nat} {v : Value} {L : List (List Int)} (h : OwnS w base hi v L) (hb : base' ≤ base) (hh : hi ≤ hi') : OwnS w base' hi' v L := by
  obtain ⟨ds, e, h1, h2, h3⟩ := h
  exact ⟨ds, e, own_mono h1 hb, fun d hd => ⟨own_mono (h2 d hd).1 hb, fun q hq => Nat.lt_of_lt_of_le ((h2 d hd).2 q hq) hh⟩, h3⟩
theorem OwnS.rd {w : World} {base hi n c : Nat} {A : Option Addr} {L : List (List Int)} (h : OwnS w base hi (.slice A n c) L) (hn : n = L.length) : RdS w A L := by
  obtain ⟨ds, e, h1, h2, _⟩ := h
  subst hn
  exact ⟨ds, e, Rd.own h1, fun d hd => Rd.own (h2 d hd).1⟩
theorem OwnS.form {w : World} {base hi : Nat} {v : Value} {L : List (List Int)} (h : OwnS w base hi v L) : ∃ A c, v = .slice A L.length c := by
  obtain ⟨ds, _, h1, _⟩ := h
  rcases h1.2 with ⟨e, e2⟩ | ⟨g, cap, cur, e, _⟩
  · exact ⟨none, 0, by rw [e, e2]⟩
  · exact ⟨_, _, e⟩
theorem OwnS.ge {w : World} {base hi : Nat} {v : Value} {L : List (List Int)} (h : OwnS w base hi v L) : ∀ q, v.ownBlock = some q → base ≤ q ∧ q < w.heap.size := by
  obtain ⟨ds, _, h1, _⟩ := h
  exact fun q hq => h1.lt q hq
theorem own_ne {w : World} {b1 b2 : Nat} {e1 e2 : TypeId} {s1 s2 n1 n2 : Nat} {v1 v2 : Value} {x1 x2 : List Value} (h1 : w.ownsRow b1 e1 s1 v1 n1 x1) (h2 : w.ownsRow b2 e2 s2 v2 n2 x2) (he : e1 ≠ e2) : ∀ q, v1.ownBlock = some q → v2.ownBlock = some q → False := by
  intro q hq1 hq2
  rcases h1.2 with ⟨rfl, _⟩ | ⟨g1, c1, cur1, rfl, _, hg1, _⟩
  · simp [Value.ownBlock] at hq1
  · rcases h2.2 with ⟨rfl, _⟩ | ⟨g2, c2, cur2, rfl, _, hg2, _⟩
    · simp [Value.ownBlock] at hq2
    · simp [Value.ownBlock] at hq1 hq2
      subst hq1
      subst hq2
      rw [hg1] at hg2
      simp only [Option.some.injEq, Obj.cells.injEq] at hg2
      exact he hg2.2.1
theorem own_keep {w w' : World} {b1 b2 : Nat} {e1 e2 : TypeId} {s1 s2 n1 n2 : Nat} {v1 v2 : Value} {x1 x2 : List Value} (h1 : w.ownsRow b1 e1 s1 v1 n1 x1) (h2 : w.ownsRow b2 e2 s2 v2 n2 x2) (he : e1 ≠ e2) (hg : w.grownBy w' v2.ownBlock) : w'.ownsRow b1 e1 s1 v1 n1 x1 := by
  refine h1.kept hg ?_
  rcases hv : v1.ownBlock with _ | q
  · exact .inl rfl
  · exact .inr fun h' => own_ne h1 h2 he q hv h'.symm
theorem info_intS : (Tryz.prog.info? 22).map (fun i => (i.zero, i.size, i.bytes)) = some (some (.slice none 0 0), 1, 24) := by kernel_rfl
/-- append of one list to a list of lists of the call's own. -/
theorem wpList_push_row (w : World) {ops : Array Oper} {rest : List Oper} {o : Oper} {a : Act} {Q : Exit → Act → World → Prop} (hgd : o.guard = none) (s x : Operand)
    (ho : o.op = .call { callee := .builtin .append, args := #[s, x], argTypes := #[27, 27] })
    (base hi hi' : Nat) (v : Value) (L : List (List Int)) (d : IvD) (g c : Nat) (hs : a.eval s = v) (hown : OwnS w base hi v L)
    (hx : a.eval x = .slice (some ⟨g, 0, none⟩) 1 c) (hc : w.cell? ⟨g, 0, none⟩ = some d.v) (hd : w.ownsRow base 2 1 d.v d.l.length (ints d.l)) (hfr : ∀ q, d.v.ownBlock = some q → hi ≤ q ∧ q < hi') (hle : hi ≤ hi') (hn : L.length ≤ 1048577) (hbase : base ≤ w.heap.size)
    (h : ∀ v' w', OwnS w' base hi' v' (L ++ [d.l]) → w.grownBy w' v.ownBlock → wpList Tryz.prog ops Q rest (a.put o.dst v') w') : wpList Tryz.prog ops Q (o :: rest) a w := by
  obtain ⟨i0, hi, hz0, hz1, hz2⟩ := info_parts info_intS
  obtain ⟨ds, rfl, h1, h2, h3⟩ := hown
  rw [List.length_map] at h1 hn
  refine wpList_push w hgd s x 27 ho base 22 i0 (.slice none 0 0) 1 24 Tryz.underlying27 hi hz0 hz1 hz2 rfl (by decide) v ds.length (rowsC ds) hs h1 ⟨g, 0, none⟩ c [d.v] hx rfl ?_ ?_ (by unfold maxLen; omega) (by omega) hbase ?_
  · intro j u hu
    match j, hu with
    | 0, hu =>
      simp only [List.getElem?_cons_zero, Option.some.injEq] at hu
      rw [← hu]
      simpa [Addr.add] using hc
  · intro u hu
    simp only [List.mem_singleton] at hu
    subst hu
    rfl
  · intro v' w' hown1 hgrow _ _
    refine h v' w' ⟨ds ++ [d], by simp, ?_, fun d' hd' => ?_, ?_⟩ hgrow
    · have e : rowsC (ds ++ [d]) = rowsC ds ++ [d.v] := by simp [rowsC]
      rw [e]
      simpa using hown1
    · rcases List.mem_append.1 hd' with hd' | hd'
      · exact ⟨own_keep (h2 d' hd').1 h1 (by decide) hgrow, fun q hq => Nat.lt_of_lt_of_le ((h2 d' hd').2 q hq) hle⟩
      · simp only [List.mem_singleton] at hd'
        subst hd'
        exact ⟨own_keep hd h1 (by decide) hgrow, fun q hq => (hfr q hq).2⟩
    · rw [List.pairwise_append]
      refine ⟨h3, List.pairwise_singleton _ _, fun a' ha' b' hb' q hq hq2 => ?_⟩
      simp only [List.mem_singleton] at hb'
      subst hb'
      have := (h2 a' ha').2 q hq
      have := (hfr q hq2).1
      omega
/-- The same, as one operation. -/
theorem wp_push_row (w : World) {o : Oper} {a : Act} {K : Act → World → Prop} {Q : Exit → Act → World → Prop} (s x : Operand)
    (ho : o.op = .call { callee := .builtin .append, args := #[s, x], argTypes := #[27, 27] })
    (base hi hi' : Nat) (v : Value) (L : List (List Int)) (d : IvD) (g c : Nat) (hs : a.eval s = v) (hown : OwnS w base hi v L)
    (hx : a.eval x = .slice (some ⟨g, 0, none⟩) 1 c) (hc : w.cell? ⟨g, 0, none⟩ = some d.v) (hd : w.ownsRow base 2 1 d.v d.l.length (ints d.l)) (hfr : ∀ q, d.v.ownBlock = some q → hi ≤ q ∧ q < hi') (hle : hi ≤ hi') (hn : L.length ≤ 1048577) (hbase : base ≤ w.heap.size)
    (h : ∀ v' w', OwnS w' base hi' v' (L ++ [d.l]) → w.grownBy w' v.ownBlock → (∀ g, v.ownBlock = some g → ∀ j, j < L.length → w'.cell? ⟨g, j, none⟩ = w.cell? ⟨g, j, none⟩) → K (a.put o.dst v') w') : o.wp Tryz.prog a w K Q := by
  obtain ⟨i0, hi, hz0, hz1, hz2⟩ := info_parts info_intS
  obtain ⟨ds, rfl, h1, h2, h3⟩ := hown
  rw [List.length_map] at h1 hn
  refine wp_push w s x 27 ho base 22 i0 (.slice none 0 0) 1 24 Tryz.underlying27 hi hz0 hz1 hz2 rfl (by decide) v ds.length (rowsC ds) hs h1 ⟨g, 0, none⟩ c [d.v] hx rfl ?_ ?_ (by unfold maxLen; omega) (by omega) hbase ?_
  · intro j u hu
    match j, hu with
    | 0, hu =>
      simp only [List.getElem?_cons_zero, Option.some.injEq] at hu
      rw [← hu]
      simpa [Addr.add] using hc
  · intro u hu
    simp only [List.mem_singleton] at hu
    subst hu
    rfl
  · intro v' w' hown1 hgrow hold _
    refine h v' w' ⟨ds ++ [d], by simp, ?_, fun d' hd' => ?_, ?_⟩ hgrow fun g hg j hj => hold g hg j (by rw [List.length_map] at hj; omega)
    · have e : rowsC (ds ++ [d]) = rowsC ds ++ [d.v] := by simp [rowsC]
      rw [e]
      simpa using hown1
    · rcases List.mem_append.1 hd' with hd' | hd'
      · exact ⟨own_keep (h2 d' hd').1 h1 (by decide) hgrow, fun q hq => Nat.lt_of_lt_of_le ((h2 d' hd').2 q hq) hle⟩
      · simp only [List.mem_singleton] at hd'
        subst hd'
        exact ⟨own_keep hd h1 (by decide) hgrow, fun q hq => (hfr q hq).2⟩
    · rw [List.pairwise_append]
      refine ⟨h3, List.pairwise_singleton _ _, fun a' ha' b' hb' q hq hq2 => ?_⟩
      simp only [List.mem_singleton] at hb'
      subst hb'
      have := (h2 a' ha').2 q hq
      have := (hfr q hq2).1
      omega
end Go.Proofs.YtdjehopcpjkgjaaGreat

/- FollowTrace (program). Condition: the lengths are those that the laws let by. -/
namespace Go.Proofs.YtdjehopcpjkgjaaGreat
open Go.RowKit

def trS (m : Mdl) (tr : List Int) : Nat → List Int
  | 0 => m.st
  | k + 1 => apL (trS m tr k) (arR m (tr.getD k 0)).es
def trOK (m : Mdl) (tr : List Int) (k : Nat) : Bool := (List.range k).all fun j => hlB (trS m tr j) (arR m (tr.getD j 0)).gs
def trL (m : Mdl) (tr : List Int) (k : Nat) : List (List Int) := (List.range (k + 1)).map (trS m tr)
theorem trL_succ (m : Mdl) (tr : List Int) (k : Nat) : trL m tr (k + 1) = trL m tr k ++ [trS m tr (k + 1)] := by
  unfold trL
  rw [List.range_succ, List.map_append]
  rfl
theorem trL_len (m : Mdl) (tr : List Int) (k : Nat) : (trL m tr k).length = k + 1 := by simp [trL]
theorem trL_at (m : Mdl) (tr : List Int) (k j : Nat) (h : j ≤ k) : (trL m tr k)[j]? = some (trS m tr j) := by
  unfold trL
  rw [List.getElem?_map, List.getElem?_range (by omega)]
  rfl
theorem trS_len (m : Mdl) (tr : List Int) : ∀ k, (trS m tr k).length = m.st.length
  | 0 => rfl
  | k + 1 => by rw [trS, apL_len, trS_len m tr k]
theorem trOK_succ (m : Mdl) (tr : List Int) (k : Nat) : trOK m tr (k + 1) = (trOK m tr k && hlB (trS m tr k) (arR m (tr.getD k 0)).gs) := by simp [trOK, List.range_succ]
theorem trOK_bad {m : Mdl} {tr : List Int} {k n : Nat} (h : hlB (trS m tr k) (arR m (tr.getD k 0)).gs = false) (hk : k < n) : trOK m tr n = false := by
  unfold trOK
  rw [List.all_eq_false]
  exact ⟨k, List.mem_range.2 hk, by show ¬ hlB (trS m tr k) (arR m (tr.getD k 0)).gs = true; rw [h]; simp⟩
def trBad (m : Mdl) (tr : List Int) : Bool := tr.any fun y => !inB y 0 (m.rs.length - 1)
def ftC (m : Mdl) (tr : List Int) : Int := if mdB m then (if 4000 < tr.length then 3 else if trBad m tr then 4 else if trOK m tr tr.length then 0 else 5) else 1
def ftL (m : Mdl) (tr : List Int) : List (List Int) := if mdB m then (if 4000 < tr.length then [] else if trBad m tr then [] else if trOK m tr tr.length then trL m tr tr.length else []) else []
/-- What FollowTrace hands back: lists of the call's own, and a code. -/
def RetSC (n : Nat) (L : List (List Int)) (c : Int) (w : World) (e : Ending) (w' : World) : Prop :=
  ∃ A cap, e = .returned (.tuple #[.slice A n cap, .int .i64 c]) ∧ OwnS w' w.heap.size w'.heap.size (.slice A n cap) L ∧ Below w.heap.size w w'
theorem ownS_nil (w : World) (base hi : Nat) : OwnS w base hi (.slice none 0 0) [] := ⟨[], rfl, World.ownsRow_nil _ _ _ _, by simp, List.Pairwise.nil⟩
theorem retSC_nil {n : Nat} {L : List (List Int)} {c : Int} {w w' : World} (h : L = []) (hn : n = L.length) (hb : Below w.heap.size w w') : RetSC n L c w (.returned (.tuple #[.slice none 0 0, .int .i64 c])) w' := by
  subst h
  subst hn
  exact ⟨none, 0, rfl, ownS_nil _ _ _, hb⟩
end Go.Proofs.YtdjehopcpjkgjaaGreat

/- FollowTrace (program): the walk. Condition: the lengths are those that the laws let by. -/
namespace Go.Proofs.YtdjehopcpjkgjaaGreat
open Go.RowKit

theorem OwnS.form1 {w : World} {base hi : Nat} {v : Value} {L : List (List Int)} (h : OwnS w base hi v L) (hn : 0 < L.length) : ∃ g c, v = .slice (some ⟨g, 0, none⟩) L.length c := by
  obtain ⟨ds, _, h1, _⟩ := h
  rcases h1.2 with ⟨e, e2⟩ | ⟨g, cap, cur, e, _⟩
  · omega
  · exact ⟨g, cap, e⟩
theorem ownS_one {w : World} {base hi g c n : Nat} {l : List Int} (h : w.ownsRow base 2 1 (.slice (some ⟨g, 0, none⟩) n c) n (ints l)) (hn : n = l.length) (hb : base ≤ w.heap.size) (hh : g < hi) : OwnS (w.alloc (.cells #[.slice (some ⟨g, 0, none⟩) n c] 22)) base hi (.slice (some ⟨w.heap.size, 0, none⟩) 1 1) [l] := by
  subst hn
  refine ⟨[⟨l, some ⟨g, 0, none⟩, c⟩], rfl, ?_, fun d hd => ?_, List.pairwise_singleton _ _⟩
  · exact World.ownsRow_lit (e := 22) (size := 1) (base := base) w #[.slice (some ⟨g, 0, none⟩) l.length c] 1 hb (by decide) (by simp)
  · simp only [List.mem_singleton] at hd
    subst hd
    exact ⟨own_below h (below_alloc (Below.refl _ _) _), fun q hq => by simp [IvD.v, Value.ownBlock] at hq; omega⟩
theorem st_of {m : Mdl} (h : mdB m = true) : stB m.sz m.st = true := by
  unfold mdB at h
  simp only [Bool.and_eq_true] at h
  exact h.2.2.1
theorem bad_not {m : Mdl} {tr : List Int} {k : Nat} {y : Int} (h : trBad m tr = false) (hk : tr[k]? = some y) : 0 ≤ y ∧ y < m.rs.length := by
  unfold trBad at h
  rw [List.any_eq_false] at h
  have := h y (List.mem_of_getElem? hk)
  simp [inB] at this
  omega
end Go.Proofs.YtdjehopcpjkgjaaGreat

/- FollowTrace (reference): the walk. Condition: the lengths are those that the laws let by. -/
namespace Go.Proofs.YtdjehopcpjkgjaaGreat
open Go.RowKit

theorem OwnS.keepInt {w w' : World} {base hi b0 n : Nat} {v u : Value} {L : List (List Int)} {xs : List Value} (h : OwnS w base hi v L) (hd : w.ownsRow b0 2 1 u n xs) (hg : w.grownBy w' v.ownBlock) : w'.ownsRow b0 2 1 u n xs := by
  obtain ⟨_, _, h1, _⟩ := h
  exact own_keep hd h1 (by decide) hg
end Go.Proofs.YtdjehopcpjkgjaaGreat

/- IsCounterexample, on both sides. Condition: the lengths are those that the laws let by. -/
namespace Go.Proofs.YtdjehopcpjkgjaaGreat
open Go.RowKit

def icB (m : Mdl) (ts : List Tst) (tr : List Int) : Bool := decide (ftC m tr = 0) && (tsB m.sz ts && hlB (trS m tr tr.length) ts)
theorem ft_zero {m : Mdl} {tr : List Int} (h : ftC m tr = 0) : mdB m = true ∧ ftL m tr = trL m tr tr.length := by
  unfold ftC at h
  split at h
  · rename_i h1
    refine ⟨h1, ?_⟩
    unfold ftL
    rw [if_pos h1]
    split at h
    · omega
    · rename_i h2
      rw [if_neg h2]
      split at h
      · omega
      · rename_i h3
        rw [if_neg h3]
        split at h
        · rename_i h4
          rw [if_pos h4]
        · omega
  · omega
end Go.Proofs.YtdjehopcpjkgjaaGreat

/- The search through all reachable states, as plain lists: the plain law of explore (program) and l21Run (reference). No condition. -/
namespace Go.Proofs.YtdjehopcpjkgjaaGreat
open Go.RowKit

structure Rc where
  v : List Int
  f : Int
  r : Int
  d : Int
  t : List Int
def hasV (acc : List Rc) (v : List Int) : Bool := acc.any fun x => decide (x.v = v)
def addR (acc : List Rc) (x : Rc) : List Rc := if hasV acc x.v then acc else acc ++ [x]
def mkR (x : Rc) (i : Nat) (p : Int × List Int) : Rc := ⟨p.2, i, p.1, x.d + 1, x.t ++ [p.1]⟩
def exP (x : Rc) (i : Nat) (acc : List Rc) (l : List (Int × List Int)) : List Rc := l.foldl (fun a p => addR a (mkR x i p)) acc
def sq (nx : List Int → List (Int × List Int)) (s : List Int) : Nat → List Rc
  | 0 => [⟨s, -1, 0, 0, []⟩]
  | k + 1 => match (sq nx s k)[k]? with
    | none => sq nx s k
    | some x => exP x k (sq nx s k) (nx x.v)
theorem exP_nil (x : Rc) (i : Nat) (acc : List Rc) : exP x i acc [] = acc := rfl
theorem exP_snoc {x : Rc} {i j : Nat} {acc : List Rc} {l : List (Int × List Int)} {p : Int × List Int} (h : l[j]? = some p) : exP x i acc (l.take (j + 1)) = addR (exP x i acc (l.take j)) (mkR x i p) := by
  unfold exP
  rw [List.take_add_one, h, List.foldl_append]
  rfl
theorem addR_pre (acc : List Rc) (x : Rc) : acc <+: addR acc x := by
  unfold addR
  split
  · exact List.prefix_refl _
  · exact List.prefix_append _ _
theorem exP_pre (x : Rc) (i : Nat) : ∀ (l : List (Int × List Int)) (acc : List Rc), acc <+: exP x i acc l
  | [], _ => List.prefix_refl _
  | p :: l, acc => (addR_pre acc (mkR x i p)).trans (exP_pre x i l (addR acc (mkR x i p)))
theorem exP_split (x : Rc) (i : Nat) (acc : List Rc) (l : List (Int × List Int)) (j : Nat) : exP x i acc l = exP x i (exP x i acc (l.take j)) (l.drop j) := by
  unfold exP
  rw [← List.foldl_append, List.take_append_drop]
section
variable {nx : List Int → List (Int × List Int)} {s : List Int}
theorem sq_succ {k : Nat} {x : Rc} (h : (sq nx s k)[k]? = some x) : sq nx s (k + 1) = exP x k (sq nx s k) (nx x.v) := by
  show (match (sq nx s k)[k]? with | none => sq nx s k | some x => exP x k (sq nx s k) (nx x.v)) = _
  rw [h]
theorem sq_none {k : Nat} (h : (sq nx s k)[k]? = none) : sq nx s (k + 1) = sq nx s k := by
  show (match (sq nx s k)[k]? with | none => sq nx s k | some x => exP x k (sq nx s k) (nx x.v)) = _
  rw [h]
theorem sq_pre1 (k : Nat) : sq nx s k <+: sq nx s (k + 1) := by
  cases h : (sq nx s k)[k]? with
  | none => rw [sq_none h]; exact List.prefix_refl _
  | some x => rw [sq_succ h]; exact exP_pre _ _ _ _
theorem sq_pre {j : Nat} : ∀ {k : Nat}, j ≤ k → sq nx s j <+: sq nx s k
  | 0, h => by obtain rfl : j = 0 := by omega
               exact List.prefix_refl _
  | k + 1, h => by
    rcases Nat.lt_or_ge j (k + 1) with h1 | h1
    · exact (sq_pre (by omega : j ≤ k)).trans (sq_pre1 k)
    · obtain rfl : j = k + 1 := by omega
      exact List.prefix_refl _
theorem sq_at {j k i : Nat} {x : Rc} (h : j ≤ k) (hx : (sq nx s j)[i]? = some x) : (sq nx s k)[i]? = some x := by
  obtain ⟨t, ht⟩ := sq_pre (nx := nx) (s := s) h
  rw [← ht, List.getElem?_append_left (List.getElem?_eq_some_iff.1 hx).1]
  exact hx
theorem sq_stop {k : Nat} (h : (sq nx s k).length ≤ k) : ∀ {m : Nat}, k ≤ m → sq nx s m = sq nx s k
  | 0, hm => by obtain rfl : k = 0 := by omega
                rfl
  | m + 1, hm => by
    rcases Nat.lt_or_ge k (m + 1) with h1 | h1
    · have ih := sq_stop h (by omega : k ≤ m)
      rw [sq_none, ih]
      rw [ih]
      exact List.getElem?_eq_none (by omega)
    · obtain rfl : k = m + 1 := by omega
      rfl
theorem sq_pos (k : Nat) : 0 < (sq nx s k).length := by
  have := (sq_pre (nx := nx) (s := s) (Nat.zero_le k)).length_le
  simp [sq] at this
  omega
def fin (nx : List Int → List (Int × List Int)) (s : List Int) : List Rc := sq nx s 4001
theorem fin_done {k : Nat} (h : (sq nx s k).length = k) (hk : k ≤ 4000) : fin nx s = sq nx s k := sq_stop (by omega) (by omega)
theorem fin_over {k j : Nat} {x : Rc} (hk : k ≤ 4000) (hx : (sq nx s k)[k]? = some x) (h : 4000 < (exP x k (sq nx s k) ((nx x.v).take j)).length) : 4000 < (fin nx s).length := by
  have h1 := (exP_pre x k ((nx x.v).drop j) (exP x k (sq nx s k) ((nx x.v).take j))).length_le
  rw [← exP_split, ← sq_succ hx] at h1
  have h2 := (sq_pre (nx := nx) (s := s) (by omega : k + 1 ≤ 4001)).length_le
  unfold fin
  omega
/-- What is kept: the states are different; each but the first one was reached from an earlier one. -/
structure InvR (acc : List Rc) : Prop where
  nd : (acc.map Rc.v).Nodup
  fr : ∀ (i : Nat) (x : Rc), acc[i]? = some x → (i = 0 ∧ x.f = -1 ∧ x.d = 0 ∧ x.t = []) ∨ (0 < i ∧ ∃ (j : Nat) (y : Rc), j < i ∧ acc[j]? = some y ∧ x.f = j ∧ x.d = y.d + 1 ∧ x.t = y.t ++ [x.r])
  dt : ∀ x ∈ acc, x.d = x.t.length
  di : ∀ (i : Nat) (x : Rc), acc[i]? = some x → 0 ≤ x.d ∧ x.d ≤ i
theorem hasV_iff {acc : List Rc} {v : List Int} : hasV acc v = true ↔ v ∈ acc.map Rc.v := by
  unfold hasV
  simp only [List.any_eq_true, decide_eq_true_eq, List.mem_map]
theorem InvR.add {acc : List Rc} (h : InvR acc) {k : Nat} {x : Rc} (hx : acc[k]? = some x) (p : Int × List Int) : InvR (addR acc (mkR x k p)) := by
  unfold addR
  split
  · exact h
  · rename_i hn
    have hk := (List.getElem?_eq_some_iff.1 hx).1
    have hn' : ¬ (p.2 ∈ acc.map Rc.v) := fun hm => hn (hasV_iff.2 hm)
    refine ⟨?_, ?_, ?_, ?_⟩
    · rw [List.map_append, List.nodup_append]
      refine ⟨h.nd, by simp, fun a ha b hb => ?_⟩
      simp only [List.map_cons, List.map_nil, List.mem_singleton, mkR] at hb
      subst hb
      exact fun e => hn' (e ▸ ha)
    · intro i y hy
      rcases Nat.lt_or_ge i acc.length with hi | hi
      · rw [List.getElem?_append_left hi] at hy
        rcases h.fr i y hy with h1 | ⟨h0, j, z, hj, hz, r⟩
        · exact .inl h1
        · exact .inr ⟨h0, j, z, hj, by rw [List.getElem?_append_left (by omega)]; exact hz, r⟩
      · rw [List.getElem?_append_right hi] at hy
        have hi2 : i - acc.length = 0 := by
          rcases hq : i - acc.length with _ | q
          · rfl
          · rw [hq] at hy; simp at hy
        rw [hi2] at hy
        simp only [List.getElem?_cons_zero, Option.some.injEq] at hy
        subst hy
        exact .inr ⟨by omega, k, x, by omega, by rw [List.getElem?_append_left hk]; exact hx, rfl, rfl, rfl⟩
    · intro y hy
      rcases List.mem_append.1 hy with hy | hy
      · exact h.dt y hy
      · simp only [List.mem_singleton] at hy
        subst hy
        have := h.dt x (List.mem_of_getElem? hx)
        simp only [mkR, List.length_append, List.length_cons, List.length_nil]
        omega
    · intro i y hy
      rcases Nat.lt_or_ge i acc.length with hi | hi
      · rw [List.getElem?_append_left hi] at hy
        exact h.di i y hy
      · rw [List.getElem?_append_right hi] at hy
        have hi2 : i - acc.length = 0 := by
          rcases hq : i - acc.length with _ | q
          · rfl
          · rw [hq] at hy; simp at hy
        rw [hi2] at hy
        simp only [List.getElem?_cons_zero, Option.some.injEq] at hy
        subst hy
        have := h.di k x hx
        simp only [mkR]
        omega
theorem addR_at {acc : List Rc} {k : Nat} {x y : Rc} (hx : acc[k]? = some x) : (addR acc y)[k]? = some x := by
  obtain ⟨t, ht⟩ := addR_pre acc y
  rw [← ht, List.getElem?_append_left (List.getElem?_eq_some_iff.1 hx).1]
  exact hx
theorem InvR.ex {k : Nat} {x : Rc} : ∀ (l : List (Int × List Int)) {acc : List Rc}, InvR acc → acc[k]? = some x → InvR (exP x k acc l)
  | [], _, h, _ => h
  | p :: l, _, h, hx => InvR.ex l (h.add hx p) (addR_at hx)
theorem inv_sq : ∀ k, InvR (sq nx s k)
  | 0 => ⟨by simp [sq], fun i x hx => by
      rcases i with _ | i
      · simp only [sq, List.getElem?_cons_zero, Option.some.injEq] at hx; subst hx; exact .inl ⟨rfl, rfl, rfl, rfl⟩
      · simp [sq] at hx, fun x hx => by simp only [sq, List.mem_singleton] at hx; subst hx; rfl, fun i x hx => by
      rcases i with _ | i
      · simp only [sq, List.getElem?_cons_zero, Option.some.injEq] at hx; subst hx; simp
      · simp [sq] at hx⟩
  | k + 1 => by
    cases h : (sq nx s k)[k]? with
    | none => rw [sq_none h]; exact inv_sq k
    | some x => rw [sq_succ h]; exact (inv_sq k).ex _ h
/-- A property of states that every step keeps. -/
theorem all_ex {P : List Int → Prop} {k : Nat} {x : Rc} : ∀ (l : List (Int × List Int)) {acc : List Rc}, (∀ p ∈ l, P p.2) → (∀ y ∈ acc, P y.v) → ∀ y ∈ exP x k acc l, P y.v
  | [], _, _, h, y, hy => h y hy
  | p :: l, _, hl, h, y, hy => all_ex l (acc := addR _ (mkR x k p)) (fun q hq => hl q (List.mem_cons_of_mem _ hq)) (fun z hz => by
      unfold addR at hz
      split at hz
      · exact h z hz
      · rcases List.mem_append.1 hz with hz | hz
        · exact h z hz
        · simp only [List.mem_singleton] at hz
          subst hz
          exact hl p (List.mem_cons_self ..)) y hy
theorem all_sq {P : List Int → Prop} (h0 : P s) (hn : ∀ v, P v → ∀ p ∈ nx v, P p.2) : ∀ k, ∀ y ∈ sq nx s k, P y.v
  | 0, y, hy => by simp only [sq, List.mem_singleton] at hy; subst hy; exact h0
  | k + 1, y, hy => by
    cases h : (sq nx s k)[k]? with
    | none => rw [sq_none h] at hy; exact all_sq h0 hn k y hy
    | some x => rw [sq_succ h] at hy; exact all_ex _ (hn _ (all_sq h0 hn k x (List.mem_of_getElem? h))) (all_sq h0 hn k) y hy
end
/-- Lists of numbers in lexicographic order. -/
def cmpL : List Int → List Int → Int
  | [], [] => 0
  | [], _ :: _ => -1
  | _ :: _, [] => 1
  | x :: a, y :: b => if x < y then -1 else if y < x then 1 else cmpL a b
theorem cmpL_self : ∀ a : List Int, cmpL a a = 0
  | [] => rfl
  | x :: a => by simp [cmpL, cmpL_self a]
theorem cmpL_zero : ∀ {a b : List Int}, cmpL a b = 0 → a = b
  | [], [], _ => rfl
  | [], _ :: _, h => by simp [cmpL] at h
  | _ :: _, [], h => by simp [cmpL] at h
  | x :: a, y :: b, h => by
    unfold cmpL at h
    split at h
    · simp at h
    · split at h
      · simp at h
      · rw [cmpL_zero h, show x = y by omega]
theorem cmpL_bd : ∀ (a b : List Int), -1 ≤ cmpL a b ∧ cmpL a b ≤ 1
  | [], [] => by simp [cmpL]
  | [], _ :: _ => by simp [cmpL]
  | _ :: _, [] => by simp [cmpL]
  | x :: a, y :: b => by
    unfold cmpL
    split
    · simp
    · split
      · simp
      · exact cmpL_bd a b
theorem cmpL_swap : ∀ (a b : List Int), cmpL b a = - cmpL a b
  | [], [] => by simp [cmpL]
  | [], _ :: _ => by simp [cmpL]
  | _ :: _, [] => by simp [cmpL]
  | x :: a, y :: b => by
    unfold cmpL
    rcases Int.lt_trichotomy x y with h | h | h
    · rw [if_neg (by omega), if_pos h, if_pos h]; rfl
    · rw [if_neg (by omega), if_neg (by omega), if_neg (by omega), if_neg (by omega)]; exact cmpL_swap a b
    · rw [if_pos h, if_neg (by omega), if_pos h]
def ltL (a b : List Int) : Bool := decide (cmpL a b < 0)
theorem ltL_cons {x y : Int} {a b : List Int} : ltL (x :: a) (y :: b) = true ↔ x < y ∨ (x = y ∧ ltL a b = true) := by
  unfold ltL
  rw [decide_eq_true_eq, decide_eq_true_eq]
  show (if x < y then (-1 : Int) else if y < x then 1 else cmpL a b) < 0 ↔ _
  rcases Int.lt_trichotomy x y with h | h | h
  · rw [if_pos h]; omega
  · rw [if_neg (by omega), if_neg (by omega)]; omega
  · rw [if_neg (by omega), if_pos h]; omega
theorem ltL_trans : ∀ {a b c : List Int}, ltL a b = true → ltL b c = true → ltL a c = true
  | [], [], c, h, _ => by simp [ltL, cmpL] at h
  | [], _ :: _, [], _, h => by simp [ltL, cmpL] at h
  | [], _ :: _, _ :: _, _, _ => by simp [ltL, cmpL]
  | _ :: _, [], _, h, _ => by simp [ltL, cmpL] at h
  | _ :: _, _ :: _, [], _, h => by simp [ltL, cmpL] at h
  | x :: a, y :: b, z :: c, h1, h2 => by
    rw [ltL_cons] at h1 h2 ⊢
    rcases h1 with h1 | ⟨h1, g1⟩
    · left; omega
    · rcases h2 with h2 | ⟨h2, g2⟩
      · left; omega
      · exact .inr ⟨h1.trans h2, ltL_trans g1 g2⟩
theorem ltL_irr (a : List Int) : ltL a a = false := by simp [ltL, cmpL_self]
theorem ltL_asym {a b : List Int} (h : ltL a b = true) : ltL b a = false := by
  have := cmpL_swap a b
  simp only [ltL, decide_eq_true_eq, decide_eq_false_iff_not] at *
  omega
theorem ltL_tri (a b : List Int) : ltL a b = true ∨ a = b ∨ ltL b a = true := by
  have := cmpL_swap a b
  have h2 := cmpL_zero (a := a) (b := b)
  simp only [ltL, decide_eq_true_eq]
  rcases Int.lt_trichotomy (cmpL a b) 0 with h | h | h
  · exact .inl h
  · exact .inr (.inl (h2 h))
  · exact .inr (.inr (by omega))
/-- Strictly ascending. -/
def Asc (L : List (List Int)) : Prop := L.Pairwise fun a b => ltL a b = true
theorem Asc.nodup {L : List (List Int)} (h : Asc L) : L.Nodup := h.imp fun {a b} hab e => by subst e; rw [ltL_irr] at hab; cases hab
theorem asc_ext : ∀ {L M : List (List Int)}, Asc L → Asc M → (∀ x, x ∈ L ↔ x ∈ M) → L = M
  | [], [], _, _, _ => rfl
  | [], b :: M, _, _, h => by have := (h b).2 (List.mem_cons_self ..); simp at this
  | a :: L, [], _, _, h => by have := (h a).1 (List.mem_cons_self ..); simp at this
  | a :: L, b :: M, h1, h2, h => by
    obtain ⟨p1, q1⟩ := List.pairwise_cons.1 h1
    obtain ⟨p2, q2⟩ := List.pairwise_cons.1 h2
    have hab : a = b := by
      rcases List.mem_cons.1 ((h a).1 (List.mem_cons_self ..)) with e | e
      · exact e
      · rcases List.mem_cons.1 ((h b).2 (List.mem_cons_self ..)) with e' | e'
        · exact e'.symm
        · have := ltL_asym (p2 a e)
          rw [p1 b e'] at this
          cases this
    subst hab
    have : L = M := asc_ext q1 q2 fun x => by
      refine ⟨fun hx => ?_, fun hx => ?_⟩
      · rcases List.mem_cons.1 ((h x).1 (List.mem_cons_of_mem _ hx)) with e | e
        · subst e
          have := p1 x hx
          rw [ltL_irr] at this
          cases this
        · exact e
      · rcases List.mem_cons.1 ((h x).2 (List.mem_cons_of_mem _ hx)) with e | e
        · subst e
          have := p2 x hx
          rw [ltL_irr] at this
          cases this
        · exact e
    rw [this]
/-- The place of a list in an ascending one. -/
def lbL (L : List (List Int)) (x : List Int) : Nat := (L.takeWhile fun y => ltL y x).length
theorem lb_le (L : List (List Int)) (x : List Int) : lbL L x ≤ L.length := by
  unfold lbL
  exact (List.takeWhile_prefix _).length_le
theorem lb_lt {L : List (List Int)} {x : List Int} : ∀ {i : Nat} {y : List Int}, i < lbL L x → L[i]? = some y → ltL y x = true := by
  induction L with
  | nil => intro i y h; simp [lbL] at h
  | cons a L ih =>
    intro i y h hy
    unfold lbL at h ih
    rw [List.takeWhile_cons] at h
    split at h
    · rename_i ha
      rcases i with _ | i
      · simp only [List.getElem?_cons_zero, Option.some.injEq] at hy
        subst hy; exact ha
      · simp only [List.getElem?_cons_succ] at hy
        exact ih (by simp at h; omega) hy
    · simp at h
theorem lb_ge {L : List (List Int)} {x : List Int} (ha : Asc L) : ∀ {i : Nat} {y : List Int}, lbL L x ≤ i → L[i]? = some y → ltL y x = false := by
  induction L with
  | nil => intro i y _ h; simp at h
  | cons a L ih =>
    intro i y h hy
    obtain ⟨p, q⟩ := List.pairwise_cons.1 ha
    unfold lbL at h ih
    rw [List.takeWhile_cons] at h
    split at h
    · rename_i hax
      rcases i with _ | i
      · simp at h
      · simp only [List.getElem?_cons_succ] at hy
        exact ih q (by simp at h; omega) hy
    · rename_i hax
      rcases i with _ | i
      · simp only [List.getElem?_cons_zero, Option.some.injEq] at hy
        subst hy
        simpa using hax
      · simp only [List.getElem?_cons_succ] at hy
        have h1 := p y (List.mem_of_getElem? hy)
        rcases hyx : ltL y x with _ | _
        · rfl
        · exact absurd (ltL_trans h1 hyx) hax
theorem lb_uniq {L : List (List Int)} {x : List Int} {n : Nat} (ha : Asc L) (hn : n ≤ L.length) (h1 : ∀ i y, i < n → L[i]? = some y → ltL y x = true) (h2 : ∀ i y, n ≤ i → L[i]? = some y → ltL y x = false) : n = lbL L x := by
  have hl := lb_le L x
  rcases Nat.lt_trichotomy n (lbL L x) with h | h | h
  · have hy : L[n]? = some (L[n]'(by omega)) := List.getElem?_eq_getElem _
    have := lb_lt h hy
    rw [h2 n _ (Nat.le_refl _) hy] at this
    cases this
  · exact h
  · have hy : L[lbL L x]? = some (L[lbL L x]'(by omega)) := List.getElem?_eq_getElem _
    have := lb_ge ha (Nat.le_refl _) hy
    rw [h1 _ _ h hy] at this
    cases this
theorem lb_mem {L : List (List Int)} {x : List Int} (ha : Asc L) : x ∈ L ↔ L[lbL L x]? = some x := by
  refine ⟨fun hx => ?_, fun h => List.mem_of_getElem? h⟩
  obtain ⟨i, hi⟩ := List.getElem?_of_mem hx
  have h1 : lbL L x ≤ i := by
    rcases Nat.lt_or_ge i (lbL L x) with h | h
    · have := lb_lt h hi
      rw [ltL_irr] at this
      cases this
    · exact h
  rcases Nat.eq_or_lt_of_le h1 with h | h
  · rw [h]; exact hi
  · have hlt := (List.getElem?_eq_some_iff.1 hi).1
    have hy : L[lbL L x]? = some (L[lbL L x]'(by omega)) := List.getElem?_eq_getElem _
    have h3 := lb_ge ha (Nat.le_refl _) hy
    have h4 : ltL (L[lbL L x]'(by omega)) x = true := by
      have := (List.pairwise_iff_getElem.1 ha) (lbL L x) i (by omega) hlt h
      rwa [(List.getElem?_eq_some_iff.1 hi).2] at this
    rw [h3] at h4
    cases h4
def insQ (L : List (List Int)) (x : List Int) : List (List Int) := if x ∈ L then L else L.take (lbL L x) ++ x :: L.drop (lbL L x)
theorem insQ_mem {L : List (List Int)} {x y : List Int} : y ∈ insQ L x ↔ y ∈ L ∨ y = x := by
  unfold insQ
  split
  · rename_i h
    exact ⟨.inl, fun h' => h'.elim id fun e => e ▸ h⟩
  · rw [List.mem_append, List.mem_cons]
    constructor
    · rintro (h | h | h)
      · exact .inl (List.mem_of_mem_take h)
      · exact .inr h
      · exact .inl (List.mem_of_mem_drop h)
    · rintro (h | h)
      · rw [← List.take_append_drop (lbL L x) L, List.mem_append] at h
        exact h.elim .inl fun h => .inr (.inr h)
      · exact .inr (.inl h)
theorem insQ_asc {L : List (List Int)} {x : List Int} (h : Asc L) : Asc (insQ L x) := by
  unfold insQ
  split
  · exact h
  · rename_i hx
    unfold Asc
    rw [List.pairwise_append, List.pairwise_cons]
    have hT : ∀ a ∈ L.take (lbL L x), ltL a x = true := fun a ha => by
      obtain ⟨i, hi⟩ := List.getElem?_of_mem ha
      rw [List.getElem?_take] at hi
      split at hi
      · exact lb_lt (by assumption) hi
      · cases hi
    have hD : ∀ b ∈ L.drop (lbL L x), ltL x b = true := fun b hb => by
      obtain ⟨i, hi⟩ := List.getElem?_of_mem hb
      rw [List.getElem?_drop] at hi
      have h1 := lb_ge (x := x) h (by omega) hi
      rcases ltL_tri x b with h2 | h2 | h2
      · exact h2
      · exact absurd (List.mem_of_mem_drop hb) (h2 ▸ hx)
      · rw [h2] at h1; cases h1
    refine ⟨h.sublist (List.take_sublist _ _), ⟨hD, h.sublist (List.drop_sublist _ _)⟩, fun a ha b hb => ?_⟩
    rcases List.mem_cons.1 hb with e | hb
    · exact e ▸ hT a ha
    · exact ltL_trans (hT a ha) (hD b hb)
theorem insQ_len {L : List (List Int)} {x : List Int} (h : x ∉ L) : (insQ L x).length = L.length + 1 := by
  unfold insQ
  rw [if_neg h, List.length_append, List.length_cons, List.length_take, List.length_drop]
  have := lb_le L x
  omega
/-- The states of a list in ascending order. -/
def ascL (L : List (List Int)) : List (List Int) := L.foldl insQ []
theorem ascL_snoc (L : List (List Int)) (x : List Int) : ascL (L ++ [x]) = insQ (ascL L) x := by simp [ascL, List.foldl_append]
theorem asc_fold : ∀ (L : List (List Int)) {M : List (List Int)}, Asc M → Asc (L.foldl insQ M)
  | [], _, h => h
  | _ :: L, _, h => asc_fold L (insQ_asc h)
theorem asc_ascL (L : List (List Int)) : Asc (ascL L) := asc_fold L List.Pairwise.nil
theorem mem_fold : ∀ (L : List (List Int)) {M : List (List Int)} {y : List Int}, y ∈ L.foldl insQ M ↔ y ∈ M ∨ y ∈ L
  | [], M, y => by simp
  | x :: L, M, y => by
    rw [List.foldl_cons, mem_fold L, insQ_mem, List.mem_cons]
    constructor
    · rintro ((h | h) | h)
      · exact .inl h
      · exact .inr (.inl h)
      · exact .inr (.inr h)
    · rintro (h | h | h)
      · exact .inl (.inl h)
      · exact .inl (.inr h)
      · exact .inr h
theorem mem_ascL {L : List (List Int)} {y : List Int} : y ∈ ascL L ↔ y ∈ L := by
  unfold ascL
  rw [mem_fold]
  simp
theorem ascL_len {L : List (List Int)} (h : L.Nodup) : (ascL L).length = L.length :=
  ((List.perm_ext_iff_of_nodup (asc_ascL L).nodup h).2 fun _ => mem_ascL).length_eq
theorem ascL_of {L M : List (List Int)} (h : Asc M) (hm : ∀ x, x ∈ M ↔ x ∈ L) : M = ascL L := asc_ext h (asc_ascL L) fun x => (hm x).trans mem_ascL.symm

theorem st_set {sz vs : List Int} (h : stB sz vs = true) {a : Asg} (ha : hasB sz a.v a.x = true) : stB sz (vs.set a.v.toNat a.x) = true := by
  unfold stB at h ⊢
  simp only [Bool.and_eq_true, decide_eq_true_eq] at h ⊢
  refine ⟨by rw [List.length_set]; exact h.1, ?_⟩
  have h2 := h.2
  unfold stK at h2 ⊢
  rw [List.all_eq_true] at h2 ⊢
  intro i hi
  rw [List.length_set] at hi
  have h3 := h2 i hi
  rw [List.mem_range] at hi
  by_cases e : a.v.toNat = i
  · rw [List.getD_eq_getElem?_getD, e, List.getElem?_set_self hi]
    simp only [Option.getD_some]
    unfold hasB at ha
    rw [Bool.and_eq_true, e] at ha
    exact ha.2
  · rw [List.getD_eq_getElem?_getD, List.getElem?_set_ne e, ← List.getD_eq_getElem?_getD]
    exact h3
theorem es_has {sz : List Int} {es : List Asg} (h : esK sz es es.length = true) : ∀ a ∈ es, hasB sz a.v a.x = true := by
  intro a ha
  obtain ⟨k, hk, rfl⟩ := List.getElem_of_mem ha
  unfold esK at h
  rw [List.all_eq_true] at h
  have := h k (List.mem_range.2 hk)
  unfold esS at this
  rw [getDA (List.getElem?_eq_getElem hk), Bool.and_eq_true] at this
  exact this.1
theorem st_ap {sz : List Int} : ∀ (es : List Asg) {vs : List Int}, (∀ a ∈ es, hasB sz a.v a.x = true) → stB sz vs = true → stB sz (apL vs es) = true
  | [], _, _, h => h
  | a :: es, _, he, h => st_ap es (fun b hb => he b (List.mem_cons_of_mem _ hb)) (st_set h (he a (List.mem_cons_self ..)))
theorem st_apR {m : Mdl} {vs : List Int} {r : Rul} (h : mdB m = true) (hv : stB m.sz vs = true) (hr : r ∈ m.rs) : stB m.sz (apL vs r.es) = true := by
  have h4 := rl_of h hr
  unfold rlB at h4
  simp only [Bool.and_eq_true] at h4
  exact st_ap _ (es_has h4.1) hv
/-- The rules that are enabled, and where they lead. -/
def nxL (m : Mdl) (vs : List Int) : List (Int × List Int) := (enL vs m.rs).map fun y => (y, apL vs (arR m y).es)
theorem en_rul {m : Mdl} {vs : List Int} {y : Int} (h : y ∈ enL vs m.rs) : 0 ≤ y ∧ y < m.rs.length ∧ arR m y ∈ m.rs ∧ m.rs[y.toNat]? = some (arR m y) ∧ hlB vs (arR m y).gs = true := by
  unfold enL enK at h
  obtain ⟨i, hi, rfl⟩ := List.mem_map.1 h
  rw [List.mem_filter, List.mem_range] at hi
  have hr : m.rs[i]? = some (m.rs[i]'hi.1) := List.getElem?_eq_getElem hi.1
  have e : arR m (i : Int) = m.rs[i]'hi.1 := by unfold arR; rw [Int.toNat_natCast]; exact getDR hr
  refine ⟨by omega, by have := hi.1; omega, by rw [e]; exact List.getElem_mem _, by rw [e, Int.toNat_natCast]; exact hr, ?_⟩
  have := hi.2
  unfold arR
  rw [Int.toNat_natCast]
  exact this
theorem nx_at {m : Mdl} {vs : List Int} {j : Nat} {y : Int} (h : (enL vs m.rs)[j]? = some y) : (nxL m vs)[j]? = some (y, apL vs (arR m y).es) := by
  unfold nxL
  rw [List.getElem?_map, h]
  rfl
theorem nx_len (m : Mdl) (vs : List Int) : (nxL m vs).length = (enL vs m.rs).length := by simp [nxL]
theorem nx_st {m : Mdl} {vs : List Int} (h : mdB m = true) (hv : stB m.sz vs = true) : ∀ p ∈ nxL m vs, stB m.sz p.2 = true := by
  intro p hp
  unfold nxL at hp
  obtain ⟨y, hy, rfl⟩ := List.mem_map.1 hp
  exact st_apR h hv (en_rul hy).2.2.1
def sqM (m : Mdl) (k : Nat) : List Rc := sq (nxL m) m.st k
def exM (m : Mdl) (k : Nat) (x : Rc) (j : Nat) : List Rc := exP x k (sqM m k) ((nxL m x.v).take j)
def finM (m : Mdl) : List Rc := fin (nxL m) m.st
theorem sqM_st {m : Mdl} (h : mdB m = true) (k : Nat) : ∀ y ∈ sqM m k, stB m.sz y.v = true := all_sq (P := fun v => stB m.sz v = true) (st_of h) (fun _ hv => nx_st h hv) k
theorem exM_st {m : Mdl} (h : mdB m = true) {k : Nat} {x : Rc} (hx : x ∈ sqM m k) (j : Nat) : ∀ y ∈ exM m k x j, stB m.sz y.v = true :=
  all_ex (P := fun v => stB m.sz v = true) _ (fun p hp => nx_st h (sqM_st h k x hx) p (List.mem_of_mem_take hp)) (sqM_st h k)
theorem exM_inv {m : Mdl} {k : Nat} {x : Rc} (hx : (sqM m k)[k]? = some x) (j : Nat) : InvR (exM m k x j) := (inv_sq k).ex _ hx
theorem exM_zero (m : Mdl) (k : Nat) (x : Rc) : exM m k x 0 = sqM m k := by simp [exM, exP]
theorem exM_all {m : Mdl} {k j : Nat} {x : Rc} (hx : (sqM m k)[k]? = some x) (hj : (enL x.v m.rs).length ≤ j) : exM m k x j = sqM m (k + 1) := by
  unfold exM sqM
  rw [sq_succ hx, List.take_of_length_le (by rw [nx_len]; exact hj)]
theorem exM_succ {m : Mdl} {k j : Nat} {x : Rc} {y : Int} (h : (enL x.v m.rs)[j]? = some y) : exM m k x (j + 1) = addR (exM m k x j) ⟨apL x.v (arR m y).es, k, y, x.d + 1, x.t ++ [y]⟩ := exP_snoc (nx_at h)
theorem exM_at {m : Mdl} {k j : Nat} {x : Rc} (hx : (sqM m k)[k]? = some x) : (exM m k x j)[k]? = some x := by
  obtain ⟨t, ht⟩ := exP_pre x k ((nxL m x.v).take j) (sqM m k)
  unfold exM
  rw [← ht, List.getElem?_append_left (List.getElem?_eq_some_iff.1 hx).1]
  exact hx
theorem add_len (acc : List Rc) (x : Rc) : (addR acc x).length ≤ acc.length + 1 := by
  unfold addR
  split
  · omega
  · simp
theorem exM_len (m : Mdl) (k : Nat) (x : Rc) : ∀ j, (exM m k x j).length ≤ (sqM m k).length + j
  | 0 => by rw [exM_zero]; omega
  | j + 1 => by
    unfold exM
    rcases hp : (nxL m x.v)[j]? with _ | p
    · rw [List.take_of_length_le (Nat.le_trans (List.getElem?_eq_none_iff.1 hp) (Nat.le_succ j))]
      have := exM_len m k x j
      unfold exM at this
      rw [List.take_of_length_le (List.getElem?_eq_none_iff.1 hp)] at this
      omega
    · rw [exP_snoc hp]
      have h1 := add_len (exP x k (sqM m k) ((nxL m x.v).take j)) (mkR x k p)
      have h2 := exM_len m k x j
      unfold exM at h2
      omega
/-- What the search hands back: whether the states are not too many. -/
def xpO (m : Mdl) : Bool := decide ((finM m).length ≤ 4000)
def xpL (m : Mdl) : List Rc := if xpO m then finM m else []
theorem xp_done {m : Mdl} {k : Nat} (h : (sqM m k).length = k) (hk : k ≤ 4000) : xpO m = true ∧ xpL m = sqM m k := by
  have e : finM m = sqM m k := fin_done h hk
  have h1 : xpO m = true := by unfold xpO; rw [e, h]; simpa using hk
  exact ⟨h1, by unfold xpL; rw [h1, if_pos rfl, e]⟩
theorem xp_over {m : Mdl} {k j : Nat} {x : Rc} (hk : k ≤ 4000) (hx : (sqM m k)[k]? = some x) (h : 4000 < (exM m k x j).length) : xpO m = false ∧ xpL m = [] := by
  have h1 : xpO m = false := by
    have := fin_over (nx := nxL m) (s := m.st) hk hx h
    unfold xpO finM
    rw [decide_eq_false_iff_not]
    omega
  exact ⟨h1, by unfold xpL; rw [h1]; rfl⟩
theorem xp_pos {m : Mdl} (h : xpO m = true) : 0 < (xpL m).length := by
  unfold xpL
  rw [h, if_pos rfl]
  exact sq_pos _
theorem xp_len (m : Mdl) : (xpL m).length ≤ 4000 := by
  unfold xpL
  split
  · rename_i h; exact of_decide_eq_true h
  · simp
theorem xp_st {m : Mdl} (h : mdB m = true) : ∀ y ∈ xpL m, stB m.sz y.v = true := by
  unfold xpL
  split
  · exact sqM_st h _
  · simp
theorem xp_inv (m : Mdl) : InvR (xpL m) := by
  unfold xpL
  split
  · exact inv_sq _
  · exact ⟨by simp, fun i x h => by simp at h, fun x h => by simp at h, fun i x h => by simp at h⟩
end Go.Proofs.YtdjehopcpjkgjaaGreat
