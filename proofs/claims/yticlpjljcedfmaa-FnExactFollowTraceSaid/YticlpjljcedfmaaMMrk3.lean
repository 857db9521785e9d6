/- The mark of a model: what it touches. No condition but the sizes. -/
import Derived.Test.YticlpjljcedfmaaMMrk2
namespace Go.Proofs.Yticlpjljcedfmaa
open Go.RowKit

set_option maxRecDepth 100000 in
theorem c_markIntsL (A : Option Addr) (c n lo hi k : Nat) (kz : Int) (w : World) (hz : kz = (k : Int)) (hk : k ≤ 100000000000000) (hn : n ≤ 1048576) (ho : OwnL w lo hi 2 1 (.slice A n c) n) :
    Calls Try.prog 29 #[.slice A n c, .int .i64 kz] w (RetMo lo hi (k + n) w) := by
  subst hz
  have HO := Lib.hid ho
  clear ho
  go_enter Try.func29, Try.ntmps29
  go_wp2
  go_loopw [1, 5] (fun t i wr => ∃ j kk : Nat, j ≤ n ∧ kk ≤ k + j ∧ i = .int .i64 j ∧ t = .int .i64 kk ∧ Mk lo hi w wr) (fun _ i _ => n - (intOf i).toNat)
  case atStart => exact ⟨0, k, Nat.zero_le _, by omega, rfl, rfl, Mk.refl _ _ _⟩
  case round =>
    obtain ⟨j, kk, hj, hkk, rfl, rfl, hm⟩ := hrel
    by_cases hlt : j < n
    · obtain ⟨g, rfl, hg1, hg2, _, hc⟩ := (HO.out.mk hm).blk (by omega)
      obtain ⟨⟨o0, e0⟩, f0⟩ := hc j (by omega)
      have HM := Lib.hid (fun v0 => hm.setCell (p := ⟨g, j, none⟩) v0 hg1 hg2)
      clear hc hm
      go_wp2
      go_roundw
      case rel => exact ⟨j + 1, kk + 1, by omega, by omega, by go_num, by go_num, HM.out _⟩
      case measure => simp [intOf]; omega
    · obtain rfl : j = n := by omega
      have HM := Lib.hid hm
      clear hm
      go_wp2
      go_ret
      exact ⟨kk, hkk, rfl, HM.out⟩
theorem OwnL.of_own {w : World} {lo : Nat} {e : TypeId} {size n : Nat} {v : Value} {xs : List Value} (h : w.ownsRow lo e size v n xs) : OwnL w lo w.heap.size e size v n := ⟨⟨xs, h⟩, fun q hq => (h.lt q hq).2⟩
theorem OwnL.below {w w' : World} {lo hi : Nat} {e : TypeId} {size n : Nat} {v : Value} (h : OwnL w lo hi e size v n) (hb : Below w.heap.size w w') : OwnL w' lo hi e size v n := by
  obtain ⟨⟨xs, ho⟩, hq⟩ := h
  exact ⟨⟨xs, own_below ho hb⟩, hq⟩
/-- The rows of a model are the call's own, and lie below hi. -/
structure MOwnL (w : World) (lo hi : Nat) (az ax ar : Option Addr) (cz cs cr : Nat) (m : Mdl) (ds : List RuD) : Prop where
  z : OwnL w lo hi 2 1 (.slice az m.sz.length cz) m.sz.length
  s : OwnL w lo hi 2 1 (.slice ax m.st.length cs) m.st.length
  r : OwnL w lo hi 66 3 (.slice ar m.rs.length cr) m.rs.length
  c : Cts w ar ds
  l : ds.length = m.rs.length
  n : ∀ d ∈ ds, NestL w lo hi d
theorem MOwn.toL {w : World} {lo : Nat} {az ax ar : Option Addr} {cz cs cr : Nat} {m : Mdl} {ds : List RuD} (h : MOwn w lo az ax ar cz cs cr m ds) (hok : MdlOk m) : MOwnL w lo w.heap.size az ax ar cz cs cr m ds := by
  refine ⟨.of_own h.z, .of_own h.s, .of_own h.r, fun g hg j d hd => ?_, by rw [← h.e, List.length_map], fun d hd => ?_⟩
  · subst hg
    obtain ⟨_, u1, u2⟩ := rudCells_at hd
    have c1 := h.r.cells (g := g) rfl _ _ u1
    have c2 := h.r.cells (g := g) rfl _ _ u2
    have hadd : ∀ q, (⟨g, 0, none⟩ : Addr).add q = ⟨g, 0 + q, none⟩ := fun q => by unfold Addr.add; split <;> simp_all
    rw [hadd, Nat.zero_add] at c1 c2
    exact ⟨c1, c2⟩
  · have hm : d.r ∈ m.rs := by rw [← h.e]; exact List.mem_map.2 ⟨d, hd, rfl⟩
    exact ⟨.of_own (h.d d hd).1, .of_own (h.d d hd).2, (hok.2.2.2 _ hm).1, (hok.2.2.2 _ hm).2⟩
theorem MOwnL.below {w w' : World} {lo hi : Nat} {az ax ar : Option Addr} {cz cs cr : Nat} {m : Mdl} {ds : List RuD} (h : MOwnL w lo hi az ax ar cz cs cr m ds) (hb : Below w.heap.size w w') : MOwnL w' lo hi az ax ar cz cs cr m ds :=
  ⟨h.z.below hb, h.s.below hb, h.r.below hb, h.c.below hb, h.l, fun d hd => ⟨(h.n d hd).1.below hb, (h.n d hd).2.1.below hb, (h.n d hd).2.2⟩⟩
theorem Cts.typ2 {w w' : World} {A : Option Addr} {ds : List RuD} {lo hi : Nat} {n c : Nat} (h : Cts w A ds) (ho : OwnL w lo hi 66 3 (.slice A n c) n) (hl : ds.length = n) (ht : Typ 2 w w') : Cts w' A ds := by
  rcases Nat.eq_zero_or_pos n with h0 | h0
  · intro g _ j d hd
    have : ds = [] := List.eq_nil_of_length_eq_zero (by omega)
    subst this
    simp at hd
  · obtain ⟨g, rfl, _, _, ⟨cur, hcur⟩, _⟩ := ho.blk h0
    exact h.typ ht hcur (by decide)
set_option maxHeartbeats 1000000 in
set_option maxRecDepth 100000 in
theorem c_markIntsT (A : Option Addr) (c n lo hi k : Nat) (kz : Int) (w : World) (hz : kz = (k : Int)) (hk : k ≤ 100000000000000) (hn : n ≤ 1048576) (ho : OwnL w lo hi 2 1 (.slice A n c) n) :
    Calls Try.prog 29 #[.slice A n c, .int .i64 kz] w (RetMk 2 lo hi (k + n) w) := by
  subst hz
  have HO := Lib.hid ho
  clear ho
  go_enter Try.func29, Try.ntmps29
  go_wp2
  go_loopw [1, 5] (fun t i wr => ∃ j kk : Nat, j ≤ n ∧ kk ≤ k + j ∧ i = .int .i64 j ∧ t = .int .i64 kk ∧ Mk lo hi w wr ∧ Typ 2 w wr) (fun _ i _ => n - (intOf i).toNat)
  case atStart => exact ⟨0, k, Nat.zero_le _, by omega, rfl, rfl, Mk.refl _ _ _, Typ.refl _ _⟩
  case round =>
    obtain ⟨j, kk, hj, hkk, rfl, rfl, hm, ht⟩ := hrel
    by_cases hlt : j < n
    · obtain ⟨g, rfl, hg1, hg2, ⟨cur, hcur⟩, hc⟩ := (HO.out.mk hm).blk (by omega)
      obtain ⟨⟨o0, e0⟩, f0⟩ := hc j (by omega)
      have HM := Lib.hid (fun v0 => hm.setCell (p := ⟨g, j, none⟩) v0 hg1 hg2)
      have HT := Lib.hid (fun v0 => ht.set (off := j) (n := j) hcur v0 rfl)
      clear hc hm ht hcur
      go_wp2
      go_roundw
      case rel => exact ⟨j + 1, kk + 1, by omega, by omega, by go_num, by go_num, HM.out _, HT.out _⟩
      case measure => simp [intOf]; omega
    · obtain rfl : j = n := by omega
      have HM := Lib.hid hm
      have HT := Lib.hid ht
      clear hm ht
      go_wp2
      go_ret
      exact ⟨kk, hkk, rfl, HM.out, HT.out⟩
set_option maxHeartbeats 1000000 in
set_option maxRecDepth 100000 in
theorem c_markModel (m : Mdl) (az ax ar : Option Addr) (cz cs cr : Nat) (ds : List RuD) (lo hi : Nat) (w : World) (hok : MdlOk m) (ho : MOwnL w lo hi az ax ar cz cs cr m ds) (hhi : hi ≤ w.heap.size) :
    Calls Try.prog 28 #[mv m az ax ar cz cs cr, .int .i64 1] w (RetMo lo hi 10000000000000 w) := by
  have HO := Lib.hid ho
  have h1 := hok.1
  have h2 := hok.2.1
  have h3 := hok.2.2.1
  have HL := Lib.hid ho.l
  have hal : Hid (∀ o, MOwnL (w.alloc o) lo hi az ax ar cz cs cr m ds) := Lib.hid fun o => ho.below (below_alloc (Below.refl _ _) o)
  clear ho hok
  dsimp only [mv] at *
  have HMZ := Lib.hid (fun w' (h : OwnL w' lo hi 2 1 (.slice az m.sz.length cz) m.sz.length) => c_markIntsT az cz m.sz.length lo hi 1 1 w' rfl (by omega) h1 h)
  have HMS := Lib.hid (fun k (hk : k ≤ 2097152) w' (h : OwnL w' lo hi 2 1 (.slice ax m.st.length cs) m.st.length) => c_markIntsT ax cs m.st.length lo hi k k w' rfl (by omega) h2 h)
  have HMR := Lib.hid (fun k (hk : k ≤ 5000000) w' h hc hn => c_markRuleS ar cr m.rs.length lo hi k ds w' (by omega) h3 HL.out h hc hn)
  have HZ := Lib.hid (fun o => (hal.out o).z)
  have HS := Lib.hid (fun o => (hal.out o).s)
  have HR := Lib.hid (fun o => (hal.out o).r)
  have HC := Lib.hid (fun o => (hal.out o).c)
  have HN := Lib.hid (fun o => (hal.out o).n)
  clear HO hal
  generalize m.sz.length = sn at *
  generalize m.st.length = tn at *
  generalize m.rs.length = rn at *
  go_enter Try.func28, Try.ntmps28
  go_wp2_with (fail)
  refine (HMZ.out _ (HZ.out _)).mono ?_
  rintro e w1 ⟨k1, hk1, rfl, hm1, ht1⟩
  have a1 : w1.cell? ⟨w.heap.size, 1, none⟩ = some (.slice ax tn cs) := hm1.cell (by go_simp) (.inr hhi)
  have a2 : w1.cell? ⟨w.heap.size, 2, none⟩ = some (.slice ar rn cr) := hm1.cell (by go_simp) (.inr hhi)
  have S1 := Lib.hid ((HS.out _).mk hm1)
  have R1 := Lib.hid ((HR.out _).mk hm1)
  have C1 := Lib.hid ((HC.out _).typ2 (HR.out _) HL.out ht1)
  have N1 := Lib.hid (fun d hd => (HN.out _ d hd).mk hm1)
  have M1 := Lib.hid ((Mk.of_below (lo := lo) (hi := hi) (below_alloc (Below.refl w.heap.size w) _)).trans hm1)
  clear hm1 ht1
  go_wp2_with (fail)
  refine (HMS.out k1 (by omega) _ S1.out).mono ?_
  rintro e w2 ⟨k2, hk2, rfl, hm2, ht2⟩
  have b2 : w2.cell? ⟨w.heap.size, 2, none⟩ = some (.slice ar rn cr) := hm2.cell a2 (.inr hhi)
  have R2 := Lib.hid (R1.out.mk hm2)
  have C2 := Lib.hid (C1.out.typ2 R1.out HL.out ht2)
  have N2 := Lib.hid (fun d hd => (N1.out d hd).mk hm2)
  have M2 := Lib.hid (M1.out.trans hm2)
  clear hm2 ht2 a1 a2
  go_wp2_with (fail)
  refine (HMR.out k2 (by omega) _ R2.out C2.out N2.out).mono ?_
  rintro e w3 ⟨k3, hk3, rfl, hm3⟩
  have M3 := Lib.hid (M2.out.trans hm3)
  clear hm3
  go_wp2
  go_ret
  exact ⟨k3, by omega, rfl, M3.out⟩
end Go.Proofs.Yticlpjljcedfmaa
