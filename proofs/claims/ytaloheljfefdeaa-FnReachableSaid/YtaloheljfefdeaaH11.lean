/- Contracts and helpers (joined texts, part 11). The conditions stand at each theorem. -/
import Derived.Test.YtaloheljfefdeaaH3
import Derived.Test.YtaloheljfefdeaaH10
/- CountTests, on both sides. Condition: the lengths are those that the laws let by. -/
namespace Go.Proofs.Ytaloheljfefdeaa
open Go.RowKit

def sgS (l : List Rul) : Nat := (l.map fun r => r.gs.length).sum
def seS (l : List Rul) : Nat := (l.map fun r => r.es.length).sum
theorem sgS_snoc {l : List Rul} {k : Nat} {r : Rul} (h : l[k]? = some r) : sgS (l.take (k + 1)) = sgS (l.take k) + r.gs.length := by
  unfold sgS; rw [List.take_add_one, h]; simp
theorem seS_snoc {l : List Rul} {k : Nat} {r : Rul} (h : l[k]? = some r) : seS (l.take (k + 1)) = seS (l.take k) + r.es.length := by
  unfold seS; rw [List.take_add_one, h]; simp
def ctT (m : Mdl) : Int := if mdB m then (sgS m.rs : Int) else 0
def ctE (m : Mdl) : Int := if mdB m then (seS m.rs : Int) else 0
def ctC (m : Mdl) : Int := if mdB m then 0 else 1
/-- What CountTests hands back. -/
def RetCt (a b c : Int) (w : World) (e : Ending) (w' : World) : Prop := e = .returned (.tuple #[.int .i64 a, .int .i64 b, .int .i64 c]) ∧ Below w.heap.size w w'
theorem c_lengthT (A : Option Addr) (c n : Nat) (w : World) : Calls Try.prog 83 #[.slice A n c] w fun e w' => e = .returned (.int .i64 n) ∧ w = w' := by
  go_enter Try.func83, Try.ntmps83
  go_wp2
  go_ret
  exact ⟨rfl, rfl⟩
theorem c_lengthA (A : Option Addr) (c n : Nat) (w : World) : Calls Try.prog 84 #[.slice A n c] w fun e w' => e = .returned (.int .i64 n) ∧ w = w' := by
  go_enter Try.func84, Try.ntmps84
  go_wp2
  go_ret
  exact ⟨rfl, rfl⟩
set_option maxHeartbeats 1000000 in
set_option maxRecDepth 100000 in
theorem c_CountTests (m : Mdl) (az ax ar : Option Addr) (cz cs cr : Nat) (w : World) (hok : MOk m) (h : Md w az ax ar m) :
    Calls Try.prog 27 #[mv m az ax ar cz cs cr] w (RetCt (ctT m) (ctE m) (ctC m) w) := by
  have HI := Lib.hid (fun w' h => c_IsModel m az ax ar cz cs cr w' hok h)
  have HM := Lib.hid h
  have HR := Lib.hid h.r
  have hl3 := hok.1.2.2.1
  have HQ := Lib.hid hok.1.2.2.2
  rcases hmd : mdB m with _ | _
  · rw [hmd] at HI
    have e1 : ctT m = 0 := by unfold ctT; rw [hmd]; rfl
    have e2 : ctE m = 0 := by unfold ctE; rw [hmd]; rfl
    have e3 : ctC m = 1 := by unfold ctC; rw [hmd]; rfl
    rw [e1, e2, e3]
    clear h hmd e1 e2 e3
    dsimp only [mv] at *
    generalize m.sz.length = sn at *
    generalize m.st.length = tn at *
    generalize m.rs.length = rn at *
    go_enter Try.func27, Try.ntmps27
    go_wp2_with (fail)
    refine (HI.out _ (HM.out.alloc _)).mono ?_
    rintro e w1 ⟨rfl, hb⟩
    have HB := Lib.hid (below_chain (by (repeat (first | exact Below.refl _ _ | assumption | refine below_alloc ?_ _ | refine below_drewN ?_ _ | refine below_set ?_ _ (by simp; try omega) | refine Below.drew ?_)) : Below w.heap.size w _) hb)
    clear hb
    go_wp2
    go_ret3
    exact ⟨rfl, HB.out⟩
  · rw [hmd] at HI
    have e1 : ctT m = (sgS m.rs : Int) := by unfold ctT; rw [hmd]; rfl
    have e2 : ctE m = (seS m.rs : Int) := by unfold ctE; rw [hmd]; rfl
    have e3 : ctC m = 0 := by unfold ctC; rw [hmd]; rfl
    rw [e1, e2, e3]
    clear h hmd e1 e2 e3
    have hrn := Lib.hid (rfl : m.rs.length = m.rs.length)
    dsimp only [mv] at *
    generalize m.sz.length = sn at *
    generalize m.st.length = tn at *
    generalize hr0 : m.rs.length = rn at *
    have HRN := Lib.hid hr0
    clear hrn hr0
    generalize m.rs = rs at *
    go_enter Try.func27, Try.ntmps27
    go_wp2_with (fail)
    refine (HI.out _ (HM.out.alloc _)).mono ?_
    rintro e w1 ⟨rfl, hb⟩
    have k2 : w1.cell? ⟨w.heap.size, 2, none⟩ = some (.slice ar rn cr) := cell_later hb (by go_simp)
    have HB := Lib.hid (below_chain (by (repeat (first | exact Below.refl _ _ | assumption | refine below_alloc ?_ _ | refine below_drewN ?_ _ | refine below_set ?_ _ (by simp; try omega) | refine Below.drew ?_)) : Below w.heap.size w _) hb)
    clear hb HI HM
    go_wp2
    clear k2
    go_loopw [5, 6, 15] (fun t s i wr => ∃ k a b : Nat, k ≤ rn ∧ i = .int .i64 k ∧ t = .int .i64 a ∧ s = .int .i64 b ∧ a ≤ k * 1048576 ∧ b ≤ k * 1048576 ∧ Hid (a = sgS (rs.take k) ∧ b = seS (rs.take k)) ∧ Below w.heap.size w wr) (fun _ _ i _ => rn - (intOf i).toNat)
    case atStart => exact ⟨0, 0, 0, Nat.zero_le _, rfl, rfl, rfl, by omega, by omega, Lib.hid ⟨rfl, rfl⟩, HB.out⟩
    case round =>
      clear HB
      obtain ⟨k, a, b, hk, rfl, rfl, rfl, hab, hbb, ha, hb⟩ := hrel
      by_cases hlt : k < rn
      · obtain ⟨r, hz⟩ : ∃ z, rs[k]? = some z := ⟨_, List.getElem?_eq_getElem (by have := HRN.out; omega)⟩
        obtain ⟨bb, off, ag, cg, ae, ce, rfl, _, g0, g1, g2, _, _⟩ := (HR.out.below hb).at hz
        have hq := HQ.out r (List.mem_of_getElem? hz)
        have hg1 := hq.1
        have hg2 := hq.2
        have HS := Lib.hid (show a + r.gs.length = sgS (rs.take (k + 1)) ∧ b + r.es.length = seS (rs.take (k + 1)) by rw [sgS_snoc hz, seS_snoc hz, ha.out.1, ha.out.2]; exact ⟨rfl, rfl⟩)
        have HBE := Lib.hid hb
        clear hz hb hq ha
        generalize r.gs.length = gn at *
        generalize r.es.length = en at *
        go_wp2_with (first
          | (go_at_call 83
             refine (c_lengthT _ _ _ _).mono ?_
             rintro e w' ⟨rfl, rfl⟩)
          | (go_at_call 84
             refine (c_lengthA _ _ _ _).mono ?_
             rintro e w' ⟨rfl, rfl⟩)
          )
        go_roundw
        case rel => exact ⟨k + 1, a + gn, b + en, by omega, by go_num, by go_num, by go_num, by omega, by omega, HS, below_alloc HBE.out _⟩
        case measure => simp [intOf]; omega
      · obtain rfl : k = rn := by omega
        have hA := ha.out
        rw [List.take_of_length_le (by have := HRN.out; omega)] at hA
        have HA := Lib.hid hA
        have HBE := Lib.hid hb
        clear hA ha hb
        go_wp2
        go_ret3
        exact ⟨by rw [← HA.out.1, ← HA.out.2]; rfl, HBE.out⟩
set_option maxHeartbeats 1000000 in
set_option maxRecDepth 100000 in
theorem c_sCountTests (m : Mdl) (az ax ar : Option Addr) (cz cs cr : Nat) (w : World) (hok : MOk m) (h : Md w az ax ar m) :
    Calls Try.prog 28 #[mv m az ax ar cz cs cr] w (RetCt (ctT m) (ctE m) (ctC m) w) := by
  have HI := Lib.hid (fun w' h => c_sIsModel m az ax ar cz cs cr w' hok h)
  have HM := Lib.hid h
  have HR := Lib.hid h.r
  have hl3 := hok.1.2.2.1
  have HQ := Lib.hid hok.1.2.2.2
  rcases hmd : mdB m with _ | _
  · rw [hmd] at HI
    have e1 : ctT m = 0 := by unfold ctT; rw [hmd]; rfl
    have e2 : ctE m = 0 := by unfold ctE; rw [hmd]; rfl
    have e3 : ctC m = 1 := by unfold ctC; rw [hmd]; rfl
    rw [e1, e2, e3]
    clear h hmd e1 e2 e3
    dsimp only [mv] at *
    generalize m.sz.length = sn at *
    generalize m.st.length = tn at *
    generalize m.rs.length = rn at *
    go_enter Try.func28, Try.ntmps28
    go_wp2_with (fail)
    refine (HI.out _ (HM.out.alloc _)).mono ?_
    rintro e w1 ⟨rfl, hb⟩
    have HB := Lib.hid (below_chain (by (repeat (first | exact Below.refl _ _ | assumption | refine below_alloc ?_ _ | refine below_drewN ?_ _ | refine below_set ?_ _ (by simp; try omega) | refine Below.drew ?_)) : Below w.heap.size w _) hb)
    clear hb
    go_wp2
    go_ret3
    exact ⟨rfl, HB.out⟩
  · rw [hmd] at HI
    have e1 : ctT m = (sgS m.rs : Int) := by unfold ctT; rw [hmd]; rfl
    have e2 : ctE m = (seS m.rs : Int) := by unfold ctE; rw [hmd]; rfl
    have e3 : ctC m = 0 := by unfold ctC; rw [hmd]; rfl
    rw [e1, e2, e3]
    clear h hmd e1 e2 e3
    dsimp only [mv] at *
    generalize m.sz.length = sn at *
    generalize m.st.length = tn at *
    generalize hr0 : m.rs.length = rn at *
    have HRN := Lib.hid hr0
    clear hr0
    generalize m.rs = rs at *
    go_enter Try.func28, Try.ntmps28
    go_wp2_with (fail)
    refine (HI.out _ (HM.out.alloc _)).mono ?_
    rintro e w1 ⟨rfl, hb⟩
    have k2 : w1.cell? ⟨w.heap.size, 2, none⟩ = some (.slice ar rn cr) := cell_later hb (by go_simp)
    have HB := Lib.hid (below_chain (by (repeat (first | exact Below.refl _ _ | assumption | refine below_alloc ?_ _ | refine below_drewN ?_ _ | refine below_set ?_ _ (by simp; try omega) | refine Below.drew ?_)) : Below w.heap.size w _) hb)
    clear hb HI HM
    go_wp2
    have HR1 := Lib.hid (HR.out.below HB.out)
    go_loop [5, 6, 7] (fun t s i => ∃ k a b : Nat, k ≤ rn ∧ i = .int .i64 k ∧ t = .int .i64 a ∧ s = .int .i64 b ∧ a ≤ k * 1048576 ∧ b ≤ k * 1048576 ∧ Hid (a = sgS (rs.take k) ∧ b = seS (rs.take k))) (fun _ _ i => rn - (intOf i).toNat)
    case atStart => exact ⟨0, 0, 0, Nat.zero_le _, rfl, rfl, rfl, by omega, by omega, Lib.hid ⟨rfl, rfl⟩⟩
    case round =>
      obtain ⟨k, a, b, hk, rfl, rfl, rfl, hab, hbb, ha⟩ := hrel
      by_cases hlt : k < rn
      · obtain ⟨r, hz⟩ : ∃ z, rs[k]? = some z := ⟨_, List.getElem?_eq_getElem (by have := HRN.out; omega)⟩
        obtain ⟨bb, off, ag, cg, ae, ce, rfl, _, g0, g1, g2, _, _⟩ := HR1.out.at hz
        have hq := HQ.out r (List.mem_of_getElem? hz)
        have hg1 := hq.1
        have hg2 := hq.2
        have HS := Lib.hid (show a + r.gs.length = sgS (rs.take (k + 1)) ∧ b + r.es.length = seS (rs.take (k + 1)) by rw [sgS_snoc hz, seS_snoc hz, ha.out.1, ha.out.2]; exact ⟨rfl, rfl⟩)
        clear hz hq ha
        generalize r.gs.length = gn at *
        generalize r.es.length = en at *
        go_wp2
        go_round
        case rel => exact ⟨k + 1, a + gn, b + en, by omega, by go_num, by go_num, by go_num, by omega, by omega, HS⟩
        case measure => simp [intOf]; omega
      · obtain rfl : k = rn := by omega
        have hA := ha.out
        rw [List.take_of_length_le (by have := HRN.out; omega)] at hA
        have HA := Lib.hid hA
        clear hA ha
        go_wp2
        go_ret3
        exact ⟨by rw [← HA.out.1, ← HA.out.2]; rfl, HB.out⟩
end Go.Proofs.Ytaloheljfefdeaa

/- The source of drawn numbers: its box, and the contract of the next number. Condition: at most 4096 bytes of code. -/
namespace Go.Proofs.Ytaloheljfefdeaa
open Go.RowKit

theorem own_three {w : World} (x y z : Value) : (w.alloc (.cells #[x, y, z] 113)).ownsRow w.heap.size 113 1 (.slice (some ⟨w.heap.size, 0, none⟩) 3 3) 3 [x, y, z] := by
  have h := World.ownsRow_lit (e := 113) (size := 1) (base := w.heap.size) w #[x, y, z] 3 (by simp) (by decide) (by simp)
  simpa using h
theorem three_cells {w : World} {base b : Nat} {x y z : Value} (h : w.ownsRow base 113 1 (.slice (some ⟨b, 0, none⟩) 3 3) 3 [x, y, z]) : w.cell? ⟨b, 0, none⟩ = some x ∧ w.cell? ⟨b, 1, none⟩ = some y ∧ w.cell? ⟨b, 2, none⟩ = some z ∧ w.frozen? ⟨b, 0, none⟩ = false ∧ w.frozen? ⟨b, 1, none⟩ = false ∧ w.frozen? ⟨b, 2, none⟩ = false ∧ base ≤ b ∧ b < w.heap.size := by
  have h0 := h.cellAt 0 (by decide)
  have h1 := h.cellAt 1 (by decide)
  have h2 := h.cellAt 2 (by decide)
  exact ⟨h0, h1, h2, h.frozenAt 0, h.frozenAt 1, h.frozenAt 2, own_ge h⟩
/-- The slice holds n bytes, in a block below B. -/
def Bytes (w : World) (B : Nat) (A : Option Addr) (n : Nat) : Prop := ∀ j, j < n → ∃ (b off : Nat) (u : Nat), A = some ⟨b, off, none⟩ ∧ b < B ∧ u < 256 ∧ w.cell? ⟨b, off + j, none⟩ = some (.int .u8 u)
theorem Bytes.keep {w w' : World} {B : Nat} {A : Option Addr} {n : Nat} (h : Bytes w B A n) (hg : w.grownBy w' (some B)) (hB : B ≤ w.heap.size) : Bytes w' B A n := by
  intro j hj
  obtain ⟨b, off, u, e, hb, hu, hc⟩ := h j hj
  refine ⟨b, off, u, e, hb, hu, ?_⟩
  rw [← hc]
  exact hg.cell_far ⟨b, off + j, none⟩ (by simp; omega) (by simp; omega)
structure SrcF (w : World) (B : Nat) (A : Option Addr) (n c : Nat) (at' seed : Int) : Prop where
  own : w.ownsRow B 113 1 (.slice (some ⟨B, 0, none⟩) 3 3) 3 [.slice A n c, .int .i64 at', .int .i64 seed]
  a0 : 0 ≤ at'
  a1 : at' ≤ n
  s0 : 0 ≤ seed
  s1 : seed < 2147483647
  n1 : n ≤ 4096
  by_ : Bytes w B A n
def Src (w : World) (B : Nat) : Prop := ∃ A n c at' seed, SrcF w B A n c at' seed
def NextP (B : Nat) (n : Int) (w : World) (e : Ending) (w' : World) : Prop := ∃ r : Int, e = .returned (.int .i64 r) ∧ 0 ≤ r ∧ (1 < n → r < n) ∧ (n ≤ 1 → r = 0) ∧ Src w' B ∧ w.grownBy w' (some B)
theorem grown_refl (w : World) (row : Option Nat) : w.grownBy w row := grown_of_below (Below.refl _ _) row
theorem SrcF.set_seed {w : World} {B : Nat} {A : Option Addr} {n c : Nat} {at' seed s : Int} (h : SrcF w B A n c at' seed) (h0 : 0 ≤ s) (h1 : s < 2147483647) : SrcF (w.setCell ⟨B, 2, none⟩ (.int .i64 s)) B A n c at' s ∧ w.grownBy (w.setCell ⟨B, 2, none⟩ (.int .i64 s)) (some B) := by
  have hst := h.own.stored 2 (.int .i64 s)
  exact ⟨⟨by simpa using hst.1, h.a0, h.a1, h0, h1, h.n1, h.by_.keep (by simpa using hst.2) (by have := (own_ge h.own).2; omega)⟩, by simpa using hst.2⟩
theorem SrcF.set_at {w : World} {B : Nat} {A : Option Addr} {n c : Nat} {at' seed a : Int} (h : SrcF w B A n c at' seed) (h0 : 0 ≤ a) (h1 : a ≤ n) : SrcF (w.setCell ⟨B, 1, none⟩ (.int .i64 a)) B A n c a seed ∧ w.grownBy (w.setCell ⟨B, 1, none⟩ (.int .i64 a)) (some B) := by
  have hst := h.own.stored 1 (.int .i64 a)
  exact ⟨⟨by simpa using hst.1, h0, h1, h.s0, h.s1, h.n1, h.by_.keep (by simpa using hst.2) (by have := (own_ge h.own).2; omega)⟩, by simpa using hst.2⟩
theorem SrcF.drewN {w : World} {B : Nat} {A : Option Addr} {n c : Nat} {at' seed : Int} (h : SrcF w B A n c at' seed) (k : Nat) : SrcF (w.drewN k) B A n c at' seed :=
  ⟨own_below h.own (below_drewN (Below.refl _ _) k), h.a0, h.a1, h.s0, h.s1, h.n1, h.by_⟩
set_option maxHeartbeats 2000000 in
set_option maxRecDepth 100000 in
theorem c_Next (B : Nat) (n : Int) (w : World) (h : Src w B) (hn : n ≤ 9223372036854775807) : Calls Try.prog 57 #[.pointer (some ⟨B, 0, none⟩), .int .i64 n] w (NextP B n w) := by
  obtain ⟨A, m, c, a, seed, hf⟩ := h
  rcases Int.lt_or_le 1 n with hn1 | hn1
  · obtain ⟨v0, v1, v2, f0, f1, f2, _, hlt⟩ := three_cells hf.own
    have hs0 := hf.s0
    have hs1 := hf.s1
    have hn1m := hf.n1
    have ha0 := hf.a0
    have ha1 := hf.a1
    have hr0 := Int.emod_nonneg (seed * 48271 + 29) (b := 2147483647) (by decide)
    have hr1 := Int.emod_lt_of_pos (seed * 48271 + 29) (b := 2147483647) (by decide)
    have HS := Lib.hid (hf.set_seed hr0 hr1)
    clear hf
    go_enter Try.func57, Try.ntmps57
    go_wp2_with (fail)
    generalize (seed * 48271 + 29) % 2147483647 = s at hr0 hr1 HS ⊢
    have hf := HS.out.1
    have HG := Lib.hid HS.out.2
    generalize w.setCell ⟨B, 2, none⟩ (.int .i64 s) = W at hf HG ⊢
    clear v0 v1 v2 f0 f1 f2 HS hlt
    obtain ⟨v0, v1, v2, f0, f1, f2, _, hlt⟩ := three_cells hf.own
    obtain ⟨k, rfl⟩ : ∃ k : Nat, a = k := ⟨a.toNat, by omega⟩
    have hx0 : 0 ≤ s / 31 := Int.ediv_nonneg hr0 (by decide)
    have hx1 : s / 31 ≤ 2147483647 := by omega
    generalize s / 31 = x at hx0 hx1 ⊢
    by_cases ham : k < m
    · obtain ⟨b, off, u, rfl, hbB, hu, hc⟩ := hf.by_ k ham
      have HF := Lib.hid hf
      have hd : decide ((k : Int) < m) = true := by simp; omega
      clear hf
      go_region_held3 (fun w' => w'.cell? ⟨B, 0, none⟩ = some (.slice (some ⟨b, off, none⟩) m c) ∧ w'.cell? ⟨B, 1, none⟩ = some (.int .i64 k)) (exact ⟨v0, v1⟩) (fail)
      go_wp2_with (fail)
      have hw1 : IntKind.i64.wrap (x + (u : Int)) = x + u := IntWalk.i64_in _ (by omega)
      have hw2 : IntKind.i64.wrap (u : Int) = u := IntWalk.i64_in _ (by omega)
      have hk0 : (0 : Int) ≤ (k : Int) := by omega
      have hk1 : (k : Int) < m := by omega
      go_region_held3 (fun w' => w'.cell? ⟨B, 0, none⟩ = some (.slice (some ⟨b, off, none⟩) m c) ∧ w'.cell? ⟨B, 1, none⟩ = some (.int .i64 k) ∧ w'.cell? ⟨b, off + k, none⟩ = some (.int .u8 u)) (exact ⟨v0, v1, hc⟩) (fail)
      go_wp2_with (fail)
      clear hw1 hw2
      all_goals
        have HS := Lib.hid (HF.out.set_at (a := (k : Int) + 1) (by omega) (by omega))
        have hlt2 : b < W.heap.size := by omega
        have hne : ¬ b = B := by omega
        have hw3 : IntKind.i64.wrap ((k : Int) + 1 - 1) = k := by rw [show (k : Int) + 1 - 1 = k by omega]; exact IntWalk.i64_in _ (by omega)
        have hw5 : IntKind.i64.wrap (k : Int) = k := IntWalk.i64_in _ (by omega)
        have j0 : ((W.setCell ⟨B, 1, none⟩ (.int .i64 ((k : Int) + 1))).drew.drew).cell? ⟨B, 0, none⟩ = some (.slice (some ⟨b, off, none⟩) m c) := by go_simp
        have j1 : ((W.setCell ⟨B, 1, none⟩ (.int .i64 ((k : Int) + 1))).drew.drew).cell? ⟨B, 1, none⟩ = some (.int .i64 ((k : Int) + 1)) := by go_simp
        have j2 : ((W.setCell ⟨B, 1, none⟩ (.int .i64 ((k : Int) + 1))).drew.drew).cell? ⟨b, off + k, none⟩ = some (.int .u8 u) := by go_simp
        have HQ : Hid (Src ((W.setCell ⟨B, 1, none⟩ (.int .i64 ((k : Int) + 1))).drew.drew) B ∧ w.grownBy ((W.setCell ⟨B, 1, none⟩ (.int .i64 ((k : Int) + 1))).drew.drew) (some B)) := Lib.hid ⟨⟨_, _, _, _, _, HS.out.1.drewN 2⟩, grown_trans (grown_trans HG.out HS.out.2) (grown_of_below (Below.refl _ _).drew.drew _)⟩
        generalize ((W.setCell ⟨B, 1, none⟩ (.int .i64 ((k : Int) + 1))).drew.drew) = W2 at j0 j1 j2 HQ ⊢
        clear HS HF hc v0 v1 v2 f0 f1 f2
        have HR := Lib.hid (fun (y : Int) (hy : 0 ≤ y) => (show 0 ≤ y % n ∧ y % n < n from ⟨Int.emod_nonneg y (by omega), Int.emod_lt_of_pos y (by omega)⟩))
      all_goals try
        (go_region_held3 (fun w' => w'.cell? ⟨B, 0, none⟩ = some (.slice (some ⟨b, off, none⟩) m c) ∧ w'.cell? ⟨B, 1, none⟩ = some (.int .i64 ((k : Int) + 1)) ∧ w'.cell? ⟨b, off + k, none⟩ = some (.int .u8 u)) (exact ⟨j0, j1, j2⟩) (fail)
         go_wp2_with (fail)
         go_ret
         exact ⟨(u : Int) % n, rfl, (HR.out _ (by omega)).1, fun _ => (HR.out _ (by omega)).2, fun h => by omega, (let ⟨A, m, c, a, s, h⟩ := HQ.out.1; ⟨A, m, c, a, s, h.drewN 1⟩), grown_trans HQ.out.2 (grown_of_below (Below.refl _ _).drew _)⟩)
      all_goals
        go_ret
        exact ⟨(x + u) % n, rfl, (HR.out _ (by omega)).1, fun _ => (HR.out _ (by omega)).2, fun h => by omega, HQ.out.1, HQ.out.2⟩
    · have hd : decide ((k : Int) < m) = false := by simp; omega
      have HSR := Lib.hid (show Src W B from ⟨A, m, c, k, s, hf⟩)
      have HSD := Lib.hid (show Src W.drew B from ⟨A, m, c, k, s, hf.drewN 1⟩)
      have hq0 := Int.emod_nonneg x (b := n) (by omega)
      have hq1 := Int.emod_lt_of_pos x (b := n) (by omega)
      clear hf
      go_region_held3 (fun w' => w'.cell? ⟨B, 0, none⟩ = some (.slice A m c) ∧ w'.cell? ⟨B, 1, none⟩ = some (.int .i64 k)) (exact ⟨v0, v1⟩) (fail)
      go_wp2_with (fail)
      go_ret
      refine ⟨x % n, rfl, hq0, fun _ => hq1, fun h => by omega, HSD.out, ?_⟩
      exact grown_trans HG.out (grown_of_below (Below.refl _ _).drew _)
  · have HS := Lib.hid (show Src w B from ⟨A, m, c, a, seed, hf⟩)
    go_enter Try.func57, Try.ntmps57
    go_wp2
    go_ret
    exact ⟨0, rfl, by omega, fun h => by omega, fun _ => rfl, HS.out, grown_refl _ _⟩
end Go.Proofs.Ytaloheljfefdeaa

/- The kit's still tail, with the world behind the draw folded. -/
namespace Go.Proofs.Ytaloheljfefdeaa
open Go.RowKit

theorem wp_still_drew {P : Program} {id : Nat} {Q : Exit → Act → World → Prop} {a : Act} {w : World} {l : List Oper} (n : Nat) (hm : P.follows .mixedOrders = true) (hB : Region.lexTailB .any l.toArray n = true)
    (h : wpStill P l.toArray w.drew (fun a' => wpList P l.toArray Q (l.drop n) a' w.drew) (l.take n) a) : (Code.region id l.toArray true).wp P Q a w := wp_region_still_tail n hm hB h
end Go.Proofs.Ytaloheljfefdeaa

/- Contracts of l01From, l01Pick: the source at its start, one of some numbers. Condition: at most 4096 bytes of code; lists that are not empty. -/
namespace Go.Proofs.Ytaloheljfefdeaa
open Go.RowKit

theorem Src.drew {w : World} {B : Nat} (h : Src w B) : Src w.drew B := let ⟨A, m, c, a, s, h⟩ := h; ⟨A, m, c, a, s, h.drewN 1⟩
theorem Src.lt {w : World} {B : Nat} (h : Src w B) : B < w.heap.size := let ⟨_, _, _, _, _, h⟩ := h; (own_ge h.own).2
theorem Src.far {w w' : World} {B : Nat} {row : Option Nat} (h : Src w B) (hg : w.grownBy w' row) (hr : ∀ q, row = some q → B < q) : Src w' B := by
  have hlt := h.lt
  obtain ⟨A, m, c, a, s, h⟩ := h
  refine ⟨A, m, c, a, s, h.own.kept hg (.inr ?_), h.a0, h.a1, h.s0, h.s1, h.n1, ?_⟩
  · intro e
    have := hr B (by rw [← e]; rfl)
    omega
  · intro j hj
    obtain ⟨b, off, u, e, hb, hu, hc⟩ := h.by_ j hj
    refine ⟨b, off, u, e, hb, hu, ?_⟩
    rw [← hc]
    exact hg.cell_far ⟨b, off + j, none⟩ (by simp; omega) (fun e => by have := hr _ e.symm; simp at this; omega)
theorem Src.below {w w' : World} {B : Nat} (h : Src w B) (hb : Below w.heap.size w w') : Src w' B := h.far (grown_of_below hb none) (by simp)
theorem Src.alloc {w : World} {B : Nat} (h : Src w B) (o : Obj) : Src (w.alloc o) B := h.below (below_alloc (Below.refl _ _) o)
set_option maxRecDepth 100000 in
theorem c_From (A : Option Addr) (c n : Nat) (w : World) (hn : n ≤ 4096) (hb : Bytes w w.heap.size A n) :
    Calls Try.prog 47 #[.slice A n c] w fun e w' => e = .returned (.pointer (some ⟨w.heap.size, 0, none⟩)) ∧ Src w' w.heap.size ∧ Below w.heap.size w w' := by
  have hown := own_three (w := w) (.slice A n c) (.int .i64 0) (.int .i64 52021)
  have hf : SrcF (w.alloc (.cells #[.slice A n c, .int .i64 0, .int .i64 52021] 113)) w.heap.size A n c 0 52021 :=
    ⟨hown, by omega, by omega, by omega, by omega, hn, hb.keep (grown_of_below (below_alloc (Below.refl _ _) _) _) (Nat.le_refl _)⟩
  have HF := Lib.hid hf
  clear hf hown hb
  go_enter Try.func47, Try.ntmps47
  go_wp2
  go_loopw [4] (fun v wr => ∃ (k : Nat) (s : Int), k ≤ 64 ∧ k ≤ n ∧ v = .int .i64 k ∧ SrcF wr w.heap.size A n c 0 s ∧ Below w.heap.size w wr) (fun v _ => n - (intOf v).toNat)
  case atStart => exact ⟨0, 52021, by omega, Nat.zero_le _, rfl, HF.out, by (repeat (first | exact Below.refl _ _ | assumption | refine below_alloc ?_ _ | refine below_drewN ?_ _ | refine below_set ?_ _ (by simp; try omega) | refine Below.drew ?_))⟩
  case round =>
    obtain ⟨k, s, hk, hkn, rfl, hf, hb⟩ := hrel
    clear HF
    by_cases hlt : k < n ∧ k < 64
    · obtain ⟨hlt, hlt64⟩ := hlt
      obtain ⟨b, off, u, rfl, hbB, hu, hc⟩ := hf.by_ k hlt
      obtain ⟨v0, v1, v2, f0, f1, f2, _, hltw⟩ := three_cells hf.own
      have hs0 := hf.s0
      have hs1 := hf.s1
      have hr0 := Int.emod_nonneg (s * 59 + (u : Int)) (b := 2147483647) (by decide)
      have hr1 := Int.emod_lt_of_pos (s * 59 + (u : Int)) (b := 2147483647) (by decide)
      have hw1 : IntKind.i64.wrap (s * 59) = s * 59 := IntWalk.i64_in _ (by omega)
      have hw2 : IntKind.i64.wrap (u : Int) = u := IntWalk.i64_in _ (by omega)
      have hw3 : IntKind.i64.wrap (s * 59 + (u : Int)) = s * 59 + u := IntWalk.i64_in _ (by omega)
      have hw4 : (s * 59 + (u : Int)).tmod 2147483647 = (s * 59 + (u : Int)) % 2147483647 := Int.tmod_eq_emod_of_nonneg (by omega)
      have hk0 : (0 : Int) ≤ (k : Int) := by omega
      have hk1 : (k : Int) < n := by omega
      have HS := Lib.hid (hf.set_seed hr0 hr1)
      have HB := Lib.hid hb
      clear hf hb
      go_wp2_with (fail)
      refine wp_still_drew 15 (by kernel_rfl) (by kernel_rfl) ?_
      simp only [List.take_succ_cons, List.take_zero, List.drop_succ_cons, List.drop_zero]
      repeat still_step
      try refine wpStill_nil ?_
      clear hw1 hw2 hw3 hw4
      go_wp2
      have HD : Hid (SrcF ((wr.setCell ⟨w.heap.size, 2, none⟩ (.int .i64 ((s * 59 + (u : Int)) % 2147483647))).drew) w.heap.size (some ⟨b, off, none⟩) n c 0 ((s * 59 + (u : Int)) % 2147483647) ∧ Below w.heap.size w ((wr.setCell ⟨w.heap.size, 2, none⟩ (.int .i64 ((s * 59 + (u : Int)) % 2147483647))).drew)) :=
        Lib.hid ⟨HS.out.1.drewN 1, (below_of_grown HB.out HS.out.2 (by simp)).drew⟩
      go_roundw
      case rel => exact ⟨k + 1, _, by omega, by omega, by go_num, HD.out.1, HD.out.2⟩
      case measure => simp [intOf]; omega
    · have HFF := Lib.hid hf
      have HB := Lib.hid hb
      have hd : (decide ((k : Int) < n) && decide ((k : Int) < 64)) = false := by simp; omega
      clear hf hb
      rcases Nat.lt_or_ge k n with h1 | h1
      · have h2 : ¬ k < 64 := by omega
        go_wp2
        go_ret
        exact ⟨rfl, ⟨_, _, _, _, _, HFF.out⟩, HB.out⟩
      · go_wp2
        go_ret
        exact ⟨rfl, ⟨_, _, _, _, _, HFF.out⟩, HB.out⟩
end Go.Proofs.Ytaloheljfefdeaa

/- Contracts of l01Pick, l01Abs at any number, l03Total at any layout, l03DrawInterval. Condition: lists that are not empty. -/
namespace Go.Proofs.Ytaloheljfefdeaa
open Go.RowKit

/-- Some number, and the source goes on. -/
def SomeI (B : Nat) (w : World) (e : Ending) (w' : World) : Prop := ∃ z : Int, e = .returned (.int .i64 z) ∧ Src w' B ∧ w.grownBy w' (some B)
def SomeI2 (w : World) (e : Ending) (w' : World) : Prop := ∃ z : Int, e = .returned (.int .i64 z) ∧ -9223372036854775808 ≤ z ∧ z ≤ 9223372036854775807 ∧ Below w.heap.size w w'
set_option maxRecDepth 100000 in
theorem c_Pick (B g c n : Nat) (zs : List Int) (w : World) (h : Src w B) (hg : g ≠ B) (hn : n = zs.length) (hn0 : 0 < n) (hn1 : n ≤ 100) (hr : Rd w (some ⟨g, 0, none⟩) (ints zs)) :
    Calls Try.prog 82 #[.pointer (some ⟨B, 0, none⟩), .slice (some ⟨g, 0, none⟩) n c] w (SomeI B w) := by
  have HN := Lib.hid hn
  clear hn
  go_enter Try.func82, Try.ntmps82
  go_wp2_with (fail)
  refine (c_Next B n w h (by omega)).mono ?_
  rintro e w1 ⟨r, rfl, hr0, hr1, hr2, hs, hgr⟩
  have hrn : r < n := by
    rcases Int.lt_or_le 1 n with h1 | h1
    · exact hr1 h1
    · have := hr2 h1; omega
  obtain ⟨k, rfl⟩ : ∃ k : Nat, r = k := ⟨r.toNat, by omega⟩
  obtain ⟨z, hz⟩ : ∃ z, zs[k]? = some z := ⟨_, List.getElem?_eq_getElem (by have := HN.out; omega)⟩
  obtain ⟨b, off, e, hb, hc⟩ := hr.int hz
  simp only [Option.some.injEq, Addr.mk.injEq, and_true] at e
  obtain ⟨rfl, rfl⟩ := e
  have hc1 : w1.cell? ⟨g, 0 + k, none⟩ = some (.int .i64 z) := cell_mark hc hgr (fun q hq => by simp at hq; simp; omega)
  have HS := Lib.hid hs
  have HG := Lib.hid hgr
  clear hr hz hc hr1 hr2 hs hgr h
  simp only [Nat.zero_add] at hc1
  go_wp2_with (fail)
  go_ret
  exact ⟨z, rfl, HS.out, HG.out⟩
end Go.Proofs.Ytaloheljfefdeaa

/- Draws of models: helpers on worlds that grow beside the source; c_PickIn; l20DrawTests. Condition: bounded sizes. -/
namespace Go.Proofs.Ytaloheljfefdeaa
open Go.RowKit

/-- The source goes on, and nothing else of before has turned. -/
structure DW (B : Nat) (w wr : World) : Prop where
  s : Src wr B
  g : w.grownBy wr (some B)
theorem DW.start {B : Nat} {w : World} (h : Src w B) : DW B w w := ⟨h, grown_refl _ _⟩
theorem gb_far {w a b : World} {row r2 : Option Nat} (h : w.grownBy a row) (hg : a.grownBy b r2) (hr : ∀ q, r2 = some q → w.heap.size ≤ q) : w.grownBy b row :=
  ⟨hg.os.trans h.os, hg.tape.trans h.tape, hg.output.trans h.output, Nat.le_trans h.size hg.size, fun k hk hne => (hg.block k (Nat.lt_of_lt_of_le hk h.size) (fun e => by have := hr k e.symm; omega)).trans (h.block k hk hne)⟩
theorem DW.far {B : Nat} {w a b : World} {r2 : Option Nat} (h : DW B w a) (hB : B < w.heap.size) (hg : a.grownBy b r2) (hr : ∀ q, r2 = some q → w.heap.size ≤ q) : DW B w b :=
  ⟨h.s.far hg (fun q hq => Nat.lt_of_lt_of_le hB (hr q hq)), gb_far h.g hg hr⟩
theorem DW.below {B : Nat} {w a b : World} (h : DW B w a) (hB : B < w.heap.size) (hb : Below a.heap.size a b) : DW B w b := h.far hB (grown_of_below hb none) (by simp)
theorem DW.alloc {B : Nat} {w a : World} (h : DW B w a) (hB : B < w.heap.size) (o : Obj) : DW B w (a.alloc o) := h.below hB (below_alloc (Below.refl _ _) o)
theorem DW.drew {B : Nat} {w a : World} (h : DW B w a) (hB : B < w.heap.size) : DW B w a.drew := h.below hB (Below.refl _ _).drew
theorem DW.then_ {B : Nat} {w a b : World} (h : DW B w a) (h2 : DW B a b) : DW B w b := ⟨h2.s, grown_trans h.g h2.g⟩
theorem DW.set {B : Nat} {w a : World} (h : DW B w a) (hB : B < w.heap.size) {p : Addr} (v : Value) (hp : w.heap.size ≤ p.block) : DW B w (a.setCell p v) := by
  have hb : Below w.heap.size a (a.setCell p v) := (Below.refl _ _).setCell hp v
  refine ⟨h.s.far (row := some p.block) ⟨hb.os, hb.tape, hb.output, hb.size, fun k hk hne => ?_⟩ (by intro q hq; simp at hq; omega), ?_⟩
  · unfold World.setCell
    simp only
    rw [Array.getElem?_modify, if_neg (by intro e; exact hne (by rw [e]))]
  · exact ⟨hb.os.trans h.g.os, hb.tape.trans h.g.tape, hb.output.trans h.g.output, Nat.le_trans h.g.size hb.size, fun k hk hne => (hb.block k hk).trans (h.g.block k hk hne)⟩
theorem DW.own {B : Nat} {w wr : World} (h : DW B w wr) {base : Nat} {e : TypeId} {size n : Nat} {v : Value} {xs : List Value} (ho : w.ownsRow base e size v n xs) (hB : B < base) : wr.ownsRow base e size v n xs :=
  kept_far ho h.g (fun q hq => by simp at hq; omega)
theorem DW.cell {B : Nat} {w wr : World} (h : DW B w wr) {b j : Nat} {v : Value} (hc : w.cell? ⟨b, j, none⟩ = some v) (hB : B ≠ b) : wr.cell? ⟨b, j, none⟩ = some v :=
  cell_mark hc h.g (fun q hq => by simp at hq; simp; omega)
/-- One of some numbers, and the source goes on. -/
def PickP (B : Nat) (zs : List Int) (w : World) (e : Ending) (w' : World) : Prop := ∃ z : Int, z ∈ zs ∧ e = .returned (.int .i64 z) ∧ DW B w w'
set_option maxRecDepth 100000 in
theorem c_PickIn (B g c n : Nat) (zs : List Int) (w : World) (h : Src w B) (hg : g ≠ B) (hn : n = zs.length) (hn0 : 0 < n) (hn1 : n ≤ 100) (hr : Rd w (some ⟨g, 0, none⟩) (ints zs)) :
    Calls Try.prog 82 #[.pointer (some ⟨B, 0, none⟩), .slice (some ⟨g, 0, none⟩) n c] w (PickP B zs w) := by
  have HN := Lib.hid hn
  clear hn
  go_enter Try.func82, Try.ntmps82
  go_wp2_with (fail)
  refine (c_Next B n w h (by omega)).mono ?_
  rintro e w1 ⟨r, rfl, hr0, hr1, hr2, hs, hgr⟩
  have hrn : r < n := by
    rcases Int.lt_or_le 1 n with h1 | h1
    · exact hr1 h1
    · have := hr2 h1; omega
  obtain ⟨k, rfl⟩ : ∃ k : Nat, r = k := ⟨r.toNat, by omega⟩
  obtain ⟨z, hz⟩ : ∃ z, zs[k]? = some z := ⟨_, List.getElem?_eq_getElem (by have := HN.out; omega)⟩
  have HZ := Lib.hid (List.mem_of_getElem? hz)
  obtain ⟨b, off, e, hb, hc⟩ := hr.int hz
  simp only [Option.some.injEq, Addr.mk.injEq, and_true] at e
  obtain ⟨rfl, rfl⟩ := e
  have hc1 : w1.cell? ⟨g, 0 + k, none⟩ = some (.int .i64 z) := cell_mark hc hgr (fun q hq => by simp at hq; simp; omega)
  have HS := Lib.hid hs
  have HG := Lib.hid hgr
  clear hr hz hc hr1 hr2 hs hgr h
  simp only [Nat.zero_add] at hc1
  go_wp2_with (fail)
  go_ret
  exact ⟨z, HZ.out, rfl, HS.out, HG.out⟩
theorem c_NextD (B : Nat) (n : Int) (w : World) (h : Src w B) (hn : n ≤ 9223372036854775807) : Calls Try.prog 57 #[.pointer (some ⟨B, 0, none⟩), .int .i64 n] w fun e w' => ∃ r : Int, e = .returned (.int .i64 r) ∧ 0 ≤ r ∧ (1 ≤ n → r < n) ∧ (n ≤ 1 → r = 0) ∧ DW B w w' :=
  (c_Next B n w h hn).mono fun e w' ⟨r, he, h0, h1, h2, hs, hg⟩ => ⟨r, he, h0, fun hn1 => by
    rcases Int.lt_or_le 1 n with h3 | h3
    · exact h1 h3
    · have := h2 h3; omega, h2, hs, hg⟩
theorem wpList_push_tst (w : World) {ops : Array Oper} {rest : List Oper} {o : Oper} {a : Act} {Q : Exit → Act → World → Prop} (hgd : o.guard = none) (s x : Operand)
    (ho : o.op = .call { callee := .builtin .append, args := #[s, x], argTypes := #[28, 28] })
    (base : Nat) (v : Value) (n : Nat) (l : List Tst) (t : Tst) (g c : Nat) (hs : a.eval s = v) (hown : w.ownsRow base 100 3 v n (tstCells l))
    (hx : a.eval x = .slice (some ⟨g, 0, none⟩) 1 c) (h0 : w.cell? ⟨g, 0, none⟩ = some (.int .i64 t.v)) (h1 : w.cell? ⟨g, 1, none⟩ = some (.int .i64 t.x)) (h2 : w.cell? ⟨g, 2, none⟩ = some (.bool t.q)) (hn : n ≤ 1048577) (hbase : base ≤ w.heap.size)
    (h : ∀ v' w', w'.ownsRow base 100 3 v' (n + 1) (tstCells (l ++ [t])) → w.grownBy w' v.ownBlock → wpList Try.prog ops Q rest (a.put o.dst v') w') : wpList Try.prog ops Q (o :: rest) a w := by
  obtain ⟨i0, hi, hz0, hz1, hz2⟩ := info_parts info_iTest
  refine wpList_push w hgd s x 28 ho base 100 i0 _ 3 24 Try.underlying28 hi hz0 hz1 hz2 rfl (by decide) v n (tstCells l) hs hown ⟨g, 0, none⟩ c t.cells hx rfl ?_ ?_ (by unfold maxLen; omega) (by omega) hbase ?_
  · intro j u hu
    match j, hu with
    | 0, hu => simp only [Tst.cells, List.getElem?_cons_zero, Option.some.injEq] at hu; rw [← hu]; simpa [Addr.add] using h0
    | 1, hu => simp only [Tst.cells, List.getElem?_cons_succ, List.getElem?_cons_zero, Option.some.injEq] at hu; rw [← hu]; simpa [Addr.add] using h1
    | 2, hu => simp only [Tst.cells, List.getElem?_cons_succ, List.getElem?_cons_zero, Option.some.injEq] at hu; rw [← hu]; simpa [Addr.add] using h2
  · intro u hu
    simp only [Tst.cells, List.mem_cons, List.not_mem_nil, or_false] at hu
    rcases hu with rfl | rfl | rfl <;> rfl
  · intro v' w' hown1 hgrow _ _
    refine h v' w' ?_ hgrow
    have e : tstCells (l ++ [t]) = tstCells l ++ t.cells := by simp [tstCells]
    rw [e]
    exact hown1
theorem own_shape {w : World} {base : Nat} {e : TypeId} {size n : Nat} {v : Value} {xs : List Value} (h : w.ownsRow base e size v n xs) : ∃ A c, v = .slice A n c := by
  rcases h.2 with ⟨h1, h2⟩ | ⟨g, cap, cur, hv, _⟩
  · exact ⟨none, 0, by rw [h1, h2]⟩
  · exact ⟨_, _, hv⟩
/-- Some tests, and the source goes on. -/
def DrTs (B most : Nat) (w : World) (e : Ending) (w' : World) : Prop :=
  ∃ A c n, ∃ ts : List Tst, e = .returned (.slice A n c) ∧ ts.length = n ∧ n ≤ most ∧ w'.ownsRow w.heap.size 100 3 (.slice A n c) n (tstCells ts) ∧ DW B w w'
set_option maxHeartbeats 1000000 in
set_option maxRecDepth 100000 in
theorem c_l20DrawTests (B most base : Nat) (az ax ar : Option Addr) (cz cs cr n tn rn : Nat) (zs : List Int) (w : World) (h : Src w B) (hm : most ≤ 100) (hn : zs.length = n) (hn0 : 0 < n) (hn1 : n ≤ 1048576) (hz : ∀ z ∈ zs, z ≤ 9223372036854775807) (hB : B < base) (ho : w.ownsRow base 2 1 (.slice az n cz) n (ints zs)) :
    Calls Try.prog 81 #[.pointer (some ⟨B, 0, none⟩), .agg #[.slice az n cz, .slice ax tn cs, .slice ar rn cr], .int .i64 most] w (DrTs B most w) := by
  have hBl := h.lt
  have HN := Lib.hid hn
  have HZ := Lib.hid hz
  have HO := Lib.hid ho
  have HD := Lib.hid ((DW.start h).alloc hBl (.cells #[.slice az n cz, .slice ax tn cs, .slice ar rn cr] 27))
  clear hn hz ho h
  go_enter Try.func81, Try.ntmps81
  go_wp2_with (fail)
  refine (c_NextD B _ _ ((HD.out.alloc hBl _).s) (by omega)).mono ?_
  rintro e w1 ⟨r, rfl, hr0, hr1, _, hd⟩
  have hrm := hr1 (by omega)
  obtain ⟨j, rfl⟩ : ∃ j : Nat, r = j := ⟨r.toNat, by omega⟩
  have hj : j ≤ most := by omega
  have HD1 := Lib.hid ((HD.out.alloc hBl _).then_ hd)
  have k0 : w1.cell? ⟨w.heap.size, 0, none⟩ = some (.slice az n cz) := hd.cell (by go_simp) (by omega)
  have HT : Hid (w1.ownsRow (w.heap.size + 1) 100 3 (.slice (some ⟨w.heap.size + 1, 0, none⟩) 0 0) 0 (tstCells [])) := Lib.hid (hd.own (by
    have := World.ownsRow_made (e := 100) (size := 3) (base := w.heap.size + 1) (w.alloc (.cells #[.slice az n cz, .slice ax tn cs, .slice ar rn cr] 27)) #[] 0 (by simp) (Nat.zero_le _) rfl
    simpa [tstCells] using this) (by omega))
  clear hd hr0 hr1 hrm
  go_wp2
  go_loopw [7, 8] (fun v i wr => ∃ (j k : Nat) (ts : List Tst), j + k ≤ most ∧ i = .int .i64 j ∧ Hid (ts.length = k) ∧ Hid (wr.ownsRow (w.heap.size + 1) 100 3 v k (tstCells ts)) ∧ wr.cell? ⟨w.heap.size, 0, none⟩ = some (.slice az n cz) ∧ Hid (DW B w wr)) (fun _ i _ => (intOf i).toNat)
  case atStart => exact ⟨j, 0, [], by omega, rfl, Lib.hid rfl, HT, k0, HD1⟩
  case round =>
    clear HT HD1 k0 HD hj
    obtain ⟨j, k, ts, hjk, rfl, hts, ht, k0, hd⟩ := hrel
    by_cases hj0 : 0 < j
    · obtain ⟨j, rfl⟩ : ∃ j', j = j' + 1 := ⟨j - 1, by omega⟩
      have hji : (0 : Int) < ((j + 1 : Nat) : Int) := by omega
      have hsz := World.block_lt_of_cell? _ _ k0
      dsimp only at hsz
      go_wp2_with (fail)
      refine (c_NextD B _ _ hd.out.s (by omega)).mono ?_
      rintro e w2 ⟨q, rfl, hq0, hq1, _, hd2⟩
      have hqn := hq1 (by omega)
      obtain ⟨q, rfl⟩ : ∃ q' : Nat, q = q' := ⟨q.toNat, by omega⟩
      obtain ⟨z, hz⟩ : ∃ z, zs[q]? = some z := ⟨_, List.getElem?_eq_getElem (by have := HN.out; omega)⟩
      have HDA := Lib.hid (hd.out.then_ hd2)
      replace k0 := hd2.cell k0 (by omega)
      obtain ⟨zb, zo, rfl, _, z0⟩ := (Rd.own (HDA.out.own HO.out hB)).int hz
      have hzz := HZ.out z (List.mem_of_getElem? hz)
      have HT2 := Lib.hid (hd2.own ht.out (by omega))
      clear hz hd2 hq1 ht hd
      go_wp2_with (fail)
      refine (c_NextD B _ _ HDA.out.s (by omega)).mono ?_
      rintro e w3 ⟨x, rfl, _, _, _, hd3⟩
      have HDB := Lib.hid (HDA.out.then_ hd3)
      replace k0 := hd3.cell k0 (by omega)
      have HT3 := Lib.hid (hd3.own HT2.out (by omega))
      clear hd3 z0 HT2 HDA
      go_wp2_with (fail)
      refine (c_NextD B _ _ HDB.out.s (by omega)).mono ?_
      rintro e w4 ⟨y, rfl, hy0, hy1, _, hd4⟩
      have HDC := Lib.hid (HDB.out.then_ hd4)
      replace k0 := hd4.cell k0 (by omega)
      have HT4 := Lib.hid (hd4.own HT3.out (by omega))
      have hsz4 := World.block_lt_of_cell? _ _ k0
      dsimp only at hsz4
      clear hd4 HT3 HDB hy0 hy1
      obtain ⟨t, htd⟩ : ∃ t : Tst, t = ⟨(q : Int), x, decide (0 < y)⟩ := ⟨_, rfl⟩
      have HTE := Lib.hid htd
      clear htd
      go_wp2_with (first
        | (at_builtin
           refine wpList_push_tst _ (by rfl) (.tmp 24) (.tmp 37) (by rfl) (w.heap.size + 1) _ k ts ⟨(q : Int), x, decide (0 < y)⟩ w4.heap.size 1 (by rfl) (own_below HT4.out (below_alloc (Below.refl _ _) _)) (by rfl) (by go_simp) (by go_simp) (by go_simp) (by omega) (by simp; omega) ?_
           intro v1 w7 hown1 hgrow
           have HW1 := Lib.hid hown1
           have HG7 := Lib.hid hgrow
           clear hown1 hgrow)
        )
      go_roundw
      case rel =>
        have hge := fun q hq => (HT4.out.lt q hq).1
        exact ⟨j, k + 1, _, by omega, by go_num, Lib.hid (by rw [List.length_append, hts.out]; rfl), HW1, HG7.out.cell (cell_later (below_alloc (Below.refl _ _) _) k0) (fun e => by have := hge _ e.symm; dsimp only at this; omega), Lib.hid ((HDC.out.alloc hBl _).far hBl HG7.out (fun q hq => by have := hge q hq; omega))⟩
      case measure => simp [intOf] <;> omega
    · have hj1 : j = 0 := by omega
      subst hj1
      obtain ⟨A2, c2, hv2⟩ := own_shape ht.out
      subst hv2
      have HT2 := ht
      have HD2 := hd
      clear ht hd k0
      go_wp2
      go_ret
      exact ⟨A2, c2, k, ts, rfl, hts.out, by omega, own_mono HT2.out (by omega), HD2.out⟩
end Go.Proofs.Ytaloheljfefdeaa

/- l20DrawState. Condition: bounded sizes. -/
namespace Go.Proofs.Ytaloheljfefdeaa
open Go.RowKit

theorem rd_lit2 (w : World) (x y : Int) : Rd (w.alloc (.cells #[.int .i64 x, .int .i64 y] 2)) (some ⟨w.heap.size, 0, none⟩) (ints [x, y]) := by
  have h := World.ownsRow_lit (e := 2) (size := 1) (base := w.heap.size) w #[.int .i64 x, .int .i64 y] 2 (by simp) (by decide) (by simp)
  exact Rd.own (by simpa [ints] using h)
theorem rd_lit3 (w : World) (x y z : Int) : Rd (w.alloc (.cells #[.int .i64 x, .int .i64 y, .int .i64 z] 2)) (some ⟨w.heap.size, 0, none⟩) (ints [x, y, z]) := by
  have h := World.ownsRow_lit (e := 2) (size := 1) (base := w.heap.size) w #[.int .i64 x, .int .i64 y, .int .i64 z] 3 (by simp) (by decide) (by simp)
  exact Rd.own (by simpa [ints] using h)
/-- Some numbers, and the source goes on. -/
def DrIs (B most : Nat) (w : World) (e : Ending) (w' : World) : Prop :=
  ∃ A c n, ∃ vs : List Int, e = .returned (.slice A n c) ∧ vs.length = n ∧ n ≤ most ∧ w'.ownsRow w.heap.size 2 1 (.slice A n c) n (ints vs) ∧ DW B w w'
set_option maxHeartbeats 1000000 in
set_option maxRecDepth 100000 in
theorem c_l20DrawState (B base : Nat) (az ax ar : Option Addr) (cz cs cr n tn rn : Nat) (zs : List Int) (w : World) (h : Src w B) (hn : zs.length = n) (hn1 : n ≤ 1048575) (hz : ∀ z ∈ zs, z ≤ 9223372036854775807) (hB : B < base) (ho : w.ownsRow base 2 1 (.slice az n cz) n (ints zs)) :
    Calls Try.prog 80 #[.pointer (some ⟨B, 0, none⟩), .agg #[.slice az n cz, .slice ax tn cs, .slice ar rn cr]] w (DrIs B (n + 1) w) := by
  have hBl := h.lt
  have HN := Lib.hid hn
  have HZ := Lib.hid hz
  have HO := Lib.hid ho
  have HD := Lib.hid (((DW.start h).alloc hBl (.cells #[.slice az n cz, .slice ax tn cs, .slice ar rn cr] 27)).alloc hBl (.cells #[] 2))
  have HT : Hid (((w.alloc (.cells #[.slice az n cz, .slice ax tn cs, .slice ar rn cr] 27)).alloc (.cells #[] 2)).ownsRow (w.heap.size + 1) 2 1 (.slice (some ⟨w.heap.size + 1, 0, none⟩) 0 0) 0 (ints [])) := Lib.hid (by
    have := World.ownsRow_made (e := 2) (size := 1) (base := w.heap.size + 1) (w.alloc (.cells #[.slice az n cz, .slice ax tn cs, .slice ar rn cr] 27)) #[] 0 (by simp) (Nat.zero_le _) rfl
    simpa [ints] using this)
  clear hn hz ho h
  go_enter Try.func80, Try.ntmps80
  go_wp2
  go_loopw [5, 6] (fun v i wr => ∃ (k : Nat) (vs : List Int), k ≤ n ∧ i = .int .i64 k ∧ Hid (vs.length = k) ∧ Hid (wr.ownsRow (w.heap.size + 1) 2 1 v k (ints vs)) ∧ wr.cell? ⟨w.heap.size, 0, none⟩ = some (.slice az n cz) ∧ Hid (DW B w wr)) (fun _ i _ => n - (intOf i).toNat)
  case atStart => exact ⟨0, [], Nat.zero_le _, rfl, Lib.hid rfl, HT, by go_simp, HD⟩
  case round =>
    clear HT HD
    obtain ⟨k, vs, hk, rfl, hts, ht, k0, hd⟩ := hrel
    by_cases hlt : k < n
    · obtain ⟨z, hz⟩ : ∃ z, zs[k]? = some z := ⟨_, List.getElem?_eq_getElem (by have := HN.out; omega)⟩
      obtain ⟨zb, zo, rfl, _, z0⟩ := (Rd.own (hd.out.own HO.out hB)).int hz
      have hzz := HZ.out z (List.mem_of_getElem? hz)
      have hsz := World.block_lt_of_cell? _ _ k0
      dsimp only at hsz
      have hk0 : (0 : Int) ≤ (k : Int) := by omega
      have hk2 : (k : Int) < (n : Int) := by omega
      clear hz
      go_wp2_with (fail)
      refine (c_NextD B _ _ hd.out.s (by omega)).mono ?_
      rintro e w2 ⟨x, rfl, _, _, _, hd2⟩
      have HDA := Lib.hid (hd.out.then_ hd2)
      replace k0 := hd2.cell k0 (by omega)
      have HT2 := Lib.hid (hd2.own ht.out (by omega))
      have hsz2 := World.block_lt_of_cell? _ _ k0
      dsimp only at hsz2
      clear hd2 hd ht z0
      go_wp2_with (first
        | (at_builtin
           refine wpList_push_int _ (by rfl) (.tmp 15) (.tmp 23) (by rfl) (w.heap.size + 1) _ k vs x w2.heap.size 1 (by rfl) (own_below HT2.out (below_alloc (Below.refl _ _) _)) (by rfl) (by go_simp) (by omega) (by simp; omega) ?_
           intro v1 w7 hown1 hgrow _ _
           have HW1 := Lib.hid hown1
           have HG7 := Lib.hid hgrow
           clear hown1 hgrow)
        )
      go_roundw
      case rel =>
        have hge := fun q hq => (HT2.out.lt q hq).1
        exact ⟨k + 1, _, by omega, by go_num, Lib.hid (by rw [List.length_append, hts.out]; rfl), HW1, HG7.out.cell (cell_later (below_alloc (Below.refl _ _) _) k0) (fun e => by have := hge _ e.symm; dsimp only at this; omega), Lib.hid ((HDA.out.alloc hBl _).far hBl HG7.out (fun q hq => by have := hge q hq; omega))⟩
      case measure => simp [intOf] <;> omega
    · have hkn : k = n := by omega
      subst hkn
      obtain ⟨A2, c2, hv2⟩ := own_shape ht.out
      subst hv2
      go_wp2_with (fail)
      refine (c_NextD B _ _ hd.out.s (by omega)).mono ?_
      rintro e w2 ⟨x, rfl, _, _, _, hd2⟩
      have HDA := Lib.hid (hd.out.then_ hd2)
      replace k0 := hd2.cell k0 (by omega)
      have HT2 := Lib.hid (hd2.own ht.out (by omega))
      have hsz := World.block_lt_of_cell? _ _ k0
      dsimp only at hsz
      clear hd2 hd ht
      by_cases hx0 : x = 0
      · subst hx0
        go_wp2_with (first
          | (at_builtin
             refine wpList_push_int _ (by rfl) (.tmp 29) (.tmp 30) (by rfl) (w.heap.size + 1) _ k vs 0 w2.heap.size 1 (by rfl) (own_below HT2.out (below_alloc (Below.refl _ _) _)) (by rfl) (by go_simp) (by omega) (by simp; omega) ?_
             intro v1 w7 hown1 hgrow _ _
             have HW1 := Lib.hid hown1
             have HG7 := Lib.hid hgrow
             clear hown1 hgrow)
          )
        have hge := fun q hq => (HT2.out.lt q hq).1
        have HDF := Lib.hid ((HDA.out.alloc hBl (.cells #[.int .i64 0] 2)).far hBl HG7.out (fun q hq => by have := hge q hq; omega))
        clear hge
        go_ret
        obtain ⟨A3, c3, hv3⟩ := own_shape HW1.out
        subst hv3
        exact ⟨A3, c3, k + 1, _, rfl, by rw [List.length_append, hts.out]; rfl, by omega, own_mono HW1.out (by omega), HDF.out⟩
      · have hx0b : (x == 0) = false := by simpa using hx0
        by_cases hx1 : x = 1
        · subst hx1
          rcases Nat.eq_zero_or_pos k with h0 | h0
          · subst h0
            go_wp2
            go_ret
            exact ⟨A2, c2, 0, vs, rfl, hts.out, by omega, own_mono HT2.out (by omega), HDA.out⟩
          · obtain ⟨y, hy⟩ : ∃ z, zs[0]? = some z := ⟨_, List.getElem?_eq_getElem (by have := HN.out; omega)⟩
            obtain ⟨zb, zo, rfl, _, z0⟩ := (Rd.own (HDA.out.own HO.out hB)).int0 hy
            obtain ⟨k, rfl⟩ : ∃ k', k = k' + 1 := ⟨k - 1, by omega⟩
            obtain ⟨g, cap, hv2⟩ := own_form HT2.out
            simp only [Value.slice.injEq] at hv2
            obtain ⟨rfl, _, rfl⟩ := hv2
            have hkk : (0 : Int) < ((k + 1 : Nat) : Int) := by omega
            have hkk1 : (0 : Int) < (k : Int) + 1 := by omega
            go_wp2_with (fail)
            refine (c_PickIn B _ _ 2 [-1, y] _ (HDA.out.s.alloc _) (by omega) rfl (by omega) (by omega) (rd_lit2 w2 (-1) y)).mono ?_
            rintro e w3 ⟨p, _, rfl, hd3⟩
            have HT3 := Lib.hid (hd3.own (own_below HT2.out (below_alloc (Below.refl _ _) _)) (by omega))
            have HDB := Lib.hid ((HDA.out.alloc hBl _).then_ hd3)
            have hst := HT3.out.stored 0 (.int .i64 p)
            have hfr := HT3.out.frozenAt 0
            have hcc : (w3.cell? ⟨g, 0, none⟩).isSome = true := own_has HT3.out (by have := own_cap HT3.out; omega)
            obtain ⟨old, hold⟩ := Option.isSome_iff_exists.1 hcc
            have hgl := (own_ge HT3.out).1
            have HST := Lib.hid hst
            have HDC := Lib.hid (HDB.out.far hBl hst.2 (fun q hq => by simp at hq; omega))
            clear hd3 hst hcc hy
            rw [ints_set] at HST
            go_wp2
            go_ret
            exact ⟨_, _, _, _, rfl, by rw [List.length_set, hts.out], by omega, own_mono HST.out.1 (by omega), HDC.out⟩
        · have hx1b : (x == 1) = false := by simpa using hx1
          go_wp2
          go_ret
          exact ⟨A2, c2, k, vs, rfl, hts.out, by omega, own_mono HT2.out (by omega), HDA.out⟩
end Go.Proofs.Ytaloheljfefdeaa

/- Draws of models: append of an assignment, of a rule; boxes of models; blocks of strings. Condition: bounded sizes. -/
namespace Go.Proofs.Ytaloheljfefdeaa
open Go.RowKit

theorem wpList_push_asg (w : World) {ops : Array Oper} {rest : List Oper} {o : Oper} {a : Act} {Q : Exit → Act → World → Prop} (hgd : o.guard = none) (s x : Operand)
    (ho : o.op = .call { callee := .builtin .append, args := #[s, x], argTypes := #[52, 52] })
    (base : Nat) (v : Value) (n : Nat) (l : List Asg) (t : Asg) (g c : Nat) (hs : a.eval s = v) (hown : w.ownsRow base 104 2 v n (asgCells l))
    (hx : a.eval x = .slice (some ⟨g, 0, none⟩) 1 c) (h0 : w.cell? ⟨g, 0, none⟩ = some (.int .i64 t.v)) (h1 : w.cell? ⟨g, 1, none⟩ = some (.int .i64 t.x)) (hn : n ≤ 1048577) (hbase : base ≤ w.heap.size)
    (h : ∀ v' w', w'.ownsRow base 104 2 v' (n + 1) (asgCells (l ++ [t])) → w.grownBy w' v.ownBlock → wpList Try.prog ops Q rest (a.put o.dst v') w') : wpList Try.prog ops Q (o :: rest) a w := by
  obtain ⟨i0, hi, hz0, hz1, hz2⟩ := info_parts info_iAssign
  refine wpList_push w hgd s x 52 ho base 104 i0 _ 2 16 Try.underlying52 hi hz0 hz1 hz2 rfl (by decide) v n (asgCells l) hs hown ⟨g, 0, none⟩ c t.cells hx rfl ?_ ?_ (by unfold maxLen; omega) (by omega) hbase ?_
  · intro j u hu
    match j, hu with
    | 0, hu => simp only [Asg.cells, List.getElem?_cons_zero, Option.some.injEq] at hu; rw [← hu]; simpa [Addr.add] using h0
    | 1, hu => simp only [Asg.cells, List.getElem?_cons_succ, List.getElem?_cons_zero, Option.some.injEq] at hu; rw [← hu]; simpa [Addr.add] using h1
  · intro u hu
    simp only [Asg.cells, List.mem_cons, List.not_mem_nil, or_false] at hu
    rcases hu with rfl | rfl <;> rfl
  · intro v' w' hown1 hgrow _ _
    refine h v' w' ?_ hgrow
    have e : asgCells (l ++ [t]) = asgCells l ++ t.cells := by simp [asgCells]
    rw [e]
    exact hown1
theorem wp_push_rul (w : World) {o : Oper} {a : Act} {K : Act → World → Prop} {Q : Exit → Act → World → Prop} (s x : Operand)
    (ho : o.op = .call { callee := .builtin .append, args := #[s, x], argTypes := #[25, 25] })
    (base : Nat) (v : Value) (n : Nat) (l : List RuD) (t : RuD) (g c : Nat) (hs : a.eval s = v) (hown : w.ownsRow base 54 3 v n (rudCells l))
    (hx : a.eval x = .slice (some ⟨g, 0, none⟩) 1 c) (h0 : w.cell? ⟨g, 0, none⟩ = some (.string t.r.nm)) (h1 : w.cell? ⟨g, 1, none⟩ = some t.vg) (h2 : w.cell? ⟨g, 2, none⟩ = some t.ve) (hn : n ≤ 1048577) (hbase : base ≤ w.heap.size)
    (h : ∀ v' w', w'.ownsRow base 54 3 v' (n + 1) (rudCells (l ++ [t])) → w.grownBy w' v.ownBlock → K (a.put o.dst v') w') : o.wp Try.prog a w K Q := by
  obtain ⟨i0, hi, hz0, hz1, hz2⟩ := info_parts info_iRule
  refine wp_push w s x 25 ho base 54 i0 _ 3 64 Try.underlying25 hi hz0 hz1 hz2 rfl (by decide) v n (rudCells l) hs hown ⟨g, 0, none⟩ c t.cells hx rfl ?_ ?_ (by unfold maxLen; omega) (by omega) hbase ?_
  · intro j u hu
    match j, hu with
    | 0, hu => simp only [RuD.cells, List.getElem?_cons_zero, Option.some.injEq] at hu; rw [← hu]; simpa [Addr.add] using h0
    | 1, hu => simp only [RuD.cells, List.getElem?_cons_succ, List.getElem?_cons_zero, Option.some.injEq] at hu; rw [← hu]; simpa [Addr.add] using h1
    | 2, hu => simp only [RuD.cells, List.getElem?_cons_succ, List.getElem?_cons_zero, Option.some.injEq] at hu; rw [← hu]; simpa [Addr.add] using h2
  · intro u hu
    simp only [RuD.cells, List.mem_cons, List.not_mem_nil, or_false] at hu
    rcases hu with rfl | rfl | rfl <;> rfl
  · intro v' w' hown1 hgrow _ _
    refine h v' w' ?_ hgrow
    have e : rudCells (l ++ [t]) = rudCells l ++ t.cells := by simp [rudCells]
    rw [e]
    exact hown1
theorem wpList_push_rul (w : World) {ops : Array Oper} {rest : List Oper} {o : Oper} {a : Act} {Q : Exit → Act → World → Prop} (hgd : o.guard = none) (s x : Operand)
    (ho : o.op = .call { callee := .builtin .append, args := #[s, x], argTypes := #[25, 25] })
    (base : Nat) (v : Value) (n : Nat) (l : List RuD) (t : RuD) (g c : Nat) (hs : a.eval s = v) (hown : w.ownsRow base 54 3 v n (rudCells l))
    (hx : a.eval x = .slice (some ⟨g, 0, none⟩) 1 c) (h0 : w.cell? ⟨g, 0, none⟩ = some (.string t.r.nm)) (h1 : w.cell? ⟨g, 1, none⟩ = some t.vg) (h2 : w.cell? ⟨g, 2, none⟩ = some t.ve) (hn : n ≤ 1048577) (hbase : base ≤ w.heap.size)
    (h : ∀ v' w', w'.ownsRow base 54 3 v' (n + 1) (rudCells (l ++ [t])) → w.grownBy w' v.ownBlock → wpList Try.prog ops Q rest (a.put o.dst v') w') : wpList Try.prog ops Q (o :: rest) a w :=
  wpList_plain hgd fun _ hK => wp_push_rul w s x ho base v n l t g c hs hown hx h0 h1 h2 hn hbase fun v' w' h2 h3 => hK _ _ (h v' w' h2 h3)
/-- A box of a model, as a row of its three cells. -/
def MBox (w : World) (base p : Nat) (x y z : Value) : Prop := w.ownsRow base 27 1 (.slice (some ⟨p, 0, none⟩) 3 3) 3 [x, y, z]
theorem mbox_new {w : World} (x y z : Value) : MBox (w.alloc (.cells #[x, y, z] 27)) w.heap.size w.heap.size x y z := by
  have h := World.ownsRow_lit (e := 27) (size := 1) (base := w.heap.size) w #[x, y, z] 3 (by simp) (by decide) (by simp)
  simpa [MBox] using h
theorem MBox.c {w : World} {base p : Nat} {x y z : Value} (h : MBox w base p x y z) : w.cell? ⟨p, 0, none⟩ = some x ∧ w.cell? ⟨p, 1, none⟩ = some y ∧ w.cell? ⟨p, 2, none⟩ = some z ∧ w.frozen? ⟨p, 0, none⟩ = false ∧ w.frozen? ⟨p, 1, none⟩ = false ∧ w.frozen? ⟨p, 2, none⟩ = false ∧ base ≤ p ∧ p < w.heap.size :=
  ⟨h.cellAt 0 (by decide), h.cellAt 1 (by decide), h.cellAt 2 (by decide), h.frozenAt 0, h.frozenAt 1, h.frozenAt 2, own_ge h⟩
def set3 (w : World) (p : Nat) (x y z : Value) : World := ((w.setCell ⟨p, 0, none⟩ x).setCell ⟨p, 1, none⟩ y).setCell ⟨p, 2, none⟩ z
theorem MBox.set3 {w : World} {base p : Nat} {x y z : Value} (h : MBox w base p x y z) (x' y' z' : Value) : MBox (set3 w p x' y' z') base p x' y' z' ∧ w.grownBy (Go.Proofs.Ytaloheljfefdeaa.set3 w p x' y' z') (some p) := by
  have h0 := World.ownsRow.stored h 0 x'
  have h1 := h0.1.stored 1 y'
  have h2 := h1.1.stored 2 z'
  exact ⟨by simpa [Go.Proofs.Ytaloheljfefdeaa.set3, MBox] using h2.1, grown_trans (grown_trans h0.2 h1.2) h2.2⟩
theorem DW.set3 {B : Nat} {w a : World} (h : DW B w a) (hB : B < w.heap.size) {p : Nat} (x y z : Value) (hp : w.heap.size ≤ p) : DW B w (Go.Proofs.Ytaloheljfefdeaa.set3 a p x y z) :=
  ((h.set hB x (p := ⟨p, 0, none⟩) hp).set hB y (p := ⟨p, 1, none⟩) hp).set hB z (p := ⟨p, 2, none⟩) hp
/-- What a drawn model is. -/
structure DMd (B base : Nat) (w : World) (az ax ar : Option Addr) (cz cs cr sn tn rn : Nat) (m : Mdl) (ds : List RuD) : Prop where
  o : MOwn w base az ax ar cz cs cr m ds
  z : m.sz.length = sn
  s : m.st.length = tn
  r : m.rs.length = rn
  sep : ∀ q, (Value.slice az sn cz).ownBlock = some q → (Value.slice ax tn cs).ownBlock ≠ some q
  zb : ∀ z ∈ m.sz, z ≤ 9223372036854775807
  rb : ∀ d ∈ ds, d.r.gs.length ≤ 1000 ∧ d.r.es.length ≤ 1000 ∧ d.r.nm.size ≤ 1000
  B : B < base
def DrMd (B sn0 sn1 rn1 R : Nat) (w : World) (e : Ending) (w' : World) : Prop :=
  ∃ az ax ar cz cs cr sn tn rn m ds, e = .returned (.agg #[.slice az sn cz, .slice ax tn cs, .slice ar rn cr]) ∧ DMd B w.heap.size w' az ax ar cz cs cr sn tn rn m ds ∧ sn0 ≤ sn ∧ sn ≤ sn1 ∧ sn0 ≤ tn ∧ tn ≤ sn1 ∧ rn ≤ rn1 ∧ (∀ d ∈ ds, d.r.gs.length ≤ R ∧ d.r.es.length ≤ R ∧ d.r.nm.size ≤ R) ∧ DW B w w'
theorem DMd.ok {B base : Nat} {w : World} {az ax ar : Option Addr} {cz cs cr sn tn rn : Nat} {m : Mdl} {ds : List RuD} (h : DMd B base w az ax ar cz cs cr sn tn rn m ds) (h1 : sn ≤ 1048576) (h2 : tn ≤ 1048576) (h3 : rn ≤ 1048576) : MOk m := by
  refine ⟨⟨by rw [h.z]; exact h1, by rw [h.s]; exact h2, by rw [h.r]; exact h3, fun r hr => ?_⟩, fun r hr => ?_⟩
  all_goals
    rw [← h.o.e] at hr
    obtain ⟨d, hd, rfl⟩ := List.mem_map.1 hr
    have := h.rb d hd
    omega
theorem DMd.far {B base : Nat} {w w' : World} {az ax ar : Option Addr} {cz cs cr sn tn rn : Nat} {m : Mdl} {ds : List RuD} (h : DMd B base w az ax ar cz cs cr sn tn rn m ds) (hd : DW B w w') : DMd B base w' az ax ar cz cs cr sn tn rn m ds :=
  ⟨⟨hd.own h.o.z h.B, hd.own h.o.s h.B, hd.own h.o.r h.B, h.o.e, fun d hdd => ⟨hd.own (h.o.d d hdd).1 h.B, hd.own (h.o.d d hdd).2 h.B⟩⟩, h.z, h.s, h.r, h.sep, h.zb, h.rb, h.B⟩
theorem kept_ne {w w' : World} {row : Option Nat} {base : Nat} {e : TypeId} {size n : Nat} {v : Value} {xs : List Value} (h : w.ownsRow base e size v n xs) (hg : w.grownBy w' row) (hne : ∀ q, v.ownBlock = some q → row ≠ some q) : w'.ownsRow base e size v n xs := by
  refine h.kept hg ?_
  rcases hv : v.ownBlock with _ | q
  · exact .inl rfl
  · exact .inr fun e => hne q hv e.symm
theorem MBox.kept {w w' : World} {base p : Nat} {x y z : Value} {row : Option Nat} (h : MBox w base p x y z) (hg : w.grownBy w' row) (hr : ∀ q, row = some q → q ≠ p) : MBox w' base p x y z :=
  kept_ne h hg (fun q hq e => hr q e (by simpa [Value.ownBlock] using hq.symm))
theorem sep_new {w : World} {base : Nat} {v v1 u : Value} {e : TypeId} {n : Nat} {xs : List Value} (hsep : ∀ q, v.ownBlock = some q → u.ownBlock ≠ some q) (hnew : v1.ownBlock = v.ownBlock ∨ v1.ownBlock = some w.heap.size) (hu : w.ownsRow base e 1 u n xs) : ∀ q, v1.ownBlock = some q → u.ownBlock ≠ some q := by
  intro q hq hq2
  rcases hnew with h | h
  · exact hsep q (h.symm.trans hq) hq2
  · rw [h] at hq
    have := (hu.lt q hq2).2
    have := Option.some.inj hq
    omega
theorem sep_new2 {w : World} {base : Nat} {v v1 u : Value} {e : TypeId} {n : Nat} {xs : List Value} (hsep : ∀ q, u.ownBlock = some q → v.ownBlock ≠ some q) (hnew : v1.ownBlock = v.ownBlock ∨ v1.ownBlock = some w.heap.size) (hu : w.ownsRow base e 1 u n xs) : ∀ q, u.ownBlock = some q → v1.ownBlock ≠ some q := by
  intro q hq2 hq
  rcases hnew with h | h
  · exact hsep q hq2 (h.symm.trans hq)
  · rw [h] at hq
    have := (hu.lt q hq2).2
    have := Option.some.inj hq
    omega
theorem strs6_at {w : World} (r : Nat) (hr : r < 6) : ∃ nm : ByteArray, nm.size ≤ 100 ∧ (w.alloc (Obj.cells #[Value.string ⟨#[103, 111]⟩, Value.string ⟨#[115, 116, 111, 112, 95, 49]⟩, Value.string ⟨#[111, 112, 101, 110]⟩, Value.string ⟨#[99, 108, 111, 115, 101]⟩, Value.string ⟨#[102, 97, 105, 108]⟩, Value.string ⟨#[114, 50]⟩] 9)).cell? ⟨w.heap.size, r, none⟩ = some (.string nm) := by
  match r, hr with
  | 0, _ => exact ⟨⟨#[103, 111]⟩, by decide, by go_simp⟩
  | 1, _ => exact ⟨⟨#[115, 116, 111, 112, 95, 49]⟩, by decide, by go_simp⟩
  | 2, _ => exact ⟨⟨#[111, 112, 101, 110]⟩, by decide, by go_simp⟩
  | 3, _ => exact ⟨⟨#[99, 108, 111, 115, 101]⟩, by decide, by go_simp⟩
  | 4, _ => exact ⟨⟨#[102, 97, 105, 108]⟩, by decide, by go_simp⟩
  | 5, _ => exact ⟨⟨#[114, 50]⟩, by decide, by go_simp⟩
end Go.Proofs.Ytaloheljfefdeaa
