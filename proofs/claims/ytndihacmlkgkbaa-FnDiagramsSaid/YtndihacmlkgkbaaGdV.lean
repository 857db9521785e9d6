/- Drawn diagrams. Condition: at most 4096 bytes of code. -/
import Derived.Test.YtndihacmlkgkbaaGdS
import Derived.Test.YtndihacmlkgkbaaGdP
import Derived.Test.YtndihacmlkgkbaaDgAp
/-! Contracts of l22Below and l22DrawValid. Condition: at most 6 inputs. -/
namespace Go.Proofs.Ytndihacmlkgkbaa
open Go.RowKit

def SomeB (w : World) (e : Ending) (w' : World) : Prop := ∃ b, e = .returned (.bool b) ∧ w = w'
set_option maxRecDepth 100000 in
theorem c_l22Below (lo bo r : Nat) (i : Int) (v : Value) (out : List Nd) (w : World) (h : SV lo w bo v out) (hr : r < out.length + 2) (hs : out.length ≤ 1099511627776) :
    Calls Try.prog 82 #[.pointer (some ⟨bo, 0, none⟩), .int .i64 r, .int .i64 i] w (SomeB w) := by
  obtain ⟨A, c, rfl⟩ := own_shape h.2
  have s0 := h.1.cellAt 0 (by decide)
  simp only [List.getElem?_cons_zero] at s0
  have HR := Lib.hid (Rd.own h.2)
  clear h
  by_cases h2 : r < 2
  · have h2i : (r : Int) < 2 := by omega
    go_enter Try.func82, Try.ntmps82
    go_wp2_with (fail)
    go_ret
    exact ⟨_, rfl, rfl⟩
  · obtain ⟨k, x, rfl, hx⟩ := nd_at h2 hr
    obtain ⟨b1, o1, rfl, hb1, g0, g1, g2⟩ := HR.out.nd hx
    have h2i : ¬ ((k + 2 : Nat) : Int) < 2 := by omega
    have e1 : ((k + 2 : Nat) : Int) - 2 = k := by omega
    have e2 : IntKind.i64.wrap (((k + 2 : Nat) : Int) - 2) = k := by rw [e1]; exact IntWalk.i64_in _ (by omega)
    have hk0 : (0 : Int) ≤ (k : Int) := by omega
    have hk1 : (k : Int) < out.length := by omega
    clear hx hb1
    go_enter Try.func82, Try.ntmps82
    go_wp2_with (fail)
    go_ret
    exact ⟨_, rfl, rfl⟩
structure DVI (B : Nat) (w wr : World) (m : Nat) (A3 : Option Addr) (c3 : Nat) (rs : List Int) (v : Value) (out : List Nd) : Prop where
  sv : SV (w.heap.size + 1) wr (w.heap.size + 1) v out
  o : wr.ownsRow (w.heap.size + 1) 2 1 (.slice A3 (m + 2) c3) (m + 2) (ints rs)
  x : wr.ownsRow w.heap.size 29 3 (.slice (some ⟨w.heap.size, 0, none⟩) 1 1) 1 [.int .i64 0, .slice none 0 0, .int .i64 0]
  g : Good out
  r : ∀ k, k < m + 2 → 0 ≤ rs.getD k 0 ∧ rs.getD k 0 < (out.length : Int) + 2
  l : out.length ≤ m
  d : DW B w wr
theorem DVI.next {B : Nat} {w wr w' : World} {m : Nat} {A3 : Option Addr} {c3 : Nat} {rs : List Int} {v : Value} {out : List Nd} (h : DVI B w wr m A3 c3 rs v out) (hB : B < w.heap.size) (hd : DW B wr w') : DVI B w w' m A3 c3 rs v out :=
  ⟨⟨hd.own h.sv.1 (by omega), hd.own h.sv.2 (by omega)⟩, hd.own h.o (by omega), hd.own h.x hB, h.g, h.r, h.l, h.d.then_ hd⟩
theorem DVI.below {B : Nat} {w wr w' : World} {m : Nat} {A3 : Option Addr} {c3 : Nat} {rs : List Int} {v : Value} {out : List Nd} (h : DVI B w wr m A3 c3 rs v out) (hB : B < w.heap.size) (hd : Below wr.heap.size wr w') : DVI B w w' m A3 c3 rs v out :=
  ⟨h.sv.below hd, own_below h.o hd, own_below h.x hd, h.g, h.r, h.l, h.d.below hB hd⟩
theorem DVI.at {B : Nat} {w wr : World} {m : Nat} {A3 : Option Addr} {c3 : Nat} {rs : List Int} {v : Value} {out : List Nd} (h : DVI B w wr m A3 c3 rs v out) {r : Nat} (hr : r < m + 2) : ∃ (g z : Nat), A3 = some ⟨g, 0, none⟩ ∧ wr.cell? ⟨g, r, none⟩ = some (.int .i64 z) ∧ rs.getD r 0 = z ∧ z < out.length + 2 := by
  obtain ⟨g, h1, h2, _⟩ := own_at h.o hr
  have h3 := h.r r hr
  refine ⟨g, (rs.getD r 0).toNat, h1, ?_, by omega, by omega⟩
  rw [h2]
  congr 2
  omega
/-- A node is made, and its reference is kept. -/
theorem DVI.node {B : Nat} {w wr w' : World} {m : Nat} {A3 : Option Addr} {c3 : Nat} {rs : List Int} {v : Value} {out : List Nd} (h : DVI B w wr m A3 c3 rs v out) (hB : B < w.heap.size)  (hf : Fr (PX (w.heap.size + 1) (w.heap.size + 1) v.ownBlock) wr w') :
    w'.ownsRow (w.heap.size + 1) 2 1 (.slice A3 (m + 2) c3) (m + 2) (ints rs) ∧ w'.ownsRow w.heap.size 29 3 (.slice (some ⟨w.heap.size, 0, none⟩) 1 1) 1 [.int .i64 0, .slice none 0 0, .int .i64 0] ∧ DW B w w' := by
  refine ⟨PX.own hf h.o ?_ ?_, PX.own hf h.x ?_ ?_, h.d.fr hB hf (fun k o hp => by have := hp.1; omega)⟩
  · intro e
    exact own_ne h.o h.sv.1 (by decide) _ e rfl
  · intro q hq e
    exact own_ne h.o h.sv.2 (by decide) q e hq
  · simp [Value.ownBlock]
  · intro q hq e
    have := (h.sv.2.lt q hq).1
    have e2 : w.heap.size = q := by simpa [Value.ownBlock] using e
    omega
theorem DVI.push {B : Nat} {w wr w5 w6 w7 : World} {m a b : Nat} {i : Int} {A3 A9 : Option Addr} {c3 c9 : Nat} {rs : List Int} {v v' : Value} {out : List Nd} (h : DVI B w wr m A3 c3 rs v out) (hB : B < w.heap.size) (ha : a < out.length + 2) (hb : b < out.length + 2)
    (hs : SV (w.heap.size + 1) w5 (w.heap.size + 1) v' (mkN out ⟨i, a, b⟩).1) (hf : Fr (PX (w.heap.size + 1) (w.heap.size + 1) v.ownBlock) wr w5) (hal : Below w5.heap.size w5 w6)
    (hown : w7.ownsRow (w.heap.size + 1) 2 1 (.slice A9 (m + 2 + 1) c9) (m + 2 + 1) (ints (rs ++ [(mkN out ⟨i, a, b⟩).2]))) (hg : w6.grownBy w7 (Value.slice A3 (m + 2) c3).ownBlock) : DVI B w w7 (m + 1) A9 c9 (rs ++ [(mkN out ⟨i, a, b⟩).2]) v' (mkN out ⟨i, a, b⟩).1 := by
  obtain ⟨ho, hx, hd⟩ := h.node hB hf
  have hm := mkN_good (i := i) h.g (a := a) (b := b) (by omega) (by omega) (by omega) (by omega)
  have hl := mkN_len out ⟨i, a, b⟩
  have hlen := h.l
  have hrl : rs.length = m + 2 := by have h1 := h.o.1; rw [ints_length] at h1; omega
  refine ⟨(hs.below hal).other (own_below ho hal) (by decide) (by decide) hg, ?_, (own_below hx hal).kept hg (.inr (fun e => own_ne (own_below ho hal) (own_below hx hal) (by decide) _ e.symm rfl)), hm.1, fun k hk => ?_, by omega, (hd.below hB hal).far hB hg (fun q hq => by have := (ho.lt q hq).1; omega)⟩
  · rw [show m + 1 + 2 = m + 2 + 1 by omega]
    exact hown
  · by_cases e : k < m + 2
    · rw [List.getD_eq_getElem?_getD, List.getElem?_append_left (by omega), ← List.getD_eq_getElem?_getD]
      have := h.r k e
      omega
    · obtain rfl : k = m + 2 := by omega
      rw [List.getD_eq_getElem?_getD, List.getElem?_append_right (by omega), hrl, Nat.sub_self, List.getElem?_cons_zero, Option.getD_some]
      exact hm.2
theorem set3_dw {B : Nat} {w W : World} {bd : Nat} {xs : List Value} (hD : W.ownsRow w.heap.size 29 3 (.slice (some ⟨bd, 0, none⟩) 1 1) 1 xs) (hB : DW B w W) (hl : B < w.heap.size) {l : List Nd} {A : Option Addr} {c : Nat} (hR : W.ownsRow w.heap.size 57 3 (.slice A l.length c) l.length (ndCells l)) (X R : Int) :
    ∃ WF, WF = (((W.setCell ⟨bd, 0, none⟩ (.int .i64 X)).setCell ⟨bd, 1, none⟩ (.slice A l.length c)).setCell ⟨bd, 2, none⟩ (.int .i64 R)) ∧ WF.cell? ⟨bd, 0, none⟩ = some (.int .i64 X) ∧ WF.cell? ⟨bd, 1, none⟩ = some (.slice A l.length c) ∧ WF.cell? ⟨bd, 2, none⟩ = some (.int .i64 R) ∧
      WF.ownsRow w.heap.size 57 3 (.slice A l.length c) l.length (ndCells l) ∧ DW B w WF := by
  have h0 := hD.stored 0 (.int .i64 X)
  have h1 := h0.1.stored 1 (.slice A l.length c)
  have h2 := h1.1.stored 2 (.int .i64 R)
  have hx : xs.length = 3 := hD.1
  have hb := (own_ge hD).1
  have k0 := h2.1.cellAt 0 (by decide)
  have k1 := h2.1.cellAt 1 (by decide)
  have k2 := h2.1.cellAt 2 (by decide)
  have r0 := hR.kept h0.2 (.inr (fun e => own_ne hD hR (by decide) bd rfl e))
  have r1 := r0.kept h1.2 (.inr (fun e => own_ne h0.1 r0 (by decide) bd rfl e))
  have r2 := r1.kept h2.2 (.inr (fun e => own_ne h1.1 r1 (by decide) bd rfl e))
  match xs, hx with
  | [a, b, c], _ =>
    exact ⟨_, rfl, k0.trans rfl, k1.trans rfl, k2.trans rfl, r2, ((hB.set hl _ hb).set hl _ hb).set hl _ hb⟩
def DVP (B : Nat) (n : Int) (w : World) (e : Ending) (w' : World) : Prop :=
  ∃ (m : List Nd) (v : Int) (A : Option Addr) (c : Nat), e = .returned (.agg #[.int .i64 n, .slice A m.length c, .int .i64 v]) ∧ m.length ≤ 12 ∧ 0 ≤ v ∧ v < (m.length : Int) + 2 ∧ w'.ownsRow w.heap.size 57 3 (.slice A m.length c) m.length (ndCells m) ∧ DW B w w'
set_option maxHeartbeats 2000000 in
set_option maxRecDepth 100000 in
theorem c_l22DrawValid (B : Nat) (n : Int) (w : World) (h : Src w B) (hn0 : 0 ≤ n) (hn : n ≤ 6) :
    Calls Try.prog 79 #[.pointer (some ⟨B, 0, none⟩), .int .i64 n] w (DVP B n w) := by
  have hBl := h.lt
  have HD := Lib.hid ((((DW.start h).alloc hBl (.cells #[.int .i64 0, .slice none 0 0, .int .i64 0] 29)).alloc hBl (.cells #[.slice none 0 0] 77)).alloc hBl (.cells #[.int .i64 0, .int .i64 1] 2))
  have HX : Hid ((((w.alloc (.cells #[.int .i64 0, .slice none 0 0, .int .i64 0] 29)).alloc (.cells #[.slice none 0 0] 77)).alloc (.cells #[.int .i64 0, .int .i64 1] 2)).ownsRow w.heap.size 29 3 (.slice (some ⟨w.heap.size, 0, none⟩) 1 1) 1 [.int .i64 0, .slice none 0 0, .int .i64 0]) := Lib.hid (own_below (own_below (own_box w w.heap.size 29 [.int .i64 0, .slice none 0 0, .int .i64 0] 3 rfl (Nat.le_refl _)) (below_alloc (Below.refl _ _) _)) (below_alloc (Below.refl _ _) _))
  have HS : Hid (SV (w.heap.size + 1) (((w.alloc (.cells #[.int .i64 0, .slice none 0 0, .int .i64 0] 29)).alloc (.cells #[.slice none 0 0] 77)).alloc (.cells #[.int .i64 0, .int .i64 1] 2)) (w.heap.size + 1) (.slice none 0 0) []) := Lib.hid (by
    refine SV.below ⟨?_, own_nil _ _ _ _⟩ (below_alloc (Below.refl _ _) _)
    have h := own_box (w.alloc (.cells #[.int .i64 0, .slice none 0 0, .int .i64 0] 29)) (w.heap.size + 1) 77 [.slice none 0 0] 1 rfl (by simp)
    simpa using h)
  have HO : Hid ((((w.alloc (.cells #[.int .i64 0, .slice none 0 0, .int .i64 0] 29)).alloc (.cells #[.slice none 0 0] 77)).alloc (.cells #[.int .i64 0, .int .i64 1] 2)).ownsRow (w.heap.size + 1) 2 1 (.slice (some ⟨w.heap.size + 1 + 1, 0, none⟩) 2 2) 2 (ints [0, 1])) := Lib.hid (by
    have h := World.ownsRow_lit (e := 2) (size := 1) (base := w.heap.size + 1) ((w.alloc (.cells #[.int .i64 0, .slice none 0 0, .int .i64 0] 29)).alloc (.cells #[.slice none 0 0] 77)) #[.int .i64 0, .int .i64 1] 2 (by simp) (by decide) (by simp)
    simpa [ints] using h)
  clear h
  go_enter Try.func79, Try.ntmps79
  go_wp2_with (fail)
  generalize hW0 : ((w.alloc (.cells #[.int .i64 0, .slice none 0 0, .int .i64 0] 29)).alloc (.cells #[.slice none 0 0] 77)).alloc (.cells #[.int .i64 0, .int .i64 1] 2) = W0 at *
  clear hW0
  have HI : Hid (DVI B w W0 0 (some ⟨w.heap.size + 1 + 1, 0, none⟩) 2 [0, 1] (.slice none 0 0) []) := Lib.hid ⟨HS.out, HO.out, HX.out, fun _ _ h => by simp at h, fun k hk => by
    match k, hk with
    | 0, _ => exact ⟨by simp, by simp⟩
    | 1, _ => exact ⟨by simp, by simp⟩, Nat.le_refl _, HD.out⟩
  clear HS HO HX HD
  go_loopw [6, 7, 8, 9, 10] (fun s u _ _ _ wr => ∃ (i : Int) (m : Nat) (A3 : Option Addr) (c3 : Nat) (rs : List Int) (v : Value) (out : List Nd), -1 ≤ i ∧ i ≤ n - 1 ∧ (m : Int) ≤ 2 * (n - 1 - i) ∧ u = .int .i64 i ∧ s = .slice A3 (m + 2) c3 ∧ Hid (DVI B w wr m A3 c3 rs v out)) (fun _ u _ _ _ _ => (intOf u + 1).toNat)
  case atStart => exact ⟨n - 1, 0, _, _, _, _, _, by omega, by omega, by omega, by go_num, rfl, HI⟩
  case round =>
    obtain ⟨i, m, A3, c3, rs, v, out, hi0, hi1, hm, rfl, rfl, hI⟩ := hrel
    clear HI
    by_cases hi : 0 ≤ i
    · go_wp2_with (fail)
      refine (c_NextD B 3 _ hI.out.d.s (by omega)).mono ?_
      rintro e w1 ⟨k0, rfl, hk0, hk1, _, hd⟩
      replace hk1 := hk1 (by omega)
      obtain ⟨k0, rfl⟩ : ∃ k : Nat, k0 = k := ⟨k0.toNat, by omega⟩
      have HI := Lib.hid (hI.out.next hBl hd)
      clear hd hI
      go_wp2_with (fail)
      go_loopw [6, 8, 9, 10] (fun s u _ _ wr => ∃ (k m2 : Nat) (A3 : Option Addr) (c3 : Nat) (rs : List Int) (v : Value) (out : List Nd), k ≤ 2 ∧ (m2 : Int) ≤ 2 * (n - 1 - i) + 2 - k ∧ u = .int .i64 k ∧ s = .slice A3 (m2 + 2) c3 ∧ Hid (DVI B w wr m2 A3 c3 rs v out)) (fun _ u _ _ _ => (intOf u).toNat)
      case atStart => exact ⟨k0, m, _, _, _, _, _, by omega, by omega, rfl, rfl, HI⟩
      case round =>
        obtain ⟨k, m2, A4, c4, rs4, v4, out4, hk, hm2, rfl, rfl, hI⟩ := hrel
        clear HI
        by_cases hk0 : 0 < k
        · have hk0i : (0 : Int) < k := by omega
          go_wp2_with (fail)
          refine (c_NextD B _ _ hI.out.d.s (by omega)).mono ?_
          rintro e w2 ⟨q, rfl, hq0, hq1, _, hd⟩
          replace hq1 := hq1 (by omega)
          obtain ⟨q, rfl⟩ : ∃ k : Nat, q = k := ⟨q.toNat, by omega⟩
          have HI := Lib.hid (hI.out.next hBl hd)
          clear hd hI
          obtain ⟨g, z, rfl, hz, _, hzo⟩ := HI.out.at (r := q) (by omega)
          have hqi : (q : Int) < m2 + 2 := by omega
          go_wp2_with (fail)
          clear hz
          refine (c_NextD B _ _ HI.out.d.s (by omega)).mono ?_
          rintro e w3 ⟨q2, rfl, hq20, hq21, _, hd⟩
          replace hq21 := hq21 (by omega)
          obtain ⟨q2, rfl⟩ : ∃ k : Nat, q2 = k := ⟨q2.toNat, by omega⟩
          have HI3 := Lib.hid (HI.out.next hBl hd)
          clear hd HI
          obtain ⟨g', z2, e', hz2, _, hzo2⟩ := HI3.out.at (r := q2) (by omega)
          simp only [Option.some.injEq, Addr.mk.injEq, and_true] at e'
          subst e'
          have hq2i : (q2 : Int) < m2 + 2 := by omega
          go_wp2_with (fail)
          clear hz2
          have hol := HI3.out.l
          refine (c_l22Below _ _ z i _ _ _ HI3.out.sv hzo (by omega)).mono ?_
          rintro e w4 ⟨b1, rfl, rfl⟩
          cases b1
          · go_wp2_with (fail)
            go_roundw
            case rel => exact ⟨k - 1, m2, _, _, _, _, _, by omega, by omega, by go_num, rfl, HI3⟩
            case measure => simp [intOf]; omega
          · go_wp2_with (fail)
            refine (c_l22Below _ _ z2 i _ _ _ HI3.out.sv hzo2 (by omega)).mono ?_
            rintro e w4 ⟨b2, rfl, rfl⟩
            cases b2
            · go_wp2_with (fail)
              go_roundw
              case rel => exact ⟨k - 1, m2, _, _, _, _, _, by omega, by omega, by go_num, rfl, HI3⟩
              case measure => simp [intOf]; omega
            · go_wp2_with (fail)
              refine (c_l22NodeV (w.heap.size + 1) (w.heap.size + 1) i z z2 v4 out4 _ (by omega) (by have := (own_ge HI3.out.sv.1).2; omega) HI3.out.sv).mono ?_
              rintro e w5 ⟨rfl, v5, hS5, hF5, _⟩
              have HS5 := Lib.hid hS5
              have HF5 := Lib.hid hF5
              have HO5 := Lib.hid (HI3.out.node hBl hF5).1
              have hsz5 : w.heap.size + 1 ≤ w5.heap.size := by have := (own_ge HI3.out.sv.1).2; have := hF5.size; omega
              clear hS5 hF5
              have HP := Lib.hid (fun w6 w7 A9 c9 => HI3.out.push (i := i) (w6 := w6) (w7 := w7) (A9 := A9) (c9 := c9) hBl hzo hzo2 HS5.out HF5.out)
              generalize mkN out4 ⟨i, (z : Int), (z2 : Int)⟩ = M at *
              go_wp2_with (first
                | (at_builtin
                   refine wpList_push_int _ rfl (.tmp 50) (.tmp 56) rfl (w.heap.size + 1) _ (m2 + 2) rs4 M.2 w5.heap.size 1 rfl (own_below HO5.out (below_alloc (Below.refl _ _) _)) rfl (by go_simp) (by omega) (by simp; omega) ?_
                   intro v7 w7 hown hgrow _ _
                   obtain ⟨A9, c9, rfl⟩ := own_shape hown
                   have HI7 := Lib.hid (HP.out _ w7 A9 c9 (below_alloc (Below.refl _ _) _) hown hgrow)
                   clear hown hgrow)
                )
              go_roundw
              case rel => exact ⟨k - 1, m2 + 1, A9, c9, _, _, _, by omega, by omega, by go_num, rfl, HI7⟩
              case measure => simp [intOf]; omega
        · obtain rfl : k = 0 := by omega
          go_wp2_with (fail)
          go_roundw
          case rel => exact ⟨i - 1, m2, _, _, _, _, _, by omega, by omega, by omega, by go_num, rfl, hI⟩
          case measure => simp [intOf]; omega
    · obtain rfl : i = -1 := by omega
      have hlen := hI.out.l
      have hI2 := hI.out
      obtain ⟨g, z, rfl, hz, _, hzo⟩ := hI2.at (r := m + 1) (by omega)
      obtain ⟨Av, cv, rfl⟩ := own_shape hI2.sv.2
      have s0 := hI2.sv.1.cellAt 0 (by decide)
      simp only [List.getElem?_cons_zero] at s0
      have HCA := Lib.hid (fun w' h => c_l22Canonical n Av cv out.length out z w' rfl (by omega) hI2.g hzo h)
      have HRV := Lib.hid (Rd.own hI2.sv.2)
      have hcg := Lib.hid (canS_idem' hI2.g hzo)
      generalize canS out z = C at *
      have hmi : (0 : Int) ≤ (m : Int) + 1 := by omega
      have hmi2 : (m : Int) + 1 < m + 2 := by omega
      have hw1 : (m : Int) + 2 - 1 = m + 1 := by omega
      have hw2 : IntKind.i64.wrap ((m : Int) + 1) = m + 1 := IntWalk.i64_in _ (by omega)
      generalize out.length = nf at *
      clear hI2
      go_wp2_with (fail)
      refine wp_region_held_drew (S := (fun w' => w'.cell? ⟨w.heap.size + 1, 0, none⟩ = some (.slice Av nf cv) ∧ w'.cell? ⟨g, m + 1, none⟩ = some (.int .i64 z))) (by kernel_rfl) ?_ (fun hHeld => ?_)
      · exact ⟨s0, hz⟩
      refine rg_take (v := ?_) 0 rfl (by kernel_rfl) (by kernel_rfl) (by kernel_rfl) (fun _ _ _ h => h) (by kernel_rfl) ?_ (by assumption) ?_
      rotate_left
      · (intro w' hSw; (try dsimp only at hSw); go_simp; first | done | with_reducible rfl)
      simp only [Act.put, List.setIfInBounds_toArray, List.set_cons_zero, List.set_cons_succ]
      refine rg_take (v := ?_) 1 rfl (by kernel_rfl) (by kernel_rfl) (by kernel_rfl) (fun _ _ _ h => h) (by kernel_rfl) ?_ (by assumption) ?_
      rotate_left
      · (intro w' hSw; (try dsimp only at hSw); go_simp; first | done | with_reducible rfl)
      simp only [Act.put, List.setIfInBounds_toArray, List.set_cons_zero, List.set_cons_succ]
      refine rg_take (v := ?_) 2 rfl (by kernel_rfl) (by kernel_rfl) (by kernel_rfl) (fun _ _ _ h => h) (by kernel_rfl) ?_ (by assumption) ?_
      rotate_left
      · (intro w' hSw; (try dsimp only at hSw); go_simp; first | done | with_reducible rfl)
      simp only [Act.put, List.setIfInBounds_toArray, List.set_cons_zero, List.set_cons_succ]
      refine rg_take (v := ?_) 3 rfl (by kernel_rfl) (by kernel_rfl) (by kernel_rfl) (fun _ _ _ h => h) (by kernel_rfl) ?_ (by assumption) ?_
      rotate_left
      · (intro w' hSw; (try dsimp only at hSw); go_simp; first | done | with_reducible rfl)
      simp only [Act.put, List.setIfInBounds_toArray, List.set_cons_zero, List.set_cons_succ]
      refine rg_take (v := ?_) 4 rfl (by kernel_rfl) (by kernel_rfl) (by kernel_rfl) (fun _ _ _ h => h) (by kernel_rfl) ?_ (by assumption) ?_
      rotate_left
      · (intro w' hSw; (try dsimp only at hSw); go_simp; first | done | with_reducible rfl)
      simp only [Act.put, List.setIfInBounds_toArray, List.set_cons_zero, List.set_cons_succ]
      refine rg_take (v := ?_) 5 rfl (by kernel_rfl) (by kernel_rfl) (by kernel_rfl) (fun _ _ _ h => h) (by kernel_rfl) ?_ (by assumption) ?_
      rotate_left
      · (intro w' hSw; (try dsimp only at hSw); go_simp; first | done | with_reducible rfl)
      simp only [Act.put, List.setIfInBounds_toArray, List.set_cons_zero, List.set_cons_succ]
      refine rg_take (v := ?_) 6 rfl (by kernel_rfl) (by kernel_rfl) (by kernel_rfl) (fun _ _ _ h => h) (by kernel_rfl) ?_ (by assumption) ?_
      rotate_left
      · (intro w' hSw; (try dsimp only at hSw); go_simp; first | done | with_reducible rfl)
      simp only [Act.put, List.setIfInBounds_toArray, List.set_cons_zero, List.set_cons_succ]
      refine rg_take (v := ?_) 7 rfl (by kernel_rfl) (by kernel_rfl) (by kernel_rfl) (fun _ _ _ h => h) (by kernel_rfl) ?_ (by assumption) ?_
      rotate_left
      · (intro w' hSw; (try dsimp only at hSw); go_simp; first | done | with_reducible rfl)
      simp only [Act.put, List.setIfInBounds_toArray, List.set_cons_zero, List.set_cons_succ]
      refine rg_take (v := ?_) 8 rfl (by kernel_rfl) (by kernel_rfl) (by kernel_rfl) (fun _ _ _ h => h) (by kernel_rfl) ?_ (by assumption) ?_
      rotate_left
      · (intro w' hSw; (try dsimp only at hSw); go_simp; first | done | with_reducible rfl)
      simp only [Act.put, List.setIfInBounds_toArray, List.set_cons_zero, List.set_cons_succ]
      refine rg_take (v := ?_) 9 rfl (by kernel_rfl) (by kernel_rfl) (by kernel_rfl) (fun _ _ _ h => h) (by kernel_rfl) ?_ (by assumption) ?_
      rotate_left
      · (intro w' hSw; (try dsimp only at hSw); go_simp; first | done | with_reducible rfl)
      simp only [Act.put, List.setIfInBounds_toArray, List.set_cons_zero, List.set_cons_succ]
      refine rg_take (v := ?_) 10 rfl (by kernel_rfl) (by kernel_rfl) (by kernel_rfl) (fun _ _ _ h => h) (by kernel_rfl) ?_ (by assumption) ?_
      rotate_left
      · (intro w' hSw; (try dsimp only at hSw); go_simp; first | done | with_reducible rfl)
      simp only [Act.put, List.setIfInBounds_toArray, List.set_cons_zero, List.set_cons_succ]
      refine rg_run 11 rfl (by kernel_rfl) (by kernel_rfl) (fun K hK => ?_)
      go_simp
      refine (HCA.out _ (by exact HRV.out.drew)).mono ?_
      rintro e w9 ⟨A9, c9, rfl, ho9, hb9⟩
      replace s0 := cell_later hb9 (by exact s0)
      replace hz := cell_later hb9 (by exact hz)
      have HD9 := Lib.hid ((hI.out.d.drew hBl).below hBl hb9)
      have HX9 := Lib.hid (own_below (own_drew hI.out.x) hb9)
      have hszr := hI.out.d.g.size
      have hso2 := own_mono ho9 (base' := w.heap.size) (by exact hszr)
      have hgl := (hI.out.o.lt g rfl).1
      obtain ⟨WF, hWF, r0, r1, r2, r3, r4⟩ := set3_dw HX9.out HD9.out hBl hso2 n C.2
      have HF := Lib.hid hWF
      have p0 := HX9.out.cellAt 0 (by decide)
      have p1 := HX9.out.cellAt 1 (by decide)
      have p2 := HX9.out.cellAt 2 (by decide)
      simp only [List.getElem?_cons_zero, List.getElem?_cons_succ] at p0 p1 p2
      have f0 := HX9.out.frozenAt 0
      have f1 := HX9.out.frozenAt 1
      have f2 := HX9.out.frozenAt 2
      clear hso2 ho9 hb9
      have R3 := Lib.hid r3
      have R4 := Lib.hid r4
      clear r3 r4
      go_wp2
      clear hHeld
      refine hK.out _ _ (by exact ⟨s0, hz⟩) (fun hHeld => ?_)
      clear hK K
      try simp only [Act.put, List.setIfInBounds_toArray, List.set_cons_zero, List.set_cons_succ]
      have hgg : g ≠ w.heap.size := by omega
      have s0' : WF.cell? ⟨w.heap.size + 1, 0, none⟩ = some (.slice Av nf cv) := by rw [hWF]; go_simp
      have hz' : WF.cell? ⟨g, m + 1, none⟩ = some (.int .i64 z) := by rw [hWF]; go_simp
      clear hWF
      refine rg_run 12 rfl (by kernel_rfl) (by kernel_rfl) (fun K hK => ?_)
      go_simp
      rw [← HF.out]
      clear hHeld
      refine hK.out _ _ (by exact ⟨s0', hz'⟩) (fun hHeld => ?_)
      clear hK K
      try simp only [Act.put, List.setIfInBounds_toArray, List.set_cons_zero, List.set_cons_succ]
      refine wpAnyH_done (by kernel_rfl) ?_ _
      clear hHeld
      clear s0 hz p0 p1 p2 f0 f1 f2 s0' hz'
      go_wp2_with (fail)
      refine bodyPost_ret (v := .agg #[.int .i64 n, .slice A9 C.1.length c9, .int .i64 C.2]) (by simp [results, Try.results79, go_sem, r0, r1, r2]) rfl ⟨_, _, _, _, rfl, by have := hcg.out.2.2; omega, hcg.out.1, hcg.out.2.1, R3.out, R4.out⟩
end Go.Proofs.Ytndihacmlkgkbaa

/-! Contract of l22Draw. Condition: at most 6 inputs. -/
namespace Go.Proofs.Ytndihacmlkgkbaa
open Go.RowKit

structure DRS (B : Nat) (w wr : World) (b5 : Nat) (X r : Int) (v5 : Value) (A : Option Addr) (c : Nat) (l : List Nd) : Prop where
  x4 : wr.ownsRow w.heap.size 29 3 (.slice (some ⟨w.heap.size, 0, none⟩) 1 1) 1 [.int .i64 0, .slice none 0 0, .int .i64 0]
  x5 : wr.ownsRow w.heap.size 29 3 (.slice (some ⟨b5, 0, none⟩) 1 1) 1 [.int .i64 X, v5, .int .i64 r]
  o : wr.ownsRow w.heap.size 57 3 (.slice A l.length c) l.length (ndCells l)
  d : DW B w wr
theorem DRS.next {B b5 c : Nat} {w wr w' : World} {X r : Int} {v5 : Value} {A : Option Addr} {l : List Nd} (h : DRS B w wr b5 X r v5 A c l) (hB : B < w.heap.size) (hd : DW B wr w') : DRS B w w' b5 X r v5 A c l :=
  ⟨hd.own h.x4 hB, hd.own h.x5 hB, hd.own h.o hB, h.d.then_ hd⟩
theorem DRS.below {B b5 c : Nat} {w wr w' : World} {X r : Int} {v5 : Value} {A : Option Addr} {l : List Nd} (h : DRS B w wr b5 X r v5 A c l) (hB : B < w.heap.size) (hd : Below wr.heap.size wr w') : DRS B w w' b5 X r v5 A c l :=
  ⟨own_below h.x4 hd, own_below h.x5 hd, own_below h.o hd, h.d.below hB hd⟩
/-- The list of nodes grows, or a node is set. -/
theorem DRS.grow {B b5 c c' : Nat} {w wr w' : World} {X r : Int} {v5 : Value} {A A' : Option Addr} {l l' : List Nd} (h : DRS B w wr b5 X r v5 A c l) (hB : B < w.heap.size) (ho : w'.ownsRow w.heap.size 57 3 (.slice A' l'.length c') l'.length (ndCells l')) (hg : wr.grownBy w' (Value.slice A l.length c).ownBlock) : DRS B w w' b5 X r v5 A' c' l' :=
  ⟨h.x4.kept hg (.inr (fun e => own_ne h.o h.x4 (by decide) _ e.symm rfl)), h.x5.kept hg (.inr (fun e => own_ne h.o h.x5 (by decide) _ e.symm rfl)), ho, h.d.far hB hg (fun q hq => (h.o.lt q hq).1)⟩
theorem nd_put (l : List Nd) (k i : Nat) (z : Int) (hk : k < l.length) (hi : i < 3) : ∃ l', l'.length = l.length ∧ (ndCells l).set (k * 3 + i) (.int .i64 z) = ndCells l' := by
  have hd : l = l.take k ++ l[k] :: l.drop (k + 1) := by rw [← List.drop_eq_getElem_cons hk, List.take_append_drop]
  have hlen : (l.take k).length = k := by rw [List.length_take]; omega
  have hl := ndCells_length (l.take k)
  have e : ∀ y, ndCells (l.take k ++ y :: l.drop (k + 1)) = ndCells (l.take k) ++ ([.int .i64 y.i, .int .i64 y.lo, .int .i64 y.hi] ++ ndCells (l.drop (k + 1))) := fun y => by simp [ndCells, Nd.cells]
  have hn : ∀ y : Nd, (l.take k ++ y :: l.drop (k + 1)).length = l.length := fun y => by
    rw [List.length_append, List.length_cons, List.length_drop, hlen]; omega
  generalize l[k] = x at hd
  have key : ∀ y : Nd, ([.int .i64 x.i, .int .i64 x.lo, .int .i64 x.hi] ++ ndCells (l.drop (k + 1)) : List Value).set i (.int .i64 z) = [.int .i64 y.i, .int .i64 y.lo, .int .i64 y.hi] ++ ndCells (l.drop (k + 1)) → ∃ l', l'.length = l.length ∧ (ndCells l).set (k * 3 + i) (.int .i64 z) = ndCells l' := fun y hy => by
    refine ⟨_, hn y, ?_⟩
    conv => lhs; rw [hd]
    rw [e, e, List.set_append_right _ _ (by omega), hl, hlen, Nat.add_sub_cancel_left, hy]
  match i, hi with
  | 0, _ => exact key ⟨z, x.lo, x.hi⟩ rfl
  | 1, _ => exact key ⟨x.i, z, x.hi⟩ rfl
  | 2, _ => exact key ⟨x.i, x.lo, z⟩ rfl
theorem DRS.put {B b5 c k i g : Nat} {w wr : World} {X r : Int} {v5 : Value} {l : List Nd} (h : DRS B w wr b5 X r v5 (some ⟨g, 0, none⟩) c l) (hB : B < w.heap.size) (hk : k < l.length) (hi : i < 3) (z : Int) :
    ∃ l', l'.length = l.length ∧ DRS B w (wr.setCell ⟨g, k * 3 + i, none⟩ (.int .i64 z)) b5 X r v5 (some ⟨g, 0, none⟩) c l' := by
  obtain ⟨l', hl, e⟩ := nd_put l k i z hk hi
  have hs := h.o.stored (k * 3 + i) (.int .i64 z)
  rw [e] at hs
  refine ⟨l', hl, h.grow hB (A' := some ⟨g, 0, none⟩) (c' := c) ?_ hs.2⟩
  rw [hl]
  exact hs.1
theorem DRS.at {B b5 c k i g : Nat} {w wr : World} {X r : Int} {v5 : Value} {l : List Nd} (h : DRS B w wr b5 X r v5 (some ⟨g, 0, none⟩) c l) (hk : k < l.length) (hi : i < 3) : (∃ z : Int, wr.cell? ⟨g, k * 3 + i, none⟩ = some (.int .i64 z)) ∧ wr.frozen? ⟨g, k * 3 + i, none⟩ = false := by
  obtain ⟨x, hx⟩ : ∃ x, l[k]? = some x := ⟨_, List.getElem?_eq_getElem hk⟩
  have h0 := h.o.cellAt (k * 3 + i) (by omega)
  refine ⟨?_, h.o.frozenAt (k * 3 + i)⟩
  rw [ndCells_get hi hx] at h0
  match i, hi with
  | 0, _ => exact ⟨_, h0⟩
  | 1, _ => exact ⟨_, h0⟩
  | 2, _ => exact ⟨_, h0⟩
theorem DRS.set5 {B b5 c : Nat} {w wr : World} {X r : Int} {v5 : Value} {A : Option Addr} {l : List Nd} (h : DRS B w wr b5 X r v5 A c l) (hB : B < w.heap.size) (hb : w.heap.size < b5) (v' : Value) :
    DRS B w (((wr.setCell ⟨b5, 0, none⟩ (.int .i64 X)).setCell ⟨b5, 1, none⟩ v').setCell ⟨b5, 2, none⟩ (.int .i64 r)) b5 X r v' A c l := by
  have h0 := h.x5.stored 0 (.int .i64 X)
  have h1 := h0.1.stored 1 v'
  have h2 := h1.1.stored 2 (.int .i64 r)
  have hg := grown_trans (grown_trans h0.2 h1.2) h2.2
  refine ⟨h.x4.kept hg (.inr (fun e => ?_)), h2.1, h.o.kept hg (.inr (fun e => own_ne h.x5 h.o (by decide) b5 rfl e)), h.d.far hB hg (fun q hq => by simp at hq; omega)⟩
  simp [Value.ownBlock] at e
  omega
theorem DRS.setX {B b5 c : Nat} {w wr : World} {X r : Int} {v5 : Value} {A : Option Addr} {l : List Nd} (h : DRS B w wr b5 X r v5 A c l) (hB : B < w.heap.size) (hb : w.heap.size < b5) (X' : Int) :
    DRS B w (wr.setCell ⟨b5, 0, none⟩ (.int .i64 X')) b5 X' r v5 A c l := by
  have h0 := h.x5.stored 0 (.int .i64 X')
  refine ⟨h.x4.kept h0.2 (.inr (fun e => ?_)), h0.1, h.o.kept h0.2 (.inr (fun e => own_ne h.x5 h.o (by decide) b5 rfl e)), h.d.far hB h0.2 (fun q hq => by simp at hq; omega)⟩
  simp [Value.ownBlock] at e
  omega
/-- What the loads and stores of the drawn box read. -/
theorem DRS.box {B b5 c : Nat} {w wr : World} {X r : Int} {v5 : Value} {A : Option Addr} {l : List Nd} (h : DRS B w wr b5 X r v5 A c l) : wr.cell? ⟨b5, 0, none⟩ = some (.int .i64 X) ∧ wr.cell? ⟨b5, 1, none⟩ = some v5 ∧ wr.cell? ⟨b5, 2, none⟩ = some (.int .i64 r) ∧ wr.frozen? ⟨b5, 0, none⟩ = false ∧ wr.frozen? ⟨b5, 1, none⟩ = false ∧ wr.frozen? ⟨b5, 2, none⟩ = false ∧ (∀ q, A = some ⟨q, 0, none⟩ → q ≠ b5) ∧ b5 < wr.heap.size := by
  refine ⟨h.x5.cellAt 0 (by decide), h.x5.cellAt 1 (by decide), h.x5.cellAt 2 (by decide), h.x5.frozenAt 0, h.x5.frozenAt 1, h.x5.frozenAt 2, fun q e1 e2 => ?_, (own_ge h.x5).2⟩
  subst e1 e2
  exact own_ne h.x5 h.o (by decide) q rfl rfl
/-- A diagram of few nodes, and the source goes on. -/
def DRP (B : Nat) (w : World) (e : Ending) (w' : World) : Prop :=
  ∃ (X : Int) (l : List Nd) (r : Int) (A : Option Addr) (c : Nat), e = .returned (.agg #[.int .i64 X, .slice A l.length c, .int .i64 r]) ∧ l.length ≤ 13 ∧ w'.ownsRow w.heap.size 57 3 (.slice A l.length c) l.length (ndCells l) ∧ DW B w w'
set_option maxHeartbeats 2000000 in
set_option maxRecDepth 100000 in
theorem c_l22Draw (B : Nat) (n : Int) (w : World) (h : Src w B) (hn0 : 0 ≤ n) (hn : n ≤ 6) :
    Calls Try.prog 68 #[.pointer (some ⟨B, 0, none⟩), .int .i64 n] w (DRP B w) := by
  have hBl := h.lt
  have HD := Lib.hid ((DW.start h).alloc hBl (.cells #[.int .i64 0, .slice none 0 0, .int .i64 0] 29))
  have HX := Lib.hid (own_box w w.heap.size 29 [.int .i64 0, .slice none 0 0, .int .i64 0] 3 rfl (Nat.le_refl _))
  clear h
  go_enter Try.func68, Try.ntmps68
  go_wp2_with (fail)
  refine (c_l22DrawValid B n _ HD.out.s hn0 hn).mono ?_
  rintro e w2 ⟨l, v, A, c, rfl, hl, hv0, hv1, ho, hd⟩
  have hsz : w.heap.size < (w.alloc (.cells #[.int .i64 0, .slice none 0 0, .int .i64 0] 29)).heap.size := by simp
  have HX2 := Lib.hid (hd.own HX.out hBl)
  have HO2 := Lib.hid (own_mono ho (base' := w.heap.size) (Nat.le_of_lt hsz))
  have HD2 := Lib.hid (HD.out.then_ hd)
  have hdg := hd.g.size
  have HI : Hid (DRS B w (w2.alloc (.cells #[.int .i64 n, .slice A l.length c, .int .i64 v] 29)) w2.heap.size n v (.slice A l.length c) A c l) := Lib.hid ⟨own_below HX2.out (below_alloc (Below.refl _ _) _), own_box w2 w.heap.size 29 [.int .i64 n, .slice A l.length c, .int .i64 v] 3 rfl HD2.out.g.size, own_below HO2.out (below_alloc (Below.refl _ _) _), HD2.out.alloc hBl _⟩
  have hb5 : w.heap.size < w2.heap.size := Nat.lt_of_lt_of_le hsz hdg
  clear ho hd HX HD hsz HX2 HO2 HD2
  go_upto_if 14 with (fail)
  generalize hW5 : w2.alloc (.cells #[.int .i64 n, .slice A l.length c, .int .i64 v] 29) = W5 at *
  have hbW : w2.heap.size < W5.heap.size := by rw [← hW5]; simp
  clear hW5
  generalize w2.heap.size = b5 at *
  go_cut [6, 7] from 14 to 78 (fun _ _ wx => ∃ (X : Int) (l' : List Nd) (r : Int) (A' : Option Addr) (c' : Nat), l'.length ≤ 13 ∧ Hid (DRS B w wx b5 X r (.slice A' l'.length c') A' c' l'))
  case first =>
    by_cases hl0 : 0 < l.length
    · obtain ⟨g, cap, hv, _⟩ := HI.out.o.form (by omega)
      simp only [Value.slice.injEq, true_and] at hv
      obtain ⟨rfl, rfl⟩ := hv
      have a1 := HI.out.x5.cellAt 1 (by decide)
      simp only [List.getElem?_cons_zero, List.getElem?_cons_succ] at a1
      go_wp2_with (fail)
      refine (c_NextD B _ _ HI.out.d.s (by omega)).mono ?_
      rintro e w3 ⟨k, rfl, hk0, hk1, _, hd⟩
      replace hk1 := hk1 (by omega)
      obtain ⟨k, rfl⟩ : ∃ j : Nat, k = j := ⟨k.toNat, by omega⟩
      have HI3 := Lib.hid (HI.out.next hBl hd)
      clear hd HI a1
      have a1 := HI3.out.x5.cellAt 1 (by decide)
      simp only [List.getElem?_cons_zero, List.getElem?_cons_succ] at a1
      have hsz3 := HI3.out.d.g.size
      have ha1 := World.block_lt_of_cell? _ _ a1
      dsimp only at ha1
      go_wp2_with (first
        | (at_builtin
           refine wpList_append_nds _ (by rfl) (.tmp 20) (.tmp 22) (by rfl) w.heap.size (.slice (some ⟨w3.heap.size, 0, none⟩) 0 0) 0 [] l ⟨g, 0, none⟩ l.length c (by rfl) (nd_nil w3 _ rfl _ (by exact hsz3)) (by rfl) ((Rd.own HI3.out.o).alloc _) rfl (by omega) (by simp; omega) ?_
           intro v' w7 hown hgrow
           have HB := Lib.hid (show Below w3.heap.size w3 w7 from ((Below.refl _ w3).alloc (Nat.le_refl _) _).grown hgrow (by simp) (by intro k hk; simp [Value.ownBlock] at hk; omega))
           rw [Nat.zero_add, List.nil_append] at hown
           have HO := Lib.hid hown
           clear hown hgrow
           obtain ⟨A7, c7, rfl⟩ := own_shape HO.out)
        )
      have HI7 : Hid (DRS B w w7 b5 n v (.slice (some ⟨g, 0, none⟩) l.length c) A7 c7 l) := Lib.hid ⟨(HI3.out.below hBl HB.out).x4, (HI3.out.below hBl HB.out).x5, HO.out, (HI3.out.below hBl HB.out).d⟩
      clear HO HB HI3 a1 ha1
      have hkl : k < l.length := by omega
      have hb1 : 1 ≤ l.length := by omega
      refine (c_NextD B 24 _ HI7.out.d.s (by omega)).mono ?_
      rintro e w8 ⟨q, rfl, hq0, hq1, _, hd⟩
      have HI8 := Lib.hid (HI7.out.next hBl hd)
      clear hd HI7
      by_cases e0 : q = 0
      · subst e0
        have hal := (HI8.out.d.alloc hBl (.cells #[.int .i64 (-1), .int .i64 0, .int .i64 n] 2))
        have HIA := Lib.hid (HI8.out.below hBl (below_alloc (Below.refl _ _) (.cells #[.int .i64 (-1), .int .i64 0, .int .i64 n] 2)))
        have hB8 : B < w8.heap.size := HI8.out.d.s.lt
        clear hal
        go_wp2_with (fail)
        refine (c_PickIn B _ _ 3 [-1, 0, n] _ HIA.out.d.s (by omega) rfl (by decide) (by decide) (rd_lit3 _ _ _ _)).mono ?_
        rintro e w9 ⟨z, _, rfl, hd⟩
        have HI9 := Lib.hid (HIA.out.next hBl hd)
        clear hd HIA HI8
        obtain ⟨g7, cap7, hv7, _⟩ := HI9.out.o.form (by omega)
        simp only [Value.slice.injEq, true_and] at hv7
        obtain ⟨rfl, rfl⟩ := hv7
        obtain ⟨⟨z0, g0⟩, fz0⟩ := HI9.out.at (i := 0) hkl (by decide)
        obtain ⟨a0, a1, a2, f0, f1, f2, hgb, hlt5⟩ := HI9.out.box
        have hgb' := hgb g7 rfl
        clear hgb
        simp only [Nat.add_zero] at g0 fz0
        obtain ⟨lp, hlp, hp⟩ := HI9.out.put hBl hkl (i := 0) (by decide) z
        have HP := Lib.hid (hp.set5 hBl hb5 (.slice (some ⟨g7, 0, none⟩) l.length c7))
        clear hp HI9
        go_wp2_with (fail)
        go_meet
        case rel => exact ⟨n, lp, v, _, _, by omega, by rw [hlp]; exact HP⟩
      have n0 : (q == 0) = false := by simpa using e0
      by_cases e1 : q = 1
      · subst e1
        have hal := (HI8.out.d.alloc hBl (.cells #[.int .i64 (-1), .int .i64 0, .int .i64 1, .int .i64 2, .int .i64 40] 2))
        have HIA := Lib.hid (HI8.out.below hBl (below_alloc (Below.refl _ _) (.cells #[.int .i64 (-1), .int .i64 0, .int .i64 1, .int .i64 2, .int .i64 40] 2)))
        have hB8 : B < w8.heap.size := HI8.out.d.s.lt
        clear hal
        go_wp2_with (fail)
        refine (c_PickIn B _ _ 5 [-1, 0, 1, 2, 40] _ HIA.out.d.s (by omega) rfl (by decide) (by decide) (rd_lit5 _ _ _ _ _ _)).mono ?_
        rintro e w9 ⟨z, _, rfl, hd⟩
        have HI9 := Lib.hid (HIA.out.next hBl hd)
        clear hd HIA HI8
        obtain ⟨g7, cap7, hv7, _⟩ := HI9.out.o.form (by omega)
        simp only [Value.slice.injEq, true_and] at hv7
        obtain ⟨rfl, rfl⟩ := hv7
        obtain ⟨⟨z0, g0⟩, fz0⟩ := HI9.out.at (i := 1) hkl (by decide)
        obtain ⟨a0, a1, a2, f0, f1, f2, hgb, hlt5⟩ := HI9.out.box
        have hgb' := hgb g7 rfl
        clear hgb
        skip
        obtain ⟨lp, hlp, hp⟩ := HI9.out.put hBl hkl (i := 1) (by decide) z
        have HP := Lib.hid (hp.set5 hBl hb5 (.slice (some ⟨g7, 0, none⟩) l.length c7))
        clear hp HI9
        go_wp2_with (fail)
        go_meet
        case rel => exact ⟨n, lp, v, _, _, by omega, by rw [hlp]; exact HP⟩
      have n1 : (q == 1) = false := by simpa using e1
      by_cases e2 : q = 2
      · subst e2
        have hal := (HI8.out.d.alloc hBl (.cells #[.int .i64 (-1), .int .i64 0, .int .i64 1, .int .i64 2, .int .i64 40] 2))
        have HIA := Lib.hid (HI8.out.below hBl (below_alloc (Below.refl _ _) (.cells #[.int .i64 (-1), .int .i64 0, .int .i64 1, .int .i64 2, .int .i64 40] 2)))
        have hB8 : B < w8.heap.size := HI8.out.d.s.lt
        clear hal
        go_wp2_with (fail)
        refine (c_PickIn B _ _ 5 [-1, 0, 1, 2, 40] _ HIA.out.d.s (by omega) rfl (by decide) (by decide) (rd_lit5 _ _ _ _ _ _)).mono ?_
        rintro e w9 ⟨z, _, rfl, hd⟩
        have HI9 := Lib.hid (HIA.out.next hBl hd)
        clear hd HIA HI8
        obtain ⟨g7, cap7, hv7, _⟩ := HI9.out.o.form (by omega)
        simp only [Value.slice.injEq, true_and] at hv7
        obtain ⟨rfl, rfl⟩ := hv7
        obtain ⟨⟨z0, g0⟩, fz0⟩ := HI9.out.at (i := 2) hkl (by decide)
        obtain ⟨a0, a1, a2, f0, f1, f2, hgb, hlt5⟩ := HI9.out.box
        have hgb' := hgb g7 rfl
        clear hgb
        skip
        obtain ⟨lp, hlp, hp⟩ := HI9.out.put hBl hkl (i := 2) (by decide) z
        have HP := Lib.hid (hp.set5 hBl hb5 (.slice (some ⟨g7, 0, none⟩) l.length c7))
        clear hp HI9
        go_wp2_with (fail)
        go_meet
        case rel => exact ⟨n, lp, v, _, _, by omega, by rw [hlp]; exact HP⟩
      have n2 : (q == 2) = false := by simpa using e2
      by_cases e3 : q = 3
      · subst e3
        obtain ⟨g7, cap7, hv7, _⟩ := HI8.out.o.form (by omega)
        simp only [Value.slice.injEq, true_and] at hv7
        obtain ⟨rfl, rfl⟩ := hv7
        obtain ⟨x0, hx0⟩ : ∃ x, l[0]? = some x := ⟨_, List.getElem?_eq_getElem hl0⟩
        have g0 := (HI8.out.o.cellAt (0 * 3 + 0) (by omega)).trans (ndCells_get (i := 0) (by decide) hx0)
        have g1 := (HI8.out.o.cellAt (0 * 3 + 1) (by omega)).trans (ndCells_get (i := 1) (by decide) hx0)
        have g2 := (HI8.out.o.cellAt (0 * 3 + 2) (by omega)).trans (ndCells_get (i := 2) (by decide) hx0)
        simp only [Nd.cells, List.getElem?_cons_zero, List.getElem?_cons_succ, Nat.zero_mul, Nat.zero_add] at g0 g1 g2
        have hsz8 := HI8.out.d.g.size
        have hl0i : (0 : Int) < l.length := by omega
        clear hx0
        go_wp2_with (first
          | (at_builtin
             refine wpList_push_nd _ (by rfl) (.tmp 56) (.tmp 60) (by rfl) w.heap.size (.slice (some ⟨g7, 0, none⟩) l.length c7) l x0 w8.heap.size 1 (by rfl) (own_below HI8.out.o (below_alloc (Below.refl _ _) _)) (by rfl) (by go_simp) (by go_simp) (by go_simp) (by omega) (by simp; omega) ?_
             intro v' w9 hown hgrow _
             obtain ⟨l9, hl9⟩ : ∃ l9, l9 = l ++ [x0] := ⟨_, rfl⟩
             have hl9n : l9.length ≤ 13 := by rw [hl9, List.length_append, List.length_singleton]; omega
             rw [← hl9] at hown
             obtain ⟨A9, c9, rfl⟩ := own_shape hown
             have HI9 := Lib.hid ((HI8.out.below hBl (below_alloc (Below.refl _ _) _)).grow hBl hown hgrow)
             have HP := Lib.hid (HI9.out.set5 hBl hb5 (.slice A9 l9.length c9))
             obtain ⟨a0, a1, a2, f0, f1, f2, hgb, hlt5⟩ := HI9.out.box
             clear hgb hown hgrow hl9 HI9 HI8 g0 g1 g2)
          )
        go_meet
        case rel => exact ⟨n, l9, v, A9, c9, hl9n, HP⟩
      have n3 : (q == 3) = false := by simpa using e3
      by_cases e4 : q = 4
      · subst e4
        obtain ⟨a0, a1, a2, f0, f1, f2, hgb, hlt5⟩ := HI8.out.box
        have hw2 : IntKind.i64.wrap (v + 2) = v + 2 := IntWalk.i64_in _ (by omega)
        clear hgb a1 f0 f1 f2
        go_wp2_with (fail)
        refine wp_region_held_drew (S := (fun w' => w'.cell? ⟨b5, 0, none⟩ = some (.int .i64 n) ∧ w'.cell? ⟨b5, 2, none⟩ = some (.int .i64 v))) (by kernel_rfl) ?_ (fun hHeld => ?_)
        · exact ⟨a0, a2⟩
        refine rg_take (v := ?_) 0 rfl (by kernel_rfl) (by kernel_rfl) (by kernel_rfl) (fun _ _ _ h => h) (by kernel_rfl) ?_ (by assumption) ?_
        rotate_left
        · (intro w' hSw; (try dsimp only at hSw); go_simp; first | done | with_reducible rfl)
        simp only [Act.put, List.setIfInBounds_toArray, List.set_cons_zero, List.set_cons_succ]
        refine rg_take (v := ?_) 1 rfl (by kernel_rfl) (by kernel_rfl) (by kernel_rfl) (fun _ _ _ h => h) (by kernel_rfl) ?_ (by assumption) ?_
        rotate_left
        · (intro w' hSw; (try dsimp only at hSw); go_simp; first | done | with_reducible rfl)
        simp only [Act.put, List.setIfInBounds_toArray, List.set_cons_zero, List.set_cons_succ]
        refine rg_take (v := ?_) 2 rfl (by kernel_rfl) (by kernel_rfl) (by kernel_rfl) (fun _ _ _ h => h) (by kernel_rfl) ?_ (by assumption) ?_
        rotate_left
        · (intro w' hSw; (try dsimp only at hSw); go_simp; first | done | with_reducible rfl)
        simp only [Act.put, List.setIfInBounds_toArray, List.set_cons_zero, List.set_cons_succ]
        refine rg_take (v := ?_) 3 rfl (by kernel_rfl) (by kernel_rfl) (by kernel_rfl) (fun _ _ _ h => h) (by kernel_rfl) ?_ (by assumption) ?_
        rotate_left
        · (intro w' hSw; (try dsimp only at hSw); go_simp; first | done | with_reducible rfl)
        simp only [Act.put, List.setIfInBounds_toArray, List.set_cons_zero, List.set_cons_succ]
        refine rg_take (v := ?_) 4 rfl (by kernel_rfl) (by kernel_rfl) (by kernel_rfl) (fun _ _ _ h => h) (by kernel_rfl) ?_ (by assumption) ?_
        rotate_left
        · (intro w' hSw; (try dsimp only at hSw); go_simp; first | done | with_reducible rfl)
        simp only [Act.put, List.setIfInBounds_toArray, List.set_cons_zero, List.set_cons_succ]
        refine rg_take (v := ?_) 5 rfl (by kernel_rfl) (by kernel_rfl) (by kernel_rfl) (fun _ _ _ h => h) (by kernel_rfl) ?_ (by assumption) ?_
        rotate_left
        · (intro w' hSw; (try dsimp only at hSw); go_simp; first | done | with_reducible rfl)
        simp only [Act.put, List.setIfInBounds_toArray, List.set_cons_zero, List.set_cons_succ]
        refine rg_take (v := ?_) 6 rfl (by kernel_rfl) (by kernel_rfl) (by kernel_rfl) (fun _ _ _ h => h) (by kernel_rfl) ?_ (by assumption) ?_
        rotate_left
        · (intro w' hSw; (try dsimp only at hSw); go_simp; first | done | with_reducible rfl)
        simp only [Act.put, List.setIfInBounds_toArray, List.set_cons_zero, List.set_cons_succ]
        refine rg_run 7 rfl (by kernel_rfl) (by kernel_rfl) (fun K hK => ?_)
        go_simp
        refine (c_NextD B _ _ (by exact (HI8.out.d.drew hBl).s) (by omega)).mono ?_
        rintro e w9 ⟨r, rfl, _, _, _, hd⟩
        have HI9 := Lib.hid ((HI8.out.below hBl (Below.refl _ _).drew).next hBl hd)
        replace a0 := hd.cell (by exact a0) (by omega)
        replace a2 := hd.cell (by exact a2) (by omega)
        clear hd HI8
        obtain ⟨WF, hWF, r0, r1, r2, r3, r4⟩ := set3_dw HI9.out.x4 HI9.out.d hBl HI9.out.o n r
        have HF := Lib.hid hWF
        have p0 := HI9.out.x4.cellAt 0 (by decide)
        have p1 := HI9.out.x4.cellAt 1 (by decide)
        have p2 := HI9.out.x4.cellAt 2 (by decide)
        simp only [List.getElem?_cons_zero, List.getElem?_cons_succ] at p0 p1 p2
        have f0 := HI9.out.x4.frozenAt 0
        have f1 := HI9.out.x4.frozenAt 1
        have f2 := HI9.out.x4.frozenAt 2
        have R3 := Lib.hid r3
        have R4 := Lib.hid r4
        clear r3 r4 HI9
        go_wp2
        clear hHeld
        refine hK.out _ _ (by exact ⟨a0, a2⟩) (fun hHeld => ?_)
        clear hK K
        try simp only [Act.put, List.setIfInBounds_toArray, List.set_cons_zero, List.set_cons_succ]
        refine rg_take (v := ?_) 8 rfl (by kernel_rfl) (by kernel_rfl) (by kernel_rfl) (fun _ _ _ h => h) (by kernel_rfl) ?_ (by assumption) ?_
        rotate_left
        · (intro w' hSw; (try dsimp only at hSw); go_simp; first | done | with_reducible rfl)
        simp only [Act.put, List.setIfInBounds_toArray, List.set_cons_zero, List.set_cons_succ]
        have hbb : b5 ≠ w.heap.size := by omega
        have a0' : WF.cell? ⟨b5, 0, none⟩ = some (.int .i64 n) := by rw [hWF]; go_simp
        have a2' : WF.cell? ⟨b5, 2, none⟩ = some (.int .i64 v) := by rw [hWF]; go_simp
        clear hWF
        refine rg_run 9 rfl (by kernel_rfl) (by kernel_rfl) (fun K hK => ?_)
        go_simp
        rw [← HF.out]
        clear hHeld
        refine hK.out _ _ (by exact ⟨a0', a2'⟩) (fun hHeld => ?_)
        clear hK K
        try simp only [Act.put, List.setIfInBounds_toArray, List.set_cons_zero, List.set_cons_succ]
        refine wpAnyH_done (by kernel_rfl) ?_ _
        clear hHeld
        clear a0 a2 p0 p1 p2 f0 f1 f2 a0' a2'
        go_wp2_with (fail)
        refine bodyPost_ret (v := .agg #[.int .i64 n, .slice A7 l.length c7, .int .i64 r]) (by simp [results, Try.results68, go_sem, r0, r1, r2]) rfl ⟨_, _, _, _, _, rfl, by omega, R3.out, R4.out⟩
      have n4 : (q == 4) = false := by simpa using e4
      clear e0 e1 e2 e3 e4
      obtain ⟨a0, a1, a2, f0, f1, f2, hgb, hlt5⟩ := HI8.out.box
      clear hgb
      have HP := Lib.hid (HI8.out.set5 hBl hb5 (.slice A7 l.length c7))
      go_wp2_with (fail)
      go_meet
      case rel => exact ⟨n, l, v, _, _, by omega, HP⟩
    · go_wp2_with (fail)
      go_meet
      case rel => exact ⟨n, l, v, A, c, by omega, HI⟩
  case rest =>
    obtain ⟨X, l', r, A', c', hl', hI⟩ := hcut
    clear HI
    go_wp2_with (fail)
    refine (c_NextD B 40 _ hI.out.d.s (by omega)).mono ?_
    rintro e w3 ⟨q, rfl, hq0, hq1, _, hd⟩
    have HI3 := Lib.hid (hI.out.next hBl hd)
    clear hd hI
    by_cases e0 : q = 0
    · subst e0
      have HIA := Lib.hid (HI3.out.below hBl (below_alloc (Below.refl _ _) (.cells #[.int .i64 (-1), .int .i64 20, .int .i64 21] 2)))
      have hB8 : B < w3.heap.size := HI3.out.d.s.lt
      clear HI3
      go_wp2_with (fail)
      refine (c_PickIn B _ _ 3 [-1, 20, 21] _ HIA.out.d.s (by omega) rfl (by decide) (by decide) (rd_lit3 _ _ _ _)).mono ?_
      rintro e w9 ⟨z, _, rfl, hd⟩
      have HIY := Lib.hid (HIA.out.next hBl hd)
      have HIZ := Lib.hid (HIY.out.setX hBl hb5 z)
      clear hd HIA
      obtain ⟨WF, hWF, r0, r1, r2, r3, r4⟩ := set3_dw HIZ.out.x4 HIZ.out.d hBl HIZ.out.o z r
      have HF := Lib.hid hWF
      have R3 := Lib.hid r3
      have R4 := Lib.hid r4
      have R012 := Lib.hid (And.intro r0 (And.intro r1 r2))
      clear hWF r0 r1 r2 r3 r4
      have p0 := HIY.out.x4.cellAt 0 (by decide)
      have p1 := HIY.out.x4.cellAt 1 (by decide)
      have p2 := HIY.out.x4.cellAt 2 (by decide)
      simp only [List.getElem?_cons_zero, List.getElem?_cons_succ] at p0 p1 p2
      have q0 := HIY.out.x4.frozenAt 0
      have q1 := HIY.out.x4.frozenAt 1
      have q2 := HIY.out.x4.frozenAt 2
      have hbb : b5 ≠ w.heap.size := by omega
      obtain ⟨a0, a1, a2, f0, f1, f2, hgb, hlt5⟩ := HIY.out.box
      clear hgb HIZ HIY
      go_wp2_with (fail)
      rw [← HF.out]
      obtain ⟨r0, r1, r2⟩ := R012.out
      clear p0 p1 p2 q0 q1 q2 a0 a1 a2 f0 f1 f2
      refine bodyPost_ret (v := .agg #[.int .i64 z, .slice A' l'.length c', .int .i64 r]) (by simp [results, Try.results68, go_sem, r0, r1, r2]) rfl ⟨_, _, _, _, _, rfl, hl', R3.out, R4.out⟩
    · have n0 : (q == 0) = false := by simpa using e0
      clear e0
      have HIY := Lib.hid HI3.out
      have HIZ := Lib.hid HI3.out
      clear HI3
      obtain ⟨WF, hWF, r0, r1, r2, r3, r4⟩ := set3_dw HIZ.out.x4 HIZ.out.d hBl HIZ.out.o X r
      have HF := Lib.hid hWF
      have R3 := Lib.hid r3
      have R4 := Lib.hid r4
      have R012 := Lib.hid (And.intro r0 (And.intro r1 r2))
      clear hWF r0 r1 r2 r3 r4
      have p0 := HIY.out.x4.cellAt 0 (by decide)
      have p1 := HIY.out.x4.cellAt 1 (by decide)
      have p2 := HIY.out.x4.cellAt 2 (by decide)
      simp only [List.getElem?_cons_zero, List.getElem?_cons_succ] at p0 p1 p2
      have q0 := HIY.out.x4.frozenAt 0
      have q1 := HIY.out.x4.frozenAt 1
      have q2 := HIY.out.x4.frozenAt 2
      have hbb : b5 ≠ w.heap.size := by omega
      obtain ⟨a0, a1, a2, f0, f1, f2, hgb, hlt5⟩ := HIY.out.box
      clear hgb HIZ HIY
      go_wp2_with (fail)
      rw [← HF.out]
      obtain ⟨r0, r1, r2⟩ := R012.out
      clear p0 p1 p2 q0 q1 q2 a0 a1 a2 f0 f1 f2
      refine bodyPost_ret (v := .agg #[.int .i64 X, .slice A' l'.length c', .int .i64 r]) (by simp [results, Try.results68, go_sem, r0, r1, r2]) rfl ⟨_, _, _, _, _, rfl, hl', R3.out, R4.out⟩
end Go.Proofs.Ytndihacmlkgkbaa

/-! Contract of DrawJoinDiagrams. Condition: at most 4096 bytes of code. -/
namespace Go.Proofs.Ytndihacmlkgkbaa
open Go.RowKit

theorem bytes_later {w w' : World} {A : Option Addr} {n : Nat} (h : Bytes w w.heap.size A n) (hb : Below w.heap.size w w') : Bytes w' w'.heap.size A n := by
  intro j hj
  obtain ⟨b, off, u, e, hb1, hu, hc⟩ := h j hj
  exact ⟨b, off, u, e, Nat.lt_of_lt_of_le hb1 hb.size, hu, cell_later hb hc⟩
theorem box_put {W : World} {base bd : Nat} {xs : List Value} (hD : W.ownsRow base 29 3 (.slice (some ⟨bd, 0, none⟩) 1 1) 1 xs) (v0 v1 v2 : Value) :
    ∃ WF, WF = ((W.setCell ⟨bd, 0, none⟩ v0).setCell ⟨bd, 1, none⟩ v1).setCell ⟨bd, 2, none⟩ v2 ∧ WF.ownsRow base 29 3 (.slice (some ⟨bd, 0, none⟩) 1 1) 1 [v0, v1, v2] ∧ W.grownBy WF (some bd) := by
  have h0 := hD.stored 0 v0
  have h1 := h0.1.stored 1 v1
  have h2 := h1.1.stored 2 v2
  have hx : xs.length = 3 := hD.1
  match xs, hx with
  | [a, b, c], _ => exact ⟨_, rfl, h2.1, grown_trans (grown_trans h0.2 h1.2) h2.2⟩
theorem box_keep {w w' : World} {base bd q n : Nat} {xs : List Value} (h : w.ownsRow base 29 3 (.slice (some ⟨bd, 0, none⟩) 1 1) n xs) (hg : w.grownBy w' (some q)) (hne : q ≠ bd) : w'.ownsRow base 29 3 (.slice (some ⟨bd, 0, none⟩) 1 1) n xs :=
  h.kept hg (.inr (fun e => hne (by simpa [Value.ownBlock] using e.symm)))
theorem box_c {w : World} {base bd : Nat} {x y z : Value} (h : w.ownsRow base 29 3 (.slice (some ⟨bd, 0, none⟩) 1 1) 1 [x, y, z]) : w.cell? ⟨bd, 0, none⟩ = some x ∧ w.cell? ⟨bd, 1, none⟩ = some y ∧ w.cell? ⟨bd, 2, none⟩ = some z ∧ w.frozen? ⟨bd, 0, none⟩ = false ∧ w.frozen? ⟨bd, 1, none⟩ = false ∧ w.frozen? ⟨bd, 2, none⟩ = false ∧ bd < w.heap.size :=
  ⟨h.cellAt 0 (by decide), h.cellAt 1 (by decide), h.cellAt 2 (by decide), h.frozenAt 0, h.frozenAt 1, h.frozenAt 2, (own_ge h).2⟩
/-- A number and two diagrams of few nodes. -/
def RDJ (w : World) (e : Ending) (w' : World) : Prop :=
  ∃ (j Xa : Int) (la : List Nd) (ra : Int) (Aa : Option Addr) (ca : Nat) (Xb : Int) (lb : List Nd) (rb : Int) (Ab : Option Addr) (cb : Nat), e = .returned (.tuple #[.int .i64 j, .agg #[.int .i64 Xa, .slice Aa la.length ca, .int .i64 ra], .agg #[.int .i64 Xb, .slice Ab lb.length cb, .int .i64 rb]]) ∧
    la.length ≤ 13 ∧ lb.length ≤ 13 ∧ w'.ownsRow w.heap.size 57 3 (.slice Aa la.length ca) la.length (ndCells la) ∧ w'.ownsRow w.heap.size 57 3 (.slice Ab lb.length cb) lb.length (ndCells lb) ∧ Below w.heap.size w w'
set_option maxHeartbeats 2000000 in
set_option maxRecDepth 100000 in
theorem c_DrawJoin (A : Option Addr) (c n : Nat) (w : World) (hn : n ≤ 4096) (hb : Bytes w w.heap.size A n) :
    Calls Try.prog 35 #[.slice A n c] w (RDJ w) := by
  have HB0 := Lib.hid (below_alloc (below_alloc (Below.refl w.heap.size w) (.cells #[.int .i64 0, .slice none 0 0, .int .i64 0] 29)) (.cells #[.int .i64 0, .slice none 0 0, .int .i64 0] 29))
  have HBY := Lib.hid (bytes_later hb HB0.out)
  have HX3 := Lib.hid (own_below (own_box w w.heap.size 29 [.int .i64 0, .slice none 0 0, .int .i64 0] 3 rfl (Nat.le_refl _)) (below_alloc (Below.refl _ _) (.cells #[.int .i64 0, .slice none 0 0, .int .i64 0] 29)))
  have HX4 : Hid (((w.alloc (.cells #[.int .i64 0, .slice none 0 0, .int .i64 0] 29)).alloc (.cells #[.int .i64 0, .slice none 0 0, .int .i64 0] 29)).ownsRow w.heap.size 29 3 (.slice (some ⟨w.heap.size + 1, 0, none⟩) 1 1) 1 [.int .i64 0, .slice none 0 0, .int .i64 0]) := Lib.hid (by
    have h := own_box (w.alloc (.cells #[.int .i64 0, .slice none 0 0, .int .i64 0] 29)) w.heap.size 29 [.int .i64 0, .slice none 0 0, .int .i64 0] 3 rfl (by simp)
    simpa using h)
  have hsz : ((w.alloc (.cells #[.int .i64 0, .slice none 0 0, .int .i64 0] 29)).alloc (.cells #[.int .i64 0, .slice none 0 0, .int .i64 0] 29)).heap.size = w.heap.size + 2 := by simp
  dsimp only [List.toArray] at HX3
  clear hb
  go_enter Try.func35, Try.ntmps35
  go_wp2_with (fail)
  generalize (w.alloc (.cells #[.int .i64 0, .slice none 0 0, .int .i64 0] 29)).alloc (.cells #[.int .i64 0, .slice none 0 0, .int .i64 0] 29) = W0 at *
  refine (c_From A c n _ hn HBY.out).mono ?_
  rintro e w1 ⟨rfl, hs, hb⟩
  obtain ⟨B, hBe⟩ : ∃ B, B = W0.heap.size := ⟨_, rfl⟩
  have HX3' := Lib.hid (own_below HX3.out hb)
  have HX4' := Lib.hid (own_below HX4.out hb)
  have HB1 := Lib.hid (below_chain HB0.out hb)
  rw [← hBe] at hs ⊢
  have HD := Lib.hid (DW.start hs)
  have hBw : w.heap.size + 2 ≤ B := by omega
  clear hb hs hBe HX3 HX4 HBY hsz HB0
  have hBl := HD.out.s.lt
  go_wp2_with (fail)
  refine (c_NextD B 6 _ HD.out.s (by omega)).mono ?_
  rintro e w2 ⟨nn, rfl, hn0, hn1, _, hd⟩
  replace hn1 := hn1 (by omega)
  have HD2 := Lib.hid (HD.out.then_ hd)
  clear hd HD
  go_wp2_with (fail)
  refine (c_NextD B 3 _ HD2.out.s (by omega)).mono ?_
  rintro e w3 ⟨j0, rfl, hj0, hj1, _, hd⟩
  replace hj1 := hj1 (by omega)
  have HD3 := Lib.hid (HD2.out.then_ hd)
  clear hd HD2
  go_wp2_with (fail)
  refine (c_NextD B 24 _ HD3.out.s (by omega)).mono ?_
  rintro e w4 ⟨q, rfl, hq0, hq1, _, hd⟩
  replace hq1 := hq1 (by omega)
  have HD4 := Lib.hid (HD3.out.then_ hd)
  clear hd HD3
  go_wp2_with (fail)
  have hjj : 0 ≤ j0 + q / 23 * 3 ∧ j0 + q / 23 * 3 ≤ 5 := by omega
  generalize j0 + q / 23 * 3 = j at *
  clear hj0 hj1 hq0 hq1
  have hsz4 := HD4.out.g.size
  refine (c_l22Draw B nn _ HD4.out.s hn0 (by omega)).mono ?_
  rintro e w5 ⟨Xa, la, ra, Aa, ca, rfl, hla, hoa, hd⟩
  have HD5 := Lib.hid (HD4.out.then_ hd)
  have HOA := Lib.hid (own_mono hoa (base' := B + 1) (by omega))
  clear hd HD4 hoa hsz4
  have hsz5 := HD5.out.g.size
  have HX8 := Lib.hid (own_box w5 (B + 1) 29 [.int .i64 Xa, .slice Aa la.length ca, .int .i64 ra] 3 rfl (by omega))
  have HD6 := Lib.hid (HD5.out.alloc hBl (.cells #[.int .i64 Xa, .slice Aa la.length ca, .int .i64 ra] 29))
  have HOA6 := Lib.hid (own_below HOA.out (below_alloc (Below.refl _ _) (.cells #[.int .i64 Xa, .slice Aa la.length ca, .int .i64 ra] 29)))
  have hb6 : w5.heap.size < (w5.alloc (.cells #[.int .i64 Xa, .slice Aa la.length ca, .int .i64 ra] 29)).heap.size := by simp
  dsimp only [List.toArray] at HX8
  clear HD5 HOA
  go_wp2_with (fail)
  generalize w5.alloc (.cells #[.int .i64 Xa, .slice Aa la.length ca, .int .i64 ra] 29) = W6 at *
  generalize w5.heap.size = b8 at *
  obtain ⟨a0, a1, a2, _⟩ := box_c HX8.out
  refine wp_region_held_drew (S := (fun w' => w'.cell? ⟨b8, 0, none⟩ = some (.int .i64 Xa) ∧ w'.cell? ⟨b8, 1, none⟩ = some (.slice Aa la.length ca) ∧ w'.cell? ⟨b8, 2, none⟩ = some (.int .i64 ra))) (by kernel_rfl) ?_ (fun hHeld => ?_)
  · exact ⟨a0, a1, a2⟩
  refine rg_take (v := ?_) 0 rfl (by kernel_rfl) (by kernel_rfl) (by kernel_rfl) (fun _ _ _ h => h) (by kernel_rfl) ?_ (by assumption) ?_
  rotate_left
  · (intro w' hSw; (try dsimp only at hSw); go_simp; first | done | with_reducible rfl)
  simp only [Act.put, List.setIfInBounds_toArray, List.set_cons_zero, List.set_cons_succ]
  refine rg_take (v := ?_) 1 rfl (by kernel_rfl) (by kernel_rfl) (by kernel_rfl) (fun _ _ _ h => h) (by kernel_rfl) ?_ (by assumption) ?_
  rotate_left
  · (intro w' hSw; (try dsimp only at hSw); go_simp; first | done | with_reducible rfl)
  simp only [Act.put, List.setIfInBounds_toArray, List.set_cons_zero, List.set_cons_succ]
  refine rg_take (v := ?_) 2 rfl (by kernel_rfl) (by kernel_rfl) (by kernel_rfl) (fun _ _ _ h => h) (by kernel_rfl) ?_ (by assumption) ?_
  rotate_left
  · (intro w' hSw; (try dsimp only at hSw); go_simp; first | done | with_reducible rfl)
  simp only [Act.put, List.setIfInBounds_toArray, List.set_cons_zero, List.set_cons_succ]
  refine rg_take (v := ?_) 3 rfl (by kernel_rfl) (by kernel_rfl) (by kernel_rfl) (fun _ _ _ h => h) (by kernel_rfl) ?_ (by assumption) ?_
  rotate_left
  · (intro w' hSw; (try dsimp only at hSw); go_simp; first | done | with_reducible rfl)
  simp only [Act.put, List.setIfInBounds_toArray, List.set_cons_zero, List.set_cons_succ]
  refine rg_take (v := ?_) 4 rfl (by kernel_rfl) (by kernel_rfl) (by kernel_rfl) (fun _ _ _ h => h) (by kernel_rfl) ?_ (by assumption) ?_
  rotate_left
  · (intro w' hSw; (try dsimp only at hSw); go_simp; first | done | with_reducible rfl)
  simp only [Act.put, List.setIfInBounds_toArray, List.set_cons_zero, List.set_cons_succ]
  refine rg_run 5 rfl (by kernel_rfl) (by kernel_rfl) (fun K hK => ?_)
  go_simp
  refine (c_NextD B 16 _ (by exact (HD6.out.drew hBl).s) (by omega)).mono ?_
  rintro e w7 ⟨q, rfl, hq0, hq1, _, hd⟩
  replace hq1 := hq1 (by omega)
  have HD7 := Lib.hid ((HD6.out.drew hBl).then_ hd)
  have HX7 := Lib.hid (hd.own (own_drew HX8.out) (by omega))
  have HO7 := Lib.hid (hd.own (own_drew HOA6.out) (by omega))
  replace a0 := hd.cell (by exact a0) (by omega)
  replace a1 := hd.cell (by exact a1) (by omega)
  replace a2 := hd.cell (by exact a2) (by omega)
  clear hd HD6 HX8 HOA6
  have hd15 : q.tdiv 15 = q / 15 := Int.tdiv_eq_ediv_of_nonneg hq0
  have hwq : IntKind.i64.wrap (q / 15) = q / 15 := IntWalk.i64_in _ (by omega)
  have hwn : IntKind.i64.wrap (nn + q / 15) = nn + q / 15 := IntWalk.i64_in _ (by omega)
  go_wp2
  clear hHeld
  refine hK.out _ _ (by exact ⟨a0, a1, a2⟩) (fun hHeld => ?_)
  clear hK K
  try simp only [Act.put, List.setIfInBounds_toArray, List.set_cons_zero, List.set_cons_succ]
  refine rg_take (v := ?_) 6 rfl (by kernel_rfl) (by kernel_rfl) (by kernel_rfl) (fun _ _ _ h => h) (by kernel_rfl) ?_ (by assumption) ?_
  rotate_left
  · (intro w' hSw; (try dsimp only at hSw); go_simp; first | done | with_reducible rfl)
  simp only [Act.put, List.setIfInBounds_toArray, List.set_cons_zero, List.set_cons_succ]
  refine rg_take (v := ?_) 7 rfl (by kernel_rfl) (by kernel_rfl) (by kernel_rfl) (fun _ _ _ h => h) (by kernel_rfl) ?_ (by assumption) ?_
  rotate_left
  · (intro w' hSw; (try dsimp only at hSw); go_simp; first | done | with_reducible rfl)
  simp only [Act.put, List.setIfInBounds_toArray, List.set_cons_zero, List.set_cons_succ]
  clear hd15 hwq hwn
  refine rg_run 8 rfl (by kernel_rfl) (by kernel_rfl) (fun K hK => ?_)
  go_simp
  refine (c_l22Draw B (nn + q / 15) _ HD7.out.s (by omega) (by omega)).mono ?_
  rintro e w8 ⟨Xb, lb, rb, Ab, cb, rfl, hlb, hob, hd⟩
  have HD8 := Lib.hid (HD7.out.then_ hd)
  have HX8 := Lib.hid (hd.own HX7.out (by omega))
  have HOA8 := Lib.hid (hd.own HO7.out (by omega))
  have hsz7 := HD7.out.g.size
  have HOB8 := Lib.hid (own_mono hob (base' := B + 1) (by omega))
  have HP3 := Lib.hid (box_keep HX3'.out HD8.out.g (by omega))
  have HP4 := Lib.hid (box_keep HX4'.out HD8.out.g (by omega))
  have HBW := Lib.hid (below_of_grown HB1.out HD8.out.g (fun k hk => by simp at hk; omega))
  replace a0 := hd.cell (by exact a0) (by omega)
  replace a1 := hd.cell (by exact a1) (by omega)
  replace a2 := hd.cell (by exact a2) (by omega)
  clear hd HD7 HX7 HO7 hob HX3' HX4' HB1
  go_wp2
  clear hHeld
  refine hK.out _ _ (by exact ⟨a0, a1, a2⟩) (fun hHeld => ?_)
  clear hK K
  try simp only [Act.put, List.setIfInBounds_toArray, List.set_cons_zero, List.set_cons_succ]
  refine rg_take (v := ?_) 9 rfl (by kernel_rfl) (by kernel_rfl) (by kernel_rfl) (fun _ _ _ h => h) (by kernel_rfl) ?_ (by assumption) ?_
  rotate_left
  · (intro w' hSw; (try dsimp only at hSw); go_simp; first | done | with_reducible rfl)
  simp only [Act.put, List.setIfInBounds_toArray, List.set_cons_zero, List.set_cons_succ]
  obtain ⟨WA, hWA, HWX, hgA⟩ := box_put HP3.out (.int .i64 Xa) (.slice Aa la.length ca) (.int .i64 ra)
  have HFA := Lib.hid hWA
  obtain ⟨p0, p1, p2, f0, f1, f2, hl3⟩ := box_c HP3.out
  have HA3 := Lib.hid HWX
  have HA4 := Lib.hid (box_keep HP4.out hgA (by omega))
  have HA8 := Lib.hid (box_keep HX8.out hgA (by omega))
  have HAO := Lib.hid (HOA8.out.kept hgA (.inr (fun e => own_ne HP3.out HOA8.out (by decide) w.heap.size rfl e)))
  have HBO := Lib.hid (HOB8.out.kept hgA (.inr (fun e => own_ne HP3.out HOB8.out (by decide) w.heap.size rfl e)))
  have HBA := Lib.hid (below_of_grown HBW.out hgA (fun k hk => by simp at hk; omega))
  clear hWA HWX hgA
  obtain ⟨a0', a1', a2', _⟩ := box_c HA8.out
  refine rg_run 10 rfl (by kernel_rfl) (by kernel_rfl) (fun K hK => ?_)
  go_simp
  rw [← HFA.out]
  clear hHeld
  refine hK.out _ _ (by exact ⟨a0', a1', a2'⟩) (fun hHeld => ?_)
  clear hK K
  try simp only [Act.put, List.setIfInBounds_toArray, List.set_cons_zero, List.set_cons_succ]
  clear p0 p1 p2 f0 f1 f2 a0 a1 a2 HP3 HP4 HX8 HOA8 HOB8 HBW HFA
  obtain ⟨WB, hWB, HWX, hgB⟩ := box_put HA4.out (.int .i64 Xb) (.slice Ab lb.length cb) (.int .i64 rb)
  have HFB := Lib.hid hWB
  obtain ⟨p0, p1, p2, f0, f1, f2, hl4⟩ := box_c HA4.out
  have HB4 := Lib.hid HWX
  have HB3 := Lib.hid (box_keep HA3.out hgB (by omega))
  have HB8 := Lib.hid (box_keep HA8.out hgB (by omega))
  have HAO2 := Lib.hid (HAO.out.kept hgB (.inr (fun e => own_ne HA4.out HAO.out (by decide) (w.heap.size + 1) rfl e)))
  have HBO2 := Lib.hid (HBO.out.kept hgB (.inr (fun e => own_ne HA4.out HBO.out (by decide) (w.heap.size + 1) rfl e)))
  have HBB := Lib.hid (below_of_grown HBA.out hgB (fun k hk => by simp at hk; omega))
  clear hWB HWX hgB
  obtain ⟨b0', b1', b2', _⟩ := box_c HB8.out
  refine rg_run 11 rfl (by kernel_rfl) (by kernel_rfl) (fun K hK => ?_)
  go_simp
  rw [← HFB.out]
  clear hHeld
  refine hK.out _ _ (by exact ⟨b0', b1', b2'⟩) (fun hHeld => ?_)
  clear hK K
  try simp only [Act.put, List.setIfInBounds_toArray, List.set_cons_zero, List.set_cons_succ]
  refine wpAnyH_done (by kernel_rfl) ?_ _
  clear hHeld
  clear p0 p1 p2 f0 f1 f2 a0' a1' a2' b0' b1' b2' HFB
  obtain ⟨r0, r1, r2, _⟩ := box_c HB3.out
  obtain ⟨s0, s1, s2, _⟩ := box_c HB4.out
  go_wp2_with (fail)
  refine bodyPost_ret (v := .tuple #[.int .i64 j, .agg #[.int .i64 Xa, .slice Aa la.length ca, .int .i64 ra], .agg #[.int .i64 Xb, .slice Ab lb.length cb, .int .i64 rb]]) (by simp [results, Try.results35, go_sem, r0, r1, r2, s0, s1, s2]) rfl ⟨_, _, _, _, _, _, _, _, _, _, _, rfl, hla, hlb, own_mono HAO2.out (by omega), own_mono HBO2.out (by omega), HBB.out⟩
end Go.Proofs.Ytndihacmlkgkbaa
