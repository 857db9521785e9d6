/- The program's compiler: load, term, line (printed by QCj.py). Condition: the lengths. -/
import Derived.Test.YtackekfjalaacaaGreatDoorQCi
import Derived.Test.YtackekfjalaacaaGreatDoorQCs
import Derived.Test.YtackekfjalaacaaGreatDoorRgE
namespace Go.Proofs.YtackekfjalaacaaGreatDoor
open Go.RowKit

set_option maxHeartbeats 1000000 in
set_option maxRecDepth 100000 in
theorem c_load (w0 : World) (b : Nat) (p : Prg) (a1 a2 a3 a4 ab : Option Addr) (c1 c2 c3 c4 cb : Nat) (A : Option Addr) (c : Nat) (S : List Ins) (nb : Nat) (s : ByteArray) (oa ob : Int) (w : World) (hs : PgOk p) (hS : S.length ≤ 3000) (hp : PgR w0 a1 a2 a3 a4 p) (h : XS w0 w b p a1 a2 a3 a4 ab c1 c2 c3 c4 cb A c S nb) :
    Calls Tryz.prog 80 #[.pointer (some ⟨b, 0, none⟩), .string s, .int .i64 oa, .int .i64 ob] w (RetX w0 b p a1 a2 a3 a4 ab c1 c2 c3 c4 cb (S ++ [nmI p s oa ob]) nb w) := by
  have HX := Lib.hid h
  have HP := Lib.hid hp
  have HI := Lib.hid (fun w h => c_IndexS a1 c1 _ p.ins s w rfl hs.i.1 h)
  have HJ := Lib.hid (fun w h => c_IndexS a2 c2 _ p.vs s w rfl hs.v.1 h)
  have HE := Lib.hid (fun o a w h => c_emit w0 b p a1 a2 a3 a4 ab c1 c2 c3 c4 cb A c S nb o a w hS h)
  have HV : Hid (0 ≤ ixS p.ins s ∧ nmI p s oa ob = ⟨oa, ixS p.ins s⟩ ∨ ixS p.ins s < 0 ∧ nmI p s oa ob = ⟨ob, ixS p.vs s⟩) := Lib.hid (by
    by_cases h0 : 0 ≤ ixS p.ins s
    · exact .inl ⟨h0, nmI_in h0⟩
    · exact .inr ⟨by omega, nmI_va h0⟩)
  generalize nmI p s oa ob = R at *
  generalize ixS p.ins s = z at *
  generalize ixS p.vs s = z2 at *
  obtain ⟨⟨k1, k2, k3⟩, _, k11, _, hb1, hb2⟩ := h.cells
  clear h hp hs
  go_enter Tryz.func80, Tryz.ntmps80
  go_wp2_with (fail)
  refine (HI.out _ ((HP.out.i.below HX.out.bel))).mono ?_
  rintro e w1 ⟨rfl, hb⟩
  have HX1 := Lib.hid (HX.out.below hb)
  have HF1 := Lib.hid (show Fr (PI w0.heap.size) w w1 from Fr.of_below hb)
  clear hb k1 k2 k3 k11 hb1 hb2
  obtain ⟨⟨k1, k2, k3⟩, _, k11, _, hb1, hb2⟩ := HX1.out.cells
  rcases HV.out with ⟨h0, rfl⟩ | ⟨h0, rfl⟩
  · clear HV k1 k2 k3 k11
    go_wp2_with (fail)
    refine (HE.out oa z _ HX1.out).mono ?_
    rintro e w2 ⟨rfl, hx, hf⟩
    have HX2 := Lib.hid hx
    have HF2 := Lib.hid (HF1.out.trans hf)
    clear hx hf
    go_wp2_with (fail)
    go_end0
    exact ⟨rfl, HX2.out, HF2.out⟩
  · clear HV
    go_wp2_with (fail)
    refine (HJ.out _ ((HP.out.v.below HX1.out.bel))).mono ?_
    rintro e w2 ⟨rfl, hb⟩
    have HX2 := Lib.hid (HX1.out.below hb)
    have HF2 := Lib.hid (HF1.out.trans (Fr.of_below hb))
    clear hb k1 k2 k3 k11
    go_wp2_with (fail)
    refine (HE.out ob z2 _ HX2.out).mono ?_
    rintro e w3 ⟨rfl, hx, hf⟩
    have HX3 := Lib.hid hx
    have HF3 := Lib.hid (HF2.out.trans hf)
    clear hx hf
    go_wp2_with (fail)
    go_end0
    exact ⟨rfl, HX3.out, HF3.out⟩
set_option maxRecDepth 100000 in
theorem c_truth (x : Bool) (w : World) : Calls Tryz.prog 136 #[.bool x] w fun e w' => e = .returned (.int .i64 (if x then 1 else 0)) ∧ w = w' := by
  cases x
  · skip
    go_enter Tryz.func136, Tryz.ntmps136
    go_wp2_with (fail)
    go_ret
    exact ⟨rfl, rfl⟩
  · skip
    go_enter Tryz.func136, Tryz.ntmps136
    go_wp2_with (fail)
    go_ret
    exact ⟨rfl, rfl⟩
theorem retX_of {w0 : World} {b : Nat} {p : Prg} {a1 a2 a3 a4 ab : Option Addr} {c1 c2 c3 c4 cb : Nat} {S S' : List Ins} {nb nb' : Nat} {w w' : World} (h1 : S' = S) (h2 : nb' = nb) (hx : ∃ A c, XS w0 w' b p a1 a2 a3 a4 ab c1 c2 c3 c4 cb A c S nb) (hf : Fr (PI w0.heap.size) w w') :
    RetX w0 b p a1 a2 a3 a4 ab c1 c2 c3 c4 cb S' nb' w (.returned (.tuple #[])) w' := by
  subst h1; subst h2
  exact ⟨rfl, hx, hf⟩
set_option maxHeartbeats 2000000 in
set_option maxRecDepth 100000 in
theorem c_term (w0 : World) (b : Nat) (p : Prg) (a1 a2 a3 a4 ab : Option Addr) (c1 c2 c3 c4 cb : Nat) (A : Option Addr) (c : Nat) (S : List Ins) (nb : Nat) (t : Tm) (w : World) (hs : PgOk p) (hk : trmT t.k t.nm t.n = true) (hS : S.length ≤ 2900) (hn : nb ≤ 2900) (hp : PgR w0 a1 a2 a3 a4 p) (h : XS w0 w b p a1 a2 a3 a4 ab c1 c2 c3 c4 cb A c S nb) :
    Calls Tryz.prog 115 #[.pointer (some ⟨b, 0, none⟩), .agg #[.int .i64 t.k, .string t.nm, .int .i64 t.n]] w (RetX w0 b p a1 a2 a3 a4 ab c1 c2 c3 c4 cb (S ++ [insT p nb t]) (nb + nbT [t]) w) := by
  obtain ⟨tk, tm, tx⟩ := t
  have hkk := trm_k hk
  dsimp only at hkk ⊢
  have hal := below_alloc (Below.refl w.heap.size w) (.cells #[.int .i64 tk, .string tm, .int .i64 tx] 109)
  have HX := Lib.hid (h.below hal)
  have HF := Lib.hid (show Fr (PI w0.heap.size) w _ from Fr.of_below hal)
  have HL := Lib.hid (fun s oa ob w h => c_load w0 b p a1 a2 a3 a4 ab c1 c2 c3 c4 cb A c S nb s oa ob w hs (by omega) hp h)
  have HE := Lib.hid (fun o a w h => c_emit w0 b p a1 a2 a3 a4 ab c1 c2 c3 c4 cb A c S nb o a w (by omega) h)
  have x0 : (w.alloc (.cells #[.int .i64 tk, .string tm, .int .i64 tx] 109)).cell? ⟨w.heap.size, 0, none⟩ = some (.int .i64 tk) := by go_simp
  have x1 : (w.alloc (.cells #[.int .i64 tk, .string tm, .int .i64 tx] 109)).cell? ⟨w.heap.size, 1, none⟩ = some (.string tm) := by go_simp
  clear hal h hk hs hp
  rcases (show tk = 1 ∨ tk = 2 ∨ tk = 3 ∨ tk = 4 ∨ tk = 5 ∨ tk = 6 ∨ 7 ≤ tk by omega) with rfl | rfl | rfl | rfl | rfl | rfl | h7
  · have HI : Hid (insT p nb ⟨1, tm, tx⟩ = nmI p tm 2 3) := Lib.hid rfl
    have HB : Hid (nb + nbT [⟨1, tm, tx⟩] = nb) := Lib.hid rfl
    go_enter Tryz.func115, Tryz.ntmps115
    go_upto_region 1 with (fail)
    generalize w.alloc (.cells #[.int .i64 1, .string tm, .int .i64 tx] 109) = W at *
    clear hkk
    go_wp2_with (fail)
    refine (HL.out tm 2 3 _ HX.out).mono ?_
    rintro e w2 ⟨rfl, hx, hf⟩
    have HX2 := Lib.hid hx
    have HF2 := Lib.hid (HF.out.trans hf)
    clear hx hf
    go_wp2_with (fail)
    go_end0
    exact retX_of (congrArg (S ++ [·]) HI.out) HB.out HX2.out HF2.out
  · have HI : Hid (insT p nb ⟨2, tm, tx⟩ = ⟨1, 1⟩) := Lib.hid rfl
    have HB : Hid (nb + nbT [⟨2, tm, tx⟩] = nb) := Lib.hid rfl
    go_enter Tryz.func115, Tryz.ntmps115
    go_upto_region 1 with (fail)
    generalize w.alloc (.cells #[.int .i64 2, .string tm, .int .i64 tx] 109) = W at *
    clear hkk
    go_wp2_with (first
      | (go_at_call 136
         refine (c_truth true _).mono ?_
         rintro e w' ⟨rfl, rfl⟩)
      )
    refine (HE.out 1 1 _ HX.out).mono ?_
    rintro e w2 ⟨rfl, hx, hf⟩
    have HX2 := Lib.hid hx
    have HF2 := Lib.hid (HF.out.trans hf)
    clear hx hf
    go_wp2_with (fail)
    go_end0
    exact retX_of (congrArg (S ++ [·]) HI.out) HB.out HX2.out HF2.out
  · have HI : Hid (insT p nb ⟨3, tm, tx⟩ = ⟨1, 0⟩) := Lib.hid rfl
    have HB : Hid (nb + nbT [⟨3, tm, tx⟩] = nb) := Lib.hid rfl
    go_enter Tryz.func115, Tryz.ntmps115
    go_upto_region 1 with (fail)
    generalize w.alloc (.cells #[.int .i64 3, .string tm, .int .i64 tx] 109) = W at *
    clear hkk
    go_wp2_with (first
      | (go_at_call 136
         refine (c_truth false _).mono ?_
         rintro e w' ⟨rfl, rfl⟩)
      )
    refine (HE.out 1 0 _ HX.out).mono ?_
    rintro e w2 ⟨rfl, hx, hf⟩
    have HX2 := Lib.hid hx
    have HF2 := Lib.hid (HF.out.trans hf)
    clear hx hf
    go_wp2_with (fail)
    go_end0
    exact retX_of (congrArg (S ++ [·]) HI.out) HB.out HX2.out HF2.out
  · have HI : Hid (insT p nb ⟨4, tm, tx⟩ = ⟨4, 0⟩) := Lib.hid rfl
    have HB : Hid (nb + nbT [⟨4, tm, tx⟩] = nb) := Lib.hid rfl
    go_enter Tryz.func115, Tryz.ntmps115
    go_upto_region 1 with (fail)
    generalize w.alloc (.cells #[.int .i64 4, .string tm, .int .i64 tx] 109) = W at *
    clear hkk
    go_wp2_with (fail)
    refine (HE.out 4 0 _ HX.out).mono ?_
    rintro e w2 ⟨rfl, hx, hf⟩
    have HX2 := Lib.hid hx
    have HF2 := Lib.hid (HF.out.trans hf)
    clear hx hf
    go_wp2_with (fail)
    go_end0
    exact retX_of (congrArg (S ++ [·]) HI.out) HB.out HX2.out HF2.out
  · have HI : Hid (insT p nb ⟨5, tm, tx⟩ = ⟨5, 0⟩) := Lib.hid rfl
    have HB : Hid (nb + nbT [⟨5, tm, tx⟩] = nb) := Lib.hid rfl
    go_enter Tryz.func115, Tryz.ntmps115
    go_upto_region 1 with (fail)
    generalize w.alloc (.cells #[.int .i64 5, .string tm, .int .i64 tx] 109) = W at *
    clear hkk
    go_wp2_with (fail)
    refine (HE.out 5 0 _ HX.out).mono ?_
    rintro e w2 ⟨rfl, hx, hf⟩
    have HX2 := Lib.hid hx
    have HF2 := Lib.hid (HF.out.trans hf)
    clear hx hf
    go_wp2_with (fail)
    go_end0
    exact retX_of (congrArg (S ++ [·]) HI.out) HB.out HX2.out HF2.out
  · have HI : Hid (insT p nb ⟨6, tm, tx⟩ = ⟨6, 0⟩) := Lib.hid rfl
    have HB : Hid (nb + nbT [⟨6, tm, tx⟩] = nb) := Lib.hid rfl
    go_enter Tryz.func115, Tryz.ntmps115
    go_upto_region 1 with (fail)
    generalize w.alloc (.cells #[.int .i64 6, .string tm, .int .i64 tx] 109) = W at *
    clear hkk
    go_wp2_with (fail)
    refine (HE.out 6 0 _ HX.out).mono ?_
    rintro e w2 ⟨rfl, hx, hf⟩
    have HX2 := Lib.hid hx
    have HF2 := Lib.hid (HF.out.trans hf)
    clear hx hf
    go_wp2_with (fail)
    go_end0
    exact retX_of (congrArg (S ++ [·]) HI.out) HB.out HX2.out HF2.out
  · have HI : Hid (insT p nb ⟨tk, tm, tx⟩ = ⟨7, (nb : Int)⟩) := Lib.hid (insT_d h7)
    have HB : Hid (nb + nbT [⟨tk, tm, tx⟩] = nb + 1) := Lib.hid (by rw [nbT_one, if_pos (show isB ⟨tk, tm, tx⟩ = true from decide_eq_true h7)])
    have e1 : (tk == 1) = false := by simp; omega
    have e2 : (tk == 2) = false := by simp; omega
    have e3 : (tk == 3) = false := by simp; omega
    have e4 : (tk == 4) = false := by simp; omega
    have e5 : (tk == 5) = false := by simp; omega
    have e6 : (tk == 6) = false := by simp; omega
    go_enter Tryz.func115, Tryz.ntmps115
    go_upto_region 1 with (fail)
    generalize w.alloc (.cells #[.int .i64 tk, .string tm, .int .i64 tx] 109) = W at *
    have hw9 : IntKind.i64.wrap ((nb : Int) + 1) = (nb : Int) + 1 := IntWalk.i64_in _ (by omega)
    obtain ⟨_, _, k11, ⟨_, f11⟩, hb1, hb2⟩ := HX.out.cells
    clear hkk h7
    go_wp2_with (fail)
    refine (HE.out 7 nb _ HX.out).mono ?_
    rintro e w2 ⟨rfl, ⟨A9, c9, hx⟩, hf⟩
    have HX2 := Lib.hid (hx.count (nb + 1))
    have HF2 := Lib.hid (HF.out.trans (hf.trans HX2.out.2))
    clear k11 f11 hb1 hb2
    obtain ⟨_, _, k11, ⟨_, f11⟩, hb1, hb2⟩ := hx.cells
    clear hx hf
    go_wp2_with (fail)
    go_end0
    exact retX_of (congrArg (S ++ [·]) HI.out) HB.out ⟨_, _, HX2.out.1⟩ HF2.out
theorem Fr.obj {P : Nat → Obj → Prop} {w a : World} (h : Fr P w a) {k : Nat} {o : Obj} (hk : w.heap[k]? = some o) (hp : ¬ P k o) : a.heap[k]? = some o := (h.blk k o hk).elim id (fun e => absurd e hp)
theorem pi_no {base k : Nat} {cur : Array Value} {e : TypeId} {fz : Nat × Nat} (h1 : e ≠ 118) (h2 : e ≠ 107) : ¬ PI base k (.cells cur e fz) := by
  rintro ⟨_, c, f, h | h⟩
  · simp only [Obj.cells.injEq] at h; exact h1 h.2.1
  · simp only [Obj.cells.injEq] at h; exact h2 h.2.1
theorem cell_obj {w : World} {k j : Nat} {cur : Array Value} {e : TypeId} {v : Value} (h : w.heap[k]? = some (.cells cur e (0, 0))) (hv : cur[j]? = some v) : w.cell? ⟨k, j, none⟩ = some v := by
  unfold World.cell?
  rw [h]
  exact hv
set_option maxHeartbeats 2000000 in
set_option maxRecDepth 100000 in
theorem c_line (w0 : World) (b : Nat) (p : Prg) (a1 a2 a3 a4 ab : Option Addr) (c1 c2 c3 c4 cb : Nat) (A : Option Addr) (c : Nat) (S : List Ins) (nb : Nat) (tg : ByteArray) (ts : List Tm) (la : Option Addr) (lc : Nat) (w : World) (hs : PgOk p) (hk : ∀ t ∈ ts, trmT t.k t.nm t.n = true) (hts : ts.length ≤ 40) (hS : S.length ≤ 2000) (hn : nb ≤ 2000) (hp : PgR w0 a1 a2 a3 a4 p) (hr : Rd w0 la (tmCells ts)) (h : XS w0 w b p a1 a2 a3 a4 ab c1 c2 c3 c4 cb A c S nb) :
    Calls Tryz.prog 79 #[.pointer (some ⟨b, 0, none⟩), .agg #[.string tg, .slice la ts.length lc]] w (RetX w0 b p a1 a2 a3 a4 ab c1 c2 c3 c4 cb (S ++ csL p nb ⟨tg, ts⟩) (nb + nbT ts) w) := by
  have hal := below_alloc (Below.refl w.heap.size w) (.cells #[.string tg, .slice la ts.length lc] 93)
  have HX := Lib.hid (h.below hal)
  have HF := Lib.hid (show Fr (PI w0.heap.size) w _ from Fr.of_below hal)
  have HP := Lib.hid hp
  have HR := Lib.hid hr
  have HK := Lib.hid hk
  have HT := Lib.hid (fun A c S nb t w hk hS hn h => c_term w0 b p a1 a2 a3 a4 ab c1 c2 c3 c4 cb A c S nb t w hs hk hS hn hp h)
  have HE := Lib.hid (fun A c S nb o a w hS h => c_emit w0 b p a1 a2 a3 a4 ab c1 c2 c3 c4 cb A c S nb o a w hS h)
  have HI := Lib.hid (fun w h => c_IndexS a2 c2 _ p.vs tg w rfl hs.v.1 h)
  have HJ := Lib.hid (fun w h => c_IndexS a3 c3 _ p.os tg w rfl hs.o.1 h)
  have HO : Hid ((w.alloc (.cells #[.string tg, .slice la ts.length lc] 93)).heap[w.heap.size]? = some (.cells #[.string tg, .slice la ts.length lc] 93 (0, 0))) := Lib.hid (Go.MapKept.heap_alloc w _).1
  have hcl : S.length + (csT p nb ts).length ≤ 2040 := by rw [csT_len]; omega
  have hnt := nbT_le ts
  have HV : Hid (0 ≤ ixS p.vs tg ∧ tgI p tg = ⟨8, ixS p.vs tg⟩ ∨ ixS p.vs tg < 0 ∧ tgI p tg = ⟨9, ixS p.os tg⟩) := Lib.hid (by
    by_cases h0 : 0 ≤ ixS p.vs tg
    · exact .inl ⟨h0, tgI_v h0⟩
    · exact .inr ⟨by omega, tgI_o (by omega)⟩)
  have HL : Hid (csL p nb ⟨tg, ts⟩ = csT p nb ts ++ [tgI p tg]) := Lib.hid rfl
  generalize csL p nb ⟨tg, ts⟩ = LL at *
  generalize tgI p tg = TG at *
  generalize ixS p.vs tg = z at *
  generalize ixS p.os tg = z2 at *
  clear hal h hs hp hr hk
  go_enter Tryz.func79, Tryz.ntmps79
  go_upto_region 1 with (fail)
  generalize w.alloc (.cells #[.string tg, .slice la ts.length lc] 93) = W at *
  have x0 := cell_obj (j := 0) HO.out rfl
  have x1 := cell_obj (j := 1) HO.out rfl
  go_wp2_with (fail)
  go_loopw [5, 10] (fun _ i wr => ∃ q : Nat, q ≤ ts.length ∧ i = .int .i64 q ∧ Hid (∃ A c, XS w0 wr b p a1 a2 a3 a4 ab c1 c2 c3 c4 cb A c (S ++ csT p nb (ts.take q)) (nb + nbT (ts.take q))) ∧ Hid (Fr (PI w0.heap.size) W wr)) (fun _ i _ => ts.length - (intOf i).toNat)
  case atStart => exact ⟨0, Nat.zero_le _, rfl, Lib.hid ⟨A, c, by simpa [csT, nbT] using HX.out⟩, Lib.hid (Fr.refl _ _)⟩
  case round =>
    obtain ⟨q, hq, rfl, hx, hf⟩ := hrel
    clear x0 x1
    obtain ⟨A1, cc1, hx1⟩ := hx.out
    have HX1 := Lib.hid hx1
    clear hx hx1
    have hcq : (csT p nb (ts.take q)).length = min q ts.length := by rw [csT_len, List.length_take]
    have hnq := nbT_le (ts.take q)
    rw [List.length_take] at hnq
    by_cases hlt : q < ts.length
    · obtain ⟨⟨tk, tm, tx⟩, hz⟩ : ∃ z, ts[q]? = some z := ⟨_, List.getElem?_eq_getElem hlt⟩
      obtain ⟨b2, o2, rfl, _, m0, m1, m2⟩ := (HR.out.below HX1.out.bel).tm hz
      dsimp only at m0 m1 m2
      have HST := Lib.hid (csT_step (p := p) (b := nb) hz)
      have HNT := Lib.hid (show nbT (ts.take (q + 1)) = nbT (ts.take q) + nbT [⟨tk, tm, tx⟩] by rw [nbT_step hz, nbT_one])
      have HKT := Lib.hid (HK.out _ (List.mem_of_getElem? hz))
      have hq0 : (0 : Int) ≤ (q : Int) := by omega
      have hq1 : (q : Int) < ts.length := by omega
      have hal := below_alloc (Below.refl wr.heap.size wr) (.cells #[.int .i64 tk, .string tm, .int .i64 tx] 109)
      have HX2 := Lib.hid (HX1.out.below hal)
      have HF2 := Lib.hid (hf.out.trans (Fr.of_below hal))
      have hlen1 : (S ++ csT p nb (ts.take q)).length ≤ 2900 := by rw [List.length_append]; omega
      have HL1 := Lib.hid hlen1
      clear hz hal hf hlen1 HX1 hcq
      go_wp2_with (fail)
      refine (HT.out _ _ _ _ ⟨tk, tm, tx⟩ _ HKT.out HL1.out (by omega) HX2.out).mono ?_
      rintro e w3 ⟨rfl, hx, hf⟩
      have HX3 := Lib.hid hx
      have HF3 := Lib.hid (HF2.out.trans hf)
      clear hx hf m0 m1 m2
      go_wp2_with (fail)
      go_roundw
      case rel => exact ⟨q + 1, by omega, by go_num, Lib.hid (by rw [HST.out, HNT.out, ← List.append_assoc, ← Nat.add_assoc]; exact HX3.out), HF3⟩
      case measure => simp [intOf]; omega
    · obtain rfl : q = ts.length := by omega
      rw [List.take_length] at HX1
      clear hcq hnq
      have HO1 := Lib.hid (hf.out.obj HO.out (pi_no (by decide) (by decide)))
      have x0 := cell_obj (j := 0) HO1.out rfl
      have x1 := cell_obj (j := 1) HO1.out rfl
      have HF1 := Lib.hid (HF.out.trans hf.out)
      obtain ⟨⟨k1, k2, k3⟩, _, k11, _, hb1, hb2⟩ := HX1.out.cells
      have hl9 : (S ++ csT p nb ts).length ≤ 3000 := by rw [List.length_append]; omega
      have HL9 := Lib.hid hl9
      have HLL : Hid (S ++ LL = (S ++ csT p nb ts) ++ [TG]) := Lib.hid (by rw [HL.out, List.append_assoc])
      generalize S ++ csT p nb ts = S9 at *
      clear hf hl9 k1 k11
      go_wp2_with (fail)
      refine wp_region_held_drew (S := (fun w' => (w'.cell? ⟨b, 2, none⟩ = some (.slice a2 p.vs.length c2) ∧ w'.cell? ⟨b, 3, none⟩ = some (.slice a3 p.os.length c3)) ∧ w'.cell? ⟨w.heap.size, 0, none⟩ = some (.string tg))) (by kernel_rfl) ?_ (fun hHeld => ?_)
      · exact ⟨⟨k2, k3⟩, x0⟩
      refine rg_take (v := ?_) 0 rfl (by kernel_rfl) (by kernel_rfl) (by kernel_rfl) (fun _ _ _ h => h) (by kernel_rfl) ?_ (by assumption) ?_
      rotate_left
      · (intro w' hSw; (try dsimp only at hSw); go_simp; first | done | with_reducible rfl)
      simp only [Act.put, List.setIfInBounds_toArray, List.set_cons_zero, List.set_cons_succ]
      refine rg_take (v := ?_) 1 rfl (by kernel_rfl) (by kernel_rfl) (by kernel_rfl) (fun _ _ _ h => h) (by kernel_rfl) ?_ (by assumption) ?_
      rotate_left
      · (intro w' hSw; (try dsimp only at hSw); go_simp; first | done | with_reducible rfl)
      simp only [Act.put, List.setIfInBounds_toArray, List.set_cons_zero, List.set_cons_succ]
      refine rg_take (v := ?_) 2 rfl (by kernel_rfl) (by kernel_rfl) (by kernel_rfl) (fun _ _ _ h => h) (by kernel_rfl) ?_ (by assumption) ?_
      rotate_left
      · (intro w' hSw; (try dsimp only at hSw); go_simp; first | done | with_reducible rfl)
      simp only [Act.put, List.setIfInBounds_toArray, List.set_cons_zero, List.set_cons_succ]
      refine rg_take (v := ?_) 3 rfl (by kernel_rfl) (by kernel_rfl) (by kernel_rfl) (fun _ _ _ h => h) (by kernel_rfl) ?_ (by assumption) ?_
      rotate_left
      · (intro w' hSw; (try dsimp only at hSw); go_simp; first | done | with_reducible rfl)
      simp only [Act.put, List.setIfInBounds_toArray, List.set_cons_zero, List.set_cons_succ]
      refine rg_take (v := ?_) 4 rfl (by kernel_rfl) (by kernel_rfl) (by kernel_rfl) (fun _ _ _ h => h) (by kernel_rfl) ?_ (by assumption) ?_
      rotate_left
      · (intro w' hSw; (try dsimp only at hSw); go_simp; first | done | with_reducible rfl)
      simp only [Act.put, List.setIfInBounds_toArray, List.set_cons_zero, List.set_cons_succ]
      refine rg_take (v := ?_) 5 rfl (by kernel_rfl) (by kernel_rfl) (by kernel_rfl) (fun _ _ _ h => h) (by kernel_rfl) ?_ (by assumption) ?_
      rotate_left
      · (intro w' hSw; (try dsimp only at hSw); go_simp; first | done | with_reducible rfl)
      simp only [Act.put, List.setIfInBounds_toArray, List.set_cons_zero, List.set_cons_succ]
      refine rg_take (v := ?_) 6 rfl (by kernel_rfl) (by kernel_rfl) (by kernel_rfl) (fun _ _ _ h => h) (by kernel_rfl) ?_ (by assumption) ?_
      rotate_left
      · (intro w' hSw; (try dsimp only at hSw); go_simp; first | done | with_reducible rfl)
      simp only [Act.put, List.setIfInBounds_toArray, List.set_cons_zero, List.set_cons_succ]
      refine rg_run 7 rfl (by kernel_rfl) (by kernel_rfl) (fun K hK => ?_)
      go_simp
      refine (HI.out _ ((HP.out.v.below HX1.out.bel).below (Below.refl _ _).drew)).mono ?_
      rintro e w5 ⟨rfl, hb5⟩
      have hbs : Below wr.heap.size wr w5 := below_chain (Below.refl _ _).drew hb5
      have HX5 := Lib.hid (HX1.out.below hbs)
      have HF5 := Lib.hid (HF1.out.trans (Fr.of_below hbs))
      replace k2 := cell_later hbs (by exact k2)
      replace k3 := cell_later hbs (by exact k3)
      replace x0 := cell_later hbs (by exact x0)
      clear hbs hb5
      go_wp2
      clear hHeld
      refine hK.out _ _ (by exact ⟨⟨k2, k3⟩, x0⟩) (fun hHeld => ?_)
      clear hK K
      try simp only [Act.put, List.setIfInBounds_toArray, List.set_cons_zero, List.set_cons_succ]
      refine rg_take (v := ?_) 8 rfl (by kernel_rfl) (by kernel_rfl) (by kernel_rfl) (fun _ _ _ h => h) (by kernel_rfl) ?_ (by assumption) ?_
      rotate_left
      · (intro w' hSw; (try dsimp only at hSw); go_simp; first | done | with_reducible rfl)
      simp only [Act.put, List.setIfInBounds_toArray, List.set_cons_zero, List.set_cons_succ]
      refine wpAnyH_done (by kernel_rfl) ?_ _
      clear hHeld
      rcases HV.out with ⟨h0, rfl⟩ | ⟨h0, rfl⟩
      · clear HV k2 k3 x0 x1
        go_wp2_with (fail)
        refine (HE.out _ _ _ _ 8 z _ HL9.out HX5.out).mono ?_
        rintro e w6 ⟨rfl, hx, hf⟩
        have HX6 := Lib.hid hx
        have HF6 := Lib.hid (HF5.out.trans hf)
        clear hx hf
        go_wp2_with (fail)
        go_end0
        exact retX_of HLL.out rfl HX6.out HF6.out
      · clear HV x1
        go_wp2_with (fail)
        refine wp_region_heldE 9 (S := (fun w' => (w'.cell? ⟨b, 2, none⟩ = some (.slice a2 p.vs.length c2) ∧ w'.cell? ⟨b, 3, none⟩ = some (.slice a3 p.os.length c3)) ∧ w'.cell? ⟨w.heap.size, 0, none⟩ = some (.string tg))) (by kernel_rfl) ?_ (fun hHeld => ?_)
        · exact ⟨⟨k2, k3⟩, x0⟩
        refine rgE_take (v := ?_) 0 12 rfl (by kernel_rfl) (by kernel_rfl) (by kernel_rfl) (by kernel_rfl) (by kernel_rfl) (fun _ _ _ h => h) (by kernel_rfl) ?_ (by assumption) ?_
        rotate_left
        · (intro w' hSw; (try dsimp only at hSw); go_simp; first | done | with_reducible rfl)
        simp only [Act.put, List.setIfInBounds_toArray, List.set_cons_zero, List.set_cons_succ]
        refine rgE_take (v := ?_) 1 12 rfl (by kernel_rfl) (by kernel_rfl) (by kernel_rfl) (by kernel_rfl) (by kernel_rfl) (fun _ _ _ h => h) (by kernel_rfl) ?_ (by assumption) ?_
        rotate_left
        · (intro w' hSw; (try dsimp only at hSw); go_simp; first | done | with_reducible rfl)
        simp only [Act.put, List.setIfInBounds_toArray, List.set_cons_zero, List.set_cons_succ]
        refine rgE_take (v := ?_) 2 12 rfl (by kernel_rfl) (by kernel_rfl) (by kernel_rfl) (by kernel_rfl) (by kernel_rfl) (fun _ _ _ h => h) (by kernel_rfl) ?_ (by assumption) ?_
        rotate_left
        · (intro w' hSw; (try dsimp only at hSw); go_simp; first | done | with_reducible rfl)
        simp only [Act.put, List.setIfInBounds_toArray, List.set_cons_zero, List.set_cons_succ]
        refine rgE_take (v := ?_) 3 12 rfl (by kernel_rfl) (by kernel_rfl) (by kernel_rfl) (by kernel_rfl) (by kernel_rfl) (fun _ _ _ h => h) (by kernel_rfl) ?_ (by assumption) ?_
        rotate_left
        · (intro w' hSw; (try dsimp only at hSw); go_simp; first | done | with_reducible rfl)
        simp only [Act.put, List.setIfInBounds_toArray, List.set_cons_zero, List.set_cons_succ]
        refine rgE_take (v := ?_) 4 12 rfl (by kernel_rfl) (by kernel_rfl) (by kernel_rfl) (by kernel_rfl) (by kernel_rfl) (fun _ _ _ h => h) (by kernel_rfl) ?_ (by assumption) ?_
        rotate_left
        · (intro w' hSw; (try dsimp only at hSw); go_simp; first | done | with_reducible rfl)
        simp only [Act.put, List.setIfInBounds_toArray, List.set_cons_zero, List.set_cons_succ]
        refine rgE_take (v := ?_) 5 12 rfl (by kernel_rfl) (by kernel_rfl) (by kernel_rfl) (by kernel_rfl) (by kernel_rfl) (fun _ _ _ h => h) (by kernel_rfl) ?_ (by assumption) ?_
        rotate_left
        · (intro w' hSw; (try dsimp only at hSw); go_simp; first | done | with_reducible rfl)
        simp only [Act.put, List.setIfInBounds_toArray, List.set_cons_zero, List.set_cons_succ]
        refine rgE_take (v := ?_) 6 12 rfl (by kernel_rfl) (by kernel_rfl) (by kernel_rfl) (by kernel_rfl) (by kernel_rfl) (fun _ _ _ h => h) (by kernel_rfl) ?_ (by assumption) ?_
        rotate_left
        · (intro w' hSw; (try dsimp only at hSw); go_simp; first | done | with_reducible rfl)
        simp only [Act.put, List.setIfInBounds_toArray, List.set_cons_zero, List.set_cons_succ]
        refine rgE_take (v := ?_) 7 12 rfl (by kernel_rfl) (by kernel_rfl) (by kernel_rfl) (by kernel_rfl) (by kernel_rfl) (fun _ _ _ h => h) (by kernel_rfl) ?_ (by assumption) ?_
        rotate_left
        · (intro w' hSw; (try dsimp only at hSw); go_simp; first | done | with_reducible rfl)
        simp only [Act.put, List.setIfInBounds_toArray, List.set_cons_zero, List.set_cons_succ]
        refine rgE_run 8 rfl (by kernel_rfl) (by kernel_rfl) (by decide) (fun K hK => ?_)
        go_simp
        refine (HJ.out _ ((HP.out.o.below HX5.out.bel).below (Below.refl _ _).drew)).mono ?_
        rintro e w6 ⟨rfl, hb6⟩
        have hbs : Below w5.heap.size w5 w6 := below_chain (Below.refl _ _).drew hb6
        have HX6 := Lib.hid (HX5.out.below hbs)
        have HF6 := Lib.hid (HF5.out.trans (Fr.of_below hbs))
        replace k2 := cell_later hbs (by exact k2)
        replace k3 := cell_later hbs (by exact k3)
        replace x0 := cell_later hbs (by exact x0)
        clear hbs hb6
        go_wp2
        clear hHeld
        refine hK.out _ _ (.inr (by exact ⟨⟨k2, k3⟩, x0⟩)) (fun hHeld => ?_)
        clear hK K
        try simp only [Act.put, List.setIfInBounds_toArray, List.set_cons_zero, List.set_cons_succ]
        refine rgE_last rfl (by kernel_rfl) (by kernel_rfl) (by kernel_rfl) (fun K hK => ?_)
        go_simp
        refine (HE.out _ _ _ _ 9 z2 _ HL9.out HX6.out).mono ?_
        rintro e w7 ⟨rfl, hx, hf⟩
        have HX7 := Lib.hid hx
        have HF7 := Lib.hid (HF6.out.trans hf)
        clear hx hf k2 k3 x0
        go_wp2
        clear hHeld
        refine hK.out _ _ ?_
        clear hK K
        try simp only [Act.put, List.setIfInBounds_toArray, List.set_cons_zero, List.set_cons_succ]
        go_wp2_with (fail)
        go_end0
        exact retX_of HLL.out rfl HX7.out HF7.out
end Go.Proofs.YtackekfjalaacaaGreatDoor
