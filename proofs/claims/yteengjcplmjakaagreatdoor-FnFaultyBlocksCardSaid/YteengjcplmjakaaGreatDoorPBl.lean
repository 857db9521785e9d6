/- The blocks of a program on both sides (printed by PBl.py). Condition: the program is written. -/
import Derived.Test.YteengjcplmjakaaGreatDoorPGb
namespace Go.Proofs.YteengjcplmjakaaGreatDoor
open Go.RowKit

theorem wpList_push_tm (w : World) {ops : Array Oper} {rest : List Oper} {o : Oper} {a : Act} {Q : Exit → Act → World → Prop} (hgd : o.guard = none) (s x : Operand)
    (ho : o.op = .call { callee := .builtin .append, args := #[s, x], argTypes := #[32, 32] })
    (base : Nat) (v : Value) (n : Nat) (l : List Tm) (t : Tm) (g c : Nat) (hs : a.eval s = v) (hown : w.ownsRow base 60 3 v n (tmCells l))
    (hx : a.eval x = .slice (some ⟨g, 0, none⟩) 1 c) (h0 : w.cell? ⟨g, 0, none⟩ = some (.int .i64 t.k)) (h1 : w.cell? ⟨g, 1, none⟩ = some (.string t.nm)) (h2 : w.cell? ⟨g, 2, none⟩ = some (.int .i64 t.n)) (hn : n ≤ 1048577) (hbase : base ≤ w.heap.size)
    (h : ∀ v' w', w'.ownsRow base 60 3 v' (n + 1) (tmCells (l ++ [t])) → w.grownBy w' v.ownBlock → wpList Tryz.prog ops Q rest (a.put o.dst v') w') : wpList Tryz.prog ops Q (o :: rest) a w := by
  obtain ⟨i0, hi, hz0, hz1, hz2⟩ := info_parts info_iTerm
  refine wpList_push w hgd s x 32 ho base 60 i0 _ 3 32 Tryz.underlying32 hi hz0 hz1 hz2 rfl (by decide) v n (tmCells l) hs hown ⟨g, 0, none⟩ c t.cells hx rfl ?_ ?_ (by unfold maxLen; omega) (by omega) hbase ?_
  · intro j u hu
    match j, hu with
    | 0, hu => simp only [Tm.cells, List.getElem?_cons_zero, Option.some.injEq] at hu; rw [← hu]; simpa [Addr.add] using h0
    | 1, hu => simp only [Tm.cells, List.getElem?_cons_succ, List.getElem?_cons_zero, Option.some.injEq] at hu; rw [← hu]; simpa [Addr.add] using h1
    | 2, hu => simp only [Tm.cells, List.getElem?_cons_succ, List.getElem?_cons_zero, Option.some.injEq] at hu; rw [← hu]; simpa [Addr.add] using h2
  · intro u hu
    simp only [Tm.cells, List.mem_cons, List.not_mem_nil, or_false] at hu
    rcases hu with rfl | rfl | rfl <;> rfl
  · intro v' w' hown1 hgrow _ _
    refine h v' w' ?_ hgrow
    have e : tmCells (l ++ [t]) = tmCells l ++ t.cells := by simp [tmCells]
    rw [e]
    exact hown1
def isB (t : Tm) : Bool := decide (7 ≤ t.k)
def blkL (l : Lin) : List Tm := l.ts.filter isB
/-- The blocks of a program, in their order. -/
def blk (p : Prg) : List Tm := p.ls.flatMap blkL
theorem flat_snoc {l : List Lin} {k : Nat} {t : Lin} (h : l[k]? = some t) : (l.take (k + 1)).flatMap blkL = (l.take k).flatMap blkL ++ blkL t := by
  rw [List.take_add_one, h, List.flatMap_append]; simp
theorem filt_snoc {l : List Tm} {k : Nat} {t : Tm} (h : l[k]? = some t) : (l.take (k + 1)).filter isB = (l.take k).filter isB ++ (if isB t then [t] else []) := by
  rw [List.take_add_one, h, List.filter_append]
  congr 1
  show [t].filter isB = _
  rw [List.filter_cons]
  cases hb : isB t <;> simp
/-- What is handed back is a list of terms of the call's own. -/
def RetTms (l : List Tm) (w : World) (e : Ending) (w' : World) : Prop := ∃ A c, e = .returned (.slice A l.length c) ∧ w'.ownsRow w.heap.size 60 3 (.slice A l.length c) l.length (tmCells l) ∧ Below w.heap.size w w'
theorem retTms {l l' : List Tm} {n : Nat} {w w' : World} {A : Option Addr} {c : Nat} (h : l = l') (hn : n = l'.length) (ho : w'.ownsRow w.heap.size 60 3 (.slice A n c) n (tmCells l')) (hb : Below w.heap.size w w') : RetTms l w (.returned (.slice A n c)) w' := by
  subst h; subst hn; exact ⟨A, c, rfl, ho, hb⟩
set_option maxHeartbeats 2000000 in
set_option maxRecDepth 100000 in
theorem c_l14Blocks (p : Prg) (a1 a2 a3 a4 : Option Addr) (c1 c2 c3 c4 : Nat) (w : World) (hbd : PgB p) (h : PgR w a1 a2 a3 a4 p) :
    Calls Tryz.prog 63 #[pv p a1 a2 a3 a4 c1 c2 c3 c4] w (RetTms (blk p) w) := by
  have HV : Hid (blk p = p.ls.flatMap blkL) := Lib.hid rfl
  obtain ⟨nm, ins, vs, os, gd, ls⟩ := p
  have bl := hbd.l
  have BT := Lib.hid hbd.t
  have HL := Lib.hid h.l
  dsimp only at bl HV HL
  generalize blk ⟨nm, ins, vs, os, gd, ls⟩ = R at *
  have B0 := Lib.hid (below_alloc (Below.refl w.heap.size w) (.cells #[.string nm, .slice a1 ins.length c1, .slice a2 vs.length c2, .slice a3 os.length c3, .string gd, .slice a4 ls.length c4] 27))
  have k5 : (w.alloc (.cells #[.string nm, .slice a1 ins.length c1, .slice a2 vs.length c2, .slice a3 os.length c3, .string gd, .slice a4 ls.length c4] 27)).cell? ⟨w.heap.size, 5, none⟩ = some (.slice a4 ls.length c4) := by go_simp
  have K5 := Lib.hid k5
  clear hbd h k5
  dsimp only [pv]
  go_enter Tryz.func63, Tryz.ntmps63
  go_upto_region 1 with (fail)
  generalize w.alloc (.cells #[.string nm, .slice a1 ins.length c1, .slice a2 vs.length c2, .slice a3 os.length c3, .string gd, .slice a4 ls.length c4] 27) = W at *
  have HO0 : Hid ((W.alloc (.cells #[] 60)).ownsRow W.heap.size 60 3 (.slice (some ⟨W.heap.size, 0, none⟩) 0 0) 0 (tmCells ((ls.take 0).flatMap blkL))) := Lib.hid (by
    have h := World.ownsRow_lit (e := 60) (size := 3) (base := W.heap.size) W #[] 0 (Nat.le_refl _) (by decide) (by simp)
    simpa [tmCells] using h)
  have BE := Lib.hid (below_alloc (Below.refl W.heap.size W) (.cells #[] 60))
  generalize hln : ls.length = ln at *
  have HLEN := Lib.hid hln
  clear hln
  go_wp2_with (fail)
  go_loopw [3, 4, 5] (fun u i _ wr => ∃ (k n : Nat) (A3 : Option Addr) (c3 : Nat), k ≤ ln ∧ n ≤ 40 * k ∧ i = .int .i64 k ∧ u = .slice A3 n c3 ∧ Hid (((ls.take k).flatMap blkL).length = n) ∧ Hid (wr.ownsRow W.heap.size 60 3 (.slice A3 n c3) n (tmCells ((ls.take k).flatMap blkL))) ∧ Hid (Below W.heap.size W wr)) (fun _ i _ _ => ln - (intOf i).toNat)
  case atStart => exact ⟨0, 0, _, _, Nat.zero_le _, by omega, rfl, rfl, Lib.hid rfl, HO0, BE⟩
  case round =>
    obtain ⟨k, n, A3, C3, hk, hn, rfl, rfl, hl3, ho, hb⟩ := hrel
    clear HO0 BE
    have k5 := cell_later hb.out K5.out
    by_cases hlt : k < ln
    · obtain ⟨⟨tg, ts⟩, hz⟩ : ∃ z, ls[k]? = some z := ⟨_, List.getElem?_eq_getElem (by have := HLEN.out; omega)⟩
      have htl := BT.out _ (List.mem_of_getElem? hz)
      dsimp only at htl
      have HFS := Lib.hid (flat_snoc hz)
      have HZ := Lib.hid hz
      have hk0 : (0 : Int) ≤ (k : Int) := by omega
      have hk1 : (k : Int) < ln := by omega
      clear hz
      go_wp2_with (fail)
      go_loopw [3, 5] (fun u i wq => ∃ (q n2 : Nat) (A3 : Option Addr) (c3 : Nat), q ≤ ts.length ∧ n2 ≤ 40 * k + q ∧ i = .int .i64 q ∧ u = .slice A3 n2 c3 ∧ Hid (((ls.take k).flatMap blkL ++ (ts.take q).filter isB).length = n2) ∧ Hid (wq.ownsRow W.heap.size 60 3 (.slice A3 n2 c3) n2 (tmCells ((ls.take k).flatMap blkL ++ (ts.take q).filter isB))) ∧ Hid (Below W.heap.size W wq)) (fun _ i _ => ts.length - (intOf i).toNat)
      case atStart => exact ⟨0, n, A3, C3, Nat.zero_le _, by omega, rfl, rfl, Lib.hid (by simpa using hl3.out), Lib.hid (by simpa using ho.out), hb⟩
      case round =>
        obtain ⟨q, n2, A3, C3, hq, hn2, rfl, rfl, hl3, ho, hb⟩ := hrel
        clear k5
        have k5 := cell_later hb.out K5.out
        obtain ⟨b, off, la, lc, rfl, _, g0, g1, hrow⟩ := (HL.out.below (below_chain B0.out hb.out)).at HZ.out
        dsimp only at g1 hrow
        by_cases hlt2 : q < ts.length
        · obtain ⟨⟨tk, tn, tx⟩, hz2⟩ : ∃ z, ts[q]? = some z := ⟨_, List.getElem?_eq_getElem hlt2⟩
          obtain ⟨b2, o2, rfl, _, m0, m1, m2⟩ := hrow.tm hz2
          dsimp only at m0 m1 m2
          have hq0 : (0 : Int) ≤ (q : Int) := by omega
          have hq1 : (q : Int) < ts.length := by omega
          have HFL := Lib.hid (filt_snoc hz2)
          clear hz2 hrow g0
          by_cases h7 : (7 : Int) ≤ tk
          · have HIB : Hid (isB ⟨tk, tn, tx⟩ = true) := Lib.hid (decide_eq_true h7)
            rw [HIB.out] at HFL
            have HB1 := Lib.hid (below_alloc hb.out (.cells #[.int .i64 tk, .string tn, .int .i64 tx] 60))
            go_wp2_with (first
              | (at_builtin
                 refine wpList_push_tm _ rfl (.tmp 36) (.tmp 46) rfl W.heap.size _ n2 _ ⟨tk, tn, tx⟩ wr.heap.size 1 rfl (own_below ho.out (below_alloc (Below.refl _ _) _)) rfl (by go_simp) (by go_simp) (by go_simp) (by omega) HB1.out.size ?_
                 intro v7 w7 hown hgrow
                 obtain ⟨A9, c9, rfl⟩ := own_shape hown
                 have HB7 := Lib.hid (below_of_grown HB1.out hgrow (fun q hq => (ho.out.lt q hq).1))
                 have HO7 := Lib.hid hown
                 clear hown hgrow)
              )
            go_roundw
            case rel => exact ⟨q + 1, n2 + 1, A9, c9, by omega, by omega, by go_num, rfl, Lib.hid (by rw [HFL.out, ← List.append_assoc, List.length_append, hl3.out]; rfl), Lib.hid (by rw [HFL.out, ← List.append_assoc]; exact HO7.out), HB7⟩
            case measure => simp [intOf]; omega
          · have HIB : Hid (isB ⟨tk, tn, tx⟩ = false) := Lib.hid (decide_eq_false h7)
            rw [HIB.out] at HFL
            have h7b : tk < 7 := by omega
            clear h7
            go_wp2_with (fail)
            go_roundw
            case rel => exact ⟨q + 1, n2, A3, C3, by omega, by omega, by go_num, rfl, Lib.hid (by rw [HFL.out]; simpa using hl3.out), Lib.hid (by rw [HFL.out]; simpa using ho.out), hb⟩
            case measure => simp [intOf]; omega
        · obtain rfl : q = ts.length := by omega
          have hts : ts.take ts.length = ts := List.take_length
          have HL4 : Hid (((ls.take (k + 1)).flatMap blkL).length = n2) := Lib.hid (by rw [HFS.out]; have := hl3.out; rw [hts] at this; exact this)
          have HO4 : Hid (wr.ownsRow W.heap.size 60 3 (.slice A3 n2 C3) n2 (tmCells ((ls.take (k + 1)).flatMap blkL))) := Lib.hid (by rw [HFS.out]; have := ho.out; rw [hts] at this; exact this)
          clear hts hrow
          go_wp2_with (fail)
          go_roundw
          case rel => exact ⟨k + 1, n2, A3, C3, by omega, by omega, by go_num, rfl, HL4, HO4, hb⟩
          case measure => simp [intOf]; omega
    · obtain rfl : k = ln := by omega
      have htk : ls.take k = ls := List.take_of_length_le (by have := HLEN.out; omega)
      have HO4 := ho.out
      have HL4 := hl3.out
      rw [htk] at HO4 HL4
      have HOF := Lib.hid HO4
      have HLF := Lib.hid HL4
      clear HO4 HL4 htk
      go_wp2_with (fail)
      go_ret
      exact retTms HV.out HLF.out.symm (own_mono HOF.out B0.out.size) (below_chain B0.out hb.out)
end Go.Proofs.YteengjcplmjakaaGreatDoor
