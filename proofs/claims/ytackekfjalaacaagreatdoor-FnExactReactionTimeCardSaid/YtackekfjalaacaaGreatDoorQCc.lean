/- The reference's l17Compile (printed by QCc.py). Condition: the program is sound; the lengths. -/
import Derived.Test.YtackekfjalaacaaGreatDoorQCs
import Derived.Test.YtackekfjalaacaaGreatDoorQCp
import Derived.Test.YtackekfjalaacaaGreatDoorRgE
namespace Go.Proofs.YtackekfjalaacaaGreatDoor
open Go.RowKit

/-- The box of a code that is handed back. -/
def CRB (w : World) (b : Nat) : Prop := (w.cell? ⟨b, 0, none⟩ = some (.int .i64 0) ∧ w.cell? ⟨b, 1, none⟩ = some (.int .i64 0) ∧ w.cell? ⟨b, 2, none⟩ = some (.int .i64 0) ∧ w.cell? ⟨b, 3, none⟩ = some (.slice none 0 0) ∧ w.cell? ⟨b, 4, none⟩ = some (.slice none 0 0)) ∧
  (w.frozen? ⟨b, 0, none⟩ = false ∧ w.frozen? ⟨b, 1, none⟩ = false ∧ w.frozen? ⟨b, 2, none⟩ = false ∧ w.frozen? ⟨b, 3, none⟩ = false ∧ w.frozen? ⟨b, 4, none⟩ = false)
theorem CRB.below {w w' : World} {b : Nat} (h : CRB w b) (hb : Below w.heap.size w w') : CRB w' b := by
  have hz := World.block_lt_of_cell? _ _ h.1.1
  obtain ⟨⟨x0, x1, x2, x3, x4⟩, f0, f1, f2, f3, f4⟩ := h
  exact ⟨⟨cell_later hb x0, cell_later hb x1, cell_later hb x2, cell_later hb x3, cell_later hb x4⟩, frozen_later hb hz f0, frozen_later hb hz f1, frozen_later hb hz f2, frozen_later hb hz f3, frozen_later hb hz f4⟩
theorem own_set5 {w : World} {base : Nat} {e : TypeId} {size : Nat} {v : Value} {n : Nat} {xs : List Value} (h : w.ownsRow base e size v n xs) {b : Nat} (hb : b < base) (u0 u1 u2 u3 u4 : Value) :
    (((((w.setCell ⟨b, 0, none⟩ u0).setCell ⟨b, 1, none⟩ u1).setCell ⟨b, 2, none⟩ u2).setCell ⟨b, 3, none⟩ u3).setCell ⟨b, 4, none⟩ u4).ownsRow base e size v n xs :=
  ownsRow_setCell_below (ownsRow_setCell_below (ownsRow_setCell_below (ownsRow_setCell_below (ownsRow_setCell_below h hb _) hb _) hb _) hb _) hb _
theorem below_set5 {w a : World} (h : Below w.heap.size w a) {b : Nat} (hb : w.heap.size ≤ b) (u0 u1 u2 u3 u4 : Value) :
    Below w.heap.size w (((((a.setCell ⟨b, 0, none⟩ u0).setCell ⟨b, 1, none⟩ u1).setCell ⟨b, 2, none⟩ u2).setCell ⟨b, 3, none⟩ u3).setCell ⟨b, 4, none⟩ u4) :=
  below_set (below_set (below_set (below_set (below_set h _ hb) _ hb) _ hb) _ hb) _ hb
/-- What is handed back: a code with lists of the call's own. -/
def RetCd (c : Cd) (w : World) (e : Ending) (w' : World) : Prop :=
  ∃ A1 c1 A2 c2, e = .returned (cv c A1 A2 c1 c2) ∧ w'.ownsRow w.heap.size 109 3 (.slice A1 c.bs.length c1) c.bs.length (tmCells c.bs) ∧ w'.ownsRow w.heap.size 107 2 (.slice A2 c.ss.length c2) c.ss.length (insCells c.ss) ∧ Below w.heap.size w w'
set_option maxHeartbeats 2000000 in
set_option maxRecDepth 100000 in
theorem c_l17Compile (p : Prg) (a1 a2 a3 a4 : Option Addr) (c1 c2 c3 c4 : Nat) (w : World) (hs : PgOk p) (hd : Snd p) (h : PgR w a1 a2 a3 a4 p) :
    Calls Tryz.prog 44 #[pv p a1 a2 a3 a4 c1 c2 c3 c4] w (RetCd (cmp p) w) := by
  have H := Lib.hid h
  have HN := Lib.hid (fun s a b w h => c_l17Name p a1 a2 a3 a4 c1 c2 c3 c4 s a b w hs h)
  have HI := Lib.hid (fun s w h => c_l14Index a2 c2 _ p.vs s w rfl hs.v.1 h)
  have HJ := Lib.hid (fun s w h => c_l14Index a3 c3 _ p.os s w rfl hs.o.1 h)
  have HBL := Lib.hid (fun w h => c_l14Blocks p a1 a2 a3 a4 c1 c2 c3 c4 w hd.b h)
  have HD := Lib.hid hd
  have hi1 := hd.b.i
  have hv1 := hd.b.v
  have ho1 := hd.b.o
  have bl := hd.b.l
  have B0 := Lib.hid (below_alloc (below_alloc (Below.refl w.heap.size w) (.cells #[.string p.nm, .slice a1 p.ins.length c1, .slice a2 p.vs.length c2, .slice a3 p.os.length c3, .string p.gd, .slice a4 p.ls.length c4] 31)) (.cells #[.int .i64 0, .int .i64 0, .int .i64 0, .slice none 0 0, .slice none 0 0] 51))
  have HP : Hid (PB ((w.alloc (.cells #[.string p.nm, .slice a1 p.ins.length c1, .slice a2 p.vs.length c2, .slice a3 p.os.length c3, .string p.gd, .slice a4 p.ls.length c4] 31)).alloc (.cells #[.int .i64 0, .int .i64 0, .int .i64 0, .slice none 0 0, .slice none 0 0] 51)) w.heap.size p a1 a2 a3 a4 c1 c2 c3 c4) := Lib.hid ⟨by go_simp, by go_simp, by go_simp, by go_simp, by go_simp, by go_simp⟩
  have HX : Hid (CRB ((w.alloc (.cells #[.string p.nm, .slice a1 p.ins.length c1, .slice a2 p.vs.length c2, .slice a3 p.os.length c3, .string p.gd, .slice a4 p.ls.length c4] 31)).alloc (.cells #[.int .i64 0, .int .i64 0, .int .i64 0, .slice none 0 0, .slice none 0 0] 51)) (w.heap.size + 1)) := Lib.hid ⟨⟨by go_simp, by go_simp, by go_simp, by go_simp, by go_simp⟩, by go_simp, by go_simp, by go_simp, by go_simp, by go_simp⟩
  clear hs hd h
  dsimp only [pv]
  go_enter Tryz.func44, Tryz.ntmps44
  go_upto_region 1 with (fail)
  generalize (w.alloc (.cells #[.string p.nm, .slice a1 p.ins.length c1, .slice a2 p.vs.length c2, .slice a3 p.os.length c3, .string p.gd, .slice a4 p.ls.length c4] 31)).alloc (.cells #[.int .i64 0, .int .i64 0, .int .i64 0, .slice none 0 0, .slice none 0 0] 51) = W at *
  have HO0 : Hid ((W.alloc (.cells #[] 107)).ownsRow W.heap.size 107 2 (.slice (some ⟨W.heap.size, 0, none⟩) 0 0) 0 (insCells (csP p 0 (p.ls.take 0)))) := Lib.hid (by
    have h := World.ownsRow_lit (e := 107) (size := 2) (base := W.heap.size) W #[] 0 (Nat.le_refl _) (by decide) (by simp)
    simpa [insCells, csP] using h)
  have BE := Lib.hid (below_alloc (Below.refl W.heap.size W) (.cells #[] 107))
  go_wp2_with (fail)
  go_loopw [3, 4, 5, 6, 7, 8] (fun u bk i _ _ _ wr => ∃ (k n : Nat) (A3 : Option Addr) (c3 : Nat), k ≤ p.ls.length ∧ n ≤ 41 * k ∧ i = .int .i64 k ∧ u = .slice A3 n c3 ∧ bk = .int .i64 (nbL (p.ls.take k) : Nat) ∧ Hid ((csP p 0 (p.ls.take k)).length = n) ∧ Hid (wr.ownsRow W.heap.size 107 2 (.slice A3 n c3) n (insCells (csP p 0 (p.ls.take k)))) ∧ Hid (Below W.heap.size W wr)) (fun _ _ i _ _ _ _ => p.ls.length - (intOf i).toNat)
  case atStart => exact ⟨0, 0, _, _, Nat.zero_le _, by omega, rfl, rfl, rfl, Lib.hid rfl, HO0, BE⟩
  case round =>
    obtain ⟨k, n, A3, C3, hk, hn, rfl, rfl, rfl, hl3, ho, hb⟩ := hrel
    clear HO0 BE
    obtain ⟨k0, k1, k2, k3, k4, k5⟩ := HP.out.below hb.out
    have hnb := nbL_le HD.out.b k
    by_cases hlt : k < p.ls.length
    · obtain ⟨⟨tg, ts⟩, hz⟩ : ∃ z, p.ls[k]? = some z := ⟨_, List.getElem?_eq_getElem (by omega)⟩
      have HKD := Lib.hid (HD.out.k _ (List.mem_of_getElem? hz))
      have htl := HD.out.b.t _ (List.mem_of_getElem? hz)
      have HFS := Lib.hid (csP_step hz)
      have HNS := Lib.hid (nbL_step hz)
      obtain ⟨b, off, la, lc, rfl, hblt, g0w, g1w, hroww⟩ := H.out.l.at hz
      dsimp only at g0w g1w hroww
      have GW0 := Lib.hid g0w
      have GW1 := Lib.hid g1w
      have HROW := Lib.hid hroww
      have HLB : Hid (b < W.heap.size) := Lib.hid (Nat.lt_of_lt_of_le hblt B0.out.size)
      have g0 := cell_later (below_chain B0.out hb.out) g0w
      have g1 := cell_later (below_chain B0.out hb.out) g1w
      clear g0w g1w hroww
      have hk0 : (0 : Int) ≤ (k : Int) := by omega
      have hk1 : (k : Int) < p.ls.length := by omega
      dsimp only at htl HKD HNS
      clear hz
      generalize csP p 0 (p.ls.take k) = S0 at *
      generalize nbL (p.ls.take k) = nb0 at *
      go_wp2_with (fail)
      go_loopw [3, 4, 6, 7] (fun u bk i _ wq => ∃ (q n2 : Nat) (A3 : Option Addr) (c3 : Nat), q ≤ ts.length ∧ n2 ≤ 41 * k + q ∧ i = .int .i64 q ∧ u = .slice A3 n2 c3 ∧ bk = .int .i64 (nb0 + nbT (ts.take q) : Nat) ∧ Hid ((S0 ++ csT p nb0 (ts.take q)).length = n2) ∧ Hid (wq.ownsRow W.heap.size 107 2 (.slice A3 n2 c3) n2 (insCells (S0 ++ csT p nb0 (ts.take q)))) ∧ Hid (Below W.heap.size W wq)) (fun _ _ i _ _ => ts.length - (intOf i).toNat)
      case atStart => exact ⟨0, n, A3, C3, Nat.zero_le _, by omega, rfl, rfl, by simp [nbT], Lib.hid (by simpa [csT] using hl3.out), Lib.hid (by simpa [csT] using ho.out), hb⟩
      case round =>
        obtain ⟨q, n2, A3, C3, hq, hn2, rfl, rfl, rfl, hl3, ho, hb⟩ := hrel
        clear k0 k1 k2 k3 k4 k5 g0 g1
        obtain ⟨k0, k1, k2, k3, k4, k5⟩ := HP.out.below hb.out
        have g0 := cell_later (below_chain B0.out hb.out) GW0.out
        have g1 := cell_later (below_chain B0.out hb.out) GW1.out
        have hrow := HROW.out.below (below_chain B0.out hb.out)
        by_cases hlt2 : q < ts.length
        · obtain ⟨⟨tk, tm, tx⟩, hz2⟩ : ∃ z, ts[q]? = some z := ⟨_, List.getElem?_eq_getElem hlt2⟩
          obtain ⟨b2, o2, rfl, _, m0, m1, m2⟩ := hrow.tm hz2
          have hkk := trm_k (HKD.out _ (List.mem_of_getElem? hz2))
          dsimp only at m0 m1 m2 hkk
          have hq0 : (0 : Int) ≤ (q : Int) := by omega
          have hq1 : (q : Int) < ts.length := by omega
          have HST := Lib.hid (csT_step (p := p) (b := nb0) hz2)
          have HNT := Lib.hid (nbT_step hz2)
          have hnt := nbT_le (ts.take q)
          rw [List.length_take] at hnt
          have hal := below_alloc (Below.refl wr.heap.size wr) (.cells #[.int .i64 tk, .string tm, .int .i64 tx] 109)
          have HB1 := Lib.hid (below_chain hb.out hal)
          have HO1 := Lib.hid (own_below ho.out hal)
          clear hz2 hrow hal ho hb
          generalize nbT (ts.take q) = nt0 at *
          generalize csT p nb0 (ts.take q) = T0 at *
          rcases (show tk = 1 ∨ tk = 2 ∨ tk = 3 ∨ tk = 4 ∨ tk = 5 ∨ tk = 6 ∨ 7 ≤ tk by omega) with rfl | rfl | rfl | rfl | rfl | rfl | h7
          · have HI9 : Hid (insT p (nb0 + nt0) ⟨1, tm, tx⟩ = nmI p tm 2 3) := Lib.hid rfl
            have HNT2 : Hid (nbT (ts.take (q + 1)) = nt0) := Lib.hid (by rw [HNT.out]; rfl)
            have HPL := Lib.hid (HP.out.below HB1.out)
            clear k0 k1 k2 k3 k4
            have k0 := HPL.out.1
            have k1 := HPL.out.2.1
            have k2 := HPL.out.2.2.1
            have k3 := HPL.out.2.2.2.1
            have k4 := HPL.out.2.2.2.2.1
            have k6 := HPL.out.2.2.2.2.2
            have x0 : (wr.alloc (.cells #[.int .i64 1, .string tm, .int .i64 tx] 109)).cell? ⟨wr.heap.size, 1, none⟩ = some (.string tm) := by go_simp
            go_upto_region 14 with (fail)
            generalize wr.alloc (.cells #[.int .i64 1, .string tm, .int .i64 tx] 109) = wl at *
            clear k5 g0 g1 m0 m1 m2
            go_wp2_with (fail)
            refine (HN.out tm 2 3 _ ((H.out.below B0.out).below HB1.out)).mono ?_
            rintro e w5 ⟨rfl, hb⟩
            have HB5 := Lib.hid (below_chain HB1.out hb)
            have HO5 := Lib.hid (own_below HO1.out hb)
            clear hb k0 k1 k2 k3 k4 k6 x0 HPL
            generalize nmI p tm 2 3 = I at *
            go_wp2_with (first
              | (at_builtin
                 refine wpList_push_ins _ rfl (.tmp 48) (.tmp 53) rfl W.heap.size _ n2 _ I w5.heap.size 1 rfl (own_below HO5.out (below_alloc (Below.refl _ _) _)) rfl (by go_simp) (by go_simp) (by omega) (below_alloc HB5.out _).size ?_
                 intro v7 w7 hown hgrow
                 obtain ⟨A9, c9, rfl⟩ := own_shape hown
                 have HB7 := Lib.hid (below_of_grown (below_alloc HB5.out _) hgrow (fun q hq => (HO5.out.lt q hq).1))
                 have HO7 := Lib.hid hown
                 clear hown hgrow)
              )
            go_roundw
            case rel => exact ⟨q + 1, n2 + 1, A9, c9, by omega, by omega, by go_num, rfl, by rw [HNT2.out]; rfl, Lib.hid (by rw [HST.out, HI9.out, ← List.append_assoc, List.length_append, hl3.out]; rfl), Lib.hid (by rw [HST.out, HI9.out, ← List.append_assoc]; exact HO7.out), HB7⟩
            case measure => simp [intOf]; omega
          · have HI9 : Hid (insT p (nb0 + nt0) ⟨2, tm, tx⟩ = ⟨1, 1⟩) := Lib.hid rfl
            have HNT2 : Hid (nbT (ts.take (q + 1)) = nt0) := Lib.hid (by rw [HNT.out]; rfl)
            go_wp2_with (first
              | (at_builtin
                 refine wpList_push_ins _ rfl (.tmp 57) (.tmp 59) rfl W.heap.size _ n2 _ ⟨1, 1⟩ (wr.heap.size + 1) 1 rfl (own_below HO1.out (below_alloc (Below.refl _ _) _)) rfl (by go_simp) (by go_simp) (by omega) (below_alloc HB1.out _).size ?_
                 intro v7 w7 hown hgrow
                 obtain ⟨A9, c9, rfl⟩ := own_shape hown
                 have HB7 := Lib.hid (below_of_grown (below_alloc HB1.out _) hgrow (fun q hq => (HO1.out.lt q hq).1))
                 have HO7 := Lib.hid hown
                 clear hown hgrow)
              )
            go_roundw
            case rel => exact ⟨q + 1, n2 + 1, A9, c9, by omega, by omega, by go_num, rfl, by rw [HNT2.out]; rfl, Lib.hid (by rw [HST.out, HI9.out, ← List.append_assoc, List.length_append, hl3.out]; rfl), Lib.hid (by rw [HST.out, HI9.out, ← List.append_assoc]; exact HO7.out), HB7⟩
            case measure => simp [intOf]; omega
          · have HI9 : Hid (insT p (nb0 + nt0) ⟨3, tm, tx⟩ = ⟨1, 0⟩) := Lib.hid rfl
            have HNT2 : Hid (nbT (ts.take (q + 1)) = nt0) := Lib.hid (by rw [HNT.out]; rfl)
            go_wp2_with (first
              | (at_builtin
                 refine wpList_push_ins _ rfl (.tmp 63) (.tmp 65) rfl W.heap.size _ n2 _ ⟨1, 0⟩ (wr.heap.size + 1) 1 rfl (own_below HO1.out (below_alloc (Below.refl _ _) _)) rfl (by go_simp) (by go_simp) (by omega) (below_alloc HB1.out _).size ?_
                 intro v7 w7 hown hgrow
                 obtain ⟨A9, c9, rfl⟩ := own_shape hown
                 have HB7 := Lib.hid (below_of_grown (below_alloc HB1.out _) hgrow (fun q hq => (HO1.out.lt q hq).1))
                 have HO7 := Lib.hid hown
                 clear hown hgrow)
              )
            go_roundw
            case rel => exact ⟨q + 1, n2 + 1, A9, c9, by omega, by omega, by go_num, rfl, by rw [HNT2.out]; rfl, Lib.hid (by rw [HST.out, HI9.out, ← List.append_assoc, List.length_append, hl3.out]; rfl), Lib.hid (by rw [HST.out, HI9.out, ← List.append_assoc]; exact HO7.out), HB7⟩
            case measure => simp [intOf]; omega
          · have HI9 : Hid (insT p (nb0 + nt0) ⟨4, tm, tx⟩ = ⟨4, 0⟩) := Lib.hid rfl
            have HNT2 : Hid (nbT (ts.take (q + 1)) = nt0) := Lib.hid (by rw [HNT.out]; rfl)
            go_wp2_with (first
              | (at_builtin
                 refine wpList_push_ins _ rfl (.tmp 71) (.tmp 77) rfl W.heap.size _ n2 _ ⟨4, 0⟩ (wr.heap.size + 1) 1 rfl (own_below HO1.out (below_alloc (Below.refl _ _) _)) rfl (by go_simp) (by go_simp) (by omega) (below_alloc HB1.out _).size ?_
                 intro v7 w7 hown hgrow
                 obtain ⟨A9, c9, rfl⟩ := own_shape hown
                 have HB7 := Lib.hid (below_of_grown (below_alloc HB1.out _) hgrow (fun q hq => (HO1.out.lt q hq).1))
                 have HO7 := Lib.hid hown
                 clear hown hgrow)
              )
            go_roundw
            case rel => exact ⟨q + 1, n2 + 1, A9, c9, by omega, by omega, by go_num, rfl, by rw [HNT2.out]; rfl, Lib.hid (by rw [HST.out, HI9.out, ← List.append_assoc, List.length_append, hl3.out]; rfl), Lib.hid (by rw [HST.out, HI9.out, ← List.append_assoc]; exact HO7.out), HB7⟩
            case measure => simp [intOf]; omega
          · have HI9 : Hid (insT p (nb0 + nt0) ⟨5, tm, tx⟩ = ⟨5, 0⟩) := Lib.hid rfl
            have HNT2 : Hid (nbT (ts.take (q + 1)) = nt0) := Lib.hid (by rw [HNT.out]; rfl)
            go_wp2_with (first
              | (at_builtin
                 refine wpList_push_ins _ rfl (.tmp 71) (.tmp 77) rfl W.heap.size _ n2 _ ⟨5, 0⟩ (wr.heap.size + 1) 1 rfl (own_below HO1.out (below_alloc (Below.refl _ _) _)) rfl (by go_simp) (by go_simp) (by omega) (below_alloc HB1.out _).size ?_
                 intro v7 w7 hown hgrow
                 obtain ⟨A9, c9, rfl⟩ := own_shape hown
                 have HB7 := Lib.hid (below_of_grown (below_alloc HB1.out _) hgrow (fun q hq => (HO1.out.lt q hq).1))
                 have HO7 := Lib.hid hown
                 clear hown hgrow)
              )
            go_roundw
            case rel => exact ⟨q + 1, n2 + 1, A9, c9, by omega, by omega, by go_num, rfl, by rw [HNT2.out]; rfl, Lib.hid (by rw [HST.out, HI9.out, ← List.append_assoc, List.length_append, hl3.out]; rfl), Lib.hid (by rw [HST.out, HI9.out, ← List.append_assoc]; exact HO7.out), HB7⟩
            case measure => simp [intOf]; omega
          · have HI9 : Hid (insT p (nb0 + nt0) ⟨6, tm, tx⟩ = ⟨6, 0⟩) := Lib.hid rfl
            have HNT2 : Hid (nbT (ts.take (q + 1)) = nt0) := Lib.hid (by rw [HNT.out]; rfl)
            go_wp2_with (first
              | (at_builtin
                 refine wpList_push_ins _ rfl (.tmp 71) (.tmp 77) rfl W.heap.size _ n2 _ ⟨6, 0⟩ (wr.heap.size + 1) 1 rfl (own_below HO1.out (below_alloc (Below.refl _ _) _)) rfl (by go_simp) (by go_simp) (by omega) (below_alloc HB1.out _).size ?_
                 intro v7 w7 hown hgrow
                 obtain ⟨A9, c9, rfl⟩ := own_shape hown
                 have HB7 := Lib.hid (below_of_grown (below_alloc HB1.out _) hgrow (fun q hq => (HO1.out.lt q hq).1))
                 have HO7 := Lib.hid hown
                 clear hown hgrow)
              )
            go_roundw
            case rel => exact ⟨q + 1, n2 + 1, A9, c9, by omega, by omega, by go_num, rfl, by rw [HNT2.out]; rfl, Lib.hid (by rw [HST.out, HI9.out, ← List.append_assoc, List.length_append, hl3.out]; rfl), Lib.hid (by rw [HST.out, HI9.out, ← List.append_assoc]; exact HO7.out), HB7⟩
            case measure => simp [intOf]; omega
          · have HI9 : Hid (insT p (nb0 + nt0) ⟨tk, tm, tx⟩ = ⟨7, ((nb0 + nt0 : Nat) : Int)⟩) := Lib.hid (insT_d h7)
            have HNT2 : Hid (nbT (ts.take (q + 1)) = nt0 + 1) := Lib.hid (by rw [HNT.out, if_pos (show isB ⟨tk, tm, tx⟩ = true from decide_eq_true h7)])
            have e1 : (tk == 1) = false := by simp; omega
            have e2 : (tk == 2) = false := by simp; omega
            have e3 : (tk == 3) = false := by simp; omega
            have e4 : (tk == 4) = false := by simp; omega
            have e5 : (tk == 5) = false := by simp; omega
            have e6 : (tk == 6) = false := by simp; omega
            have hw9 : IntKind.i64.wrap (((nb0 + nt0 : Nat) : Int) + 1) = ((nb0 + nt0 : Nat) : Int) + 1 := IntWalk.i64_in _ (by omega)
            clear h7 hkk
            go_wp2_with (first
              | (at_builtin
                 refine wpList_push_ins _ rfl (.tmp 39) (.tmp 42) rfl W.heap.size _ n2 _ ⟨7, ((nb0 + nt0 : Nat) : Int)⟩ (wr.heap.size + 1) 1 rfl (own_below HO1.out (below_alloc (Below.refl _ _) _)) rfl (by go_simp) (by go_simp) (by omega) (below_alloc HB1.out _).size ?_
                 intro v7 w7 hown hgrow
                 obtain ⟨A9, c9, rfl⟩ := own_shape hown
                 have HB7 := Lib.hid (below_of_grown (below_alloc HB1.out _) hgrow (fun q hq => (HO1.out.lt q hq).1))
                 have HO7 := Lib.hid hown
                 clear hown hgrow)
              )
            go_roundw
            case rel => exact ⟨q + 1, n2 + 1, A9, c9, by omega, by omega, by go_num, rfl, by rw [HNT2.out]; rfl, Lib.hid (by rw [HST.out, HI9.out, ← List.append_assoc, List.length_append, hl3.out]; rfl), Lib.hid (by rw [HST.out, HI9.out, ← List.append_assoc]; exact HO7.out), HB7⟩
            case measure => simp [intOf]; omega
        · obtain rfl : q = ts.length := by omega
          have hts : ts.take ts.length = ts := List.take_length
          rw [hts] at hl3 ho
          have HL3 := Lib.hid hl3.out
          have HO3 := Lib.hid ho.out
          have hn2b : n2 ≤ 41 * k + 40 := by omega
          clear hl3 ho hrow hts
          have HTS : Hid (csP p 0 (p.ls.take (k + 1)) = S0 ++ csT p nb0 ts ++ [tgI p tg]) := Lib.hid (by rw [HFS.out]; unfold csL; rw [List.append_assoc])
          have HTV : Hid (0 ≤ ixS p.vs tg ∧ tgI p tg = ⟨8, ixS p.vs tg⟩ ∨ ixS p.vs tg < 0 ∧ tgI p tg = ⟨9, ixS p.os tg⟩) := Lib.hid (by
            by_cases h0 : 0 ≤ ixS p.vs tg
            · exact .inl ⟨h0, tgI_v h0⟩
            · exact .inr ⟨by omega, tgI_o (by omega)⟩)
          have HNB : Hid (nbT ts = nbT (ts.take ts.length)) := Lib.hid (by rw [List.take_length])
          rw [List.take_length]
          generalize csT p nb0 ts = T0 at *
          generalize nbT ts = nt0 at *
          go_wp2_with (fail)
          refine wp_region_held_drew (S := (fun w' => (w'.cell? ⟨w.heap.size, 0, none⟩ = some (.string p.nm) ∧ w'.cell? ⟨w.heap.size, 1, none⟩ = some (.slice a1 p.ins.length c1) ∧ w'.cell? ⟨w.heap.size, 2, none⟩ = some (.slice a2 p.vs.length c2) ∧ w'.cell? ⟨w.heap.size, 3, none⟩ = some (.slice a3 p.os.length c3) ∧ w'.cell? ⟨w.heap.size, 4, none⟩ = some (.string p.gd) ∧ w'.cell? ⟨w.heap.size, 5, none⟩ = some (.slice (some ⟨b, off, none⟩) p.ls.length c4)) ∧ w'.cell? ⟨b, off + k * 2, none⟩ = some (.string tg))) (by kernel_rfl) ?_ (fun hHeld => ?_)
          · exact ⟨⟨k0, k1, k2, k3, k4, k5⟩, g0⟩
          refine rg_take (v := ?_) 0 rfl (by kernel_rfl) (by kernel_rfl) (by kernel_rfl) (fun _ _ _ h => h) (by kernel_rfl) ?_ (by assumption) ?_
          rotate_left
          · (intro w' hSw; (try dsimp only at hSw); go_simp; first | done | with_reducible rfl)
          simp only [Act.put, List.setIfInBounds_toArray, List.set_cons_zero, List.set_cons_succ]
          refine rg_take (v := ?_) 1 rfl (by kernel_rfl) (by kernel_rfl) (by kernel_rfl) (fun _ _ _ h => h) (by kernel_rfl) ?_ (by assumption) ?_
          rotate_left
          · (intro w' hSw; (try dsimp only at hSw); go_simp; first | done | with_reducible rfl)
          simp only [Act.put, List.setIfInBounds_toArray, List.set_cons_zero, List.set_cons_succ]
          refine rg_take (v := ?_) 2 rfl (by kernel_rfl) (by kernel_rfl) (by kernel_rfl) (fun _ _ _ h => h) (by kernel_rfl) ?_ (by assumption) ?_
          rotate_left
          · (intro w' hSw; (try dsimp only at hSw); go_simp; first | done | with_reducible rfl)
          simp only [Act.put, List.setIfInBounds_toArray, List.set_cons_zero, List.set_cons_succ]
          refine rg_take (v := ?_) 3 rfl (by kernel_rfl) (by kernel_rfl) (by kernel_rfl) (fun _ _ _ h => h) (by kernel_rfl) ?_ (by assumption) ?_
          rotate_left
          · (intro w' hSw; (try dsimp only at hSw); go_simp; first | done | with_reducible rfl)
          simp only [Act.put, List.setIfInBounds_toArray, List.set_cons_zero, List.set_cons_succ]
          refine rg_take (v := ?_) 4 rfl (by kernel_rfl) (by kernel_rfl) (by kernel_rfl) (fun _ _ _ h => h) (by kernel_rfl) ?_ (by assumption) ?_
          rotate_left
          · (intro w' hSw; (try dsimp only at hSw); go_simp; first | done | with_reducible rfl)
          simp only [Act.put, List.setIfInBounds_toArray, List.set_cons_zero, List.set_cons_succ]
          refine rg_take (v := ?_) 5 rfl (by kernel_rfl) (by kernel_rfl) (by kernel_rfl) (fun _ _ _ h => h) (by kernel_rfl) ?_ (by assumption) ?_
          rotate_left
          · (intro w' hSw; (try dsimp only at hSw); go_simp; first | done | with_reducible rfl)
          simp only [Act.put, List.setIfInBounds_toArray, List.set_cons_zero, List.set_cons_succ]
          refine rg_take (v := ?_) 6 rfl (by kernel_rfl) (by kernel_rfl) (by kernel_rfl) (fun _ _ _ h => h) (by kernel_rfl) ?_ (by assumption) ?_
          rotate_left
          · (intro w' hSw; (try dsimp only at hSw); go_simp; first | done | with_reducible rfl)
          simp only [Act.put, List.setIfInBounds_toArray, List.set_cons_zero, List.set_cons_succ]
          refine rg_take (v := ?_) 7 rfl (by kernel_rfl) (by kernel_rfl) (by kernel_rfl) (fun _ _ _ h => h) (by kernel_rfl) ?_ (by assumption) ?_
          rotate_left
          · (intro w' hSw; (try dsimp only at hSw); go_simp; first | done | with_reducible rfl)
          simp only [Act.put, List.setIfInBounds_toArray, List.set_cons_zero, List.set_cons_succ]
          refine rg_run 8 rfl (by kernel_rfl) (by kernel_rfl) (fun K hK => ?_)
          go_simp
          refine (HI.out tg _ (H.out.v.below ((below_chain B0.out hb.out).drew))).mono ?_
          rintro e w5 ⟨rfl, hb5⟩
          have hbs : Below wr.heap.size wr w5 := below_chain (Below.refl _ _).drew hb5
          have HB5 := Lib.hid (below_chain hb.out hbs)
          have HO5 := Lib.hid (own_below HO3.out hbs)
          replace k0 := cell_later hbs (by exact k0)
          replace k1 := cell_later hbs (by exact k1)
          replace k2 := cell_later hbs (by exact k2)
          replace k3 := cell_later hbs (by exact k3)
          replace k4 := cell_later hbs (by exact k4)
          replace k5 := cell_later hbs (by exact k5)
          replace g0 := cell_later hbs (by exact g0)
          clear hbs hb5 hb HO3
          go_wp2
          clear hHeld
          refine hK.out _ _ (by exact ⟨⟨k0, k1, k2, k3, k4, k5⟩, g0⟩) (fun hHeld => ?_)
          clear hK K
          try simp only [Act.put, List.setIfInBounds_toArray, List.set_cons_zero, List.set_cons_succ]
          refine rg_take (v := ?_) 9 rfl (by kernel_rfl) (by kernel_rfl) (by kernel_rfl) (fun _ _ _ h => h) (by kernel_rfl) ?_ (by assumption) ?_
          rotate_left
          · (intro w' hSw; (try dsimp only at hSw); go_simp; first | done | with_reducible rfl)
          simp only [Act.put, List.setIfInBounds_toArray, List.set_cons_zero, List.set_cons_succ]
          refine wpAnyH_done (by kernel_rfl) ?_ _
          clear hHeld
          rcases HTV.out with ⟨h0, e0⟩ | ⟨h0, e0⟩
          · rw [e0] at HTS
            clear e0 HTV k0 k1 k2 k3 k4 k5 g0 g1
            generalize ixS p.vs tg = z at *
            go_wp2_with (first
              | (at_builtin
                 refine wpList_push_ins _ rfl (.tmp 90) (.tmp 93) rfl W.heap.size _ n2 _ ⟨8, z⟩ w5.heap.size 1 rfl (own_below HO5.out (below_alloc (Below.refl _ _) _)) rfl (by go_simp) (by go_simp) (by omega) (below_alloc HB5.out _).size ?_
                 intro v7 w7 hown hgrow
                 obtain ⟨A9, c9, rfl⟩ := own_shape hown
                 have HB7 := Lib.hid (below_of_grown (below_alloc HB5.out _) hgrow (fun q hq => (HO5.out.lt q hq).1))
                 have HO7 := Lib.hid hown
                 clear hown hgrow)
              )
            go_roundw
            case rel => exact ⟨k + 1, n2 + 1, A9, c9, by omega, by omega, by go_num, rfl, by rw [HNS.out, HNB.out]; rfl, Lib.hid (by rw [HTS.out, List.length_append, HL3.out]; rfl), Lib.hid (by rw [HTS.out]; exact HO7.out), HB7⟩
            case measure => simp [intOf]; omega
          · rw [e0] at HTS
            clear e0 HTV
            generalize ixS p.vs tg = z at *
            go_wp2_with (fail)
            refine wp_region_held_drew (S := (fun w' => (w'.cell? ⟨w.heap.size, 0, none⟩ = some (.string p.nm) ∧ w'.cell? ⟨w.heap.size, 1, none⟩ = some (.slice a1 p.ins.length c1) ∧ w'.cell? ⟨w.heap.size, 2, none⟩ = some (.slice a2 p.vs.length c2) ∧ w'.cell? ⟨w.heap.size, 3, none⟩ = some (.slice a3 p.os.length c3) ∧ w'.cell? ⟨w.heap.size, 4, none⟩ = some (.string p.gd) ∧ w'.cell? ⟨w.heap.size, 5, none⟩ = some (.slice (some ⟨b, off, none⟩) p.ls.length c4)) ∧ w'.cell? ⟨b, off + k * 2, none⟩ = some (.string tg))) (by kernel_rfl) ?_ (fun hHeld => ?_)
            · exact ⟨⟨k0, k1, k2, k3, k4, k5⟩, g0⟩
            refine rg_take (v := ?_) 0 rfl (by kernel_rfl) (by kernel_rfl) (by kernel_rfl) (fun _ _ _ h => h) (by kernel_rfl) ?_ (by assumption) ?_
            rotate_left
            · (intro w' hSw; (try dsimp only at hSw); go_simp; first | done | with_reducible rfl)
            simp only [Act.put, List.setIfInBounds_toArray, List.set_cons_zero, List.set_cons_succ]
            refine rg_take (v := ?_) 1 rfl (by kernel_rfl) (by kernel_rfl) (by kernel_rfl) (fun _ _ _ h => h) (by kernel_rfl) ?_ (by assumption) ?_
            rotate_left
            · (intro w' hSw; (try dsimp only at hSw); go_simp; first | done | with_reducible rfl)
            simp only [Act.put, List.setIfInBounds_toArray, List.set_cons_zero, List.set_cons_succ]
            refine rg_take (v := ?_) 2 rfl (by kernel_rfl) (by kernel_rfl) (by kernel_rfl) (fun _ _ _ h => h) (by kernel_rfl) ?_ (by assumption) ?_
            rotate_left
            · (intro w' hSw; (try dsimp only at hSw); go_simp; first | done | with_reducible rfl)
            simp only [Act.put, List.setIfInBounds_toArray, List.set_cons_zero, List.set_cons_succ]
            refine rg_take (v := ?_) 3 rfl (by kernel_rfl) (by kernel_rfl) (by kernel_rfl) (fun _ _ _ h => h) (by kernel_rfl) ?_ (by assumption) ?_
            rotate_left
            · (intro w' hSw; (try dsimp only at hSw); go_simp; first | done | with_reducible rfl)
            simp only [Act.put, List.setIfInBounds_toArray, List.set_cons_zero, List.set_cons_succ]
            refine rg_take (v := ?_) 4 rfl (by kernel_rfl) (by kernel_rfl) (by kernel_rfl) (fun _ _ _ h => h) (by kernel_rfl) ?_ (by assumption) ?_
            rotate_left
            · (intro w' hSw; (try dsimp only at hSw); go_simp; first | done | with_reducible rfl)
            simp only [Act.put, List.setIfInBounds_toArray, List.set_cons_zero, List.set_cons_succ]
            refine rg_take (v := ?_) 5 rfl (by kernel_rfl) (by kernel_rfl) (by kernel_rfl) (fun _ _ _ h => h) (by kernel_rfl) ?_ (by assumption) ?_
            rotate_left
            · (intro w' hSw; (try dsimp only at hSw); go_simp; first | done | with_reducible rfl)
            simp only [Act.put, List.setIfInBounds_toArray, List.set_cons_zero, List.set_cons_succ]
            refine rg_take (v := ?_) 6 rfl (by kernel_rfl) (by kernel_rfl) (by kernel_rfl) (fun _ _ _ h => h) (by kernel_rfl) ?_ (by assumption) ?_
            rotate_left
            · (intro w' hSw; (try dsimp only at hSw); go_simp; first | done | with_reducible rfl)
            simp only [Act.put, List.setIfInBounds_toArray, List.set_cons_zero, List.set_cons_succ]
            refine rg_take (v := ?_) 7 rfl (by kernel_rfl) (by kernel_rfl) (by kernel_rfl) (fun _ _ _ h => h) (by kernel_rfl) ?_ (by assumption) ?_
            rotate_left
            · (intro w' hSw; (try dsimp only at hSw); go_simp; first | done | with_reducible rfl)
            simp only [Act.put, List.setIfInBounds_toArray, List.set_cons_zero, List.set_cons_succ]
            refine rg_take (v := ?_) 8 rfl (by kernel_rfl) (by kernel_rfl) (by kernel_rfl) (fun _ _ _ h => h) (by kernel_rfl) ?_ (by assumption) ?_
            rotate_left
            · (intro w' hSw; (try dsimp only at hSw); go_simp; first | done | with_reducible rfl)
            simp only [Act.put, List.setIfInBounds_toArray, List.set_cons_zero, List.set_cons_succ]
            refine rg_run 9 rfl (by kernel_rfl) (by kernel_rfl) (fun K hK => ?_)
            go_simp
            refine (HJ.out tg _ (H.out.o.below ((below_chain B0.out HB5.out).drew))).mono ?_
            rintro e w6 ⟨rfl, hb6⟩
            have hbs : Below w5.heap.size w5 w6 := below_chain (Below.refl _ _).drew hb6
            have HB6 := Lib.hid (below_chain HB5.out hbs)
            have HO6 := Lib.hid (own_below HO5.out hbs)
            replace k0 := cell_later hbs (by exact k0)
            replace k1 := cell_later hbs (by exact k1)
            replace k2 := cell_later hbs (by exact k2)
            replace k3 := cell_later hbs (by exact k3)
            replace k4 := cell_later hbs (by exact k4)
            replace k5 := cell_later hbs (by exact k5)
            replace g0 := cell_later hbs (by exact g0)
            clear hbs hb6
            generalize ixS p.os tg = z2 at *
            go_wp2
            clear hHeld
            refine hK.out _ _ (by exact ⟨⟨k0, k1, k2, k3, k4, k5⟩, g0⟩) (fun hHeld => ?_)
            clear hK K
            try simp only [Act.put, List.setIfInBounds_toArray, List.set_cons_zero, List.set_cons_succ]
            refine rg_take (v := ?_) 10 rfl (by kernel_rfl) (by kernel_rfl) (by kernel_rfl) (fun _ _ _ h => h) (by kernel_rfl) ?_ (by assumption) ?_
            rotate_left
            · (intro w' hSw; (try dsimp only at hSw); go_simp; first | done | with_reducible rfl)
            simp only [Act.put, List.setIfInBounds_toArray, List.set_cons_zero, List.set_cons_succ]
            refine rg_run 11 rfl (by kernel_rfl) (by kernel_rfl) (fun K hK => ?_)
            go_simp
            go_wp2
            have hal := below_alloc (Below.refl w6.heap.size w6) (.cells #[.int .i64 9, .int .i64 z2] 107)
            replace k0 := cell_later hal (by exact k0)
            replace k1 := cell_later hal (by exact k1)
            replace k2 := cell_later hal (by exact k2)
            replace k3 := cell_later hal (by exact k3)
            replace k4 := cell_later hal (by exact k4)
            replace k5 := cell_later hal (by exact k5)
            replace g0 := cell_later hal (by exact g0)
            have HB6a := Lib.hid (below_chain HB6.out hal)
            have HO6a := Lib.hid (own_below HO6.out hal)
            have x0 : (w6.alloc (.cells #[.int .i64 9, .int .i64 z2] 107)).cell? ⟨w6.heap.size, 0, none⟩ = some (.int .i64 9) := by go_simp
            have x1 : (w6.alloc (.cells #[.int .i64 9, .int .i64 z2] 107)).cell? ⟨w6.heap.size, 1, none⟩ = some (.int .i64 z2) := by go_simp
            clear hal
            generalize w6.alloc (.cells #[.int .i64 9, .int .i64 z2] 107) = W6 at *
            generalize w6.heap.size = g6 at *
            clear hHeld
            refine hK.out _ _ (by exact ⟨⟨k0, k1, k2, k3, k4, k5⟩, g0⟩) (fun hHeld => ?_)
            clear hK K
            try simp only [Act.put, List.setIfInBounds_toArray, List.set_cons_zero, List.set_cons_succ]
            refine rg_run 12 rfl (by kernel_rfl) (by kernel_rfl) (fun K hK => ?_)
            refine wp_push_ins _ (.tmp 95) (.tmp 106) rfl W.heap.size _ n2 _ ⟨9, z2⟩ g6 1 rfl (by exact HO6a.out) rfl (by exact x0) (by exact x1) (by omega) HB6a.out.size ?_
            intro v7 w7 hown hgrow
            obtain ⟨A9, c9, rfl⟩ := own_shape hown
            have HB7 := Lib.hid (below_of_grown HB6a.out hgrow (fun q hq => (HO6a.out.lt q hq).1))
            have HO7 := Lib.hid hown
            have HG := Lib.hid (fun (bb : Nat) (hbb : bb < W.heap.size) => show ∀ q, (Value.slice A3 n2 C3).ownBlock = some q → q ≠ bb from fun q hq e => by have := (HO6a.out.lt q hq).1; omega)
            have hzb := World.block_lt_of_cell? _ _ HP.out.1
            dsimp only at hzb
            have hzl := HLB.out
            replace k0 := cell_mark' (by exact k0) hgrow (HG.out _ hzb)
            replace k1 := cell_mark' (by exact k1) hgrow (HG.out _ hzb)
            replace k2 := cell_mark' (by exact k2) hgrow (HG.out _ hzb)
            replace k3 := cell_mark' (by exact k3) hgrow (HG.out _ hzb)
            replace k4 := cell_mark' (by exact k4) hgrow (HG.out _ hzb)
            replace k5 := cell_mark' (by exact k5) hgrow (HG.out _ hzb)
            replace g0 := cell_mark' (by exact g0) hgrow (HG.out _ hzl)
            clear hown hgrow x0 x1
            clear hHeld
            refine hK.out _ _ (by exact ⟨⟨k0, k1, k2, k3, k4, k5⟩, g0⟩) (fun hHeld => ?_)
            clear hK K
            try simp only [Act.put, List.setIfInBounds_toArray, List.set_cons_zero, List.set_cons_succ]
            refine rg_take (v := ?_) 13 rfl (by kernel_rfl) (by kernel_rfl) (by kernel_rfl) (fun _ _ _ h => h) (by kernel_rfl) ?_ (by assumption) ?_
            rotate_left
            · (intro w' hSw; (try dsimp only at hSw); go_simp; first | done | with_reducible rfl)
            simp only [Act.put, List.setIfInBounds_toArray, List.set_cons_zero, List.set_cons_succ]
            refine wpAnyH_done (by kernel_rfl) ?_ _
            clear hHeld
            go_wp2_with (fail)
            go_roundw
            case rel => exact ⟨k + 1, n2 + 1, A9, c9, by omega, by omega, by go_num, rfl, by rw [HNS.out, HNB.out]; rfl, Lib.hid (by rw [HTS.out, List.length_append, HL3.out]; rfl), Lib.hid (by rw [HTS.out]; exact HO7.out), HB7⟩
            case measure => simp [intOf]; omega
    · obtain rfl : k = p.ls.length := by omega
      have htk : p.ls.take p.ls.length = p.ls := List.take_length
      rw [htk] at hl3 ho
      have HL3 := Lib.hid hl3.out
      have HO3 := Lib.hid ho.out
      have HSS : Hid ((cmp p).ss = csP p 0 p.ls ++ gdI p) := Lib.hid rfl
      have HRET : Hid (∀ A1 q1 A2 n2 q2 w', n2 = (cmp p).ss.length → w'.ownsRow w.heap.size 109 3 (.slice A1 (blk p).length q1) (blk p).length (tmCells (blk p)) → w'.ownsRow w.heap.size 107 2 (.slice A2 n2 q2) n2 (insCells (cmp p).ss) → Below w.heap.size w w' → RetCd (cmp p) w (.returned (.agg #[.int .i64 p.ins.length, .int .i64 p.vs.length, .int .i64 p.os.length, .slice A1 (blk p).length q1, .slice A2 n2 q2])) w') := Lib.hid (fun A1 q1 A2 n2 q2 w' e h1 h2 h3 => by subst e; exact ⟨A1, q1, A2, q2, rfl, h1, h2, h3⟩)
      have HLEN : Hid ((cmp p).ss.length = n + (gdI p).length) := Lib.hid (by rw [HSS.out, List.length_append, HL3.out])
      clear hl3 ho htk hlt
      generalize (cmp p).ss = CS at *
      generalize csP p 0 p.ls = S0 at *
      generalize nbL (p.ls.take p.ls.length) = nb0 at *
      have hw1 : IntKind.i64.wrap ((p.ins.length : Nat) : Int) = (p.ins.length : Nat) := IntWalk.i64_in _ (by omega)
      have hw2 : IntKind.i64.wrap ((p.vs.length : Nat) : Int) = (p.vs.length : Nat) := IntWalk.i64_in _ (by omega)
      have hw3 : IntKind.i64.wrap ((p.os.length : Nat) : Int) = (p.os.length : Nat) := IntWalk.i64_in _ (by omega)
      rcases hg : p.gd.toList.isEmpty with _ | _
      · have HGI : Hid (gdI p = [nmI p p.gd 10 11]) := Lib.hid (by unfold gdI; rw [hg]; rfl)
        rw [HGI.out] at HSS HLEN
        go_wp2_with (fail)
        refine (HN.out p.gd 10 11 _ ((H.out.below B0.out).below hb.out)).mono ?_
        rintro e w5 ⟨rfl, hb5⟩
        have HB5 := Lib.hid (below_chain hb.out hb5)
        have HO5 := Lib.hid (own_below HO3.out hb5)
        generalize nmI p p.gd 10 11 = I at *
        clear hb5 hb HO3 hg k0 k1 k2 k3 k4 k5 HGI
        go_wp2_with (first
          | (at_builtin
             refine wpList_push_ins _ rfl (.tmp 111) (.tmp 116) rfl W.heap.size _ n _ I w5.heap.size 1 rfl (own_below HO5.out (below_alloc (Below.refl _ _) _)) rfl (by go_simp) (by go_simp) (by omega) (below_alloc HB5.out _).size ?_
             intro v7 w7 hown hgrow
             obtain ⟨A9, c9, rfl⟩ := own_shape hown
             have HB7 := Lib.hid (below_of_grown (below_alloc HB5.out _) hgrow (fun q hq => (HO5.out.lt q hq).1))
             have HO7 := Lib.hid hown
             obtain ⟨k0, k1, k2, k3, k4, k5⟩ := HP.out.below HB7.out
             clear hown hgrow)
          )
        have HLN7 : Hid (n + 1 = CS.length) := Lib.hid (by rw [HLEN.out]; rfl)
        have HC7 : Hid (CS = S0 ++ [I]) := HSS
        clear HSS HLEN HO5 HB5 HL3
        refine wp_region_held_drew (S := (fun w' => w'.cell? ⟨w.heap.size, 0, none⟩ = some (.string p.nm) ∧ w'.cell? ⟨w.heap.size, 1, none⟩ = some (.slice a1 p.ins.length c1) ∧ w'.cell? ⟨w.heap.size, 2, none⟩ = some (.slice a2 p.vs.length c2) ∧ w'.cell? ⟨w.heap.size, 3, none⟩ = some (.slice a3 p.os.length c3) ∧ w'.cell? ⟨w.heap.size, 4, none⟩ = some (.string p.gd) ∧ w'.cell? ⟨w.heap.size, 5, none⟩ = some (.slice a4 p.ls.length c4))) (by kernel_rfl) ?_ (fun hHeld => ?_)
        · exact ⟨k0, k1, k2, k3, k4, k5⟩
        refine rg_take (v := ?_) 0 rfl (by kernel_rfl) (by kernel_rfl) (by kernel_rfl) (fun _ _ _ h => h) (by kernel_rfl) ?_ (by assumption) ?_
        rotate_left
        · (intro w' hSw; (try dsimp only at hSw); go_simp; first | done | with_reducible rfl)
        simp only [Act.put, List.setIfInBounds_toArray, List.set_cons_zero, List.set_cons_succ]
        refine rg_take (v := ?_) 1 rfl (by kernel_rfl) (by kernel_rfl) (by kernel_rfl) (fun _ _ _ h => h) (by kernel_rfl) ?_ (by assumption) ?_
        rotate_left
        · (intro w' hSw; (try dsimp only at hSw); go_simp; first | done | with_reducible rfl)
        simp only [Act.put, List.setIfInBounds_toArray, List.set_cons_zero, List.set_cons_succ]
        refine rg_take (v := ?_) 2 rfl (by kernel_rfl) (by kernel_rfl) (by kernel_rfl) (fun _ _ _ h => h) (by kernel_rfl) ?_ (by assumption) ?_
        rotate_left
        · (intro w' hSw; (try dsimp only at hSw); go_simp; first | done | with_reducible rfl)
        simp only [Act.put, List.setIfInBounds_toArray, List.set_cons_zero, List.set_cons_succ]
        refine rg_take (v := ?_) 3 rfl (by kernel_rfl) (by kernel_rfl) (by kernel_rfl) (fun _ _ _ h => h) (by kernel_rfl) ?_ (by assumption) ?_
        rotate_left
        · (intro w' hSw; (try dsimp only at hSw); go_simp; first | done | with_reducible rfl)
        simp only [Act.put, List.setIfInBounds_toArray, List.set_cons_zero, List.set_cons_succ]
        refine rg_take (v := ?_) 4 rfl (by kernel_rfl) (by kernel_rfl) (by kernel_rfl) (fun _ _ _ h => h) (by kernel_rfl) ?_ (by assumption) ?_
        rotate_left
        · (intro w' hSw; (try dsimp only at hSw); go_simp; first | done | with_reducible rfl)
        simp only [Act.put, List.setIfInBounds_toArray, List.set_cons_zero, List.set_cons_succ]
        refine rg_take (v := ?_) 5 rfl (by kernel_rfl) (by kernel_rfl) (by kernel_rfl) (fun _ _ _ h => h) (by kernel_rfl) ?_ (by assumption) ?_
        rotate_left
        · (intro w' hSw; (try dsimp only at hSw); go_simp; first | done | with_reducible rfl)
        simp only [Act.put, List.setIfInBounds_toArray, List.set_cons_zero, List.set_cons_succ]
        refine rg_take (v := ?_) 6 rfl (by kernel_rfl) (by kernel_rfl) (by kernel_rfl) (fun _ _ _ h => h) (by kernel_rfl) ?_ (by assumption) ?_
        rotate_left
        · (intro w' hSw; (try dsimp only at hSw); go_simp; first | done | with_reducible rfl)
        simp only [Act.put, List.setIfInBounds_toArray, List.set_cons_zero, List.set_cons_succ]
        refine rg_take (v := ?_) 7 rfl (by kernel_rfl) (by kernel_rfl) (by kernel_rfl) (fun _ _ _ h => h) (by kernel_rfl) ?_ (by assumption) ?_
        rotate_left
        · (intro w' hSw; (try dsimp only at hSw); go_simp; first | done | with_reducible rfl)
        simp only [Act.put, List.setIfInBounds_toArray, List.set_cons_zero, List.set_cons_succ]
        refine rg_take (v := ?_) 8 rfl (by kernel_rfl) (by kernel_rfl) (by kernel_rfl) (fun _ _ _ h => h) (by kernel_rfl) ?_ (by assumption) ?_
        rotate_left
        · (intro w' hSw; (try dsimp only at hSw); go_simp; first | done | with_reducible rfl)
        simp only [Act.put, List.setIfInBounds_toArray, List.set_cons_zero, List.set_cons_succ]
        refine rg_take (v := ?_) 9 rfl (by kernel_rfl) (by kernel_rfl) (by kernel_rfl) (fun _ _ _ h => h) (by kernel_rfl) ?_ (by assumption) ?_
        rotate_left
        · (intro w' hSw; (try dsimp only at hSw); go_simp; first | done | with_reducible rfl)
        simp only [Act.put, List.setIfInBounds_toArray, List.set_cons_zero, List.set_cons_succ]
        refine rg_take (v := ?_) 11 rfl (by kernel_rfl) (by kernel_rfl) (by kernel_rfl) (fun _ _ _ h => h) (by kernel_rfl) ?_ (by assumption) ?_
        rotate_left
        · (intro w' hSw; (try dsimp only at hSw); go_simp; first | done | with_reducible rfl)
        simp only [Act.put, List.setIfInBounds_toArray, List.set_cons_zero, List.set_cons_succ]
        refine rg_run 10 rfl (by kernel_rfl) (by kernel_rfl) (fun K hK => ?_)
        go_simp
        refine (HBL.out _ (((H.out.below B0.out).below HB7.out).below (Below.refl _ _).drew)).mono ?_
        rintro e w8 ⟨A8, c8, rfl, hob, hb8⟩
        have hbs := below_chain (Below.refl w7.heap.size w7).drew hb8
        have HB8 := Lib.hid (below_chain HB7.out hbs)
        have HO8 := Lib.hid (own_below HO7.out hbs)
        have HOB8 := Lib.hid (own_mono hob (show W.heap.size ≤ w7.drew.heap.size from HB7.out.size))
        replace k0 := cell_later hbs (by exact k0)
        replace k1 := cell_later hbs (by exact k1)
        replace k2 := cell_later hbs (by exact k2)
        replace k3 := cell_later hbs (by exact k3)
        replace k4 := cell_later hbs (by exact k4)
        replace k5 := cell_later hbs (by exact k5)
        obtain ⟨⟨x0, x1, x2, x3, x4⟩, f0, f1, f2, f3, f4⟩ := (HX.out.below HB7.out).below hbs
        have hrb := World.block_lt_of_cell? _ _ HX.out.1.1
        dsimp only at hrb
        clear hbs hb8 hob HB7 HO7
        have hxz := World.block_lt_of_cell? _ _ x0
        go_wp2
        clear hHeld
        refine hK.out _ _ (by exact ⟨k0, k1, k2, k3, k4, k5⟩) (fun hHeld => ?_)
        clear hK K
        try simp only [Act.put, List.setIfInBounds_toArray, List.set_cons_zero, List.set_cons_succ]
        refine rg_take (v := ?_) 12 rfl (by kernel_rfl) (by kernel_rfl) (by kernel_rfl) (fun _ _ _ h => h) (by kernel_rfl) ?_ (by assumption) ?_
        rotate_left
        · (intro w' hSw; (try dsimp only at hSw); go_simp; first | done | with_reducible rfl)
        simp only [Act.put, List.setIfInBounds_toArray, List.set_cons_zero, List.set_cons_succ]
        refine rg_run 13 rfl (by kernel_rfl) (by kernel_rfl) (fun K hK => ?_)
        go_simp
        go_wp2
        clear hHeld
        refine hK.out _ _ (by refine ⟨?_, ?_, ?_, ?_, ?_, ?_⟩ <;> go_simp) (fun hHeld => ?_)
        clear hK K
        try simp only [Act.put, List.setIfInBounds_toArray, List.set_cons_zero, List.set_cons_succ]
        refine wpAnyH_done (by kernel_rfl) ?_ _
        clear hHeld
        clear k0 k1 k2 k3 k4 k5
        go_wp2_with (fail)
        refine bodyPost_ret (v := .agg #[.int .i64 p.ins.length, .int .i64 p.vs.length, .int .i64 p.os.length, .slice A8 (blk p).length c8, .slice A9 (n + 1) c9]) (by simp [results, Tryz.results44, go_sem, x0, x1, x2, x3, x4]) rfl (by
          refine HRET.out _ _ _ _ _ _ HLN7.out ?_ ?_ ?_
          · exact own_mono (own_set5 HOB8.out hrb _ _ _ _ _) B0.out.size
          · rw [HC7.out]; exact own_mono (own_set5 HO8.out hrb _ _ _ _ _) B0.out.size
          · exact below_set5 (below_chain B0.out HB8.out) (by omega) _ _ _ _ _)
      · have HGI : Hid (gdI p = []) := Lib.hid (by unfold gdI; rw [hg]; rfl)
        rw [HGI.out] at HSS HLEN
        have HC7 : Hid (CS = S0) := Lib.hid (by rw [HSS.out, List.append_nil])
        have HLN7 : Hid (n = CS.length) := Lib.hid (by rw [HLEN.out]; rfl)
        clear HSS HLEN HL3 HGI
        have HB7 := hb
        have HO7 := HO3
        clear hb HO3
        go_wp2_with (fail)
        refine wp_region_held_drew (S := (fun w' => w'.cell? ⟨w.heap.size, 0, none⟩ = some (.string p.nm) ∧ w'.cell? ⟨w.heap.size, 1, none⟩ = some (.slice a1 p.ins.length c1) ∧ w'.cell? ⟨w.heap.size, 2, none⟩ = some (.slice a2 p.vs.length c2) ∧ w'.cell? ⟨w.heap.size, 3, none⟩ = some (.slice a3 p.os.length c3) ∧ w'.cell? ⟨w.heap.size, 4, none⟩ = some (.string p.gd) ∧ w'.cell? ⟨w.heap.size, 5, none⟩ = some (.slice a4 p.ls.length c4))) (by kernel_rfl) ?_ (fun hHeld => ?_)
        · exact ⟨k0, k1, k2, k3, k4, k5⟩
        refine rg_take (v := ?_) 0 rfl (by kernel_rfl) (by kernel_rfl) (by kernel_rfl) (fun _ _ _ h => h) (by kernel_rfl) ?_ (by assumption) ?_
        rotate_left
        · (intro w' hSw; (try dsimp only at hSw); go_simp; first | done | with_reducible rfl)
        simp only [Act.put, List.setIfInBounds_toArray, List.set_cons_zero, List.set_cons_succ]
        refine rg_take (v := ?_) 1 rfl (by kernel_rfl) (by kernel_rfl) (by kernel_rfl) (fun _ _ _ h => h) (by kernel_rfl) ?_ (by assumption) ?_
        rotate_left
        · (intro w' hSw; (try dsimp only at hSw); go_simp; first | done | with_reducible rfl)
        simp only [Act.put, List.setIfInBounds_toArray, List.set_cons_zero, List.set_cons_succ]
        refine rg_take (v := ?_) 2 rfl (by kernel_rfl) (by kernel_rfl) (by kernel_rfl) (fun _ _ _ h => h) (by kernel_rfl) ?_ (by assumption) ?_
        rotate_left
        · (intro w' hSw; (try dsimp only at hSw); go_simp; first | done | with_reducible rfl)
        simp only [Act.put, List.setIfInBounds_toArray, List.set_cons_zero, List.set_cons_succ]
        refine rg_take (v := ?_) 3 rfl (by kernel_rfl) (by kernel_rfl) (by kernel_rfl) (fun _ _ _ h => h) (by kernel_rfl) ?_ (by assumption) ?_
        rotate_left
        · (intro w' hSw; (try dsimp only at hSw); go_simp; first | done | with_reducible rfl)
        simp only [Act.put, List.setIfInBounds_toArray, List.set_cons_zero, List.set_cons_succ]
        refine rg_take (v := ?_) 4 rfl (by kernel_rfl) (by kernel_rfl) (by kernel_rfl) (fun _ _ _ h => h) (by kernel_rfl) ?_ (by assumption) ?_
        rotate_left
        · (intro w' hSw; (try dsimp only at hSw); go_simp; first | done | with_reducible rfl)
        simp only [Act.put, List.setIfInBounds_toArray, List.set_cons_zero, List.set_cons_succ]
        refine rg_take (v := ?_) 5 rfl (by kernel_rfl) (by kernel_rfl) (by kernel_rfl) (fun _ _ _ h => h) (by kernel_rfl) ?_ (by assumption) ?_
        rotate_left
        · (intro w' hSw; (try dsimp only at hSw); go_simp; first | done | with_reducible rfl)
        simp only [Act.put, List.setIfInBounds_toArray, List.set_cons_zero, List.set_cons_succ]
        refine rg_take (v := ?_) 6 rfl (by kernel_rfl) (by kernel_rfl) (by kernel_rfl) (fun _ _ _ h => h) (by kernel_rfl) ?_ (by assumption) ?_
        rotate_left
        · (intro w' hSw; (try dsimp only at hSw); go_simp; first | done | with_reducible rfl)
        simp only [Act.put, List.setIfInBounds_toArray, List.set_cons_zero, List.set_cons_succ]
        refine rg_take (v := ?_) 7 rfl (by kernel_rfl) (by kernel_rfl) (by kernel_rfl) (fun _ _ _ h => h) (by kernel_rfl) ?_ (by assumption) ?_
        rotate_left
        · (intro w' hSw; (try dsimp only at hSw); go_simp; first | done | with_reducible rfl)
        simp only [Act.put, List.setIfInBounds_toArray, List.set_cons_zero, List.set_cons_succ]
        refine rg_take (v := ?_) 8 rfl (by kernel_rfl) (by kernel_rfl) (by kernel_rfl) (fun _ _ _ h => h) (by kernel_rfl) ?_ (by assumption) ?_
        rotate_left
        · (intro w' hSw; (try dsimp only at hSw); go_simp; first | done | with_reducible rfl)
        simp only [Act.put, List.setIfInBounds_toArray, List.set_cons_zero, List.set_cons_succ]
        refine rg_take (v := ?_) 9 rfl (by kernel_rfl) (by kernel_rfl) (by kernel_rfl) (fun _ _ _ h => h) (by kernel_rfl) ?_ (by assumption) ?_
        rotate_left
        · (intro w' hSw; (try dsimp only at hSw); go_simp; first | done | with_reducible rfl)
        simp only [Act.put, List.setIfInBounds_toArray, List.set_cons_zero, List.set_cons_succ]
        refine rg_take (v := ?_) 11 rfl (by kernel_rfl) (by kernel_rfl) (by kernel_rfl) (fun _ _ _ h => h) (by kernel_rfl) ?_ (by assumption) ?_
        rotate_left
        · (intro w' hSw; (try dsimp only at hSw); go_simp; first | done | with_reducible rfl)
        simp only [Act.put, List.setIfInBounds_toArray, List.set_cons_zero, List.set_cons_succ]
        refine rg_run 10 rfl (by kernel_rfl) (by kernel_rfl) (fun K hK => ?_)
        go_simp
        refine (HBL.out _ (((H.out.below B0.out).below HB7.out).below (Below.refl _ _).drew)).mono ?_
        rintro e w8 ⟨A8, c8, rfl, hob, hb8⟩
        have hbs := below_chain (Below.refl wr.heap.size wr).drew hb8
        have HB8 := Lib.hid (below_chain HB7.out hbs)
        have HO8 := Lib.hid (own_below HO7.out hbs)
        have HOB8 := Lib.hid (own_mono hob (show W.heap.size ≤ wr.drew.heap.size from HB7.out.size))
        replace k0 := cell_later hbs (by exact k0)
        replace k1 := cell_later hbs (by exact k1)
        replace k2 := cell_later hbs (by exact k2)
        replace k3 := cell_later hbs (by exact k3)
        replace k4 := cell_later hbs (by exact k4)
        replace k5 := cell_later hbs (by exact k5)
        obtain ⟨⟨x0, x1, x2, x3, x4⟩, f0, f1, f2, f3, f4⟩ := (HX.out.below HB7.out).below hbs
        have hrb := World.block_lt_of_cell? _ _ HX.out.1.1
        dsimp only at hrb
        clear hbs hb8 hob HB7 HO7
        have hxz := World.block_lt_of_cell? _ _ x0
        go_wp2
        clear hHeld
        refine hK.out _ _ (by exact ⟨k0, k1, k2, k3, k4, k5⟩) (fun hHeld => ?_)
        clear hK K
        try simp only [Act.put, List.setIfInBounds_toArray, List.set_cons_zero, List.set_cons_succ]
        refine rg_take (v := ?_) 12 rfl (by kernel_rfl) (by kernel_rfl) (by kernel_rfl) (fun _ _ _ h => h) (by kernel_rfl) ?_ (by assumption) ?_
        rotate_left
        · (intro w' hSw; (try dsimp only at hSw); go_simp; first | done | with_reducible rfl)
        simp only [Act.put, List.setIfInBounds_toArray, List.set_cons_zero, List.set_cons_succ]
        refine rg_run 13 rfl (by kernel_rfl) (by kernel_rfl) (fun K hK => ?_)
        go_simp
        go_wp2
        clear hHeld
        refine hK.out _ _ (by refine ⟨?_, ?_, ?_, ?_, ?_, ?_⟩ <;> go_simp) (fun hHeld => ?_)
        clear hK K
        try simp only [Act.put, List.setIfInBounds_toArray, List.set_cons_zero, List.set_cons_succ]
        refine wpAnyH_done (by kernel_rfl) ?_ _
        clear hHeld
        clear k0 k1 k2 k3 k4 k5
        go_wp2_with (fail)
        refine bodyPost_ret (v := .agg #[.int .i64 p.ins.length, .int .i64 p.vs.length, .int .i64 p.os.length, .slice A8 (blk p).length c8, .slice A3 n C3]) (by simp [results, Tryz.results44, go_sem, x0, x1, x2, x3, x4]) rfl (by
          refine HRET.out _ _ _ _ _ _ HLN7.out ?_ ?_ ?_
          · exact own_mono (own_set5 HOB8.out hrb _ _ _ _ _) B0.out.size
          · rw [HC7.out]; exact own_mono (own_set5 HO8.out hrb _ _ _ _ _) B0.out.size
          · exact below_set5 (below_chain B0.out HB8.out) (by omega) _ _ _ _ _)
end Go.Proofs.YtackekfjalaacaaGreatDoor
