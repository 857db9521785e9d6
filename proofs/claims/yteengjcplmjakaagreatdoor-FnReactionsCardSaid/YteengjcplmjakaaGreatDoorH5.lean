/- Contracts and helpers (joined texts, part 5). The conditions stand at each theorem. -/
import Derived.Test.YteengjcplmjakaaGreatDoorH4
import Derived.Test.YteengjcplmjakaaGreatDoorRgE
import Derived.Test.YteengjcplmjakaaGreatDoorH1
/- The reference's l17Compile (printed by QCc.py). Condition: the program is sound; the lengths. -/
namespace Go.Proofs.YteengjcplmjakaaGreatDoor
open Go.RowKit

/-- The box of a code that is handed back. -/
def CRB (w : World) (b : Nat) : Prop := (w.cell? ⟨b, 0, none⟩ = some (.int .i64 0) ∧ w.cell? ⟨b, 1, none⟩ = some (.int .i64 0) ∧ w.cell? ⟨b, 2, none⟩ = some (.int .i64 0) ∧ w.cell? ⟨b, 3, none⟩ = some (.slice none 0 0) ∧ w.cell? ⟨b, 4, none⟩ = some (.slice none 0 0)) ∧
  (w.frozen? ⟨b, 0, none⟩ = false ∧ w.frozen? ⟨b, 1, none⟩ = false ∧ w.frozen? ⟨b, 2, none⟩ = false ∧ w.frozen? ⟨b, 3, none⟩ = false ∧ w.frozen? ⟨b, 4, none⟩ = false)
theorem CRB.below {w w' : World} {b : Nat} (h : CRB w b) (hb : Below w.heap.size w w') : CRB w' b := by
  have hz := World.block_lt_of_cell? _ _ h.1.1
  obtain ⟨⟨x0, x1, x2, x3, x4⟩, f0, f1, f2, f3, f4⟩ := h
  exact ⟨⟨cell_later hb x0, cell_later hb x1, cell_later hb x2, cell_later hb x3, cell_later hb x4⟩, frozen_later hb hz f0, frozen_later hb hz f1, frozen_later hb hz f2, frozen_later hb hz f3, frozen_later hb hz f4⟩
theorem own_set5 {w : World} {base : Nat} {e : TypeId} {size : Nat} {v : Value} {n : Nat} {xs : List Value} (h : w.ownsRow base e size v n xs) {b : Nat} (hb : b < base) (u0 u1 u2 u3 u4 : Value) :
    (((((w.setCell ⟨b, 0, none⟩ u0).setCell ⟨b, 1, none⟩ u1).setCell ⟨b, 2, none⟩ u2).setCell ⟨b, 3, none⟩ u3).setCell ⟨b, 4, none⟩ u4).ownsRow base e size v n xs :=
  ownsRow_setCell_below (ownsRow_setCell_below (ownsRow_setCell_below (ownsRow_setCell_below (ownsRow_setCell_below h hb _) hb _) hb _) hb _) hb _
theorem below_set5 {w a : World} (h : Below w.heap.size w a) {b : Nat} (hb : w.heap.size ≤ b) (u0 u1 u2 u3 u4 : Value) :
    Below w.heap.size w (((((a.setCell ⟨b, 0, none⟩ u0).setCell ⟨b, 1, none⟩ u1).setCell ⟨b, 2, none⟩ u2).setCell ⟨b, 3, none⟩ u3).setCell ⟨b, 4, none⟩ u4) :=
  below_set (below_set (below_set (below_set (below_set h _ hb) _ hb) _ hb) _ hb) _ hb
/-- What is handed back: a code with lists of the call's own. -/
def RetCd (c : Cd) (w : World) (e : Ending) (w' : World) : Prop :=
  ∃ A1 c1 A2 c2, e = .returned (cv c A1 A2 c1 c2) ∧ w'.ownsRow w.heap.size 60 3 (.slice A1 c.bs.length c1) c.bs.length (tmCells c.bs) ∧ w'.ownsRow w.heap.size 88 2 (.slice A2 c.ss.length c2) c.ss.length (insCells c.ss) ∧ Below w.heap.size w w'
set_option maxHeartbeats 2000000 in
set_option maxRecDepth 100000 in
theorem c_l17Compile (p : Prg) (a1 a2 a3 a4 : Option Addr) (c1 c2 c3 c4 : Nat) (w : World) (hs : PgOk p) (hd : Snd p) (h : PgR w a1 a2 a3 a4 p) :
    Calls Tryz.prog 45 #[pv p a1 a2 a3 a4 c1 c2 c3 c4] w (RetCd (cmp p) w) := by
  have H := Lib.hid h
  have HN := Lib.hid (fun s a b w h => c_l17Name p a1 a2 a3 a4 c1 c2 c3 c4 s a b w hs h)
  have HI := Lib.hid (fun s w h => c_l14Index a2 c2 _ p.vs s w rfl hs.v.1 h)
  have HJ := Lib.hid (fun s w h => c_l14Index a3 c3 _ p.os s w rfl hs.o.1 h)
  have HBL := Lib.hid (fun w h => c_l14Blocks p a1 a2 a3 a4 c1 c2 c3 c4 w hd.b h)
  have HD := Lib.hid hd
  have hi1 := hd.b.i
  have hv1 := hd.b.v
  have ho1 := hd.b.o
  have bl := hd.b.l
  have B0 := Lib.hid (below_alloc (below_alloc (Below.refl w.heap.size w) (.cells #[.string p.nm, .slice a1 p.ins.length c1, .slice a2 p.vs.length c2, .slice a3 p.os.length c3, .string p.gd, .slice a4 p.ls.length c4] 27)) (.cells #[.int .i64 0, .int .i64 0, .int .i64 0, .slice none 0 0, .slice none 0 0] 35))
  have HP : Hid (PB ((w.alloc (.cells #[.string p.nm, .slice a1 p.ins.length c1, .slice a2 p.vs.length c2, .slice a3 p.os.length c3, .string p.gd, .slice a4 p.ls.length c4] 27)).alloc (.cells #[.int .i64 0, .int .i64 0, .int .i64 0, .slice none 0 0, .slice none 0 0] 35)) w.heap.size p a1 a2 a3 a4 c1 c2 c3 c4) := Lib.hid ⟨by go_simp, by go_simp, by go_simp, by go_simp, by go_simp, by go_simp⟩
  have HX : Hid (CRB ((w.alloc (.cells #[.string p.nm, .slice a1 p.ins.length c1, .slice a2 p.vs.length c2, .slice a3 p.os.length c3, .string p.gd, .slice a4 p.ls.length c4] 27)).alloc (.cells #[.int .i64 0, .int .i64 0, .int .i64 0, .slice none 0 0, .slice none 0 0] 35)) (w.heap.size + 1)) := Lib.hid ⟨⟨by go_simp, by go_simp, by go_simp, by go_simp, by go_simp⟩, by go_simp, by go_simp, by go_simp, by go_simp, by go_simp⟩
  clear hs hd h
  dsimp only [pv]
  go_enter Tryz.func45, Tryz.ntmps45
  go_upto_region 1 with (fail)
  generalize (w.alloc (.cells #[.string p.nm, .slice a1 p.ins.length c1, .slice a2 p.vs.length c2, .slice a3 p.os.length c3, .string p.gd, .slice a4 p.ls.length c4] 27)).alloc (.cells #[.int .i64 0, .int .i64 0, .int .i64 0, .slice none 0 0, .slice none 0 0] 35) = W at *
  have HO0 : Hid ((W.alloc (.cells #[] 88)).ownsRow W.heap.size 88 2 (.slice (some ⟨W.heap.size, 0, none⟩) 0 0) 0 (insCells (csP p 0 (p.ls.take 0)))) := Lib.hid (by
    have h := World.ownsRow_lit (e := 88) (size := 2) (base := W.heap.size) W #[] 0 (Nat.le_refl _) (by decide) (by simp)
    simpa [insCells, csP] using h)
  have BE := Lib.hid (below_alloc (Below.refl W.heap.size W) (.cells #[] 88))
  go_wp2_with (fail)
  go_loopw [3, 4, 5, 6, 7, 8] (fun u bk i _ _ _ wr => ∃ (k n : Nat) (A3 : Option Addr) (c3 : Nat), k ≤ p.ls.length ∧ n ≤ 41 * k ∧ i = .int .i64 k ∧ u = .slice A3 n c3 ∧ bk = .int .i64 (nbL (p.ls.take k) : Nat) ∧ Hid ((csP p 0 (p.ls.take k)).length = n) ∧ Hid (wr.ownsRow W.heap.size 88 2 (.slice A3 n c3) n (insCells (csP p 0 (p.ls.take k)))) ∧ Hid (Below W.heap.size W wr)) (fun _ _ i _ _ _ _ => p.ls.length - (intOf i).toNat)
  case atStart => exact ⟨0, 0, _, _, Nat.zero_le _, by omega, rfl, rfl, rfl, Lib.hid rfl, HO0, BE⟩
  case round =>
    obtain ⟨k, n, A3, C3, hk, hn, rfl, rfl, rfl, hl3, ho, hb⟩ := hrel
    clear HO0 BE
    obtain ⟨k0, k1, k2, k3, k4, k5⟩ := HP.out.below hb.out
    have hnb := nbL_le HD.out.b k
    by_cases hlt : k < p.ls.length
    · obtain ⟨⟨tg, ts⟩, hz⟩ : ∃ z, p.ls[k]? = some z := ⟨_, List.getElem?_eq_getElem (by omega)⟩
      have HKD := Lib.hid (HD.out.k _ (List.mem_of_getElem? hz))
      have htl := HD.out.b.t _ (List.mem_of_getElem? hz)
      have HFS := Lib.hid (csP_step hz)
      have HNS := Lib.hid (nbL_step hz)
      obtain ⟨b, off, la, lc, rfl, hblt, g0w, g1w, hroww⟩ := H.out.l.at hz
      dsimp only at g0w g1w hroww
      have GW0 := Lib.hid g0w
      have GW1 := Lib.hid g1w
      have HROW := Lib.hid hroww
      have HLB : Hid (b < W.heap.size) := Lib.hid (Nat.lt_of_lt_of_le hblt B0.out.size)
      have g0 := cell_later (below_chain B0.out hb.out) g0w
      have g1 := cell_later (below_chain B0.out hb.out) g1w
      clear g0w g1w hroww
      have hk0 : (0 : Int) ≤ (k : Int) := by omega
      have hk1 : (k : Int) < p.ls.length := by omega
      dsimp only at htl HKD HNS
      clear hz
      generalize csP p 0 (p.ls.take k) = S0 at *
      generalize nbL (p.ls.take k) = nb0 at *
      go_wp2_with (fail)
      go_loopw [3, 4, 6, 7] (fun u bk i _ wq => ∃ (q n2 : Nat) (A3 : Option Addr) (c3 : Nat), q ≤ ts.length ∧ n2 ≤ 41 * k + q ∧ i = .int .i64 q ∧ u = .slice A3 n2 c3 ∧ bk = .int .i64 (nb0 + nbT (ts.take q) : Nat) ∧ Hid ((S0 ++ csT p nb0 (ts.take q)).length = n2) ∧ Hid (wq.ownsRow W.heap.size 88 2 (.slice A3 n2 c3) n2 (insCells (S0 ++ csT p nb0 (ts.take q)))) ∧ Hid (Below W.heap.size W wq)) (fun _ _ i _ _ => ts.length - (intOf i).toNat)
      case atStart => exact ⟨0, n, A3, C3, Nat.zero_le _, by omega, rfl, rfl, by simp [nbT], Lib.hid (by simpa [csT] using hl3.out), Lib.hid (by simpa [csT] using ho.out), hb⟩
      case round =>
        obtain ⟨q, n2, A3, C3, hq, hn2, rfl, rfl, rfl, hl3, ho, hb⟩ := hrel
        clear k0 k1 k2 k3 k4 k5 g0 g1
        obtain ⟨k0, k1, k2, k3, k4, k5⟩ := HP.out.below hb.out
        have g0 := cell_later (below_chain B0.out hb.out) GW0.out
        have g1 := cell_later (below_chain B0.out hb.out) GW1.out
        have hrow := HROW.out.below (below_chain B0.out hb.out)
        by_cases hlt2 : q < ts.length
        · obtain ⟨⟨tk, tm, tx⟩, hz2⟩ : ∃ z, ts[q]? = some z := ⟨_, List.getElem?_eq_getElem hlt2⟩
          obtain ⟨b2, o2, rfl, _, m0, m1, m2⟩ := hrow.tm hz2
          have hkk := trm_k (HKD.out _ (List.mem_of_getElem? hz2))
          dsimp only at m0 m1 m2 hkk
          have hq0 : (0 : Int) ≤ (q : Int) := by omega
          have hq1 : (q : Int) < ts.length := by omega
          have HST := Lib.hid (csT_step (p := p) (b := nb0) hz2)
          have HNT := Lib.hid (nbT_step hz2)
          have hnt := nbT_le (ts.take q)
          rw [List.length_take] at hnt
          have hal := below_alloc (Below.refl wr.heap.size wr) (.cells #[.int .i64 tk, .string tm, .int .i64 tx] 60)
          have HB1 := Lib.hid (below_chain hb.out hal)
          have HO1 := Lib.hid (own_below ho.out hal)
          clear hz2 hrow hal ho hb
          generalize nbT (ts.take q) = nt0 at *
          generalize csT p nb0 (ts.take q) = T0 at *
          rcases (show tk = 1 ∨ tk = 2 ∨ tk = 3 ∨ tk = 4 ∨ tk = 5 ∨ tk = 6 ∨ 7 ≤ tk by omega) with rfl | rfl | rfl | rfl | rfl | rfl | h7
          · have HI9 : Hid (insT p (nb0 + nt0) ⟨1, tm, tx⟩ = nmI p tm 2 3) := Lib.hid rfl
            have HNT2 : Hid (nbT (ts.take (q + 1)) = nt0) := Lib.hid (by rw [HNT.out]; rfl)
            have HPL := Lib.hid (HP.out.below HB1.out)
            clear k0 k1 k2 k3 k4
            have k0 := HPL.out.1
            have k1 := HPL.out.2.1
            have k2 := HPL.out.2.2.1
            have k3 := HPL.out.2.2.2.1
            have k4 := HPL.out.2.2.2.2.1
            have k6 := HPL.out.2.2.2.2.2
            have x0 : (wr.alloc (.cells #[.int .i64 1, .string tm, .int .i64 tx] 60)).cell? ⟨wr.heap.size, 1, none⟩ = some (.string tm) := by go_simp
            go_upto_region 14 with (fail)
            generalize wr.alloc (.cells #[.int .i64 1, .string tm, .int .i64 tx] 60) = wl at *
            clear k5 g0 g1 m0 m1 m2
            go_wp2_with (fail)
            refine (HN.out tm 2 3 _ ((H.out.below B0.out).below HB1.out)).mono ?_
            rintro e w5 ⟨rfl, hb⟩
            have HB5 := Lib.hid (below_chain HB1.out hb)
            have HO5 := Lib.hid (own_below HO1.out hb)
            clear hb k0 k1 k2 k3 k4 k6 x0 HPL
            generalize nmI p tm 2 3 = I at *
            go_wp2_with (first
              | (at_builtin
                 refine wpList_push_ins _ rfl (.tmp 48) (.tmp 53) rfl W.heap.size _ n2 _ I w5.heap.size 1 rfl (own_below HO5.out (below_alloc (Below.refl _ _) _)) rfl (by go_simp) (by go_simp) (by omega) (below_alloc HB5.out _).size ?_
                 intro v7 w7 hown hgrow
                 obtain ⟨A9, c9, rfl⟩ := own_shape hown
                 have HB7 := Lib.hid (below_of_grown (below_alloc HB5.out _) hgrow (fun q hq => (HO5.out.lt q hq).1))
                 have HO7 := Lib.hid hown
                 clear hown hgrow)
              )
            go_roundw
            case rel => exact ⟨q + 1, n2 + 1, A9, c9, by omega, by omega, by go_num, rfl, by rw [HNT2.out]; rfl, Lib.hid (by rw [HST.out, HI9.out, ← List.append_assoc, List.length_append, hl3.out]; rfl), Lib.hid (by rw [HST.out, HI9.out, ← List.append_assoc]; exact HO7.out), HB7⟩
            case measure => simp [intOf]; omega
          · have HI9 : Hid (insT p (nb0 + nt0) ⟨2, tm, tx⟩ = ⟨1, 1⟩) := Lib.hid rfl
            have HNT2 : Hid (nbT (ts.take (q + 1)) = nt0) := Lib.hid (by rw [HNT.out]; rfl)
            go_wp2_with (first
              | (at_builtin
                 refine wpList_push_ins _ rfl (.tmp 57) (.tmp 59) rfl W.heap.size _ n2 _ ⟨1, 1⟩ (wr.heap.size + 1) 1 rfl (own_below HO1.out (below_alloc (Below.refl _ _) _)) rfl (by go_simp) (by go_simp) (by omega) (below_alloc HB1.out _).size ?_
                 intro v7 w7 hown hgrow
                 obtain ⟨A9, c9, rfl⟩ := own_shape hown
                 have HB7 := Lib.hid (below_of_grown (below_alloc HB1.out _) hgrow (fun q hq => (HO1.out.lt q hq).1))
                 have HO7 := Lib.hid hown
                 clear hown hgrow)
              )
            go_roundw
            case rel => exact ⟨q + 1, n2 + 1, A9, c9, by omega, by omega, by go_num, rfl, by rw [HNT2.out]; rfl, Lib.hid (by rw [HST.out, HI9.out, ← List.append_assoc, List.length_append, hl3.out]; rfl), Lib.hid (by rw [HST.out, HI9.out, ← List.append_assoc]; exact HO7.out), HB7⟩
            case measure => simp [intOf]; omega
          · have HI9 : Hid (insT p (nb0 + nt0) ⟨3, tm, tx⟩ = ⟨1, 0⟩) := Lib.hid rfl
            have HNT2 : Hid (nbT (ts.take (q + 1)) = nt0) := Lib.hid (by rw [HNT.out]; rfl)
            go_wp2_with (first
              | (at_builtin
                 refine wpList_push_ins _ rfl (.tmp 63) (.tmp 65) rfl W.heap.size _ n2 _ ⟨1, 0⟩ (wr.heap.size + 1) 1 rfl (own_below HO1.out (below_alloc (Below.refl _ _) _)) rfl (by go_simp) (by go_simp) (by omega) (below_alloc HB1.out _).size ?_
                 intro v7 w7 hown hgrow
                 obtain ⟨A9, c9, rfl⟩ := own_shape hown
                 have HB7 := Lib.hid (below_of_grown (below_alloc HB1.out _) hgrow (fun q hq => (HO1.out.lt q hq).1))
                 have HO7 := Lib.hid hown
                 clear hown hgrow)
              )
            go_roundw
            case rel => exact ⟨q + 1, n2 + 1, A9, c9, by omega, by omega, by go_num, rfl, by rw [HNT2.out]; rfl, Lib.hid (by rw [HST.out, HI9.out, ← List.append_assoc, List.length_append, hl3.out]; rfl), Lib.hid (by rw [HST.out, HI9.out, ← List.append_assoc]; exact HO7.out), HB7⟩
            case measure => simp [intOf]; omega
          · have HI9 : Hid (insT p (nb0 + nt0) ⟨4, tm, tx⟩ = ⟨4, 0⟩) := Lib.hid rfl
            have HNT2 : Hid (nbT (ts.take (q + 1)) = nt0) := Lib.hid (by rw [HNT.out]; rfl)
            go_wp2_with (first
              | (at_builtin
                 refine wpList_push_ins _ rfl (.tmp 71) (.tmp 77) rfl W.heap.size _ n2 _ ⟨4, 0⟩ (wr.heap.size + 1) 1 rfl (own_below HO1.out (below_alloc (Below.refl _ _) _)) rfl (by go_simp) (by go_simp) (by omega) (below_alloc HB1.out _).size ?_
                 intro v7 w7 hown hgrow
                 obtain ⟨A9, c9, rfl⟩ := own_shape hown
                 have HB7 := Lib.hid (below_of_grown (below_alloc HB1.out _) hgrow (fun q hq => (HO1.out.lt q hq).1))
                 have HO7 := Lib.hid hown
                 clear hown hgrow)
              )
            go_roundw
            case rel => exact ⟨q + 1, n2 + 1, A9, c9, by omega, by omega, by go_num, rfl, by rw [HNT2.out]; rfl, Lib.hid (by rw [HST.out, HI9.out, ← List.append_assoc, List.length_append, hl3.out]; rfl), Lib.hid (by rw [HST.out, HI9.out, ← List.append_assoc]; exact HO7.out), HB7⟩
            case measure => simp [intOf]; omega
          · have HI9 : Hid (insT p (nb0 + nt0) ⟨5, tm, tx⟩ = ⟨5, 0⟩) := Lib.hid rfl
            have HNT2 : Hid (nbT (ts.take (q + 1)) = nt0) := Lib.hid (by rw [HNT.out]; rfl)
            go_wp2_with (first
              | (at_builtin
                 refine wpList_push_ins _ rfl (.tmp 71) (.tmp 77) rfl W.heap.size _ n2 _ ⟨5, 0⟩ (wr.heap.size + 1) 1 rfl (own_below HO1.out (below_alloc (Below.refl _ _) _)) rfl (by go_simp) (by go_simp) (by omega) (below_alloc HB1.out _).size ?_
                 intro v7 w7 hown hgrow
                 obtain ⟨A9, c9, rfl⟩ := own_shape hown
                 have HB7 := Lib.hid (below_of_grown (below_alloc HB1.out _) hgrow (fun q hq => (HO1.out.lt q hq).1))
                 have HO7 := Lib.hid hown
                 clear hown hgrow)
              )
            go_roundw
            case rel => exact ⟨q + 1, n2 + 1, A9, c9, by omega, by omega, by go_num, rfl, by rw [HNT2.out]; rfl, Lib.hid (by rw [HST.out, HI9.out, ← List.append_assoc, List.length_append, hl3.out]; rfl), Lib.hid (by rw [HST.out, HI9.out, ← List.append_assoc]; exact HO7.out), HB7⟩
            case measure => simp [intOf]; omega
          · have HI9 : Hid (insT p (nb0 + nt0) ⟨6, tm, tx⟩ = ⟨6, 0⟩) := Lib.hid rfl
            have HNT2 : Hid (nbT (ts.take (q + 1)) = nt0) := Lib.hid (by rw [HNT.out]; rfl)
            go_wp2_with (first
              | (at_builtin
                 refine wpList_push_ins _ rfl (.tmp 71) (.tmp 77) rfl W.heap.size _ n2 _ ⟨6, 0⟩ (wr.heap.size + 1) 1 rfl (own_below HO1.out (below_alloc (Below.refl _ _) _)) rfl (by go_simp) (by go_simp) (by omega) (below_alloc HB1.out _).size ?_
                 intro v7 w7 hown hgrow
                 obtain ⟨A9, c9, rfl⟩ := own_shape hown
                 have HB7 := Lib.hid (below_of_grown (below_alloc HB1.out _) hgrow (fun q hq => (HO1.out.lt q hq).1))
                 have HO7 := Lib.hid hown
                 clear hown hgrow)
              )
            go_roundw
            case rel => exact ⟨q + 1, n2 + 1, A9, c9, by omega, by omega, by go_num, rfl, by rw [HNT2.out]; rfl, Lib.hid (by rw [HST.out, HI9.out, ← List.append_assoc, List.length_append, hl3.out]; rfl), Lib.hid (by rw [HST.out, HI9.out, ← List.append_assoc]; exact HO7.out), HB7⟩
            case measure => simp [intOf]; omega
          · have HI9 : Hid (insT p (nb0 + nt0) ⟨tk, tm, tx⟩ = ⟨7, ((nb0 + nt0 : Nat) : Int)⟩) := Lib.hid (insT_d h7)
            have HNT2 : Hid (nbT (ts.take (q + 1)) = nt0 + 1) := Lib.hid (by rw [HNT.out, if_pos (show isB ⟨tk, tm, tx⟩ = true from decide_eq_true h7)])
            have e1 : (tk == 1) = false := by simp; omega
            have e2 : (tk == 2) = false := by simp; omega
            have e3 : (tk == 3) = false := by simp; omega
            have e4 : (tk == 4) = false := by simp; omega
            have e5 : (tk == 5) = false := by simp; omega
            have e6 : (tk == 6) = false := by simp; omega
            have hw9 : IntKind.i64.wrap (((nb0 + nt0 : Nat) : Int) + 1) = ((nb0 + nt0 : Nat) : Int) + 1 := IntWalk.i64_in _ (by omega)
            clear h7 hkk
            go_wp2_with (first
              | (at_builtin
                 refine wpList_push_ins _ rfl (.tmp 39) (.tmp 42) rfl W.heap.size _ n2 _ ⟨7, ((nb0 + nt0 : Nat) : Int)⟩ (wr.heap.size + 1) 1 rfl (own_below HO1.out (below_alloc (Below.refl _ _) _)) rfl (by go_simp) (by go_simp) (by omega) (below_alloc HB1.out _).size ?_
                 intro v7 w7 hown hgrow
                 obtain ⟨A9, c9, rfl⟩ := own_shape hown
                 have HB7 := Lib.hid (below_of_grown (below_alloc HB1.out _) hgrow (fun q hq => (HO1.out.lt q hq).1))
                 have HO7 := Lib.hid hown
                 clear hown hgrow)
              )
            go_roundw
            case rel => exact ⟨q + 1, n2 + 1, A9, c9, by omega, by omega, by go_num, rfl, by rw [HNT2.out]; rfl, Lib.hid (by rw [HST.out, HI9.out, ← List.append_assoc, List.length_append, hl3.out]; rfl), Lib.hid (by rw [HST.out, HI9.out, ← List.append_assoc]; exact HO7.out), HB7⟩
            case measure => simp [intOf]; omega
        · obtain rfl : q = ts.length := by omega
          have hts : ts.take ts.length = ts := List.take_length
          rw [hts] at hl3 ho
          have HL3 := Lib.hid hl3.out
          have HO3 := Lib.hid ho.out
          have hn2b : n2 ≤ 41 * k + 40 := by omega
          clear hl3 ho hrow hts
          have HTS : Hid (csP p 0 (p.ls.take (k + 1)) = S0 ++ csT p nb0 ts ++ [tgI p tg]) := Lib.hid (by rw [HFS.out]; unfold csL; rw [List.append_assoc])
          have HTV : Hid (0 ≤ ixS p.vs tg ∧ tgI p tg = ⟨8, ixS p.vs tg⟩ ∨ ixS p.vs tg < 0 ∧ tgI p tg = ⟨9, ixS p.os tg⟩) := Lib.hid (by
            by_cases h0 : 0 ≤ ixS p.vs tg
            · exact .inl ⟨h0, tgI_v h0⟩
            · exact .inr ⟨by omega, tgI_o (by omega)⟩)
          have HNB : Hid (nbT ts = nbT (ts.take ts.length)) := Lib.hid (by rw [List.take_length])
          rw [List.take_length]
          generalize csT p nb0 ts = T0 at *
          generalize nbT ts = nt0 at *
          go_wp2_with (fail)
          refine wp_region_held_drew (S := (fun w' => (w'.cell? ⟨w.heap.size, 0, none⟩ = some (.string p.nm) ∧ w'.cell? ⟨w.heap.size, 1, none⟩ = some (.slice a1 p.ins.length c1) ∧ w'.cell? ⟨w.heap.size, 2, none⟩ = some (.slice a2 p.vs.length c2) ∧ w'.cell? ⟨w.heap.size, 3, none⟩ = some (.slice a3 p.os.length c3) ∧ w'.cell? ⟨w.heap.size, 4, none⟩ = some (.string p.gd) ∧ w'.cell? ⟨w.heap.size, 5, none⟩ = some (.slice (some ⟨b, off, none⟩) p.ls.length c4)) ∧ w'.cell? ⟨b, off + k * 2, none⟩ = some (.string tg))) (by kernel_rfl) ?_ (fun hHeld => ?_)
          · exact ⟨⟨k0, k1, k2, k3, k4, k5⟩, g0⟩
          refine rg_take (v := ?_) 0 rfl (by kernel_rfl) (by kernel_rfl) (by kernel_rfl) (fun _ _ _ h => h) (by kernel_rfl) ?_ (by assumption) ?_
          rotate_left
          · (intro w' hSw; (try dsimp only at hSw); go_simp; first | done | with_reducible rfl)
          simp only [Act.put, List.setIfInBounds_toArray, List.set_cons_zero, List.set_cons_succ]
          refine rg_take (v := ?_) 1 rfl (by kernel_rfl) (by kernel_rfl) (by kernel_rfl) (fun _ _ _ h => h) (by kernel_rfl) ?_ (by assumption) ?_
          rotate_left
          · (intro w' hSw; (try dsimp only at hSw); go_simp; first | done | with_reducible rfl)
          simp only [Act.put, List.setIfInBounds_toArray, List.set_cons_zero, List.set_cons_succ]
          refine rg_take (v := ?_) 2 rfl (by kernel_rfl) (by kernel_rfl) (by kernel_rfl) (fun _ _ _ h => h) (by kernel_rfl) ?_ (by assumption) ?_
          rotate_left
          · (intro w' hSw; (try dsimp only at hSw); go_simp; first | done | with_reducible rfl)
          simp only [Act.put, List.setIfInBounds_toArray, List.set_cons_zero, List.set_cons_succ]
          refine rg_take (v := ?_) 3 rfl (by kernel_rfl) (by kernel_rfl) (by kernel_rfl) (fun _ _ _ h => h) (by kernel_rfl) ?_ (by assumption) ?_
          rotate_left
          · (intro w' hSw; (try dsimp only at hSw); go_simp; first | done | with_reducible rfl)
          simp only [Act.put, List.setIfInBounds_toArray, List.set_cons_zero, List.set_cons_succ]
          refine rg_take (v := ?_) 4 rfl (by kernel_rfl) (by kernel_rfl) (by kernel_rfl) (fun _ _ _ h => h) (by kernel_rfl) ?_ (by assumption) ?_
          rotate_left
          · (intro w' hSw; (try dsimp only at hSw); go_simp; first | done | with_reducible rfl)
          simp only [Act.put, List.setIfInBounds_toArray, List.set_cons_zero, List.set_cons_succ]
          refine rg_take (v := ?_) 5 rfl (by kernel_rfl) (by kernel_rfl) (by kernel_rfl) (fun _ _ _ h => h) (by kernel_rfl) ?_ (by assumption) ?_
          rotate_left
          · (intro w' hSw; (try dsimp only at hSw); go_simp; first | done | with_reducible rfl)
          simp only [Act.put, List.setIfInBounds_toArray, List.set_cons_zero, List.set_cons_succ]
          refine rg_take (v := ?_) 6 rfl (by kernel_rfl) (by kernel_rfl) (by kernel_rfl) (fun _ _ _ h => h) (by kernel_rfl) ?_ (by assumption) ?_
          rotate_left
          · (intro w' hSw; (try dsimp only at hSw); go_simp; first | done | with_reducible rfl)
          simp only [Act.put, List.setIfInBounds_toArray, List.set_cons_zero, List.set_cons_succ]
          refine rg_take (v := ?_) 7 rfl (by kernel_rfl) (by kernel_rfl) (by kernel_rfl) (fun _ _ _ h => h) (by kernel_rfl) ?_ (by assumption) ?_
          rotate_left
          · (intro w' hSw; (try dsimp only at hSw); go_simp; first | done | with_reducible rfl)
          simp only [Act.put, List.setIfInBounds_toArray, List.set_cons_zero, List.set_cons_succ]
          refine rg_run 8 rfl (by kernel_rfl) (by kernel_rfl) (fun K hK => ?_)
          go_simp
          refine (HI.out tg _ (H.out.v.below ((below_chain B0.out hb.out).drew))).mono ?_
          rintro e w5 ⟨rfl, hb5⟩
          have hbs : Below wr.heap.size wr w5 := below_chain (Below.refl _ _).drew hb5
          have HB5 := Lib.hid (below_chain hb.out hbs)
          have HO5 := Lib.hid (own_below HO3.out hbs)
          replace k0 := cell_later hbs (by exact k0)
          replace k1 := cell_later hbs (by exact k1)
          replace k2 := cell_later hbs (by exact k2)
          replace k3 := cell_later hbs (by exact k3)
          replace k4 := cell_later hbs (by exact k4)
          replace k5 := cell_later hbs (by exact k5)
          replace g0 := cell_later hbs (by exact g0)
          clear hbs hb5 hb HO3
          go_wp2
          clear hHeld
          refine hK.out _ _ (by exact ⟨⟨k0, k1, k2, k3, k4, k5⟩, g0⟩) (fun hHeld => ?_)
          clear hK K
          try simp only [Act.put, List.setIfInBounds_toArray, List.set_cons_zero, List.set_cons_succ]
          refine rg_take (v := ?_) 9 rfl (by kernel_rfl) (by kernel_rfl) (by kernel_rfl) (fun _ _ _ h => h) (by kernel_rfl) ?_ (by assumption) ?_
          rotate_left
          · (intro w' hSw; (try dsimp only at hSw); go_simp; first | done | with_reducible rfl)
          simp only [Act.put, List.setIfInBounds_toArray, List.set_cons_zero, List.set_cons_succ]
          refine wpAnyH_done (by kernel_rfl) ?_ _
          clear hHeld
          rcases HTV.out with ⟨h0, e0⟩ | ⟨h0, e0⟩
          · rw [e0] at HTS
            clear e0 HTV k0 k1 k2 k3 k4 k5 g0 g1
            generalize ixS p.vs tg = z at *
            go_wp2_with (first
              | (at_builtin
                 refine wpList_push_ins _ rfl (.tmp 90) (.tmp 93) rfl W.heap.size _ n2 _ ⟨8, z⟩ w5.heap.size 1 rfl (own_below HO5.out (below_alloc (Below.refl _ _) _)) rfl (by go_simp) (by go_simp) (by omega) (below_alloc HB5.out _).size ?_
                 intro v7 w7 hown hgrow
                 obtain ⟨A9, c9, rfl⟩ := own_shape hown
                 have HB7 := Lib.hid (below_of_grown (below_alloc HB5.out _) hgrow (fun q hq => (HO5.out.lt q hq).1))
                 have HO7 := Lib.hid hown
                 clear hown hgrow)
              )
            go_roundw
            case rel => exact ⟨k + 1, n2 + 1, A9, c9, by omega, by omega, by go_num, rfl, by rw [HNS.out, HNB.out]; rfl, Lib.hid (by rw [HTS.out, List.length_append, HL3.out]; rfl), Lib.hid (by rw [HTS.out]; exact HO7.out), HB7⟩
            case measure => simp [intOf]; omega
          · rw [e0] at HTS
            clear e0 HTV
            generalize ixS p.vs tg = z at *
            go_wp2_with (fail)
            refine wp_region_held_drew (S := (fun w' => (w'.cell? ⟨w.heap.size, 0, none⟩ = some (.string p.nm) ∧ w'.cell? ⟨w.heap.size, 1, none⟩ = some (.slice a1 p.ins.length c1) ∧ w'.cell? ⟨w.heap.size, 2, none⟩ = some (.slice a2 p.vs.length c2) ∧ w'.cell? ⟨w.heap.size, 3, none⟩ = some (.slice a3 p.os.length c3) ∧ w'.cell? ⟨w.heap.size, 4, none⟩ = some (.string p.gd) ∧ w'.cell? ⟨w.heap.size, 5, none⟩ = some (.slice (some ⟨b, off, none⟩) p.ls.length c4)) ∧ w'.cell? ⟨b, off + k * 2, none⟩ = some (.string tg))) (by kernel_rfl) ?_ (fun hHeld => ?_)
            · exact ⟨⟨k0, k1, k2, k3, k4, k5⟩, g0⟩
            refine rg_take (v := ?_) 0 rfl (by kernel_rfl) (by kernel_rfl) (by kernel_rfl) (fun _ _ _ h => h) (by kernel_rfl) ?_ (by assumption) ?_
            rotate_left
            · (intro w' hSw; (try dsimp only at hSw); go_simp; first | done | with_reducible rfl)
            simp only [Act.put, List.setIfInBounds_toArray, List.set_cons_zero, List.set_cons_succ]
            refine rg_take (v := ?_) 1 rfl (by kernel_rfl) (by kernel_rfl) (by kernel_rfl) (fun _ _ _ h => h) (by kernel_rfl) ?_ (by assumption) ?_
            rotate_left
            · (intro w' hSw; (try dsimp only at hSw); go_simp; first | done | with_reducible rfl)
            simp only [Act.put, List.setIfInBounds_toArray, List.set_cons_zero, List.set_cons_succ]
            refine rg_take (v := ?_) 2 rfl (by kernel_rfl) (by kernel_rfl) (by kernel_rfl) (fun _ _ _ h => h) (by kernel_rfl) ?_ (by assumption) ?_
            rotate_left
            · (intro w' hSw; (try dsimp only at hSw); go_simp; first | done | with_reducible rfl)
            simp only [Act.put, List.setIfInBounds_toArray, List.set_cons_zero, List.set_cons_succ]
            refine rg_take (v := ?_) 3 rfl (by kernel_rfl) (by kernel_rfl) (by kernel_rfl) (fun _ _ _ h => h) (by kernel_rfl) ?_ (by assumption) ?_
            rotate_left
            · (intro w' hSw; (try dsimp only at hSw); go_simp; first | done | with_reducible rfl)
            simp only [Act.put, List.setIfInBounds_toArray, List.set_cons_zero, List.set_cons_succ]
            refine rg_take (v := ?_) 4 rfl (by kernel_rfl) (by kernel_rfl) (by kernel_rfl) (fun _ _ _ h => h) (by kernel_rfl) ?_ (by assumption) ?_
            rotate_left
            · (intro w' hSw; (try dsimp only at hSw); go_simp; first | done | with_reducible rfl)
            simp only [Act.put, List.setIfInBounds_toArray, List.set_cons_zero, List.set_cons_succ]
            refine rg_take (v := ?_) 5 rfl (by kernel_rfl) (by kernel_rfl) (by kernel_rfl) (fun _ _ _ h => h) (by kernel_rfl) ?_ (by assumption) ?_
            rotate_left
            · (intro w' hSw; (try dsimp only at hSw); go_simp; first | done | with_reducible rfl)
            simp only [Act.put, List.setIfInBounds_toArray, List.set_cons_zero, List.set_cons_succ]
            refine rg_take (v := ?_) 6 rfl (by kernel_rfl) (by kernel_rfl) (by kernel_rfl) (fun _ _ _ h => h) (by kernel_rfl) ?_ (by assumption) ?_
            rotate_left
            · (intro w' hSw; (try dsimp only at hSw); go_simp; first | done | with_reducible rfl)
            simp only [Act.put, List.setIfInBounds_toArray, List.set_cons_zero, List.set_cons_succ]
            refine rg_take (v := ?_) 7 rfl (by kernel_rfl) (by kernel_rfl) (by kernel_rfl) (fun _ _ _ h => h) (by kernel_rfl) ?_ (by assumption) ?_
            rotate_left
            · (intro w' hSw; (try dsimp only at hSw); go_simp; first | done | with_reducible rfl)
            simp only [Act.put, List.setIfInBounds_toArray, List.set_cons_zero, List.set_cons_succ]
            refine rg_take (v := ?_) 8 rfl (by kernel_rfl) (by kernel_rfl) (by kernel_rfl) (fun _ _ _ h => h) (by kernel_rfl) ?_ (by assumption) ?_
            rotate_left
            · (intro w' hSw; (try dsimp only at hSw); go_simp; first | done | with_reducible rfl)
            simp only [Act.put, List.setIfInBounds_toArray, List.set_cons_zero, List.set_cons_succ]
            refine rg_run 9 rfl (by kernel_rfl) (by kernel_rfl) (fun K hK => ?_)
            go_simp
            refine (HJ.out tg _ (H.out.o.below ((below_chain B0.out HB5.out).drew))).mono ?_
            rintro e w6 ⟨rfl, hb6⟩
            have hbs : Below w5.heap.size w5 w6 := below_chain (Below.refl _ _).drew hb6
            have HB6 := Lib.hid (below_chain HB5.out hbs)
            have HO6 := Lib.hid (own_below HO5.out hbs)
            replace k0 := cell_later hbs (by exact k0)
            replace k1 := cell_later hbs (by exact k1)
            replace k2 := cell_later hbs (by exact k2)
            replace k3 := cell_later hbs (by exact k3)
            replace k4 := cell_later hbs (by exact k4)
            replace k5 := cell_later hbs (by exact k5)
            replace g0 := cell_later hbs (by exact g0)
            clear hbs hb6
            generalize ixS p.os tg = z2 at *
            go_wp2
            clear hHeld
            refine hK.out _ _ (by exact ⟨⟨k0, k1, k2, k3, k4, k5⟩, g0⟩) (fun hHeld => ?_)
            clear hK K
            try simp only [Act.put, List.setIfInBounds_toArray, List.set_cons_zero, List.set_cons_succ]
            refine rg_take (v := ?_) 10 rfl (by kernel_rfl) (by kernel_rfl) (by kernel_rfl) (fun _ _ _ h => h) (by kernel_rfl) ?_ (by assumption) ?_
            rotate_left
            · (intro w' hSw; (try dsimp only at hSw); go_simp; first | done | with_reducible rfl)
            simp only [Act.put, List.setIfInBounds_toArray, List.set_cons_zero, List.set_cons_succ]
            refine rg_run 11 rfl (by kernel_rfl) (by kernel_rfl) (fun K hK => ?_)
            go_simp
            go_wp2
            have hal := below_alloc (Below.refl w6.heap.size w6) (.cells #[.int .i64 9, .int .i64 z2] 88)
            replace k0 := cell_later hal (by exact k0)
            replace k1 := cell_later hal (by exact k1)
            replace k2 := cell_later hal (by exact k2)
            replace k3 := cell_later hal (by exact k3)
            replace k4 := cell_later hal (by exact k4)
            replace k5 := cell_later hal (by exact k5)
            replace g0 := cell_later hal (by exact g0)
            have HB6a := Lib.hid (below_chain HB6.out hal)
            have HO6a := Lib.hid (own_below HO6.out hal)
            have x0 : (w6.alloc (.cells #[.int .i64 9, .int .i64 z2] 88)).cell? ⟨w6.heap.size, 0, none⟩ = some (.int .i64 9) := by go_simp
            have x1 : (w6.alloc (.cells #[.int .i64 9, .int .i64 z2] 88)).cell? ⟨w6.heap.size, 1, none⟩ = some (.int .i64 z2) := by go_simp
            clear hal
            generalize w6.alloc (.cells #[.int .i64 9, .int .i64 z2] 88) = W6 at *
            generalize w6.heap.size = g6 at *
            clear hHeld
            refine hK.out _ _ (by exact ⟨⟨k0, k1, k2, k3, k4, k5⟩, g0⟩) (fun hHeld => ?_)
            clear hK K
            try simp only [Act.put, List.setIfInBounds_toArray, List.set_cons_zero, List.set_cons_succ]
            refine rg_run 12 rfl (by kernel_rfl) (by kernel_rfl) (fun K hK => ?_)
            refine wp_push_ins _ (.tmp 95) (.tmp 106) rfl W.heap.size _ n2 _ ⟨9, z2⟩ g6 1 rfl (by exact HO6a.out) rfl (by exact x0) (by exact x1) (by omega) HB6a.out.size ?_
            intro v7 w7 hown hgrow
            obtain ⟨A9, c9, rfl⟩ := own_shape hown
            have HB7 := Lib.hid (below_of_grown HB6a.out hgrow (fun q hq => (HO6a.out.lt q hq).1))
            have HO7 := Lib.hid hown
            have HG := Lib.hid (fun (bb : Nat) (hbb : bb < W.heap.size) => show ∀ q, (Value.slice A3 n2 C3).ownBlock = some q → q ≠ bb from fun q hq e => by have := (HO6a.out.lt q hq).1; omega)
            have hzb := World.block_lt_of_cell? _ _ HP.out.1
            dsimp only at hzb
            have hzl := HLB.out
            replace k0 := cell_mark' (by exact k0) hgrow (HG.out _ hzb)
            replace k1 := cell_mark' (by exact k1) hgrow (HG.out _ hzb)
            replace k2 := cell_mark' (by exact k2) hgrow (HG.out _ hzb)
            replace k3 := cell_mark' (by exact k3) hgrow (HG.out _ hzb)
            replace k4 := cell_mark' (by exact k4) hgrow (HG.out _ hzb)
            replace k5 := cell_mark' (by exact k5) hgrow (HG.out _ hzb)
            replace g0 := cell_mark' (by exact g0) hgrow (HG.out _ hzl)
            clear hown hgrow x0 x1
            clear hHeld
            refine hK.out _ _ (by exact ⟨⟨k0, k1, k2, k3, k4, k5⟩, g0⟩) (fun hHeld => ?_)
            clear hK K
            try simp only [Act.put, List.setIfInBounds_toArray, List.set_cons_zero, List.set_cons_succ]
            refine rg_take (v := ?_) 13 rfl (by kernel_rfl) (by kernel_rfl) (by kernel_rfl) (fun _ _ _ h => h) (by kernel_rfl) ?_ (by assumption) ?_
            rotate_left
            · (intro w' hSw; (try dsimp only at hSw); go_simp; first | done | with_reducible rfl)
            simp only [Act.put, List.setIfInBounds_toArray, List.set_cons_zero, List.set_cons_succ]
            refine wpAnyH_done (by kernel_rfl) ?_ _
            clear hHeld
            go_wp2_with (fail)
            go_roundw
            case rel => exact ⟨k + 1, n2 + 1, A9, c9, by omega, by omega, by go_num, rfl, by rw [HNS.out, HNB.out]; rfl, Lib.hid (by rw [HTS.out, List.length_append, HL3.out]; rfl), Lib.hid (by rw [HTS.out]; exact HO7.out), HB7⟩
            case measure => simp [intOf]; omega
    · obtain rfl : k = p.ls.length := by omega
      have htk : p.ls.take p.ls.length = p.ls := List.take_length
      rw [htk] at hl3 ho
      have HL3 := Lib.hid hl3.out
      have HO3 := Lib.hid ho.out
      have HSS : Hid ((cmp p).ss = csP p 0 p.ls ++ gdI p) := Lib.hid rfl
      have HRET : Hid (∀ A1 q1 A2 n2 q2 w', n2 = (cmp p).ss.length → w'.ownsRow w.heap.size 60 3 (.slice A1 (blk p).length q1) (blk p).length (tmCells (blk p)) → w'.ownsRow w.heap.size 88 2 (.slice A2 n2 q2) n2 (insCells (cmp p).ss) → Below w.heap.size w w' → RetCd (cmp p) w (.returned (.agg #[.int .i64 p.ins.length, .int .i64 p.vs.length, .int .i64 p.os.length, .slice A1 (blk p).length q1, .slice A2 n2 q2])) w') := Lib.hid (fun A1 q1 A2 n2 q2 w' e h1 h2 h3 => by subst e; exact ⟨A1, q1, A2, q2, rfl, h1, h2, h3⟩)
      have HLEN : Hid ((cmp p).ss.length = n + (gdI p).length) := Lib.hid (by rw [HSS.out, List.length_append, HL3.out])
      clear hl3 ho htk hlt
      generalize (cmp p).ss = CS at *
      generalize csP p 0 p.ls = S0 at *
      generalize nbL (p.ls.take p.ls.length) = nb0 at *
      have hw1 : IntKind.i64.wrap ((p.ins.length : Nat) : Int) = (p.ins.length : Nat) := IntWalk.i64_in _ (by omega)
      have hw2 : IntKind.i64.wrap ((p.vs.length : Nat) : Int) = (p.vs.length : Nat) := IntWalk.i64_in _ (by omega)
      have hw3 : IntKind.i64.wrap ((p.os.length : Nat) : Int) = (p.os.length : Nat) := IntWalk.i64_in _ (by omega)
      rcases hg : p.gd.toList.isEmpty with _ | _
      · have HGI : Hid (gdI p = [nmI p p.gd 10 11]) := Lib.hid (by unfold gdI; rw [hg]; rfl)
        rw [HGI.out] at HSS HLEN
        go_wp2_with (fail)
        refine (HN.out p.gd 10 11 _ ((H.out.below B0.out).below hb.out)).mono ?_
        rintro e w5 ⟨rfl, hb5⟩
        have HB5 := Lib.hid (below_chain hb.out hb5)
        have HO5 := Lib.hid (own_below HO3.out hb5)
        generalize nmI p p.gd 10 11 = I at *
        clear hb5 hb HO3 hg k0 k1 k2 k3 k4 k5 HGI
        go_wp2_with (first
          | (at_builtin
             refine wpList_push_ins _ rfl (.tmp 111) (.tmp 116) rfl W.heap.size _ n _ I w5.heap.size 1 rfl (own_below HO5.out (below_alloc (Below.refl _ _) _)) rfl (by go_simp) (by go_simp) (by omega) (below_alloc HB5.out _).size ?_
             intro v7 w7 hown hgrow
             obtain ⟨A9, c9, rfl⟩ := own_shape hown
             have HB7 := Lib.hid (below_of_grown (below_alloc HB5.out _) hgrow (fun q hq => (HO5.out.lt q hq).1))
             have HO7 := Lib.hid hown
             obtain ⟨k0, k1, k2, k3, k4, k5⟩ := HP.out.below HB7.out
             clear hown hgrow)
          )
        have HLN7 : Hid (n + 1 = CS.length) := Lib.hid (by rw [HLEN.out]; rfl)
        have HC7 : Hid (CS = S0 ++ [I]) := HSS
        clear HSS HLEN HO5 HB5 HL3
        refine wp_region_held_drew (S := (fun w' => w'.cell? ⟨w.heap.size, 0, none⟩ = some (.string p.nm) ∧ w'.cell? ⟨w.heap.size, 1, none⟩ = some (.slice a1 p.ins.length c1) ∧ w'.cell? ⟨w.heap.size, 2, none⟩ = some (.slice a2 p.vs.length c2) ∧ w'.cell? ⟨w.heap.size, 3, none⟩ = some (.slice a3 p.os.length c3) ∧ w'.cell? ⟨w.heap.size, 4, none⟩ = some (.string p.gd) ∧ w'.cell? ⟨w.heap.size, 5, none⟩ = some (.slice a4 p.ls.length c4))) (by kernel_rfl) ?_ (fun hHeld => ?_)
        · exact ⟨k0, k1, k2, k3, k4, k5⟩
        refine rg_take (v := ?_) 0 rfl (by kernel_rfl) (by kernel_rfl) (by kernel_rfl) (fun _ _ _ h => h) (by kernel_rfl) ?_ (by assumption) ?_
        rotate_left
        · (intro w' hSw; (try dsimp only at hSw); go_simp; first | done | with_reducible rfl)
        simp only [Act.put, List.setIfInBounds_toArray, List.set_cons_zero, List.set_cons_succ]
        refine rg_take (v := ?_) 1 rfl (by kernel_rfl) (by kernel_rfl) (by kernel_rfl) (fun _ _ _ h => h) (by kernel_rfl) ?_ (by assumption) ?_
        rotate_left
        · (intro w' hSw; (try dsimp only at hSw); go_simp; first | done | with_reducible rfl)
        simp only [Act.put, List.setIfInBounds_toArray, List.set_cons_zero, List.set_cons_succ]
        refine rg_take (v := ?_) 2 rfl (by kernel_rfl) (by kernel_rfl) (by kernel_rfl) (fun _ _ _ h => h) (by kernel_rfl) ?_ (by assumption) ?_
        rotate_left
        · (intro w' hSw; (try dsimp only at hSw); go_simp; first | done | with_reducible rfl)
        simp only [Act.put, List.setIfInBounds_toArray, List.set_cons_zero, List.set_cons_succ]
        refine rg_take (v := ?_) 3 rfl (by kernel_rfl) (by kernel_rfl) (by kernel_rfl) (fun _ _ _ h => h) (by kernel_rfl) ?_ (by assumption) ?_
        rotate_left
        · (intro w' hSw; (try dsimp only at hSw); go_simp; first | done | with_reducible rfl)
        simp only [Act.put, List.setIfInBounds_toArray, List.set_cons_zero, List.set_cons_succ]
        refine rg_take (v := ?_) 4 rfl (by kernel_rfl) (by kernel_rfl) (by kernel_rfl) (fun _ _ _ h => h) (by kernel_rfl) ?_ (by assumption) ?_
        rotate_left
        · (intro w' hSw; (try dsimp only at hSw); go_simp; first | done | with_reducible rfl)
        simp only [Act.put, List.setIfInBounds_toArray, List.set_cons_zero, List.set_cons_succ]
        refine rg_take (v := ?_) 5 rfl (by kernel_rfl) (by kernel_rfl) (by kernel_rfl) (fun _ _ _ h => h) (by kernel_rfl) ?_ (by assumption) ?_
        rotate_left
        · (intro w' hSw; (try dsimp only at hSw); go_simp; first | done | with_reducible rfl)
        simp only [Act.put, List.setIfInBounds_toArray, List.set_cons_zero, List.set_cons_succ]
        refine rg_take (v := ?_) 6 rfl (by kernel_rfl) (by kernel_rfl) (by kernel_rfl) (fun _ _ _ h => h) (by kernel_rfl) ?_ (by assumption) ?_
        rotate_left
        · (intro w' hSw; (try dsimp only at hSw); go_simp; first | done | with_reducible rfl)
        simp only [Act.put, List.setIfInBounds_toArray, List.set_cons_zero, List.set_cons_succ]
        refine rg_take (v := ?_) 7 rfl (by kernel_rfl) (by kernel_rfl) (by kernel_rfl) (fun _ _ _ h => h) (by kernel_rfl) ?_ (by assumption) ?_
        rotate_left
        · (intro w' hSw; (try dsimp only at hSw); go_simp; first | done | with_reducible rfl)
        simp only [Act.put, List.setIfInBounds_toArray, List.set_cons_zero, List.set_cons_succ]
        refine rg_take (v := ?_) 8 rfl (by kernel_rfl) (by kernel_rfl) (by kernel_rfl) (fun _ _ _ h => h) (by kernel_rfl) ?_ (by assumption) ?_
        rotate_left
        · (intro w' hSw; (try dsimp only at hSw); go_simp; first | done | with_reducible rfl)
        simp only [Act.put, List.setIfInBounds_toArray, List.set_cons_zero, List.set_cons_succ]
        refine rg_take (v := ?_) 9 rfl (by kernel_rfl) (by kernel_rfl) (by kernel_rfl) (fun _ _ _ h => h) (by kernel_rfl) ?_ (by assumption) ?_
        rotate_left
        · (intro w' hSw; (try dsimp only at hSw); go_simp; first | done | with_reducible rfl)
        simp only [Act.put, List.setIfInBounds_toArray, List.set_cons_zero, List.set_cons_succ]
        refine rg_take (v := ?_) 11 rfl (by kernel_rfl) (by kernel_rfl) (by kernel_rfl) (fun _ _ _ h => h) (by kernel_rfl) ?_ (by assumption) ?_
        rotate_left
        · (intro w' hSw; (try dsimp only at hSw); go_simp; first | done | with_reducible rfl)
        simp only [Act.put, List.setIfInBounds_toArray, List.set_cons_zero, List.set_cons_succ]
        refine rg_run 10 rfl (by kernel_rfl) (by kernel_rfl) (fun K hK => ?_)
        go_simp
        refine (HBL.out _ (((H.out.below B0.out).below HB7.out).below (Below.refl _ _).drew)).mono ?_
        rintro e w8 ⟨A8, c8, rfl, hob, hb8⟩
        have hbs := below_chain (Below.refl w7.heap.size w7).drew hb8
        have HB8 := Lib.hid (below_chain HB7.out hbs)
        have HO8 := Lib.hid (own_below HO7.out hbs)
        have HOB8 := Lib.hid (own_mono hob (show W.heap.size ≤ w7.drew.heap.size from HB7.out.size))
        replace k0 := cell_later hbs (by exact k0)
        replace k1 := cell_later hbs (by exact k1)
        replace k2 := cell_later hbs (by exact k2)
        replace k3 := cell_later hbs (by exact k3)
        replace k4 := cell_later hbs (by exact k4)
        replace k5 := cell_later hbs (by exact k5)
        obtain ⟨⟨x0, x1, x2, x3, x4⟩, f0, f1, f2, f3, f4⟩ := (HX.out.below HB7.out).below hbs
        have hrb := World.block_lt_of_cell? _ _ HX.out.1.1
        dsimp only at hrb
        clear hbs hb8 hob HB7 HO7
        have hxz := World.block_lt_of_cell? _ _ x0
        go_wp2
        clear hHeld
        refine hK.out _ _ (by exact ⟨k0, k1, k2, k3, k4, k5⟩) (fun hHeld => ?_)
        clear hK K
        try simp only [Act.put, List.setIfInBounds_toArray, List.set_cons_zero, List.set_cons_succ]
        refine rg_take (v := ?_) 12 rfl (by kernel_rfl) (by kernel_rfl) (by kernel_rfl) (fun _ _ _ h => h) (by kernel_rfl) ?_ (by assumption) ?_
        rotate_left
        · (intro w' hSw; (try dsimp only at hSw); go_simp; first | done | with_reducible rfl)
        simp only [Act.put, List.setIfInBounds_toArray, List.set_cons_zero, List.set_cons_succ]
        refine rg_run 13 rfl (by kernel_rfl) (by kernel_rfl) (fun K hK => ?_)
        go_simp
        go_wp2
        clear hHeld
        refine hK.out _ _ (by refine ⟨?_, ?_, ?_, ?_, ?_, ?_⟩ <;> go_simp) (fun hHeld => ?_)
        clear hK K
        try simp only [Act.put, List.setIfInBounds_toArray, List.set_cons_zero, List.set_cons_succ]
        refine wpAnyH_done (by kernel_rfl) ?_ _
        clear hHeld
        clear k0 k1 k2 k3 k4 k5
        go_wp2_with (fail)
        refine bodyPost_ret (v := .agg #[.int .i64 p.ins.length, .int .i64 p.vs.length, .int .i64 p.os.length, .slice A8 (blk p).length c8, .slice A9 (n + 1) c9]) (by simp [results, Tryz.results45, go_sem, x0, x1, x2, x3, x4]) rfl (by
          refine HRET.out _ _ _ _ _ _ HLN7.out ?_ ?_ ?_
          · exact own_mono (own_set5 HOB8.out hrb _ _ _ _ _) B0.out.size
          · rw [HC7.out]; exact own_mono (own_set5 HO8.out hrb _ _ _ _ _) B0.out.size
          · exact below_set5 (below_chain B0.out HB8.out) (by omega) _ _ _ _ _)
      · have HGI : Hid (gdI p = []) := Lib.hid (by unfold gdI; rw [hg]; rfl)
        rw [HGI.out] at HSS HLEN
        have HC7 : Hid (CS = S0) := Lib.hid (by rw [HSS.out, List.append_nil])
        have HLN7 : Hid (n = CS.length) := Lib.hid (by rw [HLEN.out]; rfl)
        clear HSS HLEN HL3 HGI
        have HB7 := hb
        have HO7 := HO3
        clear hb HO3
        go_wp2_with (fail)
        refine wp_region_held_drew (S := (fun w' => w'.cell? ⟨w.heap.size, 0, none⟩ = some (.string p.nm) ∧ w'.cell? ⟨w.heap.size, 1, none⟩ = some (.slice a1 p.ins.length c1) ∧ w'.cell? ⟨w.heap.size, 2, none⟩ = some (.slice a2 p.vs.length c2) ∧ w'.cell? ⟨w.heap.size, 3, none⟩ = some (.slice a3 p.os.length c3) ∧ w'.cell? ⟨w.heap.size, 4, none⟩ = some (.string p.gd) ∧ w'.cell? ⟨w.heap.size, 5, none⟩ = some (.slice a4 p.ls.length c4))) (by kernel_rfl) ?_ (fun hHeld => ?_)
        · exact ⟨k0, k1, k2, k3, k4, k5⟩
        refine rg_take (v := ?_) 0 rfl (by kernel_rfl) (by kernel_rfl) (by kernel_rfl) (fun _ _ _ h => h) (by kernel_rfl) ?_ (by assumption) ?_
        rotate_left
        · (intro w' hSw; (try dsimp only at hSw); go_simp; first | done | with_reducible rfl)
        simp only [Act.put, List.setIfInBounds_toArray, List.set_cons_zero, List.set_cons_succ]
        refine rg_take (v := ?_) 1 rfl (by kernel_rfl) (by kernel_rfl) (by kernel_rfl) (fun _ _ _ h => h) (by kernel_rfl) ?_ (by assumption) ?_
        rotate_left
        · (intro w' hSw; (try dsimp only at hSw); go_simp; first | done | with_reducible rfl)
        simp only [Act.put, List.setIfInBounds_toArray, List.set_cons_zero, List.set_cons_succ]
        refine rg_take (v := ?_) 2 rfl (by kernel_rfl) (by kernel_rfl) (by kernel_rfl) (fun _ _ _ h => h) (by kernel_rfl) ?_ (by assumption) ?_
        rotate_left
        · (intro w' hSw; (try dsimp only at hSw); go_simp; first | done | with_reducible rfl)
        simp only [Act.put, List.setIfInBounds_toArray, List.set_cons_zero, List.set_cons_succ]
        refine rg_take (v := ?_) 3 rfl (by kernel_rfl) (by kernel_rfl) (by kernel_rfl) (fun _ _ _ h => h) (by kernel_rfl) ?_ (by assumption) ?_
        rotate_left
        · (intro w' hSw; (try dsimp only at hSw); go_simp; first | done | with_reducible rfl)
        simp only [Act.put, List.setIfInBounds_toArray, List.set_cons_zero, List.set_cons_succ]
        refine rg_take (v := ?_) 4 rfl (by kernel_rfl) (by kernel_rfl) (by kernel_rfl) (fun _ _ _ h => h) (by kernel_rfl) ?_ (by assumption) ?_
        rotate_left
        · (intro w' hSw; (try dsimp only at hSw); go_simp; first | done | with_reducible rfl)
        simp only [Act.put, List.setIfInBounds_toArray, List.set_cons_zero, List.set_cons_succ]
        refine rg_take (v := ?_) 5 rfl (by kernel_rfl) (by kernel_rfl) (by kernel_rfl) (fun _ _ _ h => h) (by kernel_rfl) ?_ (by assumption) ?_
        rotate_left
        · (intro w' hSw; (try dsimp only at hSw); go_simp; first | done | with_reducible rfl)
        simp only [Act.put, List.setIfInBounds_toArray, List.set_cons_zero, List.set_cons_succ]
        refine rg_take (v := ?_) 6 rfl (by kernel_rfl) (by kernel_rfl) (by kernel_rfl) (fun _ _ _ h => h) (by kernel_rfl) ?_ (by assumption) ?_
        rotate_left
        · (intro w' hSw; (try dsimp only at hSw); go_simp; first | done | with_reducible rfl)
        simp only [Act.put, List.setIfInBounds_toArray, List.set_cons_zero, List.set_cons_succ]
        refine rg_take (v := ?_) 7 rfl (by kernel_rfl) (by kernel_rfl) (by kernel_rfl) (fun _ _ _ h => h) (by kernel_rfl) ?_ (by assumption) ?_
        rotate_left
        · (intro w' hSw; (try dsimp only at hSw); go_simp; first | done | with_reducible rfl)
        simp only [Act.put, List.setIfInBounds_toArray, List.set_cons_zero, List.set_cons_succ]
        refine rg_take (v := ?_) 8 rfl (by kernel_rfl) (by kernel_rfl) (by kernel_rfl) (fun _ _ _ h => h) (by kernel_rfl) ?_ (by assumption) ?_
        rotate_left
        · (intro w' hSw; (try dsimp only at hSw); go_simp; first | done | with_reducible rfl)
        simp only [Act.put, List.setIfInBounds_toArray, List.set_cons_zero, List.set_cons_succ]
        refine rg_take (v := ?_) 9 rfl (by kernel_rfl) (by kernel_rfl) (by kernel_rfl) (fun _ _ _ h => h) (by kernel_rfl) ?_ (by assumption) ?_
        rotate_left
        · (intro w' hSw; (try dsimp only at hSw); go_simp; first | done | with_reducible rfl)
        simp only [Act.put, List.setIfInBounds_toArray, List.set_cons_zero, List.set_cons_succ]
        refine rg_take (v := ?_) 11 rfl (by kernel_rfl) (by kernel_rfl) (by kernel_rfl) (fun _ _ _ h => h) (by kernel_rfl) ?_ (by assumption) ?_
        rotate_left
        · (intro w' hSw; (try dsimp only at hSw); go_simp; first | done | with_reducible rfl)
        simp only [Act.put, List.setIfInBounds_toArray, List.set_cons_zero, List.set_cons_succ]
        refine rg_run 10 rfl (by kernel_rfl) (by kernel_rfl) (fun K hK => ?_)
        go_simp
        refine (HBL.out _ (((H.out.below B0.out).below HB7.out).below (Below.refl _ _).drew)).mono ?_
        rintro e w8 ⟨A8, c8, rfl, hob, hb8⟩
        have hbs := below_chain (Below.refl wr.heap.size wr).drew hb8
        have HB8 := Lib.hid (below_chain HB7.out hbs)
        have HO8 := Lib.hid (own_below HO7.out hbs)
        have HOB8 := Lib.hid (own_mono hob (show W.heap.size ≤ wr.drew.heap.size from HB7.out.size))
        replace k0 := cell_later hbs (by exact k0)
        replace k1 := cell_later hbs (by exact k1)
        replace k2 := cell_later hbs (by exact k2)
        replace k3 := cell_later hbs (by exact k3)
        replace k4 := cell_later hbs (by exact k4)
        replace k5 := cell_later hbs (by exact k5)
        obtain ⟨⟨x0, x1, x2, x3, x4⟩, f0, f1, f2, f3, f4⟩ := (HX.out.below HB7.out).below hbs
        have hrb := World.block_lt_of_cell? _ _ HX.out.1.1
        dsimp only at hrb
        clear hbs hb8 hob HB7 HO7
        have hxz := World.block_lt_of_cell? _ _ x0
        go_wp2
        clear hHeld
        refine hK.out _ _ (by exact ⟨k0, k1, k2, k3, k4, k5⟩) (fun hHeld => ?_)
        clear hK K
        try simp only [Act.put, List.setIfInBounds_toArray, List.set_cons_zero, List.set_cons_succ]
        refine rg_take (v := ?_) 12 rfl (by kernel_rfl) (by kernel_rfl) (by kernel_rfl) (fun _ _ _ h => h) (by kernel_rfl) ?_ (by assumption) ?_
        rotate_left
        · (intro w' hSw; (try dsimp only at hSw); go_simp; first | done | with_reducible rfl)
        simp only [Act.put, List.setIfInBounds_toArray, List.set_cons_zero, List.set_cons_succ]
        refine rg_run 13 rfl (by kernel_rfl) (by kernel_rfl) (fun K hK => ?_)
        go_simp
        go_wp2
        clear hHeld
        refine hK.out _ _ (by refine ⟨?_, ?_, ?_, ?_, ?_, ?_⟩ <;> go_simp) (fun hHeld => ?_)
        clear hK K
        try simp only [Act.put, List.setIfInBounds_toArray, List.set_cons_zero, List.set_cons_succ]
        refine wpAnyH_done (by kernel_rfl) ?_ _
        clear hHeld
        clear k0 k1 k2 k3 k4 k5
        go_wp2_with (fail)
        refine bodyPost_ret (v := .agg #[.int .i64 p.ins.length, .int .i64 p.vs.length, .int .i64 p.os.length, .slice A8 (blk p).length c8, .slice A3 n C3]) (by simp [results, Tryz.results45, go_sem, x0, x1, x2, x3, x4]) rfl (by
          refine HRET.out _ _ _ _ _ _ HLN7.out ?_ ?_ ?_
          · exact own_mono (own_set5 HOB8.out hrb _ _ _ _ _) B0.out.size
          · rw [HC7.out]; exact own_mono (own_set5 HO8.out hrb _ _ _ _ _) B0.out.size
          · exact below_set5 (below_chain B0.out HB8.out) (by omega) _ _ _ _ _)
end Go.Proofs.YteengjcplmjakaaGreatDoor

/- The program's compiler: newCompiler, compile. Condition: the program is sound; the lengths. -/
namespace Go.Proofs.YteengjcplmjakaaGreatDoor
open Go.RowKit

set_option maxRecDepth 100000 in
theorem c_lengthS (A : Option Addr) (c n : Nat) (w : World) (hn : n ≤ 1048576) : Calls Tryz.prog 88 #[.slice A n c] w fun e w' => e = .returned (.int .i64 n) ∧ w = w' := by
  have hw : IntKind.i64.wrap (n : Int) = n := IntWalk.i64_in _ (by omega)
  go_enter Tryz.func88, Tryz.ntmps88
  go_wp2_with (fail)
  go_ret
  exact ⟨rfl, rfl⟩
set_option maxHeartbeats 2000000 in
set_option maxRecDepth 100000 in
theorem c_newCompiler (p : Prg) (a1 a2 a3 a4 : Option Addr) (c1 c2 c3 c4 : Nat) (w : World) (hs : PgOk p) (hbd : PgB p) (h : PgR w a1 a2 a3 a4 p) :
    Calls Tryz.prog 41 #[pv p a1 a2 a3 a4 c1 c2 c3 c4] w fun e w' => ∃ b ab cb, e = .returned (.pointer (some ⟨b, 0, none⟩)) ∧ XS w w' b p a1 a2 a3 a4 ab c1 c2 c3 c4 cb none 0 [] 0 := by
  have H := Lib.hid h
  have HI := Lib.hid (fun w => c_lengthS a1 c1 p.ins.length w hs.i.1)
  have HV := Lib.hid (fun w => c_lengthS a2 c2 p.vs.length w hs.v.1)
  have HO := Lib.hid (fun w => c_lengthS a3 c3 p.os.length w hs.o.1)
  have HB := Lib.hid (fun w h => c_blocks p a1 a2 a3 a4 c1 c2 c3 c4 w hbd h)
  have B0 := Lib.hid (below_alloc (Below.refl w.heap.size w) (.cells #[.string p.nm, .slice a1 p.ins.length c1, .slice a2 p.vs.length c2, .slice a3 p.os.length c3, .string p.gd, .slice a4 p.ls.length c4] 27))
  have HP : Hid (PB (w.alloc (.cells #[.string p.nm, .slice a1 p.ins.length c1, .slice a2 p.vs.length c2, .slice a3 p.os.length c3, .string p.gd, .slice a4 p.ls.length c4] 27)) w.heap.size p a1 a2 a3 a4 c1 c2 c3 c4) := Lib.hid ⟨by go_simp, by go_simp, by go_simp, by go_simp, by go_simp, by go_simp⟩
  clear hs hbd h
  go_enter Tryz.func41, Tryz.ntmps41
  dsimp only [pv]
  go_upto_region 1 with (fail)
  generalize w.alloc (.cells #[.string p.nm, .slice a1 p.ins.length c1, .slice a2 p.vs.length c2, .slice a3 p.os.length c3, .string p.gd, .slice a4 p.ls.length c4] 27) = W at *
  obtain ⟨k0, k1, k2, k3, k4, k5⟩ := HP.out
  refine wp_region_held_drew (S := (fun w' => w'.cell? ⟨w.heap.size, 0, none⟩ = some (.string p.nm) ∧ w'.cell? ⟨w.heap.size, 1, none⟩ = some (.slice a1 p.ins.length c1) ∧ w'.cell? ⟨w.heap.size, 2, none⟩ = some (.slice a2 p.vs.length c2) ∧ w'.cell? ⟨w.heap.size, 3, none⟩ = some (.slice a3 p.os.length c3) ∧ w'.cell? ⟨w.heap.size, 4, none⟩ = some (.string p.gd) ∧ w'.cell? ⟨w.heap.size, 5, none⟩ = some (.slice a4 p.ls.length c4))) (by kernel_rfl) ?_ (fun hHeld => ?_)
  · exact ⟨k0, k1, k2, k3, k4, k5⟩
  refine rg_take (v := ?_) 0 rfl (by kernel_rfl) (by kernel_rfl) (by kernel_rfl) (fun _ _ _ h => h) (by kernel_rfl) ?_ (by assumption) ?_
  rotate_left
  · (intro w' hSw; (try dsimp only at hSw); go_simp; first | done | with_reducible rfl)
  simp only [Act.put, List.setIfInBounds_toArray, List.set_cons_zero, List.set_cons_succ]
  refine rg_take (v := ?_) 1 rfl (by kernel_rfl) (by kernel_rfl) (by kernel_rfl) (fun _ _ _ h => h) (by kernel_rfl) ?_ (by assumption) ?_
  rotate_left
  · (intro w' hSw; (try dsimp only at hSw); go_simp; first | done | with_reducible rfl)
  simp only [Act.put, List.setIfInBounds_toArray, List.set_cons_zero, List.set_cons_succ]
  refine rg_take (v := ?_) 2 rfl (by kernel_rfl) (by kernel_rfl) (by kernel_rfl) (fun _ _ _ h => h) (by kernel_rfl) ?_ (by assumption) ?_
  rotate_left
  · (intro w' hSw; (try dsimp only at hSw); go_simp; first | done | with_reducible rfl)
  simp only [Act.put, List.setIfInBounds_toArray, List.set_cons_zero, List.set_cons_succ]
  refine rg_take (v := ?_) 4 rfl (by kernel_rfl) (by kernel_rfl) (by kernel_rfl) (fun _ _ _ h => h) (by kernel_rfl) ?_ (by assumption) ?_
  rotate_left
  · (intro w' hSw; (try dsimp only at hSw); go_simp; first | done | with_reducible rfl)
  simp only [Act.put, List.setIfInBounds_toArray, List.set_cons_zero, List.set_cons_succ]
  refine rg_take (v := ?_) 5 rfl (by kernel_rfl) (by kernel_rfl) (by kernel_rfl) (fun _ _ _ h => h) (by kernel_rfl) ?_ (by assumption) ?_
  rotate_left
  · (intro w' hSw; (try dsimp only at hSw); go_simp; first | done | with_reducible rfl)
  simp only [Act.put, List.setIfInBounds_toArray, List.set_cons_zero, List.set_cons_succ]
  refine rg_take (v := ?_) 7 rfl (by kernel_rfl) (by kernel_rfl) (by kernel_rfl) (fun _ _ _ h => h) (by kernel_rfl) ?_ (by assumption) ?_
  rotate_left
  · (intro w' hSw; (try dsimp only at hSw); go_simp; first | done | with_reducible rfl)
  simp only [Act.put, List.setIfInBounds_toArray, List.set_cons_zero, List.set_cons_succ]
  refine rg_take (v := ?_) 8 rfl (by kernel_rfl) (by kernel_rfl) (by kernel_rfl) (fun _ _ _ h => h) (by kernel_rfl) ?_ (by assumption) ?_
  rotate_left
  · (intro w' hSw; (try dsimp only at hSw); go_simp; first | done | with_reducible rfl)
  simp only [Act.put, List.setIfInBounds_toArray, List.set_cons_zero, List.set_cons_succ]
  refine rg_take (v := ?_) 10 rfl (by kernel_rfl) (by kernel_rfl) (by kernel_rfl) (fun _ _ _ h => h) (by kernel_rfl) ?_ (by assumption) ?_
  rotate_left
  · (intro w' hSw; (try dsimp only at hSw); go_simp; first | done | with_reducible rfl)
  simp only [Act.put, List.setIfInBounds_toArray, List.set_cons_zero, List.set_cons_succ]
  refine rg_run 3 rfl (by kernel_rfl) (by kernel_rfl) (fun K hK => ?_)
  go_simp
  refine (HI.out _).mono ?_
  rintro e w1 ⟨rfl, rfl⟩
  go_wp2
  clear hHeld
  refine hK.out _ _ (by exact ⟨k0, k1, k2, k3, k4, k5⟩) (fun hHeld => ?_)
  clear hK K
  try simp only [Act.put, List.setIfInBounds_toArray, List.set_cons_zero, List.set_cons_succ]
  refine rg_run 6 rfl (by kernel_rfl) (by kernel_rfl) (fun K hK => ?_)
  go_simp
  refine (HV.out _).mono ?_
  rintro e w2 ⟨rfl, rfl⟩
  go_wp2
  clear hHeld
  refine hK.out _ _ (by exact ⟨k0, k1, k2, k3, k4, k5⟩) (fun hHeld => ?_)
  clear hK K
  try simp only [Act.put, List.setIfInBounds_toArray, List.set_cons_zero, List.set_cons_succ]
  refine rg_run 9 rfl (by kernel_rfl) (by kernel_rfl) (fun K hK => ?_)
  go_simp
  refine (HO.out _).mono ?_
  rintro e w3 ⟨rfl, rfl⟩
  go_wp2
  clear hHeld
  refine hK.out _ _ (by exact ⟨k0, k1, k2, k3, k4, k5⟩) (fun hHeld => ?_)
  clear hK K
  try simp only [Act.put, List.setIfInBounds_toArray, List.set_cons_zero, List.set_cons_succ]
  refine rg_run 11 rfl (by kernel_rfl) (by kernel_rfl) (fun K hK => ?_)
  go_simp
  refine (HB.out _ ((H.out.below B0.out).below (Below.refl _ _).drew)).mono ?_
  rintro e w4 ⟨A8, c8, rfl, ho, hb⟩
  have hbs : Below W.heap.size W w4 := below_chain (Below.refl _ _).drew hb
  have HB4 := Lib.hid (below_chain B0.out hbs)
  have HO4 := Lib.hid (own_mono ho (show w.heap.size ≤ W.drew.heap.size from B0.out.size))
  replace k0 := cell_later hbs (by exact k0)
  replace k1 := cell_later hbs (by exact k1)
  replace k2 := cell_later hbs (by exact k2)
  replace k3 := cell_later hbs (by exact k3)
  replace k4 := cell_later hbs (by exact k4)
  replace k5 := cell_later hbs (by exact k5)
  clear hb hbs ho
  go_wp2
  clear hHeld
  refine hK.out _ _ (by exact ⟨k0, k1, k2, k3, k4, k5⟩) (fun hHeld => ?_)
  clear hK K
  try simp only [Act.put, List.setIfInBounds_toArray, List.set_cons_zero, List.set_cons_succ]
  refine rg_take (v := ?_) 12 rfl (by kernel_rfl) (by kernel_rfl) (by kernel_rfl) (fun _ _ _ h => h) (by kernel_rfl) ?_ (by assumption) ?_
  rotate_left
  · (intro w' hSw; (try dsimp only at hSw); go_simp; first | done | with_reducible rfl)
  simp only [Act.put, List.setIfInBounds_toArray, List.set_cons_zero, List.set_cons_succ]
  refine rg_take (v := ?_) 13 rfl (by kernel_rfl) (by kernel_rfl) (by kernel_rfl) (fun _ _ _ h => h) (by kernel_rfl) ?_ (by assumption) ?_
  rotate_left
  · (intro w' hSw; (try dsimp only at hSw); go_simp; first | done | with_reducible rfl)
  simp only [Act.put, List.setIfInBounds_toArray, List.set_cons_zero, List.set_cons_succ]
  have hal := below_alloc (Below.refl w4.heap.size w4) (.cells (xCells p a1 a2 a3 a4 A8 c1 c2 c3 c4 c8 none 0 0 0).toArray 82)
  have HXX : Hid (XS w (w4.alloc (.cells (xCells p a1 a2 a3 a4 A8 c1 c2 c3 c4 c8 none 0 0 0).toArray 82)) w4.heap.size p a1 a2 a3 a4 A8 c1 c2 c3 c4 c8 none 0 [] 0) := Lib.hid
    ⟨own_box w4 w.heap.size 82 _ 12 rfl HB4.out.size, World.ownsRow_nil _ _ _ _, own_below HO4.out hal, below_chain HB4.out hal⟩
  replace k0 := cell_later hal (by exact k0)
  replace k1 := cell_later hal (by exact k1)
  replace k2 := cell_later hal (by exact k2)
  replace k3 := cell_later hal (by exact k3)
  replace k4 := cell_later hal (by exact k4)
  replace k5 := cell_later hal (by exact k5)
  clear hal
  unfold xCells at *
  refine rg_run 14 rfl (by kernel_rfl) (by kernel_rfl) (fun K hK => ?_)
  go_simp
  go_wp2
  clear hHeld
  refine hK.out _ _ (by exact ⟨k0, k1, k2, k3, k4, k5⟩) (fun hHeld => ?_)
  clear hK K
  try simp only [Act.put, List.setIfInBounds_toArray, List.set_cons_zero, List.set_cons_succ]
  refine rg_take (v := ?_) 15 rfl (by kernel_rfl) (by kernel_rfl) (by kernel_rfl) (fun _ _ _ h => h) (by kernel_rfl) ?_ (by assumption) ?_
  rotate_left
  · (intro w' hSw; (try dsimp only at hSw); go_simp; first | done | with_reducible rfl)
  simp only [Act.put, List.setIfInBounds_toArray, List.set_cons_zero, List.set_cons_succ]
  refine wpAnyH_done (by kernel_rfl) ?_ _
  clear hHeld
  go_wp2_with (fail)
  go_ret
  exact ⟨_, _, _, rfl, HXX.out⟩
set_option maxHeartbeats 2000000 in
set_option maxRecDepth 100000 in
theorem c_compile (p : Prg) (a1 a2 a3 a4 : Option Addr) (c1 c2 c3 c4 : Nat) (w : World) (hs : PgOk p) (hd : Snd p) (h : PgR w a1 a2 a3 a4 p) :
    Calls Tryz.prog 59 #[pv p a1 a2 a3 a4 c1 c2 c3 c4] w (RetCd (cmp p) w) := by
  have H := Lib.hid h
  have HD := Lib.hid hd
  have HNC := Lib.hid (fun w h => c_newCompiler p a1 a2 a3 a4 c1 c2 c3 c4 w hs hd.b h)
  have B0 := Lib.hid (below_alloc (below_alloc (Below.refl w.heap.size w) (.cells #[.string p.nm, .slice a1 p.ins.length c1, .slice a2 p.vs.length c2, .slice a3 p.os.length c3, .string p.gd, .slice a4 p.ls.length c4] 27)) (.cells #[.int .i64 0, .int .i64 0, .int .i64 0, .slice none 0 0, .slice none 0 0] 35))
  have HP : Hid (PB ((w.alloc (.cells #[.string p.nm, .slice a1 p.ins.length c1, .slice a2 p.vs.length c2, .slice a3 p.os.length c3, .string p.gd, .slice a4 p.ls.length c4] 27)).alloc (.cells #[.int .i64 0, .int .i64 0, .int .i64 0, .slice none 0 0, .slice none 0 0] 35)) w.heap.size p a1 a2 a3 a4 c1 c2 c3 c4) := Lib.hid ⟨by go_simp, by go_simp, by go_simp, by go_simp, by go_simp, by go_simp⟩
  have HX : Hid (CRB ((w.alloc (.cells #[.string p.nm, .slice a1 p.ins.length c1, .slice a2 p.vs.length c2, .slice a3 p.os.length c3, .string p.gd, .slice a4 p.ls.length c4] 27)).alloc (.cells #[.int .i64 0, .int .i64 0, .int .i64 0, .slice none 0 0, .slice none 0 0] 35)) (w.heap.size + 1)) := Lib.hid ⟨⟨by go_simp, by go_simp, by go_simp, by go_simp, by go_simp⟩, by go_simp, by go_simp, by go_simp, by go_simp, by go_simp⟩
  have bl := hd.b.l
  clear hd h
  go_enter Tryz.func59, Tryz.ntmps59
  dsimp only [pv]
  go_upto_region 1 with (fail)
  generalize (w.alloc (.cells #[.string p.nm, .slice a1 p.ins.length c1, .slice a2 p.vs.length c2, .slice a3 p.os.length c3, .string p.gd, .slice a4 p.ls.length c4] 27)).alloc (.cells #[.int .i64 0, .int .i64 0, .int .i64 0, .slice none 0 0, .slice none 0 0] 35) = W at *
  obtain ⟨k0, k1, k2, k3, k4, k5⟩ := HP.out
  have HPW := Lib.hid (H.out.below B0.out)
  have HS := Lib.hid hs
  have HRET : Hid (∀ A1 q1 A2 n2 q2 w', n2 = (cmp p).ss.length → w'.ownsRow w.heap.size 60 3 (.slice A1 (blk p).length q1) (blk p).length (tmCells (blk p)) → w'.ownsRow w.heap.size 88 2 (.slice A2 n2 q2) n2 (insCells (cmp p).ss) → Below w.heap.size w w' → RetCd (cmp p) w (.returned (.agg #[.int .i64 p.ins.length, .int .i64 p.vs.length, .int .i64 p.os.length, .slice A1 (blk p).length q1, .slice A2 n2 q2])) w') := Lib.hid (fun A1 q1 A2 n2 q2 w' e h1 h2 h3 => by subst e; exact ⟨A1, q1, A2, q2, rfl, h1, h2, h3⟩)
  have HSS : Hid ((cmp p).ss = csP p 0 p.ls ++ gdI p) := Lib.hid rfl
  clear hs
  go_wp2_with (fail)
  refine (HNC.out _ HPW.out).mono ?_
  rintro e w1 ⟨b, ab, cb, rfl, hx⟩
  have HX1 := Lib.hid hx
  clear hx
  replace k0 := cell_later HX1.out.bel (by exact k0)
  replace k1 := cell_later HX1.out.bel (by exact k1)
  replace k2 := cell_later HX1.out.bel (by exact k2)
  replace k3 := cell_later HX1.out.bel (by exact k3)
  replace k4 := cell_later HX1.out.bel (by exact k4)
  replace k5 := cell_later HX1.out.bel (by exact k5)
  go_wp2_with (fail)
  clear k0 k1 k2 k3 k4 k5
  go_loopw [5, 11] (fun _ i wr => ∃ k : Nat, k ≤ p.ls.length ∧ i = .int .i64 k ∧ Hid (∃ A c, XS W wr b p a1 a2 a3 a4 ab c1 c2 c3 c4 cb A c (csP p 0 (p.ls.take k)) (nbL (p.ls.take k)))) (fun _ i _ => p.ls.length - (intOf i).toNat)
  case atStart => exact ⟨0, Nat.zero_le _, rfl, Lib.hid ⟨none, 0, HX1.out⟩⟩
  case round =>
    obtain ⟨k, hk, rfl, hx⟩ := hrel
    clear HX1
    obtain ⟨A1, cc1, hx1⟩ := hx.out
    have HX1 := Lib.hid hx1
    clear hx hx1
    have hnb := nbL_le HD.out.b k
    have hlen := csP_len p (p.ls.take k) 0 (fun l hl => HD.out.b.t l (List.mem_of_mem_take hl))
    rw [List.length_take] at hlen
    by_cases hlt : k < p.ls.length
    · obtain ⟨⟨tg, ts⟩, hz⟩ : ∃ z, p.ls[k]? = some z := ⟨_, List.getElem?_eq_getElem hlt⟩
      obtain ⟨b2, o2, la, lc, rfl, hblt, g0w, g1w, hrow⟩ := HPW.out.l.at hz
      dsimp only at g0w g1w hrow
      have g0 := cell_later HX1.out.bel g0w
      have g1 := cell_later HX1.out.bel g1w
      have htl := HD.out.b.t _ (List.mem_of_getElem? hz)
      dsimp only at htl
      have hal := below_alloc (Below.refl wr.heap.size wr) (.cells #[.string tg, .slice la ts.length lc] 80)
      have HX2 := Lib.hid (HX1.out.below hal)
      have hl2 : (csP p 0 (p.ls.take k)).length ≤ 2000 := by omega
      have HLC := Lib.hid (fun w' hx => c_line W b p a1 a2 a3 _ ab c1 c2 c3 c4 cb A1 cc1 (csP p 0 (p.ls.take k)) (nbL (p.ls.take k)) tg ts la lc w' HS.out (HD.out.k _ (List.mem_of_getElem? hz)) htl hl2 (by omega) HPW.out hrow hx)
      have HST := Lib.hid (csP_step hz)
      have HNS := Lib.hid (nbL_step hz)
      have hk0 : (0 : Int) ≤ (k : Int) := by omega
      have hk1 : (k : Int) < p.ls.length := by omega
      clear hz hal g0w g1w hrow hblt hl2 hlen hnb
      go_wp2_with (fail)
      refine (HLC.out _ HX2.out).mono ?_
      rintro e w3 ⟨rfl, hx, hf⟩
      have HX3 := Lib.hid hx
      clear hx hf g0 g1
      go_wp2_with (fail)
      go_roundw
      case rel => exact ⟨k + 1, by omega, by go_num, Lib.hid (by rw [HST.out, HNS.out]; exact HX3.out)⟩
      case measure => simp [intOf]; omega
    · obtain rfl : k = p.ls.length := by omega
      rw [List.take_length] at HX1
      have hlen2 : (csP p 0 p.ls).length ≤ 3000 := by rw [List.take_length] at hlen; omega
      have HLD := Lib.hid (fun w' hx => c_load W b p a1 a2 a3 a4 ab c1 c2 c3 c4 cb A1 cc1 (csP p 0 p.ls) (nbL p.ls) p.gd 10 11 w' HS.out hlen2 HPW.out hx)
      obtain ⟨k0, k1, k2, k3, k4, k5⟩ := HP.out.below HX1.out.bel
      have hrb := World.block_lt_of_cell? _ _ HX.out.1.1
      dsimp only at hrb
      generalize csP p 0 p.ls = S0 at *
      generalize nbL p.ls = nb0 at *
      clear hlen hnb hlen2 hlt
      rcases hg : p.gd.toList.isEmpty with _ | _
      · have HGI : Hid (gdI p = [nmI p p.gd 10 11]) := Lib.hid (by unfold gdI; rw [hg]; rfl)
        rw [HGI.out] at HSS
        go_wp2_with (fail)
        refine (HLD.out _ HX1.out).mono ?_
        rintro e w3 ⟨rfl, ⟨A3, cc3, hx⟩, hf⟩
        have HX3 := Lib.hid hx
        clear hx hf k0 k1 k2 k3 k4 k5 hg HX1 HLD
        obtain ⟨_, ⟨k6, k7, k8, k9, k10⟩, _, _, hb1, hb2⟩ := HX3.out.cells
        obtain ⟨⟨x0, x1, x2, x3, x4⟩, f0, f1, f2, f3, f4⟩ := HX.out.below HX3.out.bel
        have HLN : Hid ((S0 ++ [nmI p p.gd 10 11]).length = (cmp p).ss.length) := Lib.hid (by rw [HSS.out])
        rw [HSS.out] at HRET
        generalize nmI p p.gd 10 11 = I at *
        have hxz := World.block_lt_of_cell? _ _ x0
        generalize hln : (S0 ++ [I]).length = n9 at *
        have HLNN := Lib.hid hln
        clear hln
        go_wp2_with (fail)
        refine bodyPost_ret (v := .agg #[.int .i64 p.ins.length, .int .i64 p.vs.length, .int .i64 p.os.length, .slice ab (blk p).length cb, .slice A3 n9 cc3]) (by simp [results, Tryz.results59, go_sem, x0, x1, x2, x3, x4]) rfl (by
          have h1 := HX3.out.blk
          have h2 := HX3.out.row
          rw [HLNN.out] at h2
          refine HRET.out _ _ _ _ _ _ rfl ?_ ?_ ?_
          · exact own_mono (own_set5 h1 hrb _ _ _ _ _) B0.out.size
          · exact own_mono (own_set5 h2 hrb _ _ _ _ _) B0.out.size
          · exact below_set5 (below_chain B0.out HX3.out.bel) (by omega) _ _ _ _ _)
      · have HGI : Hid (gdI p = []) := Lib.hid (by unfold gdI; rw [hg]; rfl)
        rw [HGI.out, List.append_nil] at HSS
        clear HLD
        obtain ⟨_, ⟨k6, k7, k8, k9, k10⟩, _, _, hb1, hb2⟩ := HX1.out.cells
        obtain ⟨⟨x0, x1, x2, x3, x4⟩, f0, f1, f2, f3, f4⟩ := HX.out.below HX1.out.bel
        rw [HSS.out] at HRET
        have hxz := World.block_lt_of_cell? _ _ x0
        generalize hln : S0.length = n9 at *
        have HLNN := Lib.hid hln
        clear hln
        go_wp2_with (fail)
        refine bodyPost_ret (v := .agg #[.int .i64 p.ins.length, .int .i64 p.vs.length, .int .i64 p.os.length, .slice ab (blk p).length cb, .slice A1 n9 cc1]) (by simp [results, Tryz.results59, go_sem, x0, x1, x2, x3, x4]) rfl (by
          have h1 := HX1.out.blk
          have h2 := HX1.out.row
          rw [HLNN.out] at h2
          refine HRET.out _ _ _ _ _ _ rfl ?_ ?_ ?_
          · exact own_mono (own_set5 h1 hrb _ _ _ _ _) B0.out.size
          · exact own_mono (own_set5 h2 hrb _ _ _ _ _) B0.out.size
          · exact below_set5 (below_chain B0.out HX1.out.bel) (by omega) _ _ _ _ _)
end Go.Proofs.YteengjcplmjakaaGreatDoor

/- Reaction times, both sides. Condition: the lengths; the keywords lie there. -/
namespace Go.Proofs.YteengjcplmjakaaGreatDoor
open Go.RowKit

set_option maxRecDepth 100000 in
theorem c_l19Period (p : Int) (w : World) : Calls Tryz.prog 73 #[.int .i64 p] w fun e w' => e = .returned (.bool (inB p 1 1000000)) ∧ w = w' := by
  go_enter Tryz.func73, Tryz.ntmps73
  go_wp2_with (fail)
  refine (c_l01In _ _ _ _).mono ?_
  rintro e w1 ⟨rfl, rfl⟩
  go_wp2_with (fail)
  go_ret
  exact ⟨rfl, rfl⟩
set_option maxRecDepth 100000 in
theorem c_isPeriod (p : Int) (w : World) : Calls Tryz.prog 72 #[.int .i64 p] w fun e w' => e = .returned (.bool (inB p 1 1000000)) ∧ w = w' := by
  go_enter Tryz.func72, Tryz.ntmps72
  go_wp2_with (fail)
  refine (c_within _ _ _ _).mono ?_
  rintro e w1 ⟨rfl, rfl⟩
  go_wp2_with (fail)
  go_ret
  exact ⟨rfl, rfl⟩
theorem sumT_K (c : Cd) : sumT c c.ss = sumK c c.ss.length := by unfold sumK; rw [List.take_length]
def rtC (p : Prg) (inp out : ByteArray) (per : Int) : Int := if (wrB p && fltB p) then (if inB per 1 1000000 then dlyC p inp out else 2) else dlyC p inp out
def rtV (p : Prg) (inp out : ByteArray) (per : Int) : Int := if rtC p inp out per = 0 then IntKind.i64.wrap (IntKind.i64.wrap (dlyV p inp out * per) + sumK (cmp p) (cmp p).ss.length) else 0
theorem dly_ok {p : Prg} {inp out : ByteArray} (e : dlyC p inp out = 0) : Snd p ∧ PgB p ∧ 0 ≤ ixS (tgs p) out ∧ dlyR p inp out = dlyV p inp out := by
  have e0 := e
  unfold dlyC at e
  by_cases h1 : (wrB p && fltB p) = true
  · rw [if_pos h1] at e
    by_cases h2 : (memS p.ins inp && memS p.os out) = true
    · rw [Bool.and_eq_true] at h2
      exact ⟨snd_of h1, (snd_of h1).b, out_ix h1 h2.2, by unfold dlyR; rw [e0, if_pos rfl]⟩
    · rw [if_neg h2] at e; cases e
  · rw [if_neg h1] at e; cases e
set_option maxHeartbeats 1000000 in
set_option maxRecDepth 100000 in
theorem c_sReact (p : Prg) (a1 a2 a3 a4 : Option Addr) (c1 c2 c3 c4 : Nat) (inp out : ByteArray) (per : Int) (w : World) (hs : PgOk p) (hz : PgZ a1 a2 a3 c1 c2 c3) (h : PgR w a1 a2 a3 a4 p) :
    Calls Tryz.prog 32 #[pv p a1 a2 a3 a4 c1 c2 c3 c4, .string inp, .string out, .int .i64 per] w (RetP (rtV p inp out per) (rtC p inp out per) w) := by
  have H := Lib.hid h
  have HSO := Lib.hid (fun w h => c_sIsSound p a1 a2 a3 a4 c1 c2 c3 c4 w hs hz h)
  have HC := Lib.hid (fun w h => c_l19Code p a1 a2 a3 a4 c1 c2 c3 c4 inp out w hs hz h)
  have HD := Lib.hid (fun w hbd hout h => c_l19Delay p a1 a2 a3 a4 c1 c2 c3 c4 inp out w hs hbd hout h)
  have HCO := Lib.hid (fun w hd h => c_l17Compile p a1 a2 a3 a4 c1 c2 c3 c4 w hs hd h)
  have HSC := Lib.hid (fun ab as_ cb cs w (hd : Snd p) h => c_l19Scan (cmp p) ab as_ cb cs w (hd_cmp hd) (blk_cmp hd) (fit_cmp hd) h)
  have HV : Hid (rtC p inp out per = if (wrB p && fltB p) then (if inB per 1 1000000 then dlyC p inp out else 2) else dlyC p inp out) := Lib.hid rfl
  have HR : Hid (rtV p inp out per = if rtC p inp out per = 0 then IntKind.i64.wrap (IntKind.i64.wrap (dlyV p inp out * per) + sumK (cmp p) (cmp p).ss.length) else 0) := Lib.hid rfl
  have HN1 : Hid ((wrB p && fltB p) = false → dlyC p inp out = 1) := Lib.hid (fun e => by unfold dlyC; rw [if_neg (by rw [e]; decide)])
  have HOK := Lib.hid (dly_ok (p := p) (inp := inp) (out := out))
  have HPE := Lib.hid (fun w => c_l19Period per w)
  generalize rtV p inp out per = V at *
  generalize rtC p inp out per = R at *
  generalize (wrB p && fltB p) = s at *
  generalize inB per 1 1000000 = u at *
  have B0 := Lib.hid (below_alloc (Below.refl w.heap.size w) (.cells #[.string p.nm, .slice a1 p.ins.length c1, .slice a2 p.vs.length c2, .slice a3 p.os.length c3, .string p.gd, .slice a4 p.ls.length c4] 27))
  have HP : Hid (PB (w.alloc (.cells #[.string p.nm, .slice a1 p.ins.length c1, .slice a2 p.vs.length c2, .slice a3 p.os.length c3, .string p.gd, .slice a4 p.ls.length c4] 27)) w.heap.size p a1 a2 a3 a4 c1 c2 c3 c4) := Lib.hid ⟨by go_simp, by go_simp, by go_simp, by go_simp, by go_simp, by go_simp⟩
  clear hs hz h
  dsimp only [pv] at *
  go_enter Tryz.func32, Tryz.ntmps32
  go_upto_region 1 with (fail)
  generalize w.alloc (.cells #[.string p.nm, .slice a1 p.ins.length c1, .slice a2 p.vs.length c2, .slice a3 p.os.length c3, .string p.gd, .slice a4 p.ls.length c4] 27) = W at *
  obtain ⟨k0, k1, k2, k3, k4, k5⟩ := HP.out
  go_wp2_with (fail)
  refine (HSO.out _ (H.out.below B0.out)).mono ?_
  rintro e w1 ⟨rfl, hb⟩
  have B1 := Lib.hid (below_chain B0.out hb)
  replace k0 := cell_later hb (by exact k0)
  replace k1 := cell_later hb (by exact k1)
  replace k2 := cell_later hb (by exact k2)
  replace k3 := cell_later hb (by exact k3)
  replace k4 := cell_later hb (by exact k4)
  replace k5 := cell_later hb (by exact k5)
  clear hb
  cases s
  · have e1 := HN1.out rfl
    obtain rfl : R = 1 := HV.out.trans e1
    obtain rfl : V = 0 := HR.out
    go_wp2_with (fail)
    refine (HC.out _ (H.out.below B1.out)).mono ?_
    rintro e w3 ⟨rfl, hb⟩
    have B3 := Lib.hid (below_chain B1.out hb)
    rw [e1]
    clear hb HV HR HOK HN1 e1 k0 k1 k2 k3 k4 k5
    go_wp2_with (fail)
    go_ret2
    exact retP_of rfl rfl B3.out
  go_wp2_with (fail)
  refine (HPE.out _).mono ?_
  rintro e w2 ⟨rfl, rfl⟩
  cases u
  · obtain rfl : R = 2 := HV.out
    obtain rfl : V = 0 := HR.out
    go_wp2_with (fail)
    go_ret2
    exact retP_of rfl rfl B1.out
  obtain rfl : R = dlyC p inp out := HV.out
  go_wp2_with (fail)
  refine (HC.out _ (H.out.below B1.out)).mono ?_
  rintro e w3 ⟨rfl, hb⟩
  have B3 := Lib.hid (below_chain B1.out hb)
  replace k0 := cell_later hb (by exact k0)
  replace k1 := cell_later hb (by exact k1)
  replace k2 := cell_later hb (by exact k2)
  replace k3 := cell_later hb (by exact k3)
  replace k4 := cell_later hb (by exact k4)
  replace k5 := cell_later hb (by exact k5)
  clear hb HV
  by_cases hr : dlyC p inp out = 0
  rotate_left
  · have HVV : Hid (V = 0) := Lib.hid (by rw [HR.out]; exact if_neg hr)
    have er : (dlyC p inp out != 0) = true := by simpa using hr
    clear HR HOK hr k0 k1 k2 k3 k4 k5
    generalize dlyC p inp out = R at *
    go_wp2_with (fail)
    go_ret2
    exact retP_of HVV.out rfl B3.out
  · have HVV : Hid (V = IntKind.i64.wrap (IntKind.i64.wrap (dlyV p inp out * per) + sumK (cmp p) (cmp p).ss.length)) := Lib.hid (by rw [HR.out]; exact if_pos hr)
    have HO := Lib.hid (HOK.out hr)
    clear HOK HR
    generalize dlyC p inp out = R at *
    subst hr
    obtain ⟨h1, h2, h3, h4⟩ := HO.out
    have HS := Lib.hid h1
    have HPB := Lib.hid h2
    have HIX := Lib.hid h3
    have HT := Lib.hid (fun ab as_ cb cs w h => HSC.out ab as_ cb cs w HS.out h)
    clear h1 h2 h3 h4 HO HSC
    generalize dlyV p inp out = D at *
    go_upto_region 6 with (fail)
    refine wp_region_held_drew (S := (fun w' => w'.cell? ⟨w.heap.size, 0, none⟩ = some (.string p.nm) ∧ w'.cell? ⟨w.heap.size, 1, none⟩ = some (.slice a1 p.ins.length c1) ∧ w'.cell? ⟨w.heap.size, 2, none⟩ = some (.slice a2 p.vs.length c2) ∧ w'.cell? ⟨w.heap.size, 3, none⟩ = some (.slice a3 p.os.length c3) ∧ w'.cell? ⟨w.heap.size, 4, none⟩ = some (.string p.gd) ∧ w'.cell? ⟨w.heap.size, 5, none⟩ = some (.slice a4 p.ls.length c4))) (by kernel_rfl) ?_ (fun hHeld => ?_)
    · exact ⟨k0, k1, k2, k3, k4, k5⟩
    refine rg_take (v := ?_) 0 rfl (by kernel_rfl) (by kernel_rfl) (by kernel_rfl) (fun _ _ _ h => h) (by kernel_rfl) ?_ (by assumption) ?_
    rotate_left
    · (intro w' hSw; (try dsimp only at hSw); go_simp; first | done | with_reducible rfl)
    simp only [Act.put, List.setIfInBounds_toArray, List.set_cons_zero, List.set_cons_succ]
    refine rg_take (v := ?_) 1 rfl (by kernel_rfl) (by kernel_rfl) (by kernel_rfl) (fun _ _ _ h => h) (by kernel_rfl) ?_ (by assumption) ?_
    rotate_left
    · (intro w' hSw; (try dsimp only at hSw); go_simp; first | done | with_reducible rfl)
    simp only [Act.put, List.setIfInBounds_toArray, List.set_cons_zero, List.set_cons_succ]
    refine rg_take (v := ?_) 2 rfl (by kernel_rfl) (by kernel_rfl) (by kernel_rfl) (fun _ _ _ h => h) (by kernel_rfl) ?_ (by assumption) ?_
    rotate_left
    · (intro w' hSw; (try dsimp only at hSw); go_simp; first | done | with_reducible rfl)
    simp only [Act.put, List.setIfInBounds_toArray, List.set_cons_zero, List.set_cons_succ]
    refine rg_take (v := ?_) 4 rfl (by kernel_rfl) (by kernel_rfl) (by kernel_rfl) (fun _ _ _ h => h) (by kernel_rfl) ?_ (by assumption) ?_
    rotate_left
    · (intro w' hSw; (try dsimp only at hSw); go_simp; first | done | with_reducible rfl)
    simp only [Act.put, List.setIfInBounds_toArray, List.set_cons_zero, List.set_cons_succ]
    refine rg_take (v := ?_) 6 rfl (by kernel_rfl) (by kernel_rfl) (by kernel_rfl) (fun _ _ _ h => h) (by kernel_rfl) ?_ (by assumption) ?_
    rotate_left
    · (intro w' hSw; (try dsimp only at hSw); go_simp; first | done | with_reducible rfl)
    simp only [Act.put, List.setIfInBounds_toArray, List.set_cons_zero, List.set_cons_succ]
    refine rg_run 3 rfl (by kernel_rfl) (by kernel_rfl) (fun K hK => ?_)
    go_simp
    refine (HD.out _ HPB.out HIX.out ((H.out.below B3.out).below (Below.refl _ _).drew)).mono ?_
    rintro e w4 ⟨rfl, hb⟩
    have hbs : Below w3.heap.size w3 w4 := below_chain (Below.refl _ _).drew hb
    have B4 := Lib.hid (below_chain B3.out hbs)
    replace k0 := cell_later hbs (by exact k0)
    replace k1 := cell_later hbs (by exact k1)
    replace k2 := cell_later hbs (by exact k2)
    replace k3 := cell_later hbs (by exact k3)
    replace k4 := cell_later hbs (by exact k4)
    replace k5 := cell_later hbs (by exact k5)
    clear hb hbs
    go_wp2
    clear hHeld
    refine hK.out _ _ (by exact ⟨k0, k1, k2, k3, k4, k5⟩) (fun hHeld => ?_)
    clear hK K
    try simp only [Act.put, List.setIfInBounds_toArray, List.set_cons_zero, List.set_cons_succ]
    refine rg_take (v := ?_) 5 rfl (by kernel_rfl) (by kernel_rfl) (by kernel_rfl) (fun _ _ _ h => h) (by kernel_rfl) ?_ (by assumption) ?_
    rotate_left
    · (intro w' hSw; (try dsimp only at hSw); go_simp; first | done | with_reducible rfl)
    simp only [Act.put, List.setIfInBounds_toArray, List.set_cons_zero, List.set_cons_succ]
    refine rg_run 7 rfl (by kernel_rfl) (by kernel_rfl) (fun K hK => ?_)
    go_simp
    refine (HCO.out _ HS.out (H.out.below B4.out)).mono ?_
    rintro e w5 ⟨A1, q1, A2, q2, rfl, hob, hos, hb⟩
    have B5 := Lib.hid (below_chain B4.out hb)
    have HRD : Hid (CdR w5 A1 A2 (cmp p)) := Lib.hid ⟨Rd.own hob, Rd.own hos⟩
    replace k0 := cell_later hb (by exact k0)
    replace k1 := cell_later hb (by exact k1)
    replace k2 := cell_later hb (by exact k2)
    replace k3 := cell_later hb (by exact k3)
    replace k4 := cell_later hb (by exact k4)
    replace k5 := cell_later hb (by exact k5)
    clear hob hos hb
    generalize cmp p = CC at *
    go_wp2
    clear hHeld
    refine hK.out _ _ (by exact ⟨k0, k1, k2, k3, k4, k5⟩) (fun hHeld => ?_)
    clear hK K
    try simp only [Act.put, List.setIfInBounds_toArray, List.set_cons_zero, List.set_cons_succ]
    refine rg_run 8 rfl (by kernel_rfl) (by kernel_rfl) (fun K hK => ?_)
    go_simp
    refine (HT.out _ _ _ _ _ HRD.out).mono ?_
    rintro e w6 ⟨rfl, hb⟩
    have B6 := Lib.hid (below_chain B5.out hb)
    replace k0 := cell_later hb (by exact k0)
    replace k1 := cell_later hb (by exact k1)
    replace k2 := cell_later hb (by exact k2)
    replace k3 := cell_later hb (by exact k3)
    replace k4 := cell_later hb (by exact k4)
    replace k5 := cell_later hb (by exact k5)
    clear hb HRD HT
    generalize sumK CC CC.ss.length = SS at *
    go_wp2
    clear hHeld
    refine hK.out _ _ (by exact ⟨k0, k1, k2, k3, k4, k5⟩) (fun hHeld => ?_)
    clear hK K
    try simp only [Act.put, List.setIfInBounds_toArray, List.set_cons_zero, List.set_cons_succ]
    refine rg_take (v := ?_) 9 rfl (by kernel_rfl) (by kernel_rfl) (by kernel_rfl) (fun _ _ _ h => h) (by kernel_rfl) ?_ (by assumption) ?_
    rotate_left
    · (intro w' hSw; (try dsimp only at hSw); go_simp; first | done | with_reducible rfl)
    simp only [Act.put, List.setIfInBounds_toArray, List.set_cons_zero, List.set_cons_succ]
    refine rg_take (v := ?_) 10 rfl (by kernel_rfl) (by kernel_rfl) (by kernel_rfl) (fun _ _ _ h => h) (by kernel_rfl) ?_ (by assumption) ?_
    rotate_left
    · (intro w' hSw; (try dsimp only at hSw); go_simp; first | done | with_reducible rfl)
    simp only [Act.put, List.setIfInBounds_toArray, List.set_cons_zero, List.set_cons_succ]
    refine rg_take (v := ?_) 11 rfl (by kernel_rfl) (by kernel_rfl) (by kernel_rfl) (fun _ _ _ h => h) (by kernel_rfl) ?_ (by assumption) ?_
    rotate_left
    · (intro w' hSw; (try dsimp only at hSw); go_simp; first | done | with_reducible rfl)
    simp only [Act.put, List.setIfInBounds_toArray, List.set_cons_zero, List.set_cons_succ]
    refine wpAnyH_done (by kernel_rfl) ?_ _
    clear hHeld
    clear k0 k1 k2 k3 k4 k5
    go_wp2_with (fail)
    go_ret2
    exact retP_of HVV.out rfl B6.out
set_option maxHeartbeats 1000000 in
set_option maxRecDepth 100000 in
theorem c_React (p : Prg) (a1 a2 a3 a4 : Option Addr) (c1 c2 c3 c4 : Nat) (inp out : ByteArray) (per : Int) (w : World) (hs : PgOk p) (hz : PgZ a1 a2 a3 c1 c2 c3) (h : PgR w a1 a2 a3 a4 p) (hk : KwR w) (houtz : out.size ≤ maxLen) :
    Calls Tryz.prog 31 #[pv p a1 a2 a3 a4 c1 c2 c3 c4, .string inp, .string out, .int .i64 per] w (RetP (rtV p inp out per) (rtC p inp out per) w) := by
  have H := Lib.hid h
  have HK := Lib.hid hk
  have HSO := Lib.hid (fun w h hk => c_IsSound p a1 a2 a3 a4 c1 c2 c3 c4 w hs hz h hk)
  have HD := Lib.hid (fun w h hk => c_DelayOf p a1 a2 a3 a4 c1 c2 c3 c4 inp out w hs hz h hk houtz)
  have HCO := Lib.hid (fun w hd h => c_compile p a1 a2 a3 a4 c1 c2 c3 c4 w hs hd h)
  have HTI := Lib.hid (fun ab as_ cb cs w (hd : Snd p) h => sumT_K (cmp p) ▸ c_timeG (cmp p) (cmp p).ss ab as_ as_ cb cs cs (cmp p).ss.length w (hd_cmp hd) (blk_cmp hd) rfl (Nat.le_trans (hd_cmp hd).s (by decide)) (fit_cmp hd) h h.s)
  have HV : Hid (rtC p inp out per = if (wrB p && fltB p) then (if inB per 1 1000000 then dlyC p inp out else 2) else dlyC p inp out) := Lib.hid rfl
  have HR : Hid (rtV p inp out per = if rtC p inp out per = 0 then IntKind.i64.wrap (IntKind.i64.wrap (dlyV p inp out * per) + sumK (cmp p) (cmp p).ss.length) else 0) := Lib.hid rfl
  have HN1 : Hid ((wrB p && fltB p) = false → dlyC p inp out = 1) := Lib.hid (fun e => by unfold dlyC; rw [if_neg (by rw [e]; decide)])
  have HOK := Lib.hid (dly_ok (p := p) (inp := inp) (out := out))
  have HPE := Lib.hid (fun w => c_isPeriod per w)
  generalize rtV p inp out per = V at *
  generalize rtC p inp out per = R at *
  generalize (wrB p && fltB p) = s at *
  generalize inB per 1 1000000 = u at *
  have B0 := Lib.hid (below_alloc (Below.refl w.heap.size w) (.cells #[.string p.nm, .slice a1 p.ins.length c1, .slice a2 p.vs.length c2, .slice a3 p.os.length c3, .string p.gd, .slice a4 p.ls.length c4] 27))
  have HP : Hid (PB (w.alloc (.cells #[.string p.nm, .slice a1 p.ins.length c1, .slice a2 p.vs.length c2, .slice a3 p.os.length c3, .string p.gd, .slice a4 p.ls.length c4] 27)) w.heap.size p a1 a2 a3 a4 c1 c2 c3 c4) := Lib.hid ⟨by go_simp, by go_simp, by go_simp, by go_simp, by go_simp, by go_simp⟩
  clear hs hz h hk
  dsimp only [pv] at *
  go_enter Tryz.func31, Tryz.ntmps31
  go_upto_region 1 with (fail)
  generalize w.alloc (.cells #[.string p.nm, .slice a1 p.ins.length c1, .slice a2 p.vs.length c2, .slice a3 p.os.length c3, .string p.gd, .slice a4 p.ls.length c4] 27) = W at *
  obtain ⟨k0, k1, k2, k3, k4, k5⟩ := HP.out
  go_wp2_with (fail)
  refine (HSO.out _ (H.out.below B0.out) (HK.out.below B0.out)).mono ?_
  rintro e w1 ⟨rfl, hb⟩
  have B1 := Lib.hid (below_chain B0.out hb)
  replace k0 := cell_later hb (by exact k0)
  replace k1 := cell_later hb (by exact k1)
  replace k2 := cell_later hb (by exact k2)
  replace k3 := cell_later hb (by exact k3)
  replace k4 := cell_later hb (by exact k4)
  replace k5 := cell_later hb (by exact k5)
  clear hb
  cases s
  · have e1 := HN1.out rfl
    have e2 : dlyR p inp out = 0 := by unfold dlyR; rw [e1, if_neg (by decide)]
    obtain rfl : R = 1 := HV.out.trans e1
    obtain rfl : V = 0 := HR.out
    go_wp2_with (fail)
    refine (HD.out _ (H.out.below B1.out) (HK.out.below B1.out)).mono ?_
    rintro e w3 ⟨rfl, hb⟩
    have B3 := Lib.hid (below_chain B1.out hb)
    rw [e1, e2]
    clear hb HV HR HOK HN1 e1 e2 k0 k1 k2 k3 k4 k5
    go_wp2_with (fail)
    go_ret2
    exact retP_of rfl rfl B3.out
  go_wp2_with (fail)
  refine (HPE.out _).mono ?_
  rintro e w2 ⟨rfl, rfl⟩
  cases u
  · obtain rfl : R = 2 := HV.out
    obtain rfl : V = 0 := HR.out
    go_wp2_with (fail)
    go_ret2
    exact retP_of rfl rfl B1.out
  obtain rfl : R = dlyC p inp out := HV.out
  go_wp2_with (fail)
  refine (HD.out _ (H.out.below B1.out) (HK.out.below B1.out)).mono ?_
  rintro e w3 ⟨rfl, hb⟩
  have B3 := Lib.hid (below_chain B1.out hb)
  replace k0 := cell_later hb (by exact k0)
  replace k1 := cell_later hb (by exact k1)
  replace k2 := cell_later hb (by exact k2)
  replace k3 := cell_later hb (by exact k3)
  replace k4 := cell_later hb (by exact k4)
  replace k5 := cell_later hb (by exact k5)
  clear hb HV
  by_cases hr : dlyC p inp out = 0
  rotate_left
  · have HVV : Hid (V = 0) := Lib.hid (by rw [HR.out]; exact if_neg hr)
    have er : (dlyC p inp out != 0) = true := by simpa using hr
    clear HR HOK hr k0 k1 k2 k3 k4 k5
    generalize dlyC p inp out = R at *
    generalize dlyR p inp out = D at *
    go_wp2_with (fail)
    go_ret2
    exact retP_of HVV.out rfl B3.out
  · obtain ⟨h1, h2, h3, h4⟩ := HOK.out hr
    have HVV : Hid (V = IntKind.i64.wrap (IntKind.i64.wrap (dlyR p inp out * per) + sumK (cmp p) (cmp p).ss.length)) := Lib.hid (by rw [HR.out, h4]; exact if_pos hr)
    have HS := Lib.hid h1
    clear HOK HR h1 h2 h3 h4
    generalize dlyC p inp out = R at *
    subst hr
    generalize dlyR p inp out = D at *
    go_wp2_with (fail)
    refine (HCO.out _ HS.out (H.out.below B3.out)).mono ?_
    rintro e w4 ⟨A1, q1, A2, q2, rfl, hob, hos, hb⟩
    have B4 := Lib.hid (below_chain B3.out hb)
    have HR : Hid (CdR w4 A1 A2 (cmp p)) := Lib.hid ⟨Rd.own hob, Rd.own hos⟩
    clear hob hos hb k0 k1 k2 k3 k4 k5
    have HT := Lib.hid (fun w h => HTI.out A1 A2 q1 q2 w HS.out h)
    clear HTI HS
    generalize cmp p = C at *
    generalize sumK C C.ss.length = S at *
    dsimp only [cv] at *
    have ha := below_alloc (Below.refl w4.heap.size w4) (.cells #[.int .i64 C.i, .int .i64 C.v, .int .i64 C.o, .slice A1 C.bs.length q1, .slice A2 C.ss.length q2] 35)
    have B5 := Lib.hid (below_chain B4.out ha)
    have HRX := Lib.hid (HR.out.below ha)
    have hx : Hid ((w4.alloc (.cells #[.int .i64 C.i, .int .i64 C.v, .int .i64 C.o, .slice A1 C.bs.length q1, .slice A2 C.ss.length q2] 35)).cell? ⟨w4.heap.size, 0, none⟩ = some (.int .i64 C.i) ∧ (w4.alloc (.cells #[.int .i64 C.i, .int .i64 C.v, .int .i64 C.o, .slice A1 C.bs.length q1, .slice A2 C.ss.length q2] 35)).cell? ⟨w4.heap.size, 1, none⟩ = some (.int .i64 C.v) ∧ (w4.alloc (.cells #[.int .i64 C.i, .int .i64 C.v, .int .i64 C.o, .slice A1 C.bs.length q1, .slice A2 C.ss.length q2] 35)).cell? ⟨w4.heap.size, 2, none⟩ = some (.int .i64 C.o) ∧ (w4.alloc (.cells #[.int .i64 C.i, .int .i64 C.v, .int .i64 C.o, .slice A1 C.bs.length q1, .slice A2 C.ss.length q2] 35)).cell? ⟨w4.heap.size, 3, none⟩ = some (.slice A1 C.bs.length q1) ∧ (w4.alloc (.cells #[.int .i64 C.i, .int .i64 C.v, .int .i64 C.o, .slice A1 C.bs.length q1, .slice A2 C.ss.length q2] 35)).cell? ⟨w4.heap.size, 4, none⟩ = some (.slice A2 C.ss.length q2)) := Lib.hid ⟨by go_simp, by go_simp, by go_simp, by go_simp, by go_simp⟩
    clear ha HR
    go_upto_region 8 with (fail)
    generalize w4.alloc (.cells #[.int .i64 C.i, .int .i64 C.v, .int .i64 C.o, .slice A1 C.bs.length q1, .slice A2 C.ss.length q2] 35) = WC at *
    generalize w4.heap.size = bc at *
    obtain ⟨x0, x1, x2, x3, x4⟩ := hx.out
    clear hx
    refine (HT.out _ HRX.out).mono ?_
    rintro e w6 ⟨rfl, hb⟩
    have B6 := Lib.hid (below_chain B5.out hb)
    clear hb x0 x1 x2 x3 x4 HRX HT
    go_wp2_with (fail)
    go_ret2
    exact retP_of (HVV.out.trans (by simp only [wrap64, IntKind.wrap_i64])) rfl B6.out
end Go.Proofs.YteengjcplmjakaaGreatDoor

/- The program's CompileProgram, of a sound program. Condition: the lengths; the keywords lie there. -/
namespace Go.Proofs.YteengjcplmjakaaGreatDoor
open Go.RowKit

/-- A code of the call's own, and no fault. -/
def RetCd0 (c : Cd) (w : World) (e : Ending) (w' : World) : Prop :=
  ∃ A1 c1 A2 c2, e = .returned (.tuple #[cv c A1 A2 c1 c2, .int .i64 0]) ∧ CdR w' A1 A2 c ∧ Below w.heap.size w w'
set_option maxHeartbeats 1000000 in
set_option maxRecDepth 100000 in
theorem c_CompileProgram (p : Prg) (a1 a2 a3 a4 : Option Addr) (c1 c2 c3 c4 : Nat) (w : World) (hs : PgOk p) (hz : PgZ a1 a2 a3 c1 c2 c3) (h : PgR w a1 a2 a3 a4 p) (hk : KwR w) (hso : (wrB p && fltB p) = true) :
    Calls Tryz.prog 18 #[pv p a1 a2 a3 a4 c1 c2 c3 c4] w (RetCd0 (cmp p) w) := by
  have HSO := Lib.hid (fun w h hk => c_IsSound p a1 a2 a3 a4 c1 c2 c3 c4 w hs hz h hk)
  have HK := Lib.hid hk
  have B0 := Lib.hid (below_alloc (below_alloc (Below.refl w.heap.size w) (.cells #[.string p.nm, .slice a1 p.ins.length c1, .slice a2 p.vs.length c2, .slice a3 p.os.length c3, .string p.gd, .slice a4 p.ls.length c4] 27)) (.cells #[.int .i64 0, .int .i64 0, .int .i64 0, .slice none 0 0, .slice none 0 0] 35))
  have HP : Hid (PB ((w.alloc (.cells #[.string p.nm, .slice a1 p.ins.length c1, .slice a2 p.vs.length c2, .slice a3 p.os.length c3, .string p.gd, .slice a4 p.ls.length c4] 27)).alloc (.cells #[.int .i64 0, .int .i64 0, .int .i64 0, .slice none 0 0, .slice none 0 0] 35)) w.heap.size p a1 a2 a3 a4 c1 c2 c3 c4) := Lib.hid ⟨by go_simp, by go_simp, by go_simp, by go_simp, by go_simp, by go_simp⟩
  have HCO := Lib.hid (fun w h => c_compile p a1 a2 a3 a4 c1 c2 c3 c4 w hs (snd_of hso) h)
  have H := Lib.hid h
  have HX : Hid (CRB ((w.alloc (.cells #[.string p.nm, .slice a1 p.ins.length c1, .slice a2 p.vs.length c2, .slice a3 p.os.length c3, .string p.gd, .slice a4 p.ls.length c4] 27)).alloc (.cells #[.int .i64 0, .int .i64 0, .int .i64 0, .slice none 0 0, .slice none 0 0] 35)) (w.heap.size + 1)) := Lib.hid ⟨⟨by go_simp, by go_simp, by go_simp, by go_simp, by go_simp⟩, by go_simp, by go_simp, by go_simp, by go_simp, by go_simp⟩
  have HWS : Hid (w.heap.size + 1 < ((w.alloc (.cells #[.string p.nm, .slice a1 p.ins.length c1, .slice a2 p.vs.length c2, .slice a3 p.os.length c3, .string p.gd, .slice a4 p.ls.length c4] 27)).alloc (.cells #[.int .i64 0, .int .i64 0, .int .i64 0, .slice none 0 0, .slice none 0 0] 35)).heap.size) := Lib.hid (by simp)
  rw [hso] at HSO
  generalize cmp p = C at *
  clear hs hz h hk hso
  dsimp only [pv] at *
  go_enter Tryz.func18, Tryz.ntmps18
  go_upto_region 1 with (fail)
  generalize ((w.alloc (.cells #[.string p.nm, .slice a1 p.ins.length c1, .slice a2 p.vs.length c2, .slice a3 p.os.length c3, .string p.gd, .slice a4 p.ls.length c4] 27)).alloc (.cells #[.int .i64 0, .int .i64 0, .int .i64 0, .slice none 0 0, .slice none 0 0] 35)) = W at *
  obtain ⟨k0, k1, k2, k3, k4, k5⟩ := HP.out
  go_wp2_with (fail)
  refine (HSO.out _ (H.out.below B0.out) (HK.out.below B0.out)).mono ?_
  rintro e w1 ⟨rfl, hb⟩
  have B1 := Lib.hid (below_chain B0.out hb)
  have BW1 := Lib.hid hb
  replace k0 := cell_later hb (by exact k0)
  replace k1 := cell_later hb (by exact k1)
  replace k2 := cell_later hb (by exact k2)
  replace k3 := cell_later hb (by exact k3)
  replace k4 := cell_later hb (by exact k4)
  replace k5 := cell_later hb (by exact k5)
  clear hb HSO
  go_wp2_with (fail)
  refine (HCO.out _ (H.out.below B1.out)).mono ?_
  rintro e w2 ⟨A1, q1, A2, q2, rfl, hob, hos, hb⟩
  have B2 := Lib.hid (below_chain B1.out hb)
  have BW := Lib.hid (below_chain BW1.out hb)
  have HOB := Lib.hid hob
  have HOS := Lib.hid hos
  have hrb : w.heap.size + 1 < w1.heap.size := Nat.lt_of_lt_of_le HWS.out BW1.out.size
  clear hob hos hb HCO k0 k1 k2 k3 k4 k5
  obtain ⟨⟨x0, x1, x2, x3, x4⟩, f0, f1, f2, f3, f4⟩ := HX.out.below BW.out
  have hxz := World.block_lt_of_cell? _ _ x0
  dsimp only [cv]
  go_wp2_with (fail)
  refine bodyPost_ret (v := .tuple #[.agg #[.int .i64 C.i, .int .i64 C.v, .int .i64 C.o, .slice A1 C.bs.length q1, .slice A2 C.ss.length q2], .int .i64 0]) (by simp [results, Tryz.results18, go_sem, x0, x1, x2, x3, x4]) rfl (by
    have h1 := own_set5 HOB.out hrb (.int .i64 C.i) (.int .i64 C.v) (.int .i64 C.o) (.slice A1 C.bs.length q1) (.slice A2 C.ss.length q2)
    have h2 := own_set5 HOS.out hrb (.int .i64 C.i) (.int .i64 C.v) (.int .i64 C.o) (.slice A1 C.bs.length q1) (.slice A2 C.ss.length q2)
    exact ⟨A1, q1, A2, q2, rfl, ⟨Rd.own h1, Rd.own h2⟩, below_set5 B2.out (by omega) _ _ _ _ _⟩)
end Go.Proofs.YteengjcplmjakaaGreatDoor

/- IsCode on the reference's side, over exact terms (printed by kcode.py out of CHt CIs). Condition: the lists' sizes. -/
namespace Go.Proofs.YteengjcplmjakaaGreatDoor
open Go.RowKit

set_option maxRecDepth 100000 in
theorem c_sIsBlock (t : Tm) (w : World) (hs : t.nm.size ≤ 1048576) : Calls Tryz.prog 99 #[.agg #[.int .i64 t.k, .string t.nm, .int .i64 t.n]] w fun e w' => e = .returned (.bool (blkB t)) ∧ Below w.heap.size w w' := by
  have HT := Lib.hid (fun w => c_l13Term t.k t.nm t.n w hs)
  have HV : Hid ((trmT t.k t.nm t.n && decide (7 ≤ t.k)) = blkB t) := Lib.hid rfl
  obtain ⟨k, nm, n⟩ := t
  dsimp only at hs HT HV ⊢
  generalize trmT k nm n = b at *
  go_enter Tryz.func99, Tryz.ntmps99
  go_wp2_with (fail)
  refine (HT.out _).mono ?_
  rintro e w1 ⟨rfl, hb⟩
  have HB := Lib.hid (below_chain (below_alloc (Below.refl _ _) _) hb)
  have k0 : w1.cell? ⟨w.heap.size, 0, none⟩ = some (.int .i64 k) := cell_later hb (by go_simp)
  clear hb HT
  cases b
  · go_wp2_with (fail)
    go_ret
    exact ⟨ret_bool (by rw [← HV.out]; rfl), HB.out⟩
  · go_wp2_with (fail)
    go_ret
    exact ⟨ret_bool (by rw [← HV.out]; simp), HB.out⟩
def hgt (c : Cd) : List Ins → Int → Option Int
  | [], n => some n
  | x :: t, n => if fitB c x = true ∧ takI c x ≤ n ∧ n - takI c x + givI x ≤ 40 then hgt c t (n - takI c x + givI x) else none
def hgtB (c : Cd) : Bool := decide (hgt c c.ss 0 = some 0)
theorem tak_bd (c : Cd) (x : Ins) : 0 ≤ takI c x ∧ takI c x ≤ 2 := by
  unfold takI argI
  repeat' split
  all_goals omega
theorem giv_bd (x : Ins) : 0 ≤ givI x ∧ givI x ≤ 1 := by
  unfold givI
  split <;> omega
theorem hgt_drop {c : Cd} {k : Nat} {x : Ins} (hx : c.ss[k]? = some x) (n : Int) : hgt c (c.ss.drop k) n = if fitB c x = true ∧ takI c x ≤ n ∧ n - takI c x + givI x ≤ 40 then hgt c (c.ss.drop (k + 1)) (n - takI c x + givI x) else none := by
  obtain ⟨hk, e⟩ := List.getElem?_eq_some_iff.1 hx
  rw [List.drop_eq_getElem_cons hk, e]
  rfl
def HgtP (b : Bool) (w : World) (e : Ending) (w' : World) : Prop := ∃ A n cc, e = .returned (.tuple #[.slice A n cc, .bool b]) ∧ Below w.heap.size w w'
theorem cell_markK {w w' : World} {row : Option Nat} {a : Addr} {v : Value} (h : w.cell? a = some v) (hg : w.grownBy w' row) (hne : ∀ q, row = some q → q ≠ a.block) : w'.cell? a = some v :=
  (hg.cell_far a (World.block_lt_of_cell? w a h) (fun h' => hne _ h'.symm rfl)).trans h
theorem CB.mark {w w' : World} {b : Nat} {c : Cd} {ab as_ : Option Addr} {cb cs : Nat} {row : Option Nat} (h : CB w b c ab as_ cb cs) (hg : w.grownBy w' row) (hne : ∀ q, row = some q → q ≠ b) : CB w' b c ab as_ cb cs :=
  ⟨cell_markK h.1 hg hne, cell_markK h.2.1 hg hne, cell_markK h.2.2.1 hg hne, cell_markK h.2.2.2.1 hg hne, cell_markK h.2.2.2.2 hg hne⟩
set_option maxHeartbeats 2000000 in
set_option maxRecDepth 100000 in
theorem c_l17Heights (c : Cd) (ab as_ : Option Addr) (cb cs : Nat) (w : World) (hd : Hd c) (h : CdR w ab as_ c) :
    Calls Tryz.prog 100 #[cv c ab as_ cb cs] w (HgtP (hgtB c) w) := by
  have HD := Lib.hid hd
  have HC := Lib.hid h
  have HB0 := Lib.hid (below_alloc (below_alloc (Below.refl w.heap.size w) (.cells #[.int .i64 c.i, .int .i64 c.v, .int .i64 c.o, .slice ab c.bs.length cb, .slice as_ c.ss.length cs] 35)) (.cells #[] 2))
  have HA : Hid (CB ((w.alloc (.cells #[.int .i64 c.i, .int .i64 c.v, .int .i64 c.o, .slice ab c.bs.length cb, .slice as_ c.ss.length cs] 35)).alloc (.cells #[] 2)) w.heap.size c ab as_ cb cs) := Lib.hid ⟨by go_simp, by go_simp, by go_simp, by go_simp, by go_simp⟩
  have HO : Hid (((w.alloc (.cells #[.int .i64 c.i, .int .i64 c.v, .int .i64 c.o, .slice ab c.bs.length cb, .slice as_ c.ss.length cs] 35)).alloc (.cells #[] 2)).ownsRow (w.heap.size + 1) 2 1 (.slice (some ⟨w.heap.size + 1, 0, none⟩) 0 0) 0 (ints [])) := Lib.hid (by
    have h := World.ownsRow_lit (e := 2) (size := 1) (base := w.heap.size + 1) (w.alloc (.cells #[.int .i64 c.i, .int .i64 c.v, .int .i64 c.o, .slice ab c.bs.length cb, .slice as_ c.ss.length cs] 35)) #[] 0 (by simp) (by decide) (by simp)
    simpa [ints] using h)
  have hln := hd.s
  clear h hd
  go_enter Tryz.func100, Tryz.ntmps100
  dsimp only [cv]
  go_wp2_with (fail)
  generalize (w.alloc (.cells #[.int .i64 c.i, .int .i64 c.v, .int .i64 c.o, .slice ab c.bs.length cb, .slice as_ c.ss.length cs] 35)).alloc (.cells #[] 2) = W at *
  go_loopw [4, 5, 6, 7, 8] (fun l t i _ _ wr => ∃ (k : Nat) (n : Int) (A3 : Option Addr) (c3 : Nat) (zs : List Int), k ≤ c.ss.length ∧ i = .int .i64 k ∧ t = .int .i64 n ∧ 0 ≤ n ∧ n ≤ 40 ∧ l = .slice A3 k c3 ∧ Hid (hgt c c.ss 0 = hgt c (c.ss.drop k) n) ∧ Hid (wr.ownsRow (w.heap.size + 1) 2 1 (.slice A3 k c3) k (ints zs)) ∧ Hid (Below w.heap.size w wr) ∧ Hid (CB wr w.heap.size c ab as_ cb cs)) (fun _ _ i _ _ _ => c.ss.length - (intOf i).toNat)
  case atStart => exact ⟨0, 0, _, _, [], Nat.zero_le _, rfl, rfl, by omega, by omega, rfl, Lib.hid rfl, HO, HB0, HA⟩
  case round =>
    obtain ⟨k, n, A3, c3, zs, hk, rfl, rfl, hn0, hn1, rfl, hh, ho, hb, ha⟩ := hrel
    clear HO HB0 HA
    by_cases hlt : k < c.ss.length
    · obtain ⟨x, hx⟩ : ∃ x, c.ss[k]? = some x := ⟨_, List.getElem?_eq_getElem hlt⟩
      have HX := Lib.hid (hgt_drop (c := c) hx n)
      obtain ⟨b1, o1, rfl, _, g0, g1⟩ := (HC.out.below hb.out).s.ins hx
      obtain ⟨a0, a1, a2, a3, a4⟩ := ha.out
      have hk0 : (0 : Int) ≤ (k : Int) := by omega
      have hk1 : (k : Int) < c.ss.length := by omega
      clear hx
      go_wp2_with (fail)
      refine wp_region_held_drew (S := (fun w' => (w'.cell? ⟨w.heap.size, 0, none⟩ = some (.int .i64 c.i) ∧ w'.cell? ⟨w.heap.size, 1, none⟩ = some (.int .i64 c.v) ∧ w'.cell? ⟨w.heap.size, 2, none⟩ = some (.int .i64 c.o) ∧ w'.cell? ⟨w.heap.size, 3, none⟩ = some (.slice ab c.bs.length cb) ∧ w'.cell? ⟨w.heap.size, 4, none⟩ = some (.slice (some ⟨b1, o1, none⟩) c.ss.length cs)) ∧ w'.cell? ⟨b1, o1 + k * 2, none⟩ = some (.int .i64 x.o) ∧ w'.cell? ⟨b1, o1 + k * 2 + 1, none⟩ = some (.int .i64 x.a))) (by kernel_rfl) ?_ (fun hHeld => ?_)
      · exact ⟨⟨a0, a1, a2, a3, a4⟩, g0, g1⟩
      refine rg_take (v := ?_) 0 rfl (by kernel_rfl) (by kernel_rfl) (by kernel_rfl) (fun _ _ _ h => h) (by kernel_rfl) ?_ (by assumption) ?_
      rotate_left
      · (intro w' hSw; (try dsimp only at hSw); go_simp; first | done | with_reducible rfl)
      simp only [Act.put, List.setIfInBounds_toArray, List.set_cons_zero, List.set_cons_succ]
      refine rg_take (v := ?_) 1 rfl (by kernel_rfl) (by kernel_rfl) (by kernel_rfl) (fun _ _ _ h => h) (by kernel_rfl) ?_ (by assumption) ?_
      rotate_left
      · (intro w' hSw; (try dsimp only at hSw); go_simp; first | done | with_reducible rfl)
      simp only [Act.put, List.setIfInBounds_toArray, List.set_cons_zero, List.set_cons_succ]
      refine rg_take (v := ?_) 2 rfl (by kernel_rfl) (by kernel_rfl) (by kernel_rfl) (fun _ _ _ h => h) (by kernel_rfl) ?_ (by assumption) ?_
      rotate_left
      · (intro w' hSw; (try dsimp only at hSw); go_simp; first | done | with_reducible rfl)
      simp only [Act.put, List.setIfInBounds_toArray, List.set_cons_zero, List.set_cons_succ]
      refine rg_take (v := ?_) 3 rfl (by kernel_rfl) (by kernel_rfl) (by kernel_rfl) (fun _ _ _ h => h) (by kernel_rfl) ?_ (by assumption) ?_
      rotate_left
      · (intro w' hSw; (try dsimp only at hSw); go_simp; first | done | with_reducible rfl)
      simp only [Act.put, List.setIfInBounds_toArray, List.set_cons_zero, List.set_cons_succ]
      refine rg_take (v := ?_) 4 rfl (by kernel_rfl) (by kernel_rfl) (by kernel_rfl) (fun _ _ _ h => h) (by kernel_rfl) ?_ (by assumption) ?_
      rotate_left
      · (intro w' hSw; (try dsimp only at hSw); go_simp; first | done | with_reducible rfl)
      simp only [Act.put, List.setIfInBounds_toArray, List.set_cons_zero, List.set_cons_succ]
      refine rg_take (v := ?_) 5 rfl (by kernel_rfl) (by kernel_rfl) (by kernel_rfl) (fun _ _ _ h => h) (by kernel_rfl) ?_ (by assumption) ?_
      rotate_left
      · (intro w' hSw; (try dsimp only at hSw); go_simp; first | done | with_reducible rfl)
      simp only [Act.put, List.setIfInBounds_toArray, List.set_cons_zero, List.set_cons_succ]
      refine rg_run 6 rfl (by kernel_rfl) (by kernel_rfl) (fun K hK => ?_)
      go_simp
      refine (c_l17Fits c ab (some ⟨b1, o1, none⟩) cb cs x _ HD.out).mono ?_
      rintro e w2 ⟨rfl, hb2⟩
      have hbs : Below wr.heap.size wr w2 := below_chain (Below.refl _ _).drew hb2
      have HA2 := Lib.hid (ha.out.below hbs)
      have HO2 := Lib.hid (own_below ho.out hbs)
      have HB2 := Lib.hid (below_chain hb.out hbs)
      replace g0 := cell_later hbs g0
      replace g1 := cell_later hbs g1
      clear a0 a1 a2 a3 a4 hbs hb2 ha ho hb
      obtain ⟨a0, a1, a2, a3, a4⟩ := HA2.out
      go_wp2
      clear hHeld
      refine hK.out _ _ (by exact ⟨⟨a0, a1, a2, a3, a4⟩, g0, g1⟩) (fun hHeld => ?_)
      clear hK K
      try simp only [Act.put, List.setIfInBounds_toArray, List.set_cons_zero, List.set_cons_succ]
      refine rg_take (v := ?_) 7 rfl (by kernel_rfl) (by kernel_rfl) (by kernel_rfl) (fun _ _ _ h => h) (by kernel_rfl) ?_ (by assumption) ?_
      rotate_left
      · (intro w' hSw; (try dsimp only at hSw); go_simp; first | done | with_reducible rfl)
      simp only [Act.put, List.setIfInBounds_toArray, List.set_cons_zero, List.set_cons_succ]
      refine wpAnyH_done (by kernel_rfl) ?_ _
      clear hHeld
      rcases hf : fitB c x with _ | _
      · have HV : Hid (hgtB c = false) := Lib.hid (by unfold hgtB; rw [hh.out, HX.out, hf]; simp)
        go_wp2_with (fail)
        refine bodyPost_ret (v := .tuple #[.slice none 0 0, .bool false]) (by simp [results, Tryz.results100, go_sem]) rfl (by rw [HV.out]; exact ⟨_, _, _, rfl, HB2.out⟩)
      · have HF := Lib.hid hf
        rw [hf] at HX
        clear hf
        go_wp2_with (fail)
        refine wp_region_held_drew (S := (fun w' => (w'.cell? ⟨w.heap.size, 0, none⟩ = some (.int .i64 c.i) ∧ w'.cell? ⟨w.heap.size, 1, none⟩ = some (.int .i64 c.v) ∧ w'.cell? ⟨w.heap.size, 2, none⟩ = some (.int .i64 c.o) ∧ w'.cell? ⟨w.heap.size, 3, none⟩ = some (.slice ab c.bs.length cb) ∧ w'.cell? ⟨w.heap.size, 4, none⟩ = some (.slice (some ⟨b1, o1, none⟩) c.ss.length cs)) ∧ w'.cell? ⟨b1, o1 + k * 2, none⟩ = some (.int .i64 x.o) ∧ w'.cell? ⟨b1, o1 + k * 2 + 1, none⟩ = some (.int .i64 x.a))) (by kernel_rfl) ?_ (fun hHeld => ?_)
        · exact ⟨⟨a0, a1, a2, a3, a4⟩, g0, g1⟩
        refine rg_take (v := ?_) 0 rfl (by kernel_rfl) (by kernel_rfl) (by kernel_rfl) (fun _ _ _ h => h) (by kernel_rfl) ?_ (by assumption) ?_
        rotate_left
        · (intro w' hSw; (try dsimp only at hSw); go_simp; first | done | with_reducible rfl)
        simp only [Act.put, List.setIfInBounds_toArray, List.set_cons_zero, List.set_cons_succ]
        refine rg_take (v := ?_) 1 rfl (by kernel_rfl) (by kernel_rfl) (by kernel_rfl) (fun _ _ _ h => h) (by kernel_rfl) ?_ (by assumption) ?_
        rotate_left
        · (intro w' hSw; (try dsimp only at hSw); go_simp; first | done | with_reducible rfl)
        simp only [Act.put, List.setIfInBounds_toArray, List.set_cons_zero, List.set_cons_succ]
        refine rg_take (v := ?_) 2 rfl (by kernel_rfl) (by kernel_rfl) (by kernel_rfl) (fun _ _ _ h => h) (by kernel_rfl) ?_ (by assumption) ?_
        rotate_left
        · (intro w' hSw; (try dsimp only at hSw); go_simp; first | done | with_reducible rfl)
        simp only [Act.put, List.setIfInBounds_toArray, List.set_cons_zero, List.set_cons_succ]
        refine rg_take (v := ?_) 3 rfl (by kernel_rfl) (by kernel_rfl) (by kernel_rfl) (fun _ _ _ h => h) (by kernel_rfl) ?_ (by assumption) ?_
        rotate_left
        · (intro w' hSw; (try dsimp only at hSw); go_simp; first | done | with_reducible rfl)
        simp only [Act.put, List.setIfInBounds_toArray, List.set_cons_zero, List.set_cons_succ]
        refine rg_take (v := ?_) 4 rfl (by kernel_rfl) (by kernel_rfl) (by kernel_rfl) (fun _ _ _ h => h) (by kernel_rfl) ?_ (by assumption) ?_
        rotate_left
        · (intro w' hSw; (try dsimp only at hSw); go_simp; first | done | with_reducible rfl)
        simp only [Act.put, List.setIfInBounds_toArray, List.set_cons_zero, List.set_cons_succ]
        refine rg_take (v := ?_) 5 rfl (by kernel_rfl) (by kernel_rfl) (by kernel_rfl) (fun _ _ _ h => h) (by kernel_rfl) ?_ (by assumption) ?_
        rotate_left
        · (intro w' hSw; (try dsimp only at hSw); go_simp; first | done | with_reducible rfl)
        simp only [Act.put, List.setIfInBounds_toArray, List.set_cons_zero, List.set_cons_succ]
        refine rg_run 6 rfl (by kernel_rfl) (by kernel_rfl) (fun K hK => ?_)
        go_simp
        refine (c_l17Takes c ab (some ⟨b1, o1, none⟩) cb cs x _ HF.out ((HC.out.below HB2.out).below (Below.refl _ _).drew)).mono ?_
        rintro e w3 ⟨rfl, hb2⟩
        have hbs : Below w2.heap.size w2 w3 := below_chain (Below.refl _ _).drew hb2
        have HA3 := Lib.hid (HA2.out.below hbs)
        have HO3 := Lib.hid (own_below HO2.out hbs)
        have HB3 := Lib.hid (below_chain HB2.out hbs)
        replace g0 := cell_later hbs g0
        replace g1 := cell_later hbs g1
        clear a0 a1 a2 a3 a4 hbs hb2 HA2 HO2 HB2
        obtain ⟨a0, a1, a2, a3, a4⟩ := HA3.out
        go_wp2
        clear hHeld
        refine hK.out _ _ (by exact ⟨⟨a0, a1, a2, a3, a4⟩, g0, g1⟩) (fun hHeld => ?_)
        clear hK K
        try simp only [Act.put, List.setIfInBounds_toArray, List.set_cons_zero, List.set_cons_succ]
        refine rg_take (v := ?_) 7 rfl (by kernel_rfl) (by kernel_rfl) (by kernel_rfl) (fun _ _ _ h => h) (by kernel_rfl) ?_ (by assumption) ?_
        rotate_left
        · (intro w' hSw; (try dsimp only at hSw); go_simp; first | done | with_reducible rfl)
        simp only [Act.put, List.setIfInBounds_toArray, List.set_cons_zero, List.set_cons_succ]
        refine rg_take (v := ?_) 8 rfl (by kernel_rfl) (by kernel_rfl) (by kernel_rfl) (fun _ _ _ h => h) (by kernel_rfl) ?_ (by assumption) ?_
        rotate_left
        · (intro w' hSw; (try dsimp only at hSw); go_simp; first | done | with_reducible rfl)
        simp only [Act.put, List.setIfInBounds_toArray, List.set_cons_zero, List.set_cons_succ]
        refine rg_take (v := ?_) 9 rfl (by kernel_rfl) (by kernel_rfl) (by kernel_rfl) (fun _ _ _ h => h) (by kernel_rfl) ?_ (by assumption) ?_
        rotate_left
        · (intro w' hSw; (try dsimp only at hSw); go_simp; first | done | with_reducible rfl)
        simp only [Act.put, List.setIfInBounds_toArray, List.set_cons_zero, List.set_cons_succ]
        refine rg_take (v := ?_) 10 rfl (by kernel_rfl) (by kernel_rfl) (by kernel_rfl) (fun _ _ _ h => h) (by kernel_rfl) ?_ (by assumption) ?_
        rotate_left
        · (intro w' hSw; (try dsimp only at hSw); go_simp; first | done | with_reducible rfl)
        simp only [Act.put, List.setIfInBounds_toArray, List.set_cons_zero, List.set_cons_succ]
        refine rg_take (v := ?_) 11 rfl (by kernel_rfl) (by kernel_rfl) (by kernel_rfl) (fun _ _ _ h => h) (by kernel_rfl) ?_ (by assumption) ?_
        rotate_left
        · (intro w' hSw; (try dsimp only at hSw); go_simp; first | done | with_reducible rfl)
        simp only [Act.put, List.setIfInBounds_toArray, List.set_cons_zero, List.set_cons_succ]
        refine wpAnyH_done (by kernel_rfl) ?_ _
        clear hHeld
        have ht := tak_bd c x
        have hg := giv_bd x
        generalize takI c x = T at *
        generalize givI x = G at *
        clear a0 a1 a2 a3 a4 g0 g1
        by_cases h1 : n < T
        · have HV : Hid (hgtB c = false) := Lib.hid (by unfold hgtB; rw [hh.out, HX.out, if_neg (by omega)]; simp)
          go_wp2_with (fail)
          refine bodyPost_ret (v := .tuple #[.slice none 0 0, .bool false]) (by simp [results, Tryz.results100, go_sem]) rfl (by rw [HV.out]; exact ⟨_, _, _, rfl, HB3.out⟩)
        by_cases h2 : 40 < n - T + G
        · have HV : Hid (hgtB c = false) := Lib.hid (by unfold hgtB; rw [hh.out, HX.out, if_neg (by omega)]; simp)
          go_wp2_with (fail)
          refine bodyPost_ret (v := .tuple #[.slice none 0 0, .bool false]) (by simp [results, Tryz.results100, go_sem]) rfl (by rw [HV.out]; exact ⟨_, _, _, rfl, HB3.out⟩)
        have HH := Lib.hid (hh.out.trans (HX.out.trans (if_pos ⟨trivial, by omega, by omega⟩)))
        have hsz3 := World.block_lt_of_cell? _ _ HA3.out.1
        dsimp only at hsz3
        clear HX hh
        go_wp2_with (first
          | (at_builtin
             refine wpList_push_int _ rfl (.tmp 51) (.tmp 53) rfl (w.heap.size + 1) _ k zs (n - T + G) w3.heap.size 1 rfl (own_below HO3.out (below_alloc (Below.refl _ _) _)) rfl (by go_simp) (by omega) (by simp; omega) ?_
             intro v7 w7 hown hgrow _ _
             obtain ⟨A9, c9, rfl⟩ := own_shape hown
             have HA7 := Lib.hid ((HA3.out.below (below_alloc (Below.refl _ _) (.cells #[.int .i64 (n - T + G)] 2))).mark hgrow (fun q hq => by have := (HO3.out.lt q hq).1; omega))
             have HB7 := Lib.hid (below_of_grown (below_chain HB3.out (below_alloc (Below.refl _ _) (.cells #[.int .i64 (n - T + G)] 2))) hgrow (fun q hq => by have := (HO3.out.lt q hq).1; omega))
             have HO7 := Lib.hid hown
             clear hown hgrow HA3 HB3 HO3)
          )
        go_roundw
        case rel => exact ⟨k + 1, n - T + G, A9, c9, _, by omega, by go_num, rfl, by omega, by omega, rfl, HH, HO7, HB7, HA7⟩
        case measure => simp [intOf]; omega
    · obtain rfl : k = c.ss.length := by omega
      have HV : Hid ((n == 0) = hgtB c) := Lib.hid (by
        unfold hgtB
        rw [hh.out, List.drop_length]
        show (n == 0) = decide (some n = some 0)
        by_cases h0 : n = 0
        · subst h0; rfl
        · simp [h0])
      obtain ⟨a0, a1, a2, a3, a4⟩ := ha.out
      go_wp2_with (fail)
      refine bodyPost_ret (v := .tuple #[.slice A3 c.ss.length c3, .bool (n == 0)]) (by simp [results, Tryz.results100, go_sem]) rfl (by rw [← HV.out]; exact ⟨_, _, _, rfl, hb.out⟩)
def headC (c : Cd) : Bool := inB c.i 0 20 && inB c.v 0 20 && inB c.o 0 20 && decide (c.bs.length ≤ 2000) && decide (c.ss.length ≤ 2000)
def codeB (c : Cd) : Bool := headC c && c.bs.all blkB && hgtB c
theorem head_Hd {c : Cd} (h : headC c = true) : Hd c := by
  unfold headC inB at h
  simp only [Bool.and_eq_true, decide_eq_true_eq] at h
  obtain ⟨⟨⟨⟨h1, h2⟩, h3⟩, h4⟩, h5⟩ := h
  exact ⟨h1.1, h1.2, h2.1, h2.2, h3.1, h3.2, h4, h5⟩
set_option maxHeartbeats 2000000 in
set_option maxRecDepth 100000 in
theorem c_sIsCode (c : Cd) (ab as_ : Option Addr) (cb cs : Nat) (w : World) (hs : CdOk c) (h : CdR w ab as_ c) :
    Calls Tryz.prog 49 #[cv c ab as_ cb cs] w fun e w' => e = .returned (.bool (codeB c)) ∧ Below w.heap.size w w' := by
  have HS := Lib.hid hs
  have H := Lib.hid h
  have hl1 := hs.1.1
  have hl2 := hs.2
  clear hs h
  have HAB : Hid (Below w.heap.size w (w.alloc (.cells #[.int .i64 c.i, .int .i64 c.v, .int .i64 c.o, .slice ab c.bs.length cb, .slice as_ c.ss.length cs] 35))) := Lib.hid (below_alloc (Below.refl _ _) _)
  rcases q1 : inB c.i 0 20 with _ | _
  · have HV : Hid (codeB c = false) := Lib.hid (by unfold codeB headC; rw [q1]; rfl)
    rw [HV.out]
    go_enter Tryz.func49, Tryz.ntmps49
    dsimp only [cv]
    go_wp2_with (first
      | (go_at_call 55
         refine (c_l01In _ _ _ _).mono ?_
         rintro e w' ⟨rfl, rfl⟩)
      )
    go_ret
    exact ⟨rfl, HAB.out⟩
  rcases q2 : inB c.v 0 20 with _ | _
  · have HV : Hid (codeB c = false) := Lib.hid (by unfold codeB headC; rw [q1, q2]; rfl)
    rw [HV.out]
    go_enter Tryz.func49, Tryz.ntmps49
    dsimp only [cv]
    go_wp2_with (first
      | (go_at_call 55
         refine (c_l01In _ _ _ _).mono ?_
         rintro e w' ⟨rfl, rfl⟩)
      )
    go_ret
    exact ⟨rfl, HAB.out⟩
  rcases q3 : inB c.o 0 20 with _ | _
  · have HV : Hid (codeB c = false) := Lib.hid (by unfold codeB headC; rw [q1, q2, q3]; rfl)
    rw [HV.out]
    go_enter Tryz.func49, Tryz.ntmps49
    dsimp only [cv]
    go_wp2_with (first
      | (go_at_call 55
         refine (c_l01In _ _ _ _).mono ?_
         rintro e w' ⟨rfl, rfl⟩)
      )
    go_ret
    exact ⟨rfl, HAB.out⟩
  by_cases q4 : 2000 < c.bs.length
  · have HV : Hid (codeB c = false) := Lib.hid (by unfold codeB headC; rw [decide_eq_false (show ¬ c.bs.length ≤ 2000 by omega)]; simp)
    rw [HV.out]
    go_enter Tryz.func49, Tryz.ntmps49
    dsimp only [cv]
    go_wp2_with (first
      | (go_at_call 55
         refine (c_l01In _ _ _ _).mono ?_
         rintro e w' ⟨rfl, rfl⟩)
      )
    go_ret
    exact ⟨rfl, HAB.out⟩
  by_cases q5 : 2000 < c.ss.length
  · have HV : Hid (codeB c = false) := Lib.hid (by unfold codeB headC; rw [decide_eq_false (show ¬ c.ss.length ≤ 2000 by omega)]; simp)
    rw [HV.out]
    go_enter Tryz.func49, Tryz.ntmps49
    dsimp only [cv]
    go_wp2_with (first
      | (go_at_call 55
         refine (c_l01In _ _ _ _).mono ?_
         rintro e w' ⟨rfl, rfl⟩)
      )
    go_ret
    exact ⟨rfl, HAB.out⟩
  have hh : headC c = true := by
    unfold headC
    rw [q1, q2, q3, decide_eq_true (show c.bs.length ≤ 2000 by omega), decide_eq_true (show c.ss.length ≤ 2000 by omega)]
    rfl
  have HH := Lib.hid hh
  have HA : Hid (CB (w.alloc (.cells #[.int .i64 c.i, .int .i64 c.v, .int .i64 c.o, .slice ab c.bs.length cb, .slice as_ c.ss.length cs] 35)) w.heap.size c ab as_ cb cs) := Lib.hid ⟨by go_simp, by go_simp, by go_simp, by go_simp, by go_simp⟩
  clear hh
  go_enter Tryz.func49, Tryz.ntmps49
  dsimp only [cv]
  go_wp2_with (first
    | (go_at_call 55
       refine (c_l01In _ _ _ _).mono ?_
       rintro e w' ⟨rfl, rfl⟩)
    )
  generalize w.alloc (.cells #[.int .i64 c.i, .int .i64 c.v, .int .i64 c.o, .slice ab c.bs.length cb, .slice as_ c.ss.length cs] 35) = W at *
  clear q1 q2 q3
  go_loopw [3] (fun i wr => ∃ k : Nat, k ≤ c.bs.length ∧ i = .int .i64 k ∧ Hid (∀ t ∈ c.bs.take k, blkB t = true) ∧ Hid (Below w.heap.size w wr) ∧ Hid (CB wr w.heap.size c ab as_ cb cs)) (fun i _ => c.bs.length - (intOf i).toNat)
  case atStart => exact ⟨0, Nat.zero_le _, rfl, Lib.hid (fun t h => by simp at h), HAB, HA⟩
  case round =>
    obtain ⟨k, hk, rfl, hall, hb, ha⟩ := hrel
    clear HAB HA
    obtain ⟨a0, a1, a2, a3, a4⟩ := ha.out
    by_cases hlt : k < c.bs.length
    · obtain ⟨t, ht⟩ : ∃ t, c.bs[k]? = some t := ⟨_, List.getElem?_eq_getElem hlt⟩
      obtain ⟨b1, o1, rfl, _, g0, g1, g2⟩ := (H.out.below hb.out).b.tm ht
      have HT := Lib.hid ht
      have hnm := HS.out.1.2 t (List.mem_of_getElem? ht)
      have hk0 : (0 : Int) ≤ (k : Int) := by omega
      have hk1 : (k : Int) < c.bs.length := by omega
      clear ht
      go_wp2_with (fail)
      refine (c_sIsBlock t _ hnm).mono ?_
      rintro e w2 ⟨rfl, hb2⟩
      have HA2 := Lib.hid (ha.out.below hb2)
      have HB2 := Lib.hid (below_chain hb.out hb2)
      clear hb2 ha hb a0 a1 a2 a3 a4 g0 g1 g2
      rcases hbl : blkB t with _ | _
      · have HV : Hid (codeB c = false) := Lib.hid (by
          unfold codeB
          have hm := List.mem_of_getElem? HT.out
          have : c.bs.all blkB = false := by
            rw [← Bool.not_eq_true, List.all_eq_true]
            intro h
            rw [h t hm] at hbl
            cases hbl
          rw [this]; simp)
        go_wp2_with (fail)
        go_ret
        exact ⟨ret_bool HV.out.symm, HB2.out⟩
      · have HAL : Hid (∀ t ∈ c.bs.take (k + 1), blkB t = true) := Lib.hid (by
          intro t' h
          rw [List.take_add_one, HT.out, List.mem_append] at h
          rcases h with h | h
          · exact hall.out t' h
          · simp at h
            subst h
            exact hbl)
        clear hbl
        go_wp2_with (fail)
        go_roundw
        case rel => exact ⟨k + 1, by omega, by go_num, HAL, HB2, HA2⟩
        case measure => simp [intOf]; omega
    · obtain rfl : k = c.bs.length := by omega
      have HV : Hid (hgtB c = codeB c) := Lib.hid (by
        unfold codeB
        have : c.bs.all blkB = true := by
          rw [List.all_eq_true]
          intro t ht
          have := hall.out t
          rw [List.take_length] at this
          exact this ht
        rw [HH.out, this]; simp)
      go_wp2_with (fail)
      refine (c_l17Heights c ab as_ cb cs _ (head_Hd HH.out) (H.out.below hb.out)).mono ?_
      rintro e w2 ⟨A, n, cc, rfl, hb2⟩
      have HB2 := Lib.hid (below_chain hb.out hb2)
      clear hb2
      go_wp2_with (fail)
      go_ret
      exact ⟨ret_bool HV.out, HB2.out⟩
end Go.Proofs.YteengjcplmjakaaGreatDoor
