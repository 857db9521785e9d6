/- The program's compiler: newCompiler, compile. Condition: the program is sound; the lengths. -/
import Derived.Test.YtackekfjalaacaaGreatDoorQCj
import Derived.Test.YtackekfjalaacaaGreatDoorQCc
namespace Go.Proofs.YtackekfjalaacaaGreatDoor
open Go.RowKit

set_option maxRecDepth 100000 in
theorem c_lengthS (A : Option Addr) (c n : Nat) (w : World) (hn : n ≤ 1048576) : Calls Tryz.prog 113 #[.slice A n c] w fun e w' => e = .returned (.int .i64 n) ∧ w = w' := by
  have hw : IntKind.i64.wrap (n : Int) = n := IntWalk.i64_in _ (by omega)
  go_enter Tryz.func113, Tryz.ntmps113
  go_wp2_with (fail)
  go_ret
  exact ⟨rfl, rfl⟩
set_option maxHeartbeats 2000000 in
set_option maxRecDepth 100000 in
theorem c_newCompiler (p : Prg) (a1 a2 a3 a4 : Option Addr) (c1 c2 c3 c4 : Nat) (w : World) (hs : PgOk p) (hbd : PgB p) (h : PgR w a1 a2 a3 a4 p) :
    Calls Tryz.prog 78 #[pv p a1 a2 a3 a4 c1 c2 c3 c4] w fun e w' => ∃ b ab cb, e = .returned (.pointer (some ⟨b, 0, none⟩)) ∧ XS w w' b p a1 a2 a3 a4 ab c1 c2 c3 c4 cb none 0 [] 0 := by
  have H := Lib.hid h
  have HI := Lib.hid (fun w => c_lengthS a1 c1 p.ins.length w hs.i.1)
  have HV := Lib.hid (fun w => c_lengthS a2 c2 p.vs.length w hs.v.1)
  have HO := Lib.hid (fun w => c_lengthS a3 c3 p.os.length w hs.o.1)
  have HB := Lib.hid (fun w h => c_blocks p a1 a2 a3 a4 c1 c2 c3 c4 w hbd h)
  have B0 := Lib.hid (below_alloc (Below.refl w.heap.size w) (.cells #[.string p.nm, .slice a1 p.ins.length c1, .slice a2 p.vs.length c2, .slice a3 p.os.length c3, .string p.gd, .slice a4 p.ls.length c4] 31))
  have HP : Hid (PB (w.alloc (.cells #[.string p.nm, .slice a1 p.ins.length c1, .slice a2 p.vs.length c2, .slice a3 p.os.length c3, .string p.gd, .slice a4 p.ls.length c4] 31)) w.heap.size p a1 a2 a3 a4 c1 c2 c3 c4) := Lib.hid ⟨by go_simp, by go_simp, by go_simp, by go_simp, by go_simp, by go_simp⟩
  clear hs hbd h
  go_enter Tryz.func78, Tryz.ntmps78
  dsimp only [pv]
  go_upto_region 1 with (fail)
  generalize w.alloc (.cells #[.string p.nm, .slice a1 p.ins.length c1, .slice a2 p.vs.length c2, .slice a3 p.os.length c3, .string p.gd, .slice a4 p.ls.length c4] 31) = W at *
  obtain ⟨k0, k1, k2, k3, k4, k5⟩ := HP.out
  refine wp_region_held_drew (S := (fun w' => w'.cell? ⟨w.heap.size, 0, none⟩ = some (.string p.nm) ∧ w'.cell? ⟨w.heap.size, 1, none⟩ = some (.slice a1 p.ins.length c1) ∧ w'.cell? ⟨w.heap.size, 2, none⟩ = some (.slice a2 p.vs.length c2) ∧ w'.cell? ⟨w.heap.size, 3, none⟩ = some (.slice a3 p.os.length c3) ∧ w'.cell? ⟨w.heap.size, 4, none⟩ = some (.string p.gd) ∧ w'.cell? ⟨w.heap.size, 5, none⟩ = some (.slice a4 p.ls.length c4))) (by kernel_rfl) ?_ (fun hHeld => ?_)
  · exact ⟨k0, k1, k2, k3, k4, k5⟩
  refine rg_take (v := ?_) 0 rfl (by kernel_rfl) (by kernel_rfl) (by kernel_rfl) (fun _ _ _ h => h) (by kernel_rfl) ?_ (by assumption) ?_
  rotate_left
  · (intro w' hSw; (try dsimp only at hSw); go_simp; first | done | with_reducible rfl)
  simp only [Act.put, List.setIfInBounds_toArray, List.set_cons_zero, List.set_cons_succ]
  refine rg_take (v := ?_) 1 rfl (by kernel_rfl) (by kernel_rfl) (by kernel_rfl) (fun _ _ _ h => h) (by kernel_rfl) ?_ (by assumption) ?_
  rotate_left
  · (intro w' hSw; (try dsimp only at hSw); go_simp; first | done | with_reducible rfl)
  simp only [Act.put, List.setIfInBounds_toArray, List.set_cons_zero, List.set_cons_succ]
  refine rg_take (v := ?_) 2 rfl (by kernel_rfl) (by kernel_rfl) (by kernel_rfl) (fun _ _ _ h => h) (by kernel_rfl) ?_ (by assumption) ?_
  rotate_left
  · (intro w' hSw; (try dsimp only at hSw); go_simp; first | done | with_reducible rfl)
  simp only [Act.put, List.setIfInBounds_toArray, List.set_cons_zero, List.set_cons_succ]
  refine rg_take (v := ?_) 4 rfl (by kernel_rfl) (by kernel_rfl) (by kernel_rfl) (fun _ _ _ h => h) (by kernel_rfl) ?_ (by assumption) ?_
  rotate_left
  · (intro w' hSw; (try dsimp only at hSw); go_simp; first | done | with_reducible rfl)
  simp only [Act.put, List.setIfInBounds_toArray, List.set_cons_zero, List.set_cons_succ]
  refine rg_take (v := ?_) 5 rfl (by kernel_rfl) (by kernel_rfl) (by kernel_rfl) (fun _ _ _ h => h) (by kernel_rfl) ?_ (by assumption) ?_
  rotate_left
  · (intro w' hSw; (try dsimp only at hSw); go_simp; first | done | with_reducible rfl)
  simp only [Act.put, List.setIfInBounds_toArray, List.set_cons_zero, List.set_cons_succ]
  refine rg_take (v := ?_) 7 rfl (by kernel_rfl) (by kernel_rfl) (by kernel_rfl) (fun _ _ _ h => h) (by kernel_rfl) ?_ (by assumption) ?_
  rotate_left
  · (intro w' hSw; (try dsimp only at hSw); go_simp; first | done | with_reducible rfl)
  simp only [Act.put, List.setIfInBounds_toArray, List.set_cons_zero, List.set_cons_succ]
  refine rg_take (v := ?_) 8 rfl (by kernel_rfl) (by kernel_rfl) (by kernel_rfl) (fun _ _ _ h => h) (by kernel_rfl) ?_ (by assumption) ?_
  rotate_left
  · (intro w' hSw; (try dsimp only at hSw); go_simp; first | done | with_reducible rfl)
  simp only [Act.put, List.setIfInBounds_toArray, List.set_cons_zero, List.set_cons_succ]
  refine rg_take (v := ?_) 10 rfl (by kernel_rfl) (by kernel_rfl) (by kernel_rfl) (fun _ _ _ h => h) (by kernel_rfl) ?_ (by assumption) ?_
  rotate_left
  · (intro w' hSw; (try dsimp only at hSw); go_simp; first | done | with_reducible rfl)
  simp only [Act.put, List.setIfInBounds_toArray, List.set_cons_zero, List.set_cons_succ]
  refine rg_run 3 rfl (by kernel_rfl) (by kernel_rfl) (fun K hK => ?_)
  go_simp
  refine (HI.out _).mono ?_
  rintro e w1 ⟨rfl, rfl⟩
  go_wp2
  clear hHeld
  refine hK.out _ _ (by exact ⟨k0, k1, k2, k3, k4, k5⟩) (fun hHeld => ?_)
  clear hK K
  try simp only [Act.put, List.setIfInBounds_toArray, List.set_cons_zero, List.set_cons_succ]
  refine rg_run 6 rfl (by kernel_rfl) (by kernel_rfl) (fun K hK => ?_)
  go_simp
  refine (HV.out _).mono ?_
  rintro e w2 ⟨rfl, rfl⟩
  go_wp2
  clear hHeld
  refine hK.out _ _ (by exact ⟨k0, k1, k2, k3, k4, k5⟩) (fun hHeld => ?_)
  clear hK K
  try simp only [Act.put, List.setIfInBounds_toArray, List.set_cons_zero, List.set_cons_succ]
  refine rg_run 9 rfl (by kernel_rfl) (by kernel_rfl) (fun K hK => ?_)
  go_simp
  refine (HO.out _).mono ?_
  rintro e w3 ⟨rfl, rfl⟩
  go_wp2
  clear hHeld
  refine hK.out _ _ (by exact ⟨k0, k1, k2, k3, k4, k5⟩) (fun hHeld => ?_)
  clear hK K
  try simp only [Act.put, List.setIfInBounds_toArray, List.set_cons_zero, List.set_cons_succ]
  refine rg_run 11 rfl (by kernel_rfl) (by kernel_rfl) (fun K hK => ?_)
  go_simp
  refine (HB.out _ ((H.out.below B0.out).below (Below.refl _ _).drew)).mono ?_
  rintro e w4 ⟨A8, c8, rfl, ho, hb⟩
  have hbs : Below W.heap.size W w4 := below_chain (Below.refl _ _).drew hb
  have HB4 := Lib.hid (below_chain B0.out hbs)
  have HO4 := Lib.hid (own_mono ho (show w.heap.size ≤ W.drew.heap.size from B0.out.size))
  replace k0 := cell_later hbs (by exact k0)
  replace k1 := cell_later hbs (by exact k1)
  replace k2 := cell_later hbs (by exact k2)
  replace k3 := cell_later hbs (by exact k3)
  replace k4 := cell_later hbs (by exact k4)
  replace k5 := cell_later hbs (by exact k5)
  clear hb hbs ho
  go_wp2
  clear hHeld
  refine hK.out _ _ (by exact ⟨k0, k1, k2, k3, k4, k5⟩) (fun hHeld => ?_)
  clear hK K
  try simp only [Act.put, List.setIfInBounds_toArray, List.set_cons_zero, List.set_cons_succ]
  refine rg_take (v := ?_) 12 rfl (by kernel_rfl) (by kernel_rfl) (by kernel_rfl) (fun _ _ _ h => h) (by kernel_rfl) ?_ (by assumption) ?_
  rotate_left
  · (intro w' hSw; (try dsimp only at hSw); go_simp; first | done | with_reducible rfl)
  simp only [Act.put, List.setIfInBounds_toArray, List.set_cons_zero, List.set_cons_succ]
  refine rg_take (v := ?_) 13 rfl (by kernel_rfl) (by kernel_rfl) (by kernel_rfl) (fun _ _ _ h => h) (by kernel_rfl) ?_ (by assumption) ?_
  rotate_left
  · (intro w' hSw; (try dsimp only at hSw); go_simp; first | done | with_reducible rfl)
  simp only [Act.put, List.setIfInBounds_toArray, List.set_cons_zero, List.set_cons_succ]
  have hal := below_alloc (Below.refl w4.heap.size w4) (.cells (xCells p a1 a2 a3 a4 A8 c1 c2 c3 c4 c8 none 0 0 0).toArray 118)
  have HXX : Hid (XS w (w4.alloc (.cells (xCells p a1 a2 a3 a4 A8 c1 c2 c3 c4 c8 none 0 0 0).toArray 118)) w4.heap.size p a1 a2 a3 a4 A8 c1 c2 c3 c4 c8 none 0 [] 0) := Lib.hid
    ⟨own_box w4 w.heap.size 118 _ 12 rfl HB4.out.size, World.ownsRow_nil _ _ _ _, own_below HO4.out hal, below_chain HB4.out hal⟩
  replace k0 := cell_later hal (by exact k0)
  replace k1 := cell_later hal (by exact k1)
  replace k2 := cell_later hal (by exact k2)
  replace k3 := cell_later hal (by exact k3)
  replace k4 := cell_later hal (by exact k4)
  replace k5 := cell_later hal (by exact k5)
  clear hal
  unfold xCells at *
  refine rg_run 14 rfl (by kernel_rfl) (by kernel_rfl) (fun K hK => ?_)
  go_simp
  go_wp2
  clear hHeld
  refine hK.out _ _ (by exact ⟨k0, k1, k2, k3, k4, k5⟩) (fun hHeld => ?_)
  clear hK K
  try simp only [Act.put, List.setIfInBounds_toArray, List.set_cons_zero, List.set_cons_succ]
  refine rg_take (v := ?_) 15 rfl (by kernel_rfl) (by kernel_rfl) (by kernel_rfl) (fun _ _ _ h => h) (by kernel_rfl) ?_ (by assumption) ?_
  rotate_left
  · (intro w' hSw; (try dsimp only at hSw); go_simp; first | done | with_reducible rfl)
  simp only [Act.put, List.setIfInBounds_toArray, List.set_cons_zero, List.set_cons_succ]
  refine wpAnyH_done (by kernel_rfl) ?_ _
  clear hHeld
  go_wp2_with (fail)
  go_ret
  exact ⟨_, _, _, rfl, HXX.out⟩
set_option maxHeartbeats 2000000 in
set_option maxRecDepth 100000 in
theorem c_compile (p : Prg) (a1 a2 a3 a4 : Option Addr) (c1 c2 c3 c4 : Nat) (w : World) (hs : PgOk p) (hd : Snd p) (h : PgR w a1 a2 a3 a4 p) :
    Calls Tryz.prog 47 #[pv p a1 a2 a3 a4 c1 c2 c3 c4] w (RetCd (cmp p) w) := by
  have H := Lib.hid h
  have HD := Lib.hid hd
  have HNC := Lib.hid (fun w h => c_newCompiler p a1 a2 a3 a4 c1 c2 c3 c4 w hs hd.b h)
  have B0 := Lib.hid (below_alloc (below_alloc (Below.refl w.heap.size w) (.cells #[.string p.nm, .slice a1 p.ins.length c1, .slice a2 p.vs.length c2, .slice a3 p.os.length c3, .string p.gd, .slice a4 p.ls.length c4] 31)) (.cells #[.int .i64 0, .int .i64 0, .int .i64 0, .slice none 0 0, .slice none 0 0] 51))
  have HP : Hid (PB ((w.alloc (.cells #[.string p.nm, .slice a1 p.ins.length c1, .slice a2 p.vs.length c2, .slice a3 p.os.length c3, .string p.gd, .slice a4 p.ls.length c4] 31)).alloc (.cells #[.int .i64 0, .int .i64 0, .int .i64 0, .slice none 0 0, .slice none 0 0] 51)) w.heap.size p a1 a2 a3 a4 c1 c2 c3 c4) := Lib.hid ⟨by go_simp, by go_simp, by go_simp, by go_simp, by go_simp, by go_simp⟩
  have HX : Hid (CRB ((w.alloc (.cells #[.string p.nm, .slice a1 p.ins.length c1, .slice a2 p.vs.length c2, .slice a3 p.os.length c3, .string p.gd, .slice a4 p.ls.length c4] 31)).alloc (.cells #[.int .i64 0, .int .i64 0, .int .i64 0, .slice none 0 0, .slice none 0 0] 51)) (w.heap.size + 1)) := Lib.hid ⟨⟨by go_simp, by go_simp, by go_simp, by go_simp, by go_simp⟩, by go_simp, by go_simp, by go_simp, by go_simp, by go_simp⟩
  have bl := hd.b.l
  clear hd h
  go_enter Tryz.func47, Tryz.ntmps47
  dsimp only [pv]
  go_upto_region 1 with (fail)
  generalize (w.alloc (.cells #[.string p.nm, .slice a1 p.ins.length c1, .slice a2 p.vs.length c2, .slice a3 p.os.length c3, .string p.gd, .slice a4 p.ls.length c4] 31)).alloc (.cells #[.int .i64 0, .int .i64 0, .int .i64 0, .slice none 0 0, .slice none 0 0] 51) = W at *
  obtain ⟨k0, k1, k2, k3, k4, k5⟩ := HP.out
  have HPW := Lib.hid (H.out.below B0.out)
  have HS := Lib.hid hs
  have HRET : Hid (∀ A1 q1 A2 n2 q2 w', n2 = (cmp p).ss.length → w'.ownsRow w.heap.size 109 3 (.slice A1 (blk p).length q1) (blk p).length (tmCells (blk p)) → w'.ownsRow w.heap.size 107 2 (.slice A2 n2 q2) n2 (insCells (cmp p).ss) → Below w.heap.size w w' → RetCd (cmp p) w (.returned (.agg #[.int .i64 p.ins.length, .int .i64 p.vs.length, .int .i64 p.os.length, .slice A1 (blk p).length q1, .slice A2 n2 q2])) w') := Lib.hid (fun A1 q1 A2 n2 q2 w' e h1 h2 h3 => by subst e; exact ⟨A1, q1, A2, q2, rfl, h1, h2, h3⟩)
  have HSS : Hid ((cmp p).ss = csP p 0 p.ls ++ gdI p) := Lib.hid rfl
  clear hs
  go_wp2_with (fail)
  refine (HNC.out _ HPW.out).mono ?_
  rintro e w1 ⟨b, ab, cb, rfl, hx⟩
  have HX1 := Lib.hid hx
  clear hx
  replace k0 := cell_later HX1.out.bel (by exact k0)
  replace k1 := cell_later HX1.out.bel (by exact k1)
  replace k2 := cell_later HX1.out.bel (by exact k2)
  replace k3 := cell_later HX1.out.bel (by exact k3)
  replace k4 := cell_later HX1.out.bel (by exact k4)
  replace k5 := cell_later HX1.out.bel (by exact k5)
  go_wp2_with (fail)
  clear k0 k1 k2 k3 k4 k5
  go_loopw [5, 11] (fun _ i wr => ∃ k : Nat, k ≤ p.ls.length ∧ i = .int .i64 k ∧ Hid (∃ A c, XS W wr b p a1 a2 a3 a4 ab c1 c2 c3 c4 cb A c (csP p 0 (p.ls.take k)) (nbL (p.ls.take k)))) (fun _ i _ => p.ls.length - (intOf i).toNat)
  case atStart => exact ⟨0, Nat.zero_le _, rfl, Lib.hid ⟨none, 0, HX1.out⟩⟩
  case round =>
    obtain ⟨k, hk, rfl, hx⟩ := hrel
    clear HX1
    obtain ⟨A1, cc1, hx1⟩ := hx.out
    have HX1 := Lib.hid hx1
    clear hx hx1
    have hnb := nbL_le HD.out.b k
    have hlen := csP_len p (p.ls.take k) 0 (fun l hl => HD.out.b.t l (List.mem_of_mem_take hl))
    rw [List.length_take] at hlen
    by_cases hlt : k < p.ls.length
    · obtain ⟨⟨tg, ts⟩, hz⟩ : ∃ z, p.ls[k]? = some z := ⟨_, List.getElem?_eq_getElem hlt⟩
      obtain ⟨b2, o2, la, lc, rfl, hblt, g0w, g1w, hrow⟩ := HPW.out.l.at hz
      dsimp only at g0w g1w hrow
      have g0 := cell_later HX1.out.bel g0w
      have g1 := cell_later HX1.out.bel g1w
      have htl := HD.out.b.t _ (List.mem_of_getElem? hz)
      dsimp only at htl
      have hal := below_alloc (Below.refl wr.heap.size wr) (.cells #[.string tg, .slice la ts.length lc] 93)
      have HX2 := Lib.hid (HX1.out.below hal)
      have hl2 : (csP p 0 (p.ls.take k)).length ≤ 2000 := by omega
      have HLC := Lib.hid (fun w' hx => c_line W b p a1 a2 a3 _ ab c1 c2 c3 c4 cb A1 cc1 (csP p 0 (p.ls.take k)) (nbL (p.ls.take k)) tg ts la lc w' HS.out (HD.out.k _ (List.mem_of_getElem? hz)) htl hl2 (by omega) HPW.out hrow hx)
      have HST := Lib.hid (csP_step hz)
      have HNS := Lib.hid (nbL_step hz)
      have hk0 : (0 : Int) ≤ (k : Int) := by omega
      have hk1 : (k : Int) < p.ls.length := by omega
      clear hz hal g0w g1w hrow hblt hl2 hlen hnb
      go_wp2_with (fail)
      refine (HLC.out _ HX2.out).mono ?_
      rintro e w3 ⟨rfl, hx, hf⟩
      have HX3 := Lib.hid hx
      clear hx hf g0 g1
      go_wp2_with (fail)
      go_roundw
      case rel => exact ⟨k + 1, by omega, by go_num, Lib.hid (by rw [HST.out, HNS.out]; exact HX3.out)⟩
      case measure => simp [intOf]; omega
    · obtain rfl : k = p.ls.length := by omega
      rw [List.take_length] at HX1
      have hlen2 : (csP p 0 p.ls).length ≤ 3000 := by rw [List.take_length] at hlen; omega
      have HLD := Lib.hid (fun w' hx => c_load W b p a1 a2 a3 a4 ab c1 c2 c3 c4 cb A1 cc1 (csP p 0 p.ls) (nbL p.ls) p.gd 10 11 w' HS.out hlen2 HPW.out hx)
      obtain ⟨k0, k1, k2, k3, k4, k5⟩ := HP.out.below HX1.out.bel
      have hrb := World.block_lt_of_cell? _ _ HX.out.1.1
      dsimp only at hrb
      generalize csP p 0 p.ls = S0 at *
      generalize nbL p.ls = nb0 at *
      clear hlen hnb hlen2 hlt
      rcases hg : p.gd.toList.isEmpty with _ | _
      · have HGI : Hid (gdI p = [nmI p p.gd 10 11]) := Lib.hid (by unfold gdI; rw [hg]; rfl)
        rw [HGI.out] at HSS
        go_wp2_with (fail)
        refine (HLD.out _ HX1.out).mono ?_
        rintro e w3 ⟨rfl, ⟨A3, cc3, hx⟩, hf⟩
        have HX3 := Lib.hid hx
        clear hx hf k0 k1 k2 k3 k4 k5 hg HX1 HLD
        obtain ⟨_, ⟨k6, k7, k8, k9, k10⟩, _, _, hb1, hb2⟩ := HX3.out.cells
        obtain ⟨⟨x0, x1, x2, x3, x4⟩, f0, f1, f2, f3, f4⟩ := HX.out.below HX3.out.bel
        have HLN : Hid ((S0 ++ [nmI p p.gd 10 11]).length = (cmp p).ss.length) := Lib.hid (by rw [HSS.out])
        rw [HSS.out] at HRET
        generalize nmI p p.gd 10 11 = I at *
        have hxz := World.block_lt_of_cell? _ _ x0
        generalize hln : (S0 ++ [I]).length = n9 at *
        have HLNN := Lib.hid hln
        clear hln
        go_wp2_with (fail)
        refine bodyPost_ret (v := .agg #[.int .i64 p.ins.length, .int .i64 p.vs.length, .int .i64 p.os.length, .slice ab (blk p).length cb, .slice A3 n9 cc3]) (by simp [results, Tryz.results47, go_sem, x0, x1, x2, x3, x4]) rfl (by
          have h1 := HX3.out.blk
          have h2 := HX3.out.row
          rw [HLNN.out] at h2
          refine HRET.out _ _ _ _ _ _ rfl ?_ ?_ ?_
          · exact own_mono (own_set5 h1 hrb _ _ _ _ _) B0.out.size
          · exact own_mono (own_set5 h2 hrb _ _ _ _ _) B0.out.size
          · exact below_set5 (below_chain B0.out HX3.out.bel) (by omega) _ _ _ _ _)
      · have HGI : Hid (gdI p = []) := Lib.hid (by unfold gdI; rw [hg]; rfl)
        rw [HGI.out, List.append_nil] at HSS
        clear HLD
        obtain ⟨_, ⟨k6, k7, k8, k9, k10⟩, _, _, hb1, hb2⟩ := HX1.out.cells
        obtain ⟨⟨x0, x1, x2, x3, x4⟩, f0, f1, f2, f3, f4⟩ := HX.out.below HX1.out.bel
        rw [HSS.out] at HRET
        have hxz := World.block_lt_of_cell? _ _ x0
        generalize hln : S0.length = n9 at *
        have HLNN := Lib.hid hln
        clear hln
        go_wp2_with (fail)
        refine bodyPost_ret (v := .agg #[.int .i64 p.ins.length, .int .i64 p.vs.length, .int .i64 p.os.length, .slice ab (blk p).length cb, .slice A1 n9 cc1]) (by simp [results, Tryz.results47, go_sem, x0, x1, x2, x3, x4]) rfl (by
          have h1 := HX1.out.blk
          have h2 := HX1.out.row
          rw [HLNN.out] at h2
          refine HRET.out _ _ _ _ _ _ rfl ?_ ?_ ?_
          · exact own_mono (own_set5 h1 hrb _ _ _ _ _) B0.out.size
          · exact own_mono (own_set5 h2 hrb _ _ _ _ _) B0.out.size
          · exact below_set5 (below_chain B0.out HX1.out.bel) (by omega) _ _ _ _ _)
end Go.Proofs.YtackekfjalaacaaGreatDoor
