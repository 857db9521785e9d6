/- The reference's side of delays: l19Guard, l19Delay, l19Code, DelayOf. Condition: the lengths. -/
import Derived.Test.YtackekfjalaacaaDoorDlT
namespace Go.Proofs.YtackekfjalaacaaDoor
open Go.RowKit

/-- The code, the number. -/
def dlyC (p : Prg) (inp out : ByteArray) : Int := if (wrB p && fltB p) then (if memS p.ins inp && memS p.os out then (if dlyV p inp out = 0 then 5 else 0) else 4) else 1
def dlyR (p : Prg) (inp out : ByteArray) : Int := if dlyC p inp out = 0 then dlyV p inp out else 0
def RetP (x y : Int) (w : World) (e : Ending) (w' : World) : Prop := e = .returned (.tuple #[.int .i64 x, .int .i64 y]) ∧ Below w.heap.size w w'
theorem retP_of {x x' y y' : Int} {w w' : World} (h1 : x = x') (h2 : y = y') (hb : Below w.heap.size w w') : RetP x y w (.returned (.tuple #[.int .i64 x', .int .i64 y'])) w' := by
  subst h1; subst h2; exact ⟨rfl, hb⟩
theorem scn_cell {w : World} {base g : Nat} {S : List Int} (h : w.ownsRow base 2 1 (.slice (some ⟨g, 0, none⟩) S.length S.length) S.length (ints S)) {j : Nat} (hj : j < S.length) : w.cell? ⟨g, j, none⟩ = some (.int .i64 (S.getD j 0)) := by
  have := h.cellAt j (by omega)
  rw [this, List.getD_eq_getElem?_getD, List.getElem?_eq_getElem hj]
  exact ints_at' (List.getElem?_eq_getElem hj)
theorem scnV_len (p : Prg) (inp : ByteArray) : (scnV p inp).length = p.ls.length := scnR_len p inp _
theorem tgs_len (p : Prg) : (tgs p).length = p.ls.length := by unfold tgs; simp
set_option maxHeartbeats 1000000 in
set_option maxRecDepth 100000 in
theorem c_l19Guard (p : Prg) (a1 a2 a3 a4 : Option Addr) (c1 c2 c3 c4 : Nat) (inp : ByteArray) (w : World) (hs : PgOk p) (hbd : PgB p) (h : PgR w a1 a2 a3 a4 p) :
    Calls Tryd.prog 24 #[pv p a1 a2 a3 a4 c1 c2 c3 c4, .string inp] w fun e w' => e = .returned (.int .i64 (gdV p inp)) ∧ Below w.heap.size w w' := by
  have H := Lib.hid h
  have HL := Lib.hid (fun s w h => c_l14Line p a1 a2 a3 a4 c1 c2 c3 c4 s w hs.l.1 h)
  have HS := Lib.hid (fun w h => c_l19Scans p a1 a2 a3 a4 c1 c2 c3 c4 inp w hs hbd h)
  have HSL := Lib.hid (scnV_len p inp)
  have hib := ixS_bd p.gd (tgs p)
  rw [tgs_len] at hib
  have bl := hbd.l
  have HV0 : Hid (p.gd.toList.isEmpty = true → gdV p inp = 0) := Lib.hid (fun e => by unfold gdV; rw [e]; rfl)
  have HV1 : Hid (p.gd.toList.isEmpty = false → p.gd = inp → gdV p inp = 1) := Lib.hid (fun e e2 => by unfold gdV; rw [e, if_neg (by decide), if_pos e2])
  have HV2 : Hid (p.gd.toList.isEmpty = false → ¬ p.gd = inp → ixS (tgs p) p.gd < 0 → gdV p inp = 0) := Lib.hid (fun e e2 e3 => by unfold gdV; rw [e, if_neg (by decide), if_neg e2, if_pos e3])
  have HV3 : Hid (p.gd.toList.isEmpty = false → ¬ p.gd = inp → ¬ ixS (tgs p) p.gd < 0 → gdV p inp = (scnV p inp).getD (ixS (tgs p) p.gd).toNat 0) := Lib.hid (fun e e2 e3 => by unfold gdV; rw [e, if_neg (by decide), if_neg e2, if_neg e3])
  generalize gdV p inp = R at *
  have B0 := Lib.hid (below_alloc (Below.refl w.heap.size w) (.cells #[.string p.nm, .slice a1 p.ins.length c1, .slice a2 p.vs.length c2, .slice a3 p.os.length c3, .string p.gd, .slice a4 p.ls.length c4] 31))
  have HP : Hid (PB (w.alloc (.cells #[.string p.nm, .slice a1 p.ins.length c1, .slice a2 p.vs.length c2, .slice a3 p.os.length c3, .string p.gd, .slice a4 p.ls.length c4] 31)) w.heap.size p a1 a2 a3 a4 c1 c2 c3 c4) := Lib.hid ⟨by go_simp, by go_simp, by go_simp, by go_simp, by go_simp, by go_simp⟩
  clear hs hbd h
  go_enter Tryd.func24, Tryd.ntmps24
  dsimp only [pv]
  go_upto_region 1 with (fail)
  generalize w.alloc (.cells #[.string p.nm, .slice a1 p.ins.length c1, .slice a2 p.vs.length c2, .slice a3 p.os.length c3, .string p.gd, .slice a4 p.ls.length c4] 31) = W at *
  obtain ⟨k0, k1, k2, k3, k4, k5⟩ := HP.out
  rcases hg : p.gd.toList.isEmpty with _ | _
  rotate_left
  · obtain rfl := HV0.out hg
    clear HV0 HV1 HV2 HV3
    go_wp2_with (fail)
    go_ret
    exact ⟨rfl, B0.out⟩
  have HV1' := Lib.hid (HV1.out hg)
  have HV2' := Lib.hid (HV2.out hg)
  have HV3' := Lib.hid (HV3.out hg)
  clear HV0 HV1 HV2 HV3
  by_cases he : p.gd = inp
  · obtain rfl := HV1'.out he
    have heq : (p.gd.toList == inp.toList) = true := by rw [beq_str]; exact decide_eq_true he
    clear HV1' HV2' HV3' he
    go_wp2_with (fail)
    go_ret
    exact ⟨rfl, B0.out⟩
  have heq : (p.gd.toList == inp.toList) = false := by rw [beq_str]; exact decide_eq_false he
  have HV2 := Lib.hid (HV2'.out he)
  have HV3 := Lib.hid (HV3'.out he)
  clear HV1' HV2' HV3' he
  go_wp2_with (fail)
  refine (HL.out p.gd _ (H.out.below B0.out)).mono ?_
  rintro e w1 ⟨rfl, hb⟩
  have B1 := Lib.hid (below_chain B0.out hb)
  replace k0 := cell_later hb (by exact k0)
  replace k1 := cell_later hb (by exact k1)
  replace k2 := cell_later hb (by exact k2)
  replace k3 := cell_later hb (by exact k3)
  replace k4 := cell_later hb (by exact k4)
  replace k5 := cell_later hb (by exact k5)
  clear hb hg heq
  generalize ixS (tgs p) p.gd = z at *
  by_cases hz : z < 0
  · obtain rfl := HV2.out (by omega)
    clear HV2 HV3
    go_wp2_with (fail)
    go_ret
    exact ⟨rfl, B1.out⟩
  · have HRR := Lib.hid (HV3.out (by omega))
    obtain ⟨j, rfl⟩ : ∃ j : Nat, z = j := ⟨z.toNat, by omega⟩
    rw [Int.toNat_natCast] at HRR
    have hz0 : (0 : Int) ≤ (j : Int) := by omega
    clear HV2 HV3 hz
    go_wp2_with (fail)
    refine (HS.out _ (H.out.below B1.out)).mono ?_
    rintro e w2 ⟨g, rfl, ho, hb⟩
    have B2 := Lib.hid (below_chain B1.out hb)
    have q0 := scn_cell ho (j := j) (by rw [HSL.out]; omega)
    have hz1 : (j : Int) < (scnV p inp).length := by rw [HSL.out]; omega
    clear hb ho k0 k1 k2 k3 k4 k5 hib
    generalize (scnV p inp).getD j 0 = r at *
    generalize (scnV p inp).length = L at *
    go_wp2_with (fail)
    go_ret
    exact ⟨by rw [HRR.out]; rfl, B2.out⟩
set_option maxHeartbeats 1000000 in
set_option maxRecDepth 100000 in
theorem c_l19Delay (p : Prg) (a1 a2 a3 a4 : Option Addr) (c1 c2 c3 c4 : Nat) (inp out : ByteArray) (w : World) (hs : PgOk p) (hbd : PgB p) (hout : 0 ≤ ixS (tgs p) out) (h : PgR w a1 a2 a3 a4 p) :
    Calls Tryd.prog 12 #[pv p a1 a2 a3 a4 c1 c2 c3 c4, .string inp, .string out] w fun e w' => e = .returned (.int .i64 (dlyV p inp out)) ∧ Below w.heap.size w w' := by
  have H := Lib.hid h
  have HL := Lib.hid (fun w h => c_l14Line p a1 a2 a3 a4 c1 c2 c3 c4 out w hs.l.1 h)
  have HS := Lib.hid (fun w h => c_l19Scans p a1 a2 a3 a4 c1 c2 c3 c4 inp w hs hbd h)
  have HG := Lib.hid (fun w h => c_l19Guard p a1 a2 a3 a4 c1 c2 c3 c4 inp w hs hbd h)
  have HSL := Lib.hid (scnV_len p inp)
  have hib := ixS_bd out (tgs p)
  rw [tgs_len] at hib
  have bl := hbd.l
  have HV : Hid (dlyV p inp out = if (scnV p inp).getD (ixS (tgs p) out).toNat 0 = 0 ∨ (0 < gdV p inp ∧ gdV p inp < (scnV p inp).getD (ixS (tgs p) out).toNat 0) then gdV p inp else (scnV p inp).getD (ixS (tgs p) out).toNat 0) := Lib.hid rfl
  generalize dlyV p inp out = R at *
  generalize ixS (tgs p) out = z at *
  obtain ⟨j, rfl⟩ : ∃ j : Nat, z = j := ⟨z.toNat, by omega⟩
  rw [Int.toNat_natCast] at HV
  have B0 := Lib.hid (below_alloc (Below.refl w.heap.size w) (.cells #[.string p.nm, .slice a1 p.ins.length c1, .slice a2 p.vs.length c2, .slice a3 p.os.length c3, .string p.gd, .slice a4 p.ls.length c4] 31))
  have HP : Hid (PB (w.alloc (.cells #[.string p.nm, .slice a1 p.ins.length c1, .slice a2 p.vs.length c2, .slice a3 p.os.length c3, .string p.gd, .slice a4 p.ls.length c4] 31)) w.heap.size p a1 a2 a3 a4 c1 c2 c3 c4) := Lib.hid ⟨by go_simp, by go_simp, by go_simp, by go_simp, by go_simp, by go_simp⟩
  clear hs hbd h
  go_enter Tryd.func12, Tryd.ntmps12
  dsimp only [pv]
  go_upto_region 1 with (fail)
  generalize w.alloc (.cells #[.string p.nm, .slice a1 p.ins.length c1, .slice a2 p.vs.length c2, .slice a3 p.os.length c3, .string p.gd, .slice a4 p.ls.length c4] 31) = W at *
  obtain ⟨k0, k1, k2, k3, k4, k5⟩ := HP.out
  refine wp_region_held_drew (S := (fun w' => w'.cell? ⟨w.heap.size, 0, none⟩ = some (.string p.nm) ∧ w'.cell? ⟨w.heap.size, 1, none⟩ = some (.slice a1 p.ins.length c1) ∧ w'.cell? ⟨w.heap.size, 2, none⟩ = some (.slice a2 p.vs.length c2) ∧ w'.cell? ⟨w.heap.size, 3, none⟩ = some (.slice a3 p.os.length c3) ∧ w'.cell? ⟨w.heap.size, 4, none⟩ = some (.string p.gd) ∧ w'.cell? ⟨w.heap.size, 5, none⟩ = some (.slice a4 p.ls.length c4))) (by kernel_rfl) ?_ (fun hHeld => ?_)
  · exact ⟨k0, k1, k2, k3, k4, k5⟩
  refine rg_take (v := ?_) 0 rfl (by kernel_rfl) (by kernel_rfl) (by kernel_rfl) (fun _ _ _ h => h) (by kernel_rfl) ?_ (by assumption) ?_
  rotate_left
  · (intro w' hSw; (try dsimp only at hSw); go_simp; first | done | with_reducible rfl)
  simp only [Act.put, List.setIfInBounds_toArray, List.set_cons_zero, List.set_cons_succ]
  refine rg_take (v := ?_) 1 rfl (by kernel_rfl) (by kernel_rfl) (by kernel_rfl) (fun _ _ _ h => h) (by kernel_rfl) ?_ (by assumption) ?_
  rotate_left
  · (intro w' hSw; (try dsimp only at hSw); go_simp; first | done | with_reducible rfl)
  simp only [Act.put, List.setIfInBounds_toArray, List.set_cons_zero, List.set_cons_succ]
  refine rg_take (v := ?_) 3 rfl (by kernel_rfl) (by kernel_rfl) (by kernel_rfl) (fun _ _ _ h => h) (by kernel_rfl) ?_ (by assumption) ?_
  rotate_left
  · (intro w' hSw; (try dsimp only at hSw); go_simp; first | done | with_reducible rfl)
  simp only [Act.put, List.setIfInBounds_toArray, List.set_cons_zero, List.set_cons_succ]
  refine rg_take (v := ?_) 4 rfl (by kernel_rfl) (by kernel_rfl) (by kernel_rfl) (fun _ _ _ h => h) (by kernel_rfl) ?_ (by assumption) ?_
  rotate_left
  · (intro w' hSw; (try dsimp only at hSw); go_simp; first | done | with_reducible rfl)
  simp only [Act.put, List.setIfInBounds_toArray, List.set_cons_zero, List.set_cons_succ]
  refine rg_run 2 rfl (by kernel_rfl) (by kernel_rfl) (fun K hK => ?_)
  go_simp
  refine (HS.out _ ((H.out.below B0.out).below (Below.refl _ _).drew)).mono ?_
  rintro e w2 ⟨g, rfl, ho, hb⟩
  have hbs : Below W.heap.size W w2 := below_chain (Below.refl _ _).drew hb
  have B2 := Lib.hid (below_chain B0.out hbs)
  have q0 := scn_cell ho (j := j) (by rw [HSL.out]; omega)
  have hz1 : (j : Int) < (scnV p inp).length := by rw [HSL.out]; omega
  have hz0 : (0 : Int) ≤ (j : Int) := by omega
  replace k0 := cell_later hbs (by exact k0)
  replace k1 := cell_later hbs (by exact k1)
  replace k2 := cell_later hbs (by exact k2)
  replace k3 := cell_later hbs (by exact k3)
  replace k4 := cell_later hbs (by exact k4)
  replace k5 := cell_later hbs (by exact k5)
  clear hb hbs ho
  generalize (scnV p inp).getD j 0 = n at *
  generalize (scnV p inp).length = L at *
  go_wp2
  clear hHeld
  refine hK.out _ _ (by exact ⟨k0, k1, k2, k3, k4, k5⟩) (fun hHeld => ?_)
  clear hK K
  try simp only [Act.put, List.setIfInBounds_toArray, List.set_cons_zero, List.set_cons_succ]
  refine rg_run 5 rfl (by kernel_rfl) (by kernel_rfl) (fun K hK => ?_)
  go_simp
  refine (HL.out _ (H.out.below B2.out)).mono ?_
  rintro e w3 ⟨rfl, hb⟩
  have B3 := Lib.hid (below_chain B2.out hb)
  replace k0 := cell_later hb (by exact k0)
  replace k1 := cell_later hb (by exact k1)
  replace k2 := cell_later hb (by exact k2)
  replace k3 := cell_later hb (by exact k3)
  replace k4 := cell_later hb (by exact k4)
  replace k5 := cell_later hb (by exact k5)
  replace q0 := cell_later hb (by exact q0)
  clear hb
  go_wp2
  clear hHeld
  refine hK.out _ _ (by exact ⟨k0, k1, k2, k3, k4, k5⟩) (fun hHeld => ?_)
  clear hK K
  try simp only [Act.put, List.setIfInBounds_toArray, List.set_cons_zero, List.set_cons_succ]
  refine rg_take (v := ?_) 6 rfl (by kernel_rfl) (by kernel_rfl) (by kernel_rfl) (fun _ _ _ h => h) (by kernel_rfl) ?_ (by assumption) ?_
  rotate_left
  · (intro w' hSw; (try dsimp only at hSw); go_simp; first | done | with_reducible rfl)
  simp only [Act.put, List.setIfInBounds_toArray, List.set_cons_zero, List.set_cons_succ]
  refine rg_run 7 rfl (by kernel_rfl) (by kernel_rfl) (fun K hK => ?_)
  go_simp
  go_wp2
  clear hHeld
  refine hK.out _ _ (by exact ⟨k0, k1, k2, k3, k4, k5⟩) (fun hHeld => ?_)
  clear hK K
  try simp only [Act.put, List.setIfInBounds_toArray, List.set_cons_zero, List.set_cons_succ]
  refine rg_take (v := ?_) 8 rfl (by kernel_rfl) (by kernel_rfl) (by kernel_rfl) (fun _ _ _ h => h) (by kernel_rfl) ?_ (by assumption) ?_
  rotate_left
  · (intro w' hSw; (try dsimp only at hSw); go_simp; first | done | with_reducible rfl)
  simp only [Act.put, List.setIfInBounds_toArray, List.set_cons_zero, List.set_cons_succ]
  refine wpAnyH_done (by kernel_rfl) ?_ _
  clear hHeld
  clear q0 hz0 hz1 hib hout
  go_wp2_with (fail)
  refine (HG.out _ (H.out.below B3.out)).mono ?_
  rintro e w4 ⟨rfl, hb⟩
  have B4 := Lib.hid (below_chain B3.out hb)
  clear hb k0 k1 k2 k3 k4 k5
  generalize gdV p inp = G at *
  by_cases hn : n = 0
  · subst hn
    obtain rfl : R = G := by rw [HV.out]; exact if_pos (.inl rfl)
    go_wp2_with (fail)
    go_ret
    exact ⟨rfl, B4.out⟩
  have en : (n == 0) = false := by simpa using hn
  by_cases h0 : 0 < G
  · by_cases h1 : G < n
    · obtain rfl : R = G := by rw [HV.out]; exact if_pos (.inr ⟨h0, h1⟩)
      clear HV hn
      go_wp2_with (fail)
      go_ret
      exact ⟨rfl, B4.out⟩
    · obtain rfl : R = n := by rw [HV.out]; exact if_neg (fun h => h.elim hn (fun h => h1 h.2))
      clear HV hn
      go_wp2_with (fail)
      go_ret
      exact ⟨rfl, B4.out⟩
  · obtain rfl : R = n := by rw [HV.out]; exact if_neg (fun h => h.elim hn (fun h => h0 h.1))
    clear HV hn
    go_wp2_with (fail)
    go_ret
    exact ⟨rfl, B4.out⟩
theorem mem_ix {l : List ByteArray} {s : ByteArray} (h : memS l s = true) : 0 ≤ ixS l s := ix_mem (memS_iff.1 h)
theorem no_ix {l : List ByteArray} {s : ByteArray} (h : memS l s = false) : ixS l s < 0 := by
  have := ixS_nn s l
  rw [h] at this
  have := of_decide_eq_false this
  omega
theorem out_ix {p : Prg} (h : (wrB p && fltB p) = true) {s : ByteArray} (hs : memS p.os s = true) : 0 ≤ ixS (tgs p) s := ix_mem ((nmd_of h).mad s (.inr (memS_iff.1 hs)))
set_option maxHeartbeats 1000000 in
set_option maxRecDepth 100000 in
theorem c_l19Code (p : Prg) (a1 a2 a3 a4 : Option Addr) (c1 c2 c3 c4 : Nat) (inp out : ByteArray) (w : World) (hs : PgOk p) (hz : PgZ a1 a2 a3 c1 c2 c3) (h : PgR w a1 a2 a3 a4 p) :
    Calls Tryd.prog 11 #[pv p a1 a2 a3 a4 c1 c2 c3 c4, .string inp, .string out] w fun e w' => e = .returned (.int .i64 (dlyC p inp out)) ∧ Below w.heap.size w w' := by
  have H := Lib.hid h
  have HSO := Lib.hid (fun w h => c_sIsSound p a1 a2 a3 a4 c1 c2 c3 c4 w hs hz h)
  have HI := Lib.hid (fun w h => c_l14Index a1 c1 _ p.ins inp w rfl hs.i.1 h)
  have HO := Lib.hid (fun w h => c_l14Index a3 c3 _ p.os out w rfl hs.o.1 h)
  have HD := Lib.hid (fun w hbd hout h => c_l19Delay p a1 a2 a3 a4 c1 c2 c3 c4 inp out w hs hbd hout h)
  have HSB := Lib.hid (fun h : (wrB p && fltB p) = true => (snd_of h).b)
  have HOX := Lib.hid (fun (h : (wrB p && fltB p) = true) h2 => out_ix h (s := out) h2)
  have HI1 := Lib.hid (fun h => mem_ix (l := p.ins) (s := inp) h)
  have HI0 := Lib.hid (fun h => no_ix (l := p.ins) (s := inp) h)
  have HO1 := Lib.hid (fun h => mem_ix (l := p.os) (s := out) h)
  have HO0 := Lib.hid (fun h => no_ix (l := p.os) (s := out) h)
  have HV : Hid (dlyC p inp out = if (wrB p && fltB p) then (if memS p.ins inp && memS p.os out then (if dlyV p inp out = 0 then 5 else 0) else 4) else 1) := Lib.hid rfl
  generalize dlyC p inp out = R at *
  generalize (wrB p && fltB p) = s at *
  generalize memS p.ins inp = u at *
  generalize memS p.os out = v at *
  have B0 := Lib.hid (below_alloc (Below.refl w.heap.size w) (.cells #[.string p.nm, .slice a1 p.ins.length c1, .slice a2 p.vs.length c2, .slice a3 p.os.length c3, .string p.gd, .slice a4 p.ls.length c4] 31))
  have HP : Hid (PB (w.alloc (.cells #[.string p.nm, .slice a1 p.ins.length c1, .slice a2 p.vs.length c2, .slice a3 p.os.length c3, .string p.gd, .slice a4 p.ls.length c4] 31)) w.heap.size p a1 a2 a3 a4 c1 c2 c3 c4) := Lib.hid ⟨by go_simp, by go_simp, by go_simp, by go_simp, by go_simp, by go_simp⟩
  clear hs hz h
  go_enter Tryd.func11, Tryd.ntmps11
  dsimp only [pv]
  go_upto_region 1 with (fail)
  generalize w.alloc (.cells #[.string p.nm, .slice a1 p.ins.length c1, .slice a2 p.vs.length c2, .slice a3 p.os.length c3, .string p.gd, .slice a4 p.ls.length c4] 31) = W at *
  obtain ⟨k0, k1, k2, k3, k4, k5⟩ := HP.out
  go_wp2_with (fail)
  refine (HSO.out _ (H.out.below B0.out)).mono ?_
  rintro e w1 ⟨rfl, hb⟩
  have B1 := Lib.hid (below_chain B0.out hb)
  replace k0 := cell_later hb (by exact k0)
  replace k1 := cell_later hb (by exact k1)
  replace k2 := cell_later hb (by exact k2)
  replace k3 := cell_later hb (by exact k3)
  replace k4 := cell_later hb (by exact k4)
  replace k5 := cell_later hb (by exact k5)
  clear hb
  cases s
  · obtain rfl : R = 1 := HV.out
    go_wp2_with (fail)
    go_ret
    exact ⟨rfl, B1.out⟩
  have HB := Lib.hid (HSB.out rfl)
  go_wp2_with (fail)
  refine (HI.out _ (H.out.i.below B1.out)).mono ?_
  rintro e w2 ⟨rfl, hb⟩
  have B2 := Lib.hid (below_chain B1.out hb)
  replace k0 := cell_later hb (by exact k0)
  replace k1 := cell_later hb (by exact k1)
  replace k2 := cell_later hb (by exact k2)
  replace k3 := cell_later hb (by exact k3)
  replace k4 := cell_later hb (by exact k4)
  replace k5 := cell_later hb (by exact k5)
  clear hb
  cases u
  · obtain rfl : R = 4 := HV.out
    have hi := HI0.out rfl
    generalize ixS p.ins inp = z at *
    go_wp2_with (fail)
    go_ret
    exact ⟨rfl, B2.out⟩
  have hi := HI1.out rfl
  have hi2 : ¬ ixS p.ins inp < 0 := by omega
  generalize ixS p.ins inp = z at *
  go_wp2_with (fail)
  refine (HO.out _ (H.out.o.below B2.out)).mono ?_
  rintro e w3 ⟨rfl, hb⟩
  have B3 := Lib.hid (below_chain B2.out hb)
  replace k0 := cell_later hb (by exact k0)
  replace k1 := cell_later hb (by exact k1)
  replace k2 := cell_later hb (by exact k2)
  replace k3 := cell_later hb (by exact k3)
  replace k4 := cell_later hb (by exact k4)
  replace k5 := cell_later hb (by exact k5)
  clear hb
  cases v
  · obtain rfl : R = 4 := HV.out
    have ho := HO0.out rfl
    generalize ixS p.os out = z at *
    go_wp2_with (fail)
    go_ret
    exact ⟨rfl, B3.out⟩
  have ho := HO1.out rfl
  have ho2 : ¬ ixS p.os out < 0 := by omega
  have HOI := Lib.hid (HOX.out (by first | rfl | trivial) (by first | rfl | trivial))
  generalize ixS p.os out = z at *
  clear HOX HO0 HO1 HI0 HI1
  try clear hi
  go_wp2_with (fail)
  refine (HD.out _ HB.out HOI.out (H.out.below B3.out)).mono ?_
  rintro e w4 ⟨rfl, hb⟩
  have B4 := Lib.hid (below_chain B3.out hb)
  clear hb k0 k1 k2 k3 k4 k5 ho ho2 HOI
  generalize dlyV p inp out = d at *
  by_cases hd : d = 0
  · subst hd
    obtain rfl : R = 5 := HV.out
    go_wp2_with (fail)
    go_ret
    exact ⟨rfl, B4.out⟩
  · obtain rfl : R = 0 := by rw [HV.out]; exact if_neg hd
    have ed : (d == 0) = false := by simpa using hd
    clear hd
    go_wp2_with (fail)
    go_ret
    exact ⟨rfl, B4.out⟩
set_option maxHeartbeats 1000000 in
set_option maxRecDepth 100000 in
theorem c_sDelayOf (p : Prg) (a1 a2 a3 a4 : Option Addr) (c1 c2 c3 c4 : Nat) (inp out : ByteArray) (w : World) (hs : PgOk p) (hz : PgZ a1 a2 a3 c1 c2 c3) (h : PgR w a1 a2 a3 a4 p) :
    Calls Tryd.prog 5 #[pv p a1 a2 a3 a4 c1 c2 c3 c4, .string inp, .string out] w (RetP (dlyR p inp out) (dlyC p inp out) w) := by
  have H := Lib.hid h
  have HC := Lib.hid (fun w h => c_l19Code p a1 a2 a3 a4 c1 c2 c3 c4 inp out w hs hz h)
  have HD := Lib.hid (fun w hbd hout h => c_l19Delay p a1 a2 a3 a4 c1 c2 c3 c4 inp out w hs hbd hout h)
  have HV : Hid (dlyR p inp out = if dlyC p inp out = 0 then dlyV p inp out else 0) := Lib.hid rfl
  have HOK : Hid (dlyC p inp out = 0 → PgB p ∧ 0 ≤ ixS (tgs p) out) := Lib.hid (fun e => by
    unfold dlyC at e
    by_cases h1 : (wrB p && fltB p) = true
    · rw [if_pos h1] at e
      by_cases h2 : (memS p.ins inp && memS p.os out) = true
      · rw [Bool.and_eq_true] at h2
        exact ⟨(snd_of h1).b, out_ix h1 h2.2⟩
      · rw [if_neg h2] at e; cases e
    · rw [if_neg h1] at e; cases e)
  generalize dlyC p inp out = R at *
  generalize dlyR p inp out = V at *
  have B0 := Lib.hid (below_alloc (Below.refl w.heap.size w) (.cells #[.string p.nm, .slice a1 p.ins.length c1, .slice a2 p.vs.length c2, .slice a3 p.os.length c3, .string p.gd, .slice a4 p.ls.length c4] 31))
  have HP : Hid (PB (w.alloc (.cells #[.string p.nm, .slice a1 p.ins.length c1, .slice a2 p.vs.length c2, .slice a3 p.os.length c3, .string p.gd, .slice a4 p.ls.length c4] 31)) w.heap.size p a1 a2 a3 a4 c1 c2 c3 c4) := Lib.hid ⟨by go_simp, by go_simp, by go_simp, by go_simp, by go_simp, by go_simp⟩
  clear hs hz h
  go_enter Tryd.func5, Tryd.ntmps5
  dsimp only [pv]
  go_upto_region 1 with (fail)
  generalize w.alloc (.cells #[.string p.nm, .slice a1 p.ins.length c1, .slice a2 p.vs.length c2, .slice a3 p.os.length c3, .string p.gd, .slice a4 p.ls.length c4] 31) = W at *
  obtain ⟨k0, k1, k2, k3, k4, k5⟩ := HP.out
  go_wp2_with (fail)
  refine (HC.out _ (H.out.below B0.out)).mono ?_
  rintro e w1 ⟨rfl, hb⟩
  have B1 := Lib.hid (below_chain B0.out hb)
  replace k0 := cell_later hb (by exact k0)
  replace k1 := cell_later hb (by exact k1)
  replace k2 := cell_later hb (by exact k2)
  replace k3 := cell_later hb (by exact k3)
  replace k4 := cell_later hb (by exact k4)
  replace k5 := cell_later hb (by exact k5)
  clear hb
  by_cases hr : R = 0
  · subst hr
    have HVV : Hid (V = dlyV p inp out) := Lib.hid HV.out
    obtain ⟨h1, h2⟩ := HOK.out rfl
    have HB := Lib.hid h1
    have HX := Lib.hid h2
    clear h1 h2 HV HOK
    go_wp2_with (fail)
    refine (HD.out _ HB.out HX.out (H.out.below B1.out)).mono ?_
    rintro e w2 ⟨rfl, hb⟩
    have B2 := Lib.hid (below_chain B1.out hb)
    clear hb k0 k1 k2 k3 k4 k5
    go_wp2_with (fail)
    go_ret2
    exact retP_of HVV.out rfl B2.out
  · have HVV : Hid (V = 0) := Lib.hid (by rw [HV.out]; exact if_neg hr)
    have er : (R != 0) = true := by simpa using hr
    clear HV HOK hr k0 k1 k2 k3 k4 k5
    go_wp2_with (fail)
    go_ret2
    exact retP_of HVV.out rfl B1.out
end Go.Proofs.YtackekfjalaacaaDoor
