/- Contracts and helpers (joined texts, part 6). The conditions stand at each theorem. -/
import Derived.Test.YteengjcplmjakaaGreatDoorH3
import Derived.Test.YteengjcplmjakaaGreatDoorH5
import Derived.Test.YteengjcplmjakaaGreatDoorH0
import Derived.Test.YteengjcplmjakaaGreatDoorBase
import Derived.Test.YteengjcplmjakaaGreatDoorRows
import Derived.JoinedOf
import Derived.KernelRfl
import Derived.ProofKit
import Derived.OpenShut
import Derived.ShutString
import Derived.ChangeOld
import Derived.Deep.Slices
import Derived.LaidMore
import Derived.MakeChecks
/- FirstMemory on both sides, BlocksIn, IsFaulty, memories compared (printed by FbN.py). Condition: the lengths; the keywords lie there. -/
namespace Go.Proofs.YteengjcplmjakaaGreatDoor
open Go.RowKit

set_option maxHeartbeats 4000000 in
set_option maxRecDepth 100000 in
theorem c_firstMemory (p : Prg) (a1 a2 a3 a4 : Option Addr) (c1 c2 c3 c4 : Nat) (w : World) (hbd : PgB p) (h : PgR w a1 a2 a3 a4 p) :
    Calls Tryz.prog 64 #[pv p a1 a2 a3 a4 c1 c2 c3 c4] w (RetMe (zMem p.vs.length (blk p).length) w) := by
  have HBLK := Lib.hid (fun w h => c_blocks p a1 a2 a3 a4 c1 c2 c3 c4 w hbd h)
  have hnb := blk_len hbd
  have hnv := hbd.v
  have H := Lib.hid h
  clear hbd h
  generalize blk p = ts at *
  have B0 := below_alloc (below_alloc (Below.refl w.heap.size w) (.cells #[.string p.nm, .slice a1 p.ins.length c1, .slice a2 p.vs.length c2, .slice a3 p.os.length c3, .string p.gd, .slice a4 p.ls.length c4] 27)) (.cells #[.slice none 0 0, .slice none 0 0] 48)
  have HP : Hid (PB ((w.alloc (.cells #[.string p.nm, .slice a1 p.ins.length c1, .slice a2 p.vs.length c2, .slice a3 p.os.length c3, .string p.gd, .slice a4 p.ls.length c4] 27)).alloc (.cells #[.slice none 0 0, .slice none 0 0] 48)) w.heap.size p a1 a2 a3 a4 c1 c2 c3 c4) := Lib.hid ⟨by go_simp, by go_simp, by go_simp, by go_simp, by go_simp, by go_simp⟩
  have HX : Hid (MBox ((w.alloc (.cells #[.string p.nm, .slice a1 p.ins.length c1, .slice a2 p.vs.length c2, .slice a3 p.os.length c3, .string p.gd, .slice a4 p.ls.length c4] 27)).alloc (.cells #[.slice none 0 0, .slice none 0 0] 48)) w.heap.size (w.heap.size + 1) [.slice none 0 0, .slice none 0 0]) := Lib.hid (by
    have h := own_box (w.alloc (.cells #[.string p.nm, .slice a1 p.ins.length c1, .slice a2 p.vs.length c2, .slice a3 p.os.length c3, .string p.gd, .slice a4 p.ls.length c4] 27)) w.heap.size 48 [.slice none 0 0, .slice none 0 0] 2 rfl (by simp)
    simpa [MBox] using h)
  have HB := Lib.hid B0
  have HBW := Lib.hid (Below.refl ((w.alloc (.cells #[.string p.nm, .slice a1 p.ins.length c1, .slice a2 p.vs.length c2, .slice a3 p.os.length c3, .string p.gd, .slice a4 p.ls.length c4] 27)).alloc (.cells #[.slice none 0 0, .slice none 0 0] 48)).heap.size ((w.alloc (.cells #[.string p.nm, .slice a1 p.ins.length c1, .slice a2 p.vs.length c2, .slice a3 p.os.length c3, .string p.gd, .slice a4 p.ls.length c4] 27)).alloc (.cells #[.slice none 0 0, .slice none 0 0] 48)))
  have H0 := Lib.hid (H.out.below B0)
  clear B0 H
  go_enter Tryz.func64, Tryz.ntmps64
  dsimp only [pv]
  go_upto_region 1 with (fail)
  generalize (w.alloc (.cells #[.string p.nm, .slice a1 p.ins.length c1, .slice a2 p.vs.length c2, .slice a3 p.os.length c3, .string p.gd, .slice a4 p.ls.length c4] 27)).alloc (.cells #[.slice none 0 0, .slice none 0 0] 48) = W at *
  obtain ⟨k0, k1, k2, k3, k4, k5⟩ := HP.out
  clear HP
  refine wp_region_heldE 7 (S := (fun w' => ((w'.cell? ⟨w.heap.size, 0, none⟩ = some (.string p.nm) ∧ w'.cell? ⟨w.heap.size, 1, none⟩ = some (.slice a1 p.ins.length c1)) ∧ (w'.cell? ⟨w.heap.size, 2, none⟩ = some (.slice a2 p.vs.length c2) ∧ w'.cell? ⟨w.heap.size, 3, none⟩ = some (.slice a3 p.os.length c3))) ∧ w'.cell? ⟨w.heap.size, 4, none⟩ = some (.string p.gd) ∧ w'.cell? ⟨w.heap.size, 5, none⟩ = some (.slice a4 p.ls.length c4))) (by kernel_rfl) ?_ (fun hHeld => ?_)
  · exact ⟨⟨⟨k0, k1⟩, ⟨k2, k3⟩⟩, k4, k5⟩
  refine rgE_take (v := ?_) 0 12 rfl (by kernel_rfl) (by kernel_rfl) (by kernel_rfl) (by kernel_rfl) (by kernel_rfl) (fun _ _ _ h => h) (by kernel_rfl) ?_ (by assumption) ?_
  rotate_left
  · (intro w' hSw; (try dsimp only at hSw); go_simp; first | done | with_reducible rfl)
  simp only [Act.put, List.setIfInBounds_toArray, List.set_cons_zero, List.set_cons_succ]
  refine rgE_take (v := ?_) 1 12 rfl (by kernel_rfl) (by kernel_rfl) (by kernel_rfl) (by kernel_rfl) (by kernel_rfl) (fun _ _ _ h => h) (by kernel_rfl) ?_ (by assumption) ?_
  rotate_left
  · (intro w' hSw; (try dsimp only at hSw); go_simp; first | done | with_reducible rfl)
  simp only [Act.put, List.setIfInBounds_toArray, List.set_cons_zero, List.set_cons_succ]
  refine rgE_take (v := ?_) 2 12 rfl (by kernel_rfl) (by kernel_rfl) (by kernel_rfl) (by kernel_rfl) (by kernel_rfl) (fun _ _ _ h => h) (by kernel_rfl) ?_ (by assumption) ?_
  rotate_left
  · (intro w' hSw; (try dsimp only at hSw); go_simp; first | done | with_reducible rfl)
  simp only [Act.put, List.setIfInBounds_toArray, List.set_cons_zero, List.set_cons_succ]
  refine rgE_take (v := ?_) 3 12 rfl (by kernel_rfl) (by kernel_rfl) (by kernel_rfl) (by kernel_rfl) (by kernel_rfl) (fun _ _ _ h => h) (by kernel_rfl) ?_ (by assumption) ?_
  rotate_left
  · (intro w' hSw; (try dsimp only at hSw); go_simp; first | done | with_reducible rfl)
  simp only [Act.put, List.setIfInBounds_toArray, List.set_cons_zero, List.set_cons_succ]
  refine rgE_run 4 rfl (by kernel_rfl) (by kernel_rfl) (by decide) (fun K hK => ?_)
  go_simp
  refine (HBLK.out _ (H0.out.below HBW.out.drew)).mono ?_
  rintro e v1 ⟨A2, cc, rfl, _, hb⟩
  replace hb := below_chain (Below.refl W.heap.size W).drew hb
  replace k0 := cell_later hb (by exact k0)
  replace k1 := cell_later hb (by exact k1)
  replace k2 := cell_later hb (by exact k2)
  replace k3 := cell_later hb (by exact k3)
  replace k4 := cell_later hb (by exact k4)
  replace k5 := cell_later hb (by exact k5)
  have HXn := Lib.hid (own_below HX.out hb)
  clear HX
  have HX := HXn
  clear HXn
  have HBn := Lib.hid (below_chain HB.out hb)
  clear HB
  have HB := HBn
  clear HBn
  have HBWn := Lib.hid (below_chain HBW.out hb)
  clear HBW
  have HBW := HBWn
  clear HBWn
  clear hb
  go_wp2
  clear hHeld
  refine hK.out _ _ (.inr (by exact ⟨⟨⟨k0, k1⟩, ⟨k2, k3⟩⟩, k4, k5⟩)) (fun hHeld => ?_)
  clear hK K
  try simp only [Act.put, List.setIfInBounds_toArray, List.set_cons_zero, List.set_cons_succ]
  refine rgE_take (v := ?_) 5 12 rfl (by kernel_rfl) (by kernel_rfl) (by kernel_rfl) (by kernel_rfl) (by kernel_rfl) (fun _ _ _ h => h) (by kernel_rfl) ?_ (by assumption) ?_
  rotate_left
  · (intro w' hSw; (try dsimp only at hSw); go_simp; first | done | with_reducible rfl)
  simp only [Act.put, List.setIfInBounds_toArray, List.set_cons_zero, List.set_cons_succ]
  refine rgE_run 6 rfl (by kernel_rfl) (by kernel_rfl) (by decide) (fun K hK => ?_)
  go_simp
  refine (c_newMemory p.vs.length ts.length _ (by omega) (by omega)).mono ?_
  rintro e v2 ⟨x1, x2, d1, d2, rfl, hm, hb⟩
  have hv := hm.v
  have hs := hm.b
  have e1 : (zMem p.vs.length ts.length).vs.length = p.vs.length := by simp [zMem]
  have e2 : (zMem p.vs.length ts.length).bs.length = ts.length := by simp [zMem]
  rw [e1] at hv
  rw [e2] at hs
  have HVO := Lib.hid (own_mono hv (base' := w.heap.size) HB.out.size)
  have HSO := Lib.hid (own_mono hs (base' := w.heap.size) HB.out.size)
  dsimp only [mv]
  rw [e1, e2]
  clear hm hv hs e1 e2
  replace k0 := cell_later hb (by exact k0)
  replace k1 := cell_later hb (by exact k1)
  replace k2 := cell_later hb (by exact k2)
  replace k3 := cell_later hb (by exact k3)
  replace k4 := cell_later hb (by exact k4)
  replace k5 := cell_later hb (by exact k5)
  have HXn := Lib.hid (own_below HX.out hb)
  clear HX
  have HX := HXn
  clear HXn
  have HBn := Lib.hid (below_chain HB.out hb)
  clear HB
  have HB := HBn
  clear HBn
  have HBWn := Lib.hid (below_chain HBW.out hb)
  clear HBW
  have HBW := HBWn
  clear HBWn
  clear hb
  go_wp2
  clear hHeld
  refine hK.out _ _ (.inr (by exact ⟨⟨⟨k0, k1⟩, ⟨k2, k3⟩⟩, k4, k5⟩)) (fun hHeld => ?_)
  clear hK K
  try simp only [Act.put, List.setIfInBounds_toArray, List.set_cons_zero, List.set_cons_succ]
  obtain ⟨⟨m0, m1⟩, ⟨f0, f1⟩, hlt⟩ := MBox.c HX.out
  have z0 := MBox.put HX.out 0 (.slice x1 p.vs.length d1)
  have z1 := MBox.put z0.1 1 (.slice x2 ts.length d2)
  have zg := grown_trans z0.2 z1.2
  have Y0 := Lib.hid (own_keep HVO.out HX.out (by decide) zg)
  have Y1 := Lib.hid (own_keep HSO.out HX.out (by decide) zg)
  have YB := Lib.hid (below_of_grown HB.out zg (fun k hk => by simp at hk; omega))
  have YC := Lib.hid z1.1
  clear z0 z1 zg HX HB HVO HSO
  refine rgE_last rfl (by kernel_rfl) (by kernel_rfl) (by kernel_rfl) (fun K hK => ?_)
  go_simp
  clear hHeld
  refine hK.out _ _ ?_
  clear hK K
  try simp only [Act.put, List.setIfInBounds_toArray, List.set_cons_zero, List.set_cons_succ]
  go_wp2_with (fail)
  generalize (v2.setCell ⟨w.heap.size + 1, 0, none⟩ (.slice x1 p.vs.length d1)).setCell ⟨w.heap.size + 1, 1, none⟩ (.slice x2 ts.length d2) = WF at *
  clear m0 m1 f0 f1 hlt
  have zc := YC.out
  simp only [List.set_cons_zero, List.set_cons_succ] at zc
  obtain ⟨⟨r0, r1⟩, _⟩ := MBox.c zc
  refine bodyPost_ret (v := .agg #[.slice x1 p.vs.length d1, .slice x2 ts.length d2]) (by simp [results, Tryz.results64, go_sem, r0, r1]) rfl (retMe_z Y0.out Y1.out YB.out)
/-- The first memory and the code. -/
def fmC (p : Prg) : Int := if sndB p then 0 else 1
def fmM (p : Prg) : Mem := if sndB p then zMem p.vs.length (blk p).length else ⟨[], []⟩
def RetMC (m : Mem) (c : Int) (w : World) (e : Ending) (w' : World) : Prop :=
  ∃ a1 a2 c1 c2, e = .returned (.tuple #[mv m a1 a2 c1 c2, .int .i64 c]) ∧ MeOwn w' w.heap.size a1 a2 c1 c2 m ∧ Below w.heap.size w w'
theorem retMC_nil {m : Mem} {w w' : World} (h : m = ⟨[], []⟩) (hb : Below w.heap.size w w') : RetMC m 1 w (.returned (.tuple #[.agg #[.slice none 0 0, .slice none 0 0], .int .i64 1])) w' := by
  subst h
  exact ⟨none, none, 0, 0, rfl, ⟨World.ownsRow_nil _ _ _ _, World.ownsRow_nil _ _ _ _⟩, hb⟩
theorem retMC_own {m : Mem} {x1 x2 : Option Addr} {n1 n2 d1 d2 : Nat} {w w' : World} (h1 : m.vs.length = n1) (h2 : m.bs.length = n2) (hv : w'.ownsRow w.heap.size 2 1 (.slice x1 n1 d1) n1 (ints m.vs)) (hs : w'.ownsRow w.heap.size 62 3 (.slice x2 n2 d2) n2 (bsCells m.bs)) (hb : Below w.heap.size w w') : RetMC m 0 w (.returned (.tuple #[.agg #[.slice x1 n1 d1, .slice x2 n2 d2], .int .i64 0])) w' := by
  subst h1; subst h2
  exact ⟨x1, x2, d1, d2, rfl, ⟨hv, hs⟩, hb⟩
set_option maxHeartbeats 4000000 in
set_option maxRecDepth 100000 in
theorem c_FirstMemory (p : Prg) (a1 a2 a3 a4 : Option Addr) (c1 c2 c3 c4 : Nat) (w : World) (hs : PgOk p) (hz : PgZ a1 a2 a3 c1 c2 c3) (h : PgR w a1 a2 a3 a4 p) (hk : KwR w) :
    Calls Tryz.prog 24 #[pv p a1 a2 a3 a4 c1 c2 c3 c4] w (RetMC (fmM p) (fmC p) w) := by
  have HI := Lib.hid (fun w h hk => c_IsSound p a1 a2 a3 a4 c1 c2 c3 c4 w hs hz h hk)
  have HF := Lib.hid (fun w hb h => c_firstMemory p a1 a2 a3 a4 c1 c2 c3 c4 w hb h)
  have HSB := Lib.hid (fun h : sndB p = true => wr_bd (p := p) (by unfold sndB at h; rw [Bool.and_eq_true] at h; exact h.1))
  have HV1 : Hid (sndB p = false → fmC p = 1 ∧ fmM p = ⟨[], []⟩) := Lib.hid (fun e => by unfold fmC fmM; rw [e]; exact ⟨rfl, rfl⟩)
  have HV0 : Hid (sndB p = true → fmC p = 0 ∧ fmM p = zMem p.vs.length (blk p).length) := Lib.hid (fun e => by unfold fmC fmM; rw [e]; exact ⟨rfl, rfl⟩)
  have HSN : Hid ((wrB p && fltB p) = sndB p) := Lib.hid rfl
  have H := Lib.hid h
  have HK := Lib.hid hk
  rw [HSN.out] at HI
  clear HSN hs hz h hk
  generalize fmC p = RC at *
  generalize fmM p = RM at *
  generalize sndB p = s at *
  generalize blk p = ts at *
  have B0 := below_alloc (below_alloc (Below.refl w.heap.size w) (.cells #[.string p.nm, .slice a1 p.ins.length c1, .slice a2 p.vs.length c2, .slice a3 p.os.length c3, .string p.gd, .slice a4 p.ls.length c4] 27)) (.cells #[.slice none 0 0, .slice none 0 0] 48)
  have HP : Hid (PB ((w.alloc (.cells #[.string p.nm, .slice a1 p.ins.length c1, .slice a2 p.vs.length c2, .slice a3 p.os.length c3, .string p.gd, .slice a4 p.ls.length c4] 27)).alloc (.cells #[.slice none 0 0, .slice none 0 0] 48)) w.heap.size p a1 a2 a3 a4 c1 c2 c3 c4) := Lib.hid ⟨by go_simp, by go_simp, by go_simp, by go_simp, by go_simp, by go_simp⟩
  have HX : Hid (MBox ((w.alloc (.cells #[.string p.nm, .slice a1 p.ins.length c1, .slice a2 p.vs.length c2, .slice a3 p.os.length c3, .string p.gd, .slice a4 p.ls.length c4] 27)).alloc (.cells #[.slice none 0 0, .slice none 0 0] 48)) w.heap.size (w.heap.size + 1) [.slice none 0 0, .slice none 0 0]) := Lib.hid (by
    have h := own_box (w.alloc (.cells #[.string p.nm, .slice a1 p.ins.length c1, .slice a2 p.vs.length c2, .slice a3 p.os.length c3, .string p.gd, .slice a4 p.ls.length c4] 27)) w.heap.size 48 [.slice none 0 0, .slice none 0 0] 2 rfl (by simp)
    simpa [MBox] using h)
  have HB := Lib.hid B0
  have HBW := Lib.hid (Below.refl ((w.alloc (.cells #[.string p.nm, .slice a1 p.ins.length c1, .slice a2 p.vs.length c2, .slice a3 p.os.length c3, .string p.gd, .slice a4 p.ls.length c4] 27)).alloc (.cells #[.slice none 0 0, .slice none 0 0] 48)).heap.size ((w.alloc (.cells #[.string p.nm, .slice a1 p.ins.length c1, .slice a2 p.vs.length c2, .slice a3 p.os.length c3, .string p.gd, .slice a4 p.ls.length c4] 27)).alloc (.cells #[.slice none 0 0, .slice none 0 0] 48)))
  have H0 := Lib.hid (H.out.below B0)
  have HK0 := Lib.hid (HK.out.below B0)
  clear HK
  clear B0 H
  go_enter Tryz.func24, Tryz.ntmps24
  dsimp only [pv]
  go_upto_region 1 with (fail)
  generalize (w.alloc (.cells #[.string p.nm, .slice a1 p.ins.length c1, .slice a2 p.vs.length c2, .slice a3 p.os.length c3, .string p.gd, .slice a4 p.ls.length c4] 27)).alloc (.cells #[.slice none 0 0, .slice none 0 0] 48) = W at *
  obtain ⟨k0, k1, k2, k3, k4, k5⟩ := HP.out
  clear HP
  go_wp2_with (fail)
  refine (HI.out _ H0.out HK0.out).mono ?_
  rintro e v1 ⟨rfl, hb⟩
  replace k0 := cell_later hb (by exact k0)
  replace k1 := cell_later hb (by exact k1)
  replace k2 := cell_later hb (by exact k2)
  replace k3 := cell_later hb (by exact k3)
  replace k4 := cell_later hb (by exact k4)
  replace k5 := cell_later hb (by exact k5)
  have HXn := Lib.hid (own_below HX.out hb)
  clear HX
  have HX := HXn
  clear HXn
  have HBn := Lib.hid (below_chain HB.out hb)
  clear HB
  have HB := HBn
  clear HBn
  have HBWn := Lib.hid (below_chain HBW.out hb)
  clear HBW
  have HBW := HBWn
  clear HBWn
  clear hb
  cases s
  · obtain ⟨rfl, e2⟩ := HV1.out rfl
    have HE := Lib.hid e2
    clear e2
    obtain ⟨⟨m0, m1⟩, ⟨f0, f1⟩, hlt⟩ := MBox.c HX.out
    have z0 := MBox.put HX.out 0 (.slice none 0 0)
    have z1 := MBox.put z0.1 1 (.slice none 0 0)
    have zg := grown_trans z0.2 z1.2
    have YB := Lib.hid (below_of_grown HB.out zg (fun k hk => by simp at hk; omega))
    have YC := Lib.hid z1.1
    clear z0 z1 zg HX HB
    go_wp2_with (fail)
    generalize (v1.setCell ⟨w.heap.size + 1, 0, none⟩ (.slice none 0 0)).setCell ⟨w.heap.size + 1, 1, none⟩ (.slice none 0 0) = WF at *
    clear m0 m1 f0 f1 hlt
    have zc := YC.out
    simp only [List.set_cons_zero, List.set_cons_succ] at zc
    obtain ⟨⟨r0, r1⟩, _⟩ := MBox.c zc
    refine bodyPost_ret (v := .tuple #[.agg #[.slice none 0 0, .slice none 0 0], .int .i64 1]) (by simp [results, Tryz.results24, go_sem, r0, r1]) rfl (retMC_nil HE.out YB.out)
  · obtain ⟨rfl, e2⟩ := HV0.out rfl
    have HE := Lib.hid e2
    clear e2
    go_wp2_with (fail)
    refine (HF.out _ (HSB.out (by trivial)) (H0.out.below HBW.out)).mono ?_
    rintro e v2 ⟨x1, x2, d1, d2, rfl, hm, hb⟩
    rw [← HE.out] at hm
    rw [← HE.out]
    have HVO := Lib.hid (own_mono hm.v (base' := w.heap.size) HB.out.size)
    have HSO := Lib.hid (own_mono hm.b (base' := w.heap.size) HB.out.size)
    clear hm HE HV1 HV0 HF HI HSB
    dsimp only [mv]
    obtain ⟨zs, bs⟩ := RM
    dsimp only at *
    replace k0 := cell_later hb (by exact k0)
    replace k1 := cell_later hb (by exact k1)
    replace k2 := cell_later hb (by exact k2)
    replace k3 := cell_later hb (by exact k3)
    replace k4 := cell_later hb (by exact k4)
    replace k5 := cell_later hb (by exact k5)
    have HXn := Lib.hid (own_below HX.out hb)
    clear HX
    have HX := HXn
    clear HXn
    have HBn := Lib.hid (below_chain HB.out hb)
    clear HB
    have HB := HBn
    clear HBn
    have HBWn := Lib.hid (below_chain HBW.out hb)
    clear HBW
    have HBW := HBWn
    clear HBWn
    clear hb
    obtain ⟨⟨m0, m1⟩, ⟨f0, f1⟩, hlt⟩ := MBox.c HX.out
    have z0 := MBox.put HX.out 0 (.slice x1 zs.length d1)
    have z1 := MBox.put z0.1 1 (.slice x2 bs.length d2)
    have zg := grown_trans z0.2 z1.2
    have Y0 := Lib.hid (own_keep HVO.out HX.out (by decide) zg)
    have Y1 := Lib.hid (own_keep HSO.out HX.out (by decide) zg)
    have YB := Lib.hid (below_of_grown HB.out zg (fun k hk => by simp at hk; omega))
    have YC := Lib.hid z1.1
    clear z0 z1 zg HX HB HVO HSO
    go_wp2_with (fail)
    generalize (v2.setCell ⟨w.heap.size + 1, 0, none⟩ (.slice x1 zs.length d1)).setCell ⟨w.heap.size + 1, 1, none⟩ (.slice x2 bs.length d2) = WF at *
    clear m0 m1 f0 f1 hlt
    have zc := YC.out
    simp only [List.set_cons_zero, List.set_cons_succ] at zc
    obtain ⟨⟨r0, r1⟩, _⟩ := MBox.c zc
    refine bodyPost_ret (v := .tuple #[.agg #[.slice x1 zs.length d1, .slice x2 bs.length d2], .int .i64 0]) (by simp [results, Tryz.results24, go_sem, r0, r1]) rfl (retMC_own rfl rfl Y0.out Y1.out YB.out)
set_option maxHeartbeats 4000000 in
set_option maxRecDepth 100000 in
theorem c_sFirstMemory (p : Prg) (a1 a2 a3 a4 : Option Addr) (c1 c2 c3 c4 : Nat) (w : World) (hs : PgOk p) (hz : PgZ a1 a2 a3 c1 c2 c3) (h : PgR w a1 a2 a3 a4 p) :
    Calls Tryz.prog 25 #[pv p a1 a2 a3 a4 c1 c2 c3 c4] w (RetMC (fmM p) (fmC p) w) := by
  have HI := Lib.hid (fun w h => c_sIsSound p a1 a2 a3 a4 c1 c2 c3 c4 w hs hz h)
  have HF := Lib.hid (fun w hb h => c_l16First p a1 a2 a3 a4 c1 c2 c3 c4 w hb h)
  have HSB := Lib.hid (fun h : sndB p = true => wr_bd (p := p) (by unfold sndB at h; rw [Bool.and_eq_true] at h; exact h.1))
  have HV1 : Hid (sndB p = false → fmC p = 1 ∧ fmM p = ⟨[], []⟩) := Lib.hid (fun e => by unfold fmC fmM; rw [e]; exact ⟨rfl, rfl⟩)
  have HV0 : Hid (sndB p = true → fmC p = 0 ∧ fmM p = zMem p.vs.length (blk p).length) := Lib.hid (fun e => by unfold fmC fmM; rw [e]; exact ⟨rfl, rfl⟩)
  have HSN : Hid ((wrB p && fltB p) = sndB p) := Lib.hid rfl
  have H := Lib.hid h
  rw [HSN.out] at HI
  clear HSN hs hz h
  generalize fmC p = RC at *
  generalize fmM p = RM at *
  generalize sndB p = s at *
  generalize blk p = ts at *
  have B0 := below_alloc (below_alloc (Below.refl w.heap.size w) (.cells #[.string p.nm, .slice a1 p.ins.length c1, .slice a2 p.vs.length c2, .slice a3 p.os.length c3, .string p.gd, .slice a4 p.ls.length c4] 27)) (.cells #[.slice none 0 0, .slice none 0 0] 48)
  have HP : Hid (PB ((w.alloc (.cells #[.string p.nm, .slice a1 p.ins.length c1, .slice a2 p.vs.length c2, .slice a3 p.os.length c3, .string p.gd, .slice a4 p.ls.length c4] 27)).alloc (.cells #[.slice none 0 0, .slice none 0 0] 48)) w.heap.size p a1 a2 a3 a4 c1 c2 c3 c4) := Lib.hid ⟨by go_simp, by go_simp, by go_simp, by go_simp, by go_simp, by go_simp⟩
  have HX : Hid (MBox ((w.alloc (.cells #[.string p.nm, .slice a1 p.ins.length c1, .slice a2 p.vs.length c2, .slice a3 p.os.length c3, .string p.gd, .slice a4 p.ls.length c4] 27)).alloc (.cells #[.slice none 0 0, .slice none 0 0] 48)) w.heap.size (w.heap.size + 1) [.slice none 0 0, .slice none 0 0]) := Lib.hid (by
    have h := own_box (w.alloc (.cells #[.string p.nm, .slice a1 p.ins.length c1, .slice a2 p.vs.length c2, .slice a3 p.os.length c3, .string p.gd, .slice a4 p.ls.length c4] 27)) w.heap.size 48 [.slice none 0 0, .slice none 0 0] 2 rfl (by simp)
    simpa [MBox] using h)
  have HB := Lib.hid B0
  have HBW := Lib.hid (Below.refl ((w.alloc (.cells #[.string p.nm, .slice a1 p.ins.length c1, .slice a2 p.vs.length c2, .slice a3 p.os.length c3, .string p.gd, .slice a4 p.ls.length c4] 27)).alloc (.cells #[.slice none 0 0, .slice none 0 0] 48)).heap.size ((w.alloc (.cells #[.string p.nm, .slice a1 p.ins.length c1, .slice a2 p.vs.length c2, .slice a3 p.os.length c3, .string p.gd, .slice a4 p.ls.length c4] 27)).alloc (.cells #[.slice none 0 0, .slice none 0 0] 48)))
  have H0 := Lib.hid (H.out.below B0)
  clear B0 H
  go_enter Tryz.func25, Tryz.ntmps25
  dsimp only [pv]
  go_upto_region 1 with (fail)
  generalize (w.alloc (.cells #[.string p.nm, .slice a1 p.ins.length c1, .slice a2 p.vs.length c2, .slice a3 p.os.length c3, .string p.gd, .slice a4 p.ls.length c4] 27)).alloc (.cells #[.slice none 0 0, .slice none 0 0] 48) = W at *
  obtain ⟨k0, k1, k2, k3, k4, k5⟩ := HP.out
  clear HP
  go_wp2_with (fail)
  refine (HI.out _ H0.out).mono ?_
  rintro e v1 ⟨rfl, hb⟩
  replace k0 := cell_later hb (by exact k0)
  replace k1 := cell_later hb (by exact k1)
  replace k2 := cell_later hb (by exact k2)
  replace k3 := cell_later hb (by exact k3)
  replace k4 := cell_later hb (by exact k4)
  replace k5 := cell_later hb (by exact k5)
  have HXn := Lib.hid (own_below HX.out hb)
  clear HX
  have HX := HXn
  clear HXn
  have HBn := Lib.hid (below_chain HB.out hb)
  clear HB
  have HB := HBn
  clear HBn
  have HBWn := Lib.hid (below_chain HBW.out hb)
  clear HBW
  have HBW := HBWn
  clear HBWn
  clear hb
  cases s
  · obtain ⟨rfl, e2⟩ := HV1.out rfl
    have HE := Lib.hid e2
    clear e2
    obtain ⟨⟨m0, m1⟩, ⟨f0, f1⟩, hlt⟩ := MBox.c HX.out
    have z0 := MBox.put HX.out 0 (.slice none 0 0)
    have z1 := MBox.put z0.1 1 (.slice none 0 0)
    have zg := grown_trans z0.2 z1.2
    have YB := Lib.hid (below_of_grown HB.out zg (fun k hk => by simp at hk; omega))
    have YC := Lib.hid z1.1
    clear z0 z1 zg HX HB
    go_wp2_with (fail)
    generalize (v1.setCell ⟨w.heap.size + 1, 0, none⟩ (.slice none 0 0)).setCell ⟨w.heap.size + 1, 1, none⟩ (.slice none 0 0) = WF at *
    clear m0 m1 f0 f1 hlt
    have zc := YC.out
    simp only [List.set_cons_zero, List.set_cons_succ] at zc
    obtain ⟨⟨r0, r1⟩, _⟩ := MBox.c zc
    refine bodyPost_ret (v := .tuple #[.agg #[.slice none 0 0, .slice none 0 0], .int .i64 1]) (by simp [results, Tryz.results25, go_sem, r0, r1]) rfl (retMC_nil HE.out YB.out)
  · obtain ⟨rfl, e2⟩ := HV0.out rfl
    have HE := Lib.hid e2
    clear e2
    go_wp2_with (fail)
    refine (HF.out _ (HSB.out (by trivial)) (H0.out.below HBW.out)).mono ?_
    rintro e v2 ⟨x1, x2, d1, d2, rfl, hm, hb⟩
    rw [← HE.out] at hm
    rw [← HE.out]
    have HVO := Lib.hid (own_mono hm.v (base' := w.heap.size) HB.out.size)
    have HSO := Lib.hid (own_mono hm.b (base' := w.heap.size) HB.out.size)
    clear hm HE HV1 HV0 HF HI HSB
    dsimp only [mv]
    obtain ⟨zs, bs⟩ := RM
    dsimp only at *
    replace k0 := cell_later hb (by exact k0)
    replace k1 := cell_later hb (by exact k1)
    replace k2 := cell_later hb (by exact k2)
    replace k3 := cell_later hb (by exact k3)
    replace k4 := cell_later hb (by exact k4)
    replace k5 := cell_later hb (by exact k5)
    have HXn := Lib.hid (own_below HX.out hb)
    clear HX
    have HX := HXn
    clear HXn
    have HBn := Lib.hid (below_chain HB.out hb)
    clear HB
    have HB := HBn
    clear HBn
    have HBWn := Lib.hid (below_chain HBW.out hb)
    clear HBW
    have HBW := HBWn
    clear HBWn
    clear hb
    obtain ⟨⟨m0, m1⟩, ⟨f0, f1⟩, hlt⟩ := MBox.c HX.out
    have z0 := MBox.put HX.out 0 (.slice x1 zs.length d1)
    have z1 := MBox.put z0.1 1 (.slice x2 bs.length d2)
    have zg := grown_trans z0.2 z1.2
    have Y0 := Lib.hid (own_keep HVO.out HX.out (by decide) zg)
    have Y1 := Lib.hid (own_keep HSO.out HX.out (by decide) zg)
    have YB := Lib.hid (below_of_grown HB.out zg (fun k hk => by simp at hk; omega))
    have YC := Lib.hid z1.1
    clear z0 z1 zg HX HB HVO HSO
    go_wp2_with (fail)
    generalize (v2.setCell ⟨w.heap.size + 1, 0, none⟩ (.slice x1 zs.length d1)).setCell ⟨w.heap.size + 1, 1, none⟩ (.slice x2 bs.length d2) = WF at *
    clear m0 m1 f0 f1 hlt
    have zc := YC.out
    simp only [List.set_cons_zero, List.set_cons_succ] at zc
    obtain ⟨⟨r0, r1⟩, _⟩ := MBox.c zc
    refine bodyPost_ret (v := .tuple #[.agg #[.slice x1 zs.length d1, .slice x2 bs.length d2], .int .i64 0]) (by simp [results, Tryz.results25, go_sem, r0, r1]) rfl (retMC_own rfl rfl Y0.out Y1.out YB.out)
set_option maxHeartbeats 2000000 in
set_option maxRecDepth 100000 in
theorem c_BlocksIn (p : Prg) (a1 a2 a3 a4 : Option Addr) (c1 c2 c3 c4 : Nat) (w : World) (hs : PgOk p) (hz : PgZ a1 a2 a3 c1 c2 c3) (h : PgR w a1 a2 a3 a4 p) (hk : KwR w) (hw : wrB p = true) :
    Calls Tryz.prog 27 #[pv p a1 a2 a3 a4 c1 c2 c3 c4] w fun e w' => ∃ A c, e = .returned (.tuple #[.slice A (blk p).length c, .int .i64 0]) ∧ Rd w' A (tmCells (blk p)) ∧ Below w.heap.size w w' := by
  have HI := Lib.hid (fun w h hk => c_IsWritten p a1 a2 a3 a4 c1 c2 c3 c4 w hs hz h hk)
  have HT := Lib.hid (fun w h => c_blocks p a1 a2 a3 a4 c1 c2 c3 c4 w (wr_bd hw) h)
  have H := Lib.hid h
  have HK := Lib.hid hk
  rw [hw] at HI
  clear hs hz h hk hw
  generalize blk p = ts at *
  have B0 := below_alloc (Below.refl w.heap.size w) (.cells #[.string p.nm, .slice a1 p.ins.length c1, .slice a2 p.vs.length c2, .slice a3 p.os.length c3, .string p.gd, .slice a4 p.ls.length c4] 27)
  have HP : Hid (PB (w.alloc (.cells #[.string p.nm, .slice a1 p.ins.length c1, .slice a2 p.vs.length c2, .slice a3 p.os.length c3, .string p.gd, .slice a4 p.ls.length c4] 27)) w.heap.size p a1 a2 a3 a4 c1 c2 c3 c4) := Lib.hid ⟨by go_simp, by go_simp, by go_simp, by go_simp, by go_simp, by go_simp⟩
  have HB := Lib.hid B0
  clear B0
  go_enter Tryz.func27, Tryz.ntmps27
  dsimp only [pv]
  go_upto_region 1 with (fail)
  generalize w.alloc (.cells #[.string p.nm, .slice a1 p.ins.length c1, .slice a2 p.vs.length c2, .slice a3 p.os.length c3, .string p.gd, .slice a4 p.ls.length c4] 27) = W at *
  obtain ⟨k0, k1, k2, k3, k4, k5⟩ := HP.out
  clear HP
  go_wp2_with (fail)
  refine (HI.out _ (H.out.below HB.out) (HK.out.below HB.out)).mono ?_
  rintro e v1 ⟨rfl, hb⟩
  have HB1 := Lib.hid (below_chain HB.out hb)
  replace k0 := cell_later hb (by exact k0)
  replace k1 := cell_later hb (by exact k1)
  replace k2 := cell_later hb (by exact k2)
  replace k3 := cell_later hb (by exact k3)
  replace k4 := cell_later hb (by exact k4)
  replace k5 := cell_later hb (by exact k5)
  clear hb HB
  go_wp2_with (fail)
  refine (HT.out _ (H.out.below HB1.out)).mono ?_
  rintro e v2 ⟨A, c, rfl, ho, hb⟩
  have HB2 := Lib.hid (below_chain HB1.out hb)
  have HO := Lib.hid (Rd.own ho)
  clear hb ho HB1
  go_wp2_with (fail)
  go_ret2
  exact ⟨A, c, rfl, HO.out, HB2.out⟩
set_option maxHeartbeats 2000000 in
set_option maxRecDepth 100000 in
theorem c_stepCode0 (t : Tm) (s : Bs) (w : World) (hs : t.nm.size ≤ 1048576) (hk : KwR w) (hbl : blkB t = true) (hk7 : 7 ≤ t.k ∧ t.k ≤ 12) (hn : 0 ≤ t.n ∧ t.n ≤ 9999) (hp : possB t.k t.n s = true) :
    Calls Tryz.prog 69 #[.agg #[.int .i64 t.k, .string t.nm, .int .i64 t.n], .agg #[.int .i64 s.ba, .int .i64 s.bb, .int .i64 s.bc], .slice none 0 0] w fun e w' => e = .returned (.int .i64 0) ∧ Below w.heap.size w w' := by
  have HI := Lib.hid (fun w hk => c_IsBlock t w hs hk)
  have HQ := Lib.hid (fun w => c_isPossible t.k t.nm t.n s.ba s.bb s.bc w hk7 hn)
  rw [hbl] at HI
  obtain ⟨k, nm, n⟩ := t
  obtain ⟨sa, sb, sc⟩ := s
  dsimp only at *
  rw [hp] at HQ
  have HK := Lib.hid hk
  have hmf : ∀ (fn : Fn) (first cap : Array Value) (w : World), (Instr.makeFunc fn first cap).run Tryz.prog w = .ok (.func fn first cap) w := fun _ _ _ _ => rfl
  have B0 := below_alloc (below_alloc (Below.refl w.heap.size w) (.cells #[.int .i64 k, .string nm, .int .i64 n] 60)) (.cells #[.int .i64 sa, .int .i64 sb, .int .i64 sc] 62)
  have HB := Lib.hid B0
  clear hs hk hbl hk7 hn hp B0
  go_enter Tryz.func69, Tryz.ntmps69
  have k0 : ((w.alloc (.cells #[.int .i64 k, .string nm, .int .i64 n] 60)).alloc (.cells #[.int .i64 sa, .int .i64 sb, .int .i64 sc] 62)).cell? ⟨w.heap.size, 0, none⟩ = some (.int .i64 k) := by go_simp
  have k1 : ((w.alloc (.cells #[.int .i64 k, .string nm, .int .i64 n] 60)).alloc (.cells #[.int .i64 sa, .int .i64 sb, .int .i64 sc] 62)).cell? ⟨w.heap.size, 1, none⟩ = some (.string nm) := by go_simp
  have k2 : ((w.alloc (.cells #[.int .i64 k, .string nm, .int .i64 n] 60)).alloc (.cells #[.int .i64 sa, .int .i64 sb, .int .i64 sc] 62)).cell? ⟨w.heap.size, 2, none⟩ = some (.int .i64 n) := by go_simp
  have k3 : ((w.alloc (.cells #[.int .i64 k, .string nm, .int .i64 n] 60)).alloc (.cells #[.int .i64 sa, .int .i64 sb, .int .i64 sc] 62)).cell? ⟨w.heap.size + 1, 0, none⟩ = some (.int .i64 sa) := by go_simp
  have k4 : ((w.alloc (.cells #[.int .i64 k, .string nm, .int .i64 n] 60)).alloc (.cells #[.int .i64 sa, .int .i64 sb, .int .i64 sc] 62)).cell? ⟨w.heap.size + 1, 1, none⟩ = some (.int .i64 sb) := by go_simp
  have k5 : ((w.alloc (.cells #[.int .i64 k, .string nm, .int .i64 n] 60)).alloc (.cells #[.int .i64 sa, .int .i64 sb, .int .i64 sc] 62)).cell? ⟨w.heap.size + 1, 2, none⟩ = some (.int .i64 sc) := by go_simp
  go_upto_region 1 with (fail)
  generalize (w.alloc (.cells #[.int .i64 k, .string nm, .int .i64 n] 60)).alloc (.cells #[.int .i64 sa, .int .i64 sb, .int .i64 sc] 62) = W at *
  go_wp2_with (fail)
  refine (HI.out _ (HK.out.below HB.out)).mono ?_
  rintro e v1 ⟨rfl, hb⟩
  have HB1 := Lib.hid (below_chain HB.out hb)
  replace k0 := cell_later hb (by exact k0)
  replace k1 := cell_later hb (by exact k1)
  replace k2 := cell_later hb (by exact k2)
  replace k3 := cell_later hb (by exact k3)
  replace k4 := cell_later hb (by exact k4)
  replace k5 := cell_later hb (by exact k5)
  clear hb HB
  go_wp2_with (fail)
  refine (HQ.out _).mono ?_
  rintro e v2 ⟨rfl, hb⟩
  have HB2 := Lib.hid (below_chain HB1.out hb)
  clear hb HB1 k0 k1 k2 k3 k4 k5
  go_wp2_with (fail)
  refine (c_ContFe _ _).mono ?_
  rintro e v3 ⟨rfl, rfl⟩
  go_wp2_with (fail)
  go_ret
  exact ⟨rfl, HB2.out⟩
set_option maxRecDepth 100000 in
theorem c_IsFaulty (t : Tm) (s : Bs) (w : World) (hs : t.nm.size ≤ 1048576) (hk : KwR w) (hbl : blkB t = true) (hk7 : 7 ≤ t.k ∧ t.k ≤ 12) (hn : 0 ≤ t.n ∧ t.n ≤ 9999) (hp : possB t.k t.n s = true) :
    Calls Tryz.prog 28 #[.agg #[.int .i64 t.k, .string t.nm, .int .i64 t.n], .agg #[.int .i64 s.ba, .int .i64 s.bb, .int .i64 s.bc]] w fun e w' => e = .returned (.tuple #[.bool (s.bc == 1), .int .i64 0]) ∧ Below w.heap.size w w' := by
  have HI := Lib.hid (fun w hk => c_stepCode0 t s w hs hk hbl hk7 hn hp)
  obtain ⟨k, nm, n⟩ := t
  obtain ⟨sa, sb, sc⟩ := s
  dsimp only at *
  have HK := Lib.hid hk
  have B0 := below_alloc (below_alloc (Below.refl w.heap.size w) (.cells #[.int .i64 k, .string nm, .int .i64 n] 60)) (.cells #[.int .i64 sa, .int .i64 sb, .int .i64 sc] 62)
  have HB := Lib.hid B0
  have k5 : ((w.alloc (.cells #[.int .i64 k, .string nm, .int .i64 n] 60)).alloc (.cells #[.int .i64 sa, .int .i64 sb, .int .i64 sc] 62)).cell? ⟨w.heap.size + 1, 2, none⟩ = some (.int .i64 sc) := by go_simp
  clear hs hk hbl hk7 hn hp B0
  go_enter Tryz.func28, Tryz.ntmps28
  go_wp2_with (fail)
  refine (HI.out _ (HK.out.below HB.out)).mono ?_
  rintro e v1 ⟨rfl, hb⟩
  have HB1 := Lib.hid (below_chain HB.out hb)
  replace k5 := cell_later hb k5
  clear hb HB
  go_wp2_with (fail)
  go_ret2
  exact ⟨by first | rfl | simp, HB1.out⟩
set_option maxRecDepth 100000 in
theorem c_likeStates (A A' : Option Addr) (c c' n n' : Nat) (l : List Bs) (w : World) (hn : n = l.length) (hn' : n' = l.length) (hs : l.length ≤ 1048576) (hr : Rd w A (bsCells l)) (hr' : Rd w A' (bsCells l)) :
    Calls Tryz.prog 66 #[.slice A n c, .slice A' n' c'] w fun e w' => e = .returned (.bool true) ∧ Below w.heap.size w w' := by
  obtain rfl : n = n' := by omega
  have HN := Lib.hid hn
  have hs2 : n ≤ 1048576 := by omega
  clear hn hn' hs
  go_enter Tryz.func66, Tryz.ntmps66
  go_wp2
  go_loopw [5] (fun v wr => ∃ k : Nat, k ≤ n ∧ v = .int .i64 k ∧ Below w.heap.size w wr) (fun v _ => n - (intOf v).toNat)
  case atStart => exact ⟨0, Nat.zero_le _, rfl, by (repeat (first | exact Below.refl _ _ | assumption | refine below_alloc ?_ _ | refine below_drewN ?_ _ | refine below_set ?_ _ (by simp; try omega) | refine Below.drew ?_))⟩
  case round =>
    obtain ⟨k, hk, rfl, hb⟩ := hrel
    by_cases hlt : k < n
    · obtain ⟨z, hz⟩ : ∃ z, l[k]? = some z := ⟨_, List.getElem?_eq_getElem (by have := HN.out; omega)⟩
      obtain ⟨b1, o1, rfl, _, g0, g1, g2⟩ := (hr.below hb).bs hz
      obtain ⟨b2, o2, rfl, _, h0, h1, h2⟩ := (hr'.below hb).bs hz
      have hk0 : (0 : Int) ≤ (k : Int) := by omega
      have hk1 : (k : Int) < n := by omega
      have HB := Lib.hid hb
      obtain ⟨sa, sb, sc⟩ := z
      dsimp only at g0 g1 g2 h0 h1 h2
      clear hz hr hr' hb
      go_wp2_with (fail)
      refine wp_region_held_drew (S := (fun w' => ((w'.cell? ⟨b1, o1 + k * 3, none⟩ = some (.int .i64 sa) ∧ w'.cell? ⟨b1, o1 + k * 3 + 1, none⟩ = some (.int .i64 sb)) ∧ w'.cell? ⟨b1, o1 + k * 3 + 2, none⟩ = some (.int .i64 sc)) ∧ (w'.cell? ⟨b2, o2 + k * 3, none⟩ = some (.int .i64 sa) ∧ w'.cell? ⟨b2, o2 + k * 3 + 1, none⟩ = some (.int .i64 sb)) ∧ w'.cell? ⟨b2, o2 + k * 3 + 2, none⟩ = some (.int .i64 sc))) (by kernel_rfl) ?_ (fun hHeld => ?_)
      · exact ⟨⟨⟨g0, g1⟩, g2⟩, ⟨h0, h1⟩, h2⟩
      refine rg_take (v := ?_) 0 rfl (by kernel_rfl) (by kernel_rfl) (by kernel_rfl) (fun _ _ _ h => h) (by kernel_rfl) ?_ (by assumption) ?_
      rotate_left
      · (intro w' hSw; (try dsimp only at hSw); go_simp; first | done | with_reducible rfl)
      simp only [Act.put, List.setIfInBounds_toArray, List.set_cons_zero, List.set_cons_succ]
      refine rg_take (v := ?_) 1 rfl (by kernel_rfl) (by kernel_rfl) (by kernel_rfl) (fun _ _ _ h => h) (by kernel_rfl) ?_ (by assumption) ?_
      rotate_left
      · (intro w' hSw; (try dsimp only at hSw); go_simp; first | done | with_reducible rfl)
      simp only [Act.put, List.setIfInBounds_toArray, List.set_cons_zero, List.set_cons_succ]
      refine rg_take (v := ?_) 2 rfl (by kernel_rfl) (by kernel_rfl) (by kernel_rfl) (fun _ _ _ h => h) (by kernel_rfl) ?_ (by assumption) ?_
      rotate_left
      · (intro w' hSw; (try dsimp only at hSw); go_simp; first | done | with_reducible rfl)
      simp only [Act.put, List.setIfInBounds_toArray, List.set_cons_zero, List.set_cons_succ]
      refine rg_take (v := ?_) 3 rfl (by kernel_rfl) (by kernel_rfl) (by kernel_rfl) (fun _ _ _ h => h) (by kernel_rfl) ?_ (by assumption) ?_
      rotate_left
      · (intro w' hSw; (try dsimp only at hSw); go_simp; first | done | with_reducible rfl)
      simp only [Act.put, List.setIfInBounds_toArray, List.set_cons_zero, List.set_cons_succ]
      refine rg_take (v := ?_) 4 rfl (by kernel_rfl) (by kernel_rfl) (by kernel_rfl) (fun _ _ _ h => h) (by kernel_rfl) ?_ (by assumption) ?_
      rotate_left
      · (intro w' hSw; (try dsimp only at hSw); go_simp; first | done | with_reducible rfl)
      simp only [Act.put, List.setIfInBounds_toArray, List.set_cons_zero, List.set_cons_succ]
      refine rg_take (v := ?_) 5 rfl (by kernel_rfl) (by kernel_rfl) (by kernel_rfl) (fun _ _ _ h => h) (by kernel_rfl) ?_ (by assumption) ?_
      rotate_left
      · (intro w' hSw; (try dsimp only at hSw); go_simp; first | done | with_reducible rfl)
      simp only [Act.put, List.setIfInBounds_toArray, List.set_cons_zero, List.set_cons_succ]
      refine rg_take (v := ?_) 6 rfl (by kernel_rfl) (by kernel_rfl) (by kernel_rfl) (fun _ _ _ h => h) (by kernel_rfl) ?_ (by assumption) ?_
      rotate_left
      · (intro w' hSw; (try dsimp only at hSw); go_simp; first | done | with_reducible rfl)
      simp only [Act.put, List.setIfInBounds_toArray, List.set_cons_zero, List.set_cons_succ]
      refine rg_take (v := ?_) 7 rfl (by kernel_rfl) (by kernel_rfl) (by kernel_rfl) (fun _ _ _ h => h) (by kernel_rfl) ?_ (by assumption) ?_
      rotate_left
      · (intro w' hSw; (try dsimp only at hSw); go_simp; first | done | with_reducible rfl)
      simp only [Act.put, List.setIfInBounds_toArray, List.set_cons_zero, List.set_cons_succ]
      refine rg_take (v := ?_) 8 rfl (by kernel_rfl) (by kernel_rfl) (by kernel_rfl) (fun _ _ _ h => h) (by kernel_rfl) ?_ (by assumption) ?_
      rotate_left
      · (intro w' hSw; (try dsimp only at hSw); go_simp; first | done | with_reducible rfl)
      simp only [Act.put, List.setIfInBounds_toArray, List.set_cons_zero, List.set_cons_succ]
      refine wpAnyH_done (by kernel_rfl) ?_ _
      clear hHeld
      go_wp2_with (fail)
      go_roundw
      case rel => exact ⟨k + 1, by omega, by go_num, HB.out.drew⟩
      case measure => simp [intOf]; omega
    · obtain rfl : k = n := by omega
      go_wp2
      go_ret
      exact ⟨rfl, hb⟩
set_option maxRecDepth 100000 in
theorem c_likeMemories (m : Mem) (a1 a2 b1 b2 : Option Addr) (c1 c2 d1 d2 : Nat) (w : World) (hs : MeOk m) (h : MeR w a1 a2 m) (h' : MeR w b1 b2 m) :
    Calls Tryz.prog 26 #[mv m a1 a2 c1 c2, mv m b1 b2 d1 d2] w fun e w' => e = .returned (.bool true) ∧ Below w.heap.size w w' := by
  obtain ⟨zs, bs⟩ := m
  have HL := Lib.hid (fun w h h' => c_likeInts a1 b1 c1 d1 _ _ zs w rfl rfl hs.v h h')
  have HS := Lib.hid (fun w h h' => c_likeStates a2 b2 c2 d2 _ _ bs w rfl rfl hs.b h h')
  have H := Lib.hid h
  have H' := Lib.hid h'
  dsimp only [mv] at *
  have B0 := Lib.hid (below_alloc (below_alloc (Below.refl w.heap.size w) (.cells #[.slice a1 zs.length c1, .slice a2 bs.length c2] 48)) (.cells #[.slice b1 zs.length d1, .slice b2 bs.length d2] 48))
  have k0 : ((w.alloc (.cells #[.slice a1 zs.length c1, .slice a2 bs.length c2] 48)).alloc (.cells #[.slice b1 zs.length d1, .slice b2 bs.length d2] 48)).cell? ⟨w.heap.size, 0, none⟩ = some (.slice a1 zs.length c1) := by go_simp
  have k1 : ((w.alloc (.cells #[.slice a1 zs.length c1, .slice a2 bs.length c2] 48)).alloc (.cells #[.slice b1 zs.length d1, .slice b2 bs.length d2] 48)).cell? ⟨w.heap.size, 1, none⟩ = some (.slice a2 bs.length c2) := by go_simp
  have k2 : ((w.alloc (.cells #[.slice a1 zs.length c1, .slice a2 bs.length c2] 48)).alloc (.cells #[.slice b1 zs.length d1, .slice b2 bs.length d2] 48)).cell? ⟨w.heap.size + 1, 0, none⟩ = some (.slice b1 zs.length d1) := by go_simp
  have k3 : ((w.alloc (.cells #[.slice a1 zs.length c1, .slice a2 bs.length c2] 48)).alloc (.cells #[.slice b1 zs.length d1, .slice b2 bs.length d2] 48)).cell? ⟨w.heap.size + 1, 1, none⟩ = some (.slice b2 bs.length d2) := by go_simp
  clear hs h h'
  go_enter Tryz.func26, Tryz.ntmps26
  go_upto_region 1 with (fail)
  generalize (w.alloc (.cells #[.slice a1 zs.length c1, .slice a2 bs.length c2] 48)).alloc (.cells #[.slice b1 zs.length d1, .slice b2 bs.length d2] 48) = W at *
  go_wp2_with (fail)
  refine (HL.out _ (H.out.v.below B0.out) (H'.out.v.below B0.out)).mono ?_
  rintro e v1 ⟨rfl, hb⟩
  have B1 := Lib.hid (below_chain B0.out hb)
  replace k0 := cell_later hb (by exact k0)
  replace k1 := cell_later hb (by exact k1)
  replace k2 := cell_later hb (by exact k2)
  replace k3 := cell_later hb (by exact k3)
  clear hb
  go_wp2_with (fail)
  refine (HS.out _ (H.out.b.below B1.out) (H'.out.b.below B1.out)).mono ?_
  rintro e v2 ⟨rfl, hb⟩
  have B2 := Lib.hid (below_chain B1.out hb)
  clear hb
  go_wp2_with (fail)
  go_ret
  exact ⟨rfl, B2.out⟩
end Go.Proofs.YteengjcplmjakaaGreatDoor

/- The plain law: faulty blocks are pairs with a fault, and the first memory has none. No program in sight. -/
namespace Go.Proofs.YteengjcplmjakaaGreatDoor
open Go.RowKit

theorem memB_app (a b : List Int) (x : Int) : memB (a ++ b) x = (memB a x || memB b x) := by
  unfold memB
  rw [Bool.eq_iff_iff]
  simp only [decide_eq_true_eq, Bool.or_eq_true, List.mem_append]
theorem fpK_mem {ts : List Tm} {bs : List Bs} {j : Nat} {t : Tm} {s : Bs} (h1 : ts[j]? = some t) (h2 : bs[j]? = some s) : ∀ n, n ≤ ts.length → n ≤ bs.length → memB (fpK ts bs n) (j : Int) = (decide (j < n) && (t.k == 12 && s.bc == 1))
  | 0, _, _ => by simp [fpK, memB]
  | n + 1, ht, hb => by
    have ih := fpK_mem h1 h2 n (by omega) (by omega)
    have e1 : ts[n]? = some ts[n] := List.getElem?_eq_getElem (by omega)
    have e2 : bs[n]? = some bs[n] := List.getElem?_eq_getElem (by omega)
    rw [fpK_succ e1 e2, memB_app, ih]
    by_cases hj : j = n
    · subst hj
      rw [e1] at h1
      rw [e2] at h2
      simp only [Option.some.injEq] at h1 h2
      subst h1
      subst h2
      have hlt : decide (j < j) = false := by simp
      have hlt2 : decide (j < j + 1) = true := by simp
      rw [hlt, hlt2, Bool.false_and, Bool.false_or, Bool.true_and]
      split
      · rename_i hc
        rw [hc]
        simp [memB]
      · rename_i hc
        simp only [Bool.not_eq_true] at hc
        rw [hc]
        simp [memB]
    · have hm : ∀ b : Bool, memB (if b then [(n : Int)] else []) (j : Int) = false := by
        intro b
        cases b
        · simp [memB]
        · simp [memB]
          omega
      rw [hm, Bool.or_false]
      have : decide (j < n + 1) = decide (j < n) := by
        rw [Bool.eq_iff_iff]
        simp only [decide_eq_true_eq]
        omega
      rw [this]
theorem fp_law {p : Prg} {m : Mem} (h : fpC p m = 0) : sndB p = true ∧ suitB (blk p) p.vs.length m = true ∧ fpV p m = fpK (blk p) m.bs m.bs.length := by
  refine ⟨?_, ?_, by unfold fpV; rw [if_pos h]⟩
  · cases hs : sndB p
    · rw [fpC_1 hs] at h; cases h
    · rfl
  · cases hs : sndB p
    · rw [fpC_1 hs] at h; cases h
    · cases hu : suitB (blk p) p.vs.length m
      · rw [fpC_2 hs hu] at h; cases h
      · rfl
theorem sndB_and {p : Prg} (h : sndB p = true) : (wrB p && fltB p) = true := h
/-- The block's state is possible, and it is faulty when its place is in the list. -/
theorem fp_at {p : Prg} {m : Mem} (hok : PgOk p) (h : fpC p m = 0) {j : Nat} {t : Tm} {s : Bs} (h1 : (blk p)[j]? = some t) (h2 : m.bs[j]? = some s) :
    memB (fpV p m) (j : Int) = (s.bc == 1) ∧ possB t.k t.n s = true ∧ t.nm.size ≤ 1048576 ∧ blkB t = true ∧ (7 ≤ t.k ∧ t.k ≤ 12) ∧ (0 ≤ t.n ∧ t.n ≤ 9999) := by
  obtain ⟨hs, hu, hv⟩ := fp_law h
  obtain ⟨hlen, hp⟩ := suit_poss hu
  have hpo := hp j t s h1 h2
  have hmem := List.mem_of_getElem? h1
  have hw : wrB p = true := by
    have := sndB_and hs
    rw [Bool.and_eq_true] at this
    exact this.1
  obtain ⟨hk, hn⟩ := wr_blk hw t hmem
  have hj : j < m.bs.length := (List.getElem?_eq_some_iff.1 h2).1
  refine ⟨?_, hpo, ?_, blk_cmp (snd_of hs) t hmem, hk, hn⟩
  · rw [hv, fpK_mem h1 h2 m.bs.length (by omega) (Nat.le_refl _), decide_eq_true hj, Bool.true_and]
    cases hc : s.bc == 1
    · simp
    · have hc1 : s.bc = 1 := by simpa using hc
      rw [poss_c hpo hc1]
      simp
  · obtain ⟨l, hl, ht⟩ := List.mem_flatMap.1 (show t ∈ p.ls.flatMap blkL from hmem)
    exact (hok.l.2 l hl).2.2 t (List.mem_filter.1 (show t ∈ l.ts.filter isB from ht)).1
theorem poss_z {k n : Int} (hn : 0 ≤ n) : possB k n ⟨0, 0, 0⟩ = true := by
  have h1 : inB 0 0 n = true := by unfold inB; simpa using hn
  have h2 : inB 0 0 1 = true := by decide
  unfold possB
  simp [h1, h2]
theorem bits_z (n : Nat) : bitsB (List.replicate n 0) (n : Int) = true := by
  unfold bitsB
  have h1 : (List.replicate n (0 : Int)).any nbit = false := by
    rw [List.any_eq_false]
    intro x hx
    rw [(List.mem_replicate.1 hx).2]
    decide
  rw [h1]
  simp
theorem suit_z {ts : List Tm} {n : Nat} (h : BkB ts) : suitB ts (n : Int) (zMem n ts.length) = true := by
  unfold suitB zMem
  simp only [List.length_replicate, Bool.and_eq_true, decide_eq_true_eq, true_and]
  refine ⟨bits_z n, allP_all (fun j t s hj h1 h2 => ?_)⟩
  have e : s = ⟨0, 0, 0⟩ := by
    have := List.mem_of_getElem? h2
    exact (List.mem_replicate.1 this).2
  subst e
  exact poss_z (h t (List.mem_of_getElem? h1)).2.1
theorem fpK_z (ts : List Tm) (m : Nat) : ∀ n, fpK ts (List.replicate m ⟨0, 0, 0⟩) n = []
  | 0 => rfl
  | n + 1 => by
    have hz : (match ts[n]?, (List.replicate m (⟨0, 0, 0⟩ : Bs))[n]? with | some t, some s => t.k == 12 && s.bc == 1 | _, _ => false) = false := by
      cases h1 : ts[n]? with
      | none => rfl
      | some t =>
        cases h2 : (List.replicate m (⟨0, 0, 0⟩ : Bs))[n]? with
        | none => rfl
        | some s =>
          have e : s = ⟨0, 0, 0⟩ := (List.mem_replicate.1 (List.mem_of_getElem? h2)).2
          rw [e]
          simp
    unfold fpK
    rw [fpK_z ts m n, List.nil_append]
    exact if_neg (fun h => absurd (h.symm.trans hz) (by decide))
theorem fm_law {q : Prg} (h : fmC q = 0) : sndB q = true ∧ fpC q (fmM q) = 0 ∧ fpV q (fmM q) = [] := by
  have hs : sndB q = true := by
    cases hs : sndB q
    · unfold fmC at h; rw [hs] at h; cases h
    · rfl
  have hw : wrB q = true := by
    have := sndB_and hs
    rw [Bool.and_eq_true] at this
    exact this.1
  have em : fmM q = zMem q.vs.length (blk q).length := by unfold fmM; rw [if_pos hs]
  have hc : fpC q (fmM q) = 0 := by rw [em]; exact fpC_0 hs (suit_z (wr_blk hw))
  refine ⟨hs, hc, ?_⟩
  rw [(fp_law hc).2.2, em]
  exact fpK_z _ _ _
theorem fm_ok {q : Prg} (hok : PgOk q) : MeOk (fmM q) := by
  unfold fmM
  split
  · rename_i hs
    have hw : wrB q = true := by
      have := sndB_and hs
      rw [Bool.and_eq_true] at this
      exact this.1
    exact zMem_ok hok.v.1 (by have := blk_len (wr_bd hw); omega)
  · exact ⟨by simp, by simp⟩
theorem fp_len {p : Prg} {m : Mem} (hm : MeOk m) : (fpV p m).length ≤ 1048576 := by
  unfold fpV
  split
  · exact Nat.le_trans (fpK_len _ _ _) hm.b
  · simp
end Go.Proofs.YteengjcplmjakaaGreatDoor

/- The law's walk: faulty blocks. Condition: the bytes; the keywords lie there (printed by LFaulty.py). -/
namespace Go.Proofs.YteengjcplmjakaaGreatDoor
open Go.RowKit

set_option maxHeartbeats 8000000 in
set_option maxRecDepth 100000 in
theorem law_FnFaultyBlocks (A : Option Addr) (c n : Nat) (w : World) (hb : Bytes w w.heap.size A n) (hk : KwR w) :
    Calls Tryz.prog 4 #[.slice A n c] w fun e w' => e = .returned (.bool true) ∧ Below w.heap.size w w' := by
  have HK := Lib.hid hk
  clear hk
  by_cases hbig : 4096 < n
  · have hd : decide (4096 < n) = true := decide_eq_true hbig
    go_enter Tryz.func4, Tryz.ntmps4
    go_wp2_with (first
      | (go_at_call 6
         refine (c_big _ _ _ _).mono ?_
         rintro e w' ⟨rfl, rfl⟩)
      )
    go_ret
    exact ⟨rfl, by (repeat (first | exact Below.refl _ _ | assumption | refine below_alloc ?_ _ | refine below_drewN ?_ _ | refine below_set ?_ _ (by simp; try omega) | refine Below.drew ?_))⟩
  have hd : decide (4096 < n) = false := decide_eq_false hbig
  have HY := Lib.hid (fun w' (h : Below w.heap.size w w') => hb.later h h.size)
  have HYB := Lib.hid hb
  clear hb
  go_enter Tryz.func4, Tryz.ntmps4
  go_wp2_with (first
    | (go_at_call 6
       refine (c_big _ _ _ _).mono ?_
       rintro e w' ⟨rfl, rfl⟩)
    )
  refine (c_DrawFaultyPairs A c n w (by omega) HYB.out).mono ?_
  rintro e w1 ⟨p, a1, a2, a3, a4, c1, c2, c3, c4, ds, m, x1, x2, d1, d2, rfl, ho, hok, hme, hmk, hb1⟩
  have HB := Lib.hid hb1
  have HP := Lib.hid ho.pg
  have HM := Lib.hid hme.rd
  have hz : PgZ a1 a2 a3 c1 c2 c3 := ⟨own_none ho.i, own_none ho.v, own_none ho.o⟩
  have HIF := Lib.hid (fun w h hx hk => c_FaultyPairs p m a1 a2 a3 a4 x1 x2 c1 c2 c3 c4 d1 d2 w hok hz hmk h hx hk)
  have HSF := Lib.hid (fun w h hx => c_sFaultyPairs p m a1 a2 a3 a4 x1 x2 c1 c2 c3 c4 d1 d2 w hok hz hmk h hx)
  have HBK := Lib.hid (fun w h hk hw => c_BlocksIn p a1 a2 a3 a4 c1 c2 c3 c4 w hok hz h hk hw)
  have HVL : Hid ((fpV p m).length ≤ 1048576) := Lib.hid (fp_len hmk)
  have HAT := Lib.hid (fun (h : fpC p m = 0) (j : Nat) (t : Tm) (s : Bs) h1 h2 => fp_at (j := j) (t := t) (s := s) hok h h1 h2)
  have HSB := Lib.hid (fun (h : fpC p m = 0) => (⟨by have := sndB_and (fp_law h).1; rw [Bool.and_eq_true] at this; exact this.1, (suit_poss (fp_law h).2.1).1⟩ : wrB p = true ∧ m.bs.length = (blk p).length))
  have hmb : m.bs.length ≤ 1048576 := hmk.b
  have HPB := Lib.hid (own_below (own_box w1 w1.heap.size 27 [.string p.nm, .slice a1 p.ins.length c1, .slice a2 p.vs.length c2, .slice a3 p.os.length c3, .string p.gd, .slice a4 p.ls.length c4] 6 rfl (Nat.le_refl _)) (below_alloc (Below.refl (w1.alloc (.cells #[.string p.nm, .slice a1 p.ins.length c1, .slice a2 p.vs.length c2, .slice a3 p.os.length c3, .string p.gd, .slice a4 p.ls.length c4] 27)).heap.size (w1.alloc (.cells #[.string p.nm, .slice a1 p.ins.length c1, .slice a2 p.vs.length c2, .slice a3 p.os.length c3, .string p.gd, .slice a4 p.ls.length c4] 27))) (.cells #[.slice x1 m.vs.length d1, .slice x2 m.bs.length d2] 48)))
  have HMB : Hid (MBox ((w1.alloc (.cells #[.string p.nm, .slice a1 p.ins.length c1, .slice a2 p.vs.length c2, .slice a3 p.os.length c3, .string p.gd, .slice a4 p.ls.length c4] 27)).alloc (.cells #[.slice x1 m.vs.length d1, .slice x2 m.bs.length d2] 48)) w1.heap.size (w1.heap.size + 1) [.slice x1 m.vs.length d1, .slice x2 m.bs.length d2]) := Lib.hid (by
    have h := own_box (w1.alloc (.cells #[.string p.nm, .slice a1 p.ins.length c1, .slice a2 p.vs.length c2, .slice a3 p.os.length c3, .string p.gd, .slice a4 p.ls.length c4] 27)) w1.heap.size 48 [.slice x1 m.vs.length d1, .slice x2 m.bs.length d2] 2 rfl (by simp)
    simpa [MBox] using h)
  have hb := below_chain (below_alloc (Below.refl w1.heap.size w1) (.cells #[.string p.nm, .slice a1 p.ins.length c1, .slice a2 p.vs.length c2, .slice a3 p.os.length c3, .string p.gd, .slice a4 p.ls.length c4] 27)) (below_alloc (Below.refl (w1.alloc (.cells #[.string p.nm, .slice a1 p.ins.length c1, .slice a2 p.vs.length c2, .slice a3 p.os.length c3, .string p.gd, .slice a4 p.ls.length c4] 27)).heap.size (w1.alloc (.cells #[.string p.nm, .slice a1 p.ins.length c1, .slice a2 p.vs.length c2, .slice a3 p.os.length c3, .string p.gd, .slice a4 p.ls.length c4] 27))) (.cells #[.slice x1 m.vs.length d1, .slice x2 m.bs.length d2] 48))
  clear ho hok hz hme hmk hb1 HYB
  have HBn := Lib.hid (below_chain HB.out hb)
  clear HB
  have HB := HBn
  clear HBn
  have HPn := Lib.hid (HP.out.below hb)
  clear HP
  have HP := HPn
  clear HPn
  have HMn := Lib.hid (HM.out.below hb)
  clear HM
  have HM := HMn
  clear HMn
  clear hb
  generalize hC : fpC p m = C at *
  generalize hV : fpV p m = V at *
  clear hC hV
  dsimp only [pv, mv] at *
  go_upto_region 4 with (fail)
  generalize (w1.alloc (.cells #[.string p.nm, .slice a1 p.ins.length c1, .slice a2 p.vs.length c2, .slice a3 p.os.length c3, .string p.gd, .slice a4 p.ls.length c4] 27)).alloc (.cells #[.slice x1 m.vs.length d1, .slice x2 m.bs.length d2] 48) = w2 at *
  generalize w1.heap.size = pb at *
  obtain ⟨⟨k0, k1, k2, k3, k4, k5⟩, _, _⟩ := PBox.c (show PBox w2 pb pb [.string p.nm, .slice a1 p.ins.length c1, .slice a2 p.vs.length c2, .slice a3 p.os.length c3, .string p.gd, .slice a4 p.ls.length c4] from HPB.out)
  obtain ⟨⟨y0, y1⟩, _, _⟩ := MBox.c HMB.out
  clear HPB HMB
  go_wp2_with (fail)
  refine (HIF.out _ HP.out HM.out (HK.out.below HB.out)).mono ?_
  rintro e w3 ⟨A3, n3, c3', rfl, hn3, ho3, hb⟩
  have HN3 := Lib.hid hn3
  have HR3 := Lib.hid (Rd.own ho3)
  clear hn3 ho3 HIF
  have HBn := Lib.hid (below_chain HB.out hb)
  clear HB
  have HB := HBn
  clear HBn
  have HPn := Lib.hid (HP.out.below hb)
  clear HP
  have HP := HPn
  clear HPn
  have HMn := Lib.hid (HM.out.below hb)
  clear HM
  have HM := HMn
  clear HMn
  replace k0 := cell_later hb (by exact k0)
  replace k1 := cell_later hb (by exact k1)
  replace k2 := cell_later hb (by exact k2)
  replace k3 := cell_later hb (by exact k3)
  replace k4 := cell_later hb (by exact k4)
  replace k5 := cell_later hb (by exact k5)
  replace y0 := cell_later hb (by exact y0)
  replace y1 := cell_later hb (by exact y1)
  clear hb
  go_wp2_with (fail)
  refine (HSF.out _ HP.out HM.out).mono ?_
  rintro e w4 ⟨A4, n4, c4', rfl, hn4, ho4, hb⟩
  have HN4 := Lib.hid hn4
  have HR4 := Lib.hid (Rd.own ho4)
  clear hn4 ho4 HSF
  have HBn := Lib.hid (below_chain HB.out hb)
  clear HB
  have HB := HBn
  clear HBn
  have HPn := Lib.hid (HP.out.below hb)
  clear HP
  have HP := HPn
  clear HPn
  have HMn := Lib.hid (HM.out.below hb)
  clear HM
  have HM := HMn
  clear HMn
  have HR3n := Lib.hid (HR3.out.below hb)
  clear HR3
  have HR3 := HR3n
  clear HR3n
  replace k0 := cell_later hb (by exact k0)
  replace k1 := cell_later hb (by exact k1)
  replace k2 := cell_later hb (by exact k2)
  replace k3 := cell_later hb (by exact k3)
  replace k4 := cell_later hb (by exact k4)
  replace k5 := cell_later hb (by exact k5)
  replace y0 := cell_later hb (by exact y0)
  replace y1 := cell_later hb (by exact y1)
  clear hb
  go_wp2_with (fail)
  refine (c_DrawFirstMemory A c n _ (by omega) (HY.out _ HB.out)).mono ?_
  rintro e w5 ⟨q, b1, b2, b3, b4, g1, g2, g3, g4, dq, xs, rfl, ho, hok, _, hb⟩
  have HQ := Lib.hid ho.pg
  have hz : PgZ b1 b2 b3 g1 g2 g3 := ⟨own_none ho.i, own_none ho.v, own_none ho.o⟩
  have HQI := Lib.hid (fun w h hk => c_FirstMemory q b1 b2 b3 b4 g1 g2 g3 g4 w hok hz h hk)
  have HQS := Lib.hid (fun w h => c_sFirstMemory q b1 b2 b3 b4 g1 g2 g3 g4 w hok hz h)
  have HFO := Lib.hid (fm_ok hok)
  have HQF := Lib.hid (fun (x1 x2 : Option Addr) (d1 d2 : Nat) (w : World) h hx hk => c_FaultyPairs q (fmM q) b1 b2 b3 b4 x1 x2 g1 g2 g3 g4 d1 d2 w hok hz (fm_ok hok) h hx hk)
  have HFL := Lib.hid (fun (h : fmC q = 0) => (fm_law h).2)
  clear ho hok hz
  have HBn := Lib.hid (below_chain HB.out hb)
  clear HB
  have HB := HBn
  clear HBn
  have HPn := Lib.hid (HP.out.below hb)
  clear HP
  have HP := HPn
  clear HPn
  have HMn := Lib.hid (HM.out.below hb)
  clear HM
  have HM := HMn
  clear HMn
  have HR3n := Lib.hid (HR3.out.below hb)
  clear HR3
  have HR3 := HR3n
  clear HR3n
  have HR4n := Lib.hid (HR4.out.below hb)
  clear HR4
  have HR4 := HR4n
  clear HR4n
  replace k0 := cell_later hb (by exact k0)
  replace k1 := cell_later hb (by exact k1)
  replace k2 := cell_later hb (by exact k2)
  replace k3 := cell_later hb (by exact k3)
  replace k4 := cell_later hb (by exact k4)
  replace k5 := cell_later hb (by exact k5)
  replace y0 := cell_later hb (by exact y0)
  replace y1 := cell_later hb (by exact y1)
  clear hb
  generalize hD : fmC q = D at *
  generalize hF : fmM q = F at *
  clear hD hF
  dsimp only [F1, pv] at *
  have HPB := Lib.hid (own_box w5 w5.heap.size 27 [.string q.nm, .slice b1 q.ins.length g1, .slice b2 q.vs.length g2, .slice b3 q.os.length g3, .string q.gd, .slice b4 q.ls.length g4] 6 rfl (Nat.le_refl _))
  have hb := below_alloc (Below.refl w5.heap.size w5) (.cells #[.string q.nm, .slice b1 q.ins.length g1, .slice b2 q.vs.length g2, .slice b3 q.os.length g3, .string q.gd, .slice b4 q.ls.length g4] 27)
  have HBn := Lib.hid (below_chain HB.out hb)
  clear HB
  have HB := HBn
  clear HBn
  have HPn := Lib.hid (HP.out.below hb)
  clear HP
  have HP := HPn
  clear HPn
  have HMn := Lib.hid (HM.out.below hb)
  clear HM
  have HM := HMn
  clear HMn
  have HR3n := Lib.hid (HR3.out.below hb)
  clear HR3
  have HR3 := HR3n
  clear HR3n
  have HR4n := Lib.hid (HR4.out.below hb)
  clear HR4
  have HR4 := HR4n
  clear HR4n
  have HQn := Lib.hid (HQ.out.below hb)
  clear HQ
  have HQ := HQn
  clear HQn
  replace k0 := cell_later hb (by exact k0)
  replace k1 := cell_later hb (by exact k1)
  replace k2 := cell_later hb (by exact k2)
  replace k3 := cell_later hb (by exact k3)
  replace k4 := cell_later hb (by exact k4)
  replace k5 := cell_later hb (by exact k5)
  replace y0 := cell_later hb (by exact y0)
  replace y1 := cell_later hb (by exact y1)
  clear hb
  go_upto_region 7 with (fail)
  generalize w5.alloc (.cells #[.string q.nm, .slice b1 q.ins.length g1, .slice b2 q.vs.length g2, .slice b3 q.os.length g3, .string q.gd, .slice b4 q.ls.length g4] 27) = w6 at *
  generalize w5.heap.size = qb at *
  obtain ⟨⟨q0, q1, q2, q3, q4, q5⟩, _, _⟩ := PBox.c (show PBox w6 qb qb [.string q.nm, .slice b1 q.ins.length g1, .slice b2 q.vs.length g2, .slice b3 q.os.length g3, .string q.gd, .slice b4 q.ls.length g4] from HPB.out)
  clear HPB
  go_wp2_with (fail)
  refine (HQI.out _ HQ.out (HK.out.below HB.out)).mono ?_
  rintro e w7 ⟨X1, X2, e1, e2, rfl, ho, hb⟩
  have HF1 := Lib.hid ho.rd
  clear ho HQI
  have HBn := Lib.hid (below_chain HB.out hb)
  clear HB
  have HB := HBn
  clear HBn
  have HPn := Lib.hid (HP.out.below hb)
  clear HP
  have HP := HPn
  clear HPn
  have HMn := Lib.hid (HM.out.below hb)
  clear HM
  have HM := HMn
  clear HMn
  have HR3n := Lib.hid (HR3.out.below hb)
  clear HR3
  have HR3 := HR3n
  clear HR3n
  have HR4n := Lib.hid (HR4.out.below hb)
  clear HR4
  have HR4 := HR4n
  clear HR4n
  have HQn := Lib.hid (HQ.out.below hb)
  clear HQ
  have HQ := HQn
  clear HQn
  replace k0 := cell_later hb (by exact k0)
  replace k1 := cell_later hb (by exact k1)
  replace k2 := cell_later hb (by exact k2)
  replace k3 := cell_later hb (by exact k3)
  replace k4 := cell_later hb (by exact k4)
  replace k5 := cell_later hb (by exact k5)
  replace y0 := cell_later hb (by exact y0)
  replace y1 := cell_later hb (by exact y1)
  replace q0 := cell_later hb (by exact q0)
  replace q1 := cell_later hb (by exact q1)
  replace q2 := cell_later hb (by exact q2)
  replace q3 := cell_later hb (by exact q3)
  replace q4 := cell_later hb (by exact q4)
  replace q5 := cell_later hb (by exact q5)
  clear hb
  dsimp only [mv] at *
  have HMB : Hid (MBox _ _ _ _) := Lib.hid (own_box w7 w7.heap.size 48 [.slice X1 F.vs.length e1, .slice X2 F.bs.length e2] 2 rfl (Nat.le_refl _))
  have hb := below_alloc (Below.refl w7.heap.size w7) (.cells #[.slice X1 F.vs.length e1, .slice X2 F.bs.length e2] 48)
  have HBn := Lib.hid (below_chain HB.out hb)
  clear HB
  have HB := HBn
  clear HBn
  have HPn := Lib.hid (HP.out.below hb)
  clear HP
  have HP := HPn
  clear HPn
  have HMn := Lib.hid (HM.out.below hb)
  clear HM
  have HM := HMn
  clear HMn
  have HR3n := Lib.hid (HR3.out.below hb)
  clear HR3
  have HR3 := HR3n
  clear HR3n
  have HR4n := Lib.hid (HR4.out.below hb)
  clear HR4
  have HR4 := HR4n
  clear HR4n
  have HQn := Lib.hid (HQ.out.below hb)
  clear HQ
  have HQ := HQn
  clear HQn
  have HF1n := Lib.hid (HF1.out.below hb)
  clear HF1
  have HF1 := HF1n
  clear HF1n
  replace k0 := cell_later hb (by exact k0)
  replace k1 := cell_later hb (by exact k1)
  replace k2 := cell_later hb (by exact k2)
  replace k3 := cell_later hb (by exact k3)
  replace k4 := cell_later hb (by exact k4)
  replace k5 := cell_later hb (by exact k5)
  replace y0 := cell_later hb (by exact y0)
  replace y1 := cell_later hb (by exact y1)
  replace q0 := cell_later hb (by exact q0)
  replace q1 := cell_later hb (by exact q1)
  replace q2 := cell_later hb (by exact q2)
  replace q3 := cell_later hb (by exact q3)
  replace q4 := cell_later hb (by exact q4)
  replace q5 := cell_later hb (by exact q5)
  clear hb
  go_upto_region 8 with (fail)
  generalize w7.alloc (.cells #[.slice X1 F.vs.length e1, .slice X2 F.bs.length e2] 48) = w8 at *
  generalize w7.heap.size = mb at *
  obtain ⟨⟨m0, m1⟩, _, _⟩ := MBox.c HMB.out
  clear HMB
  go_wp2_with (fail)
  refine (HQS.out _ HQ.out).mono ?_
  rintro e w9 ⟨Y1, Y2, f1, f2, rfl, ho, hb⟩
  have HF2 := Lib.hid ho.rd
  clear ho HQS
  have HBn := Lib.hid (below_chain HB.out hb)
  clear HB
  have HB := HBn
  clear HBn
  have HPn := Lib.hid (HP.out.below hb)
  clear HP
  have HP := HPn
  clear HPn
  have HMn := Lib.hid (HM.out.below hb)
  clear HM
  have HM := HMn
  clear HMn
  have HR3n := Lib.hid (HR3.out.below hb)
  clear HR3
  have HR3 := HR3n
  clear HR3n
  have HR4n := Lib.hid (HR4.out.below hb)
  clear HR4
  have HR4 := HR4n
  clear HR4n
  have HQn := Lib.hid (HQ.out.below hb)
  clear HQ
  have HQ := HQn
  clear HQn
  have HF1n := Lib.hid (HF1.out.below hb)
  clear HF1
  have HF1 := HF1n
  clear HF1n
  replace k0 := cell_later hb (by exact k0)
  replace k1 := cell_later hb (by exact k1)
  replace k2 := cell_later hb (by exact k2)
  replace k3 := cell_later hb (by exact k3)
  replace k4 := cell_later hb (by exact k4)
  replace k5 := cell_later hb (by exact k5)
  replace y0 := cell_later hb (by exact y0)
  replace y1 := cell_later hb (by exact y1)
  replace q0 := cell_later hb (by exact q0)
  replace q1 := cell_later hb (by exact q1)
  replace q2 := cell_later hb (by exact q2)
  replace q3 := cell_later hb (by exact q3)
  replace q4 := cell_later hb (by exact q4)
  replace q5 := cell_later hb (by exact q5)
  replace m0 := cell_later hb (by exact m0)
  replace m1 := cell_later hb (by exact m1)
  clear hb
  dsimp only [mv] at *
  have HMB : Hid (MBox _ _ _ _) := Lib.hid (own_box w9 w9.heap.size 48 [.slice Y1 F.vs.length f1, .slice Y2 F.bs.length f2] 2 rfl (Nat.le_refl _))
  have hb := below_alloc (Below.refl w9.heap.size w9) (.cells #[.slice Y1 F.vs.length f1, .slice Y2 F.bs.length f2] 48)
  have HBn := Lib.hid (below_chain HB.out hb)
  clear HB
  have HB := HBn
  clear HBn
  have HPn := Lib.hid (HP.out.below hb)
  clear HP
  have HP := HPn
  clear HPn
  have HMn := Lib.hid (HM.out.below hb)
  clear HM
  have HM := HMn
  clear HMn
  have HR3n := Lib.hid (HR3.out.below hb)
  clear HR3
  have HR3 := HR3n
  clear HR3n
  have HR4n := Lib.hid (HR4.out.below hb)
  clear HR4
  have HR4 := HR4n
  clear HR4n
  have HQn := Lib.hid (HQ.out.below hb)
  clear HQ
  have HQ := HQn
  clear HQn
  have HF1n := Lib.hid (HF1.out.below hb)
  clear HF1
  have HF1 := HF1n
  clear HF1n
  have HF2n := Lib.hid (HF2.out.below hb)
  clear HF2
  have HF2 := HF2n
  clear HF2n
  replace k0 := cell_later hb (by exact k0)
  replace k1 := cell_later hb (by exact k1)
  replace k2 := cell_later hb (by exact k2)
  replace k3 := cell_later hb (by exact k3)
  replace k4 := cell_later hb (by exact k4)
  replace k5 := cell_later hb (by exact k5)
  replace y0 := cell_later hb (by exact y0)
  replace y1 := cell_later hb (by exact y1)
  replace q0 := cell_later hb (by exact q0)
  replace q1 := cell_later hb (by exact q1)
  replace q2 := cell_later hb (by exact q2)
  replace q3 := cell_later hb (by exact q3)
  replace q4 := cell_later hb (by exact q4)
  replace q5 := cell_later hb (by exact q5)
  replace m0 := cell_later hb (by exact m0)
  replace m1 := cell_later hb (by exact m1)
  clear hb
  go_upto_region 9 with (fail)
  generalize w9.alloc (.cells #[.slice Y1 F.vs.length f1, .slice Y2 F.bs.length f2] 48) = w10 at *
  generalize w9.heap.size = nb at *
  obtain ⟨⟨n0, n1⟩, _, _⟩ := MBox.c HMB.out
  clear HMB
  go_wp2_with (fail)
  refine (c_likeInts A3 A4 c3' c4' n3 n4 V _ HN3.out HN4.out HVL.out HR3.out HR4.out).mono ?_
  rintro e w11 ⟨rfl, hb⟩
  clear HR4 HN4
  have HBn := Lib.hid (below_chain HB.out hb)
  clear HB
  have HB := HBn
  clear HBn
  have HPn := Lib.hid (HP.out.below hb)
  clear HP
  have HP := HPn
  clear HPn
  have HMn := Lib.hid (HM.out.below hb)
  clear HM
  have HM := HMn
  clear HMn
  have HR3n := Lib.hid (HR3.out.below hb)
  clear HR3
  have HR3 := HR3n
  clear HR3n
  have HQn := Lib.hid (HQ.out.below hb)
  clear HQ
  have HQ := HQn
  clear HQn
  have HF1n := Lib.hid (HF1.out.below hb)
  clear HF1
  have HF1 := HF1n
  clear HF1n
  have HF2n := Lib.hid (HF2.out.below hb)
  clear HF2
  have HF2 := HF2n
  clear HF2n
  replace k0 := cell_later hb (by exact k0)
  replace k1 := cell_later hb (by exact k1)
  replace k2 := cell_later hb (by exact k2)
  replace k3 := cell_later hb (by exact k3)
  replace k4 := cell_later hb (by exact k4)
  replace k5 := cell_later hb (by exact k5)
  replace y0 := cell_later hb (by exact y0)
  replace y1 := cell_later hb (by exact y1)
  replace q0 := cell_later hb (by exact q0)
  replace q1 := cell_later hb (by exact q1)
  replace q2 := cell_later hb (by exact q2)
  replace q3 := cell_later hb (by exact q3)
  replace q4 := cell_later hb (by exact q4)
  replace q5 := cell_later hb (by exact q5)
  replace m0 := cell_later hb (by exact m0)
  replace m1 := cell_later hb (by exact m1)
  replace n0 := cell_later hb (by exact n0)
  replace n1 := cell_later hb (by exact n1)
  clear hb
  have HLM := Lib.hid (fun w h h' => c_likeMemories F X1 X2 Y1 Y2 e1 e2 f1 f2 w HFO.out h h')
  dsimp only [mv] at HLM
  go_wp2_with (fail)
  refine (HLM.out _ HF1.out HF2.out).mono ?_
  rintro e w12 ⟨rfl, hb⟩
  clear HF2 n0 n1 HLM
  have HBn := Lib.hid (below_chain HB.out hb)
  clear HB
  have HB := HBn
  clear HBn
  have HPn := Lib.hid (HP.out.below hb)
  clear HP
  have HP := HPn
  clear HPn
  have HMn := Lib.hid (HM.out.below hb)
  clear HM
  have HM := HMn
  clear HMn
  have HR3n := Lib.hid (HR3.out.below hb)
  clear HR3
  have HR3 := HR3n
  clear HR3n
  have HQn := Lib.hid (HQ.out.below hb)
  clear HQ
  have HQ := HQn
  clear HQn
  have HF1n := Lib.hid (HF1.out.below hb)
  clear HF1
  have HF1 := HF1n
  clear HF1n
  replace k0 := cell_later hb (by exact k0)
  replace k1 := cell_later hb (by exact k1)
  replace k2 := cell_later hb (by exact k2)
  replace k3 := cell_later hb (by exact k3)
  replace k4 := cell_later hb (by exact k4)
  replace k5 := cell_later hb (by exact k5)
  replace y0 := cell_later hb (by exact y0)
  replace y1 := cell_later hb (by exact y1)
  replace q0 := cell_later hb (by exact q0)
  replace q1 := cell_later hb (by exact q1)
  replace q2 := cell_later hb (by exact q2)
  replace q3 := cell_later hb (by exact q3)
  replace q4 := cell_later hb (by exact q4)
  replace q5 := cell_later hb (by exact q5)
  replace m0 := cell_later hb (by exact m0)
  replace m1 := cell_later hb (by exact m1)
  clear hb
  by_cases hd0 : D = 0
  · subst hd0
    obtain ⟨hc0, hv0⟩ := HFL.out rfl
    have hq := HQF.out X1 X2 e1 e2
    simp only [hc0, hv0] at hq
    have HQ0 := Lib.hid hq
    clear hq hc0 hv0 HFL HQF
    go_wp2_with (fail)
    refine (HQ0.out _ HQ.out HF1.out (HK.out.below HB.out)).mono ?_
    rintro e w13 ⟨A5, n5, c5, rfl, hn5, _, hb⟩
    obtain rfl : n5 = 0 := by simpa using hn5
    clear hn5 HQ0 HQ HF1 q0 q1 q2 q3 q4 q5 m0 m1
    have HBn := Lib.hid (below_chain HB.out hb)
    clear HB
    have HB := HBn
    clear HBn
    have HPn := Lib.hid (HP.out.below hb)
    clear HP
    have HP := HPn
    clear HPn
    have HMn := Lib.hid (HM.out.below hb)
    clear HM
    have HM := HMn
    clear HMn
    have HR3n := Lib.hid (HR3.out.below hb)
    clear HR3
    have HR3 := HR3n
    clear HR3n
    replace k0 := cell_later hb (by exact k0)
    replace k1 := cell_later hb (by exact k1)
    replace k2 := cell_later hb (by exact k2)
    replace k3 := cell_later hb (by exact k3)
    replace k4 := cell_later hb (by exact k4)
    replace k5 := cell_later hb (by exact k5)
    replace y0 := cell_later hb (by exact y0)
    replace y1 := cell_later hb (by exact y1)
    clear hb
    by_cases hc : C = 0
    · subst hc
      obtain ⟨hw, hlen⟩ := HSB.out rfl
      have hat := HAT.out rfl
      have hbk := fun w h hk => HBK.out w h hk hw
      rw [← hlen] at hbk
      have HBK2 := Lib.hid hbk
      have HLEN := Lib.hid hlen
      have HAT2 := Lib.hid hat
      clear hw hlen hat hbk HSB HAT HBK
      go_wp2_with (fail)
      refine (HBK2.out _ HP.out (HK.out.below HB.out)).mono ?_
      rintro e v1 ⟨A6, c6, rfl, hr6, hb⟩
      have HTM := Lib.hid hr6
      clear hr6 HBK2 HP k0 k1 k2 k3 k4 k5
      have HBn := Lib.hid (below_chain HB.out hb)
      clear HB
      have HB := HBn
      clear HBn
      have HMn := Lib.hid (HM.out.below hb)
      clear HM
      have HM := HMn
      clear HMn
      have HR3n := Lib.hid (HR3.out.below hb)
      clear HR3
      have HR3 := HR3n
      clear HR3n
      replace y0 := cell_later hb (by exact y0)
      replace y1 := cell_later hb (by exact y1)
      clear hb
      generalize blk p = ts at *
      have hne : ((m.bs.length : Int) != (m.bs.length : Int)) = false := by simp
      have HMY := Lib.hid hmb
      generalize hN : m.bs.length = N at *
      have HLB := Lib.hid hN
      clear hN
      go_wp2_with (fail)
      go_loopw [18, 19, 20] (fun i _ _ wr => ∃ k : Nat, k ≤ N ∧ i = .int .i64 k ∧ Hid (Below v1.heap.size v1 wr)) (fun i _ _ _ => N - (intOf i).toNat)
      case atStart => exact ⟨0, Nat.zero_le _, rfl, Lib.hid (Below.refl _ _)⟩
      case round =>
        obtain ⟨k, hk, rfl, hbl⟩ := hrel
        replace y1 := cell_later hbl.out y1
        clear y0
        by_cases hlt : k < N
        · skip
          obtain ⟨t, ht⟩ : ∃ t, ts[k]? = some t := ⟨_, List.getElem?_eq_getElem (by have := HLEN.out; omega)⟩
          obtain ⟨s, hs⟩ : ∃ s, m.bs[k]? = some s := ⟨_, List.getElem?_eq_getElem (by have := HLB.out; omega)⟩
          obtain ⟨hm, hp, hnm, hbk, hk7, hnn⟩ := HAT2.out k t s ht hs
          obtain ⟨tb, tf, eA, _, t0, t1, t2⟩ := (HTM.out.below hbl.out).tm ht
          obtain ⟨sb, sf, eX, _, s0, s1, s2⟩ := (HM.out.b.below hbl.out).bs hs
          subst eA
          subst eX
          have hci := fun w hk => c_IsFaulty t s w hnm hk hbk hk7 hnn hp
          have hch := fun w h => c_hasInt A3 c3' n3 V (k : Int) w HN3.out (by rw [HN3.out]; exact HVL.out) h
          rw [hm] at hch
          generalize (s.bc == 1) = u at *
          have HCI := Lib.hid hci
          have HCH := Lib.hid hch
          have hk0 : (0 : Int) ≤ (k : Int) := by omega
          have hk1 : (k : Int) < (N : Int) := by omega
          have huu : (u != u) = false := by simp
          clear hci hch hm hp hnm hbk hk7 hnn ht hs
          go_upto_region 23 with (fail)
          refine wp_region_held_drew (S := (fun w' => ((w'.cell? ⟨tb, tf + k * 3, none⟩ = some (.int .i64 t.k) ∧ w'.cell? ⟨tb, tf + k * 3 + 1, none⟩ = some (.string t.nm) ∧ w'.cell? ⟨tb, tf + k * 3 + 2, none⟩ = some (.int .i64 t.n)) ∧ (w'.cell? ⟨sb, sf + k * 3, none⟩ = some (.int .i64 s.ba) ∧ w'.cell? ⟨sb, sf + k * 3 + 1, none⟩ = some (.int .i64 s.bb) ∧ w'.cell? ⟨sb, sf + k * 3 + 2, none⟩ = some (.int .i64 s.bc))) ∧ w'.cell? ⟨pb + 1, 1, none⟩ = some (.slice (some ⟨sb, sf, none⟩) N d2))) (by kernel_rfl) ?_ (fun hHeld => ?_)
          · exact ⟨⟨⟨t0, t1, t2⟩, s0, s1, s2⟩, y1⟩
          refine rg_take (v := ?_) 0 rfl (by kernel_rfl) (by kernel_rfl) (by kernel_rfl) (fun _ _ _ h => h) (by kernel_rfl) ?_ (by assumption) ?_
          rotate_left
          · (intro w' hSw; (try dsimp only at hSw); go_simp; first | done | with_reducible rfl)
          simp only [Act.put, List.setIfInBounds_toArray, List.set_cons_zero, List.set_cons_succ]
          refine rg_take (v := ?_) 1 rfl (by kernel_rfl) (by kernel_rfl) (by kernel_rfl) (fun _ _ _ h => h) (by kernel_rfl) ?_ (by assumption) ?_
          rotate_left
          · (intro w' hSw; (try dsimp only at hSw); go_simp; first | done | with_reducible rfl)
          simp only [Act.put, List.setIfInBounds_toArray, List.set_cons_zero, List.set_cons_succ]
          refine rg_take (v := ?_) 2 rfl (by kernel_rfl) (by kernel_rfl) (by kernel_rfl) (fun _ _ _ h => h) (by kernel_rfl) ?_ (by assumption) ?_
          rotate_left
          · (intro w' hSw; (try dsimp only at hSw); go_simp; first | done | with_reducible rfl)
          simp only [Act.put, List.setIfInBounds_toArray, List.set_cons_zero, List.set_cons_succ]
          refine rg_take (v := ?_) 3 rfl (by kernel_rfl) (by kernel_rfl) (by kernel_rfl) (fun _ _ _ h => h) (by kernel_rfl) ?_ (by assumption) ?_
          rotate_left
          · (intro w' hSw; (try dsimp only at hSw); go_simp; first | done | with_reducible rfl)
          simp only [Act.put, List.setIfInBounds_toArray, List.set_cons_zero, List.set_cons_succ]
          refine rg_take (v := ?_) 4 rfl (by kernel_rfl) (by kernel_rfl) (by kernel_rfl) (fun _ _ _ h => h) (by kernel_rfl) ?_ (by assumption) ?_
          rotate_left
          · (intro w' hSw; (try dsimp only at hSw); go_simp; first | done | with_reducible rfl)
          simp only [Act.put, List.setIfInBounds_toArray, List.set_cons_zero, List.set_cons_succ]
          refine rg_take (v := ?_) 5 rfl (by kernel_rfl) (by kernel_rfl) (by kernel_rfl) (fun _ _ _ h => h) (by kernel_rfl) ?_ (by assumption) ?_
          rotate_left
          · (intro w' hSw; (try dsimp only at hSw); go_simp; first | done | with_reducible rfl)
          simp only [Act.put, List.setIfInBounds_toArray, List.set_cons_zero, List.set_cons_succ]
          refine rg_take (v := ?_) 6 rfl (by kernel_rfl) (by kernel_rfl) (by kernel_rfl) (fun _ _ _ h => h) (by kernel_rfl) ?_ (by assumption) ?_
          rotate_left
          · (intro w' hSw; (try dsimp only at hSw); go_simp; first | done | with_reducible rfl)
          simp only [Act.put, List.setIfInBounds_toArray, List.set_cons_zero, List.set_cons_succ]
          refine rg_take (v := ?_) 7 rfl (by kernel_rfl) (by kernel_rfl) (by kernel_rfl) (fun _ _ _ h => h) (by kernel_rfl) ?_ (by assumption) ?_
          rotate_left
          · (intro w' hSw; (try dsimp only at hSw); go_simp; first | done | with_reducible rfl)
          simp only [Act.put, List.setIfInBounds_toArray, List.set_cons_zero, List.set_cons_succ]
          refine rg_take (v := ?_) 8 rfl (by kernel_rfl) (by kernel_rfl) (by kernel_rfl) (fun _ _ _ h => h) (by kernel_rfl) ?_ (by assumption) ?_
          rotate_left
          · (intro w' hSw; (try dsimp only at hSw); go_simp; first | done | with_reducible rfl)
          simp only [Act.put, List.setIfInBounds_toArray, List.set_cons_zero, List.set_cons_succ]
          refine rg_run 9 rfl (by kernel_rfl) (by kernel_rfl) (fun K hK => ?_)
          go_simp
          refine (HCI.out _ (HK.out.below (below_chain HB.out hbl.out).drew)).mono ?_
          rintro e v2 ⟨rfl, hb⟩
          replace hb := below_chain (Below.refl wr.heap.size wr).drew hb
          replace t0 := cell_later hb (by exact t0)
          replace t1 := cell_later hb (by exact t1)
          replace t2 := cell_later hb (by exact t2)
          replace s0 := cell_later hb (by exact s0)
          replace s1 := cell_later hb (by exact s1)
          replace s2 := cell_later hb (by exact s2)
          replace y1 := cell_later hb (by exact y1)
          have HL2 := Lib.hid (below_chain hbl.out hb)
          clear hb hbl HCI
          go_wp2
          clear hHeld
          refine hK.out _ _ (by exact ⟨⟨⟨t0, t1, t2⟩, s0, s1, s2⟩, y1⟩) (fun hHeld => ?_)
          clear hK K
          try simp only [Act.put, List.setIfInBounds_toArray, List.set_cons_zero, List.set_cons_succ]
          refine rg_take (v := ?_) 10 rfl (by kernel_rfl) (by kernel_rfl) (by kernel_rfl) (fun _ _ _ h => h) (by kernel_rfl) ?_ (by assumption) ?_
          rotate_left
          · (intro w' hSw; (try dsimp only at hSw); go_simp; first | done | with_reducible rfl)
          simp only [Act.put, List.setIfInBounds_toArray, List.set_cons_zero, List.set_cons_succ]
          refine rg_take (v := ?_) 11 rfl (by kernel_rfl) (by kernel_rfl) (by kernel_rfl) (fun _ _ _ h => h) (by kernel_rfl) ?_ (by assumption) ?_
          rotate_left
          · (intro w' hSw; (try dsimp only at hSw); go_simp; first | done | with_reducible rfl)
          simp only [Act.put, List.setIfInBounds_toArray, List.set_cons_zero, List.set_cons_succ]
          refine rg_take (v := ?_) 12 rfl (by kernel_rfl) (by kernel_rfl) (by kernel_rfl) (fun _ _ _ h => h) (by kernel_rfl) ?_ (by assumption) ?_
          rotate_left
          · (intro w' hSw; (try dsimp only at hSw); go_simp; first | done | with_reducible rfl)
          simp only [Act.put, List.setIfInBounds_toArray, List.set_cons_zero, List.set_cons_succ]
          refine rg_take (v := ?_) 13 rfl (by kernel_rfl) (by kernel_rfl) (by kernel_rfl) (fun _ _ _ h => h) (by kernel_rfl) ?_ (by assumption) ?_
          rotate_left
          · (intro w' hSw; (try dsimp only at hSw); go_simp; first | done | with_reducible rfl)
          simp only [Act.put, List.setIfInBounds_toArray, List.set_cons_zero, List.set_cons_succ]
          refine rg_take (v := ?_) 14 rfl (by kernel_rfl) (by kernel_rfl) (by kernel_rfl) (fun _ _ _ h => h) (by kernel_rfl) ?_ (by assumption) ?_
          rotate_left
          · (intro w' hSw; (try dsimp only at hSw); go_simp; first | done | with_reducible rfl)
          simp only [Act.put, List.setIfInBounds_toArray, List.set_cons_zero, List.set_cons_succ]
          refine wpAnyH_done (by kernel_rfl) ?_ _
          clear hHeld
          clear t0 t1 t2 s0 s1 s2
          go_wp2_with (fail)
          refine (HCH.out _ (HR3.out.below HL2.out)).mono ?_
          rintro e v3 ⟨rfl, rfl⟩
          go_wp2_with (fail)
          go_roundw
          case rel => exact ⟨k + 1, by omega, by go_num, HL2⟩
          case measure => simp [intOf]; omega
        · skip
          obtain rfl : N = k := by omega
          go_wp2_with (fail)
          go_ret
          exact ⟨rfl, below_chain HB.out hbl.out⟩
    · have hc1 : (C != 0) = true := by simpa using hc
      go_wp2_with (fail)
      go_ret
      exact ⟨rfl, HB.out⟩
  · have hdn : (D == 0) = false := by simpa using hd0
    clear HFL HQF HQ HF1 q0 q1 q2 q3 q4 q5 m0 m1
    by_cases hc : C = 0
    · subst hc
      obtain ⟨hw, hlen⟩ := HSB.out rfl
      have hat := HAT.out rfl
      have hbk := fun w h hk => HBK.out w h hk hw
      rw [← hlen] at hbk
      have HBK2 := Lib.hid hbk
      have HLEN := Lib.hid hlen
      have HAT2 := Lib.hid hat
      clear hw hlen hat hbk HSB HAT HBK
      go_wp2_with (fail)
      refine (HBK2.out _ HP.out (HK.out.below HB.out)).mono ?_
      rintro e v1 ⟨A6, c6, rfl, hr6, hb⟩
      have HTM := Lib.hid hr6
      clear hr6 HBK2 HP k0 k1 k2 k3 k4 k5
      have HBn := Lib.hid (below_chain HB.out hb)
      clear HB
      have HB := HBn
      clear HBn
      have HMn := Lib.hid (HM.out.below hb)
      clear HM
      have HM := HMn
      clear HMn
      have HR3n := Lib.hid (HR3.out.below hb)
      clear HR3
      have HR3 := HR3n
      clear HR3n
      replace y0 := cell_later hb (by exact y0)
      replace y1 := cell_later hb (by exact y1)
      clear hb
      generalize blk p = ts at *
      have hne : ((m.bs.length : Int) != (m.bs.length : Int)) = false := by simp
      have HMY := Lib.hid hmb
      generalize hN : m.bs.length = N at *
      have HLB := Lib.hid hN
      clear hN
      go_wp2_with (fail)
      go_loopw [18, 19, 20] (fun i _ _ wr => ∃ k : Nat, k ≤ N ∧ i = .int .i64 k ∧ Hid (Below v1.heap.size v1 wr)) (fun i _ _ _ => N - (intOf i).toNat)
      case atStart => exact ⟨0, Nat.zero_le _, rfl, Lib.hid (Below.refl _ _)⟩
      case round =>
        obtain ⟨k, hk, rfl, hbl⟩ := hrel
        replace y1 := cell_later hbl.out y1
        clear y0
        by_cases hlt : k < N
        · skip
          obtain ⟨t, ht⟩ : ∃ t, ts[k]? = some t := ⟨_, List.getElem?_eq_getElem (by have := HLEN.out; omega)⟩
          obtain ⟨s, hs⟩ : ∃ s, m.bs[k]? = some s := ⟨_, List.getElem?_eq_getElem (by have := HLB.out; omega)⟩
          obtain ⟨hm, hp, hnm, hbk, hk7, hnn⟩ := HAT2.out k t s ht hs
          obtain ⟨tb, tf, eA, _, t0, t1, t2⟩ := (HTM.out.below hbl.out).tm ht
          obtain ⟨sb, sf, eX, _, s0, s1, s2⟩ := (HM.out.b.below hbl.out).bs hs
          subst eA
          subst eX
          have hci := fun w hk => c_IsFaulty t s w hnm hk hbk hk7 hnn hp
          have hch := fun w h => c_hasInt A3 c3' n3 V (k : Int) w HN3.out (by rw [HN3.out]; exact HVL.out) h
          rw [hm] at hch
          generalize (s.bc == 1) = u at *
          have HCI := Lib.hid hci
          have HCH := Lib.hid hch
          have hk0 : (0 : Int) ≤ (k : Int) := by omega
          have hk1 : (k : Int) < (N : Int) := by omega
          have huu : (u != u) = false := by simp
          clear hci hch hm hp hnm hbk hk7 hnn ht hs
          go_upto_region 23 with (fail)
          refine wp_region_held_drew (S := (fun w' => ((w'.cell? ⟨tb, tf + k * 3, none⟩ = some (.int .i64 t.k) ∧ w'.cell? ⟨tb, tf + k * 3 + 1, none⟩ = some (.string t.nm) ∧ w'.cell? ⟨tb, tf + k * 3 + 2, none⟩ = some (.int .i64 t.n)) ∧ (w'.cell? ⟨sb, sf + k * 3, none⟩ = some (.int .i64 s.ba) ∧ w'.cell? ⟨sb, sf + k * 3 + 1, none⟩ = some (.int .i64 s.bb) ∧ w'.cell? ⟨sb, sf + k * 3 + 2, none⟩ = some (.int .i64 s.bc))) ∧ w'.cell? ⟨pb + 1, 1, none⟩ = some (.slice (some ⟨sb, sf, none⟩) N d2))) (by kernel_rfl) ?_ (fun hHeld => ?_)
          · exact ⟨⟨⟨t0, t1, t2⟩, s0, s1, s2⟩, y1⟩
          refine rg_take (v := ?_) 0 rfl (by kernel_rfl) (by kernel_rfl) (by kernel_rfl) (fun _ _ _ h => h) (by kernel_rfl) ?_ (by assumption) ?_
          rotate_left
          · (intro w' hSw; (try dsimp only at hSw); go_simp; first | done | with_reducible rfl)
          simp only [Act.put, List.setIfInBounds_toArray, List.set_cons_zero, List.set_cons_succ]
          refine rg_take (v := ?_) 1 rfl (by kernel_rfl) (by kernel_rfl) (by kernel_rfl) (fun _ _ _ h => h) (by kernel_rfl) ?_ (by assumption) ?_
          rotate_left
          · (intro w' hSw; (try dsimp only at hSw); go_simp; first | done | with_reducible rfl)
          simp only [Act.put, List.setIfInBounds_toArray, List.set_cons_zero, List.set_cons_succ]
          refine rg_take (v := ?_) 2 rfl (by kernel_rfl) (by kernel_rfl) (by kernel_rfl) (fun _ _ _ h => h) (by kernel_rfl) ?_ (by assumption) ?_
          rotate_left
          · (intro w' hSw; (try dsimp only at hSw); go_simp; first | done | with_reducible rfl)
          simp only [Act.put, List.setIfInBounds_toArray, List.set_cons_zero, List.set_cons_succ]
          refine rg_take (v := ?_) 3 rfl (by kernel_rfl) (by kernel_rfl) (by kernel_rfl) (fun _ _ _ h => h) (by kernel_rfl) ?_ (by assumption) ?_
          rotate_left
          · (intro w' hSw; (try dsimp only at hSw); go_simp; first | done | with_reducible rfl)
          simp only [Act.put, List.setIfInBounds_toArray, List.set_cons_zero, List.set_cons_succ]
          refine rg_take (v := ?_) 4 rfl (by kernel_rfl) (by kernel_rfl) (by kernel_rfl) (fun _ _ _ h => h) (by kernel_rfl) ?_ (by assumption) ?_
          rotate_left
          · (intro w' hSw; (try dsimp only at hSw); go_simp; first | done | with_reducible rfl)
          simp only [Act.put, List.setIfInBounds_toArray, List.set_cons_zero, List.set_cons_succ]
          refine rg_take (v := ?_) 5 rfl (by kernel_rfl) (by kernel_rfl) (by kernel_rfl) (fun _ _ _ h => h) (by kernel_rfl) ?_ (by assumption) ?_
          rotate_left
          · (intro w' hSw; (try dsimp only at hSw); go_simp; first | done | with_reducible rfl)
          simp only [Act.put, List.setIfInBounds_toArray, List.set_cons_zero, List.set_cons_succ]
          refine rg_take (v := ?_) 6 rfl (by kernel_rfl) (by kernel_rfl) (by kernel_rfl) (fun _ _ _ h => h) (by kernel_rfl) ?_ (by assumption) ?_
          rotate_left
          · (intro w' hSw; (try dsimp only at hSw); go_simp; first | done | with_reducible rfl)
          simp only [Act.put, List.setIfInBounds_toArray, List.set_cons_zero, List.set_cons_succ]
          refine rg_take (v := ?_) 7 rfl (by kernel_rfl) (by kernel_rfl) (by kernel_rfl) (fun _ _ _ h => h) (by kernel_rfl) ?_ (by assumption) ?_
          rotate_left
          · (intro w' hSw; (try dsimp only at hSw); go_simp; first | done | with_reducible rfl)
          simp only [Act.put, List.setIfInBounds_toArray, List.set_cons_zero, List.set_cons_succ]
          refine rg_take (v := ?_) 8 rfl (by kernel_rfl) (by kernel_rfl) (by kernel_rfl) (fun _ _ _ h => h) (by kernel_rfl) ?_ (by assumption) ?_
          rotate_left
          · (intro w' hSw; (try dsimp only at hSw); go_simp; first | done | with_reducible rfl)
          simp only [Act.put, List.setIfInBounds_toArray, List.set_cons_zero, List.set_cons_succ]
          refine rg_run 9 rfl (by kernel_rfl) (by kernel_rfl) (fun K hK => ?_)
          go_simp
          refine (HCI.out _ (HK.out.below (below_chain HB.out hbl.out).drew)).mono ?_
          rintro e v2 ⟨rfl, hb⟩
          replace hb := below_chain (Below.refl wr.heap.size wr).drew hb
          replace t0 := cell_later hb (by exact t0)
          replace t1 := cell_later hb (by exact t1)
          replace t2 := cell_later hb (by exact t2)
          replace s0 := cell_later hb (by exact s0)
          replace s1 := cell_later hb (by exact s1)
          replace s2 := cell_later hb (by exact s2)
          replace y1 := cell_later hb (by exact y1)
          have HL2 := Lib.hid (below_chain hbl.out hb)
          clear hb hbl HCI
          go_wp2
          clear hHeld
          refine hK.out _ _ (by exact ⟨⟨⟨t0, t1, t2⟩, s0, s1, s2⟩, y1⟩) (fun hHeld => ?_)
          clear hK K
          try simp only [Act.put, List.setIfInBounds_toArray, List.set_cons_zero, List.set_cons_succ]
          refine rg_take (v := ?_) 10 rfl (by kernel_rfl) (by kernel_rfl) (by kernel_rfl) (fun _ _ _ h => h) (by kernel_rfl) ?_ (by assumption) ?_
          rotate_left
          · (intro w' hSw; (try dsimp only at hSw); go_simp; first | done | with_reducible rfl)
          simp only [Act.put, List.setIfInBounds_toArray, List.set_cons_zero, List.set_cons_succ]
          refine rg_take (v := ?_) 11 rfl (by kernel_rfl) (by kernel_rfl) (by kernel_rfl) (fun _ _ _ h => h) (by kernel_rfl) ?_ (by assumption) ?_
          rotate_left
          · (intro w' hSw; (try dsimp only at hSw); go_simp; first | done | with_reducible rfl)
          simp only [Act.put, List.setIfInBounds_toArray, List.set_cons_zero, List.set_cons_succ]
          refine rg_take (v := ?_) 12 rfl (by kernel_rfl) (by kernel_rfl) (by kernel_rfl) (fun _ _ _ h => h) (by kernel_rfl) ?_ (by assumption) ?_
          rotate_left
          · (intro w' hSw; (try dsimp only at hSw); go_simp; first | done | with_reducible rfl)
          simp only [Act.put, List.setIfInBounds_toArray, List.set_cons_zero, List.set_cons_succ]
          refine rg_take (v := ?_) 13 rfl (by kernel_rfl) (by kernel_rfl) (by kernel_rfl) (fun _ _ _ h => h) (by kernel_rfl) ?_ (by assumption) ?_
          rotate_left
          · (intro w' hSw; (try dsimp only at hSw); go_simp; first | done | with_reducible rfl)
          simp only [Act.put, List.setIfInBounds_toArray, List.set_cons_zero, List.set_cons_succ]
          refine rg_take (v := ?_) 14 rfl (by kernel_rfl) (by kernel_rfl) (by kernel_rfl) (fun _ _ _ h => h) (by kernel_rfl) ?_ (by assumption) ?_
          rotate_left
          · (intro w' hSw; (try dsimp only at hSw); go_simp; first | done | with_reducible rfl)
          simp only [Act.put, List.setIfInBounds_toArray, List.set_cons_zero, List.set_cons_succ]
          refine wpAnyH_done (by kernel_rfl) ?_ _
          clear hHeld
          clear t0 t1 t2 s0 s1 s2
          go_wp2_with (fail)
          refine (HCH.out _ (HR3.out.below HL2.out)).mono ?_
          rintro e v3 ⟨rfl, rfl⟩
          go_wp2_with (fail)
          go_roundw
          case rel => exact ⟨k + 1, by omega, by go_num, HL2⟩
          case measure => simp [intOf]; omega
        · skip
          obtain rfl : N = k := by omega
          go_wp2_with (fail)
          go_ret
          exact ⟨rfl, below_chain HB.out hbl.out⟩
    · have hc1 : (C != 0) = true := by simpa using hc
      go_wp2_with (fail)
      go_ret
      exact ⟨rfl, HB.out⟩
end Go.Proofs.YteengjcplmjakaaGreatDoor

/- How the arguments of the laws read: lists of integers (the seats without layouts). No condition. -/
namespace Go.Proofs.YteengjcplmjakaaGreatDoor
open Go.ChangeShapes Go.WideShapes Go.ChangeAt Go.RowKit Go.Deep

theorem own : ownKnob Tryz.prog.godebug = none := by kernel_rfl
theorem laidOut : laidOutB Tryz.prog = true := by kernel_rfl
section
variable {H : Type} {enc : TypeId × Value → H} {W : World} {base : Nat} {spare : Nat → Bool} {held : Bool}
theorem add_plain' (b off n : Nat) : (⟨b, off, none⟩ : Addr).add n = ⟨b, off + n, none⟩ := by
  unfold Addr.add
  split <;> simp_all
/-- A row of cells that a slice leads to, as a reading. -/
theorem rd_of {W : World} {a : Addr} {xs : List Value} (h : ∀ j u, xs[j]? = some u → W.cell? (a.add j) = some u) : Rd W (some a) xs := by
  cases xs with
  | nil => exact .inl rfl
  | cons x t =>
    right
    have h0 := h 0 x rfl
    obtain ⟨b, off, spot⟩ := a
    have hspot : spot = none := by simpa [Addr.add] using World.cell?_spot h0
    subst hspot
    refine ⟨b, off, rfl, by simpa [Addr.add] using World.block_lt_of_cell? W _ h0, fun j u hu => ?_⟩
    rw [← add_plain']
    exact h j u hu
end
end Go.Proofs.YteengjcplmjakaaGreatDoor

/- How a slice of bytes reads as an argument of a law, and what the listed table gives. No condition. -/
namespace Go.Proofs.YteengjcplmjakaaGreatDoor
open Go.ChangeShapes Go.WideShapes Go.ChangeAt Go.RowKit Go.Deep

theorem cells_uint8 : Tryz.prog.cellsOf 5 = 1 := by kernel_rfl
section
variable {H : Type} {enc : TypeId × Value → H} {W : World} {base : Nat}
set_option maxRecDepth 100000 in
theorem open_byteS {v : Value} {d : DataW H} {p : List MemPlace} (hv : Value.okWide Tryz.prog W .any base 22 v) (h : DataW.Trod enc Tryz.prog W 0 (fun _ => true) true 22 v d p) :
    ∃ A n c, v = .slice A n c ∧ n ≤ 9223372036854775807 ∧ Bytes W W.heap.size A n := by
  obtain ⟨A, n, c, rfl⟩ := okWide_slice Tryz.underlying22 hv
  obtain ⟨fuel, hf⟩ := h
  rcases open_ints Tryz.underlying22 Tryz.underlying5 cells_uint8 hf with ⟨hcs, _⟩ | ⟨a, n', c', zs, hcs, _, hl, hm, hz, _, hcell, hwz⟩
  · simp [Value.cells] at hcs
    obtain ⟨rfl, rfl, rfl⟩ := hcs
    exact ⟨_, _, _, rfl, by omega, fun j hj => by omega⟩
  · simp [Value.cells] at hcs
    obtain ⟨rfl, rfl, rfl⟩ := hcs
    unfold maxLen at hm
    simp only [if_true] at hz
    refine ⟨_, _, _, rfl, by omega, fun j hj => ?_⟩
    have hj2 : j < zs.length := by omega
    have hc := hcell j hj2
    have hw := hwz zs[j] (List.getElem_mem hj2)
    have hw2 : 0 ≤ zs[j] ∧ zs[j] < 256 := by
      have : (0 ≤ zs[j] ∧ zs[j] ≤ 255) := by simpa [Lit.wf, IntKind.min, IntKind.max, IntKind.signed, IntKind.bits] using hw
      omega
    obtain ⟨b, off, spot⟩ := a
    have hspot : spot = none := by simpa [Addr.add] using World.cell?_spot (hcell 0 (by omega))
    subst hspot
    rw [add_plain'] at hc
    refine ⟨b, off, zs[j].toNat, rfl, World.block_lt_of_cell? W _ hc, by omega, ?_⟩
    rw [hc]
    simp [hj2]
    omega
end
theorem cells_string : Tryz.prog.cellsOf 9 = 1 := by kernel_rfl
theorem cells_keys : Tryz.prog.cellsOf 195 = 17 := by kernel_rfl
theorem g_keys : Tryz.prog.globalNamed "loop.example/g00916/impl.keywords" = some 0 := by kernel_rfl
theorem g_keysType : (Tryz.prog.globals[0]?).map (·.type) = some 195 := by kernel_rfl
theorem keys_datum : (Rows.laid_loop_example_g00916_impl_keywords : DataW Unit) = .agg (kws.map fun s => .lit (.string s.data.toList)) := by rfl
/-- What the condition gives the walks: the keywords' cells hold the keywords. -/
theorem keys_of {W : World} (h : laidMetH Tryz.prog [("loop.example/g00916/impl.keywords", Rows.laid_loop_example_g00916_impl_keywords)] W) : KwR W := by
  rw [MakeChecks.laidMetH_plain _ _ _ (by kernel_rfl)] at h
  obtain ⟨ps, ⟨g0, t0, cs0, f0, p0, q0, hg0, ht0, hv0, hd0, _⟩, _, _⟩ := h
  obtain rfl := Option.some.inj (g_keys.symm.trans hg0)
  obtain rfl := Option.some.inj (g_keysType.symm.trans ht0)
  obtain ⟨xs, m1, _, hx, hlen, hn, hel⟩ := DataW.trod_array Tryz.underlying195 hd0
  rw [cells_keys] at hlen
  rw [keys_datum] at hx
  simp only [Prod.mk.injEq, DataW.agg.injEq] at hx
  obtain ⟨hx, _⟩ := hx
  refine rd_of fun k u hu => ?_
  have hk : k < 17 := by
    have := (List.getElem?_eq_some_iff.1 hu).1
    simpa [sts, kws] using this
  obtain ⟨x, hxk⟩ : ∃ x, xs[k]? = some x := ⟨_, List.getElem?_eq_getElem (by omega)⟩
  obtain ⟨t, ht⟩ : ∃ t, kws[k]? = some t := ⟨_, List.getElem?_eq_getElem (by simpa [kws] using hk)⟩
  have hu2 : u = .string t := by
    unfold sts at hu
    rw [List.getElem?_map, ht] at hu
    simpa using hu.symm
  have h1 := hel k hk
  rw [hxk, cells_string, Nat.mul_one] at h1
  obtain ⟨s, e, e2, _⟩ := DataW.trod_string Tryz.underlying9 h1
  have h3 : (kws.map fun s => (DataW.lit (.string s.data.toList) : DataW Unit))[k]? = (xs.map (·.1))[k]? := by rw [hx]
  rw [List.getElem?_map, List.getElem?_map, ht, hxk, e2] at h3
  simp only [Option.map_some, Option.some.injEq, DataW.lit.injEq, Lit.string.injEq] at h3
  have hst : s = t := by
    obtain ⟨⟨s⟩⟩ := s
    obtain ⟨⟨t⟩⟩ := t
    simp only at h3
    rw [h3]
  subst hst
  subst hu2
  show W.cell? _ = _
  have hadd : (⟨0, 0, none⟩ : Addr).add k = ⟨0, k, none⟩ := by rw [add_plain']; simp
  rw [hadd, World.var?_cell hg0 hv0 k]
  have : (cs0.toList.drop k)[0]? = some (Value.string s) := by
    have h2 : ((cs0.toList.drop k).take 1)[0]? = some (Value.string s) := by rw [e]; rfl
    rwa [List.getElem?_take, if_pos (by decide)] at h2
  rw [List.getElem?_drop] at this
  simpa using this
set_option maxRecDepth 100000 in
/-- The heap that the program's own start leaves meets the condition. -/
theorem door_met (os : Os) (args : Array Value) : laidMetH Tryz.prog [("loop.example/g00916/impl.keywords", Rows.laid_loop_example_g00916_impl_keywords)] ((World.doorLaid Tryz.prog 400 os).forCall (fun _ _ => 0) ⟨#[], args, []⟩).memory :=
  laidMetH_of_parts3 (fuel := 8) (laidMet_of_run' 8 (by kernel_rfl) (by kernel_rfl)) (by kernel_rfl) (by kernel_rfl)
end Go.Proofs.YteengjcplmjakaaGreatDoor
