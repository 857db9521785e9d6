/- FaultyPairs, on both sides (printed by PFp.py). Condition: the lists' sizes. -/
import Derived.Test.YteengjcplmjakaaGreatDoorPMy
namespace Go.Proofs.YteengjcplmjakaaGreatDoor
open Go.RowKit

/-- The faulty pairs among the first k blocks. -/
def fpK (ts : List Tm) (bs : List Bs) : Nat → List Int
  | 0 => []
  | k + 1 => fpK ts bs k ++ (if (match ts[k]?, bs[k]? with | some t, some s => t.k == 12 && s.bc == 1 | _, _ => false) then [(k : Int)] else [])
theorem fpK_succ {ts : List Tm} {bs : List Bs} {k : Nat} {t : Tm} {s : Bs} (h1 : ts[k]? = some t) (h2 : bs[k]? = some s) : fpK ts bs (k + 1) = fpK ts bs k ++ (if t.k == 12 && s.bc == 1 then [(k : Int)] else []) := by
  simp only [fpK, h1, h2]
theorem fpK_len (ts : List Tm) (bs : List Bs) : ∀ k, (fpK ts bs k).length ≤ k
  | 0 => by simp [fpK]
  | k + 1 => by
    have := fpK_len ts bs k
    have hb : ∀ b : Bool, (if b then [(k : Int)] else []).length ≤ 1 := by intro b; cases b <;> simp
    have := hb (match ts[k]?, bs[k]? with | some t, some s => t.k == 12 && s.bc == 1 | _, _ => false)
    unfold fpK
    rw [List.length_append]
    omega
theorem poss_c {k n : Int} {s : Bs} (h : possB k n s = true) (h1 : s.bc = 1) : k = 12 := by
  unfold possB at h
  rw [h1] at h
  by_cases hk : k = 12
  · exact hk
  · rw [if_neg hk] at h
    split at h
    · simp at h
    · split at h <;> simp at h
theorem suit_poss {ts : List Tm} {X : Int} {m : Mem} (h : suitB ts X m = true) : m.bs.length = ts.length ∧ ∀ (j : Nat) (t : Tm) (s : Bs), ts[j]? = some t → m.bs[j]? = some s → possB t.k t.n s = true := by
  unfold suitB at h
  simp only [Bool.and_eq_true, decide_eq_true_eq] at h
  refine ⟨h.1, fun j t s h1 h2 => ?_⟩
  unfold allP at h
  have := List.all_eq_true.1 h.2.2 (t, s) (List.mem_of_getElem? (by rw [List.getElem?_zip_eq_some]; exact ⟨h1, h2⟩ : (ts.zip m.bs)[j]? = some (t, s)))
  exact this
def sndB (p : Prg) : Bool := wrB p && fltB p
/-- The code, the list. -/
def fpC (p : Prg) (m : Mem) : Int := if sndB p then (if suitB (blk p) p.vs.length m then 0 else 2) else 1
def fpV (p : Prg) (m : Mem) : List Int := if fpC p m = 0 then fpK (blk p) m.bs m.bs.length else []
theorem fpC_1 {p : Prg} {m : Mem} (h : sndB p = false) : fpC p m = 1 := by unfold fpC; rw [h]; rfl
theorem fpC_2 {p : Prg} {m : Mem} (h : sndB p = true) (h2 : suitB (blk p) p.vs.length m = false) : fpC p m = 2 := by unfold fpC; rw [h, h2]; rfl
theorem fpC_0 {p : Prg} {m : Mem} (h : sndB p = true) (h2 : suitB (blk p) p.vs.length m = true) : fpC p m = 0 := by unfold fpC; rw [h, h2]; rfl
/-- What is handed back: a list of the call's own, and a code. -/
def RetIC (zs : List Int) (c : Int) (w : World) (e : Ending) (w' : World) : Prop :=
  ∃ A n cap, e = .returned (.tuple #[.slice A n cap, .int .i64 c]) ∧ n = zs.length ∧ w'.ownsRow w.heap.size 2 1 (.slice A n cap) n (ints zs) ∧ Below w.heap.size w w'
theorem retIC_nil {zs : List Int} {c : Int} {w w' : World} (h : zs = []) (hb : Below w.heap.size w w') : RetIC zs c w (.returned (.tuple #[.slice none 0 0, .int .i64 c])) w' := by
  subst h
  exact ⟨none, 0, 0, rfl, rfl, World.ownsRow_nil _ _ _ _, hb⟩
theorem retIC_own {zs L : List Int} {n cap : Nat} {A : Option Addr} {w w' : World} (h : zs = L) (hn : L.length = n) (ho : w'.ownsRow w.heap.size 2 1 (.slice A n cap) n (ints L)) (hb : Below w.heap.size w w') : RetIC zs 0 w (.returned (.tuple #[.slice A n cap, .int .i64 0])) w' := by
  subst h; subst hn
  exact ⟨A, _, cap, rfl, rfl, ho, hb⟩
theorem c_IndexFe (F : Value) (w : World) : Calls Tryz.prog 160 #[.slice none 0 0, F] w fun e w' => e = .returned (.int .i64 (-1)) ∧ w = w' := by
  go_enter Tryz.func160, Tryz.ntmps160
  go_wp2
  go_loop [8] (fun i => i = .int .i64 0) (fun _ => 0)
  case atStart => rfl
  case round =>
    subst hrel
    go_wp2
    go_ret
    exact ⟨rfl, rfl⟩
theorem c_ContFe (F : Value) (w : World) : Calls Tryz.prog 106 #[.slice none 0 0, F] w fun e w' => e = .returned (.bool false) ∧ w = w' := by
  go_enter Tryz.func106, Tryz.ntmps106
  go_wp2_with (fail)
  refine (c_IndexFe F _).mono ?_
  rintro e w1 ⟨rfl, rfl⟩
  go_wp2_with (fail)
  go_ret
  exact ⟨rfl, rfl⟩
set_option maxHeartbeats 2000000 in
set_option maxRecDepth 100000 in
theorem c_scanCode0 (p : Prg) (m : Mem) (a1 a2 a3 a4 x1 x2 : Option Addr) (c1 c2 c3 c4 d1 d2 : Nat) (w : World) (hs : PgOk p) (hz : PgZ a1 a2 a3 c1 c2 c3) (hm : MeOk m) (h : PgR w a1 a2 a3 a4 p) (hx : MeR w x1 x2 m) (hk : KwR w) :
    Calls Tryz.prog 61 #[pv p a1 a2 a3 a4 c1 c2 c3 c4, mv m x1 x2 d1 d2, .slice none 0 0] w fun e w' => e = .returned (.int .i64 (fpC p m)) ∧ Below w.heap.size w w' := by
  have HI := Lib.hid (fun w h hk => c_IsSound p a1 a2 a3 a4 c1 c2 c3 c4 w hs hz h hk)
  have HSB := Lib.hid (fun h : sndB p = true => wr_bd (p := p) (by unfold sndB at h; rw [Bool.and_eq_true] at h; exact h.1))
  have HSK := Lib.hid (fun h : sndB p = true => wr_blk (p := p) (by unfold sndB at h; rw [Bool.and_eq_true] at h; exact h.1))
  have HSL := Lib.hid (fun h : sndB p = true => blk_len (HSB.out h))
  have HC1 := Lib.hid (fun h => fpC_1 (p := p) (m := m) h)
  have HC2 := Lib.hid (fun h h2 => fpC_2 (p := p) (m := m) h h2)
  have HC0 := Lib.hid (fun h h2 => fpC_0 (p := p) (m := m) h h2)
  have HT := Lib.hid (fun w hb h => c_blocks p a1 a2 a3 a4 c1 c2 c3 c4 w hb h)
  have HSU := Lib.hid (fun A c tn w e hl hk h hx => c_suits m x1 x2 A d1 d2 c tn p.vs.length (blk p) w e hl hk hm h hx)
  have H := Lib.hid h
  have HX := Lib.hid hx
  have HK := Lib.hid hk
  have hmf : ∀ (fn : Fn) (first cap : Array Value) (w : World), (Instr.makeFunc fn first cap).run Tryz.prog w = .ok (.func fn first cap) w := fun _ _ _ _ => rfl
  have HSN : Hid ((wrB p && fltB p) = sndB p) := Lib.hid rfl
  clear hs hz hm h hx hk
  rw [HSN.out] at HI
  generalize suitB (blk p) p.vs.length m = u at *
  generalize blk p = ts at *
  generalize fpC p m = R at *
  generalize sndB p = s at *
  obtain ⟨nm, ins, vs, os, gd, ls⟩ := p
  obtain ⟨zs, bs⟩ := m
  dsimp only [pv, mv] at *
  have B0 := Lib.hid (below_alloc (below_alloc (Below.refl w.heap.size w) (.cells #[.string nm, .slice a1 ins.length c1, .slice a2 vs.length c2, .slice a3 os.length c3, .string gd, .slice a4 ls.length c4] 27)) (.cells #[.slice x1 zs.length d1, .slice x2 bs.length d2] 48))
  have k0 : ((w.alloc (.cells #[.string nm, .slice a1 ins.length c1, .slice a2 vs.length c2, .slice a3 os.length c3, .string gd, .slice a4 ls.length c4] 27)).alloc (.cells #[.slice x1 zs.length d1, .slice x2 bs.length d2] 48)).cell? ⟨w.heap.size, 0, none⟩ = some (.string nm) := by go_simp
  have K0 := Lib.hid k0
  have k1 : ((w.alloc (.cells #[.string nm, .slice a1 ins.length c1, .slice a2 vs.length c2, .slice a3 os.length c3, .string gd, .slice a4 ls.length c4] 27)).alloc (.cells #[.slice x1 zs.length d1, .slice x2 bs.length d2] 48)).cell? ⟨w.heap.size, 1, none⟩ = some (.slice a1 ins.length c1) := by go_simp
  have K1 := Lib.hid k1
  have k2 : ((w.alloc (.cells #[.string nm, .slice a1 ins.length c1, .slice a2 vs.length c2, .slice a3 os.length c3, .string gd, .slice a4 ls.length c4] 27)).alloc (.cells #[.slice x1 zs.length d1, .slice x2 bs.length d2] 48)).cell? ⟨w.heap.size, 2, none⟩ = some (.slice a2 vs.length c2) := by go_simp
  have K2 := Lib.hid k2
  have k3 : ((w.alloc (.cells #[.string nm, .slice a1 ins.length c1, .slice a2 vs.length c2, .slice a3 os.length c3, .string gd, .slice a4 ls.length c4] 27)).alloc (.cells #[.slice x1 zs.length d1, .slice x2 bs.length d2] 48)).cell? ⟨w.heap.size, 3, none⟩ = some (.slice a3 os.length c3) := by go_simp
  have K3 := Lib.hid k3
  have k4 : ((w.alloc (.cells #[.string nm, .slice a1 ins.length c1, .slice a2 vs.length c2, .slice a3 os.length c3, .string gd, .slice a4 ls.length c4] 27)).alloc (.cells #[.slice x1 zs.length d1, .slice x2 bs.length d2] 48)).cell? ⟨w.heap.size, 4, none⟩ = some (.string gd) := by go_simp
  have K4 := Lib.hid k4
  have k5 : ((w.alloc (.cells #[.string nm, .slice a1 ins.length c1, .slice a2 vs.length c2, .slice a3 os.length c3, .string gd, .slice a4 ls.length c4] 27)).alloc (.cells #[.slice x1 zs.length d1, .slice x2 bs.length d2] 48)).cell? ⟨w.heap.size, 5, none⟩ = some (.slice a4 ls.length c4) := by go_simp
  have K5 := Lib.hid k5
  have y0 : ((w.alloc (.cells #[.string nm, .slice a1 ins.length c1, .slice a2 vs.length c2, .slice a3 os.length c3, .string gd, .slice a4 ls.length c4] 27)).alloc (.cells #[.slice x1 zs.length d1, .slice x2 bs.length d2] 48)).cell? ⟨w.heap.size + 1, 0, none⟩ = some (.slice x1 zs.length d1) := by go_simp
  have Y0 := Lib.hid y0
  have y1 : ((w.alloc (.cells #[.string nm, .slice a1 ins.length c1, .slice a2 vs.length c2, .slice a3 os.length c3, .string gd, .slice a4 ls.length c4] 27)).alloc (.cells #[.slice x1 zs.length d1, .slice x2 bs.length d2] 48)).cell? ⟨w.heap.size + 1, 1, none⟩ = some (.slice x2 bs.length d2) := by go_simp
  have Y1 := Lib.hid y1
  clear k0 k1 k2 k3 k4 k5 y0 y1
  go_enter Tryz.func61, Tryz.ntmps61
  go_upto_region 1 with (fail)
  generalize (w.alloc (.cells #[.string nm, .slice a1 ins.length c1, .slice a2 vs.length c2, .slice a3 os.length c3, .string gd, .slice a4 ls.length c4] 27)).alloc (.cells #[.slice x1 zs.length d1, .slice x2 bs.length d2] 48) = W at *
  have k0 := K0.out
  have k1 := K1.out
  have k2 := K2.out
  have k3 := K3.out
  have k4 := K4.out
  have k5 := K5.out
  have y0 := Y0.out
  have y1 := Y1.out
  go_wp2_with (fail)
  refine (HI.out _ (H.out.below B0.out) (HK.out.below B0.out)).mono ?_
  rintro e w1 ⟨rfl, hb⟩
  have B1 := Lib.hid hb
  clear hb
  clear k0 k1 k2 k3 k4 k5 y0 y1
  have k0 := cell_later B1.out K0.out
  have k1 := cell_later B1.out K1.out
  have k2 := cell_later B1.out K2.out
  have k3 := cell_later B1.out K3.out
  have k4 := cell_later B1.out K4.out
  have k5 := cell_later B1.out K5.out
  have y0 := cell_later B1.out Y0.out
  have y1 := cell_later B1.out Y1.out
  cases s
  · obtain rfl : R = 1 := HC1.out (by first | rfl | trivial)
    go_wp2_with (fail)
    go_ret
    exact ⟨rfl, below_chain B0.out B1.out⟩
  have hbd := HSB.out (by first | rfl | trivial)
  have HBK := Lib.hid (HSK.out (by first | rfl | trivial))
  have hlen := HSL.out (by first | rfl | trivial)
  have HTB := Lib.hid (fun w h => HT.out w hbd h)
  clear hbd
  go_upto_region 3 with (fail)
  refine wp_region_held_drew (S := (fun w' => w'.cell? ⟨w.heap.size, 0, none⟩ = some (.string nm) ∧ w'.cell? ⟨w.heap.size, 1, none⟩ = some (.slice a1 ins.length c1) ∧ w'.cell? ⟨w.heap.size, 2, none⟩ = some (.slice a2 vs.length c2) ∧ w'.cell? ⟨w.heap.size, 3, none⟩ = some (.slice a3 os.length c3) ∧ w'.cell? ⟨w.heap.size, 4, none⟩ = some (.string gd) ∧ w'.cell? ⟨w.heap.size, 5, none⟩ = some (.slice a4 ls.length c4) ∧ w'.cell? ⟨w.heap.size + 1, 0, none⟩ = some (.slice x1 zs.length d1) ∧ w'.cell? ⟨w.heap.size + 1, 1, none⟩ = some (.slice x2 bs.length d2))) (by kernel_rfl) ?_ (fun hHeld => ?_)
  · exact ⟨k0, k1, k2, k3, k4, k5, y0, y1⟩
  refine rg_take (v := ?_) 0 rfl (by kernel_rfl) (by kernel_rfl) (by kernel_rfl) (fun _ _ _ h => h) (by kernel_rfl) ?_ (by assumption) ?_
  rotate_left
  · (intro w' hSw; (try dsimp only at hSw); go_simp; first | done | with_reducible rfl)
  simp only [Act.put, List.setIfInBounds_toArray, List.set_cons_zero, List.set_cons_succ]
  refine rg_take (v := ?_) 1 rfl (by kernel_rfl) (by kernel_rfl) (by kernel_rfl) (fun _ _ _ h => h) (by kernel_rfl) ?_ (by assumption) ?_
  rotate_left
  · (intro w' hSw; (try dsimp only at hSw); go_simp; first | done | with_reducible rfl)
  simp only [Act.put, List.setIfInBounds_toArray, List.set_cons_zero, List.set_cons_succ]
  refine rg_take (v := ?_) 2 rfl (by kernel_rfl) (by kernel_rfl) (by kernel_rfl) (fun _ _ _ h => h) (by kernel_rfl) ?_ (by assumption) ?_
  rotate_left
  · (intro w' hSw; (try dsimp only at hSw); go_simp; first | done | with_reducible rfl)
  simp only [Act.put, List.setIfInBounds_toArray, List.set_cons_zero, List.set_cons_succ]
  refine rg_take (v := ?_) 3 rfl (by kernel_rfl) (by kernel_rfl) (by kernel_rfl) (fun _ _ _ h => h) (by kernel_rfl) ?_ (by assumption) ?_
  rotate_left
  · (intro w' hSw; (try dsimp only at hSw); go_simp; first | done | with_reducible rfl)
  simp only [Act.put, List.setIfInBounds_toArray, List.set_cons_zero, List.set_cons_succ]
  refine rg_take (v := ?_) 4 rfl (by kernel_rfl) (by kernel_rfl) (by kernel_rfl) (fun _ _ _ h => h) (by kernel_rfl) ?_ (by assumption) ?_
  rotate_left
  · (intro w' hSw; (try dsimp only at hSw); go_simp; first | done | with_reducible rfl)
  simp only [Act.put, List.setIfInBounds_toArray, List.set_cons_zero, List.set_cons_succ]
  refine rg_run 5 rfl (by kernel_rfl) (by kernel_rfl) (fun K hK => ?_)
  go_simp
  refine (HTB.out _ (((H.out.below B0.out).below B1.out).below (Below.refl _ _).drew)).mono ?_
  rintro e w2 ⟨A, c, rfl, ho, hb2⟩
  have HS2 := Lib.hid (below_chain (Below.refl w1.heap.size w1).drew hb2 : Below w1.heap.size w1 w2)
  have HTR := Lib.hid (Rd.own ho)
  clear hb2 ho
  go_wp2
  have hbs := HS2.out
  clear hHeld
  refine hK.out _ _ (⟨cell_later hbs k0, cell_later hbs k1, cell_later hbs k2, cell_later hbs k3, cell_later hbs k4, cell_later hbs k5, cell_later hbs y0, cell_later hbs y1⟩) (fun hHeld => ?_)
  clear hK K
  try simp only [Act.put, List.setIfInBounds_toArray, List.set_cons_zero, List.set_cons_succ]
  clear hbs
  refine rg_run 6 rfl (by kernel_rfl) (by kernel_rfl) (fun K hK => ?_)
  go_simp
  refine (HSU.out A c ts.length _ rfl hlen HBK.out HTR.out (((HX.out.below B0.out).below B1.out).below HS2.out)).mono ?_
  rintro e w3 ⟨rfl, hb3⟩
  have HS3 := Lib.hid (below_chain HS2.out hb3)
  clear hb3
  go_wp2
  have hbs := HS3.out
  clear hHeld
  refine hK.out _ _ (⟨cell_later hbs k0, cell_later hbs k1, cell_later hbs k2, cell_later hbs k3, cell_later hbs k4, cell_later hbs k5, cell_later hbs y0, cell_later hbs y1⟩) (fun hHeld => ?_)
  clear hK K
  try simp only [Act.put, List.setIfInBounds_toArray, List.set_cons_zero, List.set_cons_succ]
  clear hbs
  cases u
  · obtain rfl : R = 2 := HC2.out (by first | rfl | trivial) (by first | rfl | trivial)
    refine rg_take (v := ?_) 7 rfl (by kernel_rfl) (by kernel_rfl) (by kernel_rfl) (fun _ _ _ h => h) (by kernel_rfl) ?_ (by assumption) ?_
    rotate_left
    · (intro w' hSw; (try dsimp only at hSw); go_simp; first | done | with_reducible rfl)
    simp only [Act.put, List.setIfInBounds_toArray, List.set_cons_zero, List.set_cons_succ]
    refine rg_take (v := ?_) 8 rfl (by kernel_rfl) (by kernel_rfl) (by kernel_rfl) (fun _ _ _ h => h) (by kernel_rfl) ?_ (by assumption) ?_
    rotate_left
    · (intro w' hSw; (try dsimp only at hSw); go_simp; first | done | with_reducible rfl)
    simp only [Act.put, List.setIfInBounds_toArray, List.set_cons_zero, List.set_cons_succ]
    refine rg_skip 9 rfl (by kernel_rfl) (by kernel_rfl) (by kernel_rfl) (fun _ _ _ h => h) (by kernel_rfl) (by assumption) ?_
    simp only [Act.put, List.setIfInBounds_toArray, List.set_cons_zero, List.set_cons_succ]
    refine rg_skip 10 rfl (by kernel_rfl) (by kernel_rfl) (by kernel_rfl) (fun _ _ _ h => h) (by kernel_rfl) (by assumption) ?_
    simp only [Act.put, List.setIfInBounds_toArray, List.set_cons_zero, List.set_cons_succ]
    refine rg_skip 11 rfl (by kernel_rfl) (by kernel_rfl) (by kernel_rfl) (fun _ _ _ h => h) (by kernel_rfl) (by assumption) ?_
    simp only [Act.put, List.setIfInBounds_toArray, List.set_cons_zero, List.set_cons_succ]
    refine rg_take (v := ?_) 12 rfl (by kernel_rfl) (by kernel_rfl) (by kernel_rfl) (fun _ _ _ h => h) (by kernel_rfl) ?_ (by assumption) ?_
    rotate_left
    · (intro w' hSw; (try dsimp only at hSw); go_simp; first | done | with_reducible rfl)
    simp only [Act.put, List.setIfInBounds_toArray, List.set_cons_zero, List.set_cons_succ]
    refine rg_take (v := ?_) 13 rfl (by kernel_rfl) (by kernel_rfl) (by kernel_rfl) (fun _ _ _ h => h) (by kernel_rfl) ?_ (by assumption) ?_
    rotate_left
    · (intro w' hSw; (try dsimp only at hSw); go_simp; first | done | with_reducible rfl)
    simp only [Act.put, List.setIfInBounds_toArray, List.set_cons_zero, List.set_cons_succ]
    refine wpAnyH_done (by kernel_rfl) ?_ _
    clear hHeld
    go_wp2_with (fail)
    go_ret
    exact ⟨rfl, below_chain B0.out (below_chain B1.out HS3.out)⟩
  · obtain rfl : R = 0 := HC0.out (by first | rfl | trivial) (by first | rfl | trivial)
    refine rg_take (v := ?_) 7 rfl (by kernel_rfl) (by kernel_rfl) (by kernel_rfl) (fun _ _ _ h => h) (by kernel_rfl) ?_ (by assumption) ?_
    rotate_left
    · (intro w' hSw; (try dsimp only at hSw); go_simp; first | done | with_reducible rfl)
    simp only [Act.put, List.setIfInBounds_toArray, List.set_cons_zero, List.set_cons_succ]
    refine rg_take (v := ?_) 8 rfl (by kernel_rfl) (by kernel_rfl) (by kernel_rfl) (fun _ _ _ h => h) (by kernel_rfl) ?_ (by assumption) ?_
    rotate_left
    · (intro w' hSw; (try dsimp only at hSw); go_simp; first | done | with_reducible rfl)
    simp only [Act.put, List.setIfInBounds_toArray, List.set_cons_zero, List.set_cons_succ]
    refine rg_take (v := ?_) 9 rfl (by kernel_rfl) (by kernel_rfl) (by kernel_rfl) (fun _ _ _ h => h) (by kernel_rfl) ?_ (by assumption) ?_
    rotate_left
    · (intro w' hSw; (try dsimp only at hSw); go_simp; first | done | with_reducible rfl)
    simp only [Act.put, List.setIfInBounds_toArray, List.set_cons_zero, List.set_cons_succ]
    refine rg_take (v := ?_) 10 rfl (by kernel_rfl) (by kernel_rfl) (by kernel_rfl) (fun _ _ _ h => h) (by kernel_rfl) ?_ (by assumption) ?_
    rotate_left
    · (intro w' hSw; (try dsimp only at hSw); go_simp; first | done | with_reducible rfl)
    simp only [Act.put, List.setIfInBounds_toArray, List.set_cons_zero, List.set_cons_succ]
    refine rg_run 11 rfl (by kernel_rfl) (by kernel_rfl) (fun K hK => ?_)
    go_simp
    refine (c_ContFe _ _).mono ?_
    rintro e w4 ⟨rfl, rfl⟩
    go_wp2
    have hbs := HS3.out
    clear hHeld
    refine hK.out _ _ (⟨cell_later hbs k0, cell_later hbs k1, cell_later hbs k2, cell_later hbs k3, cell_later hbs k4, cell_later hbs k5, cell_later hbs y0, cell_later hbs y1⟩) (fun hHeld => ?_)
    clear hK K
    try simp only [Act.put, List.setIfInBounds_toArray, List.set_cons_zero, List.set_cons_succ]
    clear hbs
    refine rg_take (v := ?_) 12 rfl (by kernel_rfl) (by kernel_rfl) (by kernel_rfl) (fun _ _ _ h => h) (by kernel_rfl) ?_ (by assumption) ?_
    rotate_left
    · (intro w' hSw; (try dsimp only at hSw); go_simp; first | done | with_reducible rfl)
    simp only [Act.put, List.setIfInBounds_toArray, List.set_cons_zero, List.set_cons_succ]
    refine rg_take (v := ?_) 13 rfl (by kernel_rfl) (by kernel_rfl) (by kernel_rfl) (fun _ _ _ h => h) (by kernel_rfl) ?_ (by assumption) ?_
    rotate_left
    · (intro w' hSw; (try dsimp only at hSw); go_simp; first | done | with_reducible rfl)
    simp only [Act.put, List.setIfInBounds_toArray, List.set_cons_zero, List.set_cons_succ]
    refine wpAnyH_done (by kernel_rfl) ?_ _
    clear hHeld
    go_wp2_with (fail)
    go_ret
    exact ⟨rfl, below_chain B0.out (below_chain B1.out HS3.out)⟩
set_option maxHeartbeats 2000000 in
set_option maxRecDepth 100000 in
theorem c_FaultyPairs (p : Prg) (m : Mem) (a1 a2 a3 a4 x1 x2 : Option Addr) (c1 c2 c3 c4 d1 d2 : Nat) (w : World) (hs : PgOk p) (hz : PgZ a1 a2 a3 c1 c2 c3) (hm : MeOk m) (h : PgR w a1 a2 a3 a4 p) (hx : MeR w x1 x2 m) (hk : KwR w) :
    Calls Tryz.prog 21 #[pv p a1 a2 a3 a4 c1 c2 c3 c4, mv m x1 x2 d1 d2] w (RetIC (fpV p m) (fpC p m) w) := by
  have HI := Lib.hid (fun w h hx hk => c_scanCode0 p m a1 a2 a3 a4 x1 x2 c1 c2 c3 c4 d1 d2 w hs hz hm h hx hk)
  have HV := Lib.hid (show fpV p m = if fpC p m = 0 then fpK (blk p) m.bs m.bs.length else [] from rfl)
  have HCS : Hid (fpC p m = 1 ∨ fpC p m = 2 ∨ fpC p m = 0 ∧ suitB (blk p) p.vs.length m = true) := Lib.hid (by
    unfold fpC
    cases sndB p
    · left; rfl
    · cases hu : suitB (blk p) p.vs.length m
      · right; left; rfl
      · right; right; exact ⟨rfl, rfl⟩)
  have HSP := Lib.hid (fun h => suit_poss (ts := blk p) (X := p.vs.length) (m := m) h)
  have H := Lib.hid h
  have HX := Lib.hid hx
  have HK := Lib.hid hk
  have hbl := hm.b
  clear hs hz hm h hx hk
  generalize suitB (blk p) p.vs.length m = u at *
  generalize blk p = ts at *
  generalize fpC p m = R at *
  generalize fpV p m = RV at *
  obtain ⟨nm, ins, vs, os, gd, ls⟩ := p
  obtain ⟨zs, bs⟩ := m
  dsimp only [pv, mv] at *
  have B0 := Lib.hid (below_alloc (below_alloc (Below.refl w.heap.size w) (.cells #[.string nm, .slice a1 ins.length c1, .slice a2 vs.length c2, .slice a3 os.length c3, .string gd, .slice a4 ls.length c4] 27)) (.cells #[.slice x1 zs.length d1, .slice x2 bs.length d2] 48))
  have k0 : ((w.alloc (.cells #[.string nm, .slice a1 ins.length c1, .slice a2 vs.length c2, .slice a3 os.length c3, .string gd, .slice a4 ls.length c4] 27)).alloc (.cells #[.slice x1 zs.length d1, .slice x2 bs.length d2] 48)).cell? ⟨w.heap.size, 0, none⟩ = some (.string nm) := by go_simp
  have K0 := Lib.hid k0
  have k1 : ((w.alloc (.cells #[.string nm, .slice a1 ins.length c1, .slice a2 vs.length c2, .slice a3 os.length c3, .string gd, .slice a4 ls.length c4] 27)).alloc (.cells #[.slice x1 zs.length d1, .slice x2 bs.length d2] 48)).cell? ⟨w.heap.size, 1, none⟩ = some (.slice a1 ins.length c1) := by go_simp
  have K1 := Lib.hid k1
  have k2 : ((w.alloc (.cells #[.string nm, .slice a1 ins.length c1, .slice a2 vs.length c2, .slice a3 os.length c3, .string gd, .slice a4 ls.length c4] 27)).alloc (.cells #[.slice x1 zs.length d1, .slice x2 bs.length d2] 48)).cell? ⟨w.heap.size, 2, none⟩ = some (.slice a2 vs.length c2) := by go_simp
  have K2 := Lib.hid k2
  have k3 : ((w.alloc (.cells #[.string nm, .slice a1 ins.length c1, .slice a2 vs.length c2, .slice a3 os.length c3, .string gd, .slice a4 ls.length c4] 27)).alloc (.cells #[.slice x1 zs.length d1, .slice x2 bs.length d2] 48)).cell? ⟨w.heap.size, 3, none⟩ = some (.slice a3 os.length c3) := by go_simp
  have K3 := Lib.hid k3
  have k4 : ((w.alloc (.cells #[.string nm, .slice a1 ins.length c1, .slice a2 vs.length c2, .slice a3 os.length c3, .string gd, .slice a4 ls.length c4] 27)).alloc (.cells #[.slice x1 zs.length d1, .slice x2 bs.length d2] 48)).cell? ⟨w.heap.size, 4, none⟩ = some (.string gd) := by go_simp
  have K4 := Lib.hid k4
  have k5 : ((w.alloc (.cells #[.string nm, .slice a1 ins.length c1, .slice a2 vs.length c2, .slice a3 os.length c3, .string gd, .slice a4 ls.length c4] 27)).alloc (.cells #[.slice x1 zs.length d1, .slice x2 bs.length d2] 48)).cell? ⟨w.heap.size, 5, none⟩ = some (.slice a4 ls.length c4) := by go_simp
  have K5 := Lib.hid k5
  have y0 : ((w.alloc (.cells #[.string nm, .slice a1 ins.length c1, .slice a2 vs.length c2, .slice a3 os.length c3, .string gd, .slice a4 ls.length c4] 27)).alloc (.cells #[.slice x1 zs.length d1, .slice x2 bs.length d2] 48)).cell? ⟨w.heap.size + 1, 0, none⟩ = some (.slice x1 zs.length d1) := by go_simp
  have Y0 := Lib.hid y0
  have y1 : ((w.alloc (.cells #[.string nm, .slice a1 ins.length c1, .slice a2 vs.length c2, .slice a3 os.length c3, .string gd, .slice a4 ls.length c4] 27)).alloc (.cells #[.slice x1 zs.length d1, .slice x2 bs.length d2] 48)).cell? ⟨w.heap.size + 1, 1, none⟩ = some (.slice x2 bs.length d2) := by go_simp
  have Y1 := Lib.hid y1
  clear k0 k1 k2 k3 k4 k5 y0 y1
  go_enter Tryz.func21, Tryz.ntmps21
  go_upto_region 1 with (fail)
  generalize (w.alloc (.cells #[.string nm, .slice a1 ins.length c1, .slice a2 vs.length c2, .slice a3 os.length c3, .string gd, .slice a4 ls.length c4] 27)).alloc (.cells #[.slice x1 zs.length d1, .slice x2 bs.length d2] 48) = W at *
  have k0 := K0.out
  have k1 := K1.out
  have k2 := K2.out
  have k3 := K3.out
  have k4 := K4.out
  have k5 := K5.out
  have y0 := Y0.out
  have y1 := Y1.out
  go_wp2_with (fail)
  refine (HI.out _ (H.out.below B0.out) (HX.out.below B0.out) (HK.out.below B0.out)).mono ?_
  rintro e w1 ⟨rfl, hb⟩
  have B1 := Lib.hid (below_chain B0.out hb)
  have HXW := Lib.hid (((HX.out.below B0.out).below hb).b)
  replace y1 := cell_later hb y1
  clear hb k0 k1 k2 k3 k4 k5 y0
  rcases HCS.out with rfl | rfl | ⟨rfl, hu⟩
  · have HN : Hid (RV = []) := Lib.hid (by rw [HV.out]; rfl)
    clear HV HCS
    go_wp2_with (fail)
    go_ret2
    exact retIC_nil HN.out B1.out
  · have HN : Hid (RV = []) := Lib.hid (by rw [HV.out]; rfl)
    clear HV HCS
    go_wp2_with (fail)
    go_ret2
    exact retIC_nil HN.out B1.out
  have hV := HV.out
  rw [if_pos (by first | rfl | trivial)] at hV
  have HV2 := Lib.hid hV
  obtain ⟨hl, hp⟩ := HSP.out hu
  (try dsimp only at hl hp hbl)
  have HP := Lib.hid hp
  generalize hbn : bs.length = bn at *
  have HBN := Lib.hid hbn.symm
  have HTN := Lib.hid hl
  clear hbn hl hp hu HCS HV hV HSP
  clear K0 K1 K2 K3 K4 K5 Y0 Y1
  go_wp2_with (fail)
  clear y1
  go_loopw [7, 8, 9, 19] (fun u _ _ i wr => ∃ (k n : Nat) (A3 : Option Addr) (c3 : Nat), k ≤ bn ∧ n ≤ k ∧ i = .int .i64 k ∧ u = .slice A3 n c3 ∧ Hid ((fpK ts bs k).length = n) ∧ Hid (wr.ownsRow w1.heap.size 2 1 (.slice A3 n c3) n (ints (fpK ts bs k))) ∧ Hid (Below w1.heap.size w1 wr)) (fun _ _ _ i _ => bn - (intOf i).toNat)
  case atStart => exact ⟨0, 0, none, 0, Nat.zero_le _, Nat.le_refl _, rfl, rfl, Lib.hid rfl, Lib.hid (World.ownsRow_nil _ _ _ _), Lib.hid (Below.refl _ _)⟩
  case round =>
    obtain ⟨k, n, A3, C3, hk, hn, rfl, rfl, hl3, ho, hb⟩ := hrel
    by_cases hlt : k < bn
    · obtain ⟨⟨sa, sb, sc⟩, hzs⟩ : ∃ z, bs[k]? = some z := ⟨_, List.getElem?_eq_getElem (by have := HBN.out; omega)⟩
      obtain ⟨⟨tk, tm, tx⟩, hzt⟩ : ∃ z, ts[k]? = some z := ⟨_, List.getElem?_eq_getElem (by have := HTN.out; omega)⟩
      have HFK := Lib.hid (fpK_succ hzt hzs)
      have HPO := Lib.hid (fun h1 => poss_c (HP.out k _ _ hzt hzs) h1)
      dsimp only at HFK HPO
      obtain ⟨b2, o2, rfl, n9, n0, n1, n2⟩ := (HXW.out.below hb.out).bs hzs
      dsimp only at n0 n1 n2
      have hk0 : (0 : Int) ≤ (k : Int) := by omega
      have hk1 : (k : Int) < bn := by omega
      have halt := below_alloc (Below.refl wr.heap.size wr) (.cells #[.int .i64 sa, .int .i64 sb, .int .i64 sc] 62)
      have HB1 := Lib.hid (below_chain hb.out halt)
      have HO1 := Lib.hid (own_below ho.out halt)
      clear hzt hzs halt ho hb
      by_cases hc : sc = 1
      · subst hc
        obtain rfl := HPO.out rfl
        have HF2 : Hid (fpK ts bs (k + 1) = fpK ts bs k ++ [(k : Int)]) := Lib.hid (by rw [HFK.out]; rfl)
        clear HFK HPO
        go_wp2_with (first
              | (at_builtin
                 refine wpList_push_int _ rfl (.tmp 27) (.tmp 29) rfl w1.heap.size _ n (fpK ts bs k) (k : Int) (wr.heap.size + 1) 1 rfl (own_below HO1.out (below_alloc (Below.refl _ _) _)) rfl (by go_simp) (by omega) (by have := HB1.out.size; (try simp at this); (try simp); omega) ?_
                 intro v7 w7 hown hgrow _ _
                 obtain ⟨A9, c9, rfl⟩ := own_shape hown
                 have HB7 := Lib.hid (below_of_grown (below_chain HB1.out (below_alloc (Below.refl _ _) (.cells #[.int .i64 (k : Int)] 2))) hgrow (fun q hq => by have := (HO1.out.lt q hq).1; omega))
                 have HO7 := Lib.hid hown
                 clear hown hgrow)
              )
        go_roundw
        case rel => exact ⟨k + 1, n + 1, A9, c9, by omega, by omega, by go_num, rfl, Lib.hid (by rw [HF2.out, List.length_append, hl3.out]; rfl), Lib.hid (by rw [HF2.out]; exact HO7.out), HB7⟩
        case measure => simp [intOf]; omega
      · have hcb : (sc == 1) = false := by simpa using hc
        have HF2 : Hid (fpK ts bs (k + 1) = fpK ts bs k) := Lib.hid (by rw [HFK.out, hcb, Bool.and_false]; simp)
        clear HFK HPO hc
        go_wp2_with (fail)
        go_roundw
        case rel => exact ⟨k + 1, n, A3, C3, by omega, by omega, by go_num, rfl, Lib.hid (by rw [HF2.out]; exact hl3.out), Lib.hid (by rw [HF2.out]; exact HO1.out), HB1⟩
        case measure => simp [intOf]; omega
    · obtain rfl : k = bn := by omega
      go_wp2_with (fail)
      go_ret2
      exact retIC_own HV2.out hl3.out (own_mono ho.out B1.out.size) (below_chain B1.out hb.out)
set_option maxHeartbeats 2000000 in
set_option maxRecDepth 100000 in
theorem c_sFaultyPairs (p : Prg) (m : Mem) (a1 a2 a3 a4 x1 x2 : Option Addr) (c1 c2 c3 c4 d1 d2 : Nat) (w : World) (hs : PgOk p) (hz : PgZ a1 a2 a3 c1 c2 c3) (hm : MeOk m) (h : PgR w a1 a2 a3 a4 p) (hx : MeR w x1 x2 m) :
    Calls Tryz.prog 22 #[pv p a1 a2 a3 a4 c1 c2 c3 c4, mv m x1 x2 d1 d2] w (RetIC (fpV p m) (fpC p m) w) := by
  have HI := Lib.hid (fun w h  => c_sIsSound p a1 a2 a3 a4 c1 c2 c3 c4 w hs hz h )
  have HSB := Lib.hid (fun h : sndB p = true => wr_bd (p := p) (by unfold sndB at h; rw [Bool.and_eq_true] at h; exact h.1))
  have HSK := Lib.hid (fun h : sndB p = true => wr_blk (p := p) (by unfold sndB at h; rw [Bool.and_eq_true] at h; exact h.1))
  have HSL := Lib.hid (fun h : sndB p = true => blk_len (HSB.out h))
  have HC1 := Lib.hid (fun h => fpC_1 (p := p) (m := m) h)
  have HC2 := Lib.hid (fun h h2 => fpC_2 (p := p) (m := m) h h2)
  have HC0 := Lib.hid (fun h h2 => fpC_0 (p := p) (m := m) h h2)
  have HM := Lib.hid (fun w hb hk h hx => c_l16Memory p m a1 a2 a3 a4 x1 x2 c1 c2 c3 c4 d1 d2 w hb hk hm h hx)
  have HT := Lib.hid (fun w hb h => c_l14Blocks p a1 a2 a3 a4 c1 c2 c3 c4 w hb h)
  have HV := Lib.hid (show fpV p m = if fpC p m = 0 then fpK (blk p) m.bs m.bs.length else [] from rfl)
  have HSP := Lib.hid (fun h => suit_poss (ts := blk p) (X := p.vs.length) (m := m) h)
  have HSN : Hid ((wrB p && fltB p) = sndB p) := Lib.hid rfl
  have H := Lib.hid h
  have HX := Lib.hid hx
  have hbl := hm.b
  clear hs hz hm h hx
  rw [HSN.out] at HI
  generalize suitB (blk p) p.vs.length m = u at *
  generalize blk p = ts at *
  generalize fpC p m = R at *
  generalize fpV p m = RV at *
  generalize sndB p = s at *
  obtain ⟨nm, ins, vs, os, gd, ls⟩ := p
  obtain ⟨zs, bs⟩ := m
  dsimp only [pv, mv] at *
  have B0 := Lib.hid (below_alloc (below_alloc (Below.refl w.heap.size w) (.cells #[.string nm, .slice a1 ins.length c1, .slice a2 vs.length c2, .slice a3 os.length c3, .string gd, .slice a4 ls.length c4] 27)) (.cells #[.slice x1 zs.length d1, .slice x2 bs.length d2] 48))
  have k0 : ((w.alloc (.cells #[.string nm, .slice a1 ins.length c1, .slice a2 vs.length c2, .slice a3 os.length c3, .string gd, .slice a4 ls.length c4] 27)).alloc (.cells #[.slice x1 zs.length d1, .slice x2 bs.length d2] 48)).cell? ⟨w.heap.size, 0, none⟩ = some (.string nm) := by go_simp
  have K0 := Lib.hid k0
  have k1 : ((w.alloc (.cells #[.string nm, .slice a1 ins.length c1, .slice a2 vs.length c2, .slice a3 os.length c3, .string gd, .slice a4 ls.length c4] 27)).alloc (.cells #[.slice x1 zs.length d1, .slice x2 bs.length d2] 48)).cell? ⟨w.heap.size, 1, none⟩ = some (.slice a1 ins.length c1) := by go_simp
  have K1 := Lib.hid k1
  have k2 : ((w.alloc (.cells #[.string nm, .slice a1 ins.length c1, .slice a2 vs.length c2, .slice a3 os.length c3, .string gd, .slice a4 ls.length c4] 27)).alloc (.cells #[.slice x1 zs.length d1, .slice x2 bs.length d2] 48)).cell? ⟨w.heap.size, 2, none⟩ = some (.slice a2 vs.length c2) := by go_simp
  have K2 := Lib.hid k2
  have k3 : ((w.alloc (.cells #[.string nm, .slice a1 ins.length c1, .slice a2 vs.length c2, .slice a3 os.length c3, .string gd, .slice a4 ls.length c4] 27)).alloc (.cells #[.slice x1 zs.length d1, .slice x2 bs.length d2] 48)).cell? ⟨w.heap.size, 3, none⟩ = some (.slice a3 os.length c3) := by go_simp
  have K3 := Lib.hid k3
  have k4 : ((w.alloc (.cells #[.string nm, .slice a1 ins.length c1, .slice a2 vs.length c2, .slice a3 os.length c3, .string gd, .slice a4 ls.length c4] 27)).alloc (.cells #[.slice x1 zs.length d1, .slice x2 bs.length d2] 48)).cell? ⟨w.heap.size, 4, none⟩ = some (.string gd) := by go_simp
  have K4 := Lib.hid k4
  have k5 : ((w.alloc (.cells #[.string nm, .slice a1 ins.length c1, .slice a2 vs.length c2, .slice a3 os.length c3, .string gd, .slice a4 ls.length c4] 27)).alloc (.cells #[.slice x1 zs.length d1, .slice x2 bs.length d2] 48)).cell? ⟨w.heap.size, 5, none⟩ = some (.slice a4 ls.length c4) := by go_simp
  have K5 := Lib.hid k5
  have y0 : ((w.alloc (.cells #[.string nm, .slice a1 ins.length c1, .slice a2 vs.length c2, .slice a3 os.length c3, .string gd, .slice a4 ls.length c4] 27)).alloc (.cells #[.slice x1 zs.length d1, .slice x2 bs.length d2] 48)).cell? ⟨w.heap.size + 1, 0, none⟩ = some (.slice x1 zs.length d1) := by go_simp
  have Y0 := Lib.hid y0
  have y1 : ((w.alloc (.cells #[.string nm, .slice a1 ins.length c1, .slice a2 vs.length c2, .slice a3 os.length c3, .string gd, .slice a4 ls.length c4] 27)).alloc (.cells #[.slice x1 zs.length d1, .slice x2 bs.length d2] 48)).cell? ⟨w.heap.size + 1, 1, none⟩ = some (.slice x2 bs.length d2) := by go_simp
  have Y1 := Lib.hid y1
  clear k0 k1 k2 k3 k4 k5 y0 y1
  go_enter Tryz.func22, Tryz.ntmps22
  go_upto_region 1 with (fail)
  generalize (w.alloc (.cells #[.string nm, .slice a1 ins.length c1, .slice a2 vs.length c2, .slice a3 os.length c3, .string gd, .slice a4 ls.length c4] 27)).alloc (.cells #[.slice x1 zs.length d1, .slice x2 bs.length d2] 48) = W at *
  have k0 := K0.out
  have k1 := K1.out
  have k2 := K2.out
  have k3 := K3.out
  have k4 := K4.out
  have k5 := K5.out
  have y0 := Y0.out
  have y1 := Y1.out
  go_wp2_with (fail)
  refine (HI.out _ (H.out.below B0.out)).mono ?_
  rintro e w1 ⟨rfl, hb⟩
  have B1 := Lib.hid hb
  clear hb
  clear k0 k1 k2 k3 k4 k5 y0 y1
  have k0 := cell_later B1.out K0.out
  have k1 := cell_later B1.out K1.out
  have k2 := cell_later B1.out K2.out
  have k3 := cell_later B1.out K3.out
  have k4 := cell_later B1.out K4.out
  have k5 := cell_later B1.out K5.out
  have y0 := cell_later B1.out Y0.out
  have y1 := cell_later B1.out Y1.out
  cases s
  · obtain rfl : R = 1 := HC1.out (by first | rfl | trivial)
    have HN : Hid (RV = []) := Lib.hid (by rw [HV.out]; rfl)
    clear HV
    go_wp2_with (fail)
    go_ret2
    exact retIC_nil HN.out (below_chain B0.out B1.out)
  have HBD := Lib.hid (HSB.out (by first | rfl | trivial))
  have HBK := Lib.hid (HSK.out (by first | rfl | trivial))
  have hlen := HSL.out (by first | rfl | trivial)
  go_wp2_with (fail)
  refine (HM.out _ HBD.out HBK.out ((H.out.below B0.out).below B1.out) ((HX.out.below B0.out).below B1.out)).mono ?_
  rintro e w2 ⟨rfl, hb⟩
  have B2 := Lib.hid (below_chain B1.out hb)
  clear hb
  clear k0 k1 k2 k3 k4 k5 y0 y1
  have k0 := cell_later B2.out K0.out
  have k1 := cell_later B2.out K1.out
  have k2 := cell_later B2.out K2.out
  have k3 := cell_later B2.out K3.out
  have k4 := cell_later B2.out K4.out
  have k5 := cell_later B2.out K5.out
  have y0 := cell_later B2.out Y0.out
  have y1 := cell_later B2.out Y1.out
  cases u
  · obtain rfl : R = 2 := HC2.out (by first | rfl | trivial) (by first | rfl | trivial)
    have HN : Hid (RV = []) := Lib.hid (by rw [HV.out]; rfl)
    clear HV
    go_wp2_with (fail)
    go_ret2
    exact retIC_nil HN.out (below_chain B0.out B2.out)
  obtain rfl : R = 0 := HC0.out (by first | rfl | trivial) (by first | rfl | trivial)
  go_wp2_with (fail)
  refine (HT.out _ HBD.out ((H.out.below B0.out).below B2.out)).mono ?_
  rintro e w3 ⟨A, c, rfl, ho3, hb⟩
  have B3 := Lib.hid (below_chain B2.out hb)
  have HTR := Lib.hid (Rd.own ho3)
  have HXW := Lib.hid (((HX.out.below B0.out).below B3.out).b)
  have Y3 := Lib.hid (cell_later B3.out Y1.out)
  clear hb ho3
  clear k0 k1 k2 k3 k4 k5 y0 y1
  have hV := HV.out
  rw [if_pos (by first | rfl | trivial)] at hV
  have HV2 := Lib.hid hV
  obtain ⟨hl, hp⟩ := HSP.out (by first | rfl | trivial)
  (try dsimp only at hl hp hbl)
  generalize htn : ts.length = bn at *
  rw [hl] at HV2 Y3
  have HTN := Lib.hid htn.symm
  have HBN := Lib.hid hl
  have hbl2 : bn ≤ 1600 := hlen
  clear htn hl hp HV hV HSP hlen hbl K0 K1 K2 K3 K4 K5 Y0 HM HT HI HSB HSK HSL HBD HBK
  have y3 := Y3.out
  have HO0 : Hid ((w3.alloc (.cells #[] 2)).ownsRow w3.heap.size 2 1 (.slice (some ⟨w3.heap.size, 0, none⟩) 0 0) 0 (ints (fpK ts bs 0))) := Lib.hid (by
    have h := World.ownsRow_lit (e := 2) (size := 1) (base := w3.heap.size) w3 #[] 0 (Nat.le_refl _) (by decide) (by simp)
    simpa [ints, fpK] using h)
  have BE := Lib.hid (below_alloc (Below.refl w3.heap.size w3) (.cells #[] 2))
  go_wp2_with (fail)
  clear y3
  go_loopw [7, 8] (fun u i wr => ∃ (k n : Nat) (A3 : Option Addr) (c3 : Nat), k ≤ bn ∧ n ≤ k ∧ i = .int .i64 k ∧ u = .slice A3 n c3 ∧ Hid ((fpK ts bs k).length = n) ∧ Hid (wr.ownsRow w3.heap.size 2 1 (.slice A3 n c3) n (ints (fpK ts bs k))) ∧ Hid (Below w3.heap.size w3 wr)) (fun _ i _ => bn - (intOf i).toNat)
  case atStart => exact ⟨0, 0, _, _, Nat.zero_le _, Nat.le_refl _, rfl, rfl, Lib.hid rfl, HO0, BE⟩
  case round =>
    obtain ⟨k, n, A3, C3, hk, hn, rfl, rfl, hl3, ho, hb⟩ := hrel
    clear HO0 BE
    by_cases hlt : k < bn
    · obtain ⟨⟨sa, sb, sc⟩, hzs⟩ : ∃ z, bs[k]? = some z := ⟨_, List.getElem?_eq_getElem (by have := HBN.out; omega)⟩
      obtain ⟨⟨tk, tm, tx⟩, hzt⟩ : ∃ z, ts[k]? = some z := ⟨_, List.getElem?_eq_getElem (by have := HTN.out; omega)⟩
      have HFK := Lib.hid (fpK_succ hzt hzs)
      dsimp only at HFK
      obtain ⟨b1, o1, rfl, m9, m0, m1, m2⟩ := (HTR.out.below hb.out).tm hzt
      obtain ⟨b2, o2, rfl, n9, n0, n1, n2⟩ := (HXW.out.below hb.out).bs hzs
      dsimp only at n0 n1 n2 m0 m1 m2
      have y3 := cell_later hb.out Y3.out
      have hk0 : (0 : Int) ≤ (k : Int) := by omega
      have hk1 : (k : Int) < bn := by omega
      clear hzt hzs n0 n1 m1 m2
      by_cases h12 : tk = 12
      · subst h12
        by_cases hc : sc = 1
        · subst hc
          have HF2 : Hid (fpK ts bs (k + 1) = fpK ts bs k ++ [(k : Int)]) := Lib.hid (by rw [HFK.out]; rfl)
          clear HFK
          go_wp2_with (first
              | (at_builtin
                 refine wpList_push_int _ rfl (.tmp 40) (.tmp 42) rfl w3.heap.size _ n (fpK ts bs k) (k : Int) wr.heap.size 1 rfl (own_below ho.out (below_alloc (Below.refl _ _) _)) rfl (by go_simp) (by omega) (by have := hb.out.size; (try simp at this); (try simp); omega) ?_
                 intro v7 w7 hown hgrow _ _
                 obtain ⟨A9, c9, rfl⟩ := own_shape hown
                 have HB7 := Lib.hid (below_of_grown (below_chain hb.out (below_alloc (Below.refl _ _) (.cells #[.int .i64 (k : Int)] 2))) hgrow (fun q hq => by have := (ho.out.lt q hq).1; omega))
                 have HO7 := Lib.hid hown
                 clear hown hgrow)
              )
          go_roundw
          case rel => exact ⟨k + 1, n + 1, A9, c9, by omega, by omega, by go_num, rfl, Lib.hid (by rw [HF2.out, List.length_append, hl3.out]; rfl), Lib.hid (by rw [HF2.out]; exact HO7.out), HB7⟩
          case measure => simp [intOf]; omega
        · have hcb : (sc == 1) = false := by simpa using hc
          have HF2 : Hid (fpK ts bs (k + 1) = fpK ts bs k) := Lib.hid (by rw [HFK.out, hcb, Bool.and_false]; simp)
          clear HFK hc
          go_wp2_with (fail)
          go_roundw
          case rel => exact ⟨k + 1, n, A3, C3, by omega, by omega, by go_num, rfl, Lib.hid (by rw [HF2.out]; exact hl3.out), Lib.hid (by rw [HF2.out]; exact ho.out), hb⟩
          case measure => simp [intOf]; omega
      · have hcb : (tk == 12) = false := by simpa using h12
        have HF2 : Hid (fpK ts bs (k + 1) = fpK ts bs k) := Lib.hid (by rw [HFK.out, hcb, Bool.false_and]; simp)
        clear HFK h12
        go_wp2_with (fail)
        go_roundw
        case rel => exact ⟨k + 1, n, A3, C3, by omega, by omega, by go_num, rfl, Lib.hid (by rw [HF2.out]; exact hl3.out), Lib.hid (by rw [HF2.out]; exact ho.out), hb⟩
        case measure => simp [intOf]; omega
    · obtain rfl : k = bn := by omega
      go_wp2_with (fail)
      go_ret2
      exact retIC_own HV2.out hl3.out (own_mono ho.out (Nat.le_trans B0.out.size B3.out.size)) (below_chain (below_chain B0.out B3.out) hb.out)
end Go.Proofs.YteengjcplmjakaaGreatDoor
