/- LineTimes on the reference's side. Condition: the lengths. -/
import Derived.Test.YtjpecddhahedpaaGreatDoorQCc
namespace Go.Proofs.YtjpecddhahedpaaGreatDoor
open Go.RowKit

def soB (p : Prg) : Bool := wrB p && fltB p
/-- The code, the list. -/
def ltC (p : Prg) : Int := if soB p then 0 else 1
def ltV (p : Prg) : List Int := if soB p then p.ls.map tL else []
/-- What is handed back: a list of the call's own, and a code. -/
def RetZC (zs : List Int) (c : Int) (w : World) (e : Ending) (w' : World) : Prop :=
  ∃ A n cap, e = .returned (.tuple #[.slice A n cap, .int .i64 c]) ∧ n = zs.length ∧ w'.ownsRow w.heap.size 2 1 (.slice A n cap) n (ints zs) ∧ Below w.heap.size w w'
theorem retZC_nil {zs : List Int} {c : Int} {w w' : World} (h : zs = []) (hb : Below w.heap.size w w') : RetZC zs c w (.returned (.tuple #[.slice none 0 0, .int .i64 c])) w' := by
  subst h
  exact ⟨none, 0, 0, rfl, rfl, World.ownsRow_nil _ _ _ _, hb⟩
theorem retZC_own {zs L : List Int} {n cap : Nat} {A : Option Addr} {w w' : World} (h : zs = L) (hn : L.length = n) (ho : w'.ownsRow w.heap.size 2 1 (.slice A n cap) n (ints L)) (hb : Below w.heap.size w w') : RetZC zs 0 w (.returned (.tuple #[.slice A n cap, .int .i64 0])) w' := by
  subst h; subst hn
  exact ⟨A, _, cap, rfl, rfl, ho, hb⟩
theorem ltS_drop {c : Cd} {k : Nat} {x : Ins} (hx : c.ss[k]? = some x) (n : Int) : ltS c (c.ss.drop k) n = if x.o = 8 ∨ x.o = 9 then (n + timI c x) :: ltS c (c.ss.drop (k + 1)) 0 else ltS c (c.ss.drop (k + 1)) (n + timI c x) := by
  obtain ⟨hk, e⟩ := List.getElem?_eq_some_iff.1 hx
  rw [List.drop_eq_getElem_cons hk, e]
  rfl
set_option maxHeartbeats 2000000 in
set_option maxRecDepth 100000 in
theorem c_sLineTimes (p : Prg) (a1 a2 a3 a4 : Option Addr) (c1 c2 c3 c4 : Nat) (w : World) (hs : PgOk p) (hz : PgZ a1 a2 a3 c1 c2 c3) (h : PgR w a1 a2 a3 a4 p) :
    Calls Tryz.prog 7 #[pv p a1 a2 a3 a4 c1 c2 c3 c4] w (RetZC (ltV p) (ltC p) w) := by
  have H := Lib.hid h
  have HI := Lib.hid (fun w h => c_sIsSound p a1 a2 a3 a4 c1 c2 c3 c4 w hs hz h)
  have HC := Lib.hid (fun w hd h => c_l17Compile p a1 a2 a3 a4 c1 c2 c3 c4 w hs hd h)
  have HSN := Lib.hid (fun h => snd_of (p := p) h)
  have HV : Hid (soB p = (wrB p && fltB p)) := Lib.hid rfl
  have HV1 : Hid (soB p = false → ltC p = 1 ∧ ltV p = []) := Lib.hid (fun e => by unfold ltC ltV; rw [e]; exact ⟨rfl, rfl⟩)
  have HV0 : Hid (soB p = true → ltC p = 0 ∧ ltV p = p.ls.map tL) := Lib.hid (fun e => by unfold ltC ltV; rw [e]; exact ⟨rfl, rfl⟩)
  rw [← HV.out] at HI HSN
  clear HV
  generalize ltC p = RC at *
  generalize ltV p = RV at *
  generalize soB p = s at *
  have B0 := Lib.hid (below_alloc (Below.refl w.heap.size w) (.cells #[.string p.nm, .slice a1 p.ins.length c1, .slice a2 p.vs.length c2, .slice a3 p.os.length c3, .string p.gd, .slice a4 p.ls.length c4] 32))
  have HP : Hid (PB (w.alloc (.cells #[.string p.nm, .slice a1 p.ins.length c1, .slice a2 p.vs.length c2, .slice a3 p.os.length c3, .string p.gd, .slice a4 p.ls.length c4] 32)) w.heap.size p a1 a2 a3 a4 c1 c2 c3 c4) := Lib.hid ⟨by go_simp, by go_simp, by go_simp, by go_simp, by go_simp, by go_simp⟩
  clear hs hz h
  go_enter Tryz.func7, Tryz.ntmps7
  dsimp only [pv]
  go_upto_region 1 with (fail)
  generalize w.alloc (.cells #[.string p.nm, .slice a1 p.ins.length c1, .slice a2 p.vs.length c2, .slice a3 p.os.length c3, .string p.gd, .slice a4 p.ls.length c4] 32) = W at *
  obtain ⟨k0, k1, k2, k3, k4, k5⟩ := HP.out
  go_wp2_with (fail)
  refine (HI.out _ (H.out.below B0.out)).mono ?_
  rintro e w1 ⟨rfl, hb⟩
  have B1 := Lib.hid (below_chain B0.out hb)
  replace k0 := cell_later hb (by exact k0)
  replace k1 := cell_later hb (by exact k1)
  replace k2 := cell_later hb (by exact k2)
  replace k3 := cell_later hb (by exact k3)
  replace k4 := cell_later hb (by exact k4)
  replace k5 := cell_later hb (by exact k5)
  clear hb
  cases s
  · obtain ⟨rfl, e2⟩ := HV1.out rfl
    have HE2 := Lib.hid e2
    clear e2
    go_wp2_with (fail)
    go_ret2
    exact retZC_nil HE2.out B1.out
  obtain ⟨rfl, e2⟩ := HV0.out rfl
  have HE2 := Lib.hid e2
  have HD := Lib.hid (HSN.out rfl)
  clear e2 HV1 HV0 HSN HI
  go_wp2_with (fail)
  refine (HC.out _ HD.out (H.out.below B1.out)).mono ?_
  rintro e w2 ⟨ab, cb, as_, cs, rfl, hob, hos, hb⟩
  have B2 := Lib.hid (below_chain B1.out hb)
  have HR : Hid (CdR w2 ab as_ (cmp p)) := Lib.hid ⟨Rd.own hob, Rd.own hos⟩
  have HLT := Lib.hid (HE2.out.trans (ltS_cmp HD.out).symm)
  have HH := Lib.hid (hd_cmp HD.out)
  have HBL := Lib.hid (blk_cmp HD.out)
  have HFT := Lib.hid (fit_cmp HD.out)
  have hln := (hd_cmp HD.out).s
  clear hb hob hos k0 k1 k2 k3 k4 k5 HE2 HC HD
  generalize cmp p = c at *
  dsimp only [cv]
  have HAB := Lib.hid (below_alloc (Below.refl w2.heap.size w2) (.cells #[.int .i64 c.i, .int .i64 c.v, .int .i64 c.o, .slice ab c.bs.length cb, .slice as_ c.ss.length cs] 45))
  have HA : Hid (CB (w2.alloc (.cells #[.int .i64 c.i, .int .i64 c.v, .int .i64 c.o, .slice ab c.bs.length cb, .slice as_ c.ss.length cs] 45)) w2.heap.size c ab as_ cb cs) := Lib.hid ⟨by go_simp, by go_simp, by go_simp, by go_simp, by go_simp⟩
  go_upto_region 4 with (fail)
  generalize w2.alloc (.cells #[.int .i64 c.i, .int .i64 c.v, .int .i64 c.o, .slice ab c.bs.length cb, .slice as_ c.ss.length cs] 45) = W2 at *
  have HR2 := Lib.hid (HR.out.below HAB.out)
  have B3 := Lib.hid (below_chain B2.out HAB.out)
  generalize w2.heap.size = bc at *
  clear HR HAB B2 B1
  have HO0 : Hid ((W2.alloc (.cells #[] 2)).ownsRow W2.heap.size 2 1 (.slice (some ⟨W2.heap.size, 0, none⟩) 0 0) 0 (ints [])) := Lib.hid (by
    have h := World.ownsRow_lit (e := 2) (size := 1) (base := W2.heap.size) W2 #[] 0 (Nat.le_refl _) (by decide) (by simp)
    simpa [ints] using h)
  have BE := Lib.hid (below_alloc (Below.refl W2.heap.size W2) (.cells #[] 2))
  go_wp2_with (fail)
  go_loopw [5, 6, 7] (fun u t i wr => ∃ (k m : Nat) (A3 : Option Addr) (c3 : Nat) (out : List Int) (n : Int), k ≤ c.ss.length ∧ m ≤ k ∧ i = .int .i64 k ∧ t = .int .i64 n ∧ 0 ≤ n ∧ n ≤ 22 * k ∧ u = .slice A3 m c3 ∧ Hid (out.length = m) ∧ Hid (wr.ownsRow W2.heap.size 2 1 (.slice A3 m c3) m (ints out)) ∧ Hid (RV = out ++ ltS c (c.ss.drop k) n) ∧ Hid (Below W2.heap.size W2 wr)) (fun _ _ i _ => c.ss.length - (intOf i).toNat)
  case atStart => exact ⟨0, 0, _, _, [], 0, Nat.zero_le _, by omega, rfl, rfl, by omega, by omega, rfl, Lib.hid rfl, HO0, Lib.hid HLT.out, BE⟩
  case round =>
    obtain ⟨k, m, A3, C3, out, n, hk, hm, rfl, rfl, hn0, hn1, rfl, hl, ho, hv, hb⟩ := hrel
    clear HO0 BE
    obtain ⟨q0, q1, q2, q3, q4⟩ := HA.out.below hb.out
    by_cases hlt : k < c.ss.length
    · obtain ⟨x, hx⟩ : ∃ x, c.ss[k]? = some x := ⟨_, List.getElem?_eq_getElem hlt⟩
      have htb := tim_bd HH.out x
      have HDR := Lib.hid (ltS_drop hx n)
      have HF1 := Lib.hid (HFT.out x (List.mem_of_getElem? hx))
      obtain ⟨b1, o1, rfl, _, g0, g1⟩ := (HR2.out.below hb.out).s.ins hx
      have hk0 : (0 : Int) ≤ (k : Int) := by omega
      have hk1 : (k : Int) < c.ss.length := by omega
      clear hx
      go_wp2_with (fail)
      refine wp_region_held_drew (S := (fun w' => (w'.cell? ⟨bc, 0, none⟩ = some (.int .i64 c.i) ∧ w'.cell? ⟨bc, 1, none⟩ = some (.int .i64 c.v) ∧ w'.cell? ⟨bc, 2, none⟩ = some (.int .i64 c.o) ∧ w'.cell? ⟨bc, 3, none⟩ = some (.slice ab c.bs.length cb) ∧ w'.cell? ⟨bc, 4, none⟩ = some (.slice (some ⟨b1, o1, none⟩) c.ss.length cs)) ∧ w'.cell? ⟨b1, o1 + k * 2, none⟩ = some (.int .i64 x.o) ∧ w'.cell? ⟨b1, o1 + k * 2 + 1, none⟩ = some (.int .i64 x.a))) (by kernel_rfl) ?_ (fun hHeld => ?_)
      · exact ⟨⟨q0, q1, q2, q3, q4⟩, g0, g1⟩
      refine rg_take (v := ?_) 0 rfl (by kernel_rfl) (by kernel_rfl) (by kernel_rfl) (fun _ _ _ h => h) (by kernel_rfl) ?_ (by assumption) ?_
      rotate_left
      · (intro w' hSw; (try dsimp only at hSw); go_simp; first | done | with_reducible rfl)
      simp only [Act.put, List.setIfInBounds_toArray, List.set_cons_zero, List.set_cons_succ]
      refine rg_take (v := ?_) 1 rfl (by kernel_rfl) (by kernel_rfl) (by kernel_rfl) (fun _ _ _ h => h) (by kernel_rfl) ?_ (by assumption) ?_
      rotate_left
      · (intro w' hSw; (try dsimp only at hSw); go_simp; first | done | with_reducible rfl)
      simp only [Act.put, List.setIfInBounds_toArray, List.set_cons_zero, List.set_cons_succ]
      refine rg_take (v := ?_) 2 rfl (by kernel_rfl) (by kernel_rfl) (by kernel_rfl) (fun _ _ _ h => h) (by kernel_rfl) ?_ (by assumption) ?_
      rotate_left
      · (intro w' hSw; (try dsimp only at hSw); go_simp; first | done | with_reducible rfl)
      simp only [Act.put, List.setIfInBounds_toArray, List.set_cons_zero, List.set_cons_succ]
      refine rg_take (v := ?_) 3 rfl (by kernel_rfl) (by kernel_rfl) (by kernel_rfl) (fun _ _ _ h => h) (by kernel_rfl) ?_ (by assumption) ?_
      rotate_left
      · (intro w' hSw; (try dsimp only at hSw); go_simp; first | done | with_reducible rfl)
      simp only [Act.put, List.setIfInBounds_toArray, List.set_cons_zero, List.set_cons_succ]
      refine rg_take (v := ?_) 4 rfl (by kernel_rfl) (by kernel_rfl) (by kernel_rfl) (fun _ _ _ h => h) (by kernel_rfl) ?_ (by assumption) ?_
      rotate_left
      · (intro w' hSw; (try dsimp only at hSw); go_simp; first | done | with_reducible rfl)
      simp only [Act.put, List.setIfInBounds_toArray, List.set_cons_zero, List.set_cons_succ]
      refine rg_take (v := ?_) 5 rfl (by kernel_rfl) (by kernel_rfl) (by kernel_rfl) (fun _ _ _ h => h) (by kernel_rfl) ?_ (by assumption) ?_
      rotate_left
      · (intro w' hSw; (try dsimp only at hSw); go_simp; first | done | with_reducible rfl)
      simp only [Act.put, List.setIfInBounds_toArray, List.set_cons_zero, List.set_cons_succ]
      refine rg_take (v := ?_) 6 rfl (by kernel_rfl) (by kernel_rfl) (by kernel_rfl) (fun _ _ _ h => h) (by kernel_rfl) ?_ (by assumption) ?_
      rotate_left
      · (intro w' hSw; (try dsimp only at hSw); go_simp; first | done | with_reducible rfl)
      simp only [Act.put, List.setIfInBounds_toArray, List.set_cons_zero, List.set_cons_succ]
      refine rg_run 7 rfl (by kernel_rfl) (by kernel_rfl) (fun K hK => ?_)
      go_simp
      refine (c_l19Time c ab (some ⟨b1, o1, none⟩) cb cs x _ HH.out HBL.out HF1.out ((HR2.out.below hb.out).below (Below.refl _ _).drew)).mono ?_
      rintro e w5 ⟨rfl, hb2⟩
      have hbs : Below wr.heap.size wr w5 := below_chain (Below.refl _ _).drew hb2
      have HB5 := Lib.hid (below_chain hb.out hbs)
      have HO5 := Lib.hid (own_below ho.out hbs)
      replace q0 := cell_later hbs (by exact q0)
      replace q1 := cell_later hbs (by exact q1)
      replace q2 := cell_later hbs (by exact q2)
      replace q3 := cell_later hbs (by exact q3)
      replace q4 := cell_later hbs (by exact q4)
      replace g0 := cell_later hbs (by exact g0)
      replace g1 := cell_later hbs (by exact g1)
      clear hbs hb2 hb ho
      have hw : IntKind.i64.wrap (n + timI c x) = n + timI c x := IntWalk.i64_in _ (by omega)
      go_wp2
      clear hHeld
      refine hK.out _ _ (by exact ⟨⟨q0, q1, q2, q3, q4⟩, g0, g1⟩) (fun hHeld => ?_)
      clear hK K
      try simp only [Act.put, List.setIfInBounds_toArray, List.set_cons_zero, List.set_cons_succ]
      refine rg_take (v := ?_) 8 rfl (by kernel_rfl) (by kernel_rfl) (by kernel_rfl) (fun _ _ _ h => h) (by kernel_rfl) ?_ (by assumption) ?_
      rotate_left
      · (intro w' hSw; (try dsimp only at hSw); go_simp; first | done | with_reducible rfl)
      simp only [Act.put, List.setIfInBounds_toArray, List.set_cons_zero, List.set_cons_succ]
      refine rg_take (v := ?_) 9 rfl (by kernel_rfl) (by kernel_rfl) (by kernel_rfl) (fun _ _ _ h => h) (by kernel_rfl) ?_ (by assumption) ?_
      rotate_left
      · (intro w' hSw; (try dsimp only at hSw); go_simp; first | done | with_reducible rfl)
      simp only [Act.put, List.setIfInBounds_toArray, List.set_cons_zero, List.set_cons_succ]
      refine wpAnyH_done (by kernel_rfl) ?_ _
      clear hHeld
      clear hw
      generalize timI c x = T at *
      obtain ⟨xo, xa⟩ := x
      dsimp only at g0 g1 HDR
      by_cases h8 : xo = 8 ∨ xo = 9
      · rw [if_pos h8] at HDR
        have HNE : Hid (RV = (out ++ [n + T]) ++ ltS c (c.ss.drop (k + 1)) 0) := Lib.hid (by rw [hv.out, HDR.out, List.append_assoc]; rfl)
        clear HDR hv
        have HAL := Lib.hid (below_alloc HB5.out (.cells #[.int .i64 (n + T)] 2))
        have HOA := Lib.hid (own_below HO5.out (below_alloc (Below.refl _ _) (.cells #[.int .i64 (n + T)] 2)))
        rcases h8 with rfl | rfl
        · go_wp2_with (first
            | (at_builtin
               refine wpList_push_int _ rfl (.tmp 46) (.tmp 48) rfl W2.heap.size _ m out (n + T) w5.heap.size 1 rfl HOA.out rfl (by go_simp) (by omega) HAL.out.size ?_
               intro v7 w7 hown hgrow _ _
               obtain ⟨A9, c9, rfl⟩ := own_shape hown
               have HB7 := Lib.hid (below_of_grown HAL.out hgrow (fun q hq => (HOA.out.lt q hq).1))
               have HO7 := Lib.hid hown
               clear hown hgrow)
            )
          go_roundw
          case rel => exact ⟨k + 1, m + 1, A9, c9, out ++ [n + T], 0, by omega, by omega, by go_num, rfl, by omega, by omega, rfl, Lib.hid (by rw [List.length_append, hl.out]; rfl), HO7, HNE, HB7⟩
          case measure => simp [intOf]; omega
        · go_wp2_with (first
            | (at_builtin
               refine wpList_push_int _ rfl (.tmp 46) (.tmp 48) rfl W2.heap.size _ m out (n + T) w5.heap.size 1 rfl HOA.out rfl (by go_simp) (by omega) HAL.out.size ?_
               intro v7 w7 hown hgrow _ _
               obtain ⟨A9, c9, rfl⟩ := own_shape hown
               have HB7 := Lib.hid (below_of_grown HAL.out hgrow (fun q hq => (HOA.out.lt q hq).1))
               have HO7 := Lib.hid hown
               clear hown hgrow)
            )
          go_roundw
          case rel => exact ⟨k + 1, m + 1, A9, c9, out ++ [n + T], 0, by omega, by omega, by go_num, rfl, by omega, by omega, rfl, Lib.hid (by rw [List.length_append, hl.out]; rfl), HO7, HNE, HB7⟩
          case measure => simp [intOf]; omega
      · rw [if_neg h8] at HDR
        have HNE : Hid (RV = out ++ ltS c (c.ss.drop (k + 1)) (n + T)) := Lib.hid (by rw [hv.out, HDR.out])
        have e8 : (xo == 8) = false := by simp; omega
        have e9 : (xo == 9) = false := by simp; omega
        clear HDR hv h8
        go_wp2_with (fail)
        go_roundw
        case rel => exact ⟨k + 1, m, A3, C3, out, n + T, by omega, by omega, by go_num, rfl, by omega, by omega, rfl, hl, HO5, HNE, HB5⟩
        case measure => simp [intOf]; omega
    · obtain rfl : k = c.ss.length := by omega
      have HNE : Hid (RV = out) := Lib.hid (by
        have := hv.out
        rwa [List.drop_length, show ltS c [] n = [] from rfl, List.append_nil] at this)
      clear hv
      go_wp2_with (fail)
      go_ret2
      exact retZC_own HNE.out hl.out (own_mono ho.out B3.out.size) (below_chain B3.out hb.out)
end Go.Proofs.YtjpecddhahedpaaGreatDoor
