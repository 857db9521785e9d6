/- The scan's time on the reference's side. Condition: the code is one. -/
import Derived.Test.YtackekfjalaacaaGreatDoorQTm
namespace Go.Proofs.YtackekfjalaacaaGreatDoor
open Go.RowKit

theorem tim_bd {c : Cd} (hd : Hd c) (x : Ins) : 0 ≤ timI c x ∧ timI c x ≤ 22 := by
  have h1 := hd.o0
  have h2 := hd.o1
  unfold timI tabI
  repeat' split
  all_goals omega
def sumK (c : Cd) (k : Nat) : Int := sumT c (c.ss.take k)
theorem sumT_app (c : Cd) : ∀ (l : List Ins) (x : Ins), sumT c (l ++ [x]) = sumT c l + timI c x
  | [], x => by simp [sumT]
  | y :: t, x => by
    show timI c y + sumT c (t ++ [x]) = timI c y + sumT c t + timI c x
    rw [sumT_app c t x]
    omega
theorem sumK_step {c : Cd} {k : Nat} {x : Ins} (hx : c.ss[k]? = some x) : sumK c (k + 1) = sumK c k + timI c x := by
  unfold sumK
  rw [List.take_add_one, hx]
  exact sumT_app c _ x
theorem sumK_bd {c : Cd} (hd : Hd c) : ∀ k : Nat, k ≤ c.ss.length → 0 ≤ sumK c k ∧ sumK c k ≤ 22 * k
  | 0, _ => by unfold sumK; simp [sumT]
  | k + 1, hk => by
    obtain ⟨x, hx⟩ : ∃ x, c.ss[k]? = some x := ⟨_, List.getElem?_eq_getElem (by omega)⟩
    have h1 := sumK_bd hd k (by omega)
    have h2 := tim_bd hd x
    rw [sumK_step hx]
    omega
set_option maxHeartbeats 2000000 in
set_option maxRecDepth 100000 in
theorem c_l19Scan (c : Cd) (ab as_ : Option Addr) (cb cs : Nat) (w : World) (hd : Hd c) (hbl : ∀ t ∈ c.bs, blkB t = true) (hf : ∀ x ∈ c.ss, fitB c x = true) (h : CdR w ab as_ c) :
    Calls Tryz.prog 43 #[cv c ab as_ cb cs] w fun e w' => e = .returned (.int .i64 (sumK c c.ss.length)) ∧ Below w.heap.size w w' := by
  have HD := Lib.hid hd
  have HC := Lib.hid h
  have HBL := Lib.hid hbl
  have HFT := Lib.hid hf
  have hln := hd.s
  have HAB : Hid (Below w.heap.size w (w.alloc (.cells #[.int .i64 c.i, .int .i64 c.v, .int .i64 c.o, .slice ab c.bs.length cb, .slice as_ c.ss.length cs] 51))) := Lib.hid (below_alloc (Below.refl _ _) _)
  have HA : Hid (CB (w.alloc (.cells #[.int .i64 c.i, .int .i64 c.v, .int .i64 c.o, .slice ab c.bs.length cb, .slice as_ c.ss.length cs] 51)) w.heap.size c ab as_ cb cs) := Lib.hid ⟨by go_simp, by go_simp, by go_simp, by go_simp, by go_simp⟩
  clear hd h hbl hf
  go_enter Tryz.func43, Tryz.ntmps43
  dsimp only [cv]
  go_wp2_with (fail)
  generalize w.alloc (.cells #[.int .i64 c.i, .int .i64 c.v, .int .i64 c.o, .slice ab c.bs.length cb, .slice as_ c.ss.length cs] 51) = W at *
  go_loopw [3, 4] (fun t i wr => ∃ k : Nat, k ≤ c.ss.length ∧ i = .int .i64 k ∧ t = .int .i64 (sumK c k) ∧ Hid (Below w.heap.size w wr) ∧ Hid (CB wr w.heap.size c ab as_ cb cs)) (fun _ i _ => c.ss.length - (intOf i).toNat)
  case atStart => exact ⟨0, Nat.zero_le _, rfl, rfl, HAB, HA⟩
  case round =>
    obtain ⟨k, hk, rfl, rfl, hb, ha⟩ := hrel
    clear HAB HA
    obtain ⟨a0, a1, a2, a3, a4⟩ := ha.out
    by_cases hlt : k < c.ss.length
    · obtain ⟨x, hx⟩ : ∃ x, c.ss[k]? = some x := ⟨_, List.getElem?_eq_getElem hlt⟩
      have HX := Lib.hid (sumK_step hx)
      have hsb := sumK_bd HD.out k hk
      have htb := tim_bd HD.out x
      have HF1 := Lib.hid (HFT.out x (List.mem_of_getElem? hx))
      obtain ⟨b1, o1, rfl, _, g0, g1⟩ := (HC.out.below hb.out).s.ins hx
      have hk0 : (0 : Int) ≤ (k : Int) := by omega
      have hk1 : (k : Int) < c.ss.length := by omega
      clear hx
      generalize sumK c k = S at *
      go_wp2_with (fail)
      refine wp_region_held_drew (S := (fun w' => (w'.cell? ⟨w.heap.size, 0, none⟩ = some (.int .i64 c.i) ∧ w'.cell? ⟨w.heap.size, 1, none⟩ = some (.int .i64 c.v) ∧ w'.cell? ⟨w.heap.size, 2, none⟩ = some (.int .i64 c.o) ∧ w'.cell? ⟨w.heap.size, 3, none⟩ = some (.slice ab c.bs.length cb) ∧ w'.cell? ⟨w.heap.size, 4, none⟩ = some (.slice (some ⟨b1, o1, none⟩) c.ss.length cs)) ∧ w'.cell? ⟨b1, o1 + k * 2, none⟩ = some (.int .i64 x.o) ∧ w'.cell? ⟨b1, o1 + k * 2 + 1, none⟩ = some (.int .i64 x.a))) (by kernel_rfl) ?_ (fun hHeld => ?_)
      · exact ⟨⟨a0, a1, a2, a3, a4⟩, g0, g1⟩
      refine rg_take (v := ?_) 0 rfl (by kernel_rfl) (by kernel_rfl) (by kernel_rfl) (fun _ _ _ h => h) (by kernel_rfl) ?_ (by assumption) ?_
      rotate_left
      · (intro w' hSw; (try dsimp only at hSw); go_simp; first | done | with_reducible rfl)
      simp only [Act.put, List.setIfInBounds_toArray, List.set_cons_zero, List.set_cons_succ]
      refine rg_take (v := ?_) 1 rfl (by kernel_rfl) (by kernel_rfl) (by kernel_rfl) (fun _ _ _ h => h) (by kernel_rfl) ?_ (by assumption) ?_
      rotate_left
      · (intro w' hSw; (try dsimp only at hSw); go_simp; first | done | with_reducible rfl)
      simp only [Act.put, List.setIfInBounds_toArray, List.set_cons_zero, List.set_cons_succ]
      refine rg_take (v := ?_) 2 rfl (by kernel_rfl) (by kernel_rfl) (by kernel_rfl) (fun _ _ _ h => h) (by kernel_rfl) ?_ (by assumption) ?_
      rotate_left
      · (intro w' hSw; (try dsimp only at hSw); go_simp; first | done | with_reducible rfl)
      simp only [Act.put, List.setIfInBounds_toArray, List.set_cons_zero, List.set_cons_succ]
      refine rg_take (v := ?_) 3 rfl (by kernel_rfl) (by kernel_rfl) (by kernel_rfl) (fun _ _ _ h => h) (by kernel_rfl) ?_ (by assumption) ?_
      rotate_left
      · (intro w' hSw; (try dsimp only at hSw); go_simp; first | done | with_reducible rfl)
      simp only [Act.put, List.setIfInBounds_toArray, List.set_cons_zero, List.set_cons_succ]
      refine rg_take (v := ?_) 4 rfl (by kernel_rfl) (by kernel_rfl) (by kernel_rfl) (fun _ _ _ h => h) (by kernel_rfl) ?_ (by assumption) ?_
      rotate_left
      · (intro w' hSw; (try dsimp only at hSw); go_simp; first | done | with_reducible rfl)
      simp only [Act.put, List.setIfInBounds_toArray, List.set_cons_zero, List.set_cons_succ]
      refine rg_take (v := ?_) 5 rfl (by kernel_rfl) (by kernel_rfl) (by kernel_rfl) (fun _ _ _ h => h) (by kernel_rfl) ?_ (by assumption) ?_
      rotate_left
      · (intro w' hSw; (try dsimp only at hSw); go_simp; first | done | with_reducible rfl)
      simp only [Act.put, List.setIfInBounds_toArray, List.set_cons_zero, List.set_cons_succ]
      refine rg_take (v := ?_) 6 rfl (by kernel_rfl) (by kernel_rfl) (by kernel_rfl) (fun _ _ _ h => h) (by kernel_rfl) ?_ (by assumption) ?_
      rotate_left
      · (intro w' hSw; (try dsimp only at hSw); go_simp; first | done | with_reducible rfl)
      simp only [Act.put, List.setIfInBounds_toArray, List.set_cons_zero, List.set_cons_succ]
      refine rg_run 7 rfl (by kernel_rfl) (by kernel_rfl) (fun K hK => ?_)
      go_simp
      refine (c_l19Time c ab (some ⟨b1, o1, none⟩) cb cs x _ HD.out HBL.out HF1.out ((HC.out.below hb.out).below (Below.refl _ _).drew)).mono ?_
      rintro e w2 ⟨rfl, hb2⟩
      have hbs : Below wr.heap.size wr w2 := below_chain (Below.refl _ _).drew hb2
      have HA2 := Lib.hid (ha.out.below hbs)
      have HB2 := Lib.hid (below_chain hb.out hbs)
      replace g0 := cell_later hbs g0
      replace g1 := cell_later hbs g1
      clear a0 a1 a2 a3 a4 hbs hb2 ha hb
      obtain ⟨a0, a1, a2, a3, a4⟩ := HA2.out
      have hw : IntKind.i64.wrap (S + timI c x) = S + timI c x := IntWalk.i64_in _ (by omega)
      go_wp2
      clear hHeld
      refine hK.out _ _ (by exact ⟨⟨a0, a1, a2, a3, a4⟩, g0, g1⟩) (fun hHeld => ?_)
      clear hK K
      try simp only [Act.put, List.setIfInBounds_toArray, List.set_cons_zero, List.set_cons_succ]
      refine rg_take (v := ?_) 8 rfl (by kernel_rfl) (by kernel_rfl) (by kernel_rfl) (fun _ _ _ h => h) (by kernel_rfl) ?_ (by assumption) ?_
      rotate_left
      · (intro w' hSw; (try dsimp only at hSw); go_simp; first | done | with_reducible rfl)
      simp only [Act.put, List.setIfInBounds_toArray, List.set_cons_zero, List.set_cons_succ]
      refine rg_take (v := ?_) 9 rfl (by kernel_rfl) (by kernel_rfl) (by kernel_rfl) (fun _ _ _ h => h) (by kernel_rfl) ?_ (by assumption) ?_
      rotate_left
      · (intro w' hSw; (try dsimp only at hSw); go_simp; first | done | with_reducible rfl)
      simp only [Act.put, List.setIfInBounds_toArray, List.set_cons_zero, List.set_cons_succ]
      refine wpAnyH_done (by kernel_rfl) ?_ _
      clear hHeld
      clear a0 a1 a2 a3 a4 g0 g1 hw
      go_wp2_with (fail)
      go_roundw
      case rel => exact ⟨k + 1, by omega, by go_num, by rw [HX.out], HB2, HA2⟩
      case measure => simp [intOf]; omega
    · obtain rfl : k = c.ss.length := by omega
      go_wp2_with (fail)
      go_ret
      exact ⟨rfl, hb.out⟩
end Go.Proofs.YtackekfjalaacaaGreatDoor
