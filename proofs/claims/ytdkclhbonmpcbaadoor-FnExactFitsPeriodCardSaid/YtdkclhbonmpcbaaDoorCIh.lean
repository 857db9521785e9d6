/- The heights of the stack on the program's side. Condition: the code's head is in range. -/
import Derived.Test.YtdkclhbonmpcbaaDoorCIc
namespace Go.Proofs.YtdkclhbonmpcbaaDoor
open Go.RowKit

/-- An instruction in its box. -/
def XB (w : World) (b : Nat) (x : Ins) : Prop := w.cell? ⟨b, 0, none⟩ = some (.int .i64 x.o) ∧ w.cell? ⟨b, 1, none⟩ = some (.int .i64 x.a)
theorem XB.below {w w' : World} {b : Nat} {x : Ins} (h : XB w b x) (hb : Below w.heap.size w w') : XB w' b x := ⟨cell_later hb h.1, cell_later hb h.2⟩
theorem fit_of {c : Cd} {x : Ins} (h : 0 ≤ x.a) : fitB c x = !decide (manyI c x.o ≤ x.a) := by
  unfold fitB
  rw [← decide_not, Bool.eq_iff_iff, decide_eq_true_eq, decide_eq_true_eq]
  omega
set_option maxHeartbeats 2000000 in
set_option maxRecDepth 100000 in
theorem c_heights (c : Cd) (ab as_ : Option Addr) (cb cs : Nat) (w : World) (hd : Hd c) (h : CdR w ab as_ c) :
    Calls Tryd.prog 40 #[cv c ab as_ cb cs] w (HgtP (hgtB c) w) := by
  have HD := Lib.hid hd
  have HC := Lib.hid h
  have HB0 := Lib.hid (below_alloc (Below.refl w.heap.size w) (.cells #[.int .i64 c.i, .int .i64 c.v, .int .i64 c.o, .slice ab c.bs.length cb, .slice as_ c.ss.length cs] 32))
  have HA : Hid (CB (w.alloc (.cells #[.int .i64 c.i, .int .i64 c.v, .int .i64 c.o, .slice ab c.bs.length cb, .slice as_ c.ss.length cs] 32)) w.heap.size c ab as_ cb cs) := Lib.hid ⟨by go_simp, by go_simp, by go_simp, by go_simp, by go_simp⟩
  have hln := hd.s
  clear h hd
  go_enter Tryd.func40, Tryd.ntmps40
  dsimp only [cv]
  go_upto_region 1 with (fail)
  generalize w.alloc (.cells #[.int .i64 c.i, .int .i64 c.v, .int .i64 c.o, .slice ab c.bs.length cb, .slice as_ c.ss.length cs] 32) = W at *
  obtain ⟨a0, a1, a2, a3, a4⟩ := HA.out
  go_wp2_with (fail)
  clear a0 a1 a2 a3 a4
  go_loopw [4, 5, 7, 8, 9, 13] (fun l t _ _ _ i wr => ∃ (k : Nat) (n : Int) (A3 : Option Addr) (c3 : Nat) (zs : List Int), k ≤ c.ss.length ∧ i = .int .i64 k ∧ t = .int .i64 n ∧ 0 ≤ n ∧ n ≤ 40 ∧ l = .slice A3 k c3 ∧ Hid (hgt c c.ss 0 = hgt c (c.ss.drop k) n) ∧ Hid (wr.ownsRow (w.heap.size + 1) 2 1 (.slice A3 k c3) k (ints zs)) ∧ Hid (Below w.heap.size w wr) ∧ Hid (CB wr w.heap.size c ab as_ cb cs)) (fun _ _ _ _ _ i _ => c.ss.length - (intOf i).toNat)
  case atStart => exact ⟨0, 0, none, 0, [], Nat.zero_le _, rfl, rfl, by omega, by omega, rfl, Lib.hid rfl, Lib.hid (World.ownsRow_nil _ _ _ _), HB0, HA⟩
  case round =>
    obtain ⟨k, n, A3, c3, zs, hk, rfl, rfl, hn0, hn1, rfl, hh, ho, hb, ha⟩ := hrel
    clear HB0 HA
    by_cases hlt : k < c.ss.length
    · obtain ⟨x, hx⟩ : ∃ x, c.ss[k]? = some x := ⟨_, List.getElem?_eq_getElem hlt⟩
      have HX := Lib.hid (hgt_drop (c := c) hx n)
      obtain ⟨b1, o1, rfl, _, g0, g1⟩ := (HC.out.below hb.out).s.ins hx
      have hk0 : (0 : Int) ≤ (k : Int) := by omega
      have hk1 : (k : Int) < c.ss.length := by omega
      have HX0 : Hid (XB (wr.alloc (.cells #[.int .i64 x.o, .int .i64 x.a] 46)) wr.heap.size x) := Lib.hid ⟨by go_simp, by go_simp⟩
      have HBa := Lib.hid (below_alloc (Below.refl wr.heap.size wr) (.cells #[.int .i64 x.o, .int .i64 x.a] 46))
      clear hx
      go_upto_region 6 with (fail)
      generalize wr.alloc (.cells #[.int .i64 x.o, .int .i64 x.a] 46) = W1 at *
      have HA1 := Lib.hid (ha.out.below HBa.out)
      have HO1 := Lib.hid (own_below ho.out HBa.out)
      have HB1 := Lib.hid (below_chain hb.out HBa.out)
      clear ha hb ho HBa g0 g1
      obtain ⟨a0, a1, a2, a3, a4⟩ := HA1.out
      obtain ⟨g0, g1⟩ := HX0.out
      generalize wr.heap.size = bx at *
      by_cases hneg : x.a < 0
      · have hng : (decide (x.a < 0)) = true := decide_eq_true hneg
        have HV : Hid (hgtB c = false) := Lib.hid (by
          unfold hgtB
          rw [hh.out, HX.out, if_neg (by
            rintro ⟨h, _⟩
            unfold fitB at h
            have := of_decide_eq_true h
            omega)]; simp)
        go_wp2_with (fail)
        refine wp_region_held_drew (S := (fun w' => (w'.cell? ⟨w.heap.size, 0, none⟩ = some (.int .i64 c.i) ∧ w'.cell? ⟨w.heap.size, 1, none⟩ = some (.int .i64 c.v) ∧ w'.cell? ⟨w.heap.size, 2, none⟩ = some (.int .i64 c.o) ∧ w'.cell? ⟨w.heap.size, 3, none⟩ = some (.slice ab c.bs.length cb) ∧ w'.cell? ⟨w.heap.size, 4, none⟩ = some (.slice (some ⟨b1, o1, none⟩) c.ss.length cs)) ∧ w'.cell? ⟨bx, 0, none⟩ = some (.int .i64 x.o) ∧ w'.cell? ⟨bx, 1, none⟩ = some (.int .i64 x.a))) (by kernel_rfl) ?_ (fun hHeld => ?_)
        · exact ⟨⟨a0, a1, a2, a3, a4⟩, g0, g1⟩
        refine rg_take (v := ?_) 0 rfl (by kernel_rfl) (by kernel_rfl) (by kernel_rfl) (fun _ _ _ h => h) (by kernel_rfl) ?_ (by assumption) ?_
        rotate_left
        · (intro w' hSw; (try dsimp only at hSw); go_simp; first | done | with_reducible rfl)
        simp only [Act.put, List.setIfInBounds_toArray, List.set_cons_zero, List.set_cons_succ]
        refine rg_take (v := ?_) 1 rfl (by kernel_rfl) (by kernel_rfl) (by kernel_rfl) (fun _ _ _ h => h) (by kernel_rfl) ?_ (by assumption) ?_
        rotate_left
        · (intro w' hSw; (try dsimp only at hSw); go_simp; first | done | with_reducible rfl)
        simp only [Act.put, List.setIfInBounds_toArray, List.set_cons_zero, List.set_cons_succ]
        refine rg_take (v := ?_) 2 rfl (by kernel_rfl) (by kernel_rfl) (by kernel_rfl) (fun _ _ _ h => h) (by kernel_rfl) ?_ (by assumption) ?_
        rotate_left
        · (intro w' hSw; (try dsimp only at hSw); go_simp; first | done | with_reducible rfl)
        simp only [Act.put, List.setIfInBounds_toArray, List.set_cons_zero, List.set_cons_succ]
        refine rg_take (v := ?_) 3 rfl (by kernel_rfl) (by kernel_rfl) (by kernel_rfl) (fun _ _ _ h => h) (by kernel_rfl) ?_ (by assumption) ?_
        rotate_left
        · (intro w' hSw; (try dsimp only at hSw); go_simp; first | done | with_reducible rfl)
        simp only [Act.put, List.setIfInBounds_toArray, List.set_cons_zero, List.set_cons_succ]
        refine rg_skip 4 rfl (by kernel_rfl) (by kernel_rfl) (by kernel_rfl) (fun _ _ _ h => h) (by kernel_rfl) (by assumption) ?_
        simp only [Act.put, List.setIfInBounds_toArray, List.set_cons_zero, List.set_cons_succ]
        refine rg_skip 5 rfl (by kernel_rfl) (by kernel_rfl) (by kernel_rfl) (fun _ _ _ h => h) (by kernel_rfl) (by assumption) ?_
        simp only [Act.put, List.setIfInBounds_toArray, List.set_cons_zero, List.set_cons_succ]
        refine rg_skip 6 rfl (by kernel_rfl) (by kernel_rfl) (by kernel_rfl) (fun _ _ _ h => h) (by kernel_rfl) (by assumption) ?_
        simp only [Act.put, List.setIfInBounds_toArray, List.set_cons_zero, List.set_cons_succ]
        refine rg_skip 7 rfl (by kernel_rfl) (by kernel_rfl) (by kernel_rfl) (fun _ _ _ h => h) (by kernel_rfl) (by assumption) ?_
        simp only [Act.put, List.setIfInBounds_toArray, List.set_cons_zero, List.set_cons_succ]
        refine rg_skip 8 rfl (by kernel_rfl) (by kernel_rfl) (by kernel_rfl) (fun _ _ _ h => h) (by kernel_rfl) (by assumption) ?_
        simp only [Act.put, List.setIfInBounds_toArray, List.set_cons_zero, List.set_cons_succ]
        refine rg_skip 9 rfl (by kernel_rfl) (by kernel_rfl) (by kernel_rfl) (fun _ _ _ h => h) (by kernel_rfl) (by assumption) ?_
        simp only [Act.put, List.setIfInBounds_toArray, List.set_cons_zero, List.set_cons_succ]
        refine rg_skip 10 rfl (by kernel_rfl) (by kernel_rfl) (by kernel_rfl) (fun _ _ _ h => h) (by kernel_rfl) (by assumption) ?_
        simp only [Act.put, List.setIfInBounds_toArray, List.set_cons_zero, List.set_cons_succ]
        refine rg_take (v := ?_) 11 rfl (by kernel_rfl) (by kernel_rfl) (by kernel_rfl) (fun _ _ _ h => h) (by kernel_rfl) ?_ (by assumption) ?_
        rotate_left
        · (intro w' hSw; (try dsimp only at hSw); go_simp; first | done | with_reducible rfl)
        simp only [Act.put, List.setIfInBounds_toArray, List.set_cons_zero, List.set_cons_succ]
        refine wpAnyH_done (by kernel_rfl) ?_ _
        clear hHeld
        go_wp2_with (fail)
        refine bodyPost_ret (v := .tuple #[.slice none 0 0, .bool false]) (by simp [results, Tryd.results40, go_sem]) rfl (by rw [HV.out]; exact ⟨_, _, _, rfl, HB1.out.drew⟩)
      have hng : (decide (x.a < 0)) = false := decide_eq_false hneg
      have HFE := Lib.hid (fit_of (c := c) (x := x) (by omega))
      go_wp2_with (fail)
      refine wp_region_held_drew (S := (fun w' => (w'.cell? ⟨w.heap.size, 0, none⟩ = some (.int .i64 c.i) ∧ w'.cell? ⟨w.heap.size, 1, none⟩ = some (.int .i64 c.v) ∧ w'.cell? ⟨w.heap.size, 2, none⟩ = some (.int .i64 c.o) ∧ w'.cell? ⟨w.heap.size, 3, none⟩ = some (.slice ab c.bs.length cb) ∧ w'.cell? ⟨w.heap.size, 4, none⟩ = some (.slice (some ⟨b1, o1, none⟩) c.ss.length cs)) ∧ w'.cell? ⟨bx, 0, none⟩ = some (.int .i64 x.o) ∧ w'.cell? ⟨bx, 1, none⟩ = some (.int .i64 x.a))) (by kernel_rfl) ?_ (fun hHeld => ?_)
      · exact ⟨⟨a0, a1, a2, a3, a4⟩, g0, g1⟩
      refine rg_take (v := ?_) 0 rfl (by kernel_rfl) (by kernel_rfl) (by kernel_rfl) (fun _ _ _ h => h) (by kernel_rfl) ?_ (by assumption) ?_
      rotate_left
      · (intro w' hSw; (try dsimp only at hSw); go_simp; first | done | with_reducible rfl)
      simp only [Act.put, List.setIfInBounds_toArray, List.set_cons_zero, List.set_cons_succ]
      refine rg_take (v := ?_) 1 rfl (by kernel_rfl) (by kernel_rfl) (by kernel_rfl) (fun _ _ _ h => h) (by kernel_rfl) ?_ (by assumption) ?_
      rotate_left
      · (intro w' hSw; (try dsimp only at hSw); go_simp; first | done | with_reducible rfl)
      simp only [Act.put, List.setIfInBounds_toArray, List.set_cons_zero, List.set_cons_succ]
      refine rg_take (v := ?_) 2 rfl (by kernel_rfl) (by kernel_rfl) (by kernel_rfl) (fun _ _ _ h => h) (by kernel_rfl) ?_ (by assumption) ?_
      rotate_left
      · (intro w' hSw; (try dsimp only at hSw); go_simp; first | done | with_reducible rfl)
      simp only [Act.put, List.setIfInBounds_toArray, List.set_cons_zero, List.set_cons_succ]
      refine rg_take (v := ?_) 3 rfl (by kernel_rfl) (by kernel_rfl) (by kernel_rfl) (fun _ _ _ h => h) (by kernel_rfl) ?_ (by assumption) ?_
      rotate_left
      · (intro w' hSw; (try dsimp only at hSw); go_simp; first | done | with_reducible rfl)
      simp only [Act.put, List.setIfInBounds_toArray, List.set_cons_zero, List.set_cons_succ]
      refine rg_take (v := ?_) 4 rfl (by kernel_rfl) (by kernel_rfl) (by kernel_rfl) (fun _ _ _ h => h) (by kernel_rfl) ?_ (by assumption) ?_
      rotate_left
      · (intro w' hSw; (try dsimp only at hSw); go_simp; first | done | with_reducible rfl)
      simp only [Act.put, List.setIfInBounds_toArray, List.set_cons_zero, List.set_cons_succ]
      refine rg_take (v := ?_) 5 rfl (by kernel_rfl) (by kernel_rfl) (by kernel_rfl) (fun _ _ _ h => h) (by kernel_rfl) ?_ (by assumption) ?_
      rotate_left
      · (intro w' hSw; (try dsimp only at hSw); go_simp; first | done | with_reducible rfl)
      simp only [Act.put, List.setIfInBounds_toArray, List.set_cons_zero, List.set_cons_succ]
      refine rg_take (v := ?_) 6 rfl (by kernel_rfl) (by kernel_rfl) (by kernel_rfl) (fun _ _ _ h => h) (by kernel_rfl) ?_ (by assumption) ?_
      rotate_left
      · (intro w' hSw; (try dsimp only at hSw); go_simp; first | done | with_reducible rfl)
      simp only [Act.put, List.setIfInBounds_toArray, List.set_cons_zero, List.set_cons_succ]
      refine rg_take (v := ?_) 7 rfl (by kernel_rfl) (by kernel_rfl) (by kernel_rfl) (fun _ _ _ h => h) (by kernel_rfl) ?_ (by assumption) ?_
      rotate_left
      · (intro w' hSw; (try dsimp only at hSw); go_simp; first | done | with_reducible rfl)
      simp only [Act.put, List.setIfInBounds_toArray, List.set_cons_zero, List.set_cons_succ]
      refine rg_take (v := ?_) 8 rfl (by kernel_rfl) (by kernel_rfl) (by kernel_rfl) (fun _ _ _ h => h) (by kernel_rfl) ?_ (by assumption) ?_
      rotate_left
      · (intro w' hSw; (try dsimp only at hSw); go_simp; first | done | with_reducible rfl)
      simp only [Act.put, List.setIfInBounds_toArray, List.set_cons_zero, List.set_cons_succ]
      refine rg_run 9 rfl (by kernel_rfl) (by kernel_rfl) (fun K hK => ?_)
      go_simp
      refine (c_many c ab (some ⟨b1, o1, none⟩) cb cs x.o _ HD.out).mono ?_
      rintro e w2 ⟨rfl, hb2⟩
      have hbs : Below W1.heap.size W1 w2 := below_chain (Below.refl _ _).drew hb2
      have HA2 := Lib.hid (HA1.out.below hbs)
      have HO2 := Lib.hid (own_below HO1.out hbs)
      have HB2 := Lib.hid (below_chain HB1.out hbs)
      have HX2 := Lib.hid (HX0.out.below hbs)
      clear a0 a1 a2 a3 a4 g0 g1 hbs hb2 HA1 HO1 HB1 HX0
      obtain ⟨a0, a1, a2, a3, a4⟩ := HA2.out
      obtain ⟨g0, g1⟩ := HX2.out
      go_wp2
      clear hHeld
      refine hK.out _ _ (by exact ⟨⟨a0, a1, a2, a3, a4⟩, g0, g1⟩) (fun hHeld => ?_)
      clear hK K
      try simp only [Act.put, List.setIfInBounds_toArray, List.set_cons_zero, List.set_cons_succ]
      refine rg_take (v := ?_) 10 rfl (by kernel_rfl) (by kernel_rfl) (by kernel_rfl) (fun _ _ _ h => h) (by kernel_rfl) ?_ (by assumption) ?_
      rotate_left
      · (intro w' hSw; (try dsimp only at hSw); go_simp; first | done | with_reducible rfl)
      simp only [Act.put, List.setIfInBounds_toArray, List.set_cons_zero, List.set_cons_succ]
      refine rg_take (v := ?_) 11 rfl (by kernel_rfl) (by kernel_rfl) (by kernel_rfl) (fun _ _ _ h => h) (by kernel_rfl) ?_ (by assumption) ?_
      rotate_left
      · (intro w' hSw; (try dsimp only at hSw); go_simp; first | done | with_reducible rfl)
      simp only [Act.put, List.setIfInBounds_toArray, List.set_cons_zero, List.set_cons_succ]
      refine wpAnyH_done (by kernel_rfl) ?_ _
      clear hHeld
      generalize manyI c x.o = M at *
      by_cases hM : M ≤ x.a
      · have hMt : decide (M ≤ x.a) = true := decide_eq_true hM
        have HV : Hid (hgtB c = false) := Lib.hid (by unfold hgtB; rw [hh.out, HX.out, HFE.out, hMt]; simp)
        go_wp2_with (fail)
        refine bodyPost_ret (v := .tuple #[.slice none 0 0, .bool false]) (by simp [results, Tryd.results40, go_sem]) rfl (by rw [HV.out]; exact ⟨_, _, _, rfl, HB2.out⟩)
      have hMt : decide (M ≤ x.a) = false := decide_eq_false hM
      have HF : Hid (fitB c x = true) := Lib.hid (by rw [HFE.out, hMt]; rfl)
      go_wp2_with (fail)
      refine (c_effect c ab (some ⟨b1, o1, none⟩) cb cs x _ HF.out (HC.out.below HB2.out)).mono ?_
      rintro e w3 ⟨rfl, hb2⟩
      have HA3 := Lib.hid (HA2.out.below hb2)
      have HO3 := Lib.hid (own_below HO2.out hb2)
      have HB3 := Lib.hid (below_chain HB2.out hb2)
      clear a0 a1 a2 a3 a4 g0 g1 hb2 HA2 HO2 HB2 HX2
      have ht := tak_bd c x
      have hg := giv_bd x
      have HFO := HF.out
      rw [HFO] at HX
      clear HFO HFE hMt hM hng hneg
      generalize takI c x = T at *
      generalize givI x = G at *
      have hw1 : IntKind.i64.wrap (G - T) = G - T := IntWalk.i64_in _ (by omega)
      have hw2 : IntKind.i64.wrap (n + (G - T)) = n + (G - T) := IntWalk.i64_in _ (by omega)
      by_cases h1 : n < T
      · have HV : Hid (hgtB c = false) := Lib.hid (by unfold hgtB; rw [hh.out, HX.out, if_neg (by omega)]; simp)
        go_wp2_with (fail)
        refine bodyPost_ret (v := .tuple #[.slice none 0 0, .bool false]) (by simp [results, Tryd.results40, go_sem]) rfl (by rw [HV.out]; exact ⟨_, _, _, rfl, HB3.out⟩)
      by_cases h2 : 40 < n + (G - T)
      · have HV : Hid (hgtB c = false) := Lib.hid (by unfold hgtB; rw [hh.out, HX.out, if_neg (by omega)]; simp)
        go_wp2_with (fail)
        refine bodyPost_ret (v := .tuple #[.slice none 0 0, .bool false]) (by simp [results, Tryd.results40, go_sem]) rfl (by rw [HV.out]; exact ⟨_, _, _, rfl, HB3.out⟩)
      have HH := Lib.hid (hh.out.trans (HX.out.trans (if_pos ⟨rfl, by omega, by omega⟩)))
      have HH2 : Hid (hgt c c.ss 0 = hgt c (c.ss.drop (k + 1)) (n + (G - T))) := Lib.hid (by rw [HH.out]; congr 1; omega)
      have hsz3 := World.block_lt_of_cell? _ _ HA3.out.1
      dsimp only at hsz3
      clear HX hh HH
      go_wp2_with (first
        | (at_builtin
           refine wpList_push_int _ rfl (.tmp 45) (.tmp 47) rfl (w.heap.size + 1) _ k zs (n + (G - T)) w3.heap.size 1 rfl (own_below HO3.out (below_alloc (Below.refl _ _) _)) rfl (by go_simp) (by omega) (by simp; omega) ?_
           intro v7 w7 hown hgrow _ _
           obtain ⟨A9, c9, rfl⟩ := own_shape hown
           have HA7 := Lib.hid ((HA3.out.below (below_alloc (Below.refl _ _) (.cells #[.int .i64 (n + (G - T))] 2))).mark hgrow (fun q hq => by have := (HO3.out.lt q hq).1; omega))
           have HB7 := Lib.hid (below_of_grown (below_chain HB3.out (below_alloc (Below.refl _ _) (.cells #[.int .i64 (n + (G - T))] 2))) hgrow (fun q hq => by have := (HO3.out.lt q hq).1; omega))
           have HO7 := Lib.hid hown
           clear hown hgrow HA3 HB3 HO3)
        )
      go_roundw
      case rel => exact ⟨k + 1, n + (G - T), A9, c9, _, by omega, by go_num, rfl, by omega, by omega, rfl, HH2, HO7, HB7, HA7⟩
      case measure => simp [intOf]; omega
    · obtain rfl : k = c.ss.length := by omega
      have HV : Hid ((n == 0) = hgtB c) := Lib.hid (by
        unfold hgtB
        rw [hh.out, List.drop_length]
        show (n == 0) = decide (some n = some 0)
        by_cases h0 : n = 0
        · subst h0; rfl
        · simp [h0])
      go_wp2_with (fail)
      refine bodyPost_ret (v := .tuple #[.slice A3 c.ss.length c3, .bool (n == 0)]) (by simp [results, Tryd.results40, go_sem]) rfl (by rw [← HV.out]; exact ⟨_, _, _, rfl, hb.out⟩)
end Go.Proofs.YtdkclhbonmpcbaaDoor
