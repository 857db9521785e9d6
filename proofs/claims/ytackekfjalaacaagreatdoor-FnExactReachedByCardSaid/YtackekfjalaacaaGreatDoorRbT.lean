/- Marks of strings, exactly. No condition but the sizes. -/
import Derived.Test.YtackekfjalaacaaGreatDoorMShp
import Derived.Test.YtackekfjalaacaaGreatDoorRgE
import Derived.Test.YtackekfjalaacaaGreatDoorPTo
import Derived.Laws.BytesArg
namespace Go.Proofs.YtackekfjalaacaaGreatDoor
open Go.RowKit

def mtD : Nat → Nat → ByteArray → ByteArray
  | 0, _, t => t
  | f + 1, j, t => if j = 0 then t else mtD f (j / 10) (strOfNums [48 + (j : Int) % 10] ++ t)
theorem mtD_zero (t : ByteArray) : ∀ f, mtD f 0 t = t
  | 0 => rfl
  | _ + 1 => if_pos rfl
theorem mtD_step {f j : Nat} {t : ByteArray} (h : 0 < j) : mtD (f + 1) j t = mtD f (j / 10) (strOfNums [48 + (j : Int) % 10] ++ t) := if_neg (by omega)
def mtx (k : Nat) : ByteArray := if k = 0 then ⟨#[109, 48]⟩ else ⟨#[109]⟩ ++ mtD k k ⟨#[]⟩
set_option maxHeartbeats 1000000 in
set_option maxRecDepth 100000 in
theorem c_markTextX (k : Nat) (w : World) (hk : k ≤ 1000000000000000) : Calls Tryz.prog 40 #[.int .i64 k] w fun e w' => e = .returned (.string (mtx k)) ∧ Below w.heap.size w w' := by
  rcases Nat.eq_zero_or_pos k with h0 | h0
  · have hk1 : ((k : Nat) : Int) ≤ 0 := by omega
    have HX : Hid (mtx k = ⟨#[109, 48]⟩) := Lib.hid (by unfold mtx; rw [if_pos h0])
    generalize mtx k = X at *
    clear h0
    go_enter Tryz.func40, Tryz.ntmps40
    go_wp2
    go_ret
    exact ⟨by rw [HX.out]; rfl, Below.refl _ _⟩
  have hk1 : ¬ ((k : Nat) : Int) ≤ 0 := by omega
  have HX : Hid (mtx k = ⟨#[109]⟩ ++ mtD k k ⟨#[]⟩) := Lib.hid (by unfold mtx; rw [if_neg (by omega)])
  generalize mtx k = X at *
  obtain ⟨Y, hY⟩ : ∃ Y, mtD k k ⟨#[]⟩ = Y := ⟨_, rfl⟩
  have HY := Lib.hid hY
  rw [hY] at HX
  clear hY
  go_enter Tryz.func40, Tryz.ntmps40
  go_wp2
  go_loopw [0, 3] (fun i s wr => ∃ (j f : Nat) (t : ByteArray), Hid (j ≤ f) ∧ Hid (mtD f j t = Y) ∧ j ≤ k ∧ i = .int .i64 j ∧ s = .string t ∧ t.size ≤ k - j ∧ Below w.heap.size w wr) (fun i _ _ => (intOf i).toNat)
  case atStart => exact ⟨k, k, ⟨#[]⟩, Lib.hid (Nat.le_refl _), HY, Nat.le_refl _, rfl, rfl, Nat.zero_le _, Below.refl _ _⟩
  case round =>
    obtain ⟨j, f, t, hjf, hmt, hj, rfl, rfl, hts, hb⟩ := hrel
    have HB := Lib.hid hb
    clear hb
    by_cases hlt : 0 < j
    · have hj0 : (0 : Int) < (j : Int) := by omega
      have hj1 : (0 : Int) ≤ (j : Int) := by omega
      obtain ⟨r, hrs, hre, hback⟩ : ∃ r : ByteArray, r.size ≤ 1 ∧ Hid (r = strOfNums [48 + (j : Int) % 10]) ∧ (convert 41 9 (.slice (some ⟨wr.heap.size, 0, none⟩) 1 1)).run Tryz.prog (wr.alloc (Obj.cells #[Value.int .u8 (48 + (j : Int) % 10)] 5)) = .ok (.string r) (wr.alloc (Obj.cells #[Value.int .u8 (48 + (j : Int) % 10)] 5)) :=
        ⟨strOfNums [48 + (j : Int) % 10], (by show (strOfNums [48 + (j : Int) % 10]).data.size ≤ 1; simp [strOfNums]), Lib.hid rfl, run_convert_bytes_arg _ _ 5 Tryz.underlying41 Tryz.underlying5 _ 0 1 1 [48 + (j : Int) % 10] rfl (fun i hi => by
          obtain rfl : i = 0 := by omega
          go_simp) _ Tryz.underlying9⟩
      have hd1 : (j / 10 : Nat) < j := Nat.div_lt_self hlt (by omega)
      have hd2 : ((j : Int) / 10) = ((j / 10 : Nat) : Int) := by omega
      have hd3 : r.size + t.size ≤ 9223372036854775807 := by omega
      have HD2 := Lib.hid hd2
      obtain ⟨f, rfl⟩ : ∃ f', f = f' + 1 := ⟨f - 1, by have := hjf.out; omega⟩
      have HF2 : Hid (j / 10 ≤ f) := Lib.hid (by have := hjf.out; omega)
      have HM2 : Hid (mtD f (j / 10) (r ++ t) = Y) := Lib.hid (by rw [hre.out]; exact (mtD_step hlt).symm.trans hmt.out)
      clear hd2
      go_wp2
      go_roundw
      case rel => exact ⟨j / 10, f, r ++ t, HF2, HM2, by omega, by rw [HD2.out], rfl, by rw [ByteArray.size_append]; omega, below_alloc HB.out _⟩
      case measure => simp [intOf]; omega
    · have hj0 : ¬ (0 : Int) < (j : Int) := by omega
      have hd3 : t.size + 1 ≤ 9223372036854775807 := by omega
      obtain rfl : j = 0 := by omega
      have HT : Hid (t = Y) := Lib.hid (by rw [← hmt.out, mtD_zero])
      go_wp2
      go_ret
      exact ⟨by rw [HX.out, ← HT.out]; rfl, HB.out⟩
def mts (k n : Nat) : List ByteArray := (List.range n).map fun i => mtx (k + i)
theorem mts_length (k n : Nat) : (mts k n).length = n := by simp [mts]
theorem mts_get {k n j : Nat} (h : j < n) : (mts k n)[j]? = some (mtx (k + j)) := by simp [mts, h]
set_option maxHeartbeats 1000000 in
set_option maxRecDepth 100000 in
theorem c_markStringX (A : Option Addr) (c n : Nat) (zs : List ByteArray) (base k : Nat) (w : World) (hk : k + n ≤ 100000000) (ho : w.ownsRow base 9 1 (.slice A n c) n (sts zs)) :
    Calls Tryz.prog 13 #[.slice A n c, .int .i64 k] w fun e w' => ∃ kk : Nat, kk = k + n ∧ e = .returned (.int .i64 kk) ∧ w'.ownsRow base 9 1 (.slice A n c) n (sts (mts k n)) ∧ Mk base w.heap.size w w' := by
  have HLZ := Lib.hid (show (sts (mts k n)).length = (sts zs).length by rw [ho.1, sts_length, mts_length]; simp)
  have HL := Lib.hid (show (sts zs).length = n by rw [ho.1]; simp)
  have HGB : Hid (∀ q, (Value.slice A n c).ownBlock = some q → base ≤ q ∧ q < w.heap.size) := Lib.hid (fun q hq => ho.lt q hq)
  have HO := Lib.hid ho
  clear ho
  go_enter Tryz.func13, Tryz.ntmps13
  go_wp2
  go_loopw [1, 5] (fun t i wr => ∃ j kk : Nat, j ≤ n ∧ Hid (kk = k + j) ∧ i = .int .i64 j ∧ t = .int .i64 kk ∧ Hid (wr.ownsRow base 9 1 (.slice A n c) n (mix (sts (mts k n)) (sts zs) j)) ∧ Hid (Mk base w.heap.size w wr)) (fun _ i _ => n - (intOf i).toNat)
  case atStart => exact ⟨0, k, Nat.zero_le _, Lib.hid rfl, rfl, rfl, Lib.hid (by rw [mix_zero]; exact HO.out), Lib.hid (Mk.refl _ _ _)⟩
  case round =>
    clear HO
    obtain ⟨j, kk, hj, hkk, rfl, rfl, ho1, hm⟩ := hrel
    by_cases hlt : j < n
    · obtain ⟨g, cap, hv, _⟩ := ho1.out.form (by omega)
      simp only [Value.slice.injEq, true_and] at hv
      obtain ⟨rfl, rfl⟩ := hv
      have HG := Lib.hid (HGB.out g rfl)
      have HU : Hid ((sts (mts k n))[j]? = some (.string (mtx kk))) := Lib.hid (by rw [hkk.out]; exact sts_at (mts_get hlt))
      have hkb : kk ≤ 100000000 := by have := hkk.out; omega
      have HK2 : Hid (kk + 1 = k + (j + 1)) := Lib.hid (by have := hkk.out; omega)
      clear hkk
      go_wp2_with (fail)
      refine (c_markTextX kk _ (by omega)).mono ?_
      rintro e w2 ⟨rfl, hb⟩
      have ho2 := own_below ho1.out hb
      have f0 := ho2.frozenAt j
      obtain ⟨old, hold⟩ := own_cell ho2 (j := j) (by omega)
      have hst := (ho2.stored j (.string (mtx kk))).1
      rw [mix_set HLZ.out HU.out] at hst
      have HST := Lib.hid hst
      have HM := Lib.hid ((hm.out.trans (Mk.of_below hb)).setCell (p := ⟨g, j, none⟩) (.string (mtx kk)) HG.out.1 HG.out.2)
      clear hst ho2 hb ho1 hm HU
      generalize mtx kk = s at *
      go_wp2_with (fail)
      go_roundw
      case rel => exact ⟨j + 1, kk + 1, by omega, HK2, by go_num, by go_num, HST, HM⟩
      case measure => simp [intOf]; omega
    · obtain rfl : j = n := by omega
      clear HGB
      go_wp2_with (fail)
      go_ret
      refine ⟨kk, hkk.out, rfl, ?_, hm.out⟩
      have := ho1.out
      rwa [mix_all (by rw [HLZ.out, HL.out]; exact Nat.le_refl _) (by rw [HL.out]; exact Nat.le_refl _)] at this
set_option maxHeartbeats 1000000 in
set_option maxRecDepth 100000 in
theorem c_heldStringX (A : Option Addr) (c n k : Nat) (w : World) (hk : k + n ≤ 100000000) (hr : Rd w A (sts (mts k n))) :
    Calls Tryz.prog 14 #[.slice A n c, .int .i64 k] w fun e w' => ∃ kk : Nat, kk = k + n ∧ e = .returned (.int .i64 kk) ∧ Below w.heap.size w w' := by
  have HR := Lib.hid hr
  clear hr
  go_enter Tryz.func14, Tryz.ntmps14
  go_wp2
  go_loopw [1, 5] (fun t i wr => ∃ j kk : Nat, j ≤ n ∧ Hid (kk = k + j) ∧ i = .int .i64 j ∧ t = .int .i64 kk ∧ Hid (Below w.heap.size w wr)) (fun _ i _ => n - (intOf i).toNat)
  case atStart => exact ⟨0, k, Nat.zero_le _, Lib.hid rfl, rfl, rfl, Lib.hid (Below.refl _ _)⟩
  case round =>
    obtain ⟨j, kk, hj, hkk, rfl, rfl, hb⟩ := hrel
    by_cases hlt : j < n
    · obtain ⟨b, off, rfl, hbl, g0w⟩ := HR.out.st (mts_get hlt)
      rw [← hkk.out] at g0w
      have G0 := Lib.hid g0w
      have g0 := cell_later hb.out g0w
      have hkb : kk ≤ 100000000 := by have := hkk.out; omega
      have HK2 : Hid (kk + 1 = k + (j + 1)) := Lib.hid (by have := hkk.out; omega)
      have hj0 : (0 : Int) ≤ (j : Int) := by omega
      have hj1 : (j : Int) < n := by omega
      have HTX := Lib.hid (fun w => c_markTextX kk w (by omega))
      have heq : ((mtx kk).toList == (mtx kk).toList) = true := by simp
      clear hkk g0w hbl
      generalize mtx kk = s at *
      go_upto_region 4 with (fail)
      refine wp_region_held_drew (S := (fun w' => w'.cell? ⟨b, off + j, none⟩ = some (.string s))) (by kernel_rfl) ?_ (fun hHeld => ?_)
      · exact g0
      refine rg_take (v := ?_) 0 rfl (by kernel_rfl) (by kernel_rfl) (by kernel_rfl) (fun _ _ _ h => h) (by kernel_rfl) ?_ (by assumption) ?_
      rotate_left
      · (intro w' hSw; (try dsimp only at hSw); go_simp; first | done | with_reducible rfl)
      simp only [Act.put, List.setIfInBounds_toArray, List.set_cons_zero, List.set_cons_succ]
      refine rg_take (v := ?_) 1 rfl (by kernel_rfl) (by kernel_rfl) (by kernel_rfl) (fun _ _ _ h => h) (by kernel_rfl) ?_ (by assumption) ?_
      rotate_left
      · (intro w' hSw; (try dsimp only at hSw); go_simp; first | done | with_reducible rfl)
      simp only [Act.put, List.setIfInBounds_toArray, List.set_cons_zero, List.set_cons_succ]
      refine rg_take (v := ?_) 2 rfl (by kernel_rfl) (by kernel_rfl) (by kernel_rfl) (fun _ _ _ h => h) (by kernel_rfl) ?_ (by assumption) ?_
      rotate_left
      · (intro w' hSw; (try dsimp only at hSw); go_simp; first | done | with_reducible rfl)
      simp only [Act.put, List.setIfInBounds_toArray, List.set_cons_zero, List.set_cons_succ]
      refine rg_take (v := ?_) 3 rfl (by kernel_rfl) (by kernel_rfl) (by kernel_rfl) (fun _ _ _ h => h) (by kernel_rfl) ?_ (by assumption) ?_
      rotate_left
      · (intro w' hSw; (try dsimp only at hSw); go_simp; first | done | with_reducible rfl)
      simp only [Act.put, List.setIfInBounds_toArray, List.set_cons_zero, List.set_cons_succ]
      refine rg_take (v := ?_) 4 rfl (by kernel_rfl) (by kernel_rfl) (by kernel_rfl) (fun _ _ _ h => h) (by kernel_rfl) ?_ (by assumption) ?_
      rotate_left
      · (intro w' hSw; (try dsimp only at hSw); go_simp; first | done | with_reducible rfl)
      simp only [Act.put, List.setIfInBounds_toArray, List.set_cons_zero, List.set_cons_succ]
      refine rg_run 5 rfl (by kernel_rfl) (by kernel_rfl) (fun K hK => ?_)
      go_simp
      refine (HTX.out _).mono ?_
      rintro e w2 ⟨rfl, hb2⟩
      have HB2 := Lib.hid (below_chain hb.out (below_chain (Below.refl _ _).drew hb2 : Below wr.heap.size wr w2))
      have g0 := cell_later HB2.out G0.out
      clear hb hb2 G0
      go_wp2
      clear hHeld
      refine hK.out _ _ (by exact g0) (fun hHeld => ?_)
      clear hK K
      try simp only [Act.put, List.setIfInBounds_toArray, List.set_cons_zero, List.set_cons_succ]
      refine rg_take (v := ?_) 6 rfl (by kernel_rfl) (by kernel_rfl) (by kernel_rfl) (fun _ _ _ h => h) (by kernel_rfl) ?_ (by assumption) ?_
      rotate_left
      · (intro w' hSw; (try dsimp only at hSw); go_simp; first | done | with_reducible rfl)
      simp only [Act.put, List.setIfInBounds_toArray, List.set_cons_zero, List.set_cons_succ]
      refine wpAnyH_done (by kernel_rfl) ?_ _
      clear hHeld
      go_wp2_with (fail)
      go_roundw
      case rel => exact ⟨j + 1, kk + 1, by omega, HK2, by go_num, by go_num, HB2⟩
      case measure => simp [intOf]; omega
    · obtain rfl : j = n := by omega
      go_wp2_with (fail)
      go_ret
      exact ⟨kk, hkk.out, rfl, hb.out⟩
end Go.Proofs.YtackekfjalaacaaGreatDoor
