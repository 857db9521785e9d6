/- Lists of lists of numbers: the laws' comparison, marks and look at marks. No condition but the sizes. -/
import Derived.Test.YticlpjljcedfmaaMFolS
import Derived.Test.YticlpjljcedfmaaRgH
namespace Go.Proofs.Yticlpjljcedfmaa
open Go.RowKit

set_option maxRecDepth 100000 in
theorem c_eqInt64SS (A A' : Option Addr) (c c' n : Nat) (L : List (List Int)) (w : World) (hn : n = L.length) (hs : n ≤ 1048577) (hl : ∀ l ∈ L, l.length ≤ 1048576) (hr : RdS w A L) (hr' : RdS w A' L) :
    Calls Try.prog 35 #[.slice A n c, .slice A' n c'] w fun e w' => e = .returned (.bool true) ∧ Below w.heap.size w w' := by
  have HN := Lib.hid hn
  have HL := Lib.hid hl
  clear hn hl
  go_enter Try.func35, Try.ntmps35
  go_wp2
  go_loopw [5] (fun i wr => ∃ k : Nat, k ≤ n ∧ i = .int .i64 k ∧ Below w.heap.size w wr) (fun i _ => n - (intOf i).toNat)
  case atStart => exact ⟨0, Nat.zero_le _, rfl, Below.refl _ _⟩
  case round =>
    obtain ⟨k, hk, rfl, hb⟩ := hrel
    by_cases hlt : k < n
    · obtain ⟨l, hz⟩ : ∃ z, L[k]? = some z := ⟨_, List.getElem?_eq_getElem (by have := HN.out; omega)⟩
      have hll := HL.out l (List.mem_of_getElem? hz)
      obtain ⟨b, off, a, d, rfl, _, g0, hv⟩ := (hr.below hb).at hz
      obtain ⟨b', off', a', d', rfl, _, e0, hv'⟩ := (hr'.below hb).at hz
      have HB := Lib.hid hb
      have HC := Lib.hid (fun w' h h' => c_eqInt64S a a' d d' l.length l.length l w' rfl rfl (by omega) h h')
      have H1 := Lib.hid hv
      have H2 := Lib.hid hv'
      have hk0 : (0 : Int) ≤ (k : Int) := by omega
      have hk1 : (k : Int) < (n : Int) := by omega
      clear hz hb hr hr' hv hv'
      generalize l.length = ln at *
      go_wp2
      refine wp_region_held_drew (S := (fun w' => w'.cell? ⟨b, off + k, none⟩ = some (.slice a ln d) ∧ w'.cell? ⟨b', off' + k, none⟩ = some (.slice a' ln d'))) (by kernel_rfl) ?_ (fun hHeld => ?_)
      · exact ⟨g0, e0⟩
      refine rg_take (v := ?_) 0 rfl (by kernel_rfl) (by kernel_rfl) (by kernel_rfl) (fun _ _ _ h => h) (by kernel_rfl) ?_ (by assumption) ?_
      rotate_left
      · (intro w' hSw; (try dsimp only at hSw); go_simp; first | done | with_reducible rfl)
      simp only [Act.put, List.setIfInBounds_toArray, List.set_cons_zero, List.set_cons_succ]
      refine rg_take (v := ?_) 1 rfl (by kernel_rfl) (by kernel_rfl) (by kernel_rfl) (fun _ _ _ h => h) (by kernel_rfl) ?_ (by assumption) ?_
      rotate_left
      · (intro w' hSw; (try dsimp only at hSw); go_simp; first | done | with_reducible rfl)
      simp only [Act.put, List.setIfInBounds_toArray, List.set_cons_zero, List.set_cons_succ]
      refine rg_take (v := ?_) 2 rfl (by kernel_rfl) (by kernel_rfl) (by kernel_rfl) (fun _ _ _ h => h) (by kernel_rfl) ?_ (by assumption) ?_
      rotate_left
      · (intro w' hSw; (try dsimp only at hSw); go_simp; first | done | with_reducible rfl)
      simp only [Act.put, List.setIfInBounds_toArray, List.set_cons_zero, List.set_cons_succ]
      refine rg_take (v := ?_) 3 rfl (by kernel_rfl) (by kernel_rfl) (by kernel_rfl) (fun _ _ _ h => h) (by kernel_rfl) ?_ (by assumption) ?_
      rotate_left
      · (intro w' hSw; (try dsimp only at hSw); go_simp; first | done | with_reducible rfl)
      simp only [Act.put, List.setIfInBounds_toArray, List.set_cons_zero, List.set_cons_succ]
      refine rg_take (v := ?_) 4 rfl (by kernel_rfl) (by kernel_rfl) (by kernel_rfl) (fun _ _ _ h => h) (by kernel_rfl) ?_ (by assumption) ?_
      rotate_left
      · (intro w' hSw; (try dsimp only at hSw); go_simp; first | done | with_reducible rfl)
      simp only [Act.put, List.setIfInBounds_toArray, List.set_cons_zero, List.set_cons_succ]
      refine rg_take (v := ?_) 5 rfl (by kernel_rfl) (by kernel_rfl) (by kernel_rfl) (fun _ _ _ h => h) (by kernel_rfl) ?_ (by assumption) ?_
      rotate_left
      · (intro w' hSw; (try dsimp only at hSw); go_simp; first | done | with_reducible rfl)
      simp only [Act.put, List.setIfInBounds_toArray, List.set_cons_zero, List.set_cons_succ]
      refine rg_take (v := ?_) 6 rfl (by kernel_rfl) (by kernel_rfl) (by kernel_rfl) (fun _ _ _ h => h) (by kernel_rfl) ?_ (by assumption) ?_
      rotate_left
      · (intro w' hSw; (try dsimp only at hSw); go_simp; first | done | with_reducible rfl)
      simp only [Act.put, List.setIfInBounds_toArray, List.set_cons_zero, List.set_cons_succ]
      refine rg_take (v := ?_) 7 rfl (by kernel_rfl) (by kernel_rfl) (by kernel_rfl) (fun _ _ _ h => h) (by kernel_rfl) ?_ (by assumption) ?_
      rotate_left
      · (intro w' hSw; (try dsimp only at hSw); go_simp; first | done | with_reducible rfl)
      simp only [Act.put, List.setIfInBounds_toArray, List.set_cons_zero, List.set_cons_succ]
      refine rg_run 8 rfl (by kernel_rfl) (by kernel_rfl) (fun K hK => ?_)
      go_simp
      refine (HC.out _ H1.out.drew H2.out.drew).mono ?_
      rintro e w2 ⟨rfl, hb⟩
      have HB2 := Lib.hid (below_chain (by exact HB.out.drew) hb)
      replace g0 := cell_later hb (by exact g0)
      replace e0 := cell_later hb (by exact e0)
      clear hb
      go_wp2
      clear hHeld
      refine hK.out _ _ ⟨g0, e0⟩ (fun hHeld => ?_)
      clear hK K
      try simp only [Act.put, List.setIfInBounds_toArray, List.set_cons_zero, List.set_cons_succ]
      refine rg_take (v := ?_) 9 rfl (by kernel_rfl) (by kernel_rfl) (by kernel_rfl) (fun _ _ _ h => h) (by kernel_rfl) ?_ (by assumption) ?_
      rotate_left
      · (intro w' hSw; (try dsimp only at hSw); go_simp; first | done | with_reducible rfl)
      simp only [Act.put, List.setIfInBounds_toArray, List.set_cons_zero, List.set_cons_succ]
      refine wpAnyH_done (by kernel_rfl) ?_ _
      clear hHeld
      go_wp2
      go_roundw
      case rel => exact ⟨k + 1, by omega, by go_num, HB2.out⟩
      case measure => simp [intOf]; omega
    · obtain rfl : k = n := by omega
      go_wp2
      go_ret
      exact ⟨rfl, hb⟩
/-- The marks of lists, the first of them k. -/
def mkS : Int → List (List Int) → List (List Int)
  | _, [] => []
  | k, l :: L => markL k l.length :: mkS (k + l.length) L
def mkN : List (List Int) → Nat
  | [] => 0
  | l :: L => l.length + mkN L
theorem mkN_snoc : ∀ (L : List (List Int)) (l : List Int), mkN (L ++ [l]) = mkN L + l.length
  | [], l => by simp [mkN]
  | a :: L, l => by simp only [List.cons_append, mkN, mkN_snoc L l]; omega
theorem mkS_snoc : ∀ (k : Int) (L : List (List Int)) (l : List Int), mkS k (L ++ [l]) = mkS k L ++ [markL (k + mkN L) l.length]
  | k, [], l => by simp [mkS, mkN]
  | k, a :: L, l => by
    simp only [List.cons_append, mkS, mkN, mkS_snoc (k + a.length) L l]
    rw [show k + (a.length : Int) + (mkN L : Int) = k + ((a.length + mkN L : Nat) : Int) by omega]
theorem mkS_len : ∀ (k : Int) (L : List (List Int)), (mkS k L).length = L.length
  | _, [] => rfl
  | k, a :: L => by simp [mkS, mkS_len (k + a.length) L]
theorem mkS_at : ∀ (k : Int) (L : List (List Int)) (j : Nat) (l : List Int), L[j]? = some l → (mkS k L)[j]? = some (markL (k + mkN (L.take j)) l.length)
  | _, [], _, _, h => by simp at h
  | k, a :: L, 0, l, h => by
    simp only [List.getElem?_cons_zero, Option.some.injEq] at h
    subst h
    simp [mkS, mkN]
  | k, a :: L, j + 1, l, h => by
    simp only [List.getElem?_cons_succ] at h
    have := mkS_at (k + a.length) L j l h
    simp only [mkS, List.getElem?_cons_succ, List.take_succ_cons, mkN, this]
    rw [show k + (a.length : Int) + (mkN (L.take j) : Int) = k + ((a.length + mkN (L.take j) : Nat) : Int) by omega]
/-- One of the lists is written anew. -/
theorem OwnS.turn {w : World} {base hi j : Nat} {A : Option Addr} {n c : Nat} {L : List (List Int)} {l : List Int} (h : OwnS w base hi (.slice A n c) L) (hj : L[j]? = some l) :
    ∃ a d, (∀ g, A = some ⟨g, 0, none⟩ → w.cell? ⟨g, j, none⟩ = some (.slice a l.length d)) ∧ w.ownsRow base 2 1 (.slice a l.length d) l.length (ints l) ∧ (∀ q, (Value.slice a l.length d).ownBlock = some q → q < hi) ∧
      ∀ (w' : World) (l' : List Int), l'.length = l.length → w'.ownsRow base 2 1 (.slice a l.length d) l.length (ints l') → w.grownBy w' (Value.slice a l.length d).ownBlock → OwnS w' base hi (.slice A n c) (L.set j l') := by
  obtain ⟨ds, rfl, h1, h2, h3⟩ := h
  rw [List.getElem?_map, Option.map_eq_some_iff] at hj
  obtain ⟨x, hx, rfl⟩ := hj
  obtain ⟨hjl, hxe⟩ := List.getElem?_eq_some_iff.1 hx
  refine ⟨x.a, x.c, fun g hg => ?_, (h2 x (List.mem_of_getElem? hx)).1, (h2 x (List.mem_of_getElem? hx)).2, fun w' l' hl' ho hg => ?_⟩
  · subst hg
    have u : (rowsC ds)[j]? = some x.v := by simp [rowsC, hx]
    have hc := h1.cells (g := g) rfl _ _ u
    have hadd : (⟨g, 0, none⟩ : Addr).add j = ⟨g, 0 + j, none⟩ := by unfold Addr.add; split <;> simp_all
    rw [hadd, Nat.zero_add] at hc
    exact hc
  · have hv : (⟨l', x.a, x.c⟩ : IvD).v = x.v := by simp [IvD.v, hl']
    have hrows : rowsC (ds.set j ⟨l', x.a, x.c⟩) = rowsC ds := by
      unfold rowsC
      rw [List.map_set, hv]
      apply List.ext_getElem?
      intro i
      rw [List.getElem?_set]
      split
      · rename_i e
        subst e
        simp [hjl, hxe]
      · rfl
    refine ⟨ds.set j ⟨l', x.a, x.c⟩, by rw [List.map_set], ?_, fun d hd => ?_, ?_⟩
    · rw [hrows]
      simp only [List.length_set]
      exact own_keep h1 (h2 x (List.mem_of_getElem? hx)).1 (by decide) hg
    · obtain ⟨i, hi⟩ := List.mem_iff_getElem?.1 hd
      rw [List.getElem?_set] at hi
      split at hi
      · rename_i e
        simp only [Option.some.injEq] at hi
        subst hi
        rw [hv]
        refine ⟨?_, (h2 x (List.mem_of_getElem? hx)).2⟩
        dsimp only
        rw [hl']
        exact ho
      · rename_i hne
        have hm := List.mem_of_getElem? hi
        refine ⟨(h2 d hm).1.kept hg ?_, (h2 d hm).2⟩
        rcases hb : d.v.ownBlock with _ | q
        · exact .inl rfl
        · refine .inr fun h' => ?_
          obtain ⟨hil, hie⟩ := List.getElem?_eq_some_iff.1 hi
          rw [List.pairwise_iff_getElem] at h3
          have hxb : x.v.ownBlock = some q := h'.symm
          rcases Nat.lt_or_gt_of_ne hne with hlt | hlt
          · have := h3 j i hjl hil hlt q (by rw [hxe]; exact hxb)
            rw [hie] at this
            exact this hb
          · have := h3 i j hil hjl hlt q (by rw [hie]; exact hb)
            rw [hxe] at this
            exact this hxb
    · rw [List.pairwise_iff_getElem] at h3 ⊢
      have hvi : ∀ i (hi : i < (ds.set j ⟨l', x.a, x.c⟩).length), (ds.set j ⟨l', x.a, x.c⟩)[i].v = (ds[i]'(by simpa using hi)).v := by
        intro i hi
        rw [List.getElem_set]
        split
        · rename_i e
          subst e
          rw [hv, hxe]
        · rfl
      intro i k hi hk hlt q hq
      rw [hvi] at hq ⊢
      exact h3 i k (by simpa using hi) (by simpa using hk) hlt q hq
theorem Mk.narrow {lo hi hi2 : Nat} {w w' : World} {A : Option Addr} {n c : Nat} (h : Mk lo hi2 w w') (hg : w.grownBy w' (Value.slice A n c).ownBlock) (hq : ∀ q, (Value.slice A n c).ownBlock = some q → q < hi) : Mk lo hi w w' := by
  refine ⟨h.os, h.tape, h.output, h.size, fun k hk ho => ?_, h.shape⟩
  by_cases e : (Value.slice A n c).ownBlock = some k
  · have := hq k e
    exact h.block k hk (.inl (by omega))
  · exact hg.block k hk fun h' => e h'.symm
theorem mix_mark {k : Int} {L : List (List Int)} {j : Nat} {l : List Int} (h : L[j]? = some l) : (mkS k (L.take j) ++ L.drop j).set j (markL (k + mkN (L.take j)) l.length) = mkS k (L.take (j + 1)) ++ L.drop (j + 1) := by
  obtain ⟨hj, e⟩ := List.getElem?_eq_some_iff.1 h
  have hd : L.drop j = l :: L.drop (j + 1) := by rw [List.drop_eq_getElem_cons hj, e]
  have ht : L.take (j + 1) = L.take j ++ [l] := by rw [List.take_add_one, h]; rfl
  have hl : (mkS k (L.take j)).length = j := by rw [mkS_len, List.length_take]; omega
  rw [hd, ht, mkS_snoc, List.set_append_right _ _ (by omega), hl, Nat.sub_self, List.set_cons_zero, List.append_assoc]
  rfl
theorem mix_at {k : Int} {L : List (List Int)} {j : Nat} {l : List Int} (h : L[j]? = some l) : (mkS k (L.take j) ++ L.drop j)[j]? = some l := by
  obtain ⟨hj, e⟩ := List.getElem?_eq_some_iff.1 h
  have hl : (mkS k (L.take j)).length = j := by rw [mkS_len, List.length_take]; omega
  rw [List.getElem?_append_right (by omega), hl, Nat.sub_self, List.getElem?_drop, Nat.add_zero, h]
theorem mkN_take {L : List (List Int)} {j : Nat} {l : List Int} (h : L[j]? = some l) : mkN (L.take (j + 1)) = mkN (L.take j) + l.length := by
  have ht : L.take (j + 1) = L.take j ++ [l] := by rw [List.take_add_one, h]; rfl
  rw [ht, mkN_snoc]
theorem mkN_le : ∀ (L : List (List Int)) (j : Nat), mkN (L.take j) ≤ mkN L
  | [], j => by simp
  | a :: L, 0 => by simp [mkN]
  | a :: L, j + 1 => by
    have := mkN_le L j
    simp only [List.take_succ_cons, mkN]
    omega
set_option maxHeartbeats 1000000 in
set_option maxRecDepth 100000 in
theorem c_markInt64SS (A : Option Addr) (c n base hi : Nat) (k : Nat) (L : List (List Int)) (w : World) (hn : n = L.length) (hs : n ≤ 1048577) (hk : k + mkN L ≤ 100000000) (ho : OwnS w base hi (.slice A n c) L) :
    Calls Try.prog 36 #[.slice A n c, .int .i64 k] w fun e w' => e = .returned (.int .i64 ((k + mkN L : Nat) : Int)) ∧ OwnS w' base hi (.slice A n c) (mkS k L) ∧ Mk base hi w w' := by
  have HN := Lib.hid hn
  have HO := Lib.hid ho
  clear hn ho
  go_enter Try.func36, Try.ntmps36
  go_wp2
  go_loopw [1, 5] (fun t i wr => ∃ j kk : Nat, j ≤ n ∧ i = .int .i64 j ∧ t = .int .i64 kk ∧ Hid (kk = k + mkN (L.take j)) ∧ Hid (OwnS wr base hi (.slice A n c) (mkS k (L.take j) ++ L.drop j)) ∧ Mk base hi w wr) (fun _ i _ => n - (intOf i).toNat)
  case atStart => exact ⟨0, k, Nat.zero_le _, rfl, rfl, Lib.hid (by simp [mkN]), Lib.hid (by simpa [mkS] using HO.out), Mk.refl _ _ _⟩
  case round =>
    obtain ⟨j, kk, hj, rfl, rfl, hkk, ho, hm⟩ := hrel
    by_cases hlt : j < n
    · obtain ⟨l, hz⟩ : ∃ z, L[j]? = some z := ⟨_, List.getElem?_eq_getElem (by have := HN.out; omega)⟩
      have hle := mkN_le L (j + 1)
      rw [mkN_take hz] at hle
      have hb1 : kk + l.length ≤ 100000000 := by have := hkk.out; omega
      have HKN := Lib.hid (show kk + l.length = k + mkN (L.take (j + 1)) by rw [mkN_take hz, hkk.out]; omega)
      have hform := ho.out.form1 (by rw [List.length_append, mkS_len, List.length_take, List.length_drop]; have := HN.out; omega)
      obtain ⟨g, c2, hv⟩ := hform
      simp only [Value.slice.injEq] at hv
      obtain ⟨rfl, hx1, hx2⟩ := hv
      clear hx1 hx2
      obtain ⟨a, d, hc, hrow, hq, hup⟩ := ho.out.turn (mix_at (k := (k : Int)) hz)
      have g0 := hc g rfl
      have HRW := Lib.hid hrow
      have HQ := Lib.hid hq
      have HUP := Lib.hid hup
      have HM := Lib.hid hm
      have HZ := Lib.hid hz
      clear hc hrow hq hup hz hm hle
      generalize hll : l.length = ll at *
      have HLL := Lib.hid hll
      clear hll
      go_wp2_with (fail)
      refine (c_markInt64S _ _ _ _ _ kk _ (by omega) (by omega) HRW.out).mono ?_
      rintro e w2 ⟨rfl, hmk, hg⟩
      have HM2 := Lib.hid (HM.out.trans ((Mk.of_grown hg HRW.out ⟨_, hmk⟩).narrow hg HQ.out))
      have HO2 := Lib.hid (show OwnS w2 base hi (.slice (some ⟨g, 0, none⟩) n c) (mkS k (L.take (j + 1)) ++ L.drop (j + 1)) by
        have h5 := HUP.out w2 (markL (kk : Int) ll) (markL_length _ _) hmk hg
        have e := mix_mark (k := (k : Int)) HZ.out
        rw [HLL.out, show (k : Int) + (mkN (L.take j) : Int) = (kk : Int) by have := hkk.out; omega] at e
        rw [e] at h5
        exact h5)
      clear hmk hg
      go_wp2
      go_roundw
      case rel => exact ⟨j + 1, kk + ll, by omega, by go_num, by go_num, HKN, HO2, HM2.out⟩
      case measure => simp [intOf]; omega
    · obtain rfl : j = n := by omega
      have hA := ho.out
      have hK := hkk.out
      rw [List.take_of_length_le (by have := HN.out; omega)] at hA hK
      rw [List.drop_eq_nil_of_le (by have := HN.out; omega), List.append_nil] at hA
      have HA := Lib.hid hA
      have HK := Lib.hid hK
      have HM := Lib.hid hm
      clear hA hK ho hkk hm
      go_wp2
      go_ret
      exact ⟨ret_int (by rw [HK.out]), HA.out, HM.out⟩
set_option maxHeartbeats 1000000 in
set_option maxRecDepth 100000 in
theorem c_heldInt64SS (A : Option Addr) (c n : Nat) (k : Nat) (L : List (List Int)) (w : World) (hn : n = L.length) (hs : n ≤ 1048577) (hk : k + mkN L ≤ 100000000) (hr : RdS w A (mkS k L)) :
    Calls Try.prog 37 #[.slice A n c, .int .i64 k] w fun e w' => e = .returned (.int .i64 ((k + mkN L : Nat) : Int)) ∧ Below w.heap.size w w' := by
  have HN := Lib.hid hn
  clear hn
  go_enter Try.func37, Try.ntmps37
  go_wp2
  go_loopw [1, 5] (fun t i wr => ∃ j kk : Nat, j ≤ n ∧ i = .int .i64 j ∧ t = .int .i64 kk ∧ Hid (kk = k + mkN (L.take j)) ∧ Below w.heap.size w wr) (fun _ i _ => n - (intOf i).toNat)
  case atStart => exact ⟨0, k, Nat.zero_le _, rfl, rfl, Lib.hid (by simp [mkN]), Below.refl _ _⟩
  case round =>
    obtain ⟨j, kk, hj, rfl, rfl, hkk, hb⟩ := hrel
    by_cases hlt : j < n
    · obtain ⟨l, hz⟩ : ∃ z, L[j]? = some z := ⟨_, List.getElem?_eq_getElem (by have := HN.out; omega)⟩
      have hle := mkN_le L (j + 1)
      rw [mkN_take hz] at hle
      have hb1 : kk + l.length ≤ 100000000 := by have := hkk.out; omega
      have HKN := Lib.hid (show kk + l.length = k + mkN (L.take (j + 1)) by rw [mkN_take hz, hkk.out]; omega)
      have hat := mkS_at (k : Int) L j l hz
      rw [show (k : Int) + (mkN (L.take j) : Int) = (kk : Int) by have := hkk.out; omega] at hat
      obtain ⟨b, off, a, d, rfl, _, g0, hv⟩ := (hr.below hb).at hat
      rw [markL_length] at g0
      have HVV := Lib.hid hv
      have HBE := Lib.hid hb
      clear hz hle hat hv hb hr
      generalize l.length = ll at *
      go_wp2_with (fail)
      refine (c_heldInt64S _ _ _ kk _ (by omega) (by omega) HVV.out).mono ?_
      rintro e w2 ⟨rfl, hb⟩
      have HB2 := Lib.hid (below_chain HBE.out hb)
      have hp : (0 : Int) ≤ (kk : Int) + (ll : Int) := by omega
      clear hb
      go_wp2
      go_roundw
      case rel => exact ⟨j + 1, kk + ll, by omega, by go_num, by go_num, HKN, HB2.out⟩
      case measure => simp [intOf]; omega
    · obtain rfl : j = n := by omega
      have hK := hkk.out
      rw [List.take_of_length_le (by have := HN.out; omega)] at hK
      have HK := Lib.hid hK
      have HB := Lib.hid hb
      clear hK hkk hb
      go_wp2
      go_ret
      exact ⟨ret_int (by rw [HK.out]), HB.out⟩
end Go.Proofs.Yticlpjljcedfmaa
