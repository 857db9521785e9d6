/- slices.DeleteFunc over strings with a look into the map. Condition: the lengths. -/
import Derived.Test.YtackekfjalaacaaGreatDoorRbT
import Derived.Test.YtackekfjalaacaaGreatDoorH2
import Derived.Lib.SliceRun
namespace Go.Proofs.YtackekfjalaacaaGreatDoor
open Go.RowKit

/-- A look into the map: not there, or nought. -/
def zrB (L : List En) (s : ByteArray) : Bool := decide ((getE L s).getD 0 = 0)
set_option maxRecDepth 100000 in
theorem c_rb1 (bf bm : Nat) (L : List En) (C : Nat) (s : ByteArray) (w : World) (hs : s.size ≤ maxLen) (kf : w.cell? ⟨bf, 0, none⟩ = some (.map (some bm))) (hm : MpA w bm L C) :
    Calls Tryz.prog 37 #[.string s, .pointer (some ⟨bf, 0, none⟩)] w fun e w' => e = .returned (.bool (zrB L s)) ∧ w' = w := by
  have HM := Lib.hid hm
  have HV : Hid (zrB L s = decide ((getE L s).getD 0 = 0)) := Lib.hid rfl
  generalize zrB L s = R at *
  clear hm
  obtain ⟨z, hz⟩ : ∃ z, (getE L s).getD 0 = z := ⟨_, rfl⟩
  rw [hz] at HV
  go_enter Tryz.func37, Tryz.ntmps37
  by_cases h0 : z = 0
  · subst h0
    obtain rfl : R = true := HV.out
    clear HV
    go_wp2_with (first
      | (at_lookup; refine wpList_lookE1 _ rfl (.tmp 4) (.tmp 5) rfl Tryz.underlying9 Tryz.underlying65 (zero_int _) bm L C rfl HM.out s rfl hs ?_; rw [hz]))
    go_ret
    exact ⟨rfl, rfl⟩
  · have hzb : (z == 0) = false := by simpa using h0
    obtain rfl : R = false := by rw [HV.out]; exact decide_eq_false h0
    clear HV h0
    go_wp2_with (first
      | (at_lookup; refine wpList_lookE1 _ rfl (.tmp 4) (.tmp 5) rfl Tryz.underlying9 Tryz.underlying65 (zero_int _) bm L C rfl HM.out s rfl hs ?_; rw [hz]))
    go_ret
    exact ⟨rfl, rfl⟩
theorem own_less {w : World} {base g n m cap : Nat} {e : TypeId} {xs : List Value} (h : w.ownsRow base e 1 (.slice (some ⟨g, 0, none⟩) n cap) n xs) (hm : m ≤ n) : w.ownsRow base e 1 (.slice (some ⟨g, 0, none⟩) m cap) m (xs.take m) := by
  obtain ⟨h1, h2⟩ := h
  refine ⟨by rw [List.length_take, h1]; omega, .inr ?_⟩
  rcases h2 with ⟨h3, _⟩ | ⟨g', cap', cur, hv, hb, hg, h4, h5, h6, h7⟩
  · simp at h3
  · simp only [Value.slice.injEq, Option.some.injEq, Addr.mk.injEq, and_true, true_and] at hv
    obtain ⟨rfl, rfl⟩ := hv
    refine ⟨_, _, cur, rfl, hb, hg, by omega, h5, h6, ?_⟩
    rw [← h7, List.take_take]
    congr 1
    omega
theorem own_setCells {base g n cap : Nat} {e : TypeId} : ∀ (vs : List Value) (w : World) (xs : List Value) (o i : Nat), w.ownsRow base e 1 (.slice (some ⟨g, 0, none⟩) n cap) n xs → i ≤ o → ∃ ys, (w.setCells g o vs).ownsRow base e 1 (.slice (some ⟨g, 0, none⟩) n cap) n ys ∧ ys.take i = xs.take i ∧ w.grownBy (w.setCells g o vs) (some g)
  | [], w, xs, o, i, h, hi => ⟨xs, h, rfl, World.grownBy.refl _ _⟩
  | v :: vs, w, xs, o, i, h, hi => by
    have h1 := h.stored o v
    obtain ⟨ys, h2, h3, h4⟩ := own_setCells vs _ _ (o + 1) i h1.1 (by omega)
    refine ⟨ys, h2, ?_, grown_trans h1.2 h4⟩
    rw [h3, List.take_set_of_le hi]
theorem idx_parts {pr : ByteArray → Bool} {l : List ByteArray} : (idxI pr l = -1 ∧ ∀ s ∈ l, pr s = false) ∨ ∃ k : Nat, k < l.length ∧ idxI pr l = k ∧ (∀ s ∈ l.take k, pr s = false) ∧ ∃ x, l[k]? = some x ∧ pr x = true := by
  unfold idxI
  cases h : l.findIdx? pr with
  | none => exact .inl ⟨rfl, List.findIdx?_eq_none_iff.1 h⟩
  | some k =>
    obtain ⟨h1, h2, h3⟩ := List.findIdx?_eq_some_iff_getElem.1 h
    refine .inr ⟨k, h1, rfl, fun s hs => ?_, l[k], List.getElem?_eq_getElem h1, h2⟩
    obtain ⟨j, hj, e⟩ := List.getElem_of_mem hs
    rw [List.length_take] at hj
    rw [List.getElem_take] at e
    have := h3 j (by omega)
    rw [e] at this
    simpa using this
theorem jd {J l : List ByteArray} {j k : Nat} (h : J.drop (j - k) = l.drop j) (hk : k ≤ j) {x : ByteArray} (hx : l[j]? = some x) (K : List ByteArray) (hK : K.length = k) : (K ++ J)[j]? = some x := by
  rw [List.getElem?_append_right (by omega), hK]
  have h2 : (J.drop (j - k))[0]? = (l.drop j)[0]? := by rw [h]
  rw [List.getElem?_drop, List.getElem?_drop] at h2
  simpa using h2.trans hx
theorem jd_skip {J l : List ByteArray} {j k : Nat} (h : J.drop (j - k) = l.drop j) (hk : k ≤ j) : J.drop (j + 1 - k) = l.drop (j + 1) := by
  have h2 : (J.drop (j - k)).drop 1 = (l.drop j).drop 1 := by rw [h]
  rw [List.drop_drop, List.drop_drop] at h2
  have e : j + 1 - k = j - k + 1 := by omega
  rw [e]
  exact h2
theorem take_keep {l : List ByteArray} {j : Nat} {x : ByteArray} {p : ByteArray → Bool} (hx : l[j]? = some x) (hp : p x = true) : (l.take (j + 1)).filter p = (l.take j).filter p ++ [x] := by
  rw [List.take_add_one, hx, List.filter_append]
  simp [hp]
theorem take_skip {l : List ByteArray} {j : Nat} {x : ByteArray} {p : ByteArray → Bool} (hx : l[j]? = some x) (hp : p x = false) : (l.take (j + 1)).filter p = (l.take j).filter p := by
  rw [List.take_add_one, hx, List.filter_append]
  simp [hp]
theorem set_at (K J : List ByteArray) (y x : ByteArray) : (sts (K ++ y :: J)).set K.length (.string x) = sts ((K ++ [x]) ++ J) := by
  unfold sts
  rw [List.map_append, List.map_append, List.map_append, List.set_append_right _ _ (by simp)]
  simp
set_option maxHeartbeats 4000000 in
set_option maxRecDepth 100000 in
theorem c_DeleteFunc (bf bm : Nat) (L : List En) (C : Nat) (A : Option Addr) (vn cap : Nat) (l : List ByteArray) (base : Nat) (w : World) (hl : vn ≤ 4000) (hvn : l.length = vn) (hz : ∀ s ∈ l, s.size ≤ maxLen) (kf : w.cell? ⟨bf, 0, none⟩ = some (.map (some bm))) (hm : MpA w bm L C) (hb1 : bf < base) (hb2 : bm < base)
    (ho : w.ownsRow base 9 1 (.slice A vn cap) vn (sts l)) :
    Calls Tryz.prog 35 #[.slice A vn cap, .func (.func 37) #[] #[.pointer (some ⟨bf, 0, none⟩)]] w fun e w' => ∃ n, n = (l.filter fun s => !zrB L s).length ∧ e = .returned (.slice A n cap) ∧ w'.ownsRow base 9 1 (.slice A n cap) n (sts (l.filter fun s => !zrB L s)) ∧ w.grownBy w' (Value.slice A vn cap).ownBlock := by
  have hent := enter_of Tryz.func37 (by kernel_rfl) rfl
  have HI := Lib.hid (c_IndexSc 37 (.pointer (some ⟨bf, 0, none⟩)) (zrB L) A cap vn l w hvn (by omega) (Rd.own ho) (Lib.hid (fun wr t ht hb => (c_rb1 bf bm L C t wr (hz t ht) (cell_later hb kf) (hm.below hb)).mono (by rintro e w2 ⟨rfl, rfl⟩; exact ⟨rfl, Below.refl _ _⟩))) hent)
  have HO := Lib.hid ho
  have HM := Lib.hid hm
  have HKF := Lib.hid kf
  have HZ := Lib.hid hz
  clear ho hm kf hz
  rcases idx_parts (pr := zrB L) (l := l) with ⟨e1, hall⟩ | ⟨k0, hk0, e1, hall, x0, hx0, hp0⟩
  · have HF : Hid (l.filter (fun s => !zrB L s) = l) := Lib.hid (List.filter_eq_self.2 (fun s hs => by simp [hall s hs]))
    rw [e1] at HI
    rw [HF.out]
    clear hall HF
    go_enter Tryz.func35, Tryz.ntmps35
    go_wp2_with (fail)
    refine HI.out.mono ?_
    rintro e w1 ⟨rfl, hb⟩
    have HB := Lib.hid hb
    clear hb HI
    go_wp2_with (fail)
    go_ret
    exact ⟨vn, hvn.symm, rfl, own_below HO.out HB.out, grown_of_below HB.out _⟩
  · have hn0 : 0 < vn := by omega
    obtain ⟨g, cap2, hv, hgb, hgl⟩ := HO.out.form hn0
    simp only [Value.slice.injEq, true_and] at hv
    obtain ⟨rfl, rfl⟩ := hv
    rw [e1] at HI
    have HK0 : Hid ((l.take (k0 + 1)).filter (fun s => !zrB L s) = l.take k0) := Lib.hid (by
      rw [take_skip hx0 (by simp [hp0])]
      exact List.filter_eq_self.2 (fun s hs => by simp [hall s hs]))
    have hkl : (l.take k0).length = k0 := by rw [List.length_take]; omega
    have HKL := Lib.hid hkl
    have HTD : Hid (l.take k0 ++ l.drop k0 = l) := Lib.hid (List.take_append_drop k0 l)
    have HDL : Hid ((l.drop k0).length = vn - k0) := Lib.hid (by rw [List.length_drop]; omega)
    have HLT : Hid ((l.take vn) = l) := Lib.hid (List.take_of_length_le (by omega))
    have HJ0 : Hid ((l.drop k0).drop (k0 + 1 - k0) = l.drop (k0 + 1)) := Lib.hid (by rw [List.drop_drop]; congr 1; omega)
    have hk1 : (0 : Int) ≤ (k0 : Int) := by omega
    have hcap : vn ≤ cap := (own_cap HO.out).1
    clear hall hx0 hp0 e1 hkl
    go_enter Tryz.func35, Tryz.ntmps35
    go_wp2_with (fail)
    refine HI.out.mono ?_
    rintro e w1 ⟨rfl, hb⟩
    have HB := Lib.hid hb
    have HO1 := Lib.hid (own_below HO.out HB.out)
    clear hb HI HO
    have hk2 : ((k0 : Int) == -1) = false := by simp
    go_wp2_with (fail)
    go_loopw [5, 6, 7] (fun iv jv _ wr => ∃ (j kl : Nat) (K J : List ByteArray), j ≤ vn ∧ kl < j ∧ jv = .int .i64 j ∧ iv = .int .i64 kl ∧ Hid (K.length = kl) ∧ Hid (K = (l.take j).filter fun s => !zrB L s) ∧ Hid (J.drop (j - kl) = l.drop j) ∧ Hid (kl + J.length = vn) ∧ Hid (wr.ownsRow base 9 1 (.slice (some ⟨g, 0, none⟩) vn cap) vn (sts (K ++ J))) ∧ Hid (w.grownBy wr (some g))) (fun _ jv _ _ => vn - (intOf jv).toNat)
    case atStart => exact ⟨k0 + 1, k0, l.take k0, l.drop k0, by omega, by omega, by go_num, rfl, HKL, Lib.hid HK0.out.symm, HJ0, Lib.hid (by rw [HDL.out]; omega), Lib.hid (by rw [HTD.out]; exact HO1.out), Lib.hid (grown_of_below HB.out _)⟩
    case round =>
      clear HO1 HB HK0 HKL HTD HDL HJ0
      obtain ⟨j, kl, K, J, hj, hkl, rfl, rfl, hK, hKf, hJd, hJl, ho, hg⟩ := hrel
      have hj0 : (0 : Int) ≤ (j : Int) := by omega
      have hkl0 : (0 : Int) ≤ (kl : Int) := by omega
      have hklj : (kl : Int) < j := by omega
      have hklv : (kl : Int) < vn := by omega
      have KF := Lib.hid (cell_g HKF.out hg.out (fun q hq => by cases hq; show bf ≠ g; omega))
      have MM := Lib.hid (HM.out.kept hg.out (fun hq => by simp only [Option.some.injEq] at hq; omega))
      by_cases hlt : j < vn
      · obtain ⟨x, hx⟩ : ∃ x, l[j]? = some x := ⟨_, List.getElem?_eq_getElem (by omega)⟩
        have hj1 : (j : Int) < vn := by omega
        have hxz := HZ.out x (List.mem_of_getElem? hx)
        have g0 := ho.out.cellAt j (by omega)
        rw [sts_at (jd hJd.out (by omega) hx K hK.out)] at g0
        have HRB := Lib.hid (fun wq (kf : wq.cell? ⟨bf, 0, none⟩ = some (.map (some bm))) hm => c_rb1 bf bm L C x wq hxz kf hm)
        have HJS := Lib.hid (jd_skip hJd.out (by omega : kl ≤ j))
        cases hp : zrB L x
        · -- kept
          have HK2 := Lib.hid (hKf.out ▸ take_keep (p := fun s => !zrB L s) hx (by simp [hp]) : (l.take (j + 1)).filter (fun s => !zrB L s) = K ++ [x])
          obtain ⟨y, J2, rfl⟩ : ∃ y J2, J = y :: J2 := by
            cases J with
            | nil => have := hJl.out; simp at this; omega
            | cons y J2 => exact ⟨y, J2, rfl⟩
          have f0 := ho.out.frozenAt kl
          obtain ⟨old, hold⟩ := own_cell ho.out (j := kl) (by omega)
          have hst := ho.out.stored kl (.string x)
          have hset : (sts (K ++ y :: J2)).set kl (.string x) = sts ((K ++ [x]) ++ J2) := by rw [← hK.out]; exact set_at K J2 y x
          rw [hset] at hst
          have HS1 := Lib.hid hst.1
          have HS2 := Lib.hid (grown_trans hg.out hst.2)
          have HKn : Hid ((K ++ [x]).length = kl + 1) := Lib.hid (by rw [List.length_append, hK.out]; rfl)
          have HJ2 : Hid (J2.drop (j + 1 - (kl + 1)) = l.drop (j + 1)) := Lib.hid (by
            have := HJS.out
            rw [show j + 1 - kl = (j - kl) + 1 by omega, List.drop_succ_cons] at this
            rw [show j + 1 - (kl + 1) = j - kl by omega]
            exact this)
          have HL2 : Hid (kl + 1 + J2.length = vn) := Lib.hid (by have := hJl.out; rw [List.length_cons] at this; omega)
          rw [hp] at HRB
          clear hx hst hset hJd hJl ho hg HJS hp hKf hK
          generalize K ++ [x] = K2 at *
          go_wp2_with (fail)
          refine (HRB.out _ KF.out MM.out).mono ?_
          rintro e wq ⟨rfl, rfl⟩
          clear KF MM HRB
          go_wp2_with (fail)
          go_roundw
          case rel => exact ⟨j + 1, kl + 1, K2, J2, by omega, by omega, by go_num, by go_num, HKn, Lib.hid HK2.out.symm, HJ2, HL2, HS1, HS2⟩
          case measure => simp [intOf]; omega
        · have HK2 := Lib.hid (hKf.out ▸ take_skip (p := fun s => !zrB L s) hx (by simp [hp]) : (l.take (j + 1)).filter (fun s => !zrB L s) = K)
          rw [hp] at HRB
          clear hx hJd hp hKf
          go_wp2_with (fail)
          refine (HRB.out _ KF.out MM.out).mono ?_
          rintro e wq ⟨rfl, rfl⟩
          clear KF MM HRB
          go_wp2_with (fail)
          go_roundw
          case rel => exact ⟨j + 1, kl, K, J, by omega, by omega, by go_num, rfl, hK, Lib.hid HK2.out.symm, HJS, hJl, ho, hg⟩
          case measure => simp [intOf]; omega
      · obtain rfl : j = vn := by omega
        rw [HLT.out] at hKf
        have hcl : ∀ ty, (Builtin.clear_ #[22] ty #[.slice (some ⟨g, kl, none⟩) (j - kl) (cap - kl)]).run Tryz.prog wr = .ok (.tuple #[]) (wr.setCells g kl (List.replicate (j - kl) (.string ⟨#[]⟩))) :=
          fun ty => Lib.run_clear_slice wr _ _ ty _ Tryz.underlying22 (fun _ => by kernel_rfl) rfl rfl g kl _ _ (by omega) (fun t ht => by obtain ⟨u, hu⟩ := own_cell ho.out (j := kl + t) (by omega); rw [hu]; rfl) (fun t ht => ho.out.frozenAt (kl + t))
        obtain ⟨ys, ho2, hys, hg2⟩ := own_setCells (List.replicate (j - kl) (.string ⟨#[]⟩)) wr _ kl kl ho.out (Nat.le_refl _)
        have HO3 := Lib.hid (own_less ho2 (by omega : kl ≤ j))
        have HG3 := Lib.hid (grown_trans hg.out hg2)
        have HYS : Hid (ys.take kl = sts K) := Lib.hid (by rw [hys, ← hK.out]; unfold sts; rw [List.map_append, List.take_left' (by simp)])
        have hncap : ¬ cap = kl := by omega
        have hkc : kl ≤ cap := by omega
        clear ho2 hys hg2 hJd KF MM HLT hJl ho hg
        go_wp2_with (fail)
        go_ret
        refine ⟨kl, by rw [← hKf.out, hK.out], rfl, ?_, HG3.out⟩
        have := HO3.out
        rwa [HYS.out, hKf.out] at this
end Go.Proofs.YtackekfjalaacaaGreatDoor
