/- Words, keywords and names on both sides: the walks. Condition: the length; the keywords lie there. -/
import Derived.Test.YteengjcplmjakaaGreatDoorPNm
namespace Go.Proofs.YteengjcplmjakaaGreatDoor
open Go.RowKit

set_option maxRecDepth 100000 in
theorem c_l12Letter (c : UInt8) (w : World) : Calls Tryz.prog 188 #[.int .u8 (c.toNat : Int)] w fun e w' => e = .returned (.bool (lt c)) ∧ w = w' := by
  have h2 := c.toNat_lt
  have HX : Hid (lt c = decide (97 ≤ (c.toNat : Int) ∧ (c.toNat : Int) ≤ 122)) := Lib.hid (by
    unfold lt
    rw [← Bool.decide_and]
    congr 1
    exact propext (by omega))
  go_enter Tryz.func188, Tryz.ntmps188
  go_wp2
  all_goals go_ret
  all_goals (rw [HX.out]; exact ⟨ret_bool (by first | (simp; omega) | (symm; simp; omega) | (simp; done)), rfl⟩)
set_option maxRecDepth 100000 in
theorem c_l12Digit (c : UInt8) (w : World) : Calls Tryz.prog 193 #[.int .u8 (c.toNat : Int)] w fun e w' => e = .returned (.bool (decide (48 ≤ (c.toNat : Int) ∧ (c.toNat : Int) ≤ 57))) ∧ w = w' := by
  have h2 := c.toNat_lt
  go_enter Tryz.func193, Tryz.ntmps193
  go_wp2
  all_goals go_ret
  all_goals exact ⟨ret_bool (by first | (simp; omega) | (symm; simp; omega) | (simp; done)), rfl⟩
set_option maxRecDepth 100000 in
theorem c_l12Inner (c : UInt8) (w : World) : Calls Tryz.prog 187 #[.int .u8 (c.toNat : Int)] w fun e w' => e = .returned (.bool (wb c)) ∧ w = w' := by
  have HX : Hid (wb c = (lt c || decide (48 ≤ (c.toNat : Int) ∧ (c.toNat : Int) ≤ 57) || decide ((c.toNat : Int) = 95))) := Lib.hid (by
    unfold wb lt
    have e1 : (decide (48 ≤ c.toNat) && decide (c.toNat ≤ 57)) = decide (48 ≤ (c.toNat : Int) ∧ (c.toNat : Int) ≤ 57) := by rw [← Bool.decide_and]; congr 1; exact propext (by omega)
    have e2 : (c.toNat == 95) = decide ((c.toNat : Int) = 95) := by
      by_cases h : c.toNat = 95
      · rw [h]; rfl
      · have : (c.toNat == 95) = false := by simpa using h
        rw [this, decide_eq_false (by omega)]
    rw [e1, e2])
  rw [HX.out]
  clear HX
  have HL := Lib.hid (fun w => c_l12Letter c w)
  have HD := Lib.hid (fun w => c_l12Digit c w)
  generalize lt c = a at *
  generalize decide (48 ≤ (c.toNat : Int) ∧ (c.toNat : Int) ≤ 57) = b at *
  have HE : Hid (∀ x : Bool, x = ((c.toNat : Int) == 95) → x = decide ((c.toNat : Int) = 95)) := Lib.hid (fun x h => by
    rw [h]
    by_cases h : (c.toNat : Int) = 95
    · rw [h]; rfl
    · rw [decide_eq_false h]; simpa using h)
  have HE2 := Lib.hid (HE.out _ rfl)
  generalize ((c.toNat : Int) == 95) = d at HE2
  go_enter Tryz.func187, Tryz.ntmps187
  go_wp2_with (fail)
  refine (HL.out _).mono ?_
  rintro e w1 ⟨rfl, rfl⟩
  cases a
  · go_wp2_with (fail)
    refine (HD.out _).mono ?_
    rintro e w2 ⟨rfl, rfl⟩
    cases b
    · go_wp2_with (fail)
      go_ret
      exact ⟨ret_bool (by simp [HE.out _ rfl]), rfl⟩
    · go_wp2_with (fail)
      go_ret
      exact ⟨rfl, rfl⟩
  · go_wp2_with (fail)
    go_ret
    exact ⟨rfl, rfl⟩
set_option maxRecDepth 100000 in
theorem c_l12Word (s : ByteArray) (w : World) (hs : s.size ≤ 1048576) : Calls Tryz.prog 174 #[.string s] w fun e w' => e = .returned (.bool (wordB s)) ∧ Below w.heap.size w w' := by
  have HO := Lib.hid (fun h => word_of (s := s) h)
  have HN := Lib.hid (fun h => word_no (s := s) h)
  have HB := Lib.hid (fun h => word_bad (s := s) h)
  generalize wordB s = R at *
  go_enter Tryz.func174, Tryz.ntmps174
  go_wp2_with (fail)
  go_loopw [3] (fun i wr => ∃ k : Nat, k ≤ s.size ∧ i = .int .i64 k ∧ Hid ((s.data.toList.take k).all wb = true) ∧ Hid (Below w.heap.size w wr)) (fun i _ => s.size - (intOf i).toNat)
  case atStart => exact ⟨0, Nat.zero_le _, rfl, Lib.hid rfl, Lib.hid (Below.refl _ _)⟩
  case round =>
    obtain ⟨k, hk, rfl, ha, hb⟩ := hrel
    by_cases hlt : k < s.size
    · have hz : s.data.toList[k]? = some s[k] := by
        rw [List.getElem?_eq_getElem (by simpa using hlt)]; rfl
      have HZ := Lib.hid hz
      have hk0 : (0 : Int) ≤ (k : Int) := by omega
      have hk1 : (k : Int) < s.size := by omega
      clear hz
      have HI := Lib.hid (fun w => c_l12Inner s[k] w)
      have HT := Lib.hid (fun h : wb s[k] = true => all_take_snoc HZ.out ha.out h)
      have HF := Lib.hid (fun h : wb s[k] = false => all_bad HZ.out h)
      generalize wb s[k] = x at HI HT HF
      go_wp2_with (fail)
      refine (HI.out _).mono ?_
      rintro e w1 ⟨rfl, rfl⟩
      cases x
      · have HR := Lib.hid (HB.out (HF.out (by first | rfl | trivial)))
        go_wp2_with (fail)
        go_ret
        exact ⟨by rw [HR.out]; rfl, hb.out⟩
      · go_wp2_with (fail)
        go_roundw
        case rel => exact ⟨k + 1, by omega, by go_num, Lib.hid (HT.out (by first | rfl | trivial)), hb⟩
        case measure => simp [intOf]; omega
    · obtain rfl : k = s.size := by omega
      have HA : Hid (s.data.toList.all wb = true) := Lib.hid (by have h := ha.out; rwa [List.take_of_length_le (by simp)] at h)
      have HIN := Lib.hid (fun w => c_l01In (s.size : Int) 1 12 w)
      rcases hi : inB (s.size : Int) 1 12 with _ | _
      · have HR := Lib.hid (HN.out hi)
        rw [hi] at HIN
        clear hi
        go_wp2_with (fail)
        refine (HIN.out _).mono ?_
        rintro e w1 ⟨rfl, rfl⟩
        go_wp2_with (fail)
        go_ret
        exact ⟨by rw [HR.out]; rfl, hb.out⟩
      · have hi1 := of_decide_eq_true hi
        have h0 : 0 < s.size := by omega
        have h0i : (0 : Int) < s.size := by omega
        have HR := Lib.hid (HO.out h0)
        rw [hi, HA.out] at HR
        rw [hi] at HIN
        have HL := Lib.hid (fun w => c_l12Letter s[0] w)
        generalize lt s[0] = y at HR HL
        clear hi1 hi
        go_wp2_with (fail)
        refine (HIN.out _).mono ?_
        rintro e w1 ⟨rfl, rfl⟩
        go_wp2_with (fail)
        refine (HL.out _).mono ?_
        rintro e w1 ⟨rfl, rfl⟩
        go_wp2_with (fail)
        go_ret
        exact ⟨by rw [HR.out]; rfl, hb.out⟩
set_option maxRecDepth 100000 in
theorem c_l12Keywords (w : World) : Calls Tryz.prog 189 #[] w fun e w' => ∃ b, e = .returned (.slice (some ⟨b, 0, none⟩) 17 17) ∧ Rd w' (some ⟨b, 0, none⟩) (sts kws) ∧ Below w.heap.size w w' := by
  have HO := Lib.hid (World.ownsRow_lit (e := 9) (size := 1) (base := w.heap.size) w (sts kws).toArray 17 (by simp) (by decide) (by simp [sts, kws]))
  go_enter Tryz.func189, Tryz.ntmps189
  go_wp2_with (fail)
  go_ret
  exact ⟨_, rfl, by have h := Rd.own HO.out; simpa [sts, kws] using h, by (repeat (first | exact Below.refl _ _ | assumption | refine below_alloc ?_ _ | refine below_drewN ?_ _ | refine below_set ?_ _ (by simp; try omega) | refine Below.drew ?_))⟩
set_option maxRecDepth 100000 in
theorem c_l12Keyword (s : ByteArray) (w : World) : Calls Tryz.prog 175 #[.string s] w fun e w' => e = .returned (.int .i64 (ixS kws s)) ∧ Below w.heap.size w w' := by
  have hk17 : kws.length = 17 := rfl
  have HN : Hid (17 = kws.length) := Lib.hid rfl
  have HKW := Lib.hid (fun w => c_l12Keywords w)
  generalize kws = l at *
  clear hk17
  go_enter Tryz.func175, Tryz.ntmps175
  go_wp2_with (fail)
  refine (HKW.out _).mono ?_
  rintro e w1 ⟨b, rfl, hr, hb⟩
  have HB1 := Lib.hid hb
  clear hb
  go_wp2_with (fail)
  go_loopw [4] (fun i wr => ∃ k : Nat, k ≤ 17 ∧ i = .int .i64 k ∧ Hid (¬ s ∈ l.take k) ∧ Hid (Below w1.heap.size w1 wr)) (fun i _ => 17 - (intOf i).toNat)
  case atStart => exact ⟨0, Nat.zero_le _, rfl, Lib.hid (by simp), Lib.hid (by (repeat (first | exact Below.refl _ _ | assumption | refine below_alloc ?_ _ | refine below_drewN ?_ _ | refine below_set ?_ _ (by simp; try omega) | refine Below.drew ?_)))⟩
  case round =>
    obtain ⟨k, hk, rfl, hno, hb⟩ := hrel
    by_cases hlt : k < 17
    · obtain ⟨t, hz⟩ : ∃ z, l[k]? = some z := ⟨_, List.getElem?_eq_getElem (by have := HN.out; omega)⟩
      obtain ⟨b', off, he, _, g0⟩ := (hr.below hb.out).st hz
      simp only [Option.some.injEq, Addr.mk.injEq, and_true] at he
      obtain ⟨rfl, rfl⟩ := he
      rw [Nat.zero_add] at g0
      have hk0 : (0 : Int) ≤ (k : Int) := by omega
      have hk1 : (k : Int) < 17 := by omega
      have HZ := Lib.hid hz
      clear hz hr
      by_cases e : t = s
      · subst e
        have HR := Lib.hid (ixS_at HZ.out hno.out)
        have heq : (t.toList == t.toList) = true := by simp
        go_wp2_with (fail)
        go_ret
        exact ⟨by rw [HR.out]; rfl, below_chain HB1.out hb.out⟩
      · have HNO := Lib.hid (no_snoc HZ.out hno.out e)
        have heq : (t.toList == s.toList) = false := by rw [beq_str]; exact decide_eq_false e
        clear e
        go_wp2_with (fail)
        go_roundw
        case rel => exact ⟨k + 1, by omega, by go_num, HNO, hb⟩
        case measure => simp [intOf]; omega
    · obtain rfl : k = 17 := by omega
      have HR := Lib.hid (ixS_no hno.out (by have := HN.out; omega))
      go_wp2_with (fail)
      go_ret
      exact ⟨by rw [HR.out]; rfl, below_chain HB1.out hb.out⟩
set_option maxRecDepth 100000 in
theorem c_l13Name (s : ByteArray) (w : World) (hs : s.size ≤ 1048576) : Calls Tryz.prog 140 #[.string s] w fun e w' => e = .returned (.bool (nameB s)) ∧ Below w.heap.size w w' := by
  have HW := Lib.hid (fun w => c_l12Word s w hs)
  have HK := Lib.hid (fun w => c_l12Keyword s w)
  have HX : Hid (nameB s = (wordB s && !decide (0 ≤ ixS kws s))) := Lib.hid (by unfold nameB kwB; rw [ixS_nn])
  rw [HX.out]
  clear HX
  generalize wordB s = a at *
  generalize ixS kws s = z at *
  go_enter Tryz.func140, Tryz.ntmps140
  go_wp2_with (fail)
  refine (HW.out _).mono ?_
  rintro e w1 ⟨rfl, hb⟩
  have HB := Lib.hid hb
  clear hb
  cases a
  · go_wp2_with (fail)
    go_ret
    exact ⟨rfl, HB.out⟩
  · go_wp2_with (fail)
    refine (HK.out _).mono ?_
    rintro e w2 ⟨rfl, hb⟩
    have HB2 := Lib.hid (below_chain HB.out hb)
    clear hb
    go_wp2_with (fail)
    go_ret
    refine ⟨ret_bool ?_, HB2.out⟩
    simp <;> first | omega | (by_cases h : z < 0 <;> simp [h] <;> omega)
/-- The program's keywords, as the global holds them. -/
def KwR (w : World) : Prop := Rd w (some ⟨0, 0, none⟩) (sts kws)
theorem KwR.below {w w' : World} (h : KwR w) (hb : Below w.heap.size w w') : KwR w' := Rd.below h hb
set_option maxHeartbeats 1000000 in
set_option maxRecDepth 100000 in
theorem c_isWord (s : ByteArray) (w : World) (hs : s.size ≤ 1048576) : Calls Tryz.prog 163 #[.string s] w fun e w' => e = .returned (.bool (wordB s)) ∧ Below w.heap.size w w' := by
  have HIN := Lib.hid (fun w => c_within (s.size : Int) 1 12 w)
  rcases hi : inB (s.size : Int) 1 12 with _ | _
  · rw [word_no hi]
    rw [hi] at HIN
    clear hi
    go_enter Tryz.func163, Tryz.ntmps163
    go_wp2_with (fail)
    refine (HIN.out _).mono ?_
    rintro e w1 ⟨rfl, rfl⟩
    go_wp2_with (fail)
    go_ret
    exact ⟨rfl, Below.refl _ _⟩
  · have hi1 := of_decide_eq_true hi
    have h0 : 0 < s.size := by omega
    have h0i : (0 : Int) < s.size := by omega
    rw [word_of h0, hi]
    rw [hi] at HIN
    have HL := Lib.hid (fun w => c_IndexByteL s[0] w)
    have HR := Lib.hid (fun w => c_run s w (by omega))
    unfold RunP at HR
    generalize s.data.toList.all wb = a at *
    generalize lt s[0] = y at *
    clear hi1 hi
    go_enter Tryz.func163, Tryz.ntmps163
    go_wp2_with (fail)
    refine (HIN.out _).mono ?_
    rintro e w1 ⟨rfl, rfl⟩
    go_wp2_with (fail)
    refine (HL.out _).mono ?_
    rintro e w1 ⟨n, rfl, hy, rfl⟩
    cases y
    · have hn : ¬ (0 : Int) ≤ n := of_decide_eq_false hy
      clear hy
      go_wp2_with (fail)
      go_ret
      exact ⟨by first | rfl | (simp; done), Below.refl _ _⟩
    · have hn : (0 : Int) ≤ n := of_decide_eq_true hy
      clear hy
      go_wp2_with (fail)
      refine (HR.out _).mono ?_
      rintro e w1 ⟨n2, hn2, rfl, hy, rfl⟩
      have HY := Lib.hid hy
      clear hy
      go_wp2_with (fail)
      go_ret
      refine ⟨ret_bool ?_, Below.refl _ _⟩
      rw [← HY.out]
      simp <;> first | omega | (by_cases h : n2 = s.size <;> simp [h] <;> omega)
set_option maxRecDepth 100000 in
theorem c_IsKeyword (s : ByteArray) (w : World) (hk : KwR w) : Calls Tryz.prog 164 #[.string s] w fun e w' => e = .returned (.bool (kwB s)) ∧ Below w.heap.size w w' := by
  have HC := Lib.hid (c_ContainsS (some ⟨0, 0, none⟩) 17 17 kws s w rfl (by decide) hk)
  unfold kwB
  generalize memS kws s = b at *
  clear hk
  go_enter Tryz.func164, Tryz.ntmps164
  go_wp2_with (fail)
  refine HC.out.mono ?_
  rintro e w1 ⟨rfl, hb⟩
  have HB := Lib.hid hb
  clear hb
  go_wp2_with (fail)
  go_ret
  exact ⟨rfl, HB.out⟩
set_option maxRecDepth 100000 in
theorem c_isName (s : ByteArray) (w : World) (hs : s.size ≤ 1048576) (hk : KwR w) : Calls Tryz.prog 112 #[.string s] w fun e w' => e = .returned (.bool (nameB s)) ∧ Below w.heap.size w w' := by
  have HW := Lib.hid (fun w => c_isWord s w hs)
  have HK := Lib.hid (fun w h => c_IsKeyword s w h)
  have HKR := Lib.hid hk
  clear hk
  unfold nameB
  generalize wordB s = a at *
  generalize kwB s = b at *
  go_enter Tryz.func112, Tryz.ntmps112
  go_wp2_with (fail)
  refine (HW.out _).mono ?_
  rintro e w1 ⟨rfl, hb⟩
  have HB := Lib.hid hb
  clear hb
  cases a
  · go_wp2_with (fail)
    go_ret
    exact ⟨rfl, HB.out⟩
  · go_wp2_with (fail)
    refine (HK.out _ (HKR.out.below HB.out)).mono ?_
    rintro e w2 ⟨rfl, hb⟩
    have HB2 := Lib.hid (below_chain HB.out hb)
    clear hb
    go_wp2_with (fail)
    go_ret
    exact ⟨rfl, HB2.out⟩
end Go.Proofs.YteengjcplmjakaaGreatDoor
