/- The name of a rule, on both sides. No condition. -/
import Derived.Test.YtgpmglfcdbpgkaaGreatDoorIxB
import Derived.Test.YtgpmglfcdbpgkaaGreatDoorMHas
namespace Go.Proofs.YtgpmglfcdbpgkaaGreatDoor
open Go.RowKit

def wbs : List UInt8 := [97, 98, 99, 100, 101, 102, 103, 104, 105, 106, 107, 108, 109, 110, 111, 112, 113, 114, 115, 116, 117, 118, 119, 120, 121, 122, 48, 49, 50, 51, 52, 53, 54, 55, 56, 57, 95]
def wb (c : UInt8) : Bool := (97 ≤ c.toNat && c.toNat ≤ 122) || (48 ≤ c.toNat && c.toNat ≤ 57) || c.toNat == 95
theorem indexByte_mem (l : List UInt8) (c : UInt8) : decide (0 ≤ Lib.indexByte l c) = l.contains c := by
  induction l with
  | nil => rfl
  | cons b l ih =>
    have := Lib.indexByte_ge l c
    unfold Lib.indexByte
    rw [List.contains_cons]
    by_cases e : b = c
    · subst e; simp
    · have e' : (b == c) = false := by simpa using e
      have e2 : (c == b) = false := by simp; exact fun h => e h.symm
      rw [e', e2, Bool.false_or, ← ih]
      simp only [Bool.false_eq_true, if_false]
      by_cases h : Lib.indexByte l c = -1
      · simp [h]
      · rw [if_neg (by simpa using h)]
        simp
        omega
theorem wbs_wb : ∀ n : Fin 256, wbs.contains (UInt8.ofNat n.val) = wb (UInt8.ofNat n.val) := by decide +kernel
theorem wbs_eq (c : UInt8) : decide (0 ≤ Lib.indexByte wbs c) = wb c := by
  rw [indexByte_mem]
  have := wbs_wb ⟨c.toNat, c.toNat_lt⟩
  simpa using this
def nmB (s : ByteArray) : Bool := inB s.size 1 16 && s.data.toList.all wb
def wbsB : ByteArray := ⟨#[97, 98, 99, 100, 101, 102, 103, 104, 105, 106, 107, 108, 109, 110, 111, 112, 113, 114, 115, 116, 117, 118, 119, 120, 121, 122, 48, 49, 50, 51, 52, 53, 54, 55, 56, 57, 95]⟩
theorem c_IndexByteW (c : UInt8) (w : World) : Calls Tryz.prog 127 #[.string ⟨#[97, 98, 99, 100, 101, 102, 103, 104, 105, 106, 107, 108, 109, 110, 111, 112, 113, 114, 115, 116, 117, 118, 119, 120, 121, 122, 48, 49, 50, 51, 52, 53, 54, 55, 56, 57, 95]⟩, .int .u8 c.toNat] w
    fun e w' => ∃ n : Int, e = .returned (.int .i64 n) ∧ decide (0 ≤ n) = wb c ∧ w = w' := by
  refine (c_IndexByte wbsB c.toNat w).mono ?_
  rintro e w' ⟨he, hw⟩
  refine ⟨_, he, ?_, hw⟩
  have e1 : (c.toNat : Int).toNat.toUInt8 = c := by simp
  rw [e1]
  exact wbs_eq c
theorem all_take_snoc {l : List UInt8} {p : UInt8 → Bool} {k : Nat} {t : UInt8} (hz : l[k]? = some t) (h : (l.take k).all p = true) (h2 : p t = true) : (l.take (k + 1)).all p = true := by
  rw [List.take_add_one, List.all_append, h, hz]
  simp [h2]
theorem all_bad {l : List UInt8} {p : UInt8 → Bool} {k : Nat} {t : UInt8} (hz : l[k]? = some t) (h2 : p t = false) : l.all p = false := by
  rw [List.all_eq_false]
  exact ⟨t, List.mem_of_getElem? hz, by simp [h2]⟩
set_option maxHeartbeats 2000000 in
set_option maxRecDepth 100000 in
theorem c_l20Name (s : ByteArray) (w : World) (hs : s.size ≤ 9223372036854775807) :
    Calls Tryz.prog 107 #[.string s] w fun e w' => e = .returned (.bool (nmB s)) ∧ w = w' := by
  have HB0 := Lib.hid (show nmB s = (inB s.size 1 16 && s.data.toList.all wb) from rfl)
  generalize nmB s = R at HB0 ⊢
  go_enter Tryz.func107, Tryz.ntmps107
  go_wp2
  go_loop [3] (fun i => ∃ k : Nat, k ≤ s.size ∧ i = .int .i64 k ∧ Hid ((s.data.toList.take k).all wb = true)) (fun i => s.size - (intOf i).toNat)
  case atStart => exact ⟨0, Nat.zero_le _, rfl, Lib.hid rfl⟩
  case round =>
    obtain ⟨k, hk, rfl, ha⟩ := hrel
    by_cases hlt : k < s.size
    · have hz : s.data.toList[k]? = some s[k] := by
        rw [List.getElem?_eq_getElem (by simpa using hlt)]; rfl
      have HZ := Lib.hid hz
      clear hz
      have HX : Hid (((s[k].toNat : Int) < 97 ∨ 122 < (s[k].toNat : Int)) ∧ ((s[k].toNat : Int) < 48 ∨ 57 < (s[k].toNat : Int)) ∧ ((s[k].toNat : Int) < 95 ∨ 95 < (s[k].toNat : Int)) ↔ wb s[k] = false) := Lib.hid (by
        simp only [wb, Bool.or_eq_false_iff, Bool.and_eq_false_iff, decide_eq_false_iff_not, beq_eq_false_iff_ne]
        omega)
      have HT := Lib.hid (fun h : wb s[k] = true => all_take_snoc HZ.out ha.out h)
      have HF := Lib.hid (fun h : wb s[k] = false => show R = false by rw [HB0.out, all_bad HZ.out h, Bool.and_false])
      have h5 : ((s[k].toNat : Int) != 95) = true ∧ ((s[k].toNat : Int) < 95 ∨ 95 < (s[k].toNat : Int)) ∨ ((s[k].toNat : Int) != 95) = false ∧ 95 ≤ (s[k].toNat : Int) ∧ (s[k].toNat : Int) ≤ 95 := by
        by_cases e : (s[k].toNat : Int) = 95
        · right; refine ⟨?_, by omega, by omega⟩; rw [e]; rfl
        · left; refine ⟨?_, by omega⟩; simpa using e
      rcases h5 with ⟨h5, h6⟩ | ⟨h5, h6, h7⟩
      all_goals
        go_wp2
        all_goals first
          | (go_ret
             exact ⟨ret_bool (HF.out (HX.out.1 (by omega))).symm, rfl⟩)
          | (go_round
             case rel => exact ⟨k + 1, by omega, by go_num, Lib.hid (HT.out (by cases h : wb s[k] with | true => rfl | false => exact absurd (HX.out.2 h) (by omega)))⟩
             case measure => simp [intOf]; omega)
          | (exfalso; omega)
    · have : k = s.size := by omega
      subst this
      have hA := ha.out
      rw [List.take_of_length_le (by simp)] at hA
      have HR := Lib.hid (show R = inB s.size 1 16 by rw [HB0.out, hA, Bool.and_true])
      clear hA
      go_wp2_with (first
        | (go_at_call 50
           refine (c_l01In _ _ _ _).mono ?_
           rintro e w' ⟨rfl, rfl⟩)
        )
      go_ret
      exact ⟨ret_bool HR.out.symm, rfl⟩
/-- What run hands back: how many bytes are those of a word. -/
def RunP (s : ByteArray) (w : World) (e : Ending) (w' : World) : Prop := ∃ n : Nat, n ≤ s.size ∧ e = .returned (.int .i64 n) ∧ decide (n = s.size) = s.data.toList.all wb ∧ w = w'
set_option maxRecDepth 100000 in
theorem c_run (s : ByteArray) (w : World) (hs : s.size ≤ 9223372036854775807) :
    Calls Tryz.prog 110 #[.string s, .int .i64 0, .string ⟨#[97, 98, 99, 100, 101, 102, 103, 104, 105, 106, 107, 108, 109, 110, 111, 112, 113, 114, 115, 116, 117, 118, 119, 120, 121, 122, 48, 49, 50, 51, 52, 53, 54, 55, 56, 57, 95]⟩] w (RunP s w) := by
  have HIB := Lib.hid (fun c w => c_IndexByteW c w)
  go_enter Tryz.func110, Tryz.ntmps110
  go_wp2
  go_loop [7] (fun i => ∃ k : Nat, k ≤ s.size ∧ i = .int .i64 k ∧ Hid ((s.data.toList.take k).all wb = true)) (fun i => s.size - (intOf i).toNat)
  case atStart => exact ⟨0, Nat.zero_le _, rfl, Lib.hid rfl⟩
  case round =>
    obtain ⟨k, hk, rfl, ha⟩ := hrel
    by_cases hlt : k < s.size
    · have hz : s.data.toList[k]? = some s[k] := by
        rw [List.getElem?_eq_getElem (by simpa using hlt)]; rfl
      have HZ := Lib.hid hz
      clear hz
      rcases hw : wb s[k] with _ | _
      · have HR := Lib.hid (show decide (k = s.size) = s.data.toList.all wb by rw [all_bad HZ.out hw]; simp; omega)
        have HW := Lib.hid hw
        clear hw
        go_wp2_with (fail)
        refine (HIB.out s[k] _).mono ?_
        rintro e w' ⟨n, rfl, hn, rfl⟩
        rw [HW.out] at hn
        have hn2 : n < 0 := by simpa using hn
        clear hn
        go_wp2
        go_ret
        exact ⟨k, hk, rfl, HR.out, rfl⟩
      · have HA := Lib.hid (all_take_snoc HZ.out ha.out hw)
        have HW := Lib.hid hw
        clear hw
        go_wp2_with (fail)
        refine (HIB.out s[k] _).mono ?_
        rintro e w' ⟨n, rfl, hn, rfl⟩
        rw [HW.out] at hn
        have hn2 : 0 ≤ n := by simpa using hn
        clear hn
        go_wp2
        go_round
        case rel => exact ⟨k + 1, by omega, by go_num, HA⟩
        case measure => simp [intOf]; omega
    · have : k = s.size := by omega
      subst this
      have hA := ha.out
      rw [List.take_of_length_le (by simp)] at hA
      have HR := Lib.hid hA
      clear hA
      go_wp2
      go_ret
      exact ⟨s.size, Nat.le_refl _, rfl, by rw [HR.out]; simp, rfl⟩
theorem c_isRuleName (s : ByteArray) (w : World) (hs : s.size ≤ 9223372036854775807) :
    Calls Tryz.prog 91 #[.string s] w fun e w' => e = .returned (.bool (nmB s)) ∧ w = w' := by
  have HB0 := Lib.hid (show nmB s = (inB s.size 1 16 && s.data.toList.all wb) from rfl)
  have HRU := Lib.hid (fun w => c_run s w hs)
  generalize nmB s = R at HB0 ⊢
  rcases hi : inB s.size 1 16 with _ | _
  · have e := HB0.out
    rw [hi, Bool.false_and] at e
    subst e
    clear HB0
    go_enter Tryz.func91, Tryz.ntmps91
    go_wp2_with (first
      | (go_at_call 45
         refine (c_within _ _ _ _).mono ?_
         rintro e w' ⟨rfl, rfl⟩)
      )
    go_ret
    exact ⟨rfl, rfl⟩
  · have e := HB0.out
    rw [hi, Bool.true_and] at e
    have HE := Lib.hid e
    clear HB0 e
    go_enter Tryz.func91, Tryz.ntmps91
    go_wp2_with (first
      | (go_at_call 45
         refine (c_within _ _ _ _).mono ?_
         rintro e w' ⟨rfl, rfl⟩)
      )
    refine (HRU.out _).mono ?_
    rintro e w' ⟨n, hn, rfl, hd, rfl⟩
    have HD := Lib.hid (hd.trans HE.out.symm)
    clear hd
    go_wp2
    go_ret
    exact ⟨ret_bool (by rw [← HD.out]; exact decide_eq_decide.2 (by omega)), rfl⟩
end Go.Proofs.YtgpmglfcdbpgkaaGreatDoor
