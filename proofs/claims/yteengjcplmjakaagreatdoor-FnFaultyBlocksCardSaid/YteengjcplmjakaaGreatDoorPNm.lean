/- Words, keywords and names on both sides, exactly (printed by PNm.py). Condition: the length; the keywords lie there. -/
import Derived.Test.YteengjcplmjakaaGreatDoorPTo
import Derived.Test.YteengjcplmjakaaGreatDoorIxB
namespace Go.Proofs.YteengjcplmjakaaGreatDoor
open Go.RowKit

def inB (x lo hi : Int) : Bool := decide (lo ≤ x ∧ x ≤ hi)
theorem c_within (x lo hi : Int) (w : World) : Calls Tryz.prog 52 #[.int .i64 x, .int .i64 lo, .int .i64 hi] w fun e w' => e = .returned (.bool (inB x lo hi)) ∧ w = w' := by
  go_enter Tryz.func52, Tryz.ntmps52
  go_wp2
  all_goals (go_ret)
  all_goals (refine ⟨?_, rfl⟩; congr 2; simp [inB]; omega)
theorem c_l01In (x lo hi : Int) (w : World) : Calls Tryz.prog 55 #[.int .i64 x, .int .i64 lo, .int .i64 hi] w fun e w' => e = .returned (.bool (inB x lo hi)) ∧ w = w' := by
  go_enter Tryz.func55, Tryz.ntmps55
  go_wp2
  all_goals (go_ret)
  all_goals (refine ⟨?_, rfl⟩; congr 2; simp [inB]; omega)
def wbs : List UInt8 := [97, 98, 99, 100, 101, 102, 103, 104, 105, 106, 107, 108, 109, 110, 111, 112, 113, 114, 115, 116, 117, 118, 119, 120, 121, 122, 48, 49, 50, 51, 52, 53, 54, 55, 56, 57, 95]
def wb (c : UInt8) : Bool := (97 ≤ c.toNat && c.toNat ≤ 122) || (48 ≤ c.toNat && c.toNat ≤ 57) || c.toNat == 95
theorem indexByte_mem (l : List UInt8) (c : UInt8) : decide (0 ≤ Lib.indexByte l c) = l.contains c := by
  induction l with
  | nil => rfl
  | cons b l ih =>
    have := Lib.indexByte_ge l c
    unfold Lib.indexByte
    rw [List.contains_cons]
    by_cases e : b = c
    · subst e; simp
    · have e' : (b == c) = false := by simpa using e
      have e2 : (c == b) = false := by simp; exact fun h => e h.symm
      rw [e', e2, Bool.false_or, ← ih]
      simp only [Bool.false_eq_true, if_false]
      by_cases h : Lib.indexByte l c = -1
      · simp [h]
      · rw [if_neg (by simpa using h)]
        simp
        omega
theorem wbs_wb : ∀ n : Fin 256, wbs.contains (UInt8.ofNat n.val) = wb (UInt8.ofNat n.val) := by decide +kernel
theorem wbs_eq (c : UInt8) : decide (0 ≤ Lib.indexByte wbs c) = wb c := by
  rw [indexByte_mem]
  have := wbs_wb ⟨c.toNat, c.toNat_lt⟩
  simpa using this
def wbsB : ByteArray := ⟨#[97, 98, 99, 100, 101, 102, 103, 104, 105, 106, 107, 108, 109, 110, 111, 112, 113, 114, 115, 116, 117, 118, 119, 120, 121, 122, 48, 49, 50, 51, 52, 53, 54, 55, 56, 57, 95]⟩
theorem c_IndexByteW (c : UInt8) (w : World) : Calls Tryz.prog 184 #[.string ⟨#[97, 98, 99, 100, 101, 102, 103, 104, 105, 106, 107, 108, 109, 110, 111, 112, 113, 114, 115, 116, 117, 118, 119, 120, 121, 122, 48, 49, 50, 51, 52, 53, 54, 55, 56, 57, 95]⟩, .int .u8 c.toNat] w
    fun e w' => ∃ n : Int, e = .returned (.int .i64 n) ∧ decide (0 ≤ n) = wb c ∧ w = w' := by
  refine (c_IndexByte wbsB c.toNat w).mono ?_
  rintro e w' ⟨he, hw⟩
  refine ⟨_, he, ?_, hw⟩
  have e1 : (c.toNat : Int).toNat.toUInt8 = c := by simp
  rw [e1]
  exact wbs_eq c
theorem all_take_snoc {l : List UInt8} {p : UInt8 → Bool} {k : Nat} {t : UInt8} (hz : l[k]? = some t) (h : (l.take k).all p = true) (h2 : p t = true) : (l.take (k + 1)).all p = true := by
  rw [List.take_add_one, List.all_append, h, hz]
  simp [h2]
theorem all_bad {l : List UInt8} {p : UInt8 → Bool} {k : Nat} {t : UInt8} (hz : l[k]? = some t) (h2 : p t = false) : l.all p = false := by
  rw [List.all_eq_false]
  exact ⟨t, List.mem_of_getElem? hz, by simp [h2]⟩
instance strDec : DecidableEq ByteArray := fun a b => decidable_of_iff (a.data = b.data) ⟨fun h => by cases a; cases b; simp only at h; rw [h], fun h => by rw [h]⟩
theorem beq_str (s t : ByteArray) : (s.toList == t.toList) = decide (s = t) := by
  rw [Lib.toList_data, Lib.toList_data]
  by_cases h : s = t
  · rw [h]; simp
  · rw [decide_eq_false h]
    have : s.data.toList ≠ t.data.toList := fun e => h (by
      cases s; cases t
      simp only at e
      rw [Array.toList_inj] at e
      rw [e])
    simpa using this
/-- A small letter. -/
def lt (c : UInt8) : Bool := 97 ≤ c.toNat && c.toNat ≤ 122
def lts : List UInt8 := [97, 98, 99, 100, 101, 102, 103, 104, 105, 106, 107, 108, 109, 110, 111, 112, 113, 114, 115, 116, 117, 118, 119, 120, 121, 122]
theorem lts_lt : ∀ n : Fin 256, lts.contains (UInt8.ofNat n.val) = lt (UInt8.ofNat n.val) := by decide +kernel
theorem lts_eq (c : UInt8) : decide (0 ≤ Lib.indexByte lts c) = lt c := by
  rw [indexByte_mem]
  have := lts_lt ⟨c.toNat, c.toNat_lt⟩
  simpa using this
def ltsB : ByteArray := ⟨#[97, 98, 99, 100, 101, 102, 103, 104, 105, 106, 107, 108, 109, 110, 111, 112, 113, 114, 115, 116, 117, 118, 119, 120, 121, 122]⟩
theorem c_IndexByteL (c : UInt8) (w : World) : Calls Tryz.prog 184 #[.string ⟨#[97, 98, 99, 100, 101, 102, 103, 104, 105, 106, 107, 108, 109, 110, 111, 112, 113, 114, 115, 116, 117, 118, 119, 120, 121, 122]⟩, .int .u8 (c.toNat : Int)] w
    fun e w' => ∃ n : Int, e = .returned (.int .i64 n) ∧ decide (0 ≤ n) = lt c ∧ w = w' := by
  refine (c_IndexByte ltsB c.toNat w).mono ?_
  rintro e w' ⟨he, hw⟩
  refine ⟨_, he, ?_, hw⟩
  have e1 : (c.toNat : Int).toNat.toUInt8 = c := by simp
  rw [e1]
  exact lts_eq c
/-- A word. -/
def wordB (s : ByteArray) : Bool := inB s.size 1 12 && s.data.toList.all wb && (match s.data.toList with | c :: _ => lt c | [] => false)
theorem word_of {s : ByteArray} (h : 0 < s.size) : wordB s = (inB s.size 1 12 && s.data.toList.all wb && lt s[0]) := by
  unfold wordB
  have hz : s.data.toList[0]? = some s[0] := by rw [List.getElem?_eq_getElem (by simpa using h)]; rfl
  cases hl : s.data.toList with
  | nil => rw [hl] at hz; simp at hz
  | cons c l =>
    rw [hl] at hz
    simp only [List.getElem?_cons_zero, Option.some.injEq] at hz
    rw [← hz]
theorem word_no {s : ByteArray} (h : inB s.size 1 12 = false) : wordB s = false := by unfold wordB; rw [h]; rfl
theorem word_bad {s : ByteArray} (h : s.data.toList.all wb = false) : wordB s = false := by unfold wordB; rw [h]; simp
/-- Whether a string is in a list; its index. -/
def memS (l : List ByteArray) (s : ByteArray) : Bool := l.any fun t => decide (t = s)
theorem memS_iff {l : List ByteArray} {s : ByteArray} : memS l s = true ↔ s ∈ l := by
  unfold memS
  rw [List.any_eq_true]
  constructor
  · rintro ⟨t, h, e⟩
    rw [decide_eq_true_eq] at e
    exact e ▸ h
  · intro h
    exact ⟨s, h, by simp⟩
theorem memS_no {l : List ByteArray} {s : ByteArray} (h : ¬ s ∈ l) : memS l s = false := by
  cases e : memS l s with
  | false => rfl
  | true => exact absurd (memS_iff.1 e) h
def ixS : List ByteArray → ByteArray → Int
  | [], _ => -1
  | t :: l, s => if t = s then 0 else if ixS l s = -1 then -1 else ixS l s + 1
theorem ixS_at {s : ByteArray} : ∀ {l : List ByteArray} {k : Nat}, l[k]? = some s → ¬ s ∈ l.take k → ixS l s = k
  | [], k, hz, _ => by simp at hz
  | t :: l, 0, hz, _ => by
    simp only [List.getElem?_cons_zero, Option.some.injEq] at hz
    unfold ixS
    rw [if_pos hz]
    rfl
  | t :: l, k + 1, hz, h => by
    simp only [List.getElem?_cons_succ] at hz
    rw [List.take_succ_cons, List.mem_cons, not_or] at h
    have ih := ixS_at hz h.2
    unfold ixS
    rw [if_neg (fun e => h.1 e.symm), ih, if_neg (by omega)]
    omega
theorem ixS_out {s : ByteArray} : ∀ {l : List ByteArray}, ¬ s ∈ l → ixS l s = -1
  | [], _ => rfl
  | t :: l, h => by
    rw [List.mem_cons, not_or] at h
    unfold ixS
    rw [if_neg (fun e => h.1 e.symm), ixS_out h.2]
    rfl
theorem ixS_no {l : List ByteArray} {s : ByteArray} {n : Nat} (h : ¬ s ∈ l.take n) (hn : l.length ≤ n) : ixS l s = -1 := by
  rw [List.take_of_length_le hn] at h
  exact ixS_out h
theorem ixS_bd (s : ByteArray) : ∀ l : List ByteArray, -1 ≤ ixS l s ∧ ixS l s < l.length
  | [] => by unfold ixS; simp
  | t :: l => by
    have ih := ixS_bd s l
    unfold ixS
    rw [List.length_cons]
    split
    · omega
    · split <;> omega
theorem ixS_nn (s : ByteArray) : ∀ l : List ByteArray, decide (0 ≤ ixS l s) = memS l s
  | [] => rfl
  | t :: l => by
    have ih := ixS_nn s l
    have hb := ixS_bd s l
    unfold ixS
    have e : memS (t :: l) s = (decide (t = s) || memS l s) := rfl
    rw [e, ← ih]
    by_cases h : t = s
    · rw [if_pos h]; simp [h]
    · rw [if_neg h, decide_eq_false h, Bool.false_or]
      split
      · rename_i h2; rw [h2]
      · simp; omega
theorem no_snoc {l : List ByteArray} {s t : ByteArray} {k : Nat} (hz : l[k]? = some t) (h : ¬ s ∈ l.take k) (h2 : ¬ t = s) : ¬ s ∈ l.take (k + 1) := by
  rw [List.take_add_one, hz]
  intro hm
  rcases List.mem_append.1 hm with hm | hm
  · exact h hm
  · simp at hm
    exact h2 hm.symm
/-- The keywords. -/
def kws : List ByteArray := [⟨#[112, 114, 111, 103, 114, 97, 109]⟩, ⟨#[105, 110]⟩, ⟨#[118, 97, 114]⟩, ⟨#[111, 117, 116]⟩, ⟨#[103, 117, 97, 114, 100]⟩, ⟨#[101, 110, 100]⟩, ⟨#[97, 110, 100]⟩, ⟨#[111, 114]⟩, ⟨#[110, 111, 116]⟩, ⟨#[116, 114, 117, 101]⟩, ⟨#[102, 97, 108, 115, 101]⟩, ⟨#[111, 110]⟩, ⟨#[111, 102, 102]⟩, ⟨#[114, 105, 115, 101]⟩, ⟨#[108, 97, 116, 99, 104]⟩, ⟨#[99, 111, 117, 110, 116]⟩, ⟨#[112, 97, 105, 114]⟩]
def kwB (s : ByteArray) : Bool := memS kws s
def nameB (s : ByteArray) : Bool := wordB s && !kwB s
set_option maxRecDepth 100000 in
theorem c_l14Index (A : Option Addr) (c n : Nat) (l : List ByteArray) (s : ByteArray) (w : World) (hn : n = l.length) (hs : n ≤ 1048576) (hr : Rd w A (sts l)) :
    Calls Tryz.prog 82 #[.slice A n c, .string s] w fun e w' => e = .returned (.int .i64 (ixS l s)) ∧ Below w.heap.size w w' := by
  have HN := Lib.hid hn
  clear hn
  go_enter Tryz.func82, Tryz.ntmps82
  go_wp2_with (fail)
  go_loopw [5] (fun i wr => ∃ k : Nat, k ≤ n ∧ i = .int .i64 k ∧ Hid (¬ s ∈ l.take k) ∧ Hid (Below w.heap.size w wr)) (fun i _ => n - (intOf i).toNat)
  case atStart => exact ⟨0, Nat.zero_le _, rfl, Lib.hid (by simp), Lib.hid (by (repeat (first | exact Below.refl _ _ | assumption | refine below_alloc ?_ _ | refine below_drewN ?_ _ | refine below_set ?_ _ (by simp; try omega) | refine Below.drew ?_)))⟩
  case round =>
    obtain ⟨k, hk, rfl, hno, hb⟩ := hrel
    by_cases hlt : k < n
    · obtain ⟨t, hz⟩ : ∃ z, l[k]? = some z := ⟨_, List.getElem?_eq_getElem (by have := HN.out; omega)⟩
      obtain ⟨b, off, rfl, _, g0⟩ := (hr.below hb.out).st hz
      have hk0 : (0 : Int) ≤ (k : Int) := by omega
      have hk1 : (k : Int) < n := by omega
      have HZ := Lib.hid hz
      clear hz hr
      by_cases e : t = s
      · subst e
        have HR := Lib.hid (ixS_at HZ.out hno.out)
        have heq : (t.toList == t.toList) = true := by simp
        go_wp2_with (fail)
        go_ret
        exact ⟨by rw [HR.out]; rfl, hb.out⟩
      · have HNO := Lib.hid (no_snoc HZ.out hno.out e)
        have heq : (t.toList == s.toList) = false := by rw [beq_str]; exact decide_eq_false e
        have heq2 : (s.toList == t.toList) = false := by rw [beq_str]; exact decide_eq_false (fun h => e h.symm)
        clear e
        go_wp2_with (fail)
        go_roundw
        case rel => exact ⟨k + 1, by omega, by go_num, HNO, hb⟩
        case measure => simp [intOf]; omega
    · obtain rfl : k = n := by omega
      have HR := Lib.hid (ixS_no hno.out (by have := HN.out; omega))
      go_wp2_with (fail)
      go_ret
      exact ⟨by rw [HR.out]; rfl, hb.out⟩
set_option maxRecDepth 100000 in
theorem c_IndexS (A : Option Addr) (c n : Nat) (l : List ByteArray) (s : ByteArray) (w : World) (hn : n = l.length) (hs : n ≤ 1048576) (hr : Rd w A (sts l)) :
    Calls Tryz.prog 90 #[.slice A n c, .string s] w fun e w' => e = .returned (.int .i64 (ixS l s)) ∧ Below w.heap.size w w' := by
  have HN := Lib.hid hn
  clear hn
  go_enter Tryz.func90, Tryz.ntmps90
  go_wp2_with (fail)
  go_loopw [5, 8] (fun _ i wr => ∃ k : Nat, k ≤ n ∧ i = .int .i64 k ∧ Hid (¬ s ∈ l.take k) ∧ Hid (Below w.heap.size w wr)) (fun _ i _ => n - (intOf i).toNat)
  case atStart => exact ⟨0, Nat.zero_le _, rfl, Lib.hid (by simp), Lib.hid (by (repeat (first | exact Below.refl _ _ | assumption | refine below_alloc ?_ _ | refine below_drewN ?_ _ | refine below_set ?_ _ (by simp; try omega) | refine Below.drew ?_)))⟩
  case round =>
    obtain ⟨k, hk, rfl, hno, hb⟩ := hrel
    by_cases hlt : k < n
    · obtain ⟨t, hz⟩ : ∃ z, l[k]? = some z := ⟨_, List.getElem?_eq_getElem (by have := HN.out; omega)⟩
      obtain ⟨b, off, rfl, _, g0⟩ := (hr.below hb.out).st hz
      have hk0 : (0 : Int) ≤ (k : Int) := by omega
      have hk1 : (k : Int) < n := by omega
      have HZ := Lib.hid hz
      clear hz hr
      by_cases e : t = s
      · subst e
        have HR := Lib.hid (ixS_at HZ.out hno.out)
        have heq : (t.toList == t.toList) = true := by simp
        go_wp2_with (fail)
        go_ret
        exact ⟨by rw [HR.out]; rfl, hb.out⟩
      · have HNO := Lib.hid (no_snoc HZ.out hno.out e)
        have heq : (t.toList == s.toList) = false := by rw [beq_str]; exact decide_eq_false e
        have heq2 : (s.toList == t.toList) = false := by rw [beq_str]; exact decide_eq_false (fun h => e h.symm)
        clear e
        go_wp2_with (fail)
        go_roundw
        case rel => exact ⟨k + 1, by omega, by go_num, HNO, hb⟩
        case measure => simp [intOf]; omega
    · obtain rfl : k = n := by omega
      have HR := Lib.hid (ixS_no hno.out (by have := HN.out; omega))
      go_wp2_with (fail)
      go_ret
      exact ⟨by rw [HR.out]; rfl, hb.out⟩
set_option maxRecDepth 100000 in
theorem c_ContainsS (A : Option Addr) (c n : Nat) (l : List ByteArray) (s : ByteArray) (w : World) (hn : n = l.length) (hs : n ≤ 1048576) (hr : Rd w A (sts l)) :
    Calls Tryz.prog 122 #[.slice A n c, .string s] w fun e w' => e = .returned (.bool (memS l s)) ∧ Below w.heap.size w w' := by
  have HE := Lib.hid (ixS_nn s l)
  have HI := Lib.hid (c_IndexS A c n l s w hn hs hr)
  generalize ixS l s = z at *
  rw [← HE.out]
  clear hr hn
  go_enter Tryz.func122, Tryz.ntmps122
  go_wp2_with (fail)
  refine HI.out.mono ?_
  rintro e w1 ⟨rfl, hb⟩
  have HB := Lib.hid hb
  clear hb
  go_wp2_with (fail)
  go_ret
  exact ⟨rfl, HB.out⟩
/-- What run hands back: how many bytes are those of a word. -/
def RunP (s : ByteArray) (w : World) (e : Ending) (w' : World) : Prop := ∃ n : Nat, n ≤ s.size ∧ e = .returned (.int .i64 n) ∧ decide (n = s.size) = s.data.toList.all wb ∧ w = w'
set_option maxRecDepth 100000 in
theorem c_run (s : ByteArray) (w : World) (hs : s.size ≤ 9223372036854775807) :
    Calls Tryz.prog 185 #[.string s, .int .i64 0, .string ⟨#[97, 98, 99, 100, 101, 102, 103, 104, 105, 106, 107, 108, 109, 110, 111, 112, 113, 114, 115, 116, 117, 118, 119, 120, 121, 122, 48, 49, 50, 51, 52, 53, 54, 55, 56, 57, 95]⟩] w (RunP s w) := by
  have HIB := Lib.hid (fun c w => c_IndexByteW c w)
  go_enter Tryz.func185, Tryz.ntmps185
  go_wp2
  go_loop [7] (fun i => ∃ k : Nat, k ≤ s.size ∧ i = .int .i64 k ∧ Hid ((s.data.toList.take k).all wb = true)) (fun i => s.size - (intOf i).toNat)
  case atStart => exact ⟨0, Nat.zero_le _, rfl, Lib.hid rfl⟩
  case round =>
    obtain ⟨k, hk, rfl, ha⟩ := hrel
    by_cases hlt : k < s.size
    · have hz : s.data.toList[k]? = some s[k] := by
        rw [List.getElem?_eq_getElem (by simpa using hlt)]; rfl
      have HZ := Lib.hid hz
      clear hz
      rcases hw : wb s[k] with _ | _
      · have HR := Lib.hid (show decide (k = s.size) = s.data.toList.all wb by rw [all_bad HZ.out hw]; simp; omega)
        have HW := Lib.hid hw
        clear hw
        go_wp2_with (fail)
        refine (HIB.out s[k] _).mono ?_
        rintro e w' ⟨n, rfl, hn, rfl⟩
        rw [HW.out] at hn
        have hn2 : n < 0 := by simpa using hn
        clear hn
        go_wp2
        go_ret
        exact ⟨k, hk, rfl, HR.out, rfl⟩
      · have HA := Lib.hid (all_take_snoc HZ.out ha.out hw)
        have HW := Lib.hid hw
        clear hw
        go_wp2_with (fail)
        refine (HIB.out s[k] _).mono ?_
        rintro e w' ⟨n, rfl, hn, rfl⟩
        rw [HW.out] at hn
        have hn2 : 0 ≤ n := by simpa using hn
        clear hn
        go_wp2
        go_round
        case rel => exact ⟨k + 1, by omega, by go_num, HA⟩
        case measure => simp [intOf]; omega
    · have : k = s.size := by omega
      subst this
      have hA := ha.out
      rw [List.take_of_length_le (by simp)] at hA
      have HR := Lib.hid hA
      clear hA
      go_wp2
      go_ret
      exact ⟨s.size, Nat.le_refl _, rfl, by rw [HR.out]; simp, rfl⟩
end Go.Proofs.YteengjcplmjakaaGreatDoor
