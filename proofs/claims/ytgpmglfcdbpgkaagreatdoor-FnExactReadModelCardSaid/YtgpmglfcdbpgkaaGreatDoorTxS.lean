/- Lists of numbers and of tests as texts, on the reference's side. Condition: the numbers are those of a valid model. -/
import Derived.Test.YtgpmglfcdbpgkaaGreatDoorTxD
namespace Go.Proofs.YtgpmglfcdbpgkaaGreatDoor
open Go.RowKit

theorem itoa_nat (n : Nat) : Lib.itoa n = Lib.decDigits n := by
  unfold Lib.itoa
  rw [if_neg (by omega), Int.toNat_natCast]
theorem c_l01DecS (z : Int) (hz : SmI z) (w : World) : Calls Tryz.prog 54 #[.int .i64 z] w (RetStr (Lib.itoa z) w) := by
  obtain ⟨n, rfl, hn⟩ := sm_nat hz
  rw [itoa_nat]
  exact c_l01Dec n (by omega) w
theorem itoa_len {z : Int} (hz : SmI z) : (Lib.itoa z).length ≤ 2 := by
  obtain ⟨n, rfl, hn⟩ := sm_nat hz
  rw [itoa_nat]
  exact dec_len 1 n (by omega)
/-- One more word. -/
theorem join_snoc (sep x : List UInt8) : ∀ {ws : List (List UInt8)}, ws ≠ [] → Lib.join (ws ++ [x]) sep = Lib.join ws sep ++ sep ++ x
  | w :: ws, _ => by
    rw [List.cons_append, Lib.join_cons, Lib.join_cons]
    simp [Lib.joinTail]
theorem join_len {sep : List UInt8} {m : Nat} : ∀ {ws : List (List UInt8)}, (∀ w ∈ ws, w.length ≤ m) → (Lib.join ws sep).length ≤ (m + sep.length) * ws.length
  | [], _ => by simp [Lib.join_nil]
  | w :: ws, h => by
    rw [Lib.join_cons, List.length_append]
    have h1 := h w (List.mem_cons_self ..)
    have h2 : (Lib.joinTail sep ws).length ≤ (m + sep.length) * ws.length := by
      rw [Lib.joinTail_length]
      have : Lib.lens ws ≤ m * ws.length := by
        clear h1
        induction ws with
        | nil => simp [Lib.lens]
        | cons y r ih =>
          have h1 := h y (List.mem_cons_of_mem _ (List.mem_cons_self ..))
          have h2 := ih (fun v hv => h v (by rcases List.mem_cons.1 hv with rfl | hv; exact List.mem_cons_self ..; exact List.mem_cons_of_mem _ (List.mem_cons_of_mem _ hv)))
          simp only [Lib.lens, List.map_cons, List.sum_cons, List.length_cons, Nat.mul_succ] at h2 ⊢
          omega
      rw [Nat.add_mul]
      omega
    rw [List.length_cons, Nat.mul_succ]
    omega
theorem nums_step {l : List Int} {k : Nat} {z : Int} (hz : l[k]? = some z) : txNums (l.take (k + 1)) = if k = 0 then Lib.itoa z else txNums (l.take k) ++ [44] ++ Lib.itoa z := by
  unfold txNums
  have hk := (List.getElem?_eq_some_iff.1 hz).1
  rw [List.take_add_one, hz]
  simp only [Option.toList_some, List.map_append, List.map_cons, List.map_nil]
  by_cases h0 : k = 0
  · subst h0
    rw [if_pos rfl]
    simp [Lib.join_one]
  · rw [if_neg h0, join_snoc]
    intro e
    have : (List.map Lib.itoa (l.take k)).length = 0 := by rw [e]; rfl
    rw [List.length_map, List.length_take] at this
    omega
theorem nums_len {l : List Int} (h : ∀ z ∈ l, SmI z) (k : Nat) : (txNums (l.take k)).length ≤ 3 * k := by
  have := join_len (sep := [44]) (m := 2) (ws := (l.take k).map Lib.itoa) (fun w hw => by
    obtain ⟨z, hz, rfl⟩ := List.mem_map.1 hw
    exact itoa_len (h z (List.mem_of_mem_take hz)))
  simp only [List.length_map, List.length_take, List.length_cons, List.length_nil] at this
  unfold txNums
  exact Nat.le_trans this (Nat.mul_le_mul (by decide) (Nat.min_le_left ..))
set_option maxHeartbeats 1000000 in
set_option maxRecDepth 100000 in
theorem c_l20List (A : Option Addr) (c n : Nat) (l : List Int) (w : World) (hn : n = l.length) (hs : n ≤ 1048576) (hl : ∀ z ∈ l, SmI z) (hr : Rd w A (ints l)) :
    Calls Tryz.prog 53 #[.slice A n c] w (RetStr (txNums l) w) := by
  have HN := Lib.hid hn
  have HL := Lib.hid hl
  have HR := Lib.hid hr
  clear hn hl hr
  go_enter Tryz.func53, Tryz.ntmps53
  go_wp2_with (fail)
  go_loopw [3, 4] (fun o i wr => ∃ (k : Nat) (s : ByteArray), k ≤ n ∧ i = .int .i64 k ∧ o = .string s ∧ Hid (s.data.toList = txNums (l.take k)) ∧ s.size ≤ 3 * k ∧ Hid (Below w.heap.size w wr)) (fun _ i _ => n - (intOf i).toNat)
  case atStart => exact ⟨0, ⟨#[]⟩, Nat.zero_le _, rfl, rfl, Lib.hid rfl, Nat.le_refl _, Lib.hid (Below.refl _ _)⟩
  case round =>
    obtain ⟨k, s, hk, rfl, rfl, hS, hsz, hb⟩ := hrel
    by_cases hlt : k < n
    · obtain ⟨z, hz⟩ : ∃ z, l[k]? = some z := ⟨_, List.getElem?_eq_getElem (by have := HN.out; omega)⟩
      have HSM := Lib.hid (HL.out z (List.mem_of_getElem? hz))
      have HST := Lib.hid (nums_step hz)
      have HLN := Lib.hid (nums_len HL.out (k + 1))
      obtain ⟨b, off, rfl, _, g0⟩ := (HR.out.below hb.out).int hz
      have hk0 : (0 : Int) ≤ (k : Int) := by omega
      have hk1 : (k : Int) < (n : Int) := by omega
      clear hz
      by_cases h0 : k = 0
      · subst h0
        simp only [Nat.add_zero] at g0
        have hs0 : s = ⟨#[]⟩ := by
          have := hS.out
          apply ByteArray.ext
          apply Array.ext'
          rw [this]; rfl
        subst hs0
        go_wp2_with (fail)
        refine (c_l01DecS z HSM.out _).mono ?_
        rintro e w2 ⟨s2, rfl, hs2, hb2⟩
        have HB2 := Lib.hid (below_chain hb.out hb2)
        have HZ2 := Lib.hid (size_list hs2)
        have HS2 := Lib.hid hs2
        have had := add_str ⟨#[]⟩ s2 (by rw [HZ2.out]; have := itoa_len HSM.out; have : (⟨#[]⟩ : ByteArray).size = 0 := rfl; omega)
        clear hb2 hs2 hb
        go_wp2_with (fail)
        go_roundw
        case rel =>
          refine ⟨1, _, by omega, by go_num, rfl, Lib.hid ?_, ?_, HB2⟩
          · rw [app_list, HS2.out, HST.out]; rfl
          · have := itoa_len HSM.out
            rw [Lib.size_eq, app_list, HS2.out]; simp; omega
        case measure => simp [intOf]; omega
      · have hkp : (0 : Int) < (k : Int) := by omega
        have had1 := add_str s ⟨#[44]⟩ (by have : (⟨#[44]⟩ : ByteArray).size = 1 := rfl; omega)
        go_wp2_with (fail)
        refine (c_l01DecS z HSM.out _).mono ?_
        rintro e w2 ⟨s2, rfl, hs2, hb2⟩
        have HB2 := Lib.hid (below_chain hb.out hb2)
        have HZ2 := Lib.hid (size_list hs2)
        have HS2 := Lib.hid hs2
        have had := add_str (s ++ ⟨#[44]⟩) s2 (by rw [HZ2.out, ByteArray.size_append']; have := itoa_len HSM.out; have : (⟨#[44]⟩ : ByteArray).size = 1 := rfl; omega)
        clear hb2 hs2 hb
        go_wp2_with (fail)
        go_roundw
        case rel =>
          refine ⟨k + 1, _, by omega, by go_num, rfl, Lib.hid ?_, ?_, HB2⟩
          · rw [app_list, app_list, HS2.out, HST.out, if_neg h0, hS.out]
          · have := itoa_len HSM.out
            rw [ByteArray.size_append', ByteArray.size_append', HZ2.out]
            have : (⟨#[44]⟩ : ByteArray).size = 1 := rfl
            omega
        case measure => simp [intOf]; omega
    · obtain rfl : k = n := by omega
      go_wp2_with (fail)
      go_ret
      exact ⟨_, rfl, by rw [hS.out, List.take_of_length_le (by have := HN.out; omega)], hb.out⟩
end Go.Proofs.YtgpmglfcdbpgkaaGreatDoor
