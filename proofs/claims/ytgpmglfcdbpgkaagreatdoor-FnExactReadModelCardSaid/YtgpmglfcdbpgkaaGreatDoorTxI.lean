/- Numbers and lists of numbers as texts, on the program's side. Condition: the numbers are those of a valid model; the table of powers of ten lies there. -/
import Derived.Test.YtgpmglfcdbpgkaaGreatDoorTxM
import Derived.Test.YtgpmglfcdbpgkaaGreatDoorShf
import Derived.Lib.AppendIntMem
namespace Go.Proofs.YtgpmglfcdbpgkaaGreatDoor
open Go.RowKit

/-- The table of the powers of ten. -/
def Pw (w : World) : Prop := Lib.TabIs Tryz.prog w "internal/strconv.uint64pow10" .u64 Lib.pow10Tab
theorem Pw.below {w w' : World} (h : Pw w) (hb : Below w.heap.size w w') : Pw w' := Lib.tabBelow_of_tabIs h w' hb
/-- The string of some bytes. -/
def bsT (L : List UInt8) : ByteArray := ⟨L.toArray⟩
theorem bsT_list (L : List UInt8) : (bsT L).data.toList = L := by simp [bsT]
theorem bsT_of {s : ByteArray} {L : List UInt8} (h : s.data.toList = L) : s = bsT L := by subst h; cases s; simp [bsT]
theorem bsT_size (L : List UInt8) : (bsT L).size = L.length := size_list (bsT_list L)
theorem below_growT (w : World) (q : Nat) (os : Array Obj) : Below w.heap.size w (Sort.grow (w.drewN q) os) :=
  ⟨rfl, rfl, rfl, by simp [Sort.grow], fun k hk => by
    show (w.heap ++ os)[k]? = w.heap[k]?
    exact Array.getElem?_append_left hk⟩
set_option maxRecDepth 100000 in
theorem c_decimal (z : Int) (h0 : -9223372036854775808 ≤ z) (h1 : z ≤ 9223372036854775807) (w : World) (hP : Pw w) : Calls Tryz.prog 100 #[.int .i64 z] w fun e w' => e = .returned (.string (bsT (Lib.itoa z))) ∧ Below w.heap.size w w' := by
  have HP := Lib.hid hP
  clear hP
  go_enter Tryz.func100, Tryz.ntmps100
  go_wp2_with (fail)
  refine (sh_strconv_FormatInt_10 z h0 h1 _ HP.out).mono ?_
  rintro e w1 ⟨rfl, k, os, rfl⟩
  have HB := Lib.hid (below_growT w k os)
  generalize Sort.grow (w.drewN k) os = w1 at *
  go_wp2_with (fail)
  go_ret
  exact ⟨rfl, HB.out⟩
theorem c_decimalS (z : Int) (hz : SmI z) (w : World) (hP : Pw w) : Calls Tryz.prog 100 #[.int .i64 z] w fun e w' => e = .returned (.string (bsT (Lib.itoa z))) ∧ Below w.heap.size w w' :=
  c_decimal z (by have := hz.1; omega) (by have := hz.2; omega) w hP
/-- Cells of strings. -/
def strs (ws : List (List UInt8)) : List Value := ws.map fun x => .string (bsT x)
theorem strs_length (ws : List (List UInt8)) : (strs ws).length = ws.length := by simp [strs]
theorem info_string : (Tryz.prog.info? 9).map (fun i => (i.zero, i.size, i.bytes)) = some (some (.string ⟨#[]⟩), 1, 16) := by kernel_rfl
theorem join_call (bk o c : Nat) (ws : List (List UInt8)) (sep : List UInt8) (w : World) (hr : ∀ j x, ws[j]? = some x → w.cell? ⟨bk, o + j, none⟩ = some (.string (bsT x))) (hbk : bk < w.heap.size) (hN : ws.length ≤ 1000000) (hcap : ws.length ≤ c) (hl : ∀ x ∈ ws, x.length ≤ 1000) (hs : sep.length ≤ 1) :
    Calls Tryz.prog 101 #[.slice (some ⟨bk, o, none⟩) ws.length c, .string (bsT sep)] w fun e w' => e = .returned (.string (bsT (Lib.join ws sep))) ∧ Below w.heap.size w w' := by
  have e : (ws.map bsT).map (·.data.toList) = ws := by
    rw [List.map_map]
    refine (List.map_congr_left fun x _ => ?_).trans (List.map_id _)
    exact bsT_list x
  have hj := join_len (sep := sep) hl
  have h1 := sh_strings_Join bk o c (ws.map bsT) (bsT sep) w (fun j x hx => by
    rw [List.getElem?_map, Option.map_eq_some_iff] at hx
    obtain ⟨y, hy, rfl⟩ := hx
    exact hr j y hy) hbk (by simp; omega) (by simpa using hcap) (by
      rw [e, bsT_list]
      have : (1000 + sep.length) * ws.length ≤ 1001 * 1000000 := Nat.mul_le_mul (by omega) hN
      omega)
  rw [e, bsT_list, List.length_map] at h1
  exact h1
set_option maxHeartbeats 1000000 in
set_option maxRecDepth 100000 in
theorem c_joinN (A : Option Addr) (c n : Nat) (l : List Int) (w : World) (hn : n = l.length) (hs : n ≤ 1000) (hl : ∀ z ∈ l, SmI z) (hr : Rd w A (ints l)) (hP : Pw w) :
    Calls Tryz.prog 73 #[.slice A n c, .string ⟨#[44]⟩] w (RetStr (txNums l) w) := by
  obtain ⟨i0, hi, hz0, hz1, hz2⟩ := info_parts info_string
  have HN := Lib.hid hn
  have HL := Lib.hid hl
  have HR := Lib.hid hr
  have HP := Lib.hid hP
  have HZ : (strs (l.map Lib.itoa)).length = n := by rw [strs_length, List.length_map, hn]
  clear hn hl hr hP
  go_enter Tryz.func73, Tryz.ntmps73
  go_wp2_with (first
    | (at_make
       refine wpList_make_full _ rfl (.tmp 9) (.tmp 9) _ rfl w.heap.size 9 i0 _ 1 Tryz.underlying48 hi hz0 hz1 .i64 .i64 _ _ n rfl rfl rfl rfl (by rw [hz2]; omega) (by unfold maxLen; omega) (Nat.le_refl _) ?_
       intro w1 hown hgrow)
    )
  have hb1 := Lib.hid (below_of_grown (Below.refl w.heap.size w) hgrow (by simp))
  have hZ : (madeCells (Value.string ⟨#[]⟩).cells (n * 1)).toList.length = n := by simp [size_madeCells]
  generalize (madeCells (Value.string ⟨#[]⟩).cells (n * 1)).toList = Z at hown hZ
  have hLZ := Lib.hid (HZ.trans hZ.symm)
  have HZZ := Lib.hid HZ
  have HO0 := Lib.hid hown
  clear hZ HZ hgrow hown
  go_loopw [6, 7, 13] (fun _ _ i wr => ∃ k : Nat, k ≤ n ∧ i = .int .i64 k ∧ Hid (wr.ownsRow w.heap.size 9 1 (.slice (some ⟨w.heap.size, 0, none⟩) n n) n (mix (strs (l.map Lib.itoa)) Z k)) ∧ Hid (Below w.heap.size w wr)) (fun _ _ i _ => n - (intOf i).toNat)
  case atStart => exact ⟨0, Nat.zero_le _, rfl, Lib.hid (by rw [mix_zero]; exact HO0.out), hb1⟩
  case round =>
    obtain ⟨k, hk, rfl, ho, hb⟩ := hrel
    clear HO0 hb1
    by_cases hlt : k < n
    · obtain ⟨z, hz⟩ : ∃ z, l[k]? = some z := ⟨_, List.getElem?_eq_getElem (by have := HN.out; omega)⟩
      have HSM := Lib.hid (HL.out z (List.mem_of_getElem? hz))
      have hu : (strs (l.map Lib.itoa))[k]? = some (.string (bsT (Lib.itoa z))) := by simp [strs, hz]
      obtain ⟨b, off, rfl, _, g0⟩ := (HR.out.below hb.out).int hz
      have hk0 : (0 : Int) ≤ (k : Int) := by omega
      have hk1 : (k : Int) < (n : Int) := by omega
      have HU := Lib.hid hu
      clear hz hu
      go_wp2_with (fail)
      refine (c_decimalS z HSM.out _ (HP.out.below hb.out)).mono ?_
      rintro e w2 ⟨rfl, hb2⟩
      have HB2 := Lib.hid (below_chain hb.out hb2)
      have ho2 := own_below ho.out hb2
      have f0 := ho2.frozenAt k
      obtain ⟨old, hold⟩ := own_cell ho2 (j := k) (by omega)
      have hst := (ho2.stored k (.string (bsT (Lib.itoa z)))).1
      rw [mix_set hLZ.out HU.out] at hst
      have HST := Lib.hid hst
      clear hst ho2 ho hb hb2 HU
      go_wp2_with (fail)
      go_roundw
      case rel => exact ⟨k + 1, by omega, by go_num, HST, Lib.hid (below_set HB2.out _ (Nat.le_refl _))⟩
      case measure => simp [intOf]; omega
    · obtain rfl : k = n := by omega
      have ho1 := ho.out
      rw [mix_all (by rw [HZZ.out]; exact Nat.le_refl _) (by rw [← hLZ.out, HZZ.out]; exact Nat.le_refl _)] at ho1
      have HJ := Lib.hid (join_call w.heap.size 0 k (l.map Lib.itoa) [44] wr (fun j x hx => by
        have hc := ho1.cells (g := w.heap.size) rfl j (.string (bsT x)) (by unfold strs; rw [List.getElem?_map, hx]; rfl)
        have hadd : (⟨w.heap.size, 0, none⟩ : Addr).add j = ⟨w.heap.size, 0 + j, none⟩ := by unfold Addr.add; split <;> simp_all
        rw [hadd] at hc
        exact hc) (ho1.lt _ rfl).2 (by rw [List.length_map, ← HN.out]; omega) (by rw [List.length_map, ← HN.out]; exact Nat.le_refl _) (fun x hx => by
          obtain ⟨z, hz, rfl⟩ := List.mem_map.1 hx
          have := itoa_len (HL.out z hz)
          omega) (by simp))
      rw [List.length_map, ← HN.out] at HJ
      clear ho1 ho
      go_wp2_with (fail)
      refine HJ.out.mono ?_
      rintro e w2 ⟨rfl, hb2⟩
      have HB2 := Lib.hid (below_chain hb.out hb2)
      clear hb2
      go_wp2_with (fail)
      go_ret
      exact ⟨_, rfl, bsT_list _, HB2.out⟩
end Go.Proofs.YtgpmglfcdbpgkaaGreatDoor
