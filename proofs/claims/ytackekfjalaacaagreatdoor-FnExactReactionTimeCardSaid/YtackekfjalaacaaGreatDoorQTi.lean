/- The time of some steps of a code, on the program's side. Condition: the code's head, its blocks; the steps fit. -/
import Derived.Test.YtackekfjalaacaaGreatDoorQIt
namespace Go.Proofs.YtackekfjalaacaaGreatDoor
open Go.RowKit

theorem sumT_take {c : Cd} {l : List Ins} {k : Nat} {x : Ins} (hx : l[k]? = some x) : sumT c (l.take (k + 1)) = sumT c (l.take k) + timI c x := by
  rw [List.take_add_one, hx]
  exact sumT_app c _ x
theorem sumT_bd {c : Cd} (hd : Hd c) : ∀ l : List Ins, 0 ≤ sumT c l ∧ sumT c l ≤ 22 * l.length
  | [] => by simp [sumT]
  | x :: t => by
    have h1 := sumT_bd hd t
    have h2 := tim_bd hd x
    show 0 ≤ timI c x + sumT c t ∧ timI c x + sumT c t ≤ 22 * ((t.length + 1 : Nat) : Int)
    omega
set_option maxHeartbeats 2000000 in
set_option maxRecDepth 100000 in
theorem c_timeG (c : Cd) (l : List Ins) (ab as_ al : Option Addr) (cb cs cl n : Nat) (w : World) (hd : Hd c) (hbl : ∀ t ∈ c.bs, blkB t = true) (hn : l.length = n) (hn2 : n ≤ 3000) (hf : ∀ x ∈ l, fitB c x = true) (h : CdR w ab as_ c) (hl : Rd w al (insCells l)) :
    Calls Tryz.prog 48 #[cv c ab as_ cb cs, .slice al n cl] w fun e w' => e = .returned (.int .i64 (sumT c l)) ∧ Below w.heap.size w w' := by
  have HD := Lib.hid hd
  have HC := Lib.hid h
  have HBL := Lib.hid hbl
  have HFT := Lib.hid hf
  have HLR := Lib.hid hl
  have HN := Lib.hid hn
  have HV : Hid (sumT c l = sumT c (l.take n)) := Lib.hid (by rw [List.take_of_length_le (by omega)])
  have HAB : Hid (Below w.heap.size w (w.alloc (.cells #[.int .i64 c.i, .int .i64 c.v, .int .i64 c.o, .slice ab c.bs.length cb, .slice as_ c.ss.length cs] 51))) := Lib.hid (below_alloc (Below.refl _ _) _)
  have HA : Hid (CB (w.alloc (.cells #[.int .i64 c.i, .int .i64 c.v, .int .i64 c.o, .slice ab c.bs.length cb, .slice as_ c.ss.length cs] 51)) w.heap.size c ab as_ cb cs) := Lib.hid ⟨by go_simp, by go_simp, by go_simp, by go_simp, by go_simp⟩
  generalize sumT c l = R at *
  clear hd h hbl hf hl hn
  go_enter Tryz.func48, Tryz.ntmps48
  dsimp only [cv]
  go_wp2_with (fail)
  generalize w.alloc (.cells #[.int .i64 c.i, .int .i64 c.v, .int .i64 c.o, .slice ab c.bs.length cb, .slice as_ c.ss.length cs] 51) = W at *
  go_loopw [5, 7, 10] (fun t _ i wr => ∃ k : Nat, k ≤ n ∧ i = .int .i64 k ∧ t = .int .i64 (sumT c (l.take k)) ∧ Hid (Below w.heap.size w wr) ∧ Hid (CB wr w.heap.size c ab as_ cb cs)) (fun _ _ i _ => n - (intOf i).toNat)
  case atStart => exact ⟨0, Nat.zero_le _, rfl, rfl, HAB, HA⟩
  case round =>
    obtain ⟨k, hk, rfl, rfl, hb, ha⟩ := hrel
    clear HAB HA
    by_cases hlt : k < n
    · obtain ⟨x, hx⟩ : ∃ x, l[k]? = some x := ⟨_, List.getElem?_eq_getElem (by have := HN.out; omega)⟩
      have HX := Lib.hid (sumT_take (c := c) hx)
      have hsb := sumT_bd HD.out (l.take k)
      have hlk : (l.take k).length ≤ n := by rw [List.length_take]; have := HN.out; omega
      have htb := tim_bd HD.out x
      have HF1 := Lib.hid (HFT.out x (List.mem_of_getElem? hx))
      obtain ⟨b1, o1, rfl, _, g0, g1⟩ := (HLR.out.below hb.out).ins hx
      have hk0 : (0 : Int) ≤ (k : Int) := by omega
      have hk1 : (k : Int) < n := by omega
      have HX0 : Hid (w.heap.size ≤ wr.heap.size ∧ (wr.alloc (.cells #[.int .i64 x.o, .int .i64 x.a] 107)).cell? ⟨wr.heap.size, 0, none⟩ = some (.int .i64 x.o) ∧ (wr.alloc (.cells #[.int .i64 x.o, .int .i64 x.a] 107)).cell? ⟨wr.heap.size, 1, none⟩ = some (.int .i64 x.a)) := Lib.hid ⟨hb.out.size, by go_simp, by go_simp⟩
      have HBa := Lib.hid (below_alloc (Below.refl wr.heap.size wr) (.cells #[.int .i64 x.o, .int .i64 x.a] 107))
      clear hx
      generalize sumT c (l.take k) = S at *
      generalize (l.take k).length = lk at *
      go_upto_region 5 with (fail)
      generalize wr.alloc (.cells #[.int .i64 x.o, .int .i64 x.a] 107) = W1 at *
      have HA1 := Lib.hid (ha.out.below HBa.out)
      have HB1 := Lib.hid (below_chain hb.out HBa.out)
      clear ha hb HBa g0 g1
      obtain ⟨a0, a1, a2, a3, a4⟩ := HA1.out
      obtain ⟨_, g0, g1⟩ := HX0.out
      generalize wr.heap.size = bx at *
      have hw : IntKind.i64.wrap (S + timI c x) = S + timI c x := IntWalk.i64_in _ (by omega)
      go_wp2_with (fail)
      refine (c_timeOf c ab as_ cb cs x _ HD.out HBL.out HF1.out (HC.out.below HB1.out)).mono ?_
      rintro e w2 ⟨rfl, hb2⟩
      have HA2 := Lib.hid (HA1.out.below hb2)
      have HB2 := Lib.hid (below_chain HB1.out hb2)
      clear a0 a1 a2 a3 a4 g0 g1 hb2 HA1 HB1 HX0
      go_wp2_with (fail)
      go_roundw
      case rel => exact ⟨k + 1, by omega, by go_num, by rw [HX.out], HB2, HA2⟩
      case measure => simp [intOf]; omega
    · obtain rfl : k = n := by omega
      go_wp2_with (fail)
      go_ret
      exact ⟨by rw [HV.out]; rfl, hb.out⟩
end Go.Proofs.YtackekfjalaacaaGreatDoor
