/- Contracts of modulo, isTrainLength, areFronts, trainCode, rear, occupied (program). Condition: the layout is valid. -/
import Derived.Test.YthkghpmfbdojeaaOccP
import Derived.Test.YthkghpmfbdojeaaDef
import Derived.Test.YthkghpmfbdojeaaMark
namespace Go.Proofs.Ythkghpmfbdojeaa
open Go.RowKit

theorem c_modulo (a s : Int) (w : World) (h0 : -1000000000000 ≤ a) (h1 : a ≤ 1000000000000) (hs : 1 ≤ s) (hs1 : s ≤ 1000000000000) : Calls Try.prog 51 #[.int .i64 a, .int .i64 s] w fun e w' => e = .returned (.int .i64 (a % s)) ∧ w = w' := by
  have hb := tmod_bd (a := a) (s := s) (by omega)
  have HG := Lib.hid (mod_go a s)
  rcases Int.lt_or_le a 0 with ha | ha
  · skip
    go_enter Try.func51, Try.ntmps51
    go_wp2
    go_ret
    exact ⟨ret_int HG.out, rfl⟩
  · rw [Int.tmod_eq_emod_of_nonneg ha] at hb
    have HG2 : Hid ((a % s + s) % s = a % s) := Lib.hid (by rw [Int.add_emod_right, Int.emod_emod])
    have h3 := Int.emod_nonneg a (b := s) (by omega)
    go_enter Try.func51, Try.ntmps51
    go_wp2
    go_ret
    exact ⟨ret_int HG2.out, rfl⟩
theorem c_l05Mod (a s : Int) (w : World) (h0 : -1000000000000 ≤ a) (h1 : a ≤ 1000000000000) (hs : 1 ≤ s) (hs1 : s ≤ 1000000000000) : Calls Try.prog 36 #[.int .i64 a, .int .i64 s] w fun e w' => e = .returned (.int .i64 (a % s)) ∧ w = w' := by
  have hb := tmod_bd (a := a) (s := s) (by omega)
  have HG := Lib.hid (mod_go a s)
  rcases Int.lt_or_le a 0 with ha | ha
  · skip
    go_enter Try.func36, Try.ntmps36
    go_wp2
    go_ret
    exact ⟨ret_int HG.out, rfl⟩
  · rw [Int.tmod_eq_emod_of_nonneg ha] at hb
    have HG2 : Hid ((a % s + s) % s = a % s) := Lib.hid (by rw [Int.add_emod_right, Int.emod_emod])
    have h3 := Int.emod_nonneg a (b := s) (by omega)
    go_enter Try.func36, Try.ntmps36
    go_wp2
    go_ret
    exact ⟨ret_int HG2.out, rfl⟩
set_option maxRecDepth 100000 in
theorem c_isTrainLength (A : Option Addr) (c n : Nat) (l : List Seg) (x : Int) (w : World) (hn : n = l.length) (hs : n ≤ 1048576) (hr : Rd w A (segCells l)) (hl : Lay l) :
    Calls Try.prog 40 #[.agg #[.slice A n c], .int .i64 x] w fun e w' => e = .returned (.bool (inB x 1 (min 40000 (pos l l.length)))) ∧ Below w.heap.size w w' := by
  have HN := Lib.hid hn
  have hp := pos_small hl (k := l.length) (Nat.le_refl _)
  generalize hP : pos l l.length = P at *
  have HP := Lib.hid hP
  clear hn hP
  go_enter Try.func40, Try.ntmps40
  go_wp2_with (first
    | (go_at_call 47
       refine (c_size _ _ _ l _ HN.out hs (hr.alloc _) hl).mono ?_
       rintro e w1 ⟨rfl, hb⟩
       first | replace B := below_chain B hb | (have B : Below w.heap.size w w1 := below_chain (by (repeat (first | exact Below.refl _ _ | assumption | refine below_alloc ?_ _ | refine below_drewN ?_ _ | refine below_set ?_ _ (by simp; try omega) | refine Below.drew ?_))) hb)
       rw [HP.out]
       clear hb)
    | (go_at_call 53
       refine (c_within _ _ _ _).mono ?_
       rintro e w' ⟨rfl, rfl⟩)
    )
  all_goals go_ret
  all_goals (refine ⟨ret_bool (by congr 1; omega), B⟩)
set_option maxRecDepth 100000 in
theorem c_areFronts1 (A : Option Addr) (c n b0 : Nat) (l : List Seg) (f : Int) (w : World) (hn : n = l.length) (hs : n ≤ 1048576) (hr : Rd w A (segCells l)) (hl : Lay l) (hbox : w.cell? ⟨b0, 0, none⟩ = some (.slice A n c)) :
    Calls Try.prog 65 #[.int .i64 f, .pointer (some ⟨b0, 0, none⟩)] w fun e w' => e = .returned (.bool (!inB f 0 (pos l l.length - 1))) ∧ Below w.heap.size w w' := by
  have HN := Lib.hid hn
  clear hn
  go_enter Try.func65, Try.ntmps65
  go_wp2_with (first
    | (go_at_call 25
       refine (c_isPosition _ _ _ l _ _ HN.out hs hr hl).mono ?_
       rintro e w1 ⟨rfl, hb⟩
       first | replace B := below_chain B hb | (have B : Below w.heap.size w w1 := below_chain (by (repeat (first | exact Below.refl _ _ | assumption | refine below_alloc ?_ _ | refine below_drewN ?_ _ | refine below_set ?_ _ (by simp; try omega) | refine Below.drew ?_))) hb)
       clear hb)
    )
  all_goals go_ret
  all_goals (refine ⟨rfl, by (repeat (first | exact Below.refl _ _ | assumption | refine below_alloc ?_ _ | refine below_drewN ?_ _ | refine below_set ?_ _ (by simp; try omega) | refine Below.drew ?_))⟩)
set_option maxRecDepth 100000 in
theorem c_areFronts (A : Option Addr) (c n : Nat) (l : List Seg) (A' : Option Addr) (c' n' : Nat) (ps : List Int) (w : World) (hn : n = l.length) (hs : n ≤ 1048576) (hr : Rd w A (segCells l)) (hl : Lay l) (hn' : n' = ps.length) (hs' : n' ≤ 1048576) (hr' : Rd w A' (ints ps)) :
    Calls Try.prog 39 #[.agg #[.slice A n c], .slice A' n' c'] w fun e w' => e = .returned (.bool (ps.all (fun p => inB p 0 (pos l l.length - 1)))) ∧ Below w.heap.size w w' := by
  have HN := Lib.hid hn
  have HN' := Lib.hid hn'
  clear hn hn'
  have k0 : (w.alloc (.cells #[.slice A n c] 26)).cell? ⟨w.heap.size, 0, none⟩ = some (.slice A n c) := by go_simp
  have hr2 := hr.alloc (.cells #[.slice A n c] 26)
  have hr1 := hr'.alloc (.cells #[.slice A n c] 26)
  have HC := Lib.hid (c_ContainsFunc 65 (.pointer (some ⟨w.heap.size, 0, none⟩)) (fun f => !inB f 0 (pos l l.length - 1)) A' c' n' ps _ HN'.out hs' hr1 (fun args w => by kernel_rfl) (fun z hz w1 hb1 => c_areFronts1 _ _ _ _ l z w1 HN.out hs (hr2.below hb1) hl (cell_later hb1 k0)))
  clear k0 hr2 hr1 hr hr'
  go_enter Try.func39, Try.ntmps39
  go_wp2_with (fail)
  refine HC.out.mono ?_
  rintro e w1 ⟨rfl, hb⟩
  have B : Below w.heap.size w w1 := below_chain (by (repeat (first | exact Below.refl _ _ | assumption | refine below_alloc ?_ _ | refine below_drewN ?_ _ | refine below_set ?_ _ (by simp; try omega) | refine Below.drew ?_))) hb
  clear hb HC
  go_wp2_with (fail)
  go_ret
  exact ⟨ret_bool (any_not ps _), B⟩
set_option maxRecDepth 100000 in
theorem c_trainCode (A : Option Addr) (c n : Nat) (l : List Seg) (x : Int) (A' : Option Addr) (c' n' : Nat) (ps : List Int) (w : World) (hn : n = l.length) (hs : n ≤ 1048576) (hr : Rd w A (segCells l)) (hn' : n' = ps.length) (hs' : n' ≤ 1048576) (hr' : Rd w A' (ints ps)) :
    Calls Try.prog 18 #[.agg #[.slice A n c], .int .i64 x, .slice A' n' c'] w fun e w' => e = .returned (.int .i64 (trnC l x ps)) ∧ Below w.heap.size w w' := by
  have HN := Lib.hid hn
  have HN' := Lib.hid hn'
  clear hn hn'
  rcases hlb : layB l with _ | _
  · have HT := Lib.hid (show trnC l x ps = 1 by simp [trnC, hlb])
    go_enter Try.func18, Try.ntmps18
    go_wp2_with (first
      | (go_at_call 37
         refine (c_IsLayout _ _ _ l _ HN.out hs (hr.alloc _)).mono ?_
         rintro e w1 ⟨rfl, hb⟩
         first | replace k0 := cell_later hb k0 | (have k0 : w1.cell? ⟨w.heap.size, 0, none⟩ = some (.slice A n c) := cell_later hb (by go_simp))
         first | replace B := below_chain B hb | (have B : Below w.heap.size w w1 := below_chain (by (repeat (first | exact Below.refl _ _ | assumption | refine below_alloc ?_ _ | refine below_drewN ?_ _ | refine below_set ?_ _ (by simp; try omega) | refine Below.drew ?_))) hb)
         clear hb)
      )
    go_ret
    exact ⟨ret_int HT.out.symm, by (repeat (first | exact Below.refl _ _ | assumption | refine below_alloc ?_ _ | refine below_drewN ?_ _ | refine below_set ?_ _ (by simp; try omega) | refine Below.drew ?_))⟩
  have hl := layB_iff.1 hlb
  have HT := Lib.hid (show trnC l x ps = if ps.all (fun p => inB p 0 (pos l l.length - 1)) && inB x 1 (min 40000 (pos l l.length)) then 0 else 2 by simp [trnC, hlb])
  rcases hall : ps.all (fun p => inB p 0 (pos l l.length - 1)) with _ | _
  · have HT2 := Lib.hid (show trnC l x ps = 2 by rw [HT.out, hall]; rfl)
    clear HT
    go_enter Try.func18, Try.ntmps18
    go_wp2_with (first
      | (go_at_call 37
         refine (c_IsLayout _ _ _ l _ HN.out hs (hr.alloc _)).mono ?_
         rintro e w1 ⟨rfl, hb⟩
         first | replace k0 := cell_later hb k0 | (have k0 : w1.cell? ⟨w.heap.size, 0, none⟩ = some (.slice A n c) := cell_later hb (by go_simp))
         first | replace B := below_chain B hb | (have B : Below w.heap.size w w1 := below_chain (by (repeat (first | exact Below.refl _ _ | assumption | refine below_alloc ?_ _ | refine below_drewN ?_ _ | refine below_set ?_ _ (by simp; try omega) | refine Below.drew ?_))) hb)
         have g1 := Lib.hid ((hr.alloc _).below hb)
         have g2 := Lib.hid ((hr'.alloc _).below hb)
         clear hb)
      | (go_at_call 39
         refine (c_areFronts _ _ _ l _ _ _ ps _ HN.out hs g1.out hl HN'.out hs' g2.out).mono ?_
         rintro e w1 ⟨rfl, hb⟩
         first | replace k0 := cell_later hb k0 | (have k0 : w1.cell? ⟨w.heap.size, 0, none⟩ = some (.slice A n c) := cell_later hb (by go_simp))
         first | replace B := below_chain B hb | (have B : Below w.heap.size w w1 := below_chain (by (repeat (first | exact Below.refl _ _ | assumption | refine below_alloc ?_ _ | refine below_drewN ?_ _ | refine below_set ?_ _ (by simp; try omega) | refine Below.drew ?_))) hb)
         clear hb)
      )
    go_ret
    exact ⟨ret_int HT2.out.symm, by (repeat (first | exact Below.refl _ _ | assumption | refine below_alloc ?_ _ | refine below_drewN ?_ _ | refine below_set ?_ _ (by simp; try omega) | refine Below.drew ?_))⟩
  rcases hin : inB x 1 (min 40000 (pos l l.length)) with _ | _
  all_goals
    have HT2 := Lib.hid HT.out
    rw [hall, hin] at HT2
    clear HT
    go_enter Try.func18, Try.ntmps18
    go_wp2_with (first
      | (go_at_call 37
         refine (c_IsLayout _ _ _ l _ HN.out hs (hr.alloc _)).mono ?_
         rintro e w1 ⟨rfl, hb⟩
         first | replace k0 := cell_later hb k0 | (have k0 : w1.cell? ⟨w.heap.size, 0, none⟩ = some (.slice A n c) := cell_later hb (by go_simp))
         first | replace B := below_chain B hb | (have B : Below w.heap.size w w1 := below_chain (by (repeat (first | exact Below.refl _ _ | assumption | refine below_alloc ?_ _ | refine below_drewN ?_ _ | refine below_set ?_ _ (by simp; try omega) | refine Below.drew ?_))) hb)
         have g1 := Lib.hid ((hr.alloc _).below hb)
         have g2 := Lib.hid ((hr'.alloc _).below hb)
         clear hb)
      | (go_at_call 39
         refine (c_areFronts _ _ _ l _ _ _ ps _ HN.out hs g1.out hl HN'.out hs' g2.out).mono ?_
         rintro e w1 ⟨rfl, hb⟩
         first | replace k0 := cell_later hb k0 | (have k0 : w1.cell? ⟨w.heap.size, 0, none⟩ = some (.slice A n c) := cell_later hb (by go_simp))
         first | replace B := below_chain B hb | (have B : Below w.heap.size w w1 := below_chain (by (repeat (first | exact Below.refl _ _ | assumption | refine below_alloc ?_ _ | refine below_drewN ?_ _ | refine below_set ?_ _ (by simp; try omega) | refine Below.drew ?_))) hb)
         have g3 := Lib.hid (g1.out.below hb)
         clear hb)
      | (go_at_call 40
         refine (c_isTrainLength _ _ _ l _ _ HN.out hs g3.out hl).mono ?_
         rintro e w1 ⟨rfl, hb⟩
         first | replace k0 := cell_later hb k0 | (have k0 : w1.cell? ⟨w.heap.size, 0, none⟩ = some (.slice A n c) := cell_later hb (by go_simp))
         first | replace B := below_chain B hb | (have B : Below w.heap.size w w1 := below_chain (by (repeat (first | exact Below.refl _ _ | assumption | refine below_alloc ?_ _ | refine below_drewN ?_ _ | refine below_set ?_ _ (by simp; try omega) | refine Below.drew ?_))) hb)
         clear hb)
      )
    go_ret
    exact ⟨ret_int HT2.out.symm, by (repeat (first | exact Below.refl _ _ | assumption | refine below_alloc ?_ _ | refine below_drewN ?_ _ | refine below_set ?_ _ (by simp; try omega) | refine Below.drew ?_))⟩
set_option maxRecDepth 100000 in
theorem c_rear (A : Option Addr) (c n : Nat) (l : List Seg) (p x : Int) (w : World) (hn : n = l.length) (hs : n ≤ 1048576) (hr : Rd w A (segCells l)) (hl : Lay l) (hp0 : 0 ≤ p) (hp1 : p ≤ 4800000) (hx0 : 1 ≤ x) (hx1 : x ≤ 40000) :
    Calls Try.prog 48 #[.agg #[.slice A n c], .int .i64 p, .int .i64 x] w fun e w' => e = .returned (.int .i64 ((p - x + 1) % pos l l.length)) ∧ Below w.heap.size w w' := by
  have HN := Lib.hid hn
  have hp := pos_bd hl (k := l.length) (Nat.le_refl _)
  have hlo := hl.lo
  have hp2 := pos_small hl (k := l.length) (Nat.le_refl _)
  have HP1 := Lib.hid (show 1 ≤ pos l l.length by omega)
  have HP2 := Lib.hid (show pos l l.length ≤ 1000000000000 by omega)
  clear hn hp hp2
  go_enter Try.func48, Try.ntmps48
  go_wp2_with (first
    | (go_at_call 47
       refine (c_size _ _ _ l _ HN.out hs (hr.alloc _) hl).mono ?_
       rintro e w1 ⟨rfl, hb⟩
       first | replace B := below_chain B hb | (have B : Below w.heap.size w w1 := below_chain (by (repeat (first | exact Below.refl _ _ | assumption | refine below_alloc ?_ _ | refine below_drewN ?_ _ | refine below_set ?_ _ (by simp; try omega) | refine Below.drew ?_))) hb)
       clear hb)
    | (go_at_call 51
       refine (c_modulo _ _ _ (by omega) (by omega) HP1.out HP2.out).mono ?_
       rintro e w' ⟨rfl, rfl⟩)
    )
  go_ret
  exact ⟨rfl, B⟩
section
variable {A : Option Addr} {c n : Nat} {l : List Seg} {A' : Option Addr} {c' n' : Nat} {fs : List Int} {w : World}
set_option maxHeartbeats 2000000 in
set_option maxRecDepth 100000 in
theorem c_occupied (c : Nat) (p x : Int) (hok : okB l fs = true) (hx0 : 1 ≤ x) (hx1 : x ≤ 40000) (hxT : x ≤ pos l l.length) (hp0 : 0 ≤ p) (hp1 : p < pos l l.length) (h : LB w A n l A' c' n' fs) :
    Calls Try.prog 23 #[.agg #[.slice A n c], .slice A' n' c', .int .i64 p, .int .i64 x] w (RetInts (occL l fs p x fs.length) w) := by
  have hl := okB_lay hok
  have hlen := blkB_len hok
  have hp2 := pos_small hl (k := l.length) (Nat.le_refl _)
  have hrr := rr_bd hx0 hxT hp0 hp1
  have HN' := Lib.hid h.hn'
  have HOCC := Lib.hid (show ∀ q, occT l fs p x q = (decide ((pos l (fstN fs q) - (p - x + 1) % pos l l.length) % pos l l.length < x) || decide (((p - x + 1) % pos l l.length - pos l (fstN fs q)) % pos l l.length < pos l (endN l fs q) - pos l (fstN fs q))) from fun q => rfl)
  have HPB : Hid (∀ q, q < fs.length → 0 ≤ pos l (fstN fs q) ∧ pos l (fstN fs q) ≤ 4800000 ∧ 0 ≤ pos l (endN l fs q) ∧ pos l (endN l fs q) ≤ 4800000) := Lib.hid fun q hq => by
    have h1 := pos_small hl (k := fstN fs q) (by have := (fst_at hok hq).2; omega)
    have h2 := pos_small hl (k := endN l fs q) (by have := (end_at hok q).2.2; omega)
    omega
  have HSZ := Lib.hid (fun (w : World) (h : LB w A n l A' c' n' fs) => c_size A c n l w h.hn h.hs h.hr hl)
  have HRE := Lib.hid (fun (w : World) (h : LB w A n l A' c' n' fs) => c_rear A c n l p x w h.hn h.hs h.hr hl hp0 (by omega) hx0 hx1)
  generalize hT : pos l l.length = T at *
  generalize hR : (p - x + 1) % T = R at *
  have k0 : (w.alloc (.cells #[.slice A n c] 26)).cell? ⟨w.heap.size, 0, none⟩ = some (.slice A n c) := by go_simp
  have HL0 := Lib.hid h
  have HL1 := Lib.hid (h.alloc (.cells #[.slice A n c] 26))
  have HB1 := Lib.hid (below_alloc (Below.refl w.heap.size w) (.cells #[.slice A n c] 26))
  have hn8 : n' ≤ 8 := by have := h.hn'; omega
  clear hT hR h hl hlen hxT hp1
  go_enter Try.func23, Try.ntmps23
  go_wp2_with (fail)
  generalize w.alloc (.cells #[.slice A n c] 26) = W1 at k0 HL1 HB1 ⊢
  go_region_held3 (fun w' => w'.cell? ⟨w.heap.size, 0, none⟩ = some (.slice A n c)) (first | exact k0 | exact k2 | exact k3)
    (first
      | (go_at_call 47
         refine (HSZ.out _ (by exact HL1.out.drew)).mono ?_
         rintro e2 w2 ⟨rfl, hb2⟩
         have k2 : w2.cell? ⟨w.heap.size, 0, none⟩ = some (.slice A n c) := cell_later hb2 (by exact k0)
         have HB2 := Lib.hid (below_chain (by exact HB1.out.drew) hb2)
         have HL2 := Lib.hid (LB.below (by exact HL1.out.drew) hb2)
         clear hb2)
      | (go_at_call 48
         refine (HRE.out _ HL2.out).mono ?_
         rintro e3 w3 ⟨rfl, hb3⟩
         have k3 : w3.cell? ⟨w.heap.size, 0, none⟩ = some (.slice A n c) := cell_later hb3 (by exact k2)
         have HB3 := Lib.hid (below_chain HB2.out hb3)
         have HL3 := Lib.hid (HL2.out.below hb3)
         clear hb3))
  have hz3 := World.block_lt_of_cell? _ _ k3
  clear k0 k2 HB1 HB2 HL1 HL2
  go_wp2_with (first
    | (go_at_call 49
       refine (c_length_int64 _ _ _ _ (by omega)).mono ?_
       rintro e w' ⟨rfl, rfl⟩)
    )
  go_loopw [11, 23] (fun v i wr => ∃ k : Nat, k ≤ n' ∧ i = .int .i64 k ∧ wr.ownsRow (w.heap.size + 1) 2 1 v (occL l fs p x k).length (ints (occL l fs p x k)) ∧ wr.cell? ⟨w.heap.size, 0, none⟩ = some (.slice A n c) ∧ Below w.heap.size w wr) (fun _ i _ => n' - (intOf i).toNat)
  case atStart => exact ⟨0, Nat.zero_le _, rfl, own_nil _ _ _ _, k3, HB3.out⟩
  case round =>
    obtain ⟨k, hk, rfl, ho, hbox, hb⟩ := hrel
    clear k3 HB3 HL3 hz3
    by_cases hlt : k < n'
    · have hpb := HPB.out k (by have := HN'.out; omega)
      have hlen := occL_len l fs p x k
      have HOK := Lib.hid (HOCC.out k)
      have HO := Lib.hid ho
      have HB := Lib.hid hb
      have hrow : Hid (∀ q, u11.ownBlock = some q → w.heap.size + 1 ≤ q) := Lib.hid fun q hq => (ho.lt q hq).1
      have HSP := Lib.hid (c_blockSpan c k hok hlt (HL0.out.below hb))
      have hz := World.block_lt_of_cell? _ _ hbox
      generalize pos l (fstN fs k) = f at hpb HOK HSP
      generalize pos l (endN l fs k) = e at hpb HOK HSP
      clear ho hb
      by_cases h1 : (f - R) % T < x
      · have HT : Hid (occT l fs p x k = true) := Lib.hid (by rw [HOK.out]; simp [h1])
        have HY := Lib.hid (occL_yes HT.out)
        clear HT
        go_wp2_with (first
          | (go_at_call 50
             refine HSP.out.mono ?_
             rintro e2 w2 ⟨rfl, hb2⟩
             have HB2 := Lib.hid (below_chain HB.out hb2)
             have HO2 := Lib.hid (own_below HO.out hb2)
             have hbox2 := cell_later hb2 hbox
             have hz2 := World.block_lt_of_cell? _ _ hbox2
             clear hb2)
          | (go_at_call 51
             refine (c_modulo _ _ _ (by omega) (by omega) (by omega) (by omega)).mono ?_
             rintro e w' ⟨rfl, rfl⟩)
          | (at_builtin
             refine wpList_push_int _ rfl (.tmp 49) (.tmp 51) rfl (w.heap.size + 1) _ (occL l fs p x k).length (occL l fs p x k) (k : Int) w2.heap.size 1 rfl (HO2.out.alloc _) rfl (by go_simp) (by omega) (by simp; omega) ?_
             intro v1 w3 hown1 hgrow hold hat
             have HO3 := Lib.hid hown1
             have HB3 := Lib.hid (below_of_grown (below_alloc HB2.out _) hgrow (fun q hq => by have := hrow.out q hq; omega))
             have hbox3 : w3.cell? ⟨w.heap.size, 0, none⟩ = some (.slice A n c) := cell_mark (by go_simp) hgrow (fun q hq => by have := hrow.out q hq; simp; omega)
             clear hown1 hgrow hold hat)
          )
        go_roundw
        case rel => exact ⟨k + 1, by omega, by go_num, by rw [HY.out, List.length_append]; exact HO3.out, hbox3, HB3.out⟩
        case measure => simp [intOf]; omega
      · by_cases h2 : (R - f) % T < e - f
        · have HT : Hid (occT l fs p x k = true) := Lib.hid (by rw [HOK.out]; simp [h1, h2])
          have HY := Lib.hid (occL_yes HT.out)
          clear HT
          go_wp2_with (first
            | (go_at_call 50
               refine HSP.out.mono ?_
               rintro e2 w2 ⟨rfl, hb2⟩
               have HB2 := Lib.hid (below_chain HB.out hb2)
               have HO2 := Lib.hid (own_below HO.out hb2)
               have hbox2 := cell_later hb2 hbox
               have hz2 := World.block_lt_of_cell? _ _ hbox2
               clear hb2)
            | (go_at_call 51
               refine (c_modulo _ _ _ (by omega) (by omega) (by omega) (by omega)).mono ?_
               rintro e w' ⟨rfl, rfl⟩)
            | (at_builtin
               refine wpList_push_int _ rfl (.tmp 49) (.tmp 51) rfl (w.heap.size + 1) _ (occL l fs p x k).length (occL l fs p x k) (k : Int) w2.heap.size 1 rfl (HO2.out.alloc _) rfl (by go_simp) (by omega) (by simp; omega) ?_
               intro v1 w3 hown1 hgrow hold hat
               have HO3 := Lib.hid hown1
               have HB3 := Lib.hid (below_of_grown (below_alloc HB2.out _) hgrow (fun q hq => by have := hrow.out q hq; omega))
               have hbox3 : w3.cell? ⟨w.heap.size, 0, none⟩ = some (.slice A n c) := cell_mark (by go_simp) hgrow (fun q hq => by have := hrow.out q hq; simp; omega)
               clear hown1 hgrow hold hat)
            )
          go_roundw
          case rel => exact ⟨k + 1, by omega, by go_num, by rw [HY.out, List.length_append]; exact HO3.out, hbox3, HB3.out⟩
          case measure => simp [intOf]; omega
        · have HT : Hid (occT l fs p x k = false) := Lib.hid (by rw [HOK.out]; simp [h1, h2])
          have HY := Lib.hid (occL_no HT.out)
          clear HT
          go_wp2_with (first
            | (go_at_call 50
               refine HSP.out.mono ?_
               rintro e2 w2 ⟨rfl, hb2⟩
               have HB2 := Lib.hid (below_chain HB.out hb2)
               have HO2 := Lib.hid (own_below HO.out hb2)
               have hbox2 := cell_later hb2 hbox
               have hz2 := World.block_lt_of_cell? _ _ hbox2
               clear hb2)
            | (go_at_call 51
               refine (c_modulo _ _ _ (by omega) (by omega) (by omega) (by omega)).mono ?_
               rintro e w' ⟨rfl, rfl⟩)
            )
          go_roundw
          case rel => exact ⟨k + 1, by omega, by go_num, by rw [HY.out]; exact HO2.out, hbox2, HB2.out⟩
          case measure => simp [intOf]; omega
    · obtain rfl : k = n' := by omega
      obtain ⟨A1, c1, rfl⟩ : ∃ A1 c1, u11 = .slice A1 (occL l fs p x k).length c1 := by
        rcases ho.2 with ⟨h1, h2⟩ | ⟨g, cap, cur, h1, _⟩
        · exact ⟨none, 0, by rw [h1, h2]⟩
        · exact ⟨_, _, h1⟩
      have HO := Lib.hid ho
      have HB := Lib.hid hb
      clear ho hb
      go_wp2
      go_ret
      rw [← HN'.out]
      exact ⟨A1, c1, rfl, own_mono HO.out (by omega), HB.out⟩
/-- The blocks that a train occupies, and the code. -/
def occC (l : List Seg) (fs : List Int) (p x : Int) : Int := if okB l fs then trnC l x [p] else 1
def occR (l : List Seg) (fs : List Int) (p x : Int) : List Int := if occC l fs p x = 0 then occL l fs p x fs.length else []
theorem occC_cases (l : List Seg) (fs : List Int) (p x : Int) : (occC l fs p x = 0 ∧ okB l fs = true ∧ trnC l x [p] = 0 ∧ 1 ≤ x ∧ x ≤ 40000 ∧ x ≤ pos l l.length ∧ 0 ≤ p ∧ p < pos l l.length) ∨ occC l fs p x ≠ 0 := by
  unfold occC
  rcases hok : okB l fs with _ | _
  · right; simp
  · have hl := layB_iff.2 (okB_lay hok)
    rw [if_pos rfl]
    unfold trnC
    rw [hl, if_pos rfl]
    rcases h1 : inB p 0 (pos l l.length - 1) with _ | _
    · right; simp [h1]
    · rcases h2 : inB x 1 (min 40000 (pos l l.length)) with _ | _
      · right; simp
      · left
        have h3 := h1
        simp [inB] at h2 h3
        refine ⟨by simp [h1], rfl, by simp [h1], ?_⟩
        omega
theorem rd_one (w1 : World) (p : Int) : Rd (w1.alloc (.cells #[.int .i64 p] 2)) (some ⟨w1.heap.size, 0, none⟩) (ints [p]) := by
  refine .inr ⟨_, 0, rfl, by simp, fun j u hu => ?_⟩
  match j, hu with
  | 0, hu => simp [ints] at hu; subst hu; go_simp
set_option maxRecDepth 100000 in
theorem c_OccupiedBlocks (c : Nat) (p x : Int) (h : LB w A n l A' c' n' fs) :
    Calls Try.prog 9 #[.agg #[.slice A n c], .slice A' n' c', .int .i64 p, .int .i64 x] w (RetIC (occR l fs p x) (occC l fs p x) w) := by
  rcases hok : okB l fs with _ | _
  · have hok' : (layB l && blkB l fs) = false := hok
    have HC : Hid (occC l fs p x = 1) := Lib.hid (by unfold occC; rw [hok]; rfl)
    have HR : Hid (occR l fs p x = []) := Lib.hid (by unfold occR; rw [HC.out]; rfl)
    go_enter Try.func9, Try.ntmps9
    go_wp2_with (first
      | (go_at_call 17
         refine (k_AreBlocks _ (h.alloc _)).mono ?_
         rintro e w1 ⟨rfl, hb⟩
         first | replace B := below_chain B hb | (have B : Below w.heap.size w w1 := below_chain (by (repeat (first | exact Below.refl _ _ | assumption | refine below_alloc ?_ _ | refine below_drewN ?_ _ | refine below_set ?_ _ (by simp; try omega) | refine Below.drew ?_))) hb)
         clear hb)
      )
    go_ret2
    rw [HC.out]
    exact retIC_nil HR.out B
  have hok' : (layB l && blkB l fs) = true := hok
  have HE : Hid (occC l fs p x = trnC l x [p]) := Lib.hid (by unfold occC; rw [hok]; rfl)
  rcases occC_cases l fs p x with ⟨hc, _, ht, hx0, hx1, hxT, hp0, hp1⟩ | hc
  · have HR : Hid (occR l fs p x = occL l fs p x fs.length) := Lib.hid (by unfold occR; rw [if_pos hc])
    have HC := Lib.hid hc
    clear hc
    go_enter Try.func9, Try.ntmps9
    go_wp2_with (first
      | (go_at_call 17
         refine (k_AreBlocks _ (h.alloc _)).mono ?_
         rintro e w1 ⟨rfl, hb⟩
         first | replace k0 := cell_later hb k0 | (have k0 : w1.cell? ⟨w.heap.size, 0, none⟩ = some (.slice A n c) := cell_later hb (by go_simp))
         first | replace B := below_chain B hb | (have B : Below w.heap.size w w1 := below_chain (by (repeat (first | exact Below.refl _ _ | assumption | refine below_alloc ?_ _ | refine below_drewN ?_ _ | refine below_set ?_ _ (by simp; try omega) | refine Below.drew ?_))) hb)
         have h1 := Lib.hid ((h.alloc _).below hb)
         have hz0 := World.block_lt_of_cell? _ _ k0
         clear hb)
      | (go_at_call 18
         refine (c_trainCode _ _ _ l _ _ _ _ [p] _ h1.out.hn h1.out.hs (by exact (h1.out.alloc _).hr) rfl (by simp) (by exact rd_one _ _)).mono ?_
         rintro e w1 ⟨rfl, hb⟩
         first | replace k0 := cell_later hb k0 | (have k0 : w1.cell? ⟨w.heap.size, 0, none⟩ = some (.slice A n c) := cell_later hb (by go_simp))
         first | replace B := below_chain B hb | (have B : Below w.heap.size w w1 := below_chain (by (repeat (first | exact Below.refl _ _ | assumption | refine below_alloc ?_ _ | refine below_drewN ?_ _ | refine below_set ?_ _ (by simp; try omega) | refine Below.drew ?_))) hb)
         have h2 := Lib.hid ((h1.out.alloc _).below hb)
         clear hb)
      | (go_at_call 23
         refine (c_occupied _ _ _ hok hx0 hx1 hxT hp0 hp1 h2.out).mono ?_
         rintro e w1 ⟨A1, c1, rfl, ho, hb⟩
         have HO := Lib.hid ho
         have HB := Lib.hid (below_chain B hb)
         have hsz := B.size
         clear hb ho)
      )
    go_ret2
    refine ⟨A1, c1, ?_, ?_, HB.out⟩
    · rw [HC.out, HR.out]; rfl
    · rw [HR.out]; exact own_mono HO.out hsz
  · have HR : Hid (occR l fs p x = []) := Lib.hid (by unfold occR; rw [if_neg hc])
    have hc' : (trnC l x [p] == 0) = false := by rw [← HE.out]; simp [hc]
    have hc2 : (trnC l x [p] != 0) = true := by rw [← HE.out]; simp [hc]
    clear hc
    go_enter Try.func9, Try.ntmps9
    go_wp2_with (first
      | (go_at_call 17
         refine (k_AreBlocks _ (h.alloc _)).mono ?_
         rintro e w1 ⟨rfl, hb⟩
         first | replace k0 := cell_later hb k0 | (have k0 : w1.cell? ⟨w.heap.size, 0, none⟩ = some (.slice A n c) := cell_later hb (by go_simp))
         first | replace k0 := cell_later hb k0 | (have k0 : w1.cell? ⟨w.heap.size, 0, none⟩ = some (.slice A n c) := cell_later hb (by go_simp))
         first | replace B := below_chain B hb | (have B : Below w.heap.size w w1 := below_chain (by (repeat (first | exact Below.refl _ _ | assumption | refine below_alloc ?_ _ | refine below_drewN ?_ _ | refine below_set ?_ _ (by simp; try omega) | refine Below.drew ?_))) hb)
         have h1 := Lib.hid ((h.alloc _).below hb)
         have hz0 := World.block_lt_of_cell? _ _ k0
         clear hb)
      | (go_at_call 18
         refine (c_trainCode _ _ _ l _ _ _ _ [p] _ h1.out.hn h1.out.hs (by exact (h1.out.alloc _).hr) rfl (by simp) (by exact rd_one _ _)).mono ?_
         rintro e w1 ⟨rfl, hb⟩
         first | replace k0 := cell_later hb k0 | (have k0 : w1.cell? ⟨w.heap.size, 0, none⟩ = some (.slice A n c) := cell_later hb (by go_simp))
         first | replace k0 := cell_later hb k0 | (have k0 : w1.cell? ⟨w.heap.size, 0, none⟩ = some (.slice A n c) := cell_later hb (by go_simp))
         first | replace B := below_chain B hb | (have B : Below w.heap.size w w1 := below_chain (by (repeat (first | exact Below.refl _ _ | assumption | refine below_alloc ?_ _ | refine below_drewN ?_ _ | refine below_set ?_ _ (by simp; try omega) | refine Below.drew ?_))) hb)
         clear hb)
      )
    go_ret2
    rw [HE.out]
    exact retIC_nil HR.out B
end
end Go.Proofs.Ythkghpmfbdojeaa
