/- Contracts of size, isPosition, segmentAt (program), l03Total, l03At (reference). -/
import Derived.Test.YthkghpmfbdojeaaBlkOf
namespace Go.Proofs.Ythkghpmfbdojeaa
open Go.RowKit

theorem stL_ris {l : List Seg} (hl : Lay l) : Ris (stL l (l.length + 1)) 5000000 := by
  have hg : ∀ {j : Nat} {z : Int}, (stL l (l.length + 1))[j]? = some z → j ≤ l.length ∧ z = pos l j := by
    intro j z hz
    have hj : j < l.length + 1 := by
      have := (List.getElem?_eq_some_iff.1 hz).1
      rwa [stL_length] at this
    rw [stL_get hj] at hz
    simp only [Option.some.injEq] at hz
    exact ⟨by omega, hz.symm⟩
  refine ⟨fun j z hz => ?_, fun j z hz => ?_, fun j y z hy hz => ?_⟩
  · obtain ⟨h1, rfl⟩ := hg hz
    exact (pos_small hl h1).1
  · obtain ⟨h1, rfl⟩ := hg hz
    have := (pos_small hl h1).2
    omega
  · obtain ⟨h1, rfl⟩ := hg hy
    obtain ⟨h2, rfl⟩ := hg hz
    exact pos_lt hl (by omega) h2
def atN (l : List Seg) (p : Int) : Nat := lastN (stL l (l.length + 1)) p
theorem at_spec {l : List Seg} (_hl : Lay l) {p : Int} (h0 : 0 ≤ p) (h1 : p < pos l l.length) : LastLe (stL l (l.length + 1)) p (atN l p) ∧ atN l p < l.length ∧ pos l (atN l p) ≤ p ∧ p < pos l (atN l p + 1) := by
  have hz : (stL l (l.length + 1))[0]? = some 0 := by rw [stL_get (by omega), pos_zero]
  have h := lastN_spec hz h0
  have hlt : atN l p < l.length := by
    have h2 := h.lt
    rw [stL_length] at h2
    rcases Nat.lt_or_ge (atN l p) l.length with h3 | h3
    · exact h3
    · have e : lastN (stL l (l.length + 1)) p = l.length := by unfold atN at h3; omega
      have := h.le (pos l l.length) (by rw [e]; exact stL_get (by omega))
      omega
  refine ⟨h, hlt, h.le _ (stL_get (by unfold atN at hlt; omega)), h.next _ (stL_get (by unfold atN at hlt; omega))⟩
set_option maxRecDepth 100000 in
theorem c_size (A : Option Addr) (c n : Nat) (l : List Seg) (w : World) (hn : n = l.length) (hs : n ≤ 1048576) (hr : Rd w A (segCells l)) (hl : Lay l) :
    Calls Try.prog 47 #[.agg #[.slice A n c]] w fun e w' => e = .returned (.int .i64 (pos l l.length)) ∧ Below w.heap.size w w' := by
  have HN := Lib.hid hn
  have hn0 : (0 : Int) ≤ (n : Int) := by omega
  have hn1 : (n : Int) < (n : Int) + 1 := by omega
  have HR := Lib.hid (hr.alloc (.cells #[.slice A n c] 26))
  clear hn hr
  go_enter Try.func47, Try.ntmps47
  go_wp2_with (fail)
  go_region_with (first
        | (go_at_call 54
           refine (c_starts _ _ _ l _ HN.out hs (by exact HR.out) hl).mono ?_
           rintro e2 w2 ⟨A1, c1, rfl, ho, hb2⟩
           rw [stL_length] at ho ⊢
           have k2 : w2.cell? ⟨w.heap.size, 0, none⟩ = some (.slice A n c) := cell_later hb2 (by go_simp)
           have HB2 := Lib.hid (below_chain (by (repeat (first | exact Below.refl _ _ | assumption | refine below_alloc ?_ _ | refine below_drewN ?_ _ | refine below_set ?_ _ (by simp; try omega) | refine Below.drew ?_)) : Below w.heap.size w _) hb2)
           obtain ⟨gs, rfl, gf⟩ : ∃ gs, A1 = some ⟨gs, 0, none⟩ ∧ w2.cell? ⟨gs, n, none⟩ = some (.int .i64 (pos l n)) := by
             obtain ⟨g, cap, hv⟩ := own_form ho
             simp only [Value.slice.injEq, true_and] at hv
             obtain ⟨rfl, rfl⟩ := hv
             refine ⟨g, rfl, ?_⟩
             rw [ho.cellAt n (by omega)]
             simp [ints, stL_get (show n < n + 1 by omega)]
           clear hb2 ho))
  all_goals go_wp2_with (fail)
  all_goals go_ret
  all_goals (refine ⟨?_, HB2.out⟩; rw [← HN.out]; simp [Act.put])
set_option maxRecDepth 100000 in
theorem c_isPosition (A : Option Addr) (c n : Nat) (l : List Seg) (p : Int) (w : World) (hn : n = l.length) (hs : n ≤ 1048576) (hr : Rd w A (segCells l)) (hl : Lay l) :
    Calls Try.prog 25 #[.agg #[.slice A n c], .int .i64 p] w fun e w' => e = .returned (.bool (inB p 0 (pos l l.length - 1))) ∧ Below w.heap.size w w' := by
  have HN := Lib.hid hn
  have hp := pos_small hl (k := l.length) (Nat.le_refl _)
  generalize hP : pos l l.length = P at *
  have HP := Lib.hid hP
  clear hn hP
  go_enter Try.func25, Try.ntmps25
  go_wp2_with (first
    | (go_at_call 47
       refine (c_size _ _ _ l _ HN.out hs (hr.alloc _) hl).mono ?_
       rintro e w1 ⟨rfl, hb⟩
       first | replace B := below_chain B hb | (have B : Below w.heap.size w w1 := below_chain (by (repeat (first | exact Below.refl _ _ | assumption | refine below_alloc ?_ _ | refine below_drewN ?_ _ | refine below_set ?_ _ (by simp; try omega) | refine Below.drew ?_))) hb)
       rw [HP.out]
       clear hb)
    | (go_at_call 53
       refine (c_within _ _ _ _).mono ?_
       rintro e w' ⟨rfl, rfl⟩)
    )
  go_ret
  exact ⟨rfl, by (repeat (first | exact Below.refl _ _ | assumption | refine below_alloc ?_ _ | refine below_drewN ?_ _ | refine below_set ?_ _ (by simp; try omega) | refine Below.drew ?_))⟩
set_option maxRecDepth 100000 in
theorem c_segmentAt (A : Option Addr) (c n : Nat) (l : List Seg) (p : Int) (w : World) (hn : n = l.length) (hs : n ≤ 1048576) (hr : Rd w A (segCells l)) (hl : Lay l) (h0 : 0 ≤ p) (h1 : p < pos l l.length) :
    Calls Try.prog 26 #[.agg #[.slice A n c], .int .i64 p] w fun e w' => e = .returned (.tuple #[.int .i64 (atN l p), .int .i64 (p - pos l (atN l p))]) ∧ Below w.heap.size w w' := by
  have HN := Lib.hid hn
  obtain ⟨hL, hlt, hlo, hhi⟩ := at_spec hl h0 h1
  have hp := pos_small hl (k := l.length) (Nat.le_refl _)
  have hpk := pos_small hl (k := atN l p) (by omega)
  have hn24 := hl.hi
  generalize atN l p = k at *
  have hkn : k < n + 1 := by omega
  have hkn' : k < n := by omega
  have hn30 : n ≤ 24 := by omega
  have hparts := last_parts (stL_ris hl) hL
  rw [← hn] at hparts
  have hPARTS := Lib.hid hparts
  have hw : IntKind.i64.wrap (p - pos l k) = p - pos l k := IntWalk.i64_in _ (by omega)
  have hi0 : (0 : Int) ≤ (k : Int) := by omega
  have hi1 : (k : Int) < (n : Int) + 1 := by omega
  clear hn hparts hn24
  go_enter Try.func26, Try.ntmps26
  go_wp2_with (fail)
  refine (c_starts _ _ _ l _ HN.out hs (hr.alloc _) hl).mono ?_
  rintro e1 w1 ⟨A1, c1, rfl, ho, hb⟩
  rw [stL_length] at ho ⊢
  have B : Below w.heap.size w w1 := below_chain (by (repeat (first | exact Below.refl _ _ | assumption | refine below_alloc ?_ _ | refine below_drewN ?_ _ | refine below_set ?_ _ (by simp; try omega) | refine Below.drew ?_))) hb
  obtain ⟨gs, cap, hv⟩ := own_form ho
  simp only [Value.slice.injEq, true_and] at hv
  obtain ⟨rfl, rfl⟩ := hv
  have gk : w1.cell? ⟨gs, k, none⟩ = some (.int .i64 (pos l k)) := by
    rw [ho.cellAt k (by omega)]
    simp [ints, stL_get hkn]
  have hrd := Lib.hid (Rd.own ho)
  have HB := Lib.hid B
  clear ho hb B hl
  rcases hPARTS.out with ⟨h3, h4⟩ | ⟨_, h3, h4⟩
  · have hf : fndB (stL l (n + 1)) p k = true := by unfold fndB; rw [h3]; simp
    clear h3
    go_wp2_with (first
      | (go_at_call 55
         refine (c_BinarySearch _ _ _ (stL l (n + 1)) _ k _ (by rw [stL_length]) (by omega) hrd.out h4).mono ?_
         rintro e2 w2 ⟨rfl, hb2⟩
         have gk2 : w2.cell? ⟨gs, k, none⟩ = some (.int .i64 (pos l k)) := cell_later hb2 gk
         have HB2 := Lib.hid (below_chain HB.out hb2)
         clear hb2)
      )
    refine wp_region_quiet_lit (by kernel_rfl) (by kernel_rfl) ?_
    (repeat (any_goals (first | go_big_quiet_step (fail) | quiet_step (fail) | (refine wpQuiet_step (fun K hK => ?_); go_simp; split <;> (refine hK _ ?_; clear hK K)))))
    all_goals (refine wpQuiet_nil ?_; intro _ hw'; obtain ⟨nq, hw''⟩ := hw'; subst hw'')
    go_wp2
    go_ret2
    exact ⟨rfl, below_drewN HB2.out _⟩
  · have hf : fndB (stL l (n + 1)) p (k + 1) = false := by unfold fndB; simpa using h3
    clear h3
    go_wp2_with (first
      | (go_at_call 55
         refine (c_BinarySearch _ _ _ (stL l (n + 1)) _ (k + 1) _ (by rw [stL_length]) (by omega) hrd.out h4).mono ?_
         rintro e2 w2 ⟨rfl, hb2⟩
         have gk2 : w2.cell? ⟨gs, k, none⟩ = some (.int .i64 (pos l k)) := cell_later hb2 gk
         have HB2 := Lib.hid (below_chain HB.out hb2)
         clear hb2)
      )
    refine wp_region_quiet_lit (by kernel_rfl) (by kernel_rfl) ?_
    (repeat (any_goals (first | go_big_quiet_step (fail) | quiet_step (fail) | (refine wpQuiet_step (fun K hK => ?_); go_simp; split <;> (refine hK _ ?_; clear hK K)))))
    all_goals (refine wpQuiet_nil ?_; intro _ hw'; obtain ⟨nq, hw''⟩ := hw'; subst hw'')
    go_wp2
    go_ret2
    exact ⟨rfl, below_drewN HB2.out _⟩
set_option maxRecDepth 100000 in
theorem c_l03Total (A : Option Addr) (c n : Nat) (l : List Seg) (w : World) (hn : n = l.length) (hr : Rd w A (segCells l)) (hl : Lay l) :
    Calls Try.prog 35 #[.agg #[.slice A n c]] w fun e w' => e = .returned (.int .i64 (pos l l.length)) ∧ Below w.heap.size w w' := by
  have HN := Lib.hid hn
  have hn24 : n ≤ 24 := by have := hl.hi; omega
  clear hn
  go_enter Try.func35, Try.ntmps35
  go_wp2
  go_loop [3, 4] (fun t i => ∃ k : Nat, k ≤ n ∧ i = .int .i64 k ∧ t = .int .i64 (pos l k)) (fun _ i => n - (intOf i).toNat)
  case atStart => exact ⟨0, Nat.zero_le _, rfl, by rw [pos_zero]⟩
  case round =>
    obtain ⟨k, hk, rfl, rfl⟩ := hrel
    by_cases hlt : k < n
    · obtain ⟨s, hz⟩ : ∃ z, l[k]? = some z := ⟨_, List.getElem?_eq_getElem (by have := HN.out; omega)⟩
      have hsl := segOk_l (hl.ok _ (List.mem_of_getElem? hz))
      have hpk := pos_small hl (k := k) (by have := HN.out; omega)
      have HPS := Lib.hid (pos_succ hz)
      obtain ⟨b, off, rfl, _, g0, g1, g2, g3, g4, g5, g6⟩ := hr.seg hz
      clear hz hr hl
      go_wp2
      go_round
      case rel => exact ⟨k + 1, by omega, by go_num, by rw [HPS.out]⟩
      case measure => simp [intOf]; omega
    · have : k = n := by omega
      subst this
      go_wp2
      go_ret
      exact ⟨ret_int (by rw [← HN.out]), by (repeat (first | exact Below.refl _ _ | assumption | refine below_alloc ?_ _ | refine below_drewN ?_ _ | refine below_set ?_ _ (by simp; try omega) | refine Below.drew ?_))⟩
set_option maxRecDepth 100000 in
theorem c_l03At (A : Option Addr) (c n : Nat) (l : List Seg) (p : Int) (w : World) (hn : n = l.length) (hr : Rd w A (segCells l)) (hl : Lay l) (h0 : 0 ≤ p) (h1 : p < pos l l.length) :
    Calls Try.prog 68 #[.agg #[.slice A n c], .int .i64 p] w fun e w' => e = .returned (.tuple #[.int .i64 (atN l p), .int .i64 (p - pos l (atN l p))]) ∧ Below w.heap.size w w' := by
  have HN := Lib.hid hn
  obtain ⟨_, hlt, hlo, hhi⟩ := at_spec hl h0 h1
  have hp := pos_small hl (k := l.length) (Nat.le_refl _)
  generalize atN l p = e at *
  have hen : e < n := by omega
  have hn24 : n ≤ 24 := by have := hl.hi; omega
  clear hn
  go_enter Try.func68, Try.ntmps68
  go_wp2
  go_loop [1, 6] (fun t i => ∃ k : Nat, k ≤ e ∧ i = .int .i64 k ∧ t = .int .i64 (p - pos l k)) (fun _ i => n - (intOf i).toNat)
  case atStart => exact ⟨0, Nat.zero_le _, rfl, by rw [pos_zero]; simp⟩
  case round =>
    obtain ⟨k, hk, rfl, rfl⟩ := hrel
    have hkn : k < n := by omega
    obtain ⟨s, hz⟩ : ∃ z, l[k]? = some z := ⟨_, List.getElem?_eq_getElem (by have := HN.out; omega)⟩
    have hsl := segOk_l (hl.ok _ (List.mem_of_getElem? hz))
    have hpk := pos_small hl (k := k) (by have := HN.out; omega)
    have hPS := pos_succ hz
    have HPS := Lib.hid hPS
    have hmo := pos_le hl hk (by have := HN.out; omega)
    by_cases hlt2 : k < e
    · have hmo2 := pos_le hl (show k + 1 ≤ e from hlt2) (by have := HN.out; omega)
      have htest : s.l ≤ p - pos l k := by omega
      have hp2 : p ≤ 4800000 := by omega
      obtain ⟨b, off, rfl, _, g0, g1, g2, g3, g4, g5, g6⟩ := hr.seg hz
      clear hz hr hl hPS hlt hlo hhi hp h1
      go_wp2
      go_round
      case rel => exact ⟨k + 1, by omega, by go_num, by rw [HPS.out]; congr 1; omega⟩
      case measure => simp [intOf]; omega
    · obtain rfl : k = e := by omega
      have htest : ¬ s.l ≤ p - pos l k := by omega
      obtain ⟨b, off, rfl, _, g0, g1, g2, g3, g4, g5, g6⟩ := hr.seg hz
      clear hz hr hl hPS hlt hlo hhi hp h1
      go_wp2
      go_ret2
      exact ⟨rfl, by (repeat (first | exact Below.refl _ _ | assumption | refine below_alloc ?_ _ | refine below_drewN ?_ _ | refine below_set ?_ _ (by simp; try omega) | refine Below.drew ?_))⟩
def posCode (l : List Seg) (fs : List Int) (p : Int) : Int := if okB l fs then (if inB p 0 (pos l l.length - 1) then 0 else 2) else 1
def posBlk (l : List Seg) (fs : List Int) (p : Int) : Int := if posCode l fs p = 0 then lastN fs (atN l p) else 0
section
variable {A : Option Addr} {c n : Nat} {l : List Seg} {A' : Option Addr} {c' n' : Nat} {fs : List Int} {w : World}
set_option maxRecDepth 100000 in
theorem c_l04At (c : Nat) (p : Int) (hok : okB l fs = true) (h0 : 0 ≤ p) (h1 : p < pos l l.length) (h : LB w A n l A' c' n' fs) :
    Calls Try.prog 45 #[.agg #[.slice A n c], .slice A' n' c', .int .i64 p] w fun e w' => e = .returned (.int .i64 (lastN fs (atN l p))) ∧ Below w.heap.size w w' := by
  have HL := lastN_spec (t := (atN l p : Int)) (okB_zero hok) (by omega)
  have hl := okB_lay hok
  have hris := blkB_ris hok
  go_enter Try.func45, Try.ntmps45
  go_wp2_with (first
    | (go_at_call 68
       refine (c_l03At _ _ _ l p _ h.hn (h.hr.alloc _) hl h0 h1).mono ?_
       rintro e w1 ⟨rfl, hb⟩
       first | replace k0 := cell_later hb k0 | (have k0 : w1.cell? ⟨w.heap.size, 0, none⟩ = some (.slice A n c) := cell_later hb (by go_simp))
       first | replace B := below_chain B hb | (have B : Below w.heap.size w w1 := below_chain (by (repeat (first | exact Below.refl _ _ | assumption | refine below_alloc ?_ _ | refine below_drewN ?_ _ | refine below_set ?_ _ (by simp; try omega) | refine Below.drew ?_))) hb)
       have h' := Lib.hid ((h.alloc _).below hb)
       clear hb)
    | (go_at_call 69
       refine (c_l04Of _ _ _ fs _ _ _ _ h'.out.hn' h'.out.hs' h'.out.hr' hris HL).mono ?_
       rintro e w1 ⟨rfl, hb⟩
       first | replace k0 := cell_later hb k0 | (have k0 : w1.cell? ⟨w.heap.size, 0, none⟩ = some (.slice A n c) := cell_later hb (by go_simp))
       first | replace B := below_chain B hb | (have B : Below w.heap.size w w1 := below_chain (by (repeat (first | exact Below.refl _ _ | assumption | refine below_alloc ?_ _ | refine below_drewN ?_ _ | refine below_set ?_ _ (by simp; try omega) | refine Below.drew ?_))) hb)
       clear hb)
    )
  go_ret
  exact ⟨rfl, by (repeat (first | exact Below.refl _ _ | assumption | refine below_alloc ?_ _ | refine below_drewN ?_ _ | refine below_set ?_ _ (by simp; try omega) | refine Below.drew ?_))⟩
set_option maxRecDepth 100000 in
theorem c_BlockAt (c : Nat) (p : Int) (h : LB w A n l A' c' n' fs) :
    Calls Try.prog 11 #[.agg #[.slice A n c], .slice A' n' c', .int .i64 p] w fun e w' => e = .returned (.tuple #[.int .i64 (posBlk l fs p), .int .i64 (posCode l fs p)]) ∧ Below w.heap.size w w' := by
  rcases hok : okB l fs with _ | _
  · have hok' : (layB l && blkB l fs) = false := hok
    have HS : posCode l fs p = 1 := by unfold posCode; rw [hok]; rfl
    have HB : posBlk l fs p = 0 := by unfold posBlk; rw [if_neg (by rw [HS]; decide)]
    rw [HS, HB]
    clear HS HB
    go_enter Try.func11, Try.ntmps11
    go_wp2_with (first
      | (go_at_call 17
         refine (k_AreBlocks _ (h.alloc _)).mono ?_
         rintro e w1 ⟨rfl, hb⟩
         first | replace B := below_chain B hb | (have B : Below w.heap.size w w1 := below_chain (by (repeat (first | exact Below.refl _ _ | assumption | refine below_alloc ?_ _ | refine below_drewN ?_ _ | refine below_set ?_ _ (by simp; try omega) | refine Below.drew ?_))) hb)
         clear hb)
      )
    go_ret2
    exact ⟨rfl, by (repeat (first | exact Below.refl _ _ | assumption | refine below_alloc ?_ _ | refine below_drewN ?_ _ | refine below_set ?_ _ (by simp; try omega) | refine Below.drew ?_))⟩
  have hok' : (layB l && blkB l fs) = true := hok
  have hl := okB_lay hok
  rcases hin : inB p 0 (pos l l.length - 1) with _ | _
  · have HS : posCode l fs p = 2 := by unfold posCode; rw [hok, hin]; rfl
    have HB : posBlk l fs p = 0 := by unfold posBlk; rw [if_neg (by rw [HS]; decide)]
    rw [HS, HB]
    clear HS HB
    go_enter Try.func11, Try.ntmps11
    go_wp2_with (first
      | (go_at_call 17
         refine (k_AreBlocks _ (h.alloc _)).mono ?_
         rintro e w1 ⟨rfl, hb⟩
         first | replace k0 := cell_later hb k0 | (have k0 : w1.cell? ⟨w.heap.size, 0, none⟩ = some (.slice A n c) := cell_later hb (by go_simp))
         first | replace B := below_chain B hb | (have B : Below w.heap.size w w1 := below_chain (by (repeat (first | exact Below.refl _ _ | assumption | refine below_alloc ?_ _ | refine below_drewN ?_ _ | refine below_set ?_ _ (by simp; try omega) | refine Below.drew ?_))) hb)
         have h' := Lib.hid ((h.alloc _).below hb)
         clear hb)
      | (go_at_call 25
         refine (c_isPosition _ _ _ l _ _ h'.out.hn h'.out.hs h'.out.hr hl).mono ?_
         rintro e w1 ⟨rfl, hb⟩
         first | replace k0 := cell_later hb k0 | (have k0 : w1.cell? ⟨w.heap.size, 0, none⟩ = some (.slice A n c) := cell_later hb (by go_simp))
         first | replace B := below_chain B hb | (have B : Below w.heap.size w w1 := below_chain (by (repeat (first | exact Below.refl _ _ | assumption | refine below_alloc ?_ _ | refine below_drewN ?_ _ | refine below_set ?_ _ (by simp; try omega) | refine Below.drew ?_))) hb)
         clear hb)
      )
    go_ret2
    exact ⟨rfl, by (repeat (first | exact Below.refl _ _ | assumption | refine below_alloc ?_ _ | refine below_drewN ?_ _ | refine below_set ?_ _ (by simp; try omega) | refine Below.drew ?_))⟩
  · have HS : posCode l fs p = 0 := by unfold posCode; rw [hok, hin]; rfl
    have HB : posBlk l fs p = lastN fs (atN l p) := by unfold posBlk; rw [if_pos HS]
    rw [HS, HB]
    have h0 : 0 ≤ p := by simp [inB] at hin; exact hin.1
    have h1 : p < pos l l.length := by simp [inB] at hin; omega
    have HL := lastN_spec (t := (atN l p : Int)) (okB_zero hok) (by omega)
    have hris := blkB_ris hok
    clear HS HB
    go_enter Try.func11, Try.ntmps11
    go_wp2_with (first
      | (go_at_call 17
         refine (k_AreBlocks _ (h.alloc _)).mono ?_
         rintro e w1 ⟨rfl, hb⟩
         first | replace k0 := cell_later hb k0 | (have k0 : w1.cell? ⟨w.heap.size, 0, none⟩ = some (.slice A n c) := cell_later hb (by go_simp))
         first | replace k0 := cell_later hb k0 | (have k0 : w1.cell? ⟨w.heap.size, 0, none⟩ = some (.slice A n c) := cell_later hb (by go_simp))
         first | replace B := below_chain B hb | (have B : Below w.heap.size w w1 := below_chain (by (repeat (first | exact Below.refl _ _ | assumption | refine below_alloc ?_ _ | refine below_drewN ?_ _ | refine below_set ?_ _ (by simp; try omega) | refine Below.drew ?_))) hb)
         have h' := Lib.hid ((h.alloc _).below hb)
         clear hb)
      | (go_at_call 25
         refine (c_isPosition _ _ _ l _ _ h'.out.hn h'.out.hs h'.out.hr hl).mono ?_
         rintro e w1 ⟨rfl, hb⟩
         first | replace k0 := cell_later hb k0 | (have k0 : w1.cell? ⟨w.heap.size, 0, none⟩ = some (.slice A n c) := cell_later hb (by go_simp))
         first | replace k0 := cell_later hb k0 | (have k0 : w1.cell? ⟨w.heap.size, 0, none⟩ = some (.slice A n c) := cell_later hb (by go_simp))
         first | replace B := below_chain B hb | (have B : Below w.heap.size w w1 := below_chain (by (repeat (first | exact Below.refl _ _ | assumption | refine below_alloc ?_ _ | refine below_drewN ?_ _ | refine below_set ?_ _ (by simp; try omega) | refine Below.drew ?_))) hb)
         have h'' := Lib.hid (h'.out.below hb)
         clear hb)
      | (go_at_call 26
         refine (c_segmentAt _ _ _ l p _ h''.out.hn h''.out.hs h''.out.hr hl h0 h1).mono ?_
         rintro e w1 ⟨rfl, hb⟩
         first | replace k0 := cell_later hb k0 | (have k0 : w1.cell? ⟨w.heap.size, 0, none⟩ = some (.slice A n c) := cell_later hb (by go_simp))
         first | replace k0 := cell_later hb k0 | (have k0 : w1.cell? ⟨w.heap.size, 0, none⟩ = some (.slice A n c) := cell_later hb (by go_simp))
         first | replace B := below_chain B hb | (have B : Below w.heap.size w w1 := below_chain (by (repeat (first | exact Below.refl _ _ | assumption | refine below_alloc ?_ _ | refine below_drewN ?_ _ | refine below_set ?_ _ (by simp; try omega) | refine Below.drew ?_))) hb)
         have h3 := Lib.hid (h''.out.below hb)
         clear hb)
      | (go_at_call 27
         refine (c_blockOfSegment _ _ _ fs _ _ _ _ h3.out.hn' h3.out.hs' h3.out.hr' hris HL).mono ?_
         rintro e w1 ⟨rfl, hb⟩
         first | replace k0 := cell_later hb k0 | (have k0 : w1.cell? ⟨w.heap.size, 0, none⟩ = some (.slice A n c) := cell_later hb (by go_simp))
         first | replace k0 := cell_later hb k0 | (have k0 : w1.cell? ⟨w.heap.size, 0, none⟩ = some (.slice A n c) := cell_later hb (by go_simp))
         first | replace B := below_chain B hb | (have B : Below w.heap.size w w1 := below_chain (by (repeat (first | exact Below.refl _ _ | assumption | refine below_alloc ?_ _ | refine below_drewN ?_ _ | refine below_set ?_ _ (by simp; try omega) | refine Below.drew ?_))) hb)
         clear hb)
      )
    go_ret2
    exact ⟨rfl, by (repeat (first | exact Below.refl _ _ | assumption | refine below_alloc ?_ _ | refine below_drewN ?_ _ | refine below_set ?_ _ (by simp; try omega) | refine Below.drew ?_))⟩
end
end Go.Proofs.Ythkghpmfbdojeaa
