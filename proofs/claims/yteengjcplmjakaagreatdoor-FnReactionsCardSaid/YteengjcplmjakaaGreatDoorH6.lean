/- Contracts and helpers (joined texts, part 6). The conditions stand at each theorem. -/
import Derived.Test.YteengjcplmjakaaGreatDoorH5
import Derived.Test.YteengjcplmjakaaGreatDoorH4
import Derived.Test.YteengjcplmjakaaGreatDoorH3
/- IsCode on the program's side, over exact terms (printed by kcode.py out of CMn CIb CIc CIh CIe). Condition: the lists' sizes; the keywords lie there. -/
namespace Go.Proofs.YteengjcplmjakaaGreatDoor
open Go.RowKit

set_option maxRecDepth 100000 in
theorem c_IsBlock (t : Tm) (w : World) (hs : t.nm.size ≤ 1048576) (hk : KwR w) : Calls Tryz.prog 97 #[.agg #[.int .i64 t.k, .string t.nm, .int .i64 t.n]] w fun e w' => e = .returned (.bool (blkB t)) ∧ Below w.heap.size w w' := by
  have HT := Lib.hid (fun w (h : KwR w) => c_isTerm t.k t.nm t.n w hs h)
  have HV : Hid ((trmT t.k t.nm t.n && decide (7 ≤ t.k)) = blkB t) := Lib.hid rfl
  have HK := Lib.hid hk
  clear hk
  obtain ⟨k, nm, n⟩ := t
  dsimp only at hs HT HV ⊢
  generalize trmT k nm n = b at *
  go_enter Tryz.func97, Tryz.ntmps97
  go_wp2_with (fail)
  refine (HT.out _ (HK.out.below (below_alloc (Below.refl _ _) _))).mono ?_
  rintro e w1 ⟨rfl, hb⟩
  have HB := Lib.hid (below_chain (below_alloc (Below.refl _ _) _) hb)
  have k0 : w1.cell? ⟨w.heap.size, 0, none⟩ = some (.int .i64 k) := cell_later hb (by go_simp)
  clear hb HT
  cases b
  · go_wp2_with (fail)
    go_ret
    exact ⟨ret_bool (by rw [← HV.out]; rfl), HB.out⟩
  · go_wp2_with (fail)
    go_ret
    exact ⟨ret_bool (by rw [← HV.out]; simp), HB.out⟩
set_option maxRecDepth 100000 in
theorem c_notBlock (t : Tm) (w : World) (hs : t.nm.size ≤ 1048576) (hk : KwR w) : Calls Tryz.prog 96 #[.agg #[.int .i64 t.k, .string t.nm, .int .i64 t.n]] w fun e w' => e = .returned (.bool (!blkB t)) ∧ Below w.heap.size w w' := by
  have HK := Lib.hid hk
  clear hk
  go_enter Tryz.func96, Tryz.ntmps96
  go_wp2_with (fail)
  refine (c_IsBlock t _ hs (HK.out.below (below_alloc (Below.refl _ _) _))).mono ?_
  rintro e w1 ⟨rfl, hb⟩
  have HB := Lib.hid (below_chain (below_alloc (Below.refl _ _) _) hb)
  clear hb
  go_wp2_with (fail)
  go_ret
  exact ⟨rfl, HB.out⟩
/-- What a closure over one captured value answers at a test. -/
def ClTm (f : Nat) (pr : Tm → Bool) (l : List Tm) (w : World) : Prop :=
  ∀ (wr : World) (t : Tm), t ∈ l → Below w.heap.size w wr → Calls Tryz.prog f #[.agg #[.int .i64 t.k, .string t.nm, .int .i64 t.n]] wr fun e w2 => e = .returned (.bool (pr t)) ∧ Below wr.heap.size wr w2
set_option maxRecDepth 100000 in
theorem c_IndexTm (f : Nat) (pr : Tm → Bool) (A : Option Addr) (c : Nat) (l : List Tm) (w : World) (hl2 : l.length ≤ 1048576) (hv : Rd w A (tmCells l)) (hcall : Hid (ClTm f pr l w)) (hent : ∀ (args : Array Value) (w : World), (callFunc f args).run Tryz.prog w = .ok (.enter f args) w) :
    Calls Tryz.prog 146 #[.slice A l.length c, .func (.func f) #[] #[]] w fun e w' => e = .returned (.int .i64 (idxI pr l)) ∧ Below w.heap.size w w' := by
  have HR := Lib.hid (rfl : idxI pr l = idxI pr l)
  generalize hR : idxI pr l = R at HR
  replace HR := Lib.hid hR
  clear hR
  generalize hvn : l.length = vn at *
  have HVN := Lib.hid hvn
  have HV := Lib.hid hv
  clear hv hvn
  go_enter Tryz.func146, Tryz.ntmps146
  go_wp2
  go_loopw [8] (fun i wr => ∃ k : Nat, k ≤ vn ∧ i = .int .i64 k ∧ Hid ((l.take k).any pr = false) ∧ Below w.heap.size w wr) (fun i _ => vn - (intOf i).toNat)
  case atStart => exact ⟨0, Nat.zero_le _, rfl, Lib.hid rfl, by (repeat (first | exact Below.refl _ _ | assumption | refine below_alloc ?_ _ | refine below_drewN ?_ _ | refine below_set ?_ _ (by simp; try omega) | refine Below.drew ?_))⟩
  case round =>
    obtain ⟨k, hk, rfl, ha, hb⟩ := hrel
    by_cases hlt : k < vn
    · obtain ⟨t, hz⟩ : ∃ z, l[k]? = some z := ⟨_, List.getElem?_eq_getElem (by have := HVN.out; omega)⟩
      obtain ⟨b', off, rfl, _, g0, g1, g2⟩ := (HV.out.below hb).tm hz
      have HZZ := Lib.hid hz
      have HBE := Lib.hid hb
      have HC := Lib.hid (hcall.out wr t (List.mem_of_getElem? hz) hb)
      clear hz hb
      rcases hin : pr t with _ | _
      · rw [hin] at HC
        have HI := Lib.hid hin
        clear hin
        go_wp2_with (fail)
        refine HC.out.mono ?_
        rintro e w2 ⟨rfl, hb⟩
        have HB2 := Lib.hid (below_chain HBE.out hb)
        clear hb
        go_wp2
        go_roundw
        case rel => exact ⟨k + 1, by omega, by go_num, Lib.hid (any_take_snoc HZZ.out ha.out HI.out), HB2.out⟩
        case measure => simp [intOf]; omega
      · rw [hin] at HC
        have HI := Lib.hid hin
        clear hin
        go_wp2_with (fail)
        refine HC.out.mono ?_
        rintro e w2 ⟨rfl, hb⟩
        have HB2 := Lib.hid (below_chain HBE.out hb)
        clear hb
        go_wp2
        go_ret
        exact ⟨ret_int (by rw [← HR.out, idxI_found HZZ.out ha.out HI.out]), HB2.out⟩
    · have : k = vn := by omega
      subst this
      have hA := ha.out
      rw [List.take_of_length_le (by have := HVN.out; omega)] at hA
      have HA := Lib.hid hA
      clear hA ha
      go_wp2
      go_ret
      exact ⟨ret_int (by rw [← HR.out, idxI_none HA.out]), hb⟩
set_option maxRecDepth 100000 in
theorem c_ContainsTm (f : Nat) (pr : Tm → Bool) (A : Option Addr) (c : Nat) (l : List Tm) (w : World) (hl2 : l.length ≤ 1048576) (hv : Rd w A (tmCells l)) (hcall : Hid (ClTm f pr l w)) (hent : ∀ (args : Array Value) (w : World), (callFunc f args).run Tryz.prog w = .ok (.enter f args) w) :
    Calls Tryz.prog 95 #[.slice A l.length c, .func (.func f) #[] #[]] w fun e w' => e = .returned (.bool (l.any pr)) ∧ Below w.heap.size w w' := by
  have HC := Lib.hid (c_IndexTm f pr A c l w hl2 hv hcall hent)
  have HA := Lib.hid (idxI_any pr l)
  generalize idxI pr l = i at HC HA
  generalize l.any pr = r at HA ⊢
  generalize l.length = n at *
  clear hv hcall hent
  go_enter Tryz.func95, Tryz.ntmps95
  go_wp2_with (fail)
  refine HC.out.mono ?_
  rintro e w1 ⟨rfl, hb⟩
  have HB := Lib.hid hb
  clear hb
  go_wp2
  go_ret
  exact ⟨ret_bool HA.out, HB.out⟩
set_option maxRecDepth 100000 in
theorem c_lengthT (A : Option Addr) (c n : Nat) (w : World) (hn : n ≤ 1048576) : Calls Tryz.prog 178 #[.slice A n c] w fun e w' => e = .returned (.int .i64 n) ∧ w = w' := by
  have hw : IntKind.i64.wrap (n : Int) = n := IntWalk.i64_in _ (by omega)
  go_enter Tryz.func178, Tryz.ntmps178
  go_wp2_with (fail)
  go_ret
  exact ⟨rfl, rfl⟩
set_option maxHeartbeats 1000000 in
set_option maxRecDepth 100000 in
theorem c_many (c : Cd) (ab as_ : Option Addr) (cb cs : Nat) (o : Int) (w : World) (hd : Hd c) :
    Calls Tryz.prog 148 #[cv c ab as_ cb cs, .int .i64 o] w fun e w' => e = .returned (.int .i64 (manyI c o)) ∧ Below w.heap.size w w' := by
  have hb := hd.b
  clear hd
  by_cases h1 : o = 1
  · subst h1
    dsimp only [cv]
    go_enter Tryz.func148, Tryz.ntmps148
    go_wp2_with (fail)
    go_ret
    exact ⟨rfl, by (repeat (first | exact Below.refl _ _ | assumption | refine below_alloc ?_ _ | refine below_drewN ?_ _ | refine below_set ?_ _ (by simp; try omega) | refine Below.drew ?_))⟩
  by_cases h2 : o = 2
  · subst h2
    dsimp only [cv]
    go_enter Tryz.func148, Tryz.ntmps148
    go_wp2_with (fail)
    go_ret
    exact ⟨rfl, by (repeat (first | exact Below.refl _ _ | assumption | refine below_alloc ?_ _ | refine below_drewN ?_ _ | refine below_set ?_ _ (by simp; try omega) | refine Below.drew ?_))⟩
  by_cases h3 : o = 3
  · subst h3
    dsimp only [cv]
    go_enter Tryz.func148, Tryz.ntmps148
    go_wp2_with (fail)
    go_ret
    exact ⟨rfl, by (repeat (first | exact Below.refl _ _ | assumption | refine below_alloc ?_ _ | refine below_drewN ?_ _ | refine below_set ?_ _ (by simp; try omega) | refine Below.drew ?_))⟩
  by_cases h4 : o = 4
  · subst h4
    dsimp only [cv]
    go_enter Tryz.func148, Tryz.ntmps148
    go_wp2_with (fail)
    go_ret
    exact ⟨rfl, by (repeat (first | exact Below.refl _ _ | assumption | refine below_alloc ?_ _ | refine below_drewN ?_ _ | refine below_set ?_ _ (by simp; try omega) | refine Below.drew ?_))⟩
  by_cases h5 : o = 5
  · subst h5
    dsimp only [cv]
    go_enter Tryz.func148, Tryz.ntmps148
    go_wp2_with (fail)
    go_ret
    exact ⟨rfl, by (repeat (first | exact Below.refl _ _ | assumption | refine below_alloc ?_ _ | refine below_drewN ?_ _ | refine below_set ?_ _ (by simp; try omega) | refine Below.drew ?_))⟩
  by_cases h6 : o = 6
  · subst h6
    dsimp only [cv]
    go_enter Tryz.func148, Tryz.ntmps148
    go_wp2_with (fail)
    go_ret
    exact ⟨rfl, by (repeat (first | exact Below.refl _ _ | assumption | refine below_alloc ?_ _ | refine below_drewN ?_ _ | refine below_set ?_ _ (by simp; try omega) | refine Below.drew ?_))⟩
  by_cases h7 : o = 7
  · subst h7
    dsimp only [cv]
    go_enter Tryz.func148, Tryz.ntmps148
    go_wp2_with (first
      | (go_at_call 178
         refine (c_lengthT _ _ _ _ (by omega)).mono ?_
         rintro e w' ⟨rfl, rfl⟩)
      )
    go_ret
    exact ⟨rfl, by (repeat (first | exact Below.refl _ _ | assumption | refine below_alloc ?_ _ | refine below_drewN ?_ _ | refine below_set ?_ _ (by simp; try omega) | refine Below.drew ?_))⟩
  by_cases h8 : o = 8
  · subst h8
    dsimp only [cv]
    go_enter Tryz.func148, Tryz.ntmps148
    go_wp2_with (fail)
    go_ret
    exact ⟨rfl, by (repeat (first | exact Below.refl _ _ | assumption | refine below_alloc ?_ _ | refine below_drewN ?_ _ | refine below_set ?_ _ (by simp; try omega) | refine Below.drew ?_))⟩
  by_cases h9 : o = 9
  · subst h9
    dsimp only [cv]
    go_enter Tryz.func148, Tryz.ntmps148
    go_wp2_with (fail)
    go_ret
    exact ⟨rfl, by (repeat (first | exact Below.refl _ _ | assumption | refine below_alloc ?_ _ | refine below_drewN ?_ _ | refine below_set ?_ _ (by simp; try omega) | refine Below.drew ?_))⟩
  by_cases h10 : o = 10
  · subst h10
    dsimp only [cv]
    go_enter Tryz.func148, Tryz.ntmps148
    go_wp2_with (fail)
    go_ret
    exact ⟨rfl, by (repeat (first | exact Below.refl _ _ | assumption | refine below_alloc ?_ _ | refine below_drewN ?_ _ | refine below_set ?_ _ (by simp; try omega) | refine Below.drew ?_))⟩
  by_cases h11 : o = 11
  · subst h11
    dsimp only [cv]
    go_enter Tryz.func148, Tryz.ntmps148
    go_wp2_with (fail)
    go_ret
    exact ⟨rfl, by (repeat (first | exact Below.refl _ _ | assumption | refine below_alloc ?_ _ | refine below_drewN ?_ _ | refine below_set ?_ _ (by simp; try omega) | refine Below.drew ?_))⟩
  have e1 : (o == 1) = false := by simpa using h1
  have e2 : (o == 2) = false := by simpa using h2
  have e3 : (o == 3) = false := by simpa using h3
  have e4 : (o == 4) = false := by simpa using h4
  have e5 : (o == 5) = false := by simpa using h5
  have e6 : (o == 6) = false := by simpa using h6
  have e7 : (o == 7) = false := by simpa using h7
  have e8 : (o == 8) = false := by simpa using h8
  have e9 : (o == 9) = false := by simpa using h9
  have e10 : (o == 10) = false := by simpa using h10
  have e11 : (o == 11) = false := by simpa using h11
  have HM : Hid (manyI c o = 0) := Lib.hid (by unfold manyI; rw [if_neg h1, if_neg (by omega), if_neg (by omega), if_neg (by omega), if_neg h7, if_neg h9])
  rw [HM.out]
  clear h1 h2 h3 h4 h5 h6 h7 h8 h9 h10 h11
  dsimp only [cv]
  go_enter Tryz.func148, Tryz.ntmps148
  go_wp2_with (fail)
  go_ret
  exact ⟨rfl, by (repeat (first | exact Below.refl _ _ | assumption | refine below_alloc ?_ _ | refine below_drewN ?_ _ | refine below_set ?_ _ (by simp; try omega) | refine Below.drew ?_))⟩
/-- An instruction in its box. -/
def XB (w : World) (b : Nat) (x : Ins) : Prop := w.cell? ⟨b, 0, none⟩ = some (.int .i64 x.o) ∧ w.cell? ⟨b, 1, none⟩ = some (.int .i64 x.a)
theorem XB.below {w w' : World} {b : Nat} {x : Ins} (h : XB w b x) (hb : Below w.heap.size w w') : XB w' b x := ⟨cell_later hb h.1, cell_later hb h.2⟩
theorem fit_of {c : Cd} {x : Ins} (h : 0 ≤ x.a) : fitB c x = !decide (manyI c x.o ≤ x.a) := by
  unfold fitB
  rw [← decide_not, Bool.eq_iff_iff, decide_eq_true_eq, decide_eq_true_eq]
  omega
set_option maxHeartbeats 2000000 in
set_option maxRecDepth 100000 in
theorem c_heights (c : Cd) (ab as_ : Option Addr) (cb cs : Nat) (w : World) (hd : Hd c) (h : CdR w ab as_ c) :
    Calls Tryz.prog 98 #[cv c ab as_ cb cs] w (HgtP (hgtB c) w) := by
  have HD := Lib.hid hd
  have HC := Lib.hid h
  have HB0 := Lib.hid (below_alloc (Below.refl w.heap.size w) (.cells #[.int .i64 c.i, .int .i64 c.v, .int .i64 c.o, .slice ab c.bs.length cb, .slice as_ c.ss.length cs] 35))
  have HA : Hid (CB (w.alloc (.cells #[.int .i64 c.i, .int .i64 c.v, .int .i64 c.o, .slice ab c.bs.length cb, .slice as_ c.ss.length cs] 35)) w.heap.size c ab as_ cb cs) := Lib.hid ⟨by go_simp, by go_simp, by go_simp, by go_simp, by go_simp⟩
  have hln := hd.s
  clear h hd
  go_enter Tryz.func98, Tryz.ntmps98
  dsimp only [cv]
  go_upto_region 1 with (fail)
  generalize w.alloc (.cells #[.int .i64 c.i, .int .i64 c.v, .int .i64 c.o, .slice ab c.bs.length cb, .slice as_ c.ss.length cs] 35) = W at *
  obtain ⟨a0, a1, a2, a3, a4⟩ := HA.out
  go_wp2_with (fail)
  clear a0 a1 a2 a3 a4
  go_loopw [4, 5, 7, 8, 9, 13] (fun l t _ _ _ i wr => ∃ (k : Nat) (n : Int) (A3 : Option Addr) (c3 : Nat) (zs : List Int), k ≤ c.ss.length ∧ i = .int .i64 k ∧ t = .int .i64 n ∧ 0 ≤ n ∧ n ≤ 40 ∧ l = .slice A3 k c3 ∧ Hid (hgt c c.ss 0 = hgt c (c.ss.drop k) n) ∧ Hid (wr.ownsRow (w.heap.size + 1) 2 1 (.slice A3 k c3) k (ints zs)) ∧ Hid (Below w.heap.size w wr) ∧ Hid (CB wr w.heap.size c ab as_ cb cs)) (fun _ _ _ _ _ i _ => c.ss.length - (intOf i).toNat)
  case atStart => exact ⟨0, 0, none, 0, [], Nat.zero_le _, rfl, rfl, by omega, by omega, rfl, Lib.hid rfl, Lib.hid (World.ownsRow_nil _ _ _ _), HB0, HA⟩
  case round =>
    obtain ⟨k, n, A3, c3, zs, hk, rfl, rfl, hn0, hn1, rfl, hh, ho, hb, ha⟩ := hrel
    clear HB0 HA
    by_cases hlt : k < c.ss.length
    · obtain ⟨x, hx⟩ : ∃ x, c.ss[k]? = some x := ⟨_, List.getElem?_eq_getElem hlt⟩
      have HX := Lib.hid (hgt_drop (c := c) hx n)
      obtain ⟨b1, o1, rfl, _, g0, g1⟩ := (HC.out.below hb.out).s.ins hx
      have hk0 : (0 : Int) ≤ (k : Int) := by omega
      have hk1 : (k : Int) < c.ss.length := by omega
      have HX0 : Hid (XB (wr.alloc (.cells #[.int .i64 x.o, .int .i64 x.a] 88)) wr.heap.size x) := Lib.hid ⟨by go_simp, by go_simp⟩
      have HBa := Lib.hid (below_alloc (Below.refl wr.heap.size wr) (.cells #[.int .i64 x.o, .int .i64 x.a] 88))
      clear hx
      go_upto_region 6 with (fail)
      generalize wr.alloc (.cells #[.int .i64 x.o, .int .i64 x.a] 88) = W1 at *
      have HA1 := Lib.hid (ha.out.below HBa.out)
      have HO1 := Lib.hid (own_below ho.out HBa.out)
      have HB1 := Lib.hid (below_chain hb.out HBa.out)
      clear ha hb ho HBa g0 g1
      obtain ⟨a0, a1, a2, a3, a4⟩ := HA1.out
      obtain ⟨g0, g1⟩ := HX0.out
      generalize wr.heap.size = bx at *
      by_cases hneg : x.a < 0
      · have hng : (decide (x.a < 0)) = true := decide_eq_true hneg
        have HV : Hid (hgtB c = false) := Lib.hid (by
          unfold hgtB
          rw [hh.out, HX.out, if_neg (by
            rintro ⟨h, _⟩
            unfold fitB at h
            have := of_decide_eq_true h
            omega)]; simp)
        go_wp2_with (fail)
        refine wp_region_held_drew (S := (fun w' => (w'.cell? ⟨w.heap.size, 0, none⟩ = some (.int .i64 c.i) ∧ w'.cell? ⟨w.heap.size, 1, none⟩ = some (.int .i64 c.v) ∧ w'.cell? ⟨w.heap.size, 2, none⟩ = some (.int .i64 c.o) ∧ w'.cell? ⟨w.heap.size, 3, none⟩ = some (.slice ab c.bs.length cb) ∧ w'.cell? ⟨w.heap.size, 4, none⟩ = some (.slice (some ⟨b1, o1, none⟩) c.ss.length cs)) ∧ w'.cell? ⟨bx, 0, none⟩ = some (.int .i64 x.o) ∧ w'.cell? ⟨bx, 1, none⟩ = some (.int .i64 x.a))) (by kernel_rfl) ?_ (fun hHeld => ?_)
        · exact ⟨⟨a0, a1, a2, a3, a4⟩, g0, g1⟩
        refine rg_take (v := ?_) 0 rfl (by kernel_rfl) (by kernel_rfl) (by kernel_rfl) (fun _ _ _ h => h) (by kernel_rfl) ?_ (by assumption) ?_
        rotate_left
        · (intro w' hSw; (try dsimp only at hSw); go_simp; first | done | with_reducible rfl)
        simp only [Act.put, List.setIfInBounds_toArray, List.set_cons_zero, List.set_cons_succ]
        refine rg_take (v := ?_) 1 rfl (by kernel_rfl) (by kernel_rfl) (by kernel_rfl) (fun _ _ _ h => h) (by kernel_rfl) ?_ (by assumption) ?_
        rotate_left
        · (intro w' hSw; (try dsimp only at hSw); go_simp; first | done | with_reducible rfl)
        simp only [Act.put, List.setIfInBounds_toArray, List.set_cons_zero, List.set_cons_succ]
        refine rg_take (v := ?_) 2 rfl (by kernel_rfl) (by kernel_rfl) (by kernel_rfl) (fun _ _ _ h => h) (by kernel_rfl) ?_ (by assumption) ?_
        rotate_left
        · (intro w' hSw; (try dsimp only at hSw); go_simp; first | done | with_reducible rfl)
        simp only [Act.put, List.setIfInBounds_toArray, List.set_cons_zero, List.set_cons_succ]
        refine rg_take (v := ?_) 3 rfl (by kernel_rfl) (by kernel_rfl) (by kernel_rfl) (fun _ _ _ h => h) (by kernel_rfl) ?_ (by assumption) ?_
        rotate_left
        · (intro w' hSw; (try dsimp only at hSw); go_simp; first | done | with_reducible rfl)
        simp only [Act.put, List.setIfInBounds_toArray, List.set_cons_zero, List.set_cons_succ]
        refine rg_skip 4 rfl (by kernel_rfl) (by kernel_rfl) (by kernel_rfl) (fun _ _ _ h => h) (by kernel_rfl) (by assumption) ?_
        simp only [Act.put, List.setIfInBounds_toArray, List.set_cons_zero, List.set_cons_succ]
        refine rg_skip 5 rfl (by kernel_rfl) (by kernel_rfl) (by kernel_rfl) (fun _ _ _ h => h) (by kernel_rfl) (by assumption) ?_
        simp only [Act.put, List.setIfInBounds_toArray, List.set_cons_zero, List.set_cons_succ]
        refine rg_skip 6 rfl (by kernel_rfl) (by kernel_rfl) (by kernel_rfl) (fun _ _ _ h => h) (by kernel_rfl) (by assumption) ?_
        simp only [Act.put, List.setIfInBounds_toArray, List.set_cons_zero, List.set_cons_succ]
        refine rg_skip 7 rfl (by kernel_rfl) (by kernel_rfl) (by kernel_rfl) (fun _ _ _ h => h) (by kernel_rfl) (by assumption) ?_
        simp only [Act.put, List.setIfInBounds_toArray, List.set_cons_zero, List.set_cons_succ]
        refine rg_skip 8 rfl (by kernel_rfl) (by kernel_rfl) (by kernel_rfl) (fun _ _ _ h => h) (by kernel_rfl) (by assumption) ?_
        simp only [Act.put, List.setIfInBounds_toArray, List.set_cons_zero, List.set_cons_succ]
        refine rg_skip 9 rfl (by kernel_rfl) (by kernel_rfl) (by kernel_rfl) (fun _ _ _ h => h) (by kernel_rfl) (by assumption) ?_
        simp only [Act.put, List.setIfInBounds_toArray, List.set_cons_zero, List.set_cons_succ]
        refine rg_skip 10 rfl (by kernel_rfl) (by kernel_rfl) (by kernel_rfl) (fun _ _ _ h => h) (by kernel_rfl) (by assumption) ?_
        simp only [Act.put, List.setIfInBounds_toArray, List.set_cons_zero, List.set_cons_succ]
        refine rg_take (v := ?_) 11 rfl (by kernel_rfl) (by kernel_rfl) (by kernel_rfl) (fun _ _ _ h => h) (by kernel_rfl) ?_ (by assumption) ?_
        rotate_left
        · (intro w' hSw; (try dsimp only at hSw); go_simp; first | done | with_reducible rfl)
        simp only [Act.put, List.setIfInBounds_toArray, List.set_cons_zero, List.set_cons_succ]
        refine wpAnyH_done (by kernel_rfl) ?_ _
        clear hHeld
        go_wp2_with (fail)
        refine bodyPost_ret (v := .tuple #[.slice none 0 0, .bool false]) (by simp [results, Tryz.results98, go_sem]) rfl (by rw [HV.out]; exact ⟨_, _, _, rfl, HB1.out.drew⟩)
      have hng : (decide (x.a < 0)) = false := decide_eq_false hneg
      have HFE := Lib.hid (fit_of (c := c) (x := x) (by omega))
      go_wp2_with (fail)
      refine wp_region_held_drew (S := (fun w' => (w'.cell? ⟨w.heap.size, 0, none⟩ = some (.int .i64 c.i) ∧ w'.cell? ⟨w.heap.size, 1, none⟩ = some (.int .i64 c.v) ∧ w'.cell? ⟨w.heap.size, 2, none⟩ = some (.int .i64 c.o) ∧ w'.cell? ⟨w.heap.size, 3, none⟩ = some (.slice ab c.bs.length cb) ∧ w'.cell? ⟨w.heap.size, 4, none⟩ = some (.slice (some ⟨b1, o1, none⟩) c.ss.length cs)) ∧ w'.cell? ⟨bx, 0, none⟩ = some (.int .i64 x.o) ∧ w'.cell? ⟨bx, 1, none⟩ = some (.int .i64 x.a))) (by kernel_rfl) ?_ (fun hHeld => ?_)
      · exact ⟨⟨a0, a1, a2, a3, a4⟩, g0, g1⟩
      refine rg_take (v := ?_) 0 rfl (by kernel_rfl) (by kernel_rfl) (by kernel_rfl) (fun _ _ _ h => h) (by kernel_rfl) ?_ (by assumption) ?_
      rotate_left
      · (intro w' hSw; (try dsimp only at hSw); go_simp; first | done | with_reducible rfl)
      simp only [Act.put, List.setIfInBounds_toArray, List.set_cons_zero, List.set_cons_succ]
      refine rg_take (v := ?_) 1 rfl (by kernel_rfl) (by kernel_rfl) (by kernel_rfl) (fun _ _ _ h => h) (by kernel_rfl) ?_ (by assumption) ?_
      rotate_left
      · (intro w' hSw; (try dsimp only at hSw); go_simp; first | done | with_reducible rfl)
      simp only [Act.put, List.setIfInBounds_toArray, List.set_cons_zero, List.set_cons_succ]
      refine rg_take (v := ?_) 2 rfl (by kernel_rfl) (by kernel_rfl) (by kernel_rfl) (fun _ _ _ h => h) (by kernel_rfl) ?_ (by assumption) ?_
      rotate_left
      · (intro w' hSw; (try dsimp only at hSw); go_simp; first | done | with_reducible rfl)
      simp only [Act.put, List.setIfInBounds_toArray, List.set_cons_zero, List.set_cons_succ]
      refine rg_take (v := ?_) 3 rfl (by kernel_rfl) (by kernel_rfl) (by kernel_rfl) (fun _ _ _ h => h) (by kernel_rfl) ?_ (by assumption) ?_
      rotate_left
      · (intro w' hSw; (try dsimp only at hSw); go_simp; first | done | with_reducible rfl)
      simp only [Act.put, List.setIfInBounds_toArray, List.set_cons_zero, List.set_cons_succ]
      refine rg_take (v := ?_) 4 rfl (by kernel_rfl) (by kernel_rfl) (by kernel_rfl) (fun _ _ _ h => h) (by kernel_rfl) ?_ (by assumption) ?_
      rotate_left
      · (intro w' hSw; (try dsimp only at hSw); go_simp; first | done | with_reducible rfl)
      simp only [Act.put, List.setIfInBounds_toArray, List.set_cons_zero, List.set_cons_succ]
      refine rg_take (v := ?_) 5 rfl (by kernel_rfl) (by kernel_rfl) (by kernel_rfl) (fun _ _ _ h => h) (by kernel_rfl) ?_ (by assumption) ?_
      rotate_left
      · (intro w' hSw; (try dsimp only at hSw); go_simp; first | done | with_reducible rfl)
      simp only [Act.put, List.setIfInBounds_toArray, List.set_cons_zero, List.set_cons_succ]
      refine rg_take (v := ?_) 6 rfl (by kernel_rfl) (by kernel_rfl) (by kernel_rfl) (fun _ _ _ h => h) (by kernel_rfl) ?_ (by assumption) ?_
      rotate_left
      · (intro w' hSw; (try dsimp only at hSw); go_simp; first | done | with_reducible rfl)
      simp only [Act.put, List.setIfInBounds_toArray, List.set_cons_zero, List.set_cons_succ]
      refine rg_take (v := ?_) 7 rfl (by kernel_rfl) (by kernel_rfl) (by kernel_rfl) (fun _ _ _ h => h) (by kernel_rfl) ?_ (by assumption) ?_
      rotate_left
      · (intro w' hSw; (try dsimp only at hSw); go_simp; first | done | with_reducible rfl)
      simp only [Act.put, List.setIfInBounds_toArray, List.set_cons_zero, List.set_cons_succ]
      refine rg_take (v := ?_) 8 rfl (by kernel_rfl) (by kernel_rfl) (by kernel_rfl) (fun _ _ _ h => h) (by kernel_rfl) ?_ (by assumption) ?_
      rotate_left
      · (intro w' hSw; (try dsimp only at hSw); go_simp; first | done | with_reducible rfl)
      simp only [Act.put, List.setIfInBounds_toArray, List.set_cons_zero, List.set_cons_succ]
      refine rg_run 9 rfl (by kernel_rfl) (by kernel_rfl) (fun K hK => ?_)
      go_simp
      refine (c_many c ab (some ⟨b1, o1, none⟩) cb cs x.o _ HD.out).mono ?_
      rintro e w2 ⟨rfl, hb2⟩
      have hbs : Below W1.heap.size W1 w2 := below_chain (Below.refl _ _).drew hb2
      have HA2 := Lib.hid (HA1.out.below hbs)
      have HO2 := Lib.hid (own_below HO1.out hbs)
      have HB2 := Lib.hid (below_chain HB1.out hbs)
      have HX2 := Lib.hid (HX0.out.below hbs)
      clear a0 a1 a2 a3 a4 g0 g1 hbs hb2 HA1 HO1 HB1 HX0
      obtain ⟨a0, a1, a2, a3, a4⟩ := HA2.out
      obtain ⟨g0, g1⟩ := HX2.out
      go_wp2
      clear hHeld
      refine hK.out _ _ (by exact ⟨⟨a0, a1, a2, a3, a4⟩, g0, g1⟩) (fun hHeld => ?_)
      clear hK K
      try simp only [Act.put, List.setIfInBounds_toArray, List.set_cons_zero, List.set_cons_succ]
      refine rg_take (v := ?_) 10 rfl (by kernel_rfl) (by kernel_rfl) (by kernel_rfl) (fun _ _ _ h => h) (by kernel_rfl) ?_ (by assumption) ?_
      rotate_left
      · (intro w' hSw; (try dsimp only at hSw); go_simp; first | done | with_reducible rfl)
      simp only [Act.put, List.setIfInBounds_toArray, List.set_cons_zero, List.set_cons_succ]
      refine rg_take (v := ?_) 11 rfl (by kernel_rfl) (by kernel_rfl) (by kernel_rfl) (fun _ _ _ h => h) (by kernel_rfl) ?_ (by assumption) ?_
      rotate_left
      · (intro w' hSw; (try dsimp only at hSw); go_simp; first | done | with_reducible rfl)
      simp only [Act.put, List.setIfInBounds_toArray, List.set_cons_zero, List.set_cons_succ]
      refine wpAnyH_done (by kernel_rfl) ?_ _
      clear hHeld
      generalize manyI c x.o = M at *
      by_cases hM : M ≤ x.a
      · have hMt : decide (M ≤ x.a) = true := decide_eq_true hM
        have HV : Hid (hgtB c = false) := Lib.hid (by unfold hgtB; rw [hh.out, HX.out, HFE.out, hMt]; simp)
        go_wp2_with (fail)
        refine bodyPost_ret (v := .tuple #[.slice none 0 0, .bool false]) (by simp [results, Tryz.results98, go_sem]) rfl (by rw [HV.out]; exact ⟨_, _, _, rfl, HB2.out⟩)
      have hMt : decide (M ≤ x.a) = false := decide_eq_false hM
      have HF : Hid (fitB c x = true) := Lib.hid (by rw [HFE.out, hMt]; rfl)
      go_wp2_with (fail)
      refine (c_effect c ab (some ⟨b1, o1, none⟩) cb cs x _ HF.out (HC.out.below HB2.out)).mono ?_
      rintro e w3 ⟨rfl, hb2⟩
      have HA3 := Lib.hid (HA2.out.below hb2)
      have HO3 := Lib.hid (own_below HO2.out hb2)
      have HB3 := Lib.hid (below_chain HB2.out hb2)
      clear a0 a1 a2 a3 a4 g0 g1 hb2 HA2 HO2 HB2 HX2
      have ht := tak_bd c x
      have hg := giv_bd x
      have HFO := HF.out
      rw [HFO] at HX
      clear HFO HFE hMt hM hng hneg
      generalize takI c x = T at *
      generalize givI x = G at *
      have hw1 : IntKind.i64.wrap (G - T) = G - T := IntWalk.i64_in _ (by omega)
      have hw2 : IntKind.i64.wrap (n + (G - T)) = n + (G - T) := IntWalk.i64_in _ (by omega)
      by_cases h1 : n < T
      · have HV : Hid (hgtB c = false) := Lib.hid (by unfold hgtB; rw [hh.out, HX.out, if_neg (by omega)]; simp)
        go_wp2_with (fail)
        refine bodyPost_ret (v := .tuple #[.slice none 0 0, .bool false]) (by simp [results, Tryz.results98, go_sem]) rfl (by rw [HV.out]; exact ⟨_, _, _, rfl, HB3.out⟩)
      by_cases h2 : 40 < n + (G - T)
      · have HV : Hid (hgtB c = false) := Lib.hid (by unfold hgtB; rw [hh.out, HX.out, if_neg (by omega)]; simp)
        go_wp2_with (fail)
        refine bodyPost_ret (v := .tuple #[.slice none 0 0, .bool false]) (by simp [results, Tryz.results98, go_sem]) rfl (by rw [HV.out]; exact ⟨_, _, _, rfl, HB3.out⟩)
      have HH := Lib.hid (hh.out.trans (HX.out.trans (if_pos ⟨rfl, by omega, by omega⟩)))
      have HH2 : Hid (hgt c c.ss 0 = hgt c (c.ss.drop (k + 1)) (n + (G - T))) := Lib.hid (by rw [HH.out]; congr 1; omega)
      have hsz3 := World.block_lt_of_cell? _ _ HA3.out.1
      dsimp only at hsz3
      clear HX hh HH
      go_wp2_with (first
        | (at_builtin
           refine wpList_push_int _ rfl (.tmp 45) (.tmp 47) rfl (w.heap.size + 1) _ k zs (n + (G - T)) w3.heap.size 1 rfl (own_below HO3.out (below_alloc (Below.refl _ _) _)) rfl (by go_simp) (by omega) (by simp; omega) ?_
           intro v7 w7 hown hgrow _ _
           obtain ⟨A9, c9, rfl⟩ := own_shape hown
           have HA7 := Lib.hid ((HA3.out.below (below_alloc (Below.refl _ _) (.cells #[.int .i64 (n + (G - T))] 2))).mark hgrow (fun q hq => by have := (HO3.out.lt q hq).1; omega))
           have HB7 := Lib.hid (below_of_grown (below_chain HB3.out (below_alloc (Below.refl _ _) (.cells #[.int .i64 (n + (G - T))] 2))) hgrow (fun q hq => by have := (HO3.out.lt q hq).1; omega))
           have HO7 := Lib.hid hown
           clear hown hgrow HA3 HB3 HO3)
        )
      go_roundw
      case rel => exact ⟨k + 1, n + (G - T), A9, c9, _, by omega, by go_num, rfl, by omega, by omega, rfl, HH2, HO7, HB7, HA7⟩
      case measure => simp [intOf]; omega
    · obtain rfl : k = c.ss.length := by omega
      have HV : Hid ((n == 0) = hgtB c) := Lib.hid (by
        unfold hgtB
        rw [hh.out, List.drop_length]
        show (n == 0) = decide (some n = some 0)
        by_cases h0 : n = 0
        · subst h0; rfl
        · simp [h0])
      go_wp2_with (fail)
      refine bodyPost_ret (v := .tuple #[.slice A3 c.ss.length c3, .bool (n == 0)]) (by simp [results, Tryz.results98, go_sem]) rfl (by rw [← HV.out]; exact ⟨_, _, _, rfl, hb.out⟩)
theorem any_notK {l : List Tm} : l.any (fun t => !blkB t) = !(l.all blkB) := by
  induction l with
  | nil => rfl
  | cons t l ih => simp only [List.any_cons, List.all_cons, ih, Bool.not_and]
set_option maxHeartbeats 2000000 in
set_option maxRecDepth 100000 in
theorem c_IsCode (c : Cd) (ab as_ : Option Addr) (cb cs : Nat) (w : World) (hs : CdOk c) (h : CdR w ab as_ c) (hk : KwR w) :
    Calls Tryz.prog 48 #[cv c ab as_ cb cs] w fun e w' => e = .returned (.bool (codeB c)) ∧ Below w.heap.size w w' := by
  have HS := Lib.hid hs
  have H := Lib.hid h
  have HK := Lib.hid hk
  have hl1 := hs.1.1
  have hl2 := hs.2
  clear hs h hk
  have HAB : Hid (Below w.heap.size w (w.alloc (.cells #[.int .i64 c.i, .int .i64 c.v, .int .i64 c.o, .slice ab c.bs.length cb, .slice as_ c.ss.length cs] 35))) := Lib.hid (below_alloc (Below.refl _ _) _)
  rcases q1 : inB c.i 0 20 with _ | _
  · have HV : Hid (codeB c = false) := Lib.hid (by unfold codeB headC; rw [q1]; rfl)
    rw [HV.out]
    go_enter Tryz.func48, Tryz.ntmps48
    dsimp only [cv]
    go_wp2_with (first
      | (go_at_call 52
         refine (c_within _ _ _ _).mono ?_
         rintro e w' ⟨rfl, rfl⟩)
      )
    go_ret
    exact ⟨rfl, HAB.out⟩
  rcases q2 : inB c.v 0 20 with _ | _
  · have HV : Hid (codeB c = false) := Lib.hid (by unfold codeB headC; rw [q1, q2]; rfl)
    rw [HV.out]
    go_enter Tryz.func48, Tryz.ntmps48
    dsimp only [cv]
    go_wp2_with (first
      | (go_at_call 52
         refine (c_within _ _ _ _).mono ?_
         rintro e w' ⟨rfl, rfl⟩)
      )
    go_ret
    exact ⟨rfl, HAB.out⟩
  rcases q3 : inB c.o 0 20 with _ | _
  · have HV : Hid (codeB c = false) := Lib.hid (by unfold codeB headC; rw [q1, q2, q3]; rfl)
    rw [HV.out]
    go_enter Tryz.func48, Tryz.ntmps48
    dsimp only [cv]
    go_wp2_with (first
      | (go_at_call 52
         refine (c_within _ _ _ _).mono ?_
         rintro e w' ⟨rfl, rfl⟩)
      )
    go_ret
    exact ⟨rfl, HAB.out⟩
  by_cases q4 : 2000 < c.bs.length
  · have HV : Hid (codeB c = false) := Lib.hid (by unfold codeB headC; rw [decide_eq_false (show ¬ c.bs.length ≤ 2000 by omega)]; simp)
    rw [HV.out]
    go_enter Tryz.func48, Tryz.ntmps48
    dsimp only [cv]
    go_wp2_with (first
      | (go_at_call 52
         refine (c_within _ _ _ _).mono ?_
         rintro e w' ⟨rfl, rfl⟩)
      )
    go_ret
    exact ⟨rfl, HAB.out⟩
  by_cases q5 : 2000 < c.ss.length
  · have HV : Hid (codeB c = false) := Lib.hid (by unfold codeB headC; rw [decide_eq_false (show ¬ c.ss.length ≤ 2000 by omega)]; simp)
    rw [HV.out]
    go_enter Tryz.func48, Tryz.ntmps48
    dsimp only [cv]
    go_wp2_with (first
      | (go_at_call 52
         refine (c_within _ _ _ _).mono ?_
         rintro e w' ⟨rfl, rfl⟩)
      )
    go_ret
    exact ⟨rfl, HAB.out⟩
  have hh : headC c = true := by
    unfold headC
    rw [q1, q2, q3, decide_eq_true (show c.bs.length ≤ 2000 by omega), decide_eq_true (show c.ss.length ≤ 2000 by omega)]
    rfl
  have HH := Lib.hid hh
  have HA : Hid (CB (w.alloc (.cells #[.int .i64 c.i, .int .i64 c.v, .int .i64 c.o, .slice ab c.bs.length cb, .slice as_ c.ss.length cs] 35)) w.heap.size c ab as_ cb cs) := Lib.hid ⟨by go_simp, by go_simp, by go_simp, by go_simp, by go_simp⟩
  clear hh
  go_enter Tryz.func48, Tryz.ntmps48
  dsimp only [cv]
  go_wp2_with (first
    | (go_at_call 52
       refine (c_within _ _ _ _).mono ?_
       rintro e w' ⟨rfl, rfl⟩)
    )
  generalize w.alloc (.cells #[.int .i64 c.i, .int .i64 c.v, .int .i64 c.o, .slice ab c.bs.length cb, .slice as_ c.ss.length cs] 35) = W at *
  clear q1 q2 q3
  have HCL : Hid (ClTm 96 (fun t => !blkB t) c.bs W) := Lib.hid (fun wr t ht hb => c_notBlock t wr (HS.out.1.2 t ht) ((HK.out.below HAB.out).below hb))
  have HAY := Lib.hid (any_notK (l := c.bs))
  refine (c_ContainsTm 96 (fun t => !blkB t) ab cb c.bs _ hl1 (H.out.below HAB.out).b HCL (enter_of Tryz.func96 (by kernel_rfl) rfl)).mono ?_
  rw [HAY.out]
  rintro e w1 ⟨rfl, hb⟩
  have HA1 := Lib.hid (HA.out.below hb)
  have HB1 := Lib.hid (below_chain HAB.out hb)
  clear hb HA HAB HCL HAY
  obtain ⟨a0, a1, a2, a3, a4⟩ := HA1.out
  rcases hall : c.bs.all blkB with _ | _
  · have HV : Hid (codeB c = false) := Lib.hid (by unfold codeB; rw [hall]; simp)
    go_wp2_with (fail)
    go_ret
    exact ⟨ret_bool HV.out.symm, HB1.out⟩
  · have HV : Hid (hgtB c = codeB c) := Lib.hid (by unfold codeB; rw [HH.out, hall]; simp)
    go_wp2_with (fail)
    refine (c_heights c ab as_ cb cs _ (head_Hd HH.out) (H.out.below HB1.out)).mono ?_
    rintro e w2 ⟨A, n, cc, rfl, hb2⟩
    have HB2 := Lib.hid (below_chain HB1.out hb2)
    clear hb2
    go_wp2_with (fail)
    go_ret
    exact ⟨ret_bool HV.out, HB2.out⟩
end Go.Proofs.YteengjcplmjakaaGreatDoor

/- TimeOf and ScanTime, the reference (printed by kcode.py out of CTf CTg). Condition: the lists' sizes. -/
namespace Go.Proofs.YteengjcplmjakaaGreatDoor
open Go.RowKit

theorem hgt_fit {c : Cd} : ∀ (l : List Ins) (n m : Int), hgt c l n = some m → ∀ x ∈ l, fitB c x = true
  | [], _, _, _, x, hx => by simp at hx
  | y :: t, n, m, h, x, hx => by
    unfold hgt at h
    by_cases hc : fitB c y = true ∧ takI c y ≤ n ∧ n - takI c y + givI y ≤ 40
    · rw [if_pos hc] at h
      rcases List.mem_cons.1 hx with rfl | hx
      · exact hc.1
      · exact hgt_fit t _ _ h x hx
    · rw [if_neg hc] at h
      cases h
theorem code_parts {c : Cd} (h : codeB c = true) : Hd c ∧ (∀ t ∈ c.bs, blkB t = true) ∧ (∀ x ∈ c.ss, fitB c x = true) := by
  unfold codeB at h
  simp only [Bool.and_eq_true] at h
  obtain ⟨⟨h1, h2⟩, h3⟩ := h
  exact ⟨head_Hd h1, List.all_eq_true.1 h2, hgt_fit _ _ _ (of_decide_eq_true h3)⟩
def in0 : Ins := ⟨0, 0⟩
def timeC (c : Cd) (s : Int) : Int := if codeB c then (if inB s 0 ((c.ss.length : Int) - 1) then 0 else 4) else 1
def timeV (c : Cd) (s : Int) : Int := if timeC c s = 0 then timI c (c.ss.getD s.toNat in0) else 0
set_option maxHeartbeats 2000000 in
set_option maxRecDepth 100000 in
theorem c_sTimeOf (c : Cd) (ab as_ : Option Addr) (cb cs : Nat) (s : Int) (w : World) (hs : CdOk c) (h : CdR w ab as_ c) :
    Calls Tryz.prog 15 #[cv c ab as_ cb cs, .int .i64 s] w (Ret2 (timeV c s) (timeC c s) w) := by
  have HS := Lib.hid hs
  have HC := Lib.hid h
  have hl2 := hs.2
  have HAB : Hid (Below w.heap.size w (w.alloc (.cells #[.int .i64 c.i, .int .i64 c.v, .int .i64 c.o, .slice ab c.bs.length cb, .slice as_ c.ss.length cs] 35))) := Lib.hid (below_alloc (Below.refl _ _) _)
  have HA : Hid (CB (w.alloc (.cells #[.int .i64 c.i, .int .i64 c.v, .int .i64 c.o, .slice ab c.bs.length cb, .slice as_ c.ss.length cs] 35)) w.heap.size c ab as_ cb cs) := Lib.hid ⟨by go_simp, by go_simp, by go_simp, by go_simp, by go_simp⟩
  clear hs h
  go_enter Tryz.func15, Tryz.ntmps15
  dsimp only [cv]
  go_upto_region 1 with (fail)
  generalize w.alloc (.cells #[.int .i64 c.i, .int .i64 c.v, .int .i64 c.o, .slice ab c.bs.length cb, .slice as_ c.ss.length cs] 35) = W at *
  obtain ⟨a0, a1, a2, a3, a4⟩ := HA.out
  go_wp2_with (fail)
  refine (c_sIsCode c ab as_ cb cs _ HS.out (HC.out.below HAB.out)).mono ?_
  rintro e w1 ⟨rfl, hb⟩
  have HB1 := Lib.hid (below_chain HAB.out hb)
  have HA1 := Lib.hid (HA.out.below hb)
  clear hb HA HAB a0 a1 a2 a3 a4
  obtain ⟨a0, a1, a2, a3, a4⟩ := HA1.out
  rcases hc : codeB c with _ | _
  · have HV : Hid (timeC c s = 1 ∧ timeV c s = 0) := Lib.hid (by unfold timeV timeC; rw [hc]; exact ⟨rfl, rfl⟩)
    go_wp2_with (fail)
    refine bodyPost_ret (v := .tuple #[.int .i64 0, .int .i64 1]) (by simp [results, Tryz.results15, go_sem]) rfl (by rw [HV.out.1, HV.out.2]; exact ⟨rfl, HB1.out⟩)
  obtain ⟨hd, hbl, hft⟩ := code_parts hc
  have HD := Lib.hid hd
  have HBL := Lib.hid hbl
  have HFT := Lib.hid hft
  have HCC := Lib.hid hc
  clear hd hbl hft hc
  have hw : IntKind.i64.wrap ((c.ss.length : Int) - 1) = (c.ss.length : Int) - 1 := IntWalk.i64_in _ (by omega)
  rcases hi : inB s 0 ((c.ss.length : Int) - 1) with _ | _
  · have HV : Hid (timeC c s = 4 ∧ timeV c s = 0) := Lib.hid (by unfold timeV timeC; rw [HCC.out, hi]; exact ⟨rfl, rfl⟩)
    go_wp2_with (first
      | (go_at_call 55
         refine (c_l01In _ _ _ _).mono ?_
         rintro e w' ⟨rfl, rfl⟩)
      )
    refine bodyPost_ret (v := .tuple #[.int .i64 0, .int .i64 4]) (by simp [results, Tryz.results15, go_sem]) rfl (by rw [HV.out.1, HV.out.2]; exact ⟨rfl, HB1.out⟩)
  have hib := of_decide_eq_true hi
  obtain ⟨k, rfl⟩ : ∃ k : Nat, s = k := ⟨s.toNat, by omega⟩
  obtain ⟨x, hx⟩ : ∃ x, c.ss[k]? = some x := ⟨_, List.getElem?_eq_getElem (by omega)⟩
  have HV : Hid (timeC c k = 0 ∧ timeV c k = timI c x) := Lib.hid (by
    have h0 : timeC c k = 0 := by unfold timeC; rw [HCC.out, hi]; rfl
    refine ⟨h0, ?_⟩
    unfold timeV
    rw [if_pos h0, Int.toNat_natCast, List.getD_eq_getElem?_getD, hx]
    rfl)
  have HF1 := Lib.hid (HFT.out x (List.mem_of_getElem? hx))
  obtain ⟨b1, o1, rfl, _, g0, g1⟩ := (HC.out.below HB1.out).s.ins hx
  have hk0 : (0 : Int) ≤ (k : Int) := by omega
  have hk1 : (k : Int) < c.ss.length := by omega
  clear hx
  go_wp2_with (first
    | (go_at_call 55
       refine (c_l01In _ _ _ _).mono ?_
       rintro e w' ⟨rfl, rfl⟩)
    )
  refine wp_region_held_drew (S := (fun w' => (w'.cell? ⟨w.heap.size, 0, none⟩ = some (.int .i64 c.i) ∧ w'.cell? ⟨w.heap.size, 1, none⟩ = some (.int .i64 c.v) ∧ w'.cell? ⟨w.heap.size, 2, none⟩ = some (.int .i64 c.o) ∧ w'.cell? ⟨w.heap.size, 3, none⟩ = some (.slice ab c.bs.length cb) ∧ w'.cell? ⟨w.heap.size, 4, none⟩ = some (.slice (some ⟨b1, o1, none⟩) c.ss.length cs)) ∧ w'.cell? ⟨b1, o1 + k * 2, none⟩ = some (.int .i64 x.o) ∧ w'.cell? ⟨b1, o1 + k * 2 + 1, none⟩ = some (.int .i64 x.a))) (by kernel_rfl) ?_ (fun hHeld => ?_)
  · exact ⟨⟨a0, a1, a2, a3, a4⟩, g0, g1⟩
  refine rg_take (v := ?_) 0 rfl (by kernel_rfl) (by kernel_rfl) (by kernel_rfl) (fun _ _ _ h => h) (by kernel_rfl) ?_ (by assumption) ?_
  rotate_left
  · (intro w' hSw; (try dsimp only at hSw); go_simp; first | done | with_reducible rfl)
  simp only [Act.put, List.setIfInBounds_toArray, List.set_cons_zero, List.set_cons_succ]
  refine rg_take (v := ?_) 1 rfl (by kernel_rfl) (by kernel_rfl) (by kernel_rfl) (fun _ _ _ h => h) (by kernel_rfl) ?_ (by assumption) ?_
  rotate_left
  · (intro w' hSw; (try dsimp only at hSw); go_simp; first | done | with_reducible rfl)
  simp only [Act.put, List.setIfInBounds_toArray, List.set_cons_zero, List.set_cons_succ]
  refine rg_take (v := ?_) 2 rfl (by kernel_rfl) (by kernel_rfl) (by kernel_rfl) (fun _ _ _ h => h) (by kernel_rfl) ?_ (by assumption) ?_
  rotate_left
  · (intro w' hSw; (try dsimp only at hSw); go_simp; first | done | with_reducible rfl)
  simp only [Act.put, List.setIfInBounds_toArray, List.set_cons_zero, List.set_cons_succ]
  refine rg_take (v := ?_) 3 rfl (by kernel_rfl) (by kernel_rfl) (by kernel_rfl) (fun _ _ _ h => h) (by kernel_rfl) ?_ (by assumption) ?_
  rotate_left
  · (intro w' hSw; (try dsimp only at hSw); go_simp; first | done | with_reducible rfl)
  simp only [Act.put, List.setIfInBounds_toArray, List.set_cons_zero, List.set_cons_succ]
  refine rg_take (v := ?_) 4 rfl (by kernel_rfl) (by kernel_rfl) (by kernel_rfl) (fun _ _ _ h => h) (by kernel_rfl) ?_ (by assumption) ?_
  rotate_left
  · (intro w' hSw; (try dsimp only at hSw); go_simp; first | done | with_reducible rfl)
  simp only [Act.put, List.setIfInBounds_toArray, List.set_cons_zero, List.set_cons_succ]
  refine rg_take (v := ?_) 5 rfl (by kernel_rfl) (by kernel_rfl) (by kernel_rfl) (fun _ _ _ h => h) (by kernel_rfl) ?_ (by assumption) ?_
  rotate_left
  · (intro w' hSw; (try dsimp only at hSw); go_simp; first | done | with_reducible rfl)
  simp only [Act.put, List.setIfInBounds_toArray, List.set_cons_zero, List.set_cons_succ]
  refine rg_run 6 rfl (by kernel_rfl) (by kernel_rfl) (fun K hK => ?_)
  go_simp
  refine (c_l19Time c ab (some ⟨b1, o1, none⟩) cb cs x _ HD.out HBL.out HF1.out ((HC.out.below HB1.out).below (Below.refl _ _).drew)).mono ?_
  rintro e w2 ⟨rfl, hb2⟩
  have hbs : Below w1.heap.size w1 w2 := below_chain (Below.refl _ _).drew hb2
  have HB2 := Lib.hid (below_chain HB1.out hbs)
  have HA2 := Lib.hid (HA1.out.below hbs)
  replace g0 := cell_later hbs g0
  replace g1 := cell_later hbs g1
  clear a0 a1 a2 a3 a4 hbs hb2
  obtain ⟨a0, a1, a2, a3, a4⟩ := HA2.out
  go_wp2
  clear hHeld
  refine hK.out _ _ (by exact ⟨⟨a0, a1, a2, a3, a4⟩, g0, g1⟩) (fun hHeld => ?_)
  clear hK K
  try simp only [Act.put, List.setIfInBounds_toArray, List.set_cons_zero, List.set_cons_succ]
  refine rg_take (v := ?_) 7 rfl (by kernel_rfl) (by kernel_rfl) (by kernel_rfl) (fun _ _ _ h => h) (by kernel_rfl) ?_ (by assumption) ?_
  rotate_left
  · (intro w' hSw; (try dsimp only at hSw); go_simp; first | done | with_reducible rfl)
  simp only [Act.put, List.setIfInBounds_toArray, List.set_cons_zero, List.set_cons_succ]
  refine rg_take (v := ?_) 8 rfl (by kernel_rfl) (by kernel_rfl) (by kernel_rfl) (fun _ _ _ h => h) (by kernel_rfl) ?_ (by assumption) ?_
  rotate_left
  · (intro w' hSw; (try dsimp only at hSw); go_simp; first | done | with_reducible rfl)
  simp only [Act.put, List.setIfInBounds_toArray, List.set_cons_zero, List.set_cons_succ]
  refine wpAnyH_done (by kernel_rfl) ?_ _
  clear hHeld
  clear a0 a1 a2 a3 a4 g0 g1
  go_wp2_with (fail)
  refine bodyPost_ret (v := .tuple #[.int .i64 (timI c x), .int .i64 0]) (by simp [results, Tryz.results15, go_sem]) rfl (by rw [HV.out.1, HV.out.2]; exact ⟨rfl, HB2.out⟩)
def scanC (c : Cd) : Int := if codeB c then 0 else 1
def scanV (c : Cd) : Int := if codeB c then sumK c c.ss.length else 0
set_option maxHeartbeats 2000000 in
set_option maxRecDepth 100000 in
theorem c_sScanTime (c : Cd) (ab as_ : Option Addr) (cb cs : Nat) (w : World) (hs : CdOk c) (h : CdR w ab as_ c) :
    Calls Tryz.prog 12 #[cv c ab as_ cb cs] w (Ret2 (scanV c) (scanC c) w) := by
  have HS := Lib.hid hs
  have HC := Lib.hid h
  have hl2 := hs.2
  have HAB : Hid (Below w.heap.size w (w.alloc (.cells #[.int .i64 c.i, .int .i64 c.v, .int .i64 c.o, .slice ab c.bs.length cb, .slice as_ c.ss.length cs] 35))) := Lib.hid (below_alloc (Below.refl _ _) _)
  have HA : Hid (CB (w.alloc (.cells #[.int .i64 c.i, .int .i64 c.v, .int .i64 c.o, .slice ab c.bs.length cb, .slice as_ c.ss.length cs] 35)) w.heap.size c ab as_ cb cs) := Lib.hid ⟨by go_simp, by go_simp, by go_simp, by go_simp, by go_simp⟩
  clear hs h
  go_enter Tryz.func12, Tryz.ntmps12
  dsimp only [cv]
  go_upto_region 1 with (fail)
  generalize w.alloc (.cells #[.int .i64 c.i, .int .i64 c.v, .int .i64 c.o, .slice ab c.bs.length cb, .slice as_ c.ss.length cs] 35) = W at *
  obtain ⟨a0, a1, a2, a3, a4⟩ := HA.out
  go_wp2_with (fail)
  refine (c_sIsCode c ab as_ cb cs _ HS.out (HC.out.below HAB.out)).mono ?_
  rintro e w1 ⟨rfl, hb⟩
  have HB1 := Lib.hid (below_chain HAB.out hb)
  have HA1 := Lib.hid (HA.out.below hb)
  clear hb HA HAB a0 a1 a2 a3 a4
  obtain ⟨a0, a1, a2, a3, a4⟩ := HA1.out
  rcases hc : codeB c with _ | _
  · have HV : Hid (scanC c = 1 ∧ scanV c = 0) := Lib.hid (by unfold scanV scanC; rw [hc]; exact ⟨rfl, rfl⟩)
    go_wp2_with (fail)
    refine bodyPost_ret (v := .tuple #[.int .i64 0, .int .i64 1]) (by simp [results, Tryz.results12, go_sem]) rfl (by rw [HV.out.1, HV.out.2]; exact ⟨rfl, HB1.out⟩)
  obtain ⟨hd, hbl, hft⟩ := code_parts hc
  have HD := Lib.hid hd
  have HBL := Lib.hid hbl
  have HFT := Lib.hid hft
  have HCC := Lib.hid hc
  clear hd hbl hft hc
  have HV : Hid (scanC c = 0 ∧ scanV c = sumK c c.ss.length) := Lib.hid (by unfold scanV scanC; rw [HCC.out]; exact ⟨rfl, rfl⟩)
  go_wp2_with (fail)
  refine (c_l19Scan c ab as_ cb cs _ HD.out HBL.out HFT.out (HC.out.below HB1.out)).mono ?_
  rintro e w2 ⟨rfl, hb⟩
  have HB2 := Lib.hid (below_chain HB1.out hb)
  clear hb a0 a1 a2 a3 a4
  go_wp2_with (fail)
  refine bodyPost_ret (v := .tuple #[.int .i64 (sumK c c.ss.length), .int .i64 0]) (by simp [results, Tryz.results12, go_sem]) rfl (by rw [HV.out.1, HV.out.2]; exact ⟨rfl, HB2.out⟩)
end Go.Proofs.YteengjcplmjakaaGreatDoor

/- TimeOf and ScanTime, the program (printed by kcode.py out of CIf). Condition: the lists' sizes; the keywords lie there. -/
namespace Go.Proofs.YteengjcplmjakaaGreatDoor
open Go.RowKit

set_option maxHeartbeats 2000000 in
set_option maxRecDepth 100000 in
theorem c_time (c : Cd) (ab as_ : Option Addr) (cb cs : Nat) (w : World) (hd : Hd c) (hbl : ∀ t ∈ c.bs, blkB t = true) (hf : ∀ x ∈ c.ss, fitB c x = true) (h : CdR w ab as_ c) :
    Calls Tryz.prog 43 #[cv c ab as_ cb cs, .slice as_ c.ss.length cs] w fun e w' => e = .returned (.int .i64 (sumK c c.ss.length)) ∧ Below w.heap.size w w' := by
  have HD := Lib.hid hd
  have HC := Lib.hid h
  have HBL := Lib.hid hbl
  have HFT := Lib.hid hf
  have hln := hd.s
  have HAB : Hid (Below w.heap.size w (w.alloc (.cells #[.int .i64 c.i, .int .i64 c.v, .int .i64 c.o, .slice ab c.bs.length cb, .slice as_ c.ss.length cs] 35))) := Lib.hid (below_alloc (Below.refl _ _) _)
  have HA : Hid (CB (w.alloc (.cells #[.int .i64 c.i, .int .i64 c.v, .int .i64 c.o, .slice ab c.bs.length cb, .slice as_ c.ss.length cs] 35)) w.heap.size c ab as_ cb cs) := Lib.hid ⟨by go_simp, by go_simp, by go_simp, by go_simp, by go_simp⟩
  clear hd h hbl hf
  go_enter Tryz.func43, Tryz.ntmps43
  dsimp only [cv]
  go_wp2_with (fail)
  generalize w.alloc (.cells #[.int .i64 c.i, .int .i64 c.v, .int .i64 c.o, .slice ab c.bs.length cb, .slice as_ c.ss.length cs] 35) = W at *
  go_loopw [5, 7, 10] (fun t _ i wr => ∃ k : Nat, k ≤ c.ss.length ∧ i = .int .i64 k ∧ t = .int .i64 (sumK c k) ∧ Hid (Below w.heap.size w wr) ∧ Hid (CB wr w.heap.size c ab as_ cb cs)) (fun _ _ i _ => c.ss.length - (intOf i).toNat)
  case atStart => exact ⟨0, Nat.zero_le _, rfl, rfl, HAB, HA⟩
  case round =>
    obtain ⟨k, hk, rfl, rfl, hb, ha⟩ := hrel
    clear HAB HA
    by_cases hlt : k < c.ss.length
    · obtain ⟨x, hx⟩ : ∃ x, c.ss[k]? = some x := ⟨_, List.getElem?_eq_getElem hlt⟩
      have HX := Lib.hid (sumK_step hx)
      have hsb := sumK_bd HD.out k hk
      have htb := tim_bd HD.out x
      have HF1 := Lib.hid (HFT.out x (List.mem_of_getElem? hx))
      obtain ⟨b1, o1, rfl, _, g0, g1⟩ := (HC.out.below hb.out).s.ins hx
      have hk0 : (0 : Int) ≤ (k : Int) := by omega
      have hk1 : (k : Int) < c.ss.length := by omega
      have HX0 : Hid (XB (wr.alloc (.cells #[.int .i64 x.o, .int .i64 x.a] 88)) wr.heap.size x) := Lib.hid ⟨by go_simp, by go_simp⟩
      have HBa := Lib.hid (below_alloc (Below.refl wr.heap.size wr) (.cells #[.int .i64 x.o, .int .i64 x.a] 88))
      clear hx
      generalize sumK c k = S at *
      go_upto_region 5 with (fail)
      generalize wr.alloc (.cells #[.int .i64 x.o, .int .i64 x.a] 88) = W1 at *
      have HA1 := Lib.hid (ha.out.below HBa.out)
      have HB1 := Lib.hid (below_chain hb.out HBa.out)
      clear ha hb HBa g0 g1
      obtain ⟨a0, a1, a2, a3, a4⟩ := HA1.out
      obtain ⟨g0, g1⟩ := HX0.out
      generalize wr.heap.size = bx at *
      have hw : IntKind.i64.wrap (S + timI c x) = S + timI c x := IntWalk.i64_in _ (by omega)
      go_wp2_with (fail)
      refine (c_timeOf c ab (some ⟨b1, o1, none⟩) cb cs x _ HD.out HBL.out HF1.out (HC.out.below HB1.out)).mono ?_
      rintro e w2 ⟨rfl, hb2⟩
      have HA2 := Lib.hid (HA1.out.below hb2)
      have HB2 := Lib.hid (below_chain HB1.out hb2)
      clear a0 a1 a2 a3 a4 g0 g1 hb2 HA1 HB1 HX0
      go_wp2_with (fail)
      go_roundw
      case rel => exact ⟨k + 1, by omega, by go_num, by rw [HX.out], HB2, HA2⟩
      case measure => simp [intOf]; omega
    · obtain rfl : k = c.ss.length := by omega
      go_wp2_with (fail)
      go_ret
      exact ⟨rfl, hb.out⟩
set_option maxRecDepth 100000 in
theorem c_lengthI (A : Option Addr) (c n : Nat) (w : World) (hn : n ≤ 1048576) : Calls Tryz.prog 53 #[.slice A n c] w fun e w' => e = .returned (.int .i64 n) ∧ w = w' := by
  have hw : IntKind.i64.wrap (n : Int) = n := IntWalk.i64_in _ (by omega)
  go_enter Tryz.func53, Tryz.ntmps53
  go_wp2_with (fail)
  go_ret
  exact ⟨rfl, rfl⟩
set_option maxHeartbeats 2000000 in
set_option maxRecDepth 100000 in
theorem c_ScanTime (c : Cd) (ab as_ : Option Addr) (cb cs : Nat) (w : World) (hs : CdOk c) (h : CdR w ab as_ c) (hk : KwR w) :
    Calls Tryz.prog 11 #[cv c ab as_ cb cs] w (Ret2 (scanV c) (scanC c) w) := by
  have HS := Lib.hid hs
  have HK := Lib.hid hk
  have HC := Lib.hid h
  have hl2 := hs.2
  have HAB : Hid (Below w.heap.size w (w.alloc (.cells #[.int .i64 c.i, .int .i64 c.v, .int .i64 c.o, .slice ab c.bs.length cb, .slice as_ c.ss.length cs] 35))) := Lib.hid (below_alloc (Below.refl _ _) _)
  have HA : Hid (CB (w.alloc (.cells #[.int .i64 c.i, .int .i64 c.v, .int .i64 c.o, .slice ab c.bs.length cb, .slice as_ c.ss.length cs] 35)) w.heap.size c ab as_ cb cs) := Lib.hid ⟨by go_simp, by go_simp, by go_simp, by go_simp, by go_simp⟩
  clear hs h hk
  go_enter Tryz.func11, Tryz.ntmps11
  dsimp only [cv]
  go_upto_region 1 with (fail)
  generalize w.alloc (.cells #[.int .i64 c.i, .int .i64 c.v, .int .i64 c.o, .slice ab c.bs.length cb, .slice as_ c.ss.length cs] 35) = W at *
  obtain ⟨a0, a1, a2, a3, a4⟩ := HA.out
  go_wp2_with (fail)
  refine (c_IsCode c ab as_ cb cs _ HS.out (HC.out.below HAB.out) (HK.out.below HAB.out)).mono ?_
  rintro e w1 ⟨rfl, hb⟩
  have HB1 := Lib.hid (below_chain HAB.out hb)
  have HA1 := Lib.hid (HA.out.below hb)
  clear hb HA HAB a0 a1 a2 a3 a4
  obtain ⟨a0, a1, a2, a3, a4⟩ := HA1.out
  rcases hc : codeB c with _ | _
  · have HV : Hid (scanC c = 1 ∧ scanV c = 0) := Lib.hid (by unfold scanV scanC; rw [hc]; exact ⟨rfl, rfl⟩)
    go_wp2_with (fail)
    refine bodyPost_ret (v := .tuple #[.int .i64 0, .int .i64 1]) (by simp [results, Tryz.results11, go_sem]) rfl (by rw [HV.out.1, HV.out.2]; exact ⟨rfl, HB1.out⟩)
  obtain ⟨hd, hbl, hft⟩ := code_parts hc
  have HD := Lib.hid hd
  have HBL := Lib.hid hbl
  have HFT := Lib.hid hft
  have HCC := Lib.hid hc
  clear hd hbl hft hc
  have HV : Hid (scanC c = 0 ∧ scanV c = sumK c c.ss.length) := Lib.hid (by unfold scanV scanC; rw [HCC.out]; exact ⟨rfl, rfl⟩)
  go_wp2_with (fail)
  refine (c_time c ab as_ cb cs _ HD.out HBL.out HFT.out (HC.out.below HB1.out)).mono ?_
  rintro e w2 ⟨rfl, hb⟩
  have HB2 := Lib.hid (below_chain HB1.out hb)
  clear hb a0 a1 a2 a3 a4
  go_wp2_with (fail)
  refine bodyPost_ret (v := .tuple #[.int .i64 (sumK c c.ss.length), .int .i64 0]) (by simp [results, Tryz.results11, go_sem]) rfl (by rw [HV.out.1, HV.out.2]; exact ⟨rfl, HB2.out⟩)
set_option maxHeartbeats 2000000 in
set_option maxRecDepth 100000 in
theorem c_TimeOf (c : Cd) (ab as_ : Option Addr) (cb cs : Nat) (s : Int) (w : World) (hs : CdOk c) (h : CdR w ab as_ c) (hk : KwR w) :
    Calls Tryz.prog 14 #[cv c ab as_ cb cs, .int .i64 s] w (Ret2 (timeV c s) (timeC c s) w) := by
  have HS := Lib.hid hs
  have HK := Lib.hid hk
  have HC := Lib.hid h
  have hl2 := hs.2
  have HAB : Hid (Below w.heap.size w (w.alloc (.cells #[.int .i64 c.i, .int .i64 c.v, .int .i64 c.o, .slice ab c.bs.length cb, .slice as_ c.ss.length cs] 35))) := Lib.hid (below_alloc (Below.refl _ _) _)
  have HA : Hid (CB (w.alloc (.cells #[.int .i64 c.i, .int .i64 c.v, .int .i64 c.o, .slice ab c.bs.length cb, .slice as_ c.ss.length cs] 35)) w.heap.size c ab as_ cb cs) := Lib.hid ⟨by go_simp, by go_simp, by go_simp, by go_simp, by go_simp⟩
  clear hs h hk
  go_enter Tryz.func14, Tryz.ntmps14
  dsimp only [cv]
  go_upto_region 1 with (fail)
  generalize w.alloc (.cells #[.int .i64 c.i, .int .i64 c.v, .int .i64 c.o, .slice ab c.bs.length cb, .slice as_ c.ss.length cs] 35) = W at *
  obtain ⟨a0, a1, a2, a3, a4⟩ := HA.out
  go_wp2_with (fail)
  refine (c_IsCode c ab as_ cb cs _ HS.out (HC.out.below HAB.out) (HK.out.below HAB.out)).mono ?_
  rintro e w1 ⟨rfl, hb⟩
  have HB1 := Lib.hid (below_chain HAB.out hb)
  have HA1 := Lib.hid (HA.out.below hb)
  clear hb HA HAB a0 a1 a2 a3 a4
  obtain ⟨a0, a1, a2, a3, a4⟩ := HA1.out
  rcases hc : codeB c with _ | _
  · have HV : Hid (timeC c s = 1 ∧ timeV c s = 0) := Lib.hid (by unfold timeV timeC; rw [hc]; exact ⟨rfl, rfl⟩)
    go_wp2_with (fail)
    refine bodyPost_ret (v := .tuple #[.int .i64 0, .int .i64 1]) (by simp [results, Tryz.results14, go_sem]) rfl (by rw [HV.out.1, HV.out.2]; exact ⟨rfl, HB1.out⟩)
  obtain ⟨hd, hbl, hft⟩ := code_parts hc
  have HD := Lib.hid hd
  have HBL := Lib.hid hbl
  have HFT := Lib.hid hft
  have HCC := Lib.hid hc
  clear hd hbl hft hc
  have hw : IntKind.i64.wrap ((c.ss.length : Int) - 1) = (c.ss.length : Int) - 1 := IntWalk.i64_in _ (by omega)
  rcases hi : inB s 0 ((c.ss.length : Int) - 1) with _ | _
  · have HV : Hid (timeC c s = 4 ∧ timeV c s = 0) := Lib.hid (by unfold timeV timeC; rw [HCC.out, hi]; exact ⟨rfl, rfl⟩)
    go_wp2_with (first
      | (go_at_call 52
         refine (c_within _ _ _ _).mono ?_
         rintro e w' ⟨rfl, rfl⟩)
      | (go_at_call 53
         refine (c_lengthI _ _ _ _ hl2).mono ?_
         rintro e w' ⟨rfl, rfl⟩)
      )
    refine bodyPost_ret (v := .tuple #[.int .i64 0, .int .i64 4]) (by simp [results, Tryz.results14, go_sem]) rfl (by rw [HV.out.1, HV.out.2]; exact ⟨rfl, HB1.out⟩)
  have hib := of_decide_eq_true hi
  obtain ⟨k, rfl⟩ : ∃ k : Nat, s = k := ⟨s.toNat, by omega⟩
  obtain ⟨x, hx⟩ : ∃ x, c.ss[k]? = some x := ⟨_, List.getElem?_eq_getElem (by omega)⟩
  have HV : Hid (timeC c k = 0 ∧ timeV c k = timI c x) := Lib.hid (by
    have h0 : timeC c k = 0 := by unfold timeC; rw [HCC.out, hi]; rfl
    refine ⟨h0, ?_⟩
    unfold timeV
    rw [if_pos h0, Int.toNat_natCast, List.getD_eq_getElem?_getD, hx]
    rfl)
  have HF1 := Lib.hid (HFT.out x (List.mem_of_getElem? hx))
  obtain ⟨b1, o1, rfl, _, g0, g1⟩ := (HC.out.below HB1.out).s.ins hx
  have hk0 : (0 : Int) ≤ (k : Int) := by omega
  have hk1 : (k : Int) < c.ss.length := by omega
  clear hx
  go_wp2_with (first
    | (go_at_call 52
       refine (c_within _ _ _ _).mono ?_
       rintro e w' ⟨rfl, rfl⟩)
    | (go_at_call 53
       refine (c_lengthI _ _ _ _ hl2).mono ?_
       rintro e w' ⟨rfl, rfl⟩)
    )
  refine wp_region_held_drew (S := (fun w' => (w'.cell? ⟨w.heap.size, 0, none⟩ = some (.int .i64 c.i) ∧ w'.cell? ⟨w.heap.size, 1, none⟩ = some (.int .i64 c.v) ∧ w'.cell? ⟨w.heap.size, 2, none⟩ = some (.int .i64 c.o) ∧ w'.cell? ⟨w.heap.size, 3, none⟩ = some (.slice ab c.bs.length cb) ∧ w'.cell? ⟨w.heap.size, 4, none⟩ = some (.slice (some ⟨b1, o1, none⟩) c.ss.length cs)) ∧ w'.cell? ⟨b1, o1 + k * 2, none⟩ = some (.int .i64 x.o) ∧ w'.cell? ⟨b1, o1 + k * 2 + 1, none⟩ = some (.int .i64 x.a))) (by kernel_rfl) ?_ (fun hHeld => ?_)
  · exact ⟨⟨a0, a1, a2, a3, a4⟩, g0, g1⟩
  refine rg_take (v := ?_) 0 rfl (by kernel_rfl) (by kernel_rfl) (by kernel_rfl) (fun _ _ _ h => h) (by kernel_rfl) ?_ (by assumption) ?_
  rotate_left
  · (intro w' hSw; (try dsimp only at hSw); go_simp; first | done | with_reducible rfl)
  simp only [Act.put, List.setIfInBounds_toArray, List.set_cons_zero, List.set_cons_succ]
  refine rg_take (v := ?_) 1 rfl (by kernel_rfl) (by kernel_rfl) (by kernel_rfl) (fun _ _ _ h => h) (by kernel_rfl) ?_ (by assumption) ?_
  rotate_left
  · (intro w' hSw; (try dsimp only at hSw); go_simp; first | done | with_reducible rfl)
  simp only [Act.put, List.setIfInBounds_toArray, List.set_cons_zero, List.set_cons_succ]
  refine rg_take (v := ?_) 2 rfl (by kernel_rfl) (by kernel_rfl) (by kernel_rfl) (fun _ _ _ h => h) (by kernel_rfl) ?_ (by assumption) ?_
  rotate_left
  · (intro w' hSw; (try dsimp only at hSw); go_simp; first | done | with_reducible rfl)
  simp only [Act.put, List.setIfInBounds_toArray, List.set_cons_zero, List.set_cons_succ]
  refine rg_take (v := ?_) 3 rfl (by kernel_rfl) (by kernel_rfl) (by kernel_rfl) (fun _ _ _ h => h) (by kernel_rfl) ?_ (by assumption) ?_
  rotate_left
  · (intro w' hSw; (try dsimp only at hSw); go_simp; first | done | with_reducible rfl)
  simp only [Act.put, List.setIfInBounds_toArray, List.set_cons_zero, List.set_cons_succ]
  refine rg_take (v := ?_) 4 rfl (by kernel_rfl) (by kernel_rfl) (by kernel_rfl) (fun _ _ _ h => h) (by kernel_rfl) ?_ (by assumption) ?_
  rotate_left
  · (intro w' hSw; (try dsimp only at hSw); go_simp; first | done | with_reducible rfl)
  simp only [Act.put, List.setIfInBounds_toArray, List.set_cons_zero, List.set_cons_succ]
  refine rg_take (v := ?_) 5 rfl (by kernel_rfl) (by kernel_rfl) (by kernel_rfl) (fun _ _ _ h => h) (by kernel_rfl) ?_ (by assumption) ?_
  rotate_left
  · (intro w' hSw; (try dsimp only at hSw); go_simp; first | done | with_reducible rfl)
  simp only [Act.put, List.setIfInBounds_toArray, List.set_cons_zero, List.set_cons_succ]
  refine rg_run 6 rfl (by kernel_rfl) (by kernel_rfl) (fun K hK => ?_)
  go_simp
  refine (c_timeOf c ab (some ⟨b1, o1, none⟩) cb cs x _ HD.out HBL.out HF1.out ((HC.out.below HB1.out).below (Below.refl _ _).drew)).mono ?_
  rintro e w2 ⟨rfl, hb2⟩
  have hbs : Below w1.heap.size w1 w2 := below_chain (Below.refl _ _).drew hb2
  have HB2 := Lib.hid (below_chain HB1.out hbs)
  have HA2 := Lib.hid (HA1.out.below hbs)
  replace g0 := cell_later hbs g0
  replace g1 := cell_later hbs g1
  clear a0 a1 a2 a3 a4 hbs hb2
  obtain ⟨a0, a1, a2, a3, a4⟩ := HA2.out
  go_wp2
  clear hHeld
  refine hK.out _ _ (by exact ⟨⟨a0, a1, a2, a3, a4⟩, g0, g1⟩) (fun hHeld => ?_)
  clear hK K
  try simp only [Act.put, List.setIfInBounds_toArray, List.set_cons_zero, List.set_cons_succ]
  refine rg_take (v := ?_) 7 rfl (by kernel_rfl) (by kernel_rfl) (by kernel_rfl) (fun _ _ _ h => h) (by kernel_rfl) ?_ (by assumption) ?_
  rotate_left
  · (intro w' hSw; (try dsimp only at hSw); go_simp; first | done | with_reducible rfl)
  simp only [Act.put, List.setIfInBounds_toArray, List.set_cons_zero, List.set_cons_succ]
  refine rg_take (v := ?_) 8 rfl (by kernel_rfl) (by kernel_rfl) (by kernel_rfl) (fun _ _ _ h => h) (by kernel_rfl) ?_ (by assumption) ?_
  rotate_left
  · (intro w' hSw; (try dsimp only at hSw); go_simp; first | done | with_reducible rfl)
  simp only [Act.put, List.setIfInBounds_toArray, List.set_cons_zero, List.set_cons_succ]
  refine wpAnyH_done (by kernel_rfl) ?_ _
  clear hHeld
  clear a0 a1 a2 a3 a4 g0 g1
  go_wp2_with (fail)
  refine bodyPost_ret (v := .tuple #[.int .i64 (timI c x), .int .i64 0]) (by simp [results, Tryz.results14, go_sem]) rfl (by rw [HV.out.1, HV.out.2]; exact ⟨rfl, HB2.out⟩)
end Go.Proofs.YteengjcplmjakaaGreatDoor

/- The code of a sound program is a code, plainly. No condition but that the program is sound. -/
namespace Go.Proofs.YteengjcplmjakaaGreatDoor
open Go.RowKit

theorem tak_nm (p : Prg) (c : Cd) (s : ByteArray) : takI c (nmI p s 2 3) = 0 ∧ givI (nmI p s 2 3) = 1 := by
  unfold nmI
  split <;> exact ⟨rfl, rfl⟩
theorem tak_gd (p : Prg) (c : Cd) (s : ByteArray) : takI c (nmI p s 10 11) = 0 ∧ givI (nmI p s 10 11) = 0 := by
  unfold nmI
  split <;> exact ⟨rfl, rfl⟩
theorem tak_tg (p : Prg) (c : Cd) (s : ByteArray) : takI c (tgI p s) = 1 ∧ givI (tgI p s) = 0 := by
  unfold tgI
  split <;> exact ⟨rfl, rfl⟩
theorem tak_T {p : Prg} {c : Cd} {b : Nat} {t : Tm} (hk : trmT t.k t.nm t.n = true) (hb : isB t = true → c.bs[b]? = some t) : takI c (insT p b t) = argI t.k ∧ givI (insT p b t) = 1 := by
  have hkk := trm_k hk
  unfold insT
  by_cases h1 : t.k = 1
  · rw [if_pos h1, h1]; exact tak_nm _ _ _
  rw [if_neg h1]
  by_cases h2 : t.k = 2
  · rw [if_pos h2, h2]; exact ⟨rfl, rfl⟩
  rw [if_neg h2]
  by_cases h3 : t.k = 3
  · rw [if_pos h3, h3]; exact ⟨rfl, rfl⟩
  rw [if_neg h3]
  by_cases h4 : t.k = 4 ∨ t.k = 5 ∨ t.k = 6
  · rw [if_pos h4]
    rcases h4 with h4 | h4 | h4 <;> rw [h4] <;> exact ⟨rfl, rfl⟩
  rw [if_neg h4]
  have hB : isB t = true := decide_eq_true (by omega)
  refine ⟨?_, rfl⟩
  show argI (kindA c (b : Int)) = _
  unfold kindA
  rw [Int.toNat_natCast, List.getD_eq_getElem?_getD, hb hB]
  rfl
theorem hgt_T {p : Prg} {c : Cd} (r : List Ins) : ∀ {l : List Tm} {b : Nat} {pre post : List Tm} {n m : Int}, c.bs = pre ++ (l.filter isB ++ post) → pre.length = b → (∀ x ∈ csT p b l, fitB c x = true) → runH l n = some m → n + l.length ≤ 40 → hgt c (csT p b l ++ r) n = hgt c r m
  | [], _, _, _, n, m, _, _, _, hr, _ => by
    simp only [runH, Option.some.injEq] at hr
    subst hr
    rfl
  | t :: l, b, pre, post, n, m, hc, hp, hf, hr, hn => by
    have e : runH (t :: l) n = if trmT t.k t.nm t.n = true ∧ argI t.k ≤ n then runH l (n - argI t.k + 1) else none := rfl
    rw [e] at hr
    split at hr
    · rename_i hx
      obtain ⟨e1, e2⟩ := tak_T (p := p) (c := c) (b := b) hx.1 (fun hB => by
        rw [hc, List.getElem?_append_right (by omega), hp, Nat.sub_self, List.filter_cons, if_pos hB]
        rfl)
      have ha := arg_bd t.k
      have hl : ((t :: l).length : Int) = l.length + 1 := by simp
      show (if fitB c (insT p b t) = true ∧ takI c (insT p b t) ≤ n ∧ n - takI c (insT p b t) + givI (insT p b t) ≤ 40 then hgt c (csT p (b + nbT [t]) l ++ r) (n - takI c (insT p b t) + givI (insT p b t)) else none) = _
      rw [e1, e2, if_pos ⟨hf _ List.mem_cons_self, hx.2, by omega⟩]
      refine hgt_T r (pre := pre ++ [t].filter isB) (post := post) ?_ ?_ (fun x hx => hf x (List.mem_cons_of_mem _ hx)) hr (by omega)
      · rw [hc, show t :: l = [t] ++ l from rfl, List.filter_append]
        simp
      · rw [List.length_append, hp]
        rfl
    · cases hr
theorem hgt_L {p : Prg} {c : Cd} (r : List Ins) {l : Lin} {b : Nat} {pre post : List Tm} (hc : c.bs = pre ++ (blkL l ++ post)) (hp : pre.length = b) (hf : ∀ x ∈ csL p b l, fitB c x = true) (hr : runH l.ts 0 = some 1) (hn : l.ts.length ≤ 40) : hgt c (csL p b l ++ r) 0 = hgt c r 0 := by
  unfold csL at hf ⊢
  rw [List.append_assoc, hgt_T ([tgI p l.tg] ++ r) hc hp (fun x hx => hf x (List.mem_append_left _ hx)) hr (by omega)]
  obtain ⟨e1, e2⟩ := tak_tg p c l.tg
  show (if fitB c (tgI p l.tg) = true ∧ takI c (tgI p l.tg) ≤ 1 ∧ 1 - takI c (tgI p l.tg) + givI (tgI p l.tg) ≤ 40 then hgt c r (1 - takI c (tgI p l.tg) + givI (tgI p l.tg)) else none) = _
  rw [e1, e2, if_pos ⟨hf _ (List.mem_append_right _ (List.mem_singleton.2 rfl)), by omega, by omega⟩]
  rfl
theorem hgt_P {p : Prg} {c : Cd} (r : List Ins) : ∀ {ls : List Lin} {b : Nat} {pre post : List Tm}, c.bs = pre ++ (ls.flatMap blkL ++ post) → pre.length = b → (∀ x ∈ csP p b ls, fitB c x = true) → (∀ l ∈ ls, runH l.ts 0 = some 1) → (∀ l ∈ ls, l.ts.length ≤ 40) → hgt c (csP p b ls ++ r) 0 = hgt c r 0
  | [], _, _, _, _, _, _, _, _ => rfl
  | l :: ls, b, pre, post, hc, hp, hf, hr, hn => by
    show hgt c (csL p b l ++ csP p (b + nbT l.ts) ls ++ r) 0 = _
    have hf' : ∀ x ∈ csL p b l ++ csP p (b + nbT l.ts) ls, fitB c x = true := hf
    rw [List.append_assoc, hgt_L (csP p (b + nbT l.ts) ls ++ r) (pre := pre) (post := ls.flatMap blkL ++ post) (by rw [hc, List.flatMap_cons, List.append_assoc]) hp (fun x hx => hf' x (List.mem_append_left _ hx)) (hr l List.mem_cons_self) (hn l List.mem_cons_self)]
    refine hgt_P r (pre := pre ++ blkL l) (post := post) ?_ ?_ (fun x hx => hf' x (List.mem_append_right _ hx)) (fun x hx => hr x (List.mem_cons_of_mem _ hx)) (fun x hx => hn x (List.mem_cons_of_mem _ hx))
    · rw [hc, List.flatMap_cons, List.append_assoc, List.append_assoc]
    · rw [List.length_append, hp]
      rfl
theorem run_one {p : Prg} (h : (wrB p && fltB p) = true) : ∀ l ∈ p.ls, runH l.ts 0 = some 1 := by
  intro l hl
  rw [Bool.and_eq_true] at h
  obtain ⟨hw, _⟩ := h
  unfold wrB at hw
  simp only [Bool.and_eq_true] at hw
  have h1 := List.all_eq_true.1 hw.2.2.2.2.2.1 l hl
  unfold linB exB at h1
  simp only [Bool.and_eq_true] at h1
  have h0 := h1.2.1
  unfold exF at h0
  split at h0
  · rename_i n e
    rw [e]
    simpa using h0
  · cases h0
/-- The code of a sound program is a code. -/
theorem code_cmp {p : Prg} (h : (wrB p && fltB p) = true) : codeB (cmp p) = true := by
  have hs := snd_of h
  have hd := hd_cmp hs
  have hf := fit_cmp hs
  have hh : hgt (cmp p) (cmp p).ss 0 = some 0 := by
    show hgt (cmp p) (csP p 0 p.ls ++ gdI p) 0 = some 0
    rw [hgt_P (b := 0) (gdI p) (pre := []) (post := []) (by show blk p = [] ++ (p.ls.flatMap blkL ++ []); rw [List.nil_append, List.append_nil]; rfl) rfl (fun x hx => hf x (List.mem_append_left _ hx)) (run_one h) hs.b.t]
    have hg : ∀ x ∈ gdI p, fitB (cmp p) x = true := fun x hx => hf x (List.mem_append_right _ hx)
    unfold gdI at hg ⊢
    split
    · rfl
    · rename_i he
      rw [if_neg he] at hg
      obtain ⟨e1, e2⟩ := tak_gd p (cmp p) p.gd
      show (if fitB (cmp p) (nmI p p.gd 10 11) = true ∧ takI (cmp p) (nmI p p.gd 10 11) ≤ 0 ∧ 0 - takI (cmp p) (nmI p p.gd 10 11) + givI (nmI p p.gd 10 11) ≤ 40 then some (0 - takI (cmp p) (nmI p p.gd 10 11) + givI (nmI p p.gd 10 11)) else none) = _
      rw [e1, e2, if_pos ⟨hg _ (List.mem_singleton.2 rfl), by omega, by omega⟩]
      rfl
  unfold codeB headC hgtB inB
  rw [hh]
  simp only [Bool.and_eq_true, decide_eq_true_eq]
  exact ⟨⟨⟨⟨⟨⟨⟨hd.i0, hd.i1⟩, hd.v0, hd.v1⟩, hd.o0, hd.o1⟩, hd.b⟩, hd.s⟩, List.all_eq_true.2 (blk_cmp hs)⟩, trivial⟩
theorem scan_cmp {p : Prg} (h : (wrB p && fltB p) = true) : scanC (cmp p) = 0 ∧ scanV (cmp p) = sumK (cmp p) (cmp p).ss.length := by
  unfold scanC scanV
  rw [code_cmp h]
  exact ⟨rfl, rfl⟩
end Go.Proofs.YteengjcplmjakaaGreatDoor

/- The law's walk: reactions. Condition: the bytes; the keywords lie there. -/
namespace Go.Proofs.YteengjcplmjakaaGreatDoor
open Go.RowKit

theorem rt_ok {p : Prg} {s t : ByteArray} {per : Int} (h : rtC p s t per = 0) : (wrB p && fltB p) = true ∧ dlyC p s t = 0 ∧ rtV p s t per = IntKind.i64.wrap (IntKind.i64.wrap (dlyR p s t * per) + sumK (cmp p) (cmp p).ss.length) := by
  have hv : rtV p s t per = IntKind.i64.wrap (IntKind.i64.wrap (dlyV p s t * per) + sumK (cmp p) (cmp p).ss.length) := by unfold rtV; rw [if_pos h]
  have hd : dlyC p s t = 0 := by
    unfold rtC at h
    split at h
    · split at h
      · exact h
      · cases h
    · exact h
  have hw : (wrB p && fltB p) = true := by
    unfold dlyC at hd
    split at hd
    · assumption
    · cases hd
  refine ⟨hw, hd, ?_⟩
  rw [hv]
  unfold dlyR
  rw [if_pos hd]
theorem cmp_ok {p : Prg} (hok : PgOk p) (h : (wrB p && fltB p) = true) : CdOk (cmp p) := by
  have hd := hd_cmp (snd_of h)
  refine ⟨⟨by have := hd.b; omega, fun t ht => ?_⟩, by have := hd.s; omega⟩
  obtain ⟨l, hl, ht⟩ := List.mem_flatMap.1 (show t ∈ p.ls.flatMap blkL from ht)
  exact (hok.l.2 l hl).2.2 t (List.mem_filter.1 (show t ∈ l.ts.filter isB from ht)).1
set_option maxHeartbeats 4000000 in
set_option maxRecDepth 100000 in
theorem law_FnReactions (A : Option Addr) (c n : Nat) (w : World) (hb : Bytes w w.heap.size A n) (hk : KwR w) :
    Calls Tryz.prog 5 #[.slice A n c] w fun e w' => e = .returned (.bool true) ∧ Below w.heap.size w w' := by
  have HK := Lib.hid hk
  clear hk
  by_cases hbig : 4096 < n
  · have hd : decide (4096 < n) = true := decide_eq_true hbig
    go_enter Tryz.func5, Tryz.ntmps5
    go_wp2_with (first
      | (go_at_call 6
         refine (c_big _ _ _ _).mono ?_
         rintro e w' ⟨rfl, rfl⟩)
      )
    go_ret
    exact ⟨rfl, by (repeat (first | exact Below.refl _ _ | assumption | refine below_alloc ?_ _ | refine below_drewN ?_ _ | refine below_set ?_ _ (by simp; try omega) | refine Below.drew ?_))⟩
  have hd : decide (4096 < n) = false := decide_eq_false hbig
  have HY := Lib.hid (fun w' (h : Below w.heap.size w w') => hb.later h h.size)
  have HYB := Lib.hid hb
  clear hb
  go_enter Tryz.func5, Tryz.ntmps5
  go_wp2_with (first
    | (go_at_call 6
       refine (c_big _ _ _ _).mono ?_
       rintro e w' ⟨rfl, rfl⟩)
    )
  refine (c_DrawReactionTime A c n w (by omega) HYB.out).mono ?_
  rintro e w1 ⟨p, a1, a2, a3, a4, c1, c2, c3, c4, ds, xs, rfl, ho, hok, ⟨s, t, per, rfl, hs, ht, hp0, hp1⟩, hb1⟩
  have HB1 := Lib.hid hb1
  have H1 := Lib.hid ho.pg
  have hz : PgZ a1 a2 a3 c1 c2 c3 := ⟨own_none ho.i, own_none ho.v, own_none ho.o⟩
  have HIR := Lib.hid (fun w h hk => c_React p a1 a2 a3 a4 c1 c2 c3 c4 s t per w hok hz h hk (by unfold maxLen; omega))
  have HSR := Lib.hid (fun w h => c_sReact p a1 a2 a3 a4 c1 c2 c3 c4 s t per w hok hz h)
  have HID := Lib.hid (fun w h hk => c_DelayOf p a1 a2 a3 a4 c1 c2 c3 c4 s t w hok hz h hk (by unfold maxLen; omega))
  have HCP := Lib.hid (fun w h hk hso => c_CompileProgram p a1 a2 a3 a4 c1 c2 c3 c4 w hok hz h hk hso)
  have HRT := Lib.hid (fun (h : rtC p s t per = 0) => rt_ok h)
  have HCO := Lib.hid (fun h => cmp_ok hok h)
  have HCD := Lib.hid (fun (h : (wrB p && fltB p) = true) => scan_cmp h)
  have HP1 := Lib.hid (own_box w1 w1.heap.size 27 [.string p.nm, .slice a1 p.ins.length c1, .slice a2 p.vs.length c2, .slice a3 p.os.length c3, .string p.gd, .slice a4 p.ls.length c4] 6 rfl (Nat.le_refl _))
  have BA := below_alloc (Below.refl w1.heap.size w1) (.cells #[.string p.nm, .slice a1 p.ins.length c1, .slice a2 p.vs.length c2, .slice a3 p.os.length c3, .string p.gd, .slice a4 p.ls.length c4] 27)
  have HB2 := Lib.hid (below_chain HB1.out BA)
  have H2 := Lib.hid (H1.out.below BA)
  clear ho hok hz hs ht hb1 BA H1 HB1 HYB
  generalize rtC p s t per = C at *
  generalize rtV p s t per = V at *
  generalize dlyC p s t = DC at *
  generalize dlyR p s t = DR at *
  generalize sumK (cmp p) (cmp p).ss.length = SK at *
  generalize cmp p = CM at *
  dsimp only [F2, pv] at *
  go_upto_region 4 with (fail)
  generalize w1.alloc (.cells #[.string p.nm, .slice a1 p.ins.length c1, .slice a2 p.vs.length c2, .slice a3 p.os.length c3, .string p.gd, .slice a4 p.ls.length c4] 27) = w2 at *
  generalize w1.heap.size = pb at *
  obtain ⟨⟨k0, k1, k2, k3, k4, k5⟩, _, _⟩ := PBox.c (show PBox w2 pb pb [.string p.nm, .slice a1 p.ins.length c1, .slice a2 p.vs.length c2, .slice a3 p.os.length c3, .string p.gd, .slice a4 p.ls.length c4] from HP1.out)
  clear HP1
  go_wp2_with (fail)
  refine (HIR.out _ H2.out (HK.out.below HB2.out)).mono ?_
  rintro e w3 ⟨rfl, hb⟩
  have HB3 := Lib.hid (below_chain HB2.out hb)
  have H3 := Lib.hid (H2.out.below hb)
  replace k0 := cell_later hb (by exact k0)
  replace k1 := cell_later hb (by exact k1)
  replace k2 := cell_later hb (by exact k2)
  replace k3 := cell_later hb (by exact k3)
  replace k4 := cell_later hb (by exact k4)
  replace k5 := cell_later hb (by exact k5)
  clear hb HB2 H2 HIR
  go_wp2_with (fail)
  refine (HSR.out _ H3.out).mono ?_
  rintro e w4 ⟨rfl, hb⟩
  have HB4 := Lib.hid (below_chain HB3.out hb)
  have H4 := Lib.hid (H3.out.below hb)
  replace k0 := cell_later hb (by exact k0)
  replace k1 := cell_later hb (by exact k1)
  replace k2 := cell_later hb (by exact k2)
  replace k3 := cell_later hb (by exact k3)
  replace k4 := cell_later hb (by exact k4)
  replace k5 := cell_later hb (by exact k5)
  clear hb HB3 H3 HSR
  go_wp2_with (fail)
  refine (c_DrawReachedBy A c n _ (by omega) (HY.out _ HB4.out)).mono ?_
  rintro e w5 ⟨q, e1, e2, e3, e4, f1, f2, f3, f4, es, xs, rfl, ho, hok, ⟨o, rfl, hos⟩, hb⟩
  have HB5 := Lib.hid (below_chain HB4.out hb)
  have H5 := Lib.hid (H4.out.below hb)
  replace k0 := cell_later hb (by exact k0)
  replace k1 := cell_later hb (by exact k1)
  replace k2 := cell_later hb (by exact k2)
  replace k3 := cell_later hb (by exact k3)
  replace k4 := cell_later hb (by exact k4)
  replace k5 := cell_later hb (by exact k5)
  have HQ5 := Lib.hid ho.pg
  have hqz : PgZ e1 e2 e3 f1 f2 f3 := ⟨own_none ho.i, own_none ho.v, own_none ho.o⟩
  have HIB := Lib.hid (fun w h hk => c_Reached q e1 e2 e3 e4 f1 f2 f3 f4 o w hok hqz h hk)
  have HSB := Lib.hid (fun w h => c_sReached q e1 e2 e3 e4 f1 f2 f3 f4 o w hok hqz h)
  have HP5 := Lib.hid (own_box w5 w5.heap.size 27 [.string q.nm, .slice e1 q.ins.length f1, .slice e2 q.vs.length f2, .slice e3 q.os.length f3, .string q.gd, .slice e4 q.ls.length f4] 6 rfl (Nat.le_refl _))
  have BA := below_alloc (Below.refl w5.heap.size w5) (.cells #[.string q.nm, .slice e1 q.ins.length f1, .slice e2 q.vs.length f2, .slice e3 q.os.length f3, .string q.gd, .slice e4 q.ls.length f4] 27)
  have HB6 := Lib.hid (below_chain HB5.out BA)
  have H6 := Lib.hid (H5.out.below BA)
  have HQ6 := Lib.hid (HQ5.out.below BA)
  replace k0 := cell_later BA (by exact k0)
  replace k1 := cell_later BA (by exact k1)
  replace k2 := cell_later BA (by exact k2)
  replace k3 := cell_later BA (by exact k3)
  replace k4 := cell_later BA (by exact k4)
  replace k5 := cell_later BA (by exact k5)
  clear hb HB4 H4 HB5 H5 HQ5 BA ho hok hqz hos
  dsimp only [F2, pv] at *
  generalize rbL q o = RL at *
  generalize rbC q o = RC at *
  go_upto_region 7 with (fail)
  generalize w5.alloc (.cells #[.string q.nm, .slice e1 q.ins.length f1, .slice e2 q.vs.length f2, .slice e3 q.os.length f3, .string q.gd, .slice e4 q.ls.length f4] 27) = w6 at *
  generalize w5.heap.size = qb at *
  obtain ⟨⟨g0, g1, g2, g3, g4, g5⟩, _, _⟩ := PBox.c (show PBox w6 qb qb [.string q.nm, .slice e1 q.ins.length f1, .slice e2 q.vs.length f2, .slice e3 q.os.length f3, .string q.gd, .slice e4 q.ls.length f4] from HP5.out)
  clear HP5
  go_wp2_with (fail)
  refine (HIB.out _ HQ6.out (HK.out.below HB6.out)).mono ?_
  rintro e w7 ⟨A7, n7, c7, rfl, hn7, ho7, hb⟩
  have HB7 := Lib.hid (below_chain HB6.out hb)
  have H7 := Lib.hid (H6.out.below hb)
  have HQ7 := Lib.hid (HQ6.out.below hb)
  have HL7 := Lib.hid hn7
  have HR7 := Lib.hid (Rd.own ho7)
  have HC7 := own_cap ho7
  replace k0 := cell_later hb (by exact k0)
  replace k1 := cell_later hb (by exact k1)
  replace k2 := cell_later hb (by exact k2)
  replace k3 := cell_later hb (by exact k3)
  replace k4 := cell_later hb (by exact k4)
  replace k5 := cell_later hb (by exact k5)
  replace g0 := cell_later hb (by exact g0)
  replace g1 := cell_later hb (by exact g1)
  replace g2 := cell_later hb (by exact g2)
  replace g3 := cell_later hb (by exact g3)
  replace g4 := cell_later hb (by exact g4)
  replace g5 := cell_later hb (by exact g5)
  clear hb HB6 H6 HQ6 HIB hn7 ho7
  go_wp2_with (fail)
  refine (HSB.out _ HQ7.out).mono ?_
  rintro e w8 ⟨A8, n8, c8, rfl, hn8, ho8, hb⟩
  have HB8 := Lib.hid (below_chain HB7.out hb)
  have H8 := Lib.hid (H7.out.below hb)
  have HL8 := Lib.hid hn8
  have HR8 := Lib.hid (HR7.out.below hb)
  have HS8 := Lib.hid (Rd.own ho8)
  replace k0 := cell_later hb (by exact k0)
  replace k1 := cell_later hb (by exact k1)
  replace k2 := cell_later hb (by exact k2)
  replace k3 := cell_later hb (by exact k3)
  replace k4 := cell_later hb (by exact k4)
  replace k5 := cell_later hb (by exact k5)
  clear hb HB7 H7 HQ7 HSB hn8 ho8 HR7 g0 g1 g2 g3 g4 g5
  unfold maxLen at HC7
  go_wp2_with (fail)
  refine (c_likeNames5 A7 A8 c7 c8 n7 n8 RL _ HL7.out HL8.out (by omega) HR8.out HS8.out).mono ?_
  rintro e w9 ⟨rfl, hb⟩
  have HB9 := Lib.hid (below_chain HB8.out hb)
  have H9 := Lib.hid (H8.out.below hb)
  replace k0 := cell_later hb (by exact k0)
  replace k1 := cell_later hb (by exact k1)
  replace k2 := cell_later hb (by exact k2)
  replace k3 := cell_later hb (by exact k3)
  replace k4 := cell_later hb (by exact k4)
  replace k5 := cell_later hb (by exact k5)
  clear hb HB8 H8 HL7 HL8 HR8 HS8 HC7
  by_cases hC : C = 0
  · subst hC
    obtain ⟨hso, hdc, hv⟩ := HRT.out rfl
    have HSO := Lib.hid hso
    have HV := Lib.hid hv
    have hco := HCO.out hso
    obtain ⟨hsc0, hsv0⟩ := HCD.out hso
    have HMO := Lib.hid hco
    have HSC := Lib.hid hsc0
    have HSV := Lib.hid hsv0
    subst hdc
    clear hso hv hco hsv0 hsc0 HRT HCO HCD
    go_wp2_with (fail)
    refine (HID.out _ H9.out (HK.out.below HB9.out)).mono ?_
    rintro e w10 ⟨rfl, hb⟩
    have HB10 := Lib.hid (below_chain HB9.out hb)
    have H10 := Lib.hid (H9.out.below hb)
    replace k0 := cell_later hb (by exact k0)
    replace k1 := cell_later hb (by exact k1)
    replace k2 := cell_later hb (by exact k2)
    replace k3 := cell_later hb (by exact k3)
    replace k4 := cell_later hb (by exact k4)
    replace k5 := cell_later hb (by exact k5)
    clear hb HB9 H9 HID
    go_wp2_with (fail)
    refine (HCP.out _ H10.out (HK.out.below HB10.out) HSO.out).mono ?_
    rintro e w11 ⟨A1, q1, A2, q2, rfl, hcd, hb⟩
    have HB11 := Lib.hid (below_chain HB10.out hb)
    have hcc := c_ScanTime CM A1 A2 q1 q2
    simp only [HSC.out, HSV.out] at hcc
    have HCC := Lib.hid hcc
    have HCR := Lib.hid hcd
    clear hb HB10 H10 HCP k0 k1 k2 k3 k4 k5 hcd hcc
    dsimp only [cv] at *
    have BA := below_alloc (Below.refl w11.heap.size w11) (.cells #[.int .i64 CM.i, .int .i64 CM.v, .int .i64 CM.o, .slice A1 CM.bs.length q1, .slice A2 CM.ss.length q2] 35)
    have HB12 := Lib.hid (below_chain HB11.out BA)
    have HCR2 := Lib.hid (HCR.out.below BA)
    go_wp2_with (fail)
    refine (HCC.out _ HMO.out HCR2.out (HK.out.below HB12.out)).mono ?_
    rintro e w13 ⟨rfl, hb⟩
    have HB13 := Lib.hid (below_chain HB12.out hb)
    clear hb HCC HCR HCR2 HB11 HB12 BA
    obtain rfl := HV.out
    go_wp2_with (fail)
    go_ret
    exact ⟨rfl, HB13.out⟩
  · have hC1 : (C != 0) = true := by simpa using hC
    have hC2 : (C == 0) = false := by simpa using hC
    clear k0 k1 k2 k3 k4 k5
    go_wp2_with (fail)
    go_ret
    exact ⟨rfl, HB9.out⟩
end Go.Proofs.YteengjcplmjakaaGreatDoor
