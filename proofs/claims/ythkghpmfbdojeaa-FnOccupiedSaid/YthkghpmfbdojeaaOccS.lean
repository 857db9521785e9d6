/- Contracts of the reference's OccupiedBlocks and what it calls. Condition: the layout is valid. -/
import Derived.Test.YthkghpmfbdojeaaOccW
namespace Go.Proofs.Ythkghpmfbdojeaa
open Go.RowKit

theorem c_l05Covers (T p n q : Int) (w : World) (hT : 1 ≤ T) (hT1 : T ≤ 4800000) (hp0 : 0 ≤ p) (hp1 : p ≤ 4800000) (hq0 : 0 ≤ q) (hq1 : q ≤ 4800000) :
    Calls Try.prog 46 #[.int .i64 T, .int .i64 p, .int .i64 n, .int .i64 q] w fun e w' => e = .returned (.bool (decide ((p - q) % T < n))) ∧ w = w' := by
  go_enter Try.func46, Try.ntmps46
  go_wp2_with (first
    | (go_at_call 36
       refine (c_l05Mod _ _ _ (by omega) (by omega) (by omega) (by omega)).mono ?_
       rintro e w' ⟨rfl, rfl⟩)
    )
  go_ret
  exact ⟨rfl, rfl⟩
set_option maxRecDepth 100000 in
theorem c_l05Code (A : Option Addr) (c n : Nat) (l : List Seg) (p x : Int) (w : World) (hn : n = l.length) (hs : n ≤ 1048576) (hr : Rd w A (segCells l)) :
    Calls Try.prog 52 #[.agg #[.slice A n c], .int .i64 p, .int .i64 x, .int .i64 1, .int .i64 40000] w fun e w' => e = .returned (.int .i64 (trnC l x [p])) ∧ Below w.heap.size w w' := by
  have HN := Lib.hid hn
  clear hn
  rcases hlb : layB l with _ | _
  · have HT := Lib.hid (show trnC l x [p] = 1 by simp [trnC, hlb])
    go_enter Try.func52, Try.ntmps52
    go_wp2_with (first
      | (go_at_call 41
         refine (c_sIsLayout _ _ _ l _ HN.out hs (hr.alloc _)).mono ?_
         rintro e w1 ⟨rfl, hb⟩
         first | replace k0 := cell_later hb k0 | (have k0 : w1.cell? ⟨w.heap.size, 0, none⟩ = some (.slice A n c) := cell_later hb (by go_simp))
         first | replace B := below_chain B hb | (have B : Below w.heap.size w w1 := below_chain (by (repeat (first | exact Below.refl _ _ | assumption | refine below_alloc ?_ _ | refine below_drewN ?_ _ | refine below_set ?_ _ (by simp; try omega) | refine Below.drew ?_))) hb)
         clear hb)
      )
    go_ret
    exact ⟨ret_int HT.out.symm, B⟩
  have hl := layB_iff.1 hlb
  have hp2 := pos_small hl (k := l.length) (Nat.le_refl _)
  have HT := Lib.hid (show trnC l x [p] = if inB p 0 (pos l l.length - 1) && inB x 1 (min 40000 (pos l l.length)) then 0 else 2 by simp [trnC, hlb])
  have HTO := Lib.hid (fun (w : World) (hr : Rd w A (segCells l)) => c_l03Total A c n l w HN.out hr hl)
  generalize hP : pos l l.length = T at *
  rcases h1 : inB p 0 (T - 1) with _ | _
  · have HT2 := Lib.hid (show trnC l x [p] = 2 by rw [HT.out, h1]; rfl)
    clear HT hP
    go_enter Try.func52, Try.ntmps52
    go_wp2_with (first
      | (go_at_call 41
         refine (c_sIsLayout _ _ _ l _ HN.out hs (hr.alloc _)).mono ?_
         rintro e w1 ⟨rfl, hb⟩
         first | replace k0 := cell_later hb k0 | (have k0 : w1.cell? ⟨w.heap.size, 0, none⟩ = some (.slice A n c) := cell_later hb (by go_simp))
         first | replace B := below_chain B hb | (have B : Below w.heap.size w w1 := below_chain (by (repeat (first | exact Below.refl _ _ | assumption | refine below_alloc ?_ _ | refine below_drewN ?_ _ | refine below_set ?_ _ (by simp; try omega) | refine Below.drew ?_))) hb)
         have g1 := Lib.hid ((hr.alloc _).below hb)
         clear hb)
      | (go_at_call 35
         refine (HTO.out _ g1.out).mono ?_
         rintro e w1 ⟨rfl, hb⟩
         first | replace k0 := cell_later hb k0 | (have k0 : w1.cell? ⟨w.heap.size, 0, none⟩ = some (.slice A n c) := cell_later hb (by go_simp))
         first | replace B := below_chain B hb | (have B : Below w.heap.size w w1 := below_chain (by (repeat (first | exact Below.refl _ _ | assumption | refine below_alloc ?_ _ | refine below_drewN ?_ _ | refine below_set ?_ _ (by simp; try omega) | refine Below.drew ?_))) hb)
         clear hb)
      | (go_at_call 43
         refine (c_l01In _ _ _ _).mono ?_
         rintro e w' ⟨rfl, rfl⟩)
      )
    all_goals go_ret
    all_goals exact ⟨ret_int HT2.out.symm, B⟩
  rcases h2 : inB x 1 (min 40000 T) with _ | _
  all_goals
    have HT2 := Lib.hid HT.out
    rw [h1, h2] at HT2
    clear HT hP
    have h3 : inB x 1 (if T < 40000 then T else 40000) = inB x 1 (min 40000 T) := by congr 1; split <;> omega
    rw [h2] at h3
    go_enter Try.func52, Try.ntmps52
    go_wp2_with (first
      | (go_at_call 41
         refine (c_sIsLayout _ _ _ l _ HN.out hs (hr.alloc _)).mono ?_
         rintro e w1 ⟨rfl, hb⟩
         first | replace k0 := cell_later hb k0 | (have k0 : w1.cell? ⟨w.heap.size, 0, none⟩ = some (.slice A n c) := cell_later hb (by go_simp))
         first | replace B := below_chain B hb | (have B : Below w.heap.size w w1 := below_chain (by (repeat (first | exact Below.refl _ _ | assumption | refine below_alloc ?_ _ | refine below_drewN ?_ _ | refine below_set ?_ _ (by simp; try omega) | refine Below.drew ?_))) hb)
         have g1 := Lib.hid ((hr.alloc _).below hb)
         clear hb)
      | (go_at_call 35
         refine (HTO.out _ g1.out).mono ?_
         rintro e w1 ⟨rfl, hb⟩
         first | replace k0 := cell_later hb k0 | (have k0 : w1.cell? ⟨w.heap.size, 0, none⟩ = some (.slice A n c) := cell_later hb (by go_simp))
         first | replace B := below_chain B hb | (have B : Below w.heap.size w w1 := below_chain (by (repeat (first | exact Below.refl _ _ | assumption | refine below_alloc ?_ _ | refine below_drewN ?_ _ | refine below_set ?_ _ (by simp; try omega) | refine Below.drew ?_))) hb)
         clear hb)
      | (go_at_call 43
         refine (c_l01In _ _ _ _).mono ?_
         rintro e w' ⟨rfl, rfl⟩)
      )
    all_goals go_ret
    all_goals exact ⟨ret_int HT2.out.symm, B⟩
theorem c_l05Train (A : Option Addr) (c n : Nat) (l : List Seg) (p x : Int) (w : World) (hn : n = l.length) (hs : n ≤ 1048576) (hr : Rd w A (segCells l)) :
    Calls Try.prog 24 #[.agg #[.slice A n c], .int .i64 p, .int .i64 x] w fun e w' => e = .returned (.int .i64 (trnC l x [p])) ∧ Below w.heap.size w w' := by
  have HN := Lib.hid hn
  clear hn
  go_enter Try.func24, Try.ntmps24
  go_wp2_with (first
    | (go_at_call 52
       refine (c_l05Code _ _ _ l _ _ _ HN.out hs (hr.alloc _)).mono ?_
       rintro e w1 ⟨rfl, hb⟩
       first | replace B := below_chain B hb | (have B : Below w.heap.size w w1 := below_chain (by (repeat (first | exact Below.refl _ _ | assumption | refine below_alloc ?_ _ | refine below_drewN ?_ _ | refine below_set ?_ _ (by simp; try omega) | refine Below.drew ?_))) hb)
       clear hb)
    )
  go_ret
  exact ⟨rfl, B⟩
section
variable {A : Option Addr} {c n : Nat} {l : List Seg} {A' : Option Addr} {c' n' : Nat} {fs : List Int} {w : World}
set_option maxHeartbeats 2000000 in
set_option maxRecDepth 100000 in
theorem c_l05Blocks (c : Nat) (p x : Int) (hok : okB l fs = true) (hx0 : 1 ≤ x) (hx1 : x ≤ 40000) (hxT : x ≤ pos l l.length) (hp0 : 0 ≤ p) (hp1 : p < pos l l.length) (h : LB w A n l A' c' n' fs) :
    Calls Try.prog 22 #[.agg #[.slice A n c], .slice A' n' c', .int .i64 p, .int .i64 x] w (RetInts (occL l fs p x fs.length) w) := by
  have hl := okB_lay hok
  have hlen := blkB_len hok
  have hp2 := pos_small hl (k := l.length) (Nat.le_refl _)
  have hrr := rr_bd hx0 hxT hp0 hp1
  have HN := Lib.hid h.hn
  have HN' := Lib.hid h.hn'
  have HOCC := Lib.hid (fun (q : Nat) (hq : q < fs.length) => occ_agree hok hx0 hxT hp0 hp1 hq)
  have HPB : Hid (∀ q, q < fs.length → 0 ≤ pos l (fstN fs q) ∧ pos l (fstN fs q) ≤ 4800000 ∧ fs[q]? = some (fstN fs q : Int) ∧ fstN fs q < n) := Lib.hid fun q hq => by
    have h0 := fst_at hok hq
    have h1 := pos_small hl (k := fstN fs q) (by omega)
    have := h.hn
    exact ⟨h1.1, h1.2, h0.1, by omega⟩
  have HTO := Lib.hid (fun (w : World) (h : LB w A n l A' c' n' fs) => c_l03Total A c n l w h.hn h.hr hl)
  have HST := Lib.hid (fun (w : World) (h : LB w A n l A' c' n' fs) => c_l03Starts A c n l w h.hn h.hs h.hr hl)
  have HAT := Lib.hid (fun (w : World) (h : LB w A n l A' c' n' fs) => c_l04At (w := w) c _ hok hrr.1 hrr.2 h)
  generalize hT : pos l l.length = T at *
  generalize hR : (p - x + 1) % T = R at *
  generalize hr : lastN fs (atN l R) = r at *
  have k0 : (w.alloc (.cells #[.slice A n c] 26)).cell? ⟨w.heap.size, 0, none⟩ = some (.slice A n c) := by go_simp
  have HL0 := Lib.hid h
  have HL1 := Lib.hid (h.alloc (.cells #[.slice A n c] 26))
  have HB1 := Lib.hid (below_alloc (Below.refl w.heap.size w) (.cells #[.slice A n c] 26))
  have hn8 : n' ≤ 8 := by have := h.hn'; omega
  have hn24 : n ≤ 24 := by have := hl.hi; have := h.hn; omega
  have HRR := Lib.hid hR
  have hT1 : 1 ≤ T := by omega
  have hpT : p ≤ 4800000 := by omega
  clear hT hR hr h hl hlen hxT hp1
  go_enter Try.func22, Try.ntmps22
  go_wp2_with (fail)
  generalize w.alloc (.cells #[.slice A n c] 26) = W1 at k0 HL1 HB1 ⊢
  refine (HTO.out _ HL1.out).mono ?_
  rintro e1 w1 ⟨rfl, hb⟩
  replace k0 := cell_later hb k0
  have HB2 := Lib.hid (below_chain HB1.out hb)
  clear hb HB1 HL1
  go_wp2_with (fail)
  refine (HST.out _ (HL0.out.below HB2.out)).mono ?_
  rintro e1 w2 ⟨As, cs, rfl, hos, hb⟩
  rw [stL_length] at hos ⊢
  replace k0 := cell_later hb k0
  have HB3 := Lib.hid (below_chain HB2.out hb)
  have HRS := Lib.hid (Rd.own hos)
  clear hb hos HB2
  go_wp2_with (fail)
  have HMO : Hid (∀ w, Calls Try.prog 36 #[.int .i64 (p - x + 1), .int .i64 T] w fun e w' => e = .returned (.int .i64 R) ∧ w = w') := Lib.hid fun w => by
    have := c_l05Mod (p - x + 1) T w (by omega) (by omega) (by omega) (by omega)
    rwa [HRR.out] at this
  have hws1 : IntKind.i64.wrap (p - x) = p - x := IntWalk.i64_in _ (by omega)
  have hws2 : IntKind.i64.wrap (p - x + 1) = p - x + 1 := IntWalk.i64_in _ (by omega)
  go_region_held3 (fun w' => w'.cell? ⟨w.heap.size, 0, none⟩ = some (.slice A n c)) (first | exact k0 | exact k4)
    (first
      | (go_at_call 36
         refine (HMO.out _).mono ?_
         rintro e3 w3 ⟨rfl, rfl⟩)
      | (go_at_call 45
         refine (HAT.out _ (by exact HL0.out.below HB3.out.drew)).mono ?_
         rintro e4 w4 ⟨rfl, hb4⟩
         have k4 : w4.cell? ⟨w.heap.size, 0, none⟩ = some (.slice A n c) := cell_later hb4 (by exact k0)
         have HB4 := Lib.hid (below_chain (by exact HB3.out.drew) hb4)
         have HS4 := Lib.hid (HRS.out.below (below_chain (by exact (Below.refl _ _).drew) hb4))
         clear hb4))
  clear hws1 hws2 HMO k0 HB3 HRS
  go_wp2_with (fail)
  have hown : (w4.alloc (.cells #[] 2)).ownsRow w4.heap.size 2 1 (.slice (some ⟨w4.heap.size, 0, none⟩) 0 0) 0 (ints (occL l fs p x 0)) := by
    have h := World.ownsRow_lit (e := 2) (size := 1) (base := w4.heap.size) w4 #[] 0 (by simp) (by decide) (by simp)
    have e : ints (occL l fs p x 0) = [] := by simp [occL, ints]
    rw [e]
    simpa using h
  go_loopw [12, 13] (fun v i wr => ∃ k : Nat, k ≤ n' ∧ i = .int .i64 k ∧ wr.ownsRow w4.heap.size 2 1 v (occL l fs p x k).length (ints (occL l fs p x k)) ∧ Below w4.heap.size w4 wr) (fun _ i _ => n' - (intOf i).toNat)
  case atStart => exact ⟨0, Nat.zero_le _, rfl, hown, (Below.refl _ _).alloc (Nat.le_refl _) _⟩
  case round =>
    obtain ⟨k, hk, rfl, ho, hb⟩ := hrel
    clear hown k4
    by_cases hlt : k < n'
    · have hpb := HPB.out k (by have := HN'.out; omega)
      have hlen := occL_len l fs p x k
      have HOK := Lib.hid (HOCC.out k (by have := HN'.out; omega))
      have HO := Lib.hid ho
      have HB := Lib.hid hb
      have hrow : Hid (∀ q, u12.ownBlock = some q → w4.heap.size ≤ q) := Lib.hid fun q hq => (ho.lt q hq).1
      obtain ⟨b, off, rfl, _, g0⟩ := (HL0.out.hr'.below (below_chain HB4.out hb)).int hpb.2.2.1
      obtain ⟨bs, offs, rfl, _, gs⟩ := (HS4.out.below hb).int (stL_get (l := l) (k := n) hpb.2.2.2)
      generalize fstN fs k = f at hpb g0 gs HOK
      have hf24 : f < 24 := by omega
      have hp8 := hpb.1
      have hp9 := hpb.2.1
      have hfn := hpb.2.2.2
      have hszr : w4.heap.size ≤ wr.heap.size := hb.size
      clear ho hb hpb
      by_cases h1 : k = r
      · have HT : Hid (occT l fs p x k = true) := Lib.hid (by rw [HOK.out]; simp [h1])
        have HY := Lib.hid (occL_yes HT.out)
        clear HT
        have h2 : ((k : Int) == (r : Int)) = true := by simp [h1]
        clear h1
        go_wp2_with (first
          | (at_builtin
             refine wpList_push_int _ rfl (.tmp 50) (.tmp 52) rfl w4.heap.size _ (occL l fs p x k).length (occL l fs p x k) (k : Int) wr.heap.size 1 rfl (HO.out.alloc _) rfl (by go_simp) (by omega) (by simp; omega) ?_
             intro v1 w5 hown1 hgrow hold hat
             have HO5 := Lib.hid hown1
             have HB5 := Lib.hid (below_of_grown (below_alloc HB.out _) hgrow hrow.out)
             clear hown1 hgrow hold hat)
          )
        go_roundw
        case rel => exact ⟨k + 1, by omega, by go_num, by rw [HY.out, List.length_append]; exact HO5.out, HB5.out⟩
        case measure => simp [intOf]; omega
      · by_cases h3 : (p - pos l f) % T < x
        · have HT : Hid (occT l fs p x k = true) := Lib.hid (by rw [HOK.out]; simp [h3])
          have HY := Lib.hid (occL_yes HT.out)
          clear HT
          have h2 : ((k : Int) == (r : Int)) = false := by simp; omega
          have h4 : decide ((p - pos l f) % T < x) = true := by simp [h3]
          clear h1 h3
          go_wp2_with (first
            | (go_at_call 46
               refine (c_l05Covers _ _ _ _ _ hT1 (by omega) hp0 hpT hp8 hp9).mono ?_
               rintro e w' ⟨rfl, rfl⟩)
            | (at_builtin
               refine wpList_push_int _ rfl (.tmp 50) (.tmp 52) rfl w4.heap.size _ (occL l fs p x k).length (occL l fs p x k) (k : Int) wr.heap.size 1 rfl (HO.out.alloc _) rfl (by go_simp) (by omega) (by simp; omega) ?_
               intro v1 w5 hown1 hgrow hold hat
               have HO5 := Lib.hid hown1
               have HB5 := Lib.hid (below_of_grown (below_alloc HB.out _) hgrow hrow.out)
               clear hown1 hgrow hold hat)
            )
          go_roundw
          case rel => exact ⟨k + 1, by omega, by go_num, by rw [HY.out, List.length_append]; exact HO5.out, HB5.out⟩
          case measure => simp [intOf]; omega
        · have HT : Hid (occT l fs p x k = false) := Lib.hid (by rw [HOK.out]; simp [h1, h3])
          have HY := Lib.hid (occL_no HT.out)
          clear HT
          have h2 : ((k : Int) == (r : Int)) = false := by simp; omega
          have h4 : decide ((p - pos l f) % T < x) = false := by simp [h3]
          clear h1 h3
          go_wp2_with (first
            | (go_at_call 46
               refine (c_l05Covers _ _ _ _ _ hT1 (by omega) hp0 hpT hp8 hp9).mono ?_
               rintro e w' ⟨rfl, rfl⟩)
            )
          go_roundw
          case rel => exact ⟨k + 1, by omega, by go_num, by rw [HY.out]; exact HO.out, HB.out⟩
          case measure => simp [intOf]; omega
    · obtain rfl : k = n' := by omega
      obtain ⟨A1, c1, rfl⟩ : ∃ A1 c1, u12 = .slice A1 (occL l fs p x k).length c1 := by
        rcases ho.2 with ⟨h1, h2⟩ | ⟨g, cap, cur, h1, _⟩
        · exact ⟨none, 0, by rw [h1, h2]⟩
        · exact ⟨_, _, h1⟩
      have HO := Lib.hid ho
      have HB := Lib.hid hb
      have hsz := HB4.out.size
      clear ho hb
      go_wp2
      go_ret
      rw [← HN'.out]
      exact ⟨A1, c1, rfl, own_mono HO.out hsz, below_chain HB4.out HB.out⟩
set_option maxRecDepth 100000 in
theorem c_sOccupiedBlocks (c : Nat) (p x : Int) (h : LB w A n l A' c' n' fs) :
    Calls Try.prog 10 #[.agg #[.slice A n c], .slice A' n' c', .int .i64 p, .int .i64 x] w (RetIC (occR l fs p x) (occC l fs p x) w) := by
  rcases hok : okB l fs with _ | _
  · have hok' : (layB l && blkB l fs) = false := hok
    have HC : Hid (occC l fs p x = 1) := Lib.hid (by unfold occC; rw [hok]; rfl)
    have HR : Hid (occR l fs p x = []) := Lib.hid (by unfold occR; rw [HC.out]; rfl)
    go_enter Try.func10, Try.ntmps10
    go_wp2_with (first
      | (go_at_call 20
         refine (k_sAreBlocks _ (h.alloc _)).mono ?_
         rintro e w1 ⟨rfl, hb⟩
         first | replace B := below_chain B hb | (have B : Below w.heap.size w w1 := below_chain (by (repeat (first | exact Below.refl _ _ | assumption | refine below_alloc ?_ _ | refine below_drewN ?_ _ | refine below_set ?_ _ (by simp; try omega) | refine Below.drew ?_))) hb)
         clear hb)
      )
    go_ret2
    rw [HC.out]
    exact retIC_nil HR.out B
  have hok' : (layB l && blkB l fs) = true := hok
  have HE : Hid (occC l fs p x = trnC l x [p]) := Lib.hid (by unfold occC; rw [hok]; rfl)
  rcases occC_cases l fs p x with ⟨hc, _, ht, hx0, hx1, hxT, hp0, hp1⟩ | hc
  · have HR : Hid (occR l fs p x = occL l fs p x fs.length) := Lib.hid (by unfold occR; rw [if_pos hc])
    have HC := Lib.hid hc
    clear hc
    go_enter Try.func10, Try.ntmps10
    go_wp2_with (first
      | (go_at_call 20
         refine (k_sAreBlocks _ (h.alloc _)).mono ?_
         rintro e w1 ⟨rfl, hb⟩
         first | replace k0 := cell_later hb k0 | (have k0 : w1.cell? ⟨w.heap.size, 0, none⟩ = some (.slice A n c) := cell_later hb (by go_simp))
         first | replace B := below_chain B hb | (have B : Below w.heap.size w w1 := below_chain (by (repeat (first | exact Below.refl _ _ | assumption | refine below_alloc ?_ _ | refine below_drewN ?_ _ | refine below_set ?_ _ (by simp; try omega) | refine Below.drew ?_))) hb)
         have h1 := Lib.hid ((h.alloc _).below hb)
         clear hb)
      | (go_at_call 24
         refine (c_l05Train _ _ _ l _ _ _ h1.out.hn h1.out.hs h1.out.hr).mono ?_
         rintro e w1 ⟨rfl, hb⟩
         first | replace k0 := cell_later hb k0 | (have k0 : w1.cell? ⟨w.heap.size, 0, none⟩ = some (.slice A n c) := cell_later hb (by go_simp))
         first | replace B := below_chain B hb | (have B : Below w.heap.size w w1 := below_chain (by (repeat (first | exact Below.refl _ _ | assumption | refine below_alloc ?_ _ | refine below_drewN ?_ _ | refine below_set ?_ _ (by simp; try omega) | refine Below.drew ?_))) hb)
         have h2 := Lib.hid (h1.out.below hb)
         clear hb)
      | (go_at_call 22
         refine (c_l05Blocks _ _ _ hok hx0 hx1 hxT hp0 hp1 h2.out).mono ?_
         rintro e w1 ⟨A1, c1, rfl, ho, hb⟩
         have HO := Lib.hid ho
         have HB := Lib.hid (below_chain B hb)
         have hsz := B.size
         clear hb ho)
      )
    go_ret2
    refine ⟨A1, c1, ?_, ?_, HB.out⟩
    · rw [HC.out, HR.out]; rfl
    · rw [HR.out]; exact own_mono HO.out hsz
  · have HR : Hid (occR l fs p x = []) := Lib.hid (by unfold occR; rw [if_neg hc])
    have hc' : (trnC l x [p] == 0) = false := by rw [← HE.out]; simp [hc]
    have hc2 : (trnC l x [p] != 0) = true := by rw [← HE.out]; simp [hc]
    clear hc
    go_enter Try.func10, Try.ntmps10
    go_wp2_with (first
      | (go_at_call 20
         refine (k_sAreBlocks _ (h.alloc _)).mono ?_
         rintro e w1 ⟨rfl, hb⟩
         first | replace k0 := cell_later hb k0 | (have k0 : w1.cell? ⟨w.heap.size, 0, none⟩ = some (.slice A n c) := cell_later hb (by go_simp))
         first | replace k0 := cell_later hb k0 | (have k0 : w1.cell? ⟨w.heap.size, 0, none⟩ = some (.slice A n c) := cell_later hb (by go_simp))
         first | replace B := below_chain B hb | (have B : Below w.heap.size w w1 := below_chain (by (repeat (first | exact Below.refl _ _ | assumption | refine below_alloc ?_ _ | refine below_drewN ?_ _ | refine below_set ?_ _ (by simp; try omega) | refine Below.drew ?_))) hb)
         have h1 := Lib.hid ((h.alloc _).below hb)
         clear hb)
      | (go_at_call 24
         refine (c_l05Train _ _ _ l _ _ _ h1.out.hn h1.out.hs h1.out.hr).mono ?_
         rintro e w1 ⟨rfl, hb⟩
         first | replace k0 := cell_later hb k0 | (have k0 : w1.cell? ⟨w.heap.size, 0, none⟩ = some (.slice A n c) := cell_later hb (by go_simp))
         first | replace k0 := cell_later hb k0 | (have k0 : w1.cell? ⟨w.heap.size, 0, none⟩ = some (.slice A n c) := cell_later hb (by go_simp))
         first | replace B := below_chain B hb | (have B : Below w.heap.size w w1 := below_chain (by (repeat (first | exact Below.refl _ _ | assumption | refine below_alloc ?_ _ | refine below_drewN ?_ _ | refine below_set ?_ _ (by simp; try omega) | refine Below.drew ?_))) hb)
         clear hb)
      )
    go_ret2
    rw [HE.out]
    exact retIC_nil HR.out B
end
end Go.Proofs.Ythkghpmfbdojeaa
