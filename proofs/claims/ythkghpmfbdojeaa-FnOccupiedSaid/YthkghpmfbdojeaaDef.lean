/- Contracts of DefaultBlocks (program and reference). Condition: at most 2 to the 20 segments. -/
import Derived.Test.YthkghpmfbdojeaaPosW
namespace Go.Proofs.Ythkghpmfbdojeaa
open Go.RowKit

def dfl (l : List Seg) : Nat → List Int
  | 0 => [0]
  | k + 1 => if holdsB (l.getD k Seg.none).k then dfl l k ++ [(k : Int) + 1] else dfl l k
theorem dfl_len (l : List Seg) : ∀ k, 1 ≤ (dfl l k).length ∧ (dfl l k).length ≤ k + 1
  | 0 => by simp [dfl]
  | k + 1 => by
    have := dfl_len l k
    unfold dfl
    split
    · simp; omega
    · omega
theorem dfl_yes {l : List Seg} {k : Nat} {s : Seg} (h : l[k]? = some s) (hh : holdsB s.k = true) : dfl l (k + 1) = dfl l k ++ [(k : Int) + 1] := by
  have : l.getD k Seg.none = s := by simp [h]
  rw [dfl, this, if_pos hh]
theorem dfl_no {l : List Seg} {k : Nat} {s : Seg} (h : l[k]? = some s) (hh : holdsB s.k = false) : dfl l (k + 1) = dfl l k := by
  have : l.getD k Seg.none = s := by simp [h]
  rw [dfl, this, if_neg (by simp [hh])]
def dflC (l : List Seg) : Int := if layB l then (if (dfl l (l.length - 1)).length < 2 then 5 else if 8 < (dfl l (l.length - 1)).length then 3 else 0) else 1
def dflR (l : List Seg) : List Int := if dflC l = 0 then dfl l (l.length - 1) else []
/-- A list of the call's own and a code. -/
def RetIC (zs : List Int) (code : Int) (w : World) (e : Ending) (w' : World) : Prop :=
  ∃ A c, e = .returned (.tuple #[.slice A zs.length c, .int .i64 code]) ∧ w'.ownsRow w.heap.size 2 1 (.slice A zs.length c) zs.length (ints zs) ∧ Below w.heap.size w w'
theorem own_nil (w : World) (base : Nat) (e : TypeId) (size : Nat) : w.ownsRow base e size (.slice none 0 0) 0 [] := ⟨by simp, .inl ⟨rfl, rfl⟩⟩
theorem retIC_nil {zs : List Int} {code : Int} {w w' : World} (hz : zs = []) (hb : Below w.heap.size w w') : RetIC zs code w (.returned (.tuple #[.slice none 0 0, .int .i64 code])) w' := by
  subst hz
  exact ⟨none, 0, rfl, own_nil _ _ _ _, hb⟩
set_option maxRecDepth 100000 in
theorem c_sDefaultBlocks (A : Option Addr) (c n : Nat) (l : List Seg) (w : World) (hn : n = l.length) (hs : n ≤ 1048576) (hc : n ≤ c) (_hm : c ≤ 9223372036854775807) (hr : Rd w A (segCells l)) :
    Calls Try.prog 29 #[.agg #[.slice A n c]] w (RetIC (dflR l) (dflC l) w) := by
  have HN := Lib.hid hn
  clear hn
  rcases hlb : layB l with _ | _
  · have HC := Lib.hid (show dflC l = 1 by simp [dflC, hlb])
    have HE := Lib.hid (show dflR l = [] by simp [dflR, HC.out])
    go_enter Try.func29, Try.ntmps29
    go_wp2_with (first
      | (go_at_call 41
         refine (c_sIsLayout _ _ _ l _ HN.out hs (hr.alloc _)).mono ?_
         rintro e w1 ⟨rfl, hb⟩
         first | replace B := below_chain B hb | (have B : Below w.heap.size w w1 := below_chain (by (repeat (first | exact Below.refl _ _ | assumption | refine below_alloc ?_ _ | refine below_drewN ?_ _ | refine below_set ?_ _ (by simp; try omega) | refine Below.drew ?_))) hb)
         clear hb)
      )
    go_ret2
    rw [HC.out]
    exact retIC_nil HE.out (by (repeat (first | exact Below.refl _ _ | assumption | refine below_alloc ?_ _ | refine below_drewN ?_ _ | refine below_set ?_ _ (by simp; try omega) | refine Below.drew ?_)))
  have hl := layB_iff.1 hlb
  have h3 : 3 ≤ n := by have := hl.lo; have := HN.out; omega
  have h24 : n ≤ 24 := by have := hl.hi; have := HN.out; omega
  go_enter Try.func29, Try.ntmps29
  go_wp2_with (first
    | (go_at_call 41
       refine (c_sIsLayout _ _ _ l _ HN.out hs (hr.alloc _)).mono ?_
       rintro e w1 ⟨rfl, hb⟩
       first | replace k0 := cell_later hb k0 | (have k0 : w1.cell? ⟨w.heap.size, 0, none⟩ = some (.slice A n c) := cell_later hb (by go_simp))
       first | replace B := below_chain B hb | (have B : Below w.heap.size w w1 := below_chain (by (repeat (first | exact Below.refl _ _ | assumption | refine below_alloc ?_ _ | refine below_drewN ?_ _ | refine below_set ?_ _ (by simp; try omega) | refine Below.drew ?_))) hb)
       have hlt0 : w.heap.size < w1.heap.size := World.block_lt_of_cell? _ _ k0
       clear hb)
    )
  have hown : (w1.alloc (.cells #[.int .i64 0] 2)).ownsRow w1.heap.size 2 1 (.slice (some ⟨w1.heap.size, 0, none⟩) 1 1) 1 (ints (dfl l 0)) := by
    have h := World.ownsRow_lit (e := 2) (size := 1) (base := w1.heap.size) w1 #[.int .i64 0] 1 (by simp) (by decide) (by simp)
    simpa [dfl, ints] using h
  go_loopw [4, 5] (fun v i wr => ∃ k : Nat, k ≤ n - 1 ∧ i = .int .i64 k ∧ wr.ownsRow w1.heap.size 2 1 v (dfl l k).length (ints (dfl l k)) ∧ wr.cell? ⟨w.heap.size, 0, none⟩ = some (.slice A n c) ∧ Below w.heap.size w wr ∧ w1.heap.size ≤ wr.heap.size) (fun _ i _ => n - (intOf i).toNat)
  case atStart => exact ⟨0, Nat.zero_le _, rfl, hown, by go_simp, by (repeat (first | exact Below.refl _ _ | assumption | refine below_alloc ?_ _ | refine below_drewN ?_ _ | refine below_set ?_ _ (by simp; try omega) | refine Below.drew ?_)), by simp⟩
  case round =>
    obtain ⟨k, hk, rfl, ho, hbox, hb, hsz⟩ := hrel
    clear hown k0 B
    by_cases hlt : k < n - 1
    · obtain ⟨s, hz⟩ : ∃ z, l[k]? = some z := ⟨_, List.getElem?_eq_getElem (by have := HN.out; omega)⟩
      have hlen := dfl_len l k
      obtain ⟨b, off, rfl, hbl, g0, g1, g2, g3, g4, g5, g6⟩ := (hr.below hb).seg hz
      have HZ := Lib.hid hz
      have HO := Lib.hid ho
      have HB := Lib.hid hb
      have hrow : Hid (∀ q, u4.ownBlock = some q → w.heap.size ≤ q) := Lib.hid fun q hq => by have := (ho.lt q hq).1; omega
      have hge : Hid (∀ q, u4.ownBlock = some q → w1.heap.size ≤ q) := Lib.hid fun q hq => (ho.lt q hq).1
      clear hz ho hb hr
      rcases hh : holdsB s.k with _ | _
      · have HD := Lib.hid (dfl_no HZ.out hh)
        go_wp2_with (first
          | (go_at_call 57
             refine (c_l03Holds _ _ _ _ _ _ _ _).mono ?_
             rintro e w2 ⟨rfl, hb2⟩
             have HB2 := Lib.hid (below_chain HB.out hb2)
             have HO2 := Lib.hid (own_below HO.out hb2)
             have hsz2 : w1.heap.size ≤ w2.heap.size := by have h5 := hb2.size; (try simp at h5); omega
             have e2 : w2.cell? ⟨w.heap.size, 0, none⟩ = some (.slice (some ⟨b, off, none⟩) n c) := cell_later hb2 hbox
             clear hb2)
          )
        go_roundw
        case rel => exact ⟨k + 1, by omega, by go_num, by rw [HD.out]; exact HO2.out, e2, HB2.out, hsz2⟩
        case measure => simp [intOf]; omega
      · have HD := Lib.hid (dfl_yes HZ.out hh)
        go_wp2_with (first
          | (go_at_call 57
             refine (c_l03Holds _ _ _ _ _ _ _ _).mono ?_
             rintro e w2 ⟨rfl, hb2⟩
             have HB2 := Lib.hid (below_chain HB.out hb2)
             have HO2 := Lib.hid (own_below HO.out hb2)
             have hsz2 : w1.heap.size ≤ w2.heap.size := by have h5 := hb2.size; (try simp at h5); omega
             have e2 : w2.cell? ⟨w.heap.size, 0, none⟩ = some (.slice (some ⟨b, off, none⟩) n c) := cell_later hb2 hbox
             clear hb2)
          | (at_builtin
             refine wpList_push_int _ rfl (.tmp 24) (.tmp 27) rfl w1.heap.size _ (dfl l k).length (dfl l k) ((k : Int) + 1) w2.heap.size 1 rfl (HO2.out.alloc _) rfl (by go_simp) (by omega) (by simp; omega) ?_
             intro v1 w3 hown1 hgrow hold hat
             have HO3 := Lib.hid hown1
             have HB3 := Lib.hid (below_of_grown (below_alloc HB2.out _) hgrow hrow.out)
             have hsz3 : w1.heap.size ≤ w3.heap.size := by have := hgrow.size; simp at this; omega
             have hlt3 := World.block_lt_of_cell? _ _ e2
             have e3 : w3.cell? ⟨w.heap.size, 0, none⟩ = some (.slice (some ⟨b, off, none⟩) n c) := (hgrow.cell_far ⟨w.heap.size, 0, none⟩ (by simp; omega) (by intro h; have := hge.out w.heap.size h.symm; omega)).trans (by go_simp)
             clear hown1 hgrow hold hat)
          )
        go_roundw
        case rel => exact ⟨k + 1, by omega, by go_num, by rw [HD.out, List.length_append]; exact HO3.out, e3, HB3.out, hsz3⟩
        case measure => simp [intOf]; omega
    · obtain rfl : k = n - 1 := by omega
      obtain ⟨A1, c1, rfl⟩ : ∃ A1 c1, u4 = .slice A1 (dfl l (n - 1)).length c1 := by
        rcases ho.2 with ⟨h1, h2⟩ | ⟨g, cap, cur, h1, _⟩
        · exact ⟨none, 0, by rw [h1, h2]⟩
        · exact ⟨_, _, h1⟩
      have HF : Hid (dflR l = if dflC l = 0 then dfl l (n - 1) else []) := Lib.hid (by rw [HN.out]; rfl)
      have HG : Hid (dflC l = if (dfl l (n - 1)).length < 2 then 5 else if 8 < (dfl l (n - 1)).length then 3 else 0) := Lib.hid (by rw [HN.out]; simp [dflC, hlb])
      have hlen := dfl_len l (n - 1)
      have HO := Lib.hid ho
      have HB := Lib.hid hb
      have HS := Lib.hid hsz
      generalize (dfl l (n - 1)) = D at *
      generalize hm : D.length = m at *
      clear ho hb hsz
      rcases Nat.lt_or_ge m 2 with h2 | h2
      · go_wp2
        go_ret2
        have e1 : dflC l = 5 := by rw [HG.out, if_pos h2]
        rw [e1]
        exact retIC_nil (by rw [HF.out, if_neg (by rw [e1]; decide)]) HB.out
      rcases Nat.lt_or_ge 8 m with h8 | h8
      · go_wp2
        go_ret2
        have e1 : dflC l = 3 := by rw [HG.out, if_neg (by omega), if_pos h8]
        rw [e1]
        exact retIC_nil (by rw [HF.out, if_neg (by rw [e1]; decide)]) HB.out
      · go_wp2
        go_ret2
        have e1 : dflC l = 0 := by rw [HG.out, if_neg (by omega), if_neg (by omega)]
        have e2 : dflR l = D := by rw [HF.out, if_pos e1]
        rw [e1, e2]
        refine ⟨A1, c1, by rw [hm]; rfl, ?_, HB.out⟩
        rw [hm]
        exact own_mono HO.out (by omega)
end Go.Proofs.Ythkghpmfbdojeaa
