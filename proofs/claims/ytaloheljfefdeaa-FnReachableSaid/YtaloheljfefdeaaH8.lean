/- Contracts and helpers (joined texts, part 8). The conditions stand at each theorem. -/
import Derived.Test.YtaloheljfefdeaaH7
import Derived.Test.YtaloheljfefdeaaH6
import Derived.Test.YtaloheljfefdeaaH0
import Derived.Shelf.SlSortCmp.NoneTotal
import Derived.Lib.OwnBridge
/- l21Run (reference): the walk. Condition: the model is one, the lengths are those that the laws let by. -/
namespace Go.Proofs.Ytaloheljfefdeaa
open Go.RowKit

/-- What l21Run hands back: a search at a block of its own. -/
def RetRu (XO : Bool) (XL : List Rc) (w : World) (e : Ending) (w' : World) : Prop :=
  ∃ S acc, e = .returned (.pointer (some ⟨S, 0, none⟩)) ∧ StS w' S (S + 1) (!XO) acc ∧ (XO = true → acc = XL) ∧ w.heap.size ≤ S ∧ Below w.heap.size w w'
/-- The search after k states (and q rules of the next one): the list is acc, unless it is over. -/
def RunA (XO ov : Bool) (acc L : List Rc) : Prop := acc.length ≤ 4000 ∧ (ov = false → acc = L) ∧ (ov = true → XO = false)
set_option maxHeartbeats 4000000 in
set_option maxRecDepth 100000 in
theorem c_l21Run (m : Mdl) (az ax ar : Option Addr) (cz cs cr : Nat) (w : World) (hok : MOk m) (hmd : mdB m = true) (h : Md w az ax ar m) :
    Calls Try.prog 99 #[mv m az ax ar cz cs cr] w (RetRu (xpO m) (xpL m) w) := by
  have HM := Lib.hid h
  have hrl := hok.1.2.2.1
  have hr2 := rs_200 hmd
  have hst0 := st_of hmd
  have HVL := Lib.hid (fun (v : List Int) (hv : stB m.sz v = true) => show v.length = m.st.length by rw [st_len hv, st_len hst0])
  have HVP := vs_pos hmd hst0
  have HENL := Lib.hid (fun (v : List Int) (hv : stB m.sz v = true) a c w' h hv' => show Calls Try.prog 75 #[mv m az ax ar cz cs cr, .slice a m.st.length c] w' (RetI2 (enL v m.rs).length (enL v m.rs) w') by
    have := c_l20Enabled m az ax ar cz cs cr a c v w' hrl (by rw [HVL.out v hv]; exact hok.1.2.1) (gs_of hmd hv hok) h hv'
    rw [HVL.out v hv] at this
    exact this)
  have HAP := Lib.hid (fun (v : List Int) (hv : stB m.sz v = true) (k0 : Nat) (r : Rul) (hr : m.rs[k0]? = some r) b off c w' hv' h' => c_l20Apply m az ax ar cz cs cr k0 r b off c m.st.length v w' hr hrl (HVL.out v hv).symm hok.1.2.1 (hok.1.2.2.2 r (List.mem_of_getElem? hr)).2 (by have := es_of hmd hv (List.mem_of_getElem? hr); rwa [HVL.out v hv] at this) hv' h')
  have HST := Lib.hid (fun k => sqM_st hmd k)
  have HSX := Lib.hid (fun k x hx j => exM_st hmd (k := k) (x := x) hx j)
  have HS0 := Lib.hid hst0
  have HAS := Lib.hid (fun (v : List Int) (hv : stB m.sz v = true) (r : Rul) (hr : r ∈ m.rs) => st_apR hmd hv hr)
  obtain ⟨bs, os, has, _, _⟩ := HM.out.s.some_ (by intro e; have h5 := ints_length m.st; rw [e] at h5; simp at h5; omega)
  subst has
  have HOWN := Lib.hid (fun w' h => c_l01Own bs os cs m.st.length m.st w' rfl (by omega) h)
  have HENN := Lib.hid (fun v => show (enL v m.rs).length ≤ m.rs.length from enK_len v m.rs m.rs.length)
  have HEY := Lib.hid (fun v y (hy : y ∈ enL v m.rs) => en_rul hy)
  have HDN := Lib.hid (fun k h1 h2 => xp_done (m := m) (k := k) h1 h2)
  have HOV := Lib.hid (fun k j x h1 h2 h3 => xp_over (m := m) (k := k) (j := j) (x := x) h1 h2 h3)
  generalize xpL m = XL at *
  generalize xpO m = XO at *
  clear h hok hmd hst0
  dsimp only [mv] at *
  generalize m.sz.length = sn at *
  generalize hstn : m.st.length = tn at *
  have HSTN := Lib.hid hstn
  clear hstn
  generalize hrn : m.rs.length = rn at *
  have HRN := Lib.hid hrn
  clear hrn
  have HR := Lib.hid HM.out.r
  have HX := Lib.hid HM.out.s
  go_enter Try.func99, Try.ntmps99
  go_wp2_with (fail)
  refine (HOWN.out _ (HX.out.alloc _ |>.alloc _)).mono ?_
  rintro e w1 ⟨g, c', rfl, ho, hb⟩
  have hblk : (((w.alloc (.cells #[.slice az sn cz, .slice (some ⟨bs, os, none⟩) tn cs, .slice ar rn cr] 27)).alloc (.cells #[.slice none 0 0, .slice none 0 0, .slice none 0 0, .bool false] 80)).heap[w.heap.size + 1]?) = some (Obj.cells #[.slice none 0 0, .slice none 0 0, .slice none 0 0, .bool false] 80 (0, 0)) := by
    have := (MapKept.heap_alloc (w.alloc (.cells #[.slice az sn cz, .slice (some ⟨bs, os, none⟩) tn cs, .slice ar rn cr] 27)) (.cells #[.slice none 0 0, .slice none 0 0, .slice none 0 0, .bool false] 80)).1
    rw [World.size_alloc] at this
    exact this
  go_wp2_with (fail)
  have hs1 := hb.size
  simp only [World.size_alloc] at hs1
  have HBE := Lib.hid (below_alloc (Below.refl w1.heap.size w1) (Obj.cells #[] 2))
  have HB1 := Lib.hid (below_alloc (below_chain (by (repeat (first | exact Below.refl _ _ | assumption | refine below_alloc ?_ _ | refine below_drewN ?_ _ | refine below_set ?_ _ (by simp; try omega) | refine Below.drew ?_)) : Below w.heap.size w _) hb) (Obj.cells #[] 2))
  have k0 : w1.cell? ⟨w.heap.size, 0, none⟩ = some (.slice az sn cz) := cell_later hb (by go_simp)
  have k1 : w1.cell? ⟨w.heap.size, 1, none⟩ = some (.slice (some ⟨bs, os, none⟩) tn cs) := cell_later hb (by go_simp)
  have k2 : w1.cell? ⟨w.heap.size, 2, none⟩ = some (.slice ar rn cr) := cell_later hb (by go_simp)
  replace k0 := cell_later HBE.out k0
  replace k1 := cell_later HBE.out k1
  replace k2 := cell_later HBE.out k2
  have hblk1 := (hb.block (w.heap.size + 1) (by simp)).trans hblk
  have hblk2 := (HBE.out.block (w.heap.size + 1) (by omega)).trans hblk1
  have HSA : Hid (StS (w1.alloc (Obj.cells #[] 2)) (w.heap.size + 1) (w.heap.size + 1 + 1) false []) := Lib.hid ⟨.slice none 0 0, .slice none 0 0, .slice none 0 0, ⟨hblk2, by omega, by simp; omega, ⟨[], rfl, World.ownsRow_nil _ _ _ _, by simp⟩, ⟨[], rfl, World.ownsRow_nil _ _ _ _, by simp⟩, ⟨[], rfl, World.ownsRow_nil _ _ _ _, by simp⟩, by simp [Value.ownBlock], by simp [Value.ownBlock], by simp [Value.ownBlock]⟩⟩
  have HO1 := Lib.hid (own_below (own_mono ho (show w.heap.size + 1 + 1 ≤ _ by simp)) HBE.out)
  have HE1 : Hid ((w1.alloc (Obj.cells #[] 2)).ownsRow (w.heap.size + 1 + 1) 2 1 (.slice (some ⟨w1.heap.size, 0, none⟩) 0 0) 0 (ints [])) := Lib.hid (World.ownsRow_made w1 #[] 0 (by omega) (Nat.zero_le _) rfl)
  clear hb ho hblk hblk1 hblk2
  obtain ⟨S, hS⟩ : ∃ S, S = w.heap.size + 1 := ⟨_, rfl⟩
  rw [← hS] at HSA HO1 HE1 ⊢
  refine (c_l21Add S (S + 1) tn 0 [] ⟨m.st, -1, 0, 0, []⟩ _ _ c' 0 _ (by omega) (by simp) HSTN.out rfl (by simp) (by simp) HSA.out HO1.out HE1.out).mono ?_
  rintro e w2 ⟨rfl, hk2, hst2⟩
  rw [show adO [] ⟨m.st, -1, 0, 0, []⟩ = false by simp [adO], show adS [] ⟨m.st, -1, 0, 0, []⟩ = sqM m 0 from rfl] at hst2
  have HS2 := Lib.hid hst2
  have HB2 := Lib.hid (Below.kp HB1.out hk2 (by omega))
  replace k0 := hk2.cell k0 (by dsimp only; omega)
  replace k1 := hk2.cell k1 (by dsimp only; omega)
  replace k2 := hk2.cell k2 (by dsimp only; omega)
  have hSw : w.heap.size < S := by omega
  clear hk2 hst2 HSA HO1 HE1 HBE HB1 hS
  go_wp2
  go_loopw [4] (fun i wr => ∃ (k : Nat) (ov : Bool) (acc : List Rc), i = .int .i64 k ∧ k ≤ 4001 ∧ Hid (StS wr S (S + 1) ov acc) ∧ Hid (RunA XO ov acc (sqM m k)) ∧ Hid (ov = false → k ≤ (sqM m k).length) ∧ wr.cell? ⟨w.heap.size, 0, none⟩ = some (.slice az sn cz) ∧ wr.cell? ⟨w.heap.size, 1, none⟩ = some (.slice (some ⟨bs, os, none⟩) tn cs) ∧ wr.cell? ⟨w.heap.size, 2, none⟩ = some (.slice ar rn cr) ∧ Below w.heap.size w wr) (fun i _ => 4002 - (intOf i).toNat)
  case atStart => exact ⟨0, false, sqM m 0, rfl, by omega, HS2, Lib.hid ⟨by simp [sqM, sq], fun _ => rfl, fun h => by cases h⟩, Lib.hid fun _ => Nat.zero_le _, k0, k1, k2, HB2.out⟩
  case round =>
    clear HS2 HB2 k0 k1 k2
    obtain ⟨k, ov, acc, rfl, hk, hst, hra, hkl, k0, k1, k2, hb⟩ := hrel
    obtain ⟨wo, rfl⟩ : ∃ wo, wo = wr := ⟨_, rfl⟩
    obtain ⟨Ao, co, At, ct, Ak, ck, hS⟩ := hst.out.forms
    have HSB := Lib.hid hS
    obtain ⟨c0, c1, c2, c3⟩ := hS.c
    have HRA := Lib.hid hra.out
    have HBW := Lib.hid hb
    clear hS hst hra hb
    rcases ov with _ | _
    · have hacc := HRA.out.2.1 rfl
      subst hacc
      have hkl := hkl.out rfl
      have hln := HRA.out.1
      by_cases hlt : k < (sqM m k).length
      · obtain ⟨x, hx⟩ : ∃ x, (sqM m k)[k]? = some x := ⟨_, List.getElem?_eq_getElem hlt⟩
        have hmx := List.mem_of_getElem? hx
        have hxs := HST.out k x hmx
        have hdt := (inv_sq k).dt x hmx
        have hdi := (inv_sq k).di k x hx
        have htl4 : x.t.length ≤ 4000 := by omega
        clear hdt hdi
        have HX1 := Lib.hid hx
        have HXS := Lib.hid hxs
        have HMX := Lib.hid hmx
        obtain ⟨lg, xa, xc, hlg, hge, s0, hxo⟩ := HSB.out.o.at (k := k) (l := x.v) (by rw [List.getElem?_map, hx]; rfl)
        subst hlg
        rw [HVL.out _ hxs] at s0
        have HXO := Lib.hid hxo
        have HKL := Lib.hid hkl
        clear hx hmx hxs hxo hkl
        have HLN := Lib.hid (rfl : (sqM m k).length = (sqM m k).length)
        generalize hlnn : (sqM m k).length = ln at *
        replace HLN := Lib.hid hlnn
        clear hlnn
        have HRL := Lib.hid (HENN.out x.v)
        have HEN := Lib.hid (fun a c w' h hv => HENL.out x.v HXS.out a c w' h hv)
        obtain ⟨R, hR⟩ : ∃ R, R = enL x.v m.rs := ⟨_, rfl⟩
        rw [← hR] at HRL HEN
        have HRE := Lib.hid hR
        clear hR
        generalize hrll : R.length = rl at *
        have HRLN := Lib.hid hrll
        clear hrll
        have hrl2 : rl ≤ rn := HRL.out
        have hk0 : (0 : Int) ≤ (k : Int) := by omega
        have hk1 : (k : Int) < (ln : Int) := by omega
        go_wp2
        refine wp_region_held_drew (S := (fun w' => w'.cell? ⟨S, 0, none⟩ = some (.slice (some ⟨lg, 0, none⟩) ln co) ∧ w'.cell? ⟨lg, k, none⟩ = some (.slice xa tn xc) ∧ w'.cell? ⟨w.heap.size, 0, none⟩ = some (.slice az sn cz) ∧ w'.cell? ⟨w.heap.size, 1, none⟩ = some (.slice (some ⟨bs, os, none⟩) tn cs) ∧ w'.cell? ⟨w.heap.size, 2, none⟩ = some (.slice ar rn cr))) (by kernel_rfl) ?_ (fun hHeld => ?_)
        · exact ⟨c0, s0, k0, k1, k2⟩
        refine rg_take (v := ?_) 0 rfl (by kernel_rfl) (by kernel_rfl) (by kernel_rfl) (fun _ _ _ h => h) (by kernel_rfl) ?_ (by assumption) ?_
        rotate_left
        · (intro w' hSw; (try dsimp only at hSw); go_simp; first | done | with_reducible rfl)
        simp only [Act.put, List.setIfInBounds_toArray, List.set_cons_zero, List.set_cons_succ]
        refine rg_take (v := ?_) 1 rfl (by kernel_rfl) (by kernel_rfl) (by kernel_rfl) (fun _ _ _ h => h) (by kernel_rfl) ?_ (by assumption) ?_
        rotate_left
        · (intro w' hSw; (try dsimp only at hSw); go_simp; first | done | with_reducible rfl)
        simp only [Act.put, List.setIfInBounds_toArray, List.set_cons_zero, List.set_cons_succ]
        refine rg_take (v := ?_) 2 rfl (by kernel_rfl) (by kernel_rfl) (by kernel_rfl) (fun _ _ _ h => h) (by kernel_rfl) ?_ (by assumption) ?_
        rotate_left
        · (intro w' hSw; (try dsimp only at hSw); go_simp; first | done | with_reducible rfl)
        simp only [Act.put, List.setIfInBounds_toArray, List.set_cons_zero, List.set_cons_succ]
        refine rg_take (v := ?_) 3 rfl (by kernel_rfl) (by kernel_rfl) (by kernel_rfl) (fun _ _ _ h => h) (by kernel_rfl) ?_ (by assumption) ?_
        rotate_left
        · (intro w' hSw; (try dsimp only at hSw); go_simp; first | done | with_reducible rfl)
        simp only [Act.put, List.setIfInBounds_toArray, List.set_cons_zero, List.set_cons_succ]
        refine rg_take (v := ?_) 4 rfl (by kernel_rfl) (by kernel_rfl) (by kernel_rfl) (fun _ _ _ h => h) (by kernel_rfl) ?_ (by assumption) ?_
        rotate_left
        · (intro w' hSw; (try dsimp only at hSw); go_simp; first | done | with_reducible rfl)
        simp only [Act.put, List.setIfInBounds_toArray, List.set_cons_zero, List.set_cons_succ]
        refine rg_take (v := ?_) 5 rfl (by kernel_rfl) (by kernel_rfl) (by kernel_rfl) (fun _ _ _ h => h) (by kernel_rfl) ?_ (by assumption) ?_
        rotate_left
        · (intro w' hSw; (try dsimp only at hSw); go_simp; first | done | with_reducible rfl)
        simp only [Act.put, List.setIfInBounds_toArray, List.set_cons_zero, List.set_cons_succ]
        refine rg_take (v := ?_) 6 rfl (by kernel_rfl) (by kernel_rfl) (by kernel_rfl) (fun _ _ _ h => h) (by kernel_rfl) ?_ (by assumption) ?_
        rotate_left
        · (intro w' hSw; (try dsimp only at hSw); go_simp; first | done | with_reducible rfl)
        simp only [Act.put, List.setIfInBounds_toArray, List.set_cons_zero, List.set_cons_succ]
        refine rg_take (v := ?_) 7 rfl (by kernel_rfl) (by kernel_rfl) (by kernel_rfl) (fun _ _ _ h => h) (by kernel_rfl) ?_ (by assumption) ?_
        rotate_left
        · (intro w' hSw; (try dsimp only at hSw); go_simp; first | done | with_reducible rfl)
        simp only [Act.put, List.setIfInBounds_toArray, List.set_cons_zero, List.set_cons_succ]
        refine rg_run 8 rfl (by kernel_rfl) (by kernel_rfl) (fun K hK => ?_)
        go_simp
        refine (HEN.out _ _ _ (by exact HM.out.below HBW.out.drew) (by exact (Rd.own HXO.out).drew)).mono ?_
        rintro e w4 ⟨Ar, rc, rfl, hor, hb⟩
        have HB4 := Lib.hid (below_chain (by exact HBW.out.drew) hb)
        have HST4 := Lib.hid (show Below wo.heap.size wo w4 from below_chain (by exact (Below.refl _ _).drew) hb)
        have HOR := Lib.hid hor
        replace c0 := cell_later hb (by exact c0)
        replace s0 := cell_later hb (by exact s0)
        replace k0 := cell_later hb (by exact k0)
        replace k1 := cell_later hb (by exact k1)
        replace k2 := cell_later hb (by exact k2)
        clear hb hor
        go_wp2
        clear hHeld
        refine hK.out _ _ ⟨c0, s0, k0, k1, k2⟩ (fun hHeld => ?_)
        clear hK K
        try simp only [Act.put, List.setIfInBounds_toArray, List.set_cons_zero, List.set_cons_succ]
        refine rg_take (v := ?_) 9 rfl (by kernel_rfl) (by kernel_rfl) (by kernel_rfl) (fun _ _ _ h => h) (by kernel_rfl) ?_ (by assumption) ?_
        rotate_left
        · (intro w' hSw; (try dsimp only at hSw); go_simp; first | done | with_reducible rfl)
        simp only [Act.put, List.setIfInBounds_toArray, List.set_cons_zero, List.set_cons_succ]
        refine wpAnyH_done (by kernel_rfl) ?_ _
        clear hHeld
        have HSB4 := Lib.hid (HSB.out.below HST4.out)
        have hs4 := HST4.out.size
        have hszo := HSB.out.sz
        have HXO4 := Lib.hid (own_below HXO.out HST4.out)
        have HOR4 : Hid (w4.ownsRow (S + 1) 2 1 (.slice Ar rl rc) rl (ints R)) := Lib.hid (own_mono HOR.out (show S + 1 ≤ wo.heap.size from hszo))
        clear HSB HST4 HXO HBW HOR c1 c2 c3
        go_wp2
        have HZ0 := Lib.hid (exM_zero m k x)
        go_loopw [6] (fun j wi => ∃ (q : Nat) (ov : Bool) (acc : List Rc), q ≤ rl ∧ j = .int .i64 q ∧ Hid (StS wi S (S + 1) ov acc) ∧ Hid (RunA XO ov acc (exM m k x q)) ∧ Hid (wi.ownsRow (S + 1) 2 1 (.slice Ar rl rc) rl (ints R)) ∧ wi.cell? ⟨w.heap.size, 0, none⟩ = some (.slice az sn cz) ∧ wi.cell? ⟨w.heap.size, 1, none⟩ = some (.slice (some ⟨bs, os, none⟩) tn cs) ∧ wi.cell? ⟨w.heap.size, 2, none⟩ = some (.slice ar rn cr) ∧ Below w.heap.size w wi) (fun j _ => rl - (intOf j).toNat)
        case atStart => exact ⟨0, false, sqM m k, Nat.zero_le _, rfl, Lib.hid ⟨_, _, _, HSB4.out⟩, Lib.hid ⟨by rw [HLN.out]; exact hln, fun _ => HZ0.out.symm, fun h => by cases h⟩, HOR4, k0, k1, k2, HB4.out⟩
        case round =>
          clear HSB4 HOR4 HB4 k0 k1 k2 c0 s0 HXO4
          obtain ⟨q, ov, acc, hq, rfl, hst, hra, hor, k0, k1, k2, hb⟩ := hrel
          obtain ⟨wi, rfl⟩ : ∃ wi, wi = wr := ⟨_, rfl⟩
          obtain ⟨Ao, co, At, ct, Ak, ck, hS⟩ := hst.out.forms
          have HSB := Lib.hid hS
          obtain ⟨c0, c1, c2, c3⟩ := hS.c
          have HRA := Lib.hid hra.out
          have HBI := Lib.hid hb
          clear hS hst hra hb
          rcases ov with _ | _
          · have hacc := HRA.out.2.1 rfl
            subst hacc
            have hlq := HRA.out.1
            by_cases hltq : q < rl
            · obtain ⟨y, hy⟩ : ∃ y, R[q]? = some y := ⟨_, List.getElem?_eq_getElem (by have := HRLN.out; omega)⟩
              obtain ⟨hy0, hy1, hy2, hy3, hy4⟩ := HEY.out x.v y (by rw [← HRE.out]; exact List.mem_of_getElem? hy)
              obtain ⟨kk, rfl⟩ : ∃ kk : Nat, y = kk := ⟨y.toNat, by omega⟩
              rw [Int.toNat_natCast] at hy3
              have hkk : kk < rn := by omega
              have HEXS := Lib.hid (exM_succ (m := m) (k := k) (j := q) (x := x) (y := (kk : Int)) (by rw [← HRE.out]; exact hy))
              obtain ⟨r, hr⟩ : ∃ r, r = arR m (kk : Int) := ⟨_, rfl⟩
              rw [← hr] at hy2 hy3 hy4 HEXS
              have HMR := Lib.hid hy2
              have HRK := Lib.hid hy3
              have HEX := Lib.hid (exM_at (j := q) HX1.out)
              obtain ⟨tb, to, htb, htbl, t0⟩ := (Rd.own hor.out).int hy
              obtain ⟨lg2, xa2, xc2, hlg, hge2, s0, hxo⟩ := HSB.out.o.at (k := k) (l := x.v) (by rw [List.getElem?_map, HEX.out]; rfl)
              obtain ⟨tg2, ta2, tc2, htg, hgt2, r0, hto⟩ := HSB.out.t.at (k := k) (l := x.t) (by rw [List.getElem?_map, HEX.out]; rfl)
              subst hlg
              subst htg
              subst htb
              rw [HVL.out _ HXS.out] at s0 hxo
              obtain ⟨xb, cap, hxa, _⟩ := hxo.form (by omega)
              simp only [Value.slice.injEq, true_and] at hxa
              obtain ⟨rfl, rfl⟩ := hxa
              have HXO := Lib.hid hxo
              have HTO := Lib.hid hto
              have HAPL := Lib.hid (fun b off c w' hv h' => HAP.out x.v HXS.out kk r HRK.out b off c w' hv h')
              have HNS := Lib.hid (HAS.out x.v HXS.out r HMR.out)
              have HLQ := Lib.hid (rfl : (exM m k x q).length = (exM m k x q).length)
              have hkq := (List.getElem?_eq_some_iff.1 HEX.out).1
              generalize hlqq : (exM m k x q).length = lq at *
              replace HLQ := Lib.hid hlqq
              have HTL := Lib.hid (rfl : x.t.length = x.t.length)
              generalize htll : x.t.length = tl at *
              replace HTL := Lib.hid htll
              clear hlqq htll hy hy2 hy3 hy4 hr hxo hto
              have hk0 : (0 : Int) ≤ (k : Int) := by omega
              have hk1 : (k : Int) < (lq : Int) := by omega
              have hq0 : (0 : Int) ≤ (q : Int) := by omega
              have hq1 : (q : Int) < (rl : Int) := by omega
              go_wp2
              have hzS := World.block_lt_of_cell? _ _ c0
              have hzl := World.block_lt_of_cell? _ _ s0
              have hzt := World.block_lt_of_cell? _ _ r0
              have hzw := World.block_lt_of_cell? _ _ k0
              dsimp only at hzS hzl hzt hzw
              have hszi := HSB.out.sz
              have HOWN2 := Lib.hid (fun w' h => c_l01OwnQ (S + 1) tl tc2 ta2 x.t w' HTL.out.symm (by omega) h)
              have HADD := Lib.hid (fun va ta vc tc w' hst hv ht => c_l21Add S (S + 1) tn (tl + 1) (exM m k x q) ⟨apL x.v r.es, k, kk, x.d + 1, x.t ++ [(kk : Int)]⟩ va ta vc tc w' (by omega) (fun y hy => HVL.out _ (HSX.out k x HMX.out q y hy)) (HVL.out _ HNS.out) (by show (x.t ++ [(kk : Int)]).length = tl + 1; rw [List.length_append, HTL.out]; rfl) (exM_inv HX1.out q).nd (by rw [HLQ.out]; exact hlq) hst hv ht)
              have HRUN : Hid (RunA XO (adO (exM m k x q) ⟨apL x.v r.es, k, kk, x.d + 1, x.t ++ [(kk : Int)]⟩) (adS (exM m k x q) ⟨apL x.v r.es, k, kk, x.d + 1, x.t ++ [(kk : Int)]⟩) (exM m k x (q + 1))) := Lib.hid (by
                rw [HEXS.out]
                rcases hov : adO (exM m k x q) ⟨apL x.v r.es, k, kk, x.d + 1, x.t ++ [(kk : Int)]⟩ with _ | _
                · obtain ⟨e1, e2⟩ := ad_false hov (by rw [HLQ.out]; exact hlq)
                  exact ⟨e2, fun _ => e1, fun h => by cases h⟩
                · obtain ⟨e1, e2⟩ := ad_true hov
                  refine ⟨by rw [e2]; exact Nat.le_refl _, (fun h => by cases h), fun _ => (HOV.out k (q + 1) x (by omega) HX1.out ?_).1⟩
                  rw [HEXS.out]
                  exact e1)
              refine wp_region_heldE 28 (S := (fun w' => w'.cell? ⟨S, 0, none⟩ = some (.slice (some ⟨lg2, 0, none⟩) lq co) ∧ w'.cell? ⟨S, 1, none⟩ = some (.slice (some ⟨tg2, 0, none⟩) lq ct) ∧ w'.cell? ⟨lg2, k, none⟩ = some (.slice (some ⟨xb, 0, none⟩) tn xc2) ∧ w'.cell? ⟨tg2, k, none⟩ = some (.slice ta2 tl tc2) ∧ w'.cell? ⟨tb, to + q, none⟩ = some (.int .i64 (kk : Int)) ∧ w'.cell? ⟨w.heap.size, 0, none⟩ = some (.slice az sn cz) ∧ w'.cell? ⟨w.heap.size, 1, none⟩ = some (.slice (some ⟨bs, os, none⟩) tn cs) ∧ w'.cell? ⟨w.heap.size, 2, none⟩ = some (.slice ar rn cr))) (by kernel_rfl) ?_ (fun hHeld => ?_)
              · exact ⟨c0, c1, s0, r0, t0, k0, k1, k2⟩
              refine rgE_take (v := ?_) 0 12 rfl (by kernel_rfl) (by kernel_rfl) (by kernel_rfl) (by kernel_rfl) (by kernel_rfl) (fun _ _ _ h => h) (by kernel_rfl) ?_ (by assumption) ?_
              rotate_left
              · (intro w' hSw; (try dsimp only at hSw); go_simp; first | done | with_reducible rfl)
              simp only [Act.put, List.setIfInBounds_toArray, List.set_cons_zero, List.set_cons_succ]
              refine rgE_take (v := ?_) 1 12 rfl (by kernel_rfl) (by kernel_rfl) (by kernel_rfl) (by kernel_rfl) (by kernel_rfl) (fun _ _ _ h => h) (by kernel_rfl) ?_ (by assumption) ?_
              rotate_left
              · (intro w' hSw; (try dsimp only at hSw); go_simp; first | done | with_reducible rfl)
              simp only [Act.put, List.setIfInBounds_toArray, List.set_cons_zero, List.set_cons_succ]
              refine rgE_take (v := ?_) 2 12 rfl (by kernel_rfl) (by kernel_rfl) (by kernel_rfl) (by kernel_rfl) (by kernel_rfl) (fun _ _ _ h => h) (by kernel_rfl) ?_ (by assumption) ?_
              rotate_left
              · (intro w' hSw; (try dsimp only at hSw); go_simp; first | done | with_reducible rfl)
              simp only [Act.put, List.setIfInBounds_toArray, List.set_cons_zero, List.set_cons_succ]
              refine rgE_take (v := ?_) 3 12 rfl (by kernel_rfl) (by kernel_rfl) (by kernel_rfl) (by kernel_rfl) (by kernel_rfl) (fun _ _ _ h => h) (by kernel_rfl) ?_ (by assumption) ?_
              rotate_left
              · (intro w' hSw; (try dsimp only at hSw); go_simp; first | done | with_reducible rfl)
              simp only [Act.put, List.setIfInBounds_toArray, List.set_cons_zero, List.set_cons_succ]
              refine rgE_take (v := ?_) 4 12 rfl (by kernel_rfl) (by kernel_rfl) (by kernel_rfl) (by kernel_rfl) (by kernel_rfl) (fun _ _ _ h => h) (by kernel_rfl) ?_ (by assumption) ?_
              rotate_left
              · (intro w' hSw; (try dsimp only at hSw); go_simp; first | done | with_reducible rfl)
              simp only [Act.put, List.setIfInBounds_toArray, List.set_cons_zero, List.set_cons_succ]
              refine rgE_take (v := ?_) 5 12 rfl (by kernel_rfl) (by kernel_rfl) (by kernel_rfl) (by kernel_rfl) (by kernel_rfl) (fun _ _ _ h => h) (by kernel_rfl) ?_ (by assumption) ?_
              rotate_left
              · (intro w' hSw; (try dsimp only at hSw); go_simp; first | done | with_reducible rfl)
              simp only [Act.put, List.setIfInBounds_toArray, List.set_cons_zero, List.set_cons_succ]
              refine rgE_take (v := ?_) 6 12 rfl (by kernel_rfl) (by kernel_rfl) (by kernel_rfl) (by kernel_rfl) (by kernel_rfl) (fun _ _ _ h => h) (by kernel_rfl) ?_ (by assumption) ?_
              rotate_left
              · (intro w' hSw; (try dsimp only at hSw); go_simp; first | done | with_reducible rfl)
              simp only [Act.put, List.setIfInBounds_toArray, List.set_cons_zero, List.set_cons_succ]
              refine rgE_take (v := ?_) 7 12 rfl (by kernel_rfl) (by kernel_rfl) (by kernel_rfl) (by kernel_rfl) (by kernel_rfl) (fun _ _ _ h => h) (by kernel_rfl) ?_ (by assumption) ?_
              rotate_left
              · (intro w' hSw; (try dsimp only at hSw); go_simp; first | done | with_reducible rfl)
              simp only [Act.put, List.setIfInBounds_toArray, List.set_cons_zero, List.set_cons_succ]
              refine rgE_take (v := ?_) 8 12 rfl (by kernel_rfl) (by kernel_rfl) (by kernel_rfl) (by kernel_rfl) (by kernel_rfl) (fun _ _ _ h => h) (by kernel_rfl) ?_ (by assumption) ?_
              rotate_left
              · (intro w' hSw; (try dsimp only at hSw); go_simp; first | done | with_reducible rfl)
              simp only [Act.put, List.setIfInBounds_toArray, List.set_cons_zero, List.set_cons_succ]
              refine rgE_take (v := ?_) 9 12 rfl (by kernel_rfl) (by kernel_rfl) (by kernel_rfl) (by kernel_rfl) (by kernel_rfl) (fun _ _ _ h => h) (by kernel_rfl) ?_ (by assumption) ?_
              rotate_left
              · (intro w' hSw; (try dsimp only at hSw); go_simp; first | done | with_reducible rfl)
              simp only [Act.put, List.setIfInBounds_toArray, List.set_cons_zero, List.set_cons_succ]
              refine rgE_take (v := ?_) 10 12 rfl (by kernel_rfl) (by kernel_rfl) (by kernel_rfl) (by kernel_rfl) (by kernel_rfl) (fun _ _ _ h => h) (by kernel_rfl) ?_ (by assumption) ?_
              rotate_left
              · (intro w' hSw; (try dsimp only at hSw); go_simp; first | done | with_reducible rfl)
              simp only [Act.put, List.setIfInBounds_toArray, List.set_cons_zero, List.set_cons_succ]
              refine rgE_take (v := ?_) 11 12 rfl (by kernel_rfl) (by kernel_rfl) (by kernel_rfl) (by kernel_rfl) (by kernel_rfl) (fun _ _ _ h => h) (by kernel_rfl) ?_ (by assumption) ?_
              rotate_left
              · (intro w' hSw; (try dsimp only at hSw); go_simp; first | done | with_reducible rfl)
              simp only [Act.put, List.setIfInBounds_toArray, List.set_cons_zero, List.set_cons_succ]
              refine rgE_take (v := ?_) 12 12 rfl (by kernel_rfl) (by kernel_rfl) (by kernel_rfl) (by kernel_rfl) (by kernel_rfl) (fun _ _ _ h => h) (by kernel_rfl) ?_ (by assumption) ?_
              rotate_left
              · (intro w' hSw; (try dsimp only at hSw); go_simp; first | done | with_reducible rfl)
              simp only [Act.put, List.setIfInBounds_toArray, List.set_cons_zero, List.set_cons_succ]
              refine rgE_take (v := ?_) 14 12 rfl (by kernel_rfl) (by kernel_rfl) (by kernel_rfl) (by kernel_rfl) (by kernel_rfl) (fun _ _ _ h => h) (by kernel_rfl) ?_ (by assumption) ?_
              rotate_left
              · (intro w' hSw; (try dsimp only at hSw); go_simp; first | done | with_reducible rfl)
              simp only [Act.put, List.setIfInBounds_toArray, List.set_cons_zero, List.set_cons_succ]
              refine rgE_take (v := ?_) 15 12 rfl (by kernel_rfl) (by kernel_rfl) (by kernel_rfl) (by kernel_rfl) (by kernel_rfl) (fun _ _ _ h => h) (by kernel_rfl) ?_ (by assumption) ?_
              rotate_left
              · (intro w' hSw; (try dsimp only at hSw); go_simp; first | done | with_reducible rfl)
              simp only [Act.put, List.setIfInBounds_toArray, List.set_cons_zero, List.set_cons_succ]
              refine rgE_take (v := ?_) 16 12 rfl (by kernel_rfl) (by kernel_rfl) (by kernel_rfl) (by kernel_rfl) (by kernel_rfl) (fun _ _ _ h => h) (by kernel_rfl) ?_ (by assumption) ?_
              rotate_left
              · (intro w' hSw; (try dsimp only at hSw); go_simp; first | done | with_reducible rfl)
              simp only [Act.put, List.setIfInBounds_toArray, List.set_cons_zero, List.set_cons_succ]
              refine rgE_take (v := ?_) 17 12 rfl (by kernel_rfl) (by kernel_rfl) (by kernel_rfl) (by kernel_rfl) (by kernel_rfl) (fun _ _ _ h => h) (by kernel_rfl) ?_ (by assumption) ?_
              rotate_left
              · (intro w' hSw; (try dsimp only at hSw); go_simp; first | done | with_reducible rfl)
              simp only [Act.put, List.setIfInBounds_toArray, List.set_cons_zero, List.set_cons_succ]
              refine rgE_take (v := ?_) 18 12 rfl (by kernel_rfl) (by kernel_rfl) (by kernel_rfl) (by kernel_rfl) (by kernel_rfl) (fun _ _ _ h => h) (by kernel_rfl) ?_ (by assumption) ?_
              rotate_left
              · (intro w' hSw; (try dsimp only at hSw); go_simp; first | done | with_reducible rfl)
              simp only [Act.put, List.setIfInBounds_toArray, List.set_cons_zero, List.set_cons_succ]
              refine rgE_take (v := ?_) 19 12 rfl (by kernel_rfl) (by kernel_rfl) (by kernel_rfl) (by kernel_rfl) (by kernel_rfl) (fun _ _ _ h => h) (by kernel_rfl) ?_ (by assumption) ?_
              rotate_left
              · (intro w' hSw; (try dsimp only at hSw); go_simp; first | done | with_reducible rfl)
              simp only [Act.put, List.setIfInBounds_toArray, List.set_cons_zero, List.set_cons_succ]
              refine rgE_take (v := ?_) 20 12 rfl (by kernel_rfl) (by kernel_rfl) (by kernel_rfl) (by kernel_rfl) (by kernel_rfl) (fun _ _ _ h => h) (by kernel_rfl) ?_ (by assumption) ?_
              rotate_left
              · (intro w' hSw; (try dsimp only at hSw); go_simp; first | done | with_reducible rfl)
              simp only [Act.put, List.setIfInBounds_toArray, List.set_cons_zero, List.set_cons_succ]
              refine rgE_take (v := ?_) 22 12 rfl (by kernel_rfl) (by kernel_rfl) (by kernel_rfl) (by kernel_rfl) (by kernel_rfl) (fun _ _ _ h => h) (by kernel_rfl) ?_ (by assumption) ?_
              rotate_left
              · (intro w' hSw; (try dsimp only at hSw); go_simp; first | done | with_reducible rfl)
              simp only [Act.put, List.setIfInBounds_toArray, List.set_cons_zero, List.set_cons_succ]
              refine rgE_take (v := ?_) 23 12 rfl (by kernel_rfl) (by kernel_rfl) (by kernel_rfl) (by kernel_rfl) (by kernel_rfl) (fun _ _ _ h => h) (by kernel_rfl) ?_ (by assumption) ?_
              rotate_left
              · (intro w' hSw; (try dsimp only at hSw); go_simp; first | done | with_reducible rfl)
              simp only [Act.put, List.setIfInBounds_toArray, List.set_cons_zero, List.set_cons_succ]
              refine rgE_take (v := ?_) 24 12 rfl (by kernel_rfl) (by kernel_rfl) (by kernel_rfl) (by kernel_rfl) (by kernel_rfl) (fun _ _ _ h => h) (by kernel_rfl) ?_ (by assumption) ?_
              rotate_left
              · (intro w' hSw; (try dsimp only at hSw); go_simp; first | done | with_reducible rfl)
              simp only [Act.put, List.setIfInBounds_toArray, List.set_cons_zero, List.set_cons_succ]
              refine rgE_take (v := ?_) 25 12 rfl (by kernel_rfl) (by kernel_rfl) (by kernel_rfl) (by kernel_rfl) (by kernel_rfl) (fun _ _ _ h => h) (by kernel_rfl) ?_ (by assumption) ?_
              rotate_left
              · (intro w' hSw; (try dsimp only at hSw); go_simp; first | done | with_reducible rfl)
              simp only [Act.put, List.setIfInBounds_toArray, List.set_cons_zero, List.set_cons_succ]
              refine rgE_two 13 26 rfl rfl (by kernel_rfl) (by kernel_rfl) (by kernel_rfl) (by decide) (by decide) (fun K hK => ?_) (fun K hK => ?_)
              · go_simp
                refine (HAPL.out _ _ _ _ (by exact (Rd.own HXO.out).below ((Below.refl _ _).drew)) (by exact ((HM.out.below HBI.out).below (Below.refl _ _).drew).r)).mono ?_
                rintro e w5 ⟨g5, c5, rfl, hn5, hb⟩
                have hg5 := (hn5.lt g5 rfl).2
                have HN5 := Lib.hid (own_mono hn5 (show wi.heap.size ≤ wi.drew.heap.size from Nat.le_refl _))
                have HBN := Lib.hid (show Below wi.heap.size wi w5 from below_chain ((Below.refl _ _).drew) hb)
                have hsw5 := HBN.out.size
                replace c0 := cell_later hb (by exact c0)
                replace c1 := cell_later hb (by exact c1)
                replace s0 := cell_later hb (by exact s0)
                replace r0 := cell_later hb (by exact r0)
                replace t0 := cell_later hb (by exact t0)
                replace k0 := cell_later hb (by exact k0)
                replace k1 := cell_later hb (by exact k1)
                replace k2 := cell_later hb (by exact k2)
                clear hb hn5
                go_wp2
                clear hHeld
                refine hK.out _ _ (.inr ⟨c0, c1, s0, r0, t0, k0, k1, k2⟩) (fun hHeld => ?_)
                clear hK K
                try simp only [Act.put, List.setIfInBounds_toArray, List.set_cons_zero, List.set_cons_succ]
                refine rgE_two 21 26 rfl rfl (by kernel_rfl) (by kernel_rfl) (by kernel_rfl) (by decide) (by decide) (fun K hK => ?_) (fun K hK => ?_)
                · go_simp
                  refine (HOWN2.out _ (by exact own_below HTO.out (HBN.out))).mono ?_
                  rintro e w6 ⟨g6, c6, rfl, ht6, hb⟩
                  have hg6 := (ht6.lt g6 rfl)
                  have HT6 := Lib.hid (own_mono ht6 (show wi.heap.size ≤ _ from (HBN.out).size))
                  have HBT := Lib.hid (show Below wi.heap.size wi w6 from below_chain (HBN.out) hb)
                  have hsw6 := HBT.out.size
                  have HN6 := Lib.hid (own_below (HN5.out) hb)
                  replace c0 := cell_later hb (by exact c0)
                  replace c1 := cell_later hb (by exact c1)
                  replace s0 := cell_later hb (by exact s0)
                  replace r0 := cell_later hb (by exact r0)
                  replace t0 := cell_later hb (by exact t0)
                  replace k0 := cell_later hb (by exact k0)
                  replace k1 := cell_later hb (by exact k1)
                  replace k2 := cell_later hb (by exact k2)
                  clear hb ht6
                  go_wp2
                  clear hHeld
                  refine hK.out _ _ (.inr ⟨c0, c1, s0, r0, t0, k0, k1, k2⟩) (fun hHeld => ?_)
                  clear hK K
                  try simp only [Act.put, List.setIfInBounds_toArray, List.set_cons_zero, List.set_cons_succ]
                  refine rgE_run 26 rfl (by kernel_rfl) (by kernel_rfl) (by decide) (fun K hK => ?_)
                  go_simp
                  replace c0 := cell_later (below_alloc (Below.refl _ (w6)) (Obj.cells #[Value.int .i64 (kk : Int)] 2)) (by exact c0)
                  replace c1 := cell_later (below_alloc (Below.refl _ (w6)) (Obj.cells #[Value.int .i64 (kk : Int)] 2)) (by exact c1)
                  replace s0 := cell_later (below_alloc (Below.refl _ (w6)) (Obj.cells #[Value.int .i64 (kk : Int)] 2)) (by exact s0)
                  replace r0 := cell_later (below_alloc (Below.refl _ (w6)) (Obj.cells #[Value.int .i64 (kk : Int)] 2)) (by exact r0)
                  replace t0 := cell_later (below_alloc (Below.refl _ (w6)) (Obj.cells #[Value.int .i64 (kk : Int)] 2)) (by exact t0)
                  replace k0 := cell_later (below_alloc (Below.refl _ (w6)) (Obj.cells #[Value.int .i64 (kk : Int)] 2)) (by exact k0)
                  replace k1 := cell_later (below_alloc (Below.refl _ (w6)) (Obj.cells #[Value.int .i64 (kk : Int)] 2)) (by exact k1)
                  replace k2 := cell_later (below_alloc (Below.refl _ (w6)) (Obj.cells #[Value.int .i64 (kk : Int)] 2)) (by exact k2)
                  have HBZ := Lib.hid (show Below wi.heap.size wi ((w6).alloc (Obj.cells #[Value.int .i64 (kk : Int)] 2)) from below_alloc (HBT.out) (Obj.cells #[Value.int .i64 (kk : Int)] 2))
                  clear hHeld
                  refine hK.out _ _ (.inr ⟨c0, c1, s0, r0, t0, k0, k1, k2⟩) (fun hHeld => ?_)
                  clear hK K
                  try simp only [Act.put, List.setIfInBounds_toArray, List.set_cons_zero, List.set_cons_succ]
                  refine rgE_run 27 rfl (by kernel_rfl) (by kernel_rfl) (by decide) (fun K hK => ?_)
                  refine wp_push_int _ (.tmp 74) (.tmp 79) rfl wi.heap.size (.slice (some ⟨g6, 0, none⟩) tl c6) tl x.t (kk : Int) (w6.heap.size) 1 rfl (own_below HT6.out (below_alloc (Below.refl _ w6) (Obj.cells #[Value.int .i64 (kk : Int)] 2))) rfl (show (w6.alloc (Obj.cells #[Value.int .i64 (kk : Int)] 2)).cell? ⟨w6.heap.size, 0, none⟩ = some (.int .i64 (kk : Int)) by go_simp) (by omega) (HBZ.out).size ?_
                  intro g7 c7 w7 ho7 hg7
                  have HN7 := Lib.hid ((own_below HN6.out (below_alloc (Below.refl _ w6) (Obj.cells #[Value.int .i64 (kk : Int)] 2))).kept hg7 (.inr (by simp [Value.ownBlock]; omega)))
                  have HO7 := Lib.hid ho7
                  have HB7 := Lib.hid ((HBZ.out).grown hg7 (HBZ.out).size (fun q hq => by simp [Value.ownBlock] at hq; omega))
                  replace c0 := hg7.cell (by exact c0) (by simp [Value.ownBlock]; omega)
                  replace c1 := hg7.cell (by exact c1) (by simp [Value.ownBlock]; omega)
                  replace s0 := hg7.cell (by exact s0) (by simp [Value.ownBlock]; omega)
                  replace r0 := hg7.cell (by exact r0) (by simp [Value.ownBlock]; omega)
                  replace t0 := hg7.cell (by exact t0) (by simp [Value.ownBlock]; omega)
                  replace k0 := hg7.cell (by exact k0) (by simp [Value.ownBlock]; omega)
                  replace k1 := hg7.cell (by exact k1) (by simp [Value.ownBlock]; omega)
                  replace k2 := hg7.cell (by exact k2) (by simp [Value.ownBlock]; omega)
                  clear ho7 hg7
                  clear hHeld
                  refine hK.out _ _ (.inr ⟨c0, c1, s0, r0, t0, k0, k1, k2⟩) (fun hHeld => ?_)
                  clear hK K
                  try simp only [Act.put, List.setIfInBounds_toArray, List.set_cons_zero, List.set_cons_succ]
                  refine rgE_last rfl (by kernel_rfl) (by kernel_rfl) (by kernel_rfl) (fun K hK => ?_)
                  go_simp
                  refine (HADD.out _ _ _ _ w7 ⟨_, _, _, HSB.out.below HB7.out⟩ (own_mono HN7.out (show S + 1 ≤ wi.heap.size from hszi)) (own_mono HO7.out (show S + 1 ≤ wi.heap.size from hszi))).mono ?_
                  rintro e w8 ⟨rfl, hk8, hst8⟩
                  have HST8 := Lib.hid hst8
                  have HB8 := Lib.hid (Below.kp (below_chain HBI.out HB7.out) hk8 (by omega))
                  have HOR8 := Lib.hid (hk8.own (own_below hor.out HB7.out) (Nat.lt_succ_self S) (by decide))
                  have K0 := Lib.hid (hk8.cell (by exact k0) (by dsimp only; omega))
                  have K1 := Lib.hid (hk8.cell (by exact k1) (by dsimp only; omega))
                  have K2 := Lib.hid (hk8.cell (by exact k2) (by dsimp only; omega))
                  clear hk8 hst8
                  go_wp2
                  clear hHeld
                  refine hK.out _ _ ?_
                  clear hK K
                  try simp only [Act.put, List.setIfInBounds_toArray, List.set_cons_zero, List.set_cons_succ]
                  go_wp2
                  go_roundw
                  case rel => exact ⟨q + 1, _, _, by omega, by go_num, HST8, HRUN, HOR8, K0.out, K1.out, K2.out, HB8.out⟩
                  case measure => simp [intOf]; omega
                · skip
                  go_simp
                  replace c0 := cell_later (below_alloc (Below.refl _ (w5)) (Obj.cells #[Value.int .i64 (kk : Int)] 2)) (by exact c0)
                  replace c1 := cell_later (below_alloc (Below.refl _ (w5)) (Obj.cells #[Value.int .i64 (kk : Int)] 2)) (by exact c1)
                  replace s0 := cell_later (below_alloc (Below.refl _ (w5)) (Obj.cells #[Value.int .i64 (kk : Int)] 2)) (by exact s0)
                  replace r0 := cell_later (below_alloc (Below.refl _ (w5)) (Obj.cells #[Value.int .i64 (kk : Int)] 2)) (by exact r0)
                  replace t0 := cell_later (below_alloc (Below.refl _ (w5)) (Obj.cells #[Value.int .i64 (kk : Int)] 2)) (by exact t0)
                  replace k0 := cell_later (below_alloc (Below.refl _ (w5)) (Obj.cells #[Value.int .i64 (kk : Int)] 2)) (by exact k0)
                  replace k1 := cell_later (below_alloc (Below.refl _ (w5)) (Obj.cells #[Value.int .i64 (kk : Int)] 2)) (by exact k1)
                  replace k2 := cell_later (below_alloc (Below.refl _ (w5)) (Obj.cells #[Value.int .i64 (kk : Int)] 2)) (by exact k2)
                  have HBZ := Lib.hid (show Below wi.heap.size wi ((w5).alloc (Obj.cells #[Value.int .i64 (kk : Int)] 2)) from below_alloc (HBN.out) (Obj.cells #[Value.int .i64 (kk : Int)] 2))
                  clear hHeld
                  refine hK.out _ _ (.inr ⟨c0, c1, s0, r0, t0, k0, k1, k2⟩) (fun hHeld => ?_)
                  clear hK K
                  try simp only [Act.put, List.setIfInBounds_toArray, List.set_cons_zero, List.set_cons_succ]
                  refine rgE_run 21 rfl (by kernel_rfl) (by kernel_rfl) (by decide) (fun K hK => ?_)
                  go_simp
                  refine (HOWN2.out _ (by exact own_below HTO.out (HBZ.out))).mono ?_
                  rintro e w6 ⟨g6, c6, rfl, ht6, hb⟩
                  have hg6 := (ht6.lt g6 rfl)
                  have HT6 := Lib.hid (own_mono ht6 (show wi.heap.size ≤ _ from (HBZ.out).size))
                  have HBT := Lib.hid (show Below wi.heap.size wi w6 from below_chain (HBZ.out) hb)
                  have hsw6 := HBT.out.size
                  have HN6 := Lib.hid (own_below (own_below HN5.out (below_alloc (Below.refl _ w5) (Obj.cells #[Value.int .i64 (kk : Int)] 2))) hb)
                  replace c0 := cell_later hb (by exact c0)
                  replace c1 := cell_later hb (by exact c1)
                  replace s0 := cell_later hb (by exact s0)
                  replace r0 := cell_later hb (by exact r0)
                  replace t0 := cell_later hb (by exact t0)
                  replace k0 := cell_later hb (by exact k0)
                  replace k1 := cell_later hb (by exact k1)
                  replace k2 := cell_later hb (by exact k2)
                  have HCK := Lib.hid (cell_later hb (show (w5.alloc (Obj.cells #[Value.int .i64 (kk : Int)] 2)).cell? ⟨w5.heap.size, 0, none⟩ = some (.int .i64 (kk : Int)) by go_simp))
                  simp only [World.size_alloc] at hg6
                  clear hb ht6
                  go_wp2
                  clear hHeld
                  refine hK.out _ _ (.inr ⟨c0, c1, s0, r0, t0, k0, k1, k2⟩) (fun hHeld => ?_)
                  clear hK K
                  try simp only [Act.put, List.setIfInBounds_toArray, List.set_cons_zero, List.set_cons_succ]
                  refine rgE_run 27 rfl (by kernel_rfl) (by kernel_rfl) (by decide) (fun K hK => ?_)
                  refine wp_push_int _ (.tmp 74) (.tmp 79) rfl wi.heap.size (.slice (some ⟨g6, 0, none⟩) tl c6) tl x.t (kk : Int) (w5.heap.size) 1 rfl (HT6.out) rfl (HCK.out) (by omega) (HBT.out).size ?_
                  intro g7 c7 w7 ho7 hg7
                  have HN7 := Lib.hid ((HN6.out).kept hg7 (.inr (by simp [Value.ownBlock]; omega)))
                  have HO7 := Lib.hid ho7
                  have HB7 := Lib.hid ((HBT.out).grown hg7 (HBT.out).size (fun q hq => by simp [Value.ownBlock] at hq; omega))
                  replace c0 := hg7.cell (by exact c0) (by simp [Value.ownBlock]; omega)
                  replace c1 := hg7.cell (by exact c1) (by simp [Value.ownBlock]; omega)
                  replace s0 := hg7.cell (by exact s0) (by simp [Value.ownBlock]; omega)
                  replace r0 := hg7.cell (by exact r0) (by simp [Value.ownBlock]; omega)
                  replace t0 := hg7.cell (by exact t0) (by simp [Value.ownBlock]; omega)
                  replace k0 := hg7.cell (by exact k0) (by simp [Value.ownBlock]; omega)
                  replace k1 := hg7.cell (by exact k1) (by simp [Value.ownBlock]; omega)
                  replace k2 := hg7.cell (by exact k2) (by simp [Value.ownBlock]; omega)
                  clear ho7 hg7
                  clear hHeld
                  refine hK.out _ _ (.inr ⟨c0, c1, s0, r0, t0, k0, k1, k2⟩) (fun hHeld => ?_)
                  clear hK K
                  try simp only [Act.put, List.setIfInBounds_toArray, List.set_cons_zero, List.set_cons_succ]
                  refine rgE_last rfl (by kernel_rfl) (by kernel_rfl) (by kernel_rfl) (fun K hK => ?_)
                  go_simp
                  refine (HADD.out _ _ _ _ w7 ⟨_, _, _, HSB.out.below HB7.out⟩ (own_mono HN7.out (show S + 1 ≤ wi.heap.size from hszi)) (own_mono HO7.out (show S + 1 ≤ wi.heap.size from hszi))).mono ?_
                  rintro e w8 ⟨rfl, hk8, hst8⟩
                  have HST8 := Lib.hid hst8
                  have HB8 := Lib.hid (Below.kp (below_chain HBI.out HB7.out) hk8 (by omega))
                  have HOR8 := Lib.hid (hk8.own (own_below hor.out HB7.out) (Nat.lt_succ_self S) (by decide))
                  have K0 := Lib.hid (hk8.cell (by exact k0) (by dsimp only; omega))
                  have K1 := Lib.hid (hk8.cell (by exact k1) (by dsimp only; omega))
                  have K2 := Lib.hid (hk8.cell (by exact k2) (by dsimp only; omega))
                  clear hk8 hst8
                  go_wp2
                  clear hHeld
                  refine hK.out _ _ ?_
                  clear hK K
                  try simp only [Act.put, List.setIfInBounds_toArray, List.set_cons_zero, List.set_cons_succ]
                  go_wp2
                  go_roundw
                  case rel => exact ⟨q + 1, _, _, by omega, by go_num, HST8, HRUN, HOR8, K0.out, K1.out, K2.out, HB8.out⟩
                  case measure => simp [intOf]; omega
              · skip
                go_simp
                replace c0 := cell_later (below_alloc (Below.refl _ (wi.drew)) (Obj.cells #[Value.int .i64 (kk : Int)] 2)) (by exact c0)
                replace c1 := cell_later (below_alloc (Below.refl _ (wi.drew)) (Obj.cells #[Value.int .i64 (kk : Int)] 2)) (by exact c1)
                replace s0 := cell_later (below_alloc (Below.refl _ (wi.drew)) (Obj.cells #[Value.int .i64 (kk : Int)] 2)) (by exact s0)
                replace r0 := cell_later (below_alloc (Below.refl _ (wi.drew)) (Obj.cells #[Value.int .i64 (kk : Int)] 2)) (by exact r0)
                replace t0 := cell_later (below_alloc (Below.refl _ (wi.drew)) (Obj.cells #[Value.int .i64 (kk : Int)] 2)) (by exact t0)
                replace k0 := cell_later (below_alloc (Below.refl _ (wi.drew)) (Obj.cells #[Value.int .i64 (kk : Int)] 2)) (by exact k0)
                replace k1 := cell_later (below_alloc (Below.refl _ (wi.drew)) (Obj.cells #[Value.int .i64 (kk : Int)] 2)) (by exact k1)
                replace k2 := cell_later (below_alloc (Below.refl _ (wi.drew)) (Obj.cells #[Value.int .i64 (kk : Int)] 2)) (by exact k2)
                have HBX := Lib.hid (show Below wi.heap.size wi ((wi.drew).alloc (Obj.cells #[Value.int .i64 (kk : Int)] 2)) from below_alloc ((Below.refl _ _).drew) (Obj.cells #[Value.int .i64 (kk : Int)] 2))
                clear hHeld
                refine hK.out _ _ (.inr ⟨c0, c1, s0, r0, t0, k0, k1, k2⟩) (fun hHeld => ?_)
                clear hK K
                try simp only [Act.put, List.setIfInBounds_toArray, List.set_cons_zero, List.set_cons_succ]
                refine rgE_run 13 rfl (by kernel_rfl) (by kernel_rfl) (by decide) (fun K hK => ?_)
                go_simp
                refine (HAPL.out _ _ _ _ (by exact (Rd.own HXO.out).below (HBX.out)) (by exact ((HM.out.below HBI.out).below HBX.out).r)).mono ?_
                rintro e w5 ⟨g5, c5, rfl, hn5, hb⟩
                have hg5 := (hn5.lt g5 rfl).2
                have HN5 := Lib.hid (own_mono hn5 (show wi.heap.size ≤ _ from (HBX.out).size))
                have HBN := Lib.hid (show Below wi.heap.size wi w5 from below_chain (HBX.out) hb)
                have hsw5 := HBN.out.size
                replace c0 := cell_later hb (by exact c0)
                replace c1 := cell_later hb (by exact c1)
                replace s0 := cell_later hb (by exact s0)
                replace r0 := cell_later hb (by exact r0)
                replace t0 := cell_later hb (by exact t0)
                replace k0 := cell_later hb (by exact k0)
                replace k1 := cell_later hb (by exact k1)
                replace k2 := cell_later hb (by exact k2)
                have HCK5 := Lib.hid (cell_later hb (show (wi.drew.alloc (Obj.cells #[Value.int .i64 (kk : Int)] 2)).cell? ⟨wi.heap.size, 0, none⟩ = some (.int .i64 (kk : Int)) by go_simp))
                clear hb hn5
                go_wp2
                clear hHeld
                refine hK.out _ _ (.inr ⟨c0, c1, s0, r0, t0, k0, k1, k2⟩) (fun hHeld => ?_)
                clear hK K
                try simp only [Act.put, List.setIfInBounds_toArray, List.set_cons_zero, List.set_cons_succ]
                refine rgE_run 21 rfl (by kernel_rfl) (by kernel_rfl) (by decide) (fun K hK => ?_)
                go_simp
                refine (HOWN2.out _ (by exact own_below HTO.out (HBN.out))).mono ?_
                rintro e w6 ⟨g6, c6, rfl, ht6, hb⟩
                have hg6 := (ht6.lt g6 rfl)
                have HT6 := Lib.hid (own_mono ht6 (show wi.heap.size ≤ _ from (HBN.out).size))
                have HBT := Lib.hid (show Below wi.heap.size wi w6 from below_chain (HBN.out) hb)
                have hsw6 := HBT.out.size
                have HN6 := Lib.hid (own_below (HN5.out) hb)
                replace c0 := cell_later hb (by exact c0)
                replace c1 := cell_later hb (by exact c1)
                replace s0 := cell_later hb (by exact s0)
                replace r0 := cell_later hb (by exact r0)
                replace t0 := cell_later hb (by exact t0)
                replace k0 := cell_later hb (by exact k0)
                replace k1 := cell_later hb (by exact k1)
                replace k2 := cell_later hb (by exact k2)
                have HCK := Lib.hid (cell_later hb HCK5.out)
                clear hb ht6
                go_wp2
                clear hHeld
                refine hK.out _ _ (.inr ⟨c0, c1, s0, r0, t0, k0, k1, k2⟩) (fun hHeld => ?_)
                clear hK K
                try simp only [Act.put, List.setIfInBounds_toArray, List.set_cons_zero, List.set_cons_succ]
                refine rgE_run 27 rfl (by kernel_rfl) (by kernel_rfl) (by decide) (fun K hK => ?_)
                refine wp_push_int _ (.tmp 74) (.tmp 79) rfl wi.heap.size (.slice (some ⟨g6, 0, none⟩) tl c6) tl x.t (kk : Int) (wi.heap.size) 1 rfl (HT6.out) rfl (HCK.out) (by omega) (HBT.out).size ?_
                intro g7 c7 w7 ho7 hg7
                have HN7 := Lib.hid ((HN6.out).kept hg7 (.inr (by simp [Value.ownBlock]; omega)))
                have HO7 := Lib.hid ho7
                have HB7 := Lib.hid ((HBT.out).grown hg7 (HBT.out).size (fun q hq => by simp [Value.ownBlock] at hq; omega))
                replace c0 := hg7.cell (by exact c0) (by simp [Value.ownBlock]; omega)
                replace c1 := hg7.cell (by exact c1) (by simp [Value.ownBlock]; omega)
                replace s0 := hg7.cell (by exact s0) (by simp [Value.ownBlock]; omega)
                replace r0 := hg7.cell (by exact r0) (by simp [Value.ownBlock]; omega)
                replace t0 := hg7.cell (by exact t0) (by simp [Value.ownBlock]; omega)
                replace k0 := hg7.cell (by exact k0) (by simp [Value.ownBlock]; omega)
                replace k1 := hg7.cell (by exact k1) (by simp [Value.ownBlock]; omega)
                replace k2 := hg7.cell (by exact k2) (by simp [Value.ownBlock]; omega)
                clear ho7 hg7
                clear hHeld
                refine hK.out _ _ (.inr ⟨c0, c1, s0, r0, t0, k0, k1, k2⟩) (fun hHeld => ?_)
                clear hK K
                try simp only [Act.put, List.setIfInBounds_toArray, List.set_cons_zero, List.set_cons_succ]
                refine rgE_last rfl (by kernel_rfl) (by kernel_rfl) (by kernel_rfl) (fun K hK => ?_)
                go_simp
                refine (HADD.out _ _ _ _ w7 ⟨_, _, _, HSB.out.below HB7.out⟩ (own_mono HN7.out (show S + 1 ≤ wi.heap.size from hszi)) (own_mono HO7.out (show S + 1 ≤ wi.heap.size from hszi))).mono ?_
                rintro e w8 ⟨rfl, hk8, hst8⟩
                have HST8 := Lib.hid hst8
                have HB8 := Lib.hid (Below.kp (below_chain HBI.out HB7.out) hk8 (by omega))
                have HOR8 := Lib.hid (hk8.own (own_below hor.out HB7.out) (Nat.lt_succ_self S) (by decide))
                have K0 := Lib.hid (hk8.cell (by exact k0) (by dsimp only; omega))
                have K1 := Lib.hid (hk8.cell (by exact k1) (by dsimp only; omega))
                have K2 := Lib.hid (hk8.cell (by exact k2) (by dsimp only; omega))
                clear hk8 hst8
                go_wp2
                clear hHeld
                refine hK.out _ _ ?_
                clear hK K
                try simp only [Act.put, List.setIfInBounds_toArray, List.set_cons_zero, List.set_cons_succ]
                go_wp2
                go_roundw
                case rel => exact ⟨q + 1, _, _, by omega, by go_num, HST8, HRUN, HOR8, K0.out, K1.out, K2.out, HB8.out⟩
                case measure => simp [intOf]; omega
            · obtain rfl : q = rl := by omega
              have h5 := exM_all (j := q) HX1.out (by rw [← HRE.out, HRLN.out]; exact Nat.le_refl _)
              have hkl2 : k + 1 ≤ (sqM m (k + 1)).length := by rw [← h5]; have := (List.getElem?_eq_some_iff.1 (exM_at (j := q) HX1.out)).1; omega
              have HSS : Hid (StS wi S (S + 1) false (exM m k x q)) := Lib.hid ⟨_, _, _, HSB.out⟩
              have HRR : Hid (RunA XO false (exM m k x q) (sqM m (k + 1))) := Lib.hid ⟨hlq, fun _ => h5, fun h => by cases h⟩
              have HKL2 := Lib.hid (fun (_ : false = false) => hkl2)
              clear HSB HRA hor h5 hkl2
              go_wp2
              go_roundw
              case rel => exact ⟨k + 1, false, _, by go_num, by omega, HSS, HRR, HKL2, k0, k1, k2, HBI.out⟩
              case measure => simp [intOf]; omega
          · have e1 := HRA.out.2.2 rfl
            have HSS : Hid (StS wi S (S + 1) true acc) := Lib.hid ⟨_, _, _, HSB.out⟩
            have HRR : Hid (RunA XO true acc (sqM m (k + 1))) := Lib.hid ⟨HRA.out.1, (fun h => by cases h), fun _ => e1⟩
            clear HSB HRA hor e1
            by_cases hltq : q < rl
            · go_wp2
              go_roundw
              case rel => exact ⟨k + 1, true, acc, by go_num, by omega, HSS, HRR, Lib.hid (fun h => by cases h), k0, k1, k2, HBI.out⟩
              case measure => simp [intOf]; omega
            · go_wp2
              go_roundw
              case rel => exact ⟨k + 1, true, acc, by go_num, by omega, HSS, HRR, Lib.hid (fun h => by cases h), k0, k1, k2, HBI.out⟩
              case measure => simp [intOf]; omega
      · have hkk : (sqM m k).length = k := by omega
        obtain ⟨e1, e2⟩ := HDN.out k hkk (by omega)
        subst e1
        have HEND := Lib.hid (show RetRu true XL w (.returned (.pointer (some ⟨S, 0, none⟩))) wo from ⟨S, sqM m k, rfl, ⟨_, _, _, HSB.out⟩, fun _ => e2.symm, by omega, HBW.out⟩)
        rw [hkk] at c0
        clear HSB HRA HBW e2 hkl hln hkk c1 c2
        go_wp2
        go_ret
        exact HEND.out
    · have e1 := HRA.out.2.2 rfl
      subst e1
      have HEND := Lib.hid (show RetRu false XL w (.returned (.pointer (some ⟨S, 0, none⟩))) wo from ⟨S, acc, rfl, ⟨_, _, _, HSB.out⟩, (by simp), by omega, HBW.out⟩)
      generalize acc.length = N at *
      clear HSB HRA HBW hkl
      by_cases hkN : k < N
      · go_wp2
        go_ret
        exact HEND.out
      · go_wp2
        go_ret
        exact HEND.out
end Go.Proofs.Ytaloheljfefdeaa

/- exploreModel (program) and l21All (reference). Condition: the lengths are those that the laws let by. -/
namespace Go.Proofs.Ytaloheljfefdeaa
open Go.RowKit

def xmC (m : Mdl) (ts : List Tst) : Int := if mdB m then (if tsB m.sz ts then (if xpO m then 0 else 3) else 2) else 1
def xmL (m : Mdl) (ts : List Tst) : List Rc := if mdB m && tsB m.sz ts then xpL m else []
/-- What exploreModel hands back. -/
def RetXm (n : Nat) (L : List Rc) (c : Int) (w : World) (e : Ending) (w' : World) : Prop :=
  ∃ A cap, e = .returned (.tuple #[.slice A n cap, .int .i64 c]) ∧ OwnRc w' w.heap.size w'.heap.size (.slice A n cap) L ∧ Below w.heap.size w w'
/-- What l21All hands back: a search at a block of its own, or nil and a code. -/
def RetAl (c : Int) (L : List Rc) (w : World) (e : Ending) (w' : World) : Prop :=
  ∃ p, e = .returned (.tuple #[.pointer p, .int .i64 c]) ∧ Below w.heap.size w w' ∧ (c = 0 → ∃ S, p = some ⟨S, 0, none⟩ ∧ StS w' S (S + 1) false L ∧ w.heap.size ≤ S) ∧ (c ≠ 0 → p = none)
theorem retXm_nil {n : Nat} {L : List Rc} {c : Int} {w w' : World} (h : L = []) (hn : n = L.length) (hb : Below w.heap.size w w') : RetXm n L c w (.returned (.tuple #[.slice none 0 0, .int .i64 c])) w' := by
  subst h
  subst hn
  exact ⟨none, 0, rfl, ownRc_nil _ _ _, hb⟩
theorem xm_bad {m : Mdl} {ts : List Tst} (h : xmC m ts ≠ 0) : xmL m ts = [] := by
  unfold xmC at h
  unfold xmL xpL
  cases h1 : mdB m
  · rfl
  · cases h2 : tsB m.sz ts
    · rfl
    · cases h3 : xpO m
      · rfl
      · exact absurd (by rw [h1, h2, h3]; rfl) h
theorem xm_good {m : Mdl} {ts : List Tst} (h : xmC m ts = 0) : mdB m = true ∧ tsB m.sz ts = true ∧ xpO m = true ∧ xmL m ts = xpL m := by
  unfold xmC at h
  unfold xmL
  cases h1 : mdB m
  · rw [h1, if_neg (by simp)] at h; omega
  · cases h2 : tsB m.sz ts
    · rw [h1, h2, if_pos rfl, if_neg (by simp)] at h; omega
    · cases h3 : xpO m
      · rw [h1, h2, h3, if_pos rfl, if_pos rfl, if_neg (by simp)] at h; omega
      · exact ⟨rfl, rfl, rfl, if_pos rfl⟩
set_option maxHeartbeats 1000000 in
set_option maxRecDepth 100000 in
theorem c_exploreModel (m : Mdl) (az ax ar : Option Addr) (cz cs cr : Nat) (A : Option Addr) (c : Nat) (ts : List Tst) (w : World) (hok : MOk m) (hl2 : ts.length ≤ 1048576) (h : Md w az ax ar m) (hv : Rd w A (tstCells ts)) :
    Calls Try.prog 48 #[mv m az ax ar cz cs cr, .slice A ts.length c] w (RetXm (xmL m ts).length (xmL m ts) (xmC m ts) w) := by
  have HI := Lib.hid (fun w' h => c_IsModel m az ax ar cz cs cr w' hok h)
  have HTS := Lib.hid (fun w' hs h hv => c_areTests m az ax ar cz cs cr A c ts w' hs hok.1.1 hl2 h hv)
  have HX := Lib.hid (fun w' hmd h => c_explore m az ax ar cz cs cr w' hok hmd h)
  have HM := Lib.hid h
  have HV := Lib.hid hv
  rcases hmd : mdB m with _ | _
  · rw [hmd] at HI
    have e1 : xmC m ts = 1 := by unfold xmC; rw [hmd]; rfl
    have e2 : xmL m ts = [] := by unfold xmL; rw [hmd]; rfl
    rw [e1, e2]
    clear e1 e2 h hv hok hmd HTS HX
    dsimp only [mv] at *
    generalize m.sz.length = sn at *
    generalize m.st.length = tn at *
    generalize m.rs.length = rn at *
    generalize ts.length = ln at *
    go_enter Try.func48, Try.ntmps48
    go_wp2_with (fail)
    refine (HI.out _ (HM.out.alloc _)).mono ?_
    rintro e w1 ⟨rfl, hb⟩
    have HB := Lib.hid (below_chain (by (repeat (first | exact Below.refl _ _ | assumption | refine below_alloc ?_ _ | refine below_drewN ?_ _ | refine below_set ?_ _ (by simp; try omega) | refine Below.drew ?_)) : Below w.heap.size w _) hb)
    clear hb
    go_wp2
    go_ret2
    exact retXm_nil rfl rfl HB.out
  have HTT := Lib.hid (fun w' h hv => HTS.out w' (md_szs hmd) h hv)
  have HXX := Lib.hid (fun w' h => HX.out w' hmd h)
  rw [hmd] at HI
  rcases htb : tsB m.sz ts with _ | _
  · rw [htb] at HTT
    have e1 : xmC m ts = 2 := by unfold xmC; rw [hmd, htb]; rfl
    have e2 : xmL m ts = [] := by unfold xmL; rw [hmd, htb]; rfl
    rw [e1, e2]
    clear e1 e2 h hv hok hmd htb HTS HX HXX
    dsimp only [mv] at *
    generalize m.sz.length = sn at *
    generalize m.st.length = tn at *
    generalize m.rs.length = rn at *
    generalize ts.length = ln at *
    go_enter Try.func48, Try.ntmps48
    go_wp2_with (fail)
    refine (HI.out _ (HM.out.alloc _)).mono ?_
    rintro e w1 ⟨rfl, hb⟩
    have k0 : w1.cell? ⟨w.heap.size, 0, none⟩ = some (.slice az sn cz) := cell_later hb (by go_simp)
    have k1 : w1.cell? ⟨w.heap.size, 1, none⟩ = some (.slice ax tn cs) := cell_later hb (by go_simp)
    have k2 : w1.cell? ⟨w.heap.size, 2, none⟩ = some (.slice ar rn cr) := cell_later hb (by go_simp)
    have HB := Lib.hid (below_chain (by (repeat (first | exact Below.refl _ _ | assumption | refine below_alloc ?_ _ | refine below_drewN ?_ _ | refine below_set ?_ _ (by simp; try omega) | refine Below.drew ?_)) : Below w.heap.size w _) hb)
    clear hb
    go_wp2_with (fail)
    refine (HTT.out _ (HM.out.z.below HB.out) (HV.out.below HB.out)).mono ?_
    rintro e w2 ⟨rfl, hb⟩
    have HB2 := Lib.hid (below_chain HB.out hb)
    clear hb
    go_wp2
    go_ret2
    exact retXm_nil rfl rfl HB2.out
  rw [htb] at HTT
  have e1 : xmC m ts = if xpO m then 0 else 3 := by unfold xmC; rw [hmd, htb, if_pos rfl, if_pos rfl]
  have e2 : xmL m ts = xpL m := by unfold xmL; rw [hmd, htb]; exact if_pos rfl
  obtain ⟨XC, hXC⟩ : ∃ XC : Int, XC = if xpO m then 0 else 3 := ⟨_, rfl⟩
  rw [e1, e2, ← hXC]
  have HXC := Lib.hid hXC
  clear hXC
  have HE := Lib.hid (show xpO m = false → xpL m = [] from fun h => by unfold xpL; rw [h]; rfl)
  clear e1 e2 h hv hok hmd htb HTS HX
  generalize xpL m = L at *
  generalize xpO m = O at *
  dsimp only [mv] at *
  generalize m.sz.length = sn at *
  generalize m.st.length = tn at *
  generalize m.rs.length = rn at *
  generalize ts.length = ln at *
  generalize hxn : L.length = xn at *
  have HXN := Lib.hid hxn
  clear hxn
  go_enter Try.func48, Try.ntmps48
  go_wp2_with (fail)
  refine (HI.out _ (HM.out.alloc _)).mono ?_
  rintro e w1 ⟨rfl, hb⟩
  have k0 : w1.cell? ⟨w.heap.size, 0, none⟩ = some (.slice az sn cz) := cell_later hb (by go_simp)
  have k1 : w1.cell? ⟨w.heap.size, 1, none⟩ = some (.slice ax tn cs) := cell_later hb (by go_simp)
  have k2 : w1.cell? ⟨w.heap.size, 2, none⟩ = some (.slice ar rn cr) := cell_later hb (by go_simp)
  have HB := Lib.hid (below_chain (by (repeat (first | exact Below.refl _ _ | assumption | refine below_alloc ?_ _ | refine below_drewN ?_ _ | refine below_set ?_ _ (by simp; try omega) | refine Below.drew ?_)) : Below w.heap.size w _) hb)
  clear hb
  go_wp2_with (fail)
  refine (HTT.out _ (HM.out.z.below HB.out) (HV.out.below HB.out)).mono ?_
  rintro e w2 ⟨rfl, hb⟩
  have HB2 := Lib.hid (below_chain HB.out hb)
  replace k0 := cell_later hb (by exact k0)
  replace k1 := cell_later hb (by exact k1)
  replace k2 := cell_later hb (by exact k2)
  clear hb
  go_wp2_with (fail)
  refine (HXX.out _ (HM.out.below HB2.out)).mono ?_
  rintro e w3 ⟨A1, c1, rfl, ho, hb⟩
  have HB3 := Lib.hid (below_chain HB2.out hb)
  have HO := Lib.hid (ho.mono HB2.out.size (Nat.le_refl _))
  clear hb ho
  rcases O with _ | _
  · have e : XC = 3 := HXC.out
    subst e
    have e := HE.out rfl
    subst e
    have e := HXN.out
    subst e
    go_wp2
    go_ret2
    exact retXm_nil rfl rfl HB3.out
  · have e : XC = 0 := HXC.out
    subst e
    go_wp2
    go_ret2
    exact ⟨A1, c1, rfl, HO.out, HB3.out⟩
set_option maxHeartbeats 1000000 in
set_option maxRecDepth 100000 in
theorem c_l21All (m : Mdl) (az ax ar : Option Addr) (cz cs cr : Nat) (A : Option Addr) (c : Nat) (ts : List Tst) (w : World) (hok : MOk m) (hl2 : ts.length ≤ 1048576) (h : Md w az ax ar m) (hv : Rd w A (tstCells ts)) :
    Calls Try.prog 53 #[mv m az ax ar cz cs cr, .slice A ts.length c] w (RetAl (xmC m ts) (xmL m ts) w) := by
  have HI := Lib.hid (fun w' h => c_sIsModel m az ax ar cz cs cr w' hok h)
  have HTS := Lib.hid (fun w' hs h hv => c_l20Tests m az ax ar cz cs cr A c ts w' hs hok.1.1 hl2 h hv)
  have HX := Lib.hid (fun w' hmd h => c_l21Run m az ax ar cz cs cr w' hok hmd h)
  have HM := Lib.hid h
  have HV := Lib.hid hv
  rcases hmd : mdB m with _ | _
  · rw [hmd] at HI
    have e1 : xmC m ts = 1 := by unfold xmC; rw [hmd]; rfl
    rw [e1]
    generalize xmL m ts = L at *
    clear e1 h hv hok hmd HTS HX
    dsimp only [mv] at *
    generalize m.sz.length = sn at *
    generalize m.st.length = tn at *
    generalize m.rs.length = rn at *
    generalize ts.length = ln at *
    go_enter Try.func53, Try.ntmps53
    go_wp2_with (fail)
    refine (HI.out _ (HM.out.alloc _)).mono ?_
    rintro e w1 ⟨rfl, hb⟩
    have HB := Lib.hid (below_chain (by (repeat (first | exact Below.refl _ _ | assumption | refine below_alloc ?_ _ | refine below_drewN ?_ _ | refine below_set ?_ _ (by simp; try omega) | refine Below.drew ?_)) : Below w.heap.size w _) hb)
    clear hb
    go_wp2
    go_ret2
    exact ⟨none, rfl, HB.out, by omega, fun _ => rfl⟩
  have HTT := Lib.hid (fun w' h hv => HTS.out w' (md_szs hmd) h hv)
  have HXX := Lib.hid (fun w' h => HX.out w' hmd h)
  rw [hmd] at HI
  rcases htb : tsB m.sz ts with _ | _
  · rw [htb] at HTT
    have e1 : xmC m ts = 2 := by unfold xmC; rw [hmd, htb]; rfl
    rw [e1]
    generalize xmL m ts = L at *
    clear e1 h hv hok hmd htb HTS HX HXX
    dsimp only [mv] at *
    generalize m.sz.length = sn at *
    generalize m.st.length = tn at *
    generalize m.rs.length = rn at *
    generalize ts.length = ln at *
    go_enter Try.func53, Try.ntmps53
    go_wp2_with (fail)
    refine (HI.out _ (HM.out.alloc _)).mono ?_
    rintro e w1 ⟨rfl, hb⟩
    have k0 : w1.cell? ⟨w.heap.size, 0, none⟩ = some (.slice az sn cz) := cell_later hb (by go_simp)
    have k1 : w1.cell? ⟨w.heap.size, 1, none⟩ = some (.slice ax tn cs) := cell_later hb (by go_simp)
    have k2 : w1.cell? ⟨w.heap.size, 2, none⟩ = some (.slice ar rn cr) := cell_later hb (by go_simp)
    have HB := Lib.hid (below_chain (by (repeat (first | exact Below.refl _ _ | assumption | refine below_alloc ?_ _ | refine below_drewN ?_ _ | refine below_set ?_ _ (by simp; try omega) | refine Below.drew ?_)) : Below w.heap.size w _) hb)
    clear hb
    go_wp2_with (fail)
    refine (HTT.out _ (HM.out.z.below HB.out) (HV.out.below HB.out)).mono ?_
    rintro e w2 ⟨rfl, hb⟩
    have HB2 := Lib.hid (below_chain HB.out hb)
    clear hb
    go_wp2
    go_ret2
    exact ⟨none, rfl, HB2.out, by omega, fun _ => rfl⟩
  rw [htb] at HTT
  have e1 : xmC m ts = if xpO m then 0 else 3 := by unfold xmC; rw [hmd, htb, if_pos rfl, if_pos rfl]
  have e2 : xmL m ts = xpL m := by unfold xmL; rw [hmd, htb]; exact if_pos rfl
  obtain ⟨XC, hXC⟩ : ∃ XC : Int, XC = if xpO m then 0 else 3 := ⟨_, rfl⟩
  rw [e1, e2, ← hXC]
  have HXC := Lib.hid hXC
  clear hXC
  clear e1 e2 h hv hok hmd htb HTS HX
  generalize xpL m = L at *
  generalize xpO m = O at *
  dsimp only [mv] at *
  generalize m.sz.length = sn at *
  generalize m.st.length = tn at *
  generalize m.rs.length = rn at *
  generalize ts.length = ln at *
  go_enter Try.func53, Try.ntmps53
  go_wp2_with (fail)
  refine (HI.out _ (HM.out.alloc _)).mono ?_
  rintro e w1 ⟨rfl, hb⟩
  have k0 : w1.cell? ⟨w.heap.size, 0, none⟩ = some (.slice az sn cz) := cell_later hb (by go_simp)
  have k1 : w1.cell? ⟨w.heap.size, 1, none⟩ = some (.slice ax tn cs) := cell_later hb (by go_simp)
  have k2 : w1.cell? ⟨w.heap.size, 2, none⟩ = some (.slice ar rn cr) := cell_later hb (by go_simp)
  have HB := Lib.hid (below_chain (by (repeat (first | exact Below.refl _ _ | assumption | refine below_alloc ?_ _ | refine below_drewN ?_ _ | refine below_set ?_ _ (by simp; try omega) | refine Below.drew ?_)) : Below w.heap.size w _) hb)
  clear hb
  go_wp2_with (fail)
  refine (HTT.out _ (HM.out.z.below HB.out) (HV.out.below HB.out)).mono ?_
  rintro e w2 ⟨rfl, hb⟩
  have HB2 := Lib.hid (below_chain HB.out hb)
  replace k0 := cell_later hb (by exact k0)
  replace k1 := cell_later hb (by exact k1)
  replace k2 := cell_later hb (by exact k2)
  clear hb
  go_wp2_with (fail)
  refine (HXX.out _ (HM.out.below HB2.out)).mono ?_
  rintro e w3 ⟨S, acc, rfl, hst, hacc, hS, hb⟩
  have HB3 := Lib.hid (below_chain HB2.out hb)
  have HSS := Lib.hid hst
  have HAC := Lib.hid hacc
  have hS2 := HB2.out.size
  obtain ⟨Ao, co, At, ct, Ak, ck, hSB⟩ := hst.forms
  obtain ⟨c0, c1, c2, c3⟩ := hSB.c
  clear hb hst hacc hSB
  rcases O with _ | _
  · have e : XC = 3 := HXC.out
    subst e
    have c3' : w3.cell? ⟨S, 3, none⟩ = some (.bool true) := c3
    clear c3
    go_wp2
    go_ret2
    exact ⟨none, rfl, HB3.out, by omega, fun _ => rfl⟩
  · have e : XC = 0 := HXC.out
    subst e
    have e := HAC.out rfl
    subst e
    have c3' : w3.cell? ⟨S, 3, none⟩ = some (.bool false) := c3
    clear c3
    go_wp2
    go_ret2
    exact ⟨_, rfl, HB3.out, fun _ => ⟨S, rfl, HSS.out, by omega⟩, by omega⟩
end Go.Proofs.Ytaloheljfefdeaa

/- slices.SortFunc at lists of numbers: the numbers of its functions and types at this dump, and that the bodies are those of the library's contract. No condition. -/
namespace Go.Proofs.Ytaloheljfefdeaa
open Go.Shelf
def sortL_ren : Go.Shelf.Ren := ⟨fun | 6 => 109 | 15 => 123 | 14 => 122 | 28 => 136 | 29 => 137 | 20 => 128 | 21 => 129 | 22 => 130 | 23 => 131 | 24 => 132 | 25 => 133 | 26 => 134 | 27 => 135 | 46 => 140 | 47 => 141 | 48 => 142 | 49 => 143 | 50 => 144 | 57 => 146 | n => n, fun | 22 => 39 | 24 => 24 | 25 => 129 | 3 => 3 | 39 => 111 | 0 => 0 | 53 => 155 | 55 => 62 | 4 => 4 | 46 => 149 | 45 => 148 | 50 => 132 | 5 => 5 | 9 => 9 | 66 => 158 | 70 => 162 | 76 => 164 | 77 => 165 | n => n, fun | n => n⟩
theorem sortL : Go.Proofs.SlLaysF.n6 Try.prog sortL_ren := {
  mixed := by kernel_rfl
  f6 := ⟨Try.f109.name, by decide, Try.func109.trans (congrArg some (by kernel_rfl))⟩
  f14 := ⟨Try.f122.name, by decide, Try.func122.trans (congrArg some (by kernel_rfl))⟩
  f15 := Try.func123.trans (congrArg some (by kernel_rfl))
  f20 := ⟨Try.f128.name, by decide, Try.func128.trans (congrArg some (by kernel_rfl))⟩
  f21 := ⟨Try.f129.name, by decide, Try.func129.trans (congrArg some (by kernel_rfl))⟩
  f22 := ⟨Try.f130.name, by decide, Try.func130.trans (congrArg some (by kernel_rfl))⟩
  f23 := ⟨Try.f131.name, by decide, Try.func131.trans (congrArg some (by kernel_rfl))⟩
  f24 := ⟨Try.f132.name, by decide, Try.func132.trans (congrArg some (by kernel_rfl))⟩
  f25 := ⟨Try.f133.name, by decide, Try.func133.trans (congrArg some (by kernel_rfl))⟩
  f26 := ⟨Try.f134.name, by decide, Try.func134.trans (congrArg some (by kernel_rfl))⟩
  f27 := ⟨Try.f135.name, by decide, Try.func135.trans (congrArg some (by kernel_rfl))⟩
  f28 := Try.func136.trans (congrArg some (by kernel_rfl))
  f29 := Try.func137.trans (congrArg some (by kernel_rfl))
  f46 := ⟨Try.f140.name, by decide, Try.func140.trans (congrArg some (by kernel_rfl))⟩
  f47 := Try.func141.trans (congrArg some (by kernel_rfl))
  f48 := Try.func142.trans (congrArg some (by kernel_rfl))
  f49 := ⟨Try.f143.name, by decide, Try.func143.trans (congrArg some (by kernel_rfl))⟩
  f50 := ⟨Try.f144.name, by decide, Try.func144.trans (congrArg some (by kernel_rfl))⟩
  f57 := ⟨Try.f146.name, by decide, Try.func146.trans (congrArg some (by kernel_rfl))⟩
  t0 := Try.underlying0
  a0 := Try.isAgg0
  z0 := Try.sizeOf0
  v0 := Try.zeroValue0
  t3 := Try.underlying3
  a3 := Try.isAgg3
  z3 := Try.sizeOf3
  v3 := Try.zeroValue3
  t4 := Try.underlying4
  a4 := Try.isAgg4
  z4 := Try.sizeOf4
  v4 := Try.zeroValue4
  t5 := Try.underlying5
  a5 := Try.isAgg5
  z5 := Try.sizeOf5
  v5 := Try.zeroValue5
  t9 := Try.underlying9
  a9 := Try.isAgg9
  z9 := Try.sizeOf9
  v9 := Try.zeroValue9
  t22 := Try.underlying39
  a22 := Try.isAgg39
  z22 := Try.sizeOf39
  v22 := Try.zeroValue39
  a24 := Try.isAgg24
  z24 := Try.sizeOf24
  t25 := Try.underlying129
  a25 := Try.isAgg129
  z25 := Try.sizeOf129
  v25 := Try.zeroValue129
  t39 := Try.underlying111
  a39 := Try.isAgg111
  z39 := Try.sizeOf111
  v39 := Try.zeroValue111
  t45 := Try.underlying148
  a45 := Try.isAgg148
  z45 := Try.sizeOf148
  v45 := Try.zeroValue148
  t46 := Try.underlying149
  a46 := Try.isAgg149
  z46 := Try.sizeOf149
  v46 := Try.zeroValue149
  t50 := Try.underlying132
  a50 := Try.isAgg132
  z50 := Try.sizeOf132
  v50 := Try.zeroValue132
  t53 := Try.underlying155
  a53 := Try.isAgg155
  z53 := Try.sizeOf155
  v53 := Try.zeroValue155
  t55 := Try.underlying62
  a55 := Try.isAgg62
  z55 := Try.sizeOf62
  v55 := Try.zeroValue62
  t66 := Try.underlying158
  a66 := Try.isAgg158
  z66 := Try.sizeOf158
  v66 := Try.zeroValue158
  t70 := Try.underlying162
  a70 := Try.isAgg162
  z70 := Try.sizeOf162
  v70 := Try.zeroValue162
  t76 := Try.underlying164
  a76 := Try.isAgg164
  z76 := Try.sizeOf164
  v76 := Try.zeroValue164
  t77 := Try.underlying165
  a77 := Try.isAgg165
  z77 := Try.sizeOf165
  v77 := Try.zeroValue165 }
end Go.Proofs.Ytaloheljfefdeaa

/- slices.Compare, slices.Equal at lists of numbers; slices.SortFunc over lists of lists: sorted, a permutation. Condition: the lengths are bounded. -/
namespace Go.Proofs.Ytaloheljfefdeaa
open Go.RowKit

set_option maxRecDepth 100000 in
theorem c_isNaN (x : Int) (w : World) : Calls Try.prog 138 #[.int .i64 x] w fun e w' => e = .returned (.bool false) ∧ w = w' := by
  go_enter Try.func138, Try.ntmps138
  go_wp2
  go_ret
  exact ⟨rfl, rfl⟩
def cmpI (x y : Int) : Int := if x < y then -1 else if y < x then 1 else 0
set_option maxRecDepth 100000 in
theorem c_cmpI (x y : Int) (w : World) : Calls Try.prog 124 #[.int .i64 x, .int .i64 y] w fun e w' => e = .returned (.int .i64 (cmpI x y)) ∧ w = w' := by
  obtain ⟨r, hr⟩ : ∃ r, r = cmpI x y := ⟨_, rfl⟩
  rw [← hr]
  have HR := Lib.hid hr
  clear hr
  rcases Int.lt_trichotomy x y with h | h | h
  · have e := HR.out
    unfold cmpI at e
    rw [if_pos h] at e
    subst e
    clear HR
    go_enter Try.func124, Try.ntmps124
    go_wp2_with (first
      | (go_at_call 138
         refine (c_isNaN _ _).mono ?_
         rintro e w' ⟨rfl, rfl⟩)
      )
    go_ret
    exact ⟨rfl, rfl⟩
  · have e := HR.out
    unfold cmpI at e
    rw [if_neg (by omega), if_neg (by omega)] at e
    subst e
    subst h
    clear HR
    have h1 : ¬ x < x := by omega
    go_enter Try.func124, Try.ntmps124
    go_wp2_with (first
      | (go_at_call 138
         refine (c_isNaN _ _).mono ?_
         rintro e w' ⟨rfl, rfl⟩)
      )
    go_ret
    exact ⟨rfl, rfl⟩
  · have e := HR.out
    unfold cmpI at e
    rw [if_neg (by omega), if_pos h] at e
    subst e
    clear HR
    have h1 : ¬ x < y := by omega
    go_enter Try.func124, Try.ntmps124
    go_wp2_with (first
      | (go_at_call 138
         refine (c_isNaN _ _).mono ?_
         rintro e w' ⟨rfl, rfl⟩)
      )
    go_ret
    exact ⟨rfl, rfl⟩
theorem cmp_step2 {a b : List Int} {k : Nat} {x y : Int} (ha : a[k]? = some x) (hb : b[k]? = some y) : cmpL (a.drop k) (b.drop k) = if cmpI x y = 0 then cmpL (a.drop (k + 1)) (b.drop (k + 1)) else cmpI x y := by
  rw [cmp_step ha hb]
  rcases Int.lt_trichotomy x y with h | h | h
  · have e : cmpI x y = -1 := by unfold cmpI; rw [if_pos h]
    rw [e, if_pos h, if_neg (by decide)]
  · have e : cmpI x y = 0 := by unfold cmpI; rw [if_neg (by omega), if_neg (by omega)]
    rw [e, if_pos rfl, if_neg (by omega), if_neg (by omega)]
  · have e : cmpI x y = 1 := by unfold cmpI; rw [if_neg (by omega), if_pos h]
    rw [e, if_neg (by omega), if_pos h, if_neg (by decide)]
set_option maxHeartbeats 1000000 in
set_option maxRecDepth 100000 in
theorem c_Cmp (A A' : Option Addr) (c c' n n' : Nat) (a b : List Int) (w : World) (hn : a.length = n) (hn' : b.length = n') (hl : n ≤ 1048576) (hl' : n' ≤ 1048576) (ha : Rd w A (ints a)) (hb : Rd w A' (ints b)) :
    Calls Try.prog 110 #[.slice A n c, .slice A' n' c'] w fun e w' => e = .returned (.int .i64 (cmpL a b)) ∧ w = w' := by
  have HN := Lib.hid hn
  have HN' := Lib.hid hn'
  have HA := Lib.hid ha
  have HB := Lib.hid hb
  have HC := Lib.hid (show cmpL a b = cmpL (a.drop 0) (b.drop 0) from rfl)
  clear hn hn' ha hb
  generalize cmpL a b = C at *
  go_enter Try.func110, Try.ntmps110
  go_wp2
  go_loop [11] (fun i => ∃ k : Nat, k ≤ n ∧ k ≤ n' ∧ i = .int .i64 k ∧ Hid (C = cmpL (a.drop k) (b.drop k))) (fun i => n - (intOf i).toNat)
  case atStart => exact ⟨0, Nat.zero_le _, Nat.zero_le _, rfl, HC⟩
  case round =>
    obtain ⟨k, hk, hk', rfl, hc⟩ := hrel
    by_cases hlt : k < n
    · obtain ⟨x, hx⟩ : ∃ z, a[k]? = some z := ⟨_, List.getElem?_eq_getElem (by have := HN.out; omega)⟩
      obtain ⟨b1, o1, rfl, _, g0⟩ := HA.out.int hx
      by_cases hlt' : k < n'
      · obtain ⟨y, hy⟩ : ∃ z, b[k]? = some z := ⟨_, List.getElem?_eq_getElem (by have := HN'.out; omega)⟩
        have HS := Lib.hid (hc.out.trans (cmp_step2 hx hy))
        obtain ⟨b2, o2, rfl, _, g1⟩ := HB.out.int hy
        have hq : ¬ (n' : Int) ≤ (k : Int) := by omega
        have hq2 : ¬ n' ≤ k := by omega
        clear hx hy hc HA HB
        generalize hci : cmpI x y = ci at HS
        have HCI := Lib.hid hci
        clear hci
        by_cases h0 : ci = 0
        · subst h0
          have HE := Lib.hid (HS.out.trans (if_pos rfl))
          clear HS
          go_wp2_with (first
            | (go_at_call 124
               refine (c_cmpI _ _ _).mono ?_
               rintro e w' ⟨rfl, rfl⟩
               rw [HCI.out]))
          go_round
          case rel => exact ⟨k + 1, by omega, by omega, by go_num, HE⟩
          case measure => simp [intOf]; omega
        · have e := HS.out.trans (if_neg h0)
          subst e
          have h0b : (C == 0) = false := by simpa using h0
          clear HS
          go_wp2_with (first
            | (go_at_call 124
               refine (c_cmpI _ _ _).mono ?_
               rintro e w' ⟨rfl, rfl⟩
               rw [HCI.out]))
          go_ret
          exact ⟨rfl, rfl⟩
      · have hkn : k = n' := by omega
        have HE := Lib.hid (show C = 1 by
          rw [hc.out, List.drop_eq_nil_of_le (by have := HN'.out; omega : b.length ≤ k)]
          obtain ⟨h1, _⟩ := List.getElem?_eq_some_iff.1 hx
          rw [List.drop_eq_getElem_cons h1]
          rfl)
        have e := HE.out
        subst e
        subst hkn
        clear hc HC HE hx
        go_wp2
        go_ret
        exact ⟨rfl, rfl⟩
    · have hkn : k = n := by omega
      by_cases hlt' : k < n'
      · have HE := Lib.hid (show C = -1 by
          rw [hc.out, List.drop_eq_nil_of_le (by have := HN.out; omega : a.length ≤ k)]
          rw [List.drop_eq_getElem_cons (by have := HN'.out; omega : k < b.length)]
          rfl)
        have e := HE.out
        subst e
        subst hkn
        have hlti : (k : Int) < (n' : Int) := by omega
        clear hc HC HE
        go_wp2
        go_ret
        exact ⟨rfl, rfl⟩
      · have HE := Lib.hid (show C = 0 by
          rw [hc.out, List.drop_eq_nil_of_le (by have := HN.out; omega : a.length ≤ k), List.drop_eq_nil_of_le (by have := HN'.out; omega : b.length ≤ k)]
          rfl)
        have e := HE.out
        subst e
        subst hkn
        have hlti : ¬ (k : Int) < (n' : Int) := by omega
        clear hc HC HE
        go_wp2
        go_ret
        exact ⟨rfl, rfl⟩
end Go.Proofs.Ytaloheljfefdeaa

/- slices.SortFunc over a list of lists of the call's own: the same slice owns a sorted permutation. Condition: the lengths are bounded. -/
namespace Go.Proofs.Ytaloheljfefdeaa
open Go.RowKit

theorem grownBy_sortWorld {α : Type} [Inhabited α] {enc : α → Value} {w : World} {g n : Nat} {os : Array Obj} (d : Array α) : w.grownBy (Go.Proofs.sortWorld enc w g 0 n d os) (some g) := by
  unfold Go.Proofs.sortWorld
  refine ⟨rfl, rfl, rfl, by simp [Go.Sort.putRow, Go.Sort.mapBlock, Go.Sort.ahead, Go.Sort.grow], fun k hk hne => ?_⟩
  rw [Go.Sort.heap_grow_old _ _ (by simpa [Go.Sort.putRow, Go.Sort.mapBlock, Go.Sort.ahead] using hk)]
  have : g ≠ k := fun e => hne (by rw [e])
  simp [Go.Sort.putRow, Go.Sort.mapBlock, Go.Sort.ahead, Array.getElem?_modify, this]
theorem grownBy_grow (w : World) (os : Array Obj) : w.grownBy (Go.Sort.grow w os) none := by
  refine ⟨rfl, rfl, rfl, by simp [Go.Sort.grow], fun k hk _ => ?_⟩
  rw [Go.Sort.heap_grow_old _ _ hk]
theorem swoL {α : Type} (f : α → List Int) : Go.Sort.SWO (Go.Proofs.ltOf fun x y : α => cmpL (f x) (f y)) where
  irrefl x := ltL_irr (f x)
  trans x y z h1 h2 := ltL_trans (a := f x) (b := f y) (c := f z) h1 h2
  ntrans x y z h1 h2 := by
    have h1' : ltL (f x) (f y) = false := h1
    have h2' : ltL (f y) (f z) = false := h2
    show ltL (f x) (f z) = false
    rcases h : ltL (f x) (f z) with _ | _
    · rfl
    · rcases ltL_tri (f x) (f y) with g | g | g
      · rw [g] at h1'; cases h1'
      · rw [g, h2'] at h; cases h
      · have := ltL_trans g h
        rw [this] at h2'; cases h2'
/-- In order, equals allowed. -/
def AscW (L : List (List Int)) : Prop := L.Pairwise fun a b => ltL b a = false
set_option maxHeartbeats 1000000 in
set_option maxRecDepth 100000 in
theorem c_SortS (base hi : Nat) (A : Option Addr) (n c : Nat) (L : List (List Int)) (w : World) (hn : n = L.length) (hs : n ≤ 1048577) (hl : ∀ l ∈ L, l.length ≤ 1048576) (ho : OwnS w base hi (.slice A n c) L) (hb : base ≤ w.heap.size) :
    Calls Try.prog 109 #[.slice A n c, .func (.func 110) #[] #[]] w fun e w' => e = .returned (.tuple #[]) ∧ ∃ L', L'.Perm L ∧ AscW L' ∧ OwnS w' base hi (.slice A n c) L' ∧ w.grownBy w' (Value.slice A n c).ownBlock := by
  subst hn
  rcases Nat.eq_zero_or_pos L.length with h0 | h0
  · have hz : L = [] := List.eq_nil_of_length_eq_zero h0
    subst hz
    have hcon := Go.Proofs.AnyF.slices_SortFunc_none (P := Try.prog) (ρ := sortL_ren) { sortL with } A c (.func (.func 110) #[] #[]) w
    change Calls Try.prog 109 _ _ _ at hcon
    refine hcon.mono ?_
    rintro e w' ⟨rfl, rfl⟩
    exact ⟨rfl, [], List.Perm.refl _, List.Pairwise.nil, ho, World.grownBy.refl _ _⟩
  obtain ⟨ds, hds, h1, h2, h3⟩ := ho
  have hlen : ds.length = L.length := by rw [← hds]; simp
  obtain ⟨g, rfl⟩ : ∃ g, A = some ⟨g, 0, none⟩ := by
    rcases h1.2 with ⟨e, e2⟩ | ⟨g, cap, cur, e, _⟩
    · omega
    · injection e with e _ _
      exact ⟨g, e⟩
  obtain ⟨d0, hd0⟩ : ∃ d0, d0 ∈ ds := by
    cases ds with
    | nil => simp at hlen; omega
    | cons d t => exact ⟨d, by simp⟩
  let p : IvD → Prop := fun d => d.l.length ≤ 1048576 ∧ w.ownsRow base 2 1 d.v d.l.length (ints d.l) ∧ ∀ q, d.v.ownBlock = some q → q < hi
  have hp : ∀ d ∈ ds, p d := fun d hd => ⟨hl d.l (by rw [← hds]; exact List.mem_map_of_mem hd), h2 d hd⟩
  haveI : Inhabited {d // p d} := ⟨⟨d0, hp d0 hd0⟩⟩
  obtain ⟨zs, hzs⟩ : ∃ zs : List {d // p d}, zs.map Subtype.val = ds := ⟨ds.attachWith p hp, by simp⟩
  let enc : {d // p d} → Value := fun x => x.1.v
  have hze : zs.map enc = rowsC ds := by rw [← hzs]; simp [enc, rowsC]
  have hzl : zs.length = L.length := by rw [← hlen, ← hzs]; simp
  rw [← hze] at h1
  obtain ⟨g', cap', ev, hbg, hgl, hnc, hcm, _, hH⟩ := Go.Lib.holds_of_ownsRow h1 (by simp)
  injection ev with ev1 _ ev3
  injection ev1 with ev1
  injection ev1 with ev1
  subst ev1
  subst ev3
  have hrows : ∀ w' : World, w.grownBy w' (some g) → ∀ x : {d // p d}, w'.ownsRow base 2 1 x.1.v x.1.l.length (ints x.1.l) := fun w' hg x => own_keep x.2.2.1 h1 (by decide) hg
  have hcmp : Go.Proofs.CmpReads Try.prog 110 #[] enc (fun x y => cmpL x.1.l y.1.l) g 0 zs.toArray.size w := by
    intro m os dk hdk x y
    have rx := hrows _ (grownBy_sortWorld (n := m) (os := os) (enc := enc) dk) x
    have ry := hrows _ (grownBy_sortWorld (n := m) (os := os) (enc := enc) dk) y
    refine (c_Cmp x.1.a y.1.a x.1.c y.1.c _ _ x.1.l y.1.l _ rfl rfl x.2.1 y.2.1 (Rd.own rx) (Rd.own ry)).mono ?_
    rintro e w' ⟨rfl, rfl⟩
    exact ⟨rfl, 0, rfl⟩
  have hcon := Go.Proofs.Any.slices_SortFunc (P := Try.prog) (ρ := sortL_ren) sortL enc (fun _ => rfl) (fun x y => cmpL x.1.l y.1.l) (swoL fun x : {d // p d} => x.1.l) 110 #[] g 0 c zs.toArray w (enters_of Try.func110 (by kernel_rfl) rfl) hcmp.lays hH hgl (by simp; omega)
  rw [show zs.toArray.size = L.length by simpa using hzl] at hcon
  change Calls Try.prog 109 _ _ _ at hcon
  refine hcon.mono ?_
  rintro e w' ⟨rfl, d', q, os, hP, hS, rfl⟩
  have hsz : d'.size = L.length := by rw [hP.1]; simpa using hzl
  have hperm : d'.toList.Perm zs := by
    have := hP.2.2
    rw [show L.length = d'.size from hsz.symm] at this
    have e2 : zs.toArray.extract 0 d'.size = zs.toArray := by rw [hsz, ← hzl]; simp
    rw [e2] at this
    simpa using this
  have hp1 : (d'.toList.map Subtype.val).Perm ds := by rw [← hzs]; exact hperm.map _
  refine ⟨rfl, (d'.toList.map Subtype.val).map IvD.l, by rw [← hds]; exact hp1.map _, ?_, ⟨d'.toList.map Subtype.val, rfl, ?_, ?_, ?_⟩, grownBy_sortWorld d'⟩
  · unfold AscW
    rw [List.map_map, List.pairwise_map, List.pairwise_iff_getElem]
    intro i j hi' hj' hij
    have := hS i j (Nat.zero_le _) hij (by rw [← hsz]; simpa using hj')
    rw [getElem!_pos _ _ (by simpa using hj'), getElem!_pos _ _ (by simpa using hi')] at this
    exact this
  · have h4 := Go.Lib.ownsRow_putRow (q := q) (k := L.length) (ys := d'.toList) h1 (by simpa using hsz) (Nat.le_refl _)
    have h5 : (Go.Proofs.sortWorld enc w g 0 q d' os).ownsRow base 24 1 (.slice (some ⟨g, 0, none⟩) L.length c) L.length ((d'.toList.take L.length).map enc) := h4.kept (grownBy_grow _ os) (by simp [Value.ownBlock])
    have e3 : (d'.toList.take L.length).map enc = rowsC (d'.toList.map Subtype.val) := by
      rw [List.take_of_length_le (by simp; omega)]
      simp [rowsC, enc]
    rw [e3] at h5
    simpa [hsz] using h5
  · intro d hd
    obtain ⟨x, hx, rfl⟩ := List.mem_map.1 hd
    exact ⟨hrows _ (grownBy_sortWorld d') x, x.2.2.2⟩
  · exact (hp1.pairwise_iff (by intro a b hab q hq hq2; exact hab q hq2 hq)).2 h3
end Go.Proofs.Ytaloheljfefdeaa
