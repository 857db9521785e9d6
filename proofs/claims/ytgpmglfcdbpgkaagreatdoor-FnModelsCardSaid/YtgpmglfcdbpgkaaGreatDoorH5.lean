/- Contracts and helpers (joined texts, part 5). The conditions stand at each theorem. -/
import Derived.Test.YtgpmglfcdbpgkaaGreatDoorH4
import Derived.Test.YtgpmglfcdbpgkaaGreatDoorH3
import Derived.Deep.Cut
import Derived.Deep.CutRange
import Derived.Deep.CutBlock
import Derived.Laws.AppendOwnNone
/- l20DrawValid. Condition: none but the source. -/
namespace Go.Proofs.YtgpmglfcdbpgkaaGreatDoor
open Go.RowKit

set_option maxHeartbeats 2000000 in
set_option maxRecDepth 100000 in
theorem c_l20DrawValid (B : Nat) (w : World) (h : Src w B) : Calls Tryz.prog 81 #[.pointer (some ⟨B, 0, none⟩)] w (DrMd B 1 4 8 100 w) := by
  have hBl := h.lt
  have HD := Lib.hid ((((DW.start h).alloc hBl (.cells #[.slice none 0 0, .slice none 0 0, .slice none 0 0] 25)).alloc hBl (.cells #[] 2)).alloc hBl (.cells #[] 2))
  have HBX : Hid (MBox (((w.alloc (.cells #[.slice none 0 0, .slice none 0 0, .slice none 0 0] 25)).alloc (.cells #[] 2)).alloc (.cells #[] 2)) w.heap.size w.heap.size (.slice none 0 0) (.slice none 0 0) (.slice none 0 0)) :=
    Lib.hid (own_below (own_below (mbox_new (w := w) _ _ _) (below_alloc (Below.refl _ _) _)) (below_alloc (Below.refl _ _) _))
  have HT : Hid ((((w.alloc (.cells #[.slice none 0 0, .slice none 0 0, .slice none 0 0] 25)).alloc (.cells #[] 2)).alloc (.cells #[] 2)).ownsRow (w.heap.size + 1) 2 1 (.slice (some ⟨w.heap.size + 1, 0, none⟩) 0 0) 0 (ints [])) := Lib.hid (own_below (by
    have := World.ownsRow_made (e := 2) (size := 1) (base := w.heap.size + 1) (w.alloc (.cells #[.slice none 0 0, .slice none 0 0, .slice none 0 0] 25)) #[] 0 (by simp) (Nat.zero_le _) rfl
    simpa [ints] using this) (below_alloc (Below.refl _ _) _))
  have HT2 : Hid ((((w.alloc (.cells #[.slice none 0 0, .slice none 0 0, .slice none 0 0] 25)).alloc (.cells #[] 2)).alloc (.cells #[] 2)).ownsRow (w.heap.size + 1) 2 1 (.slice (some ⟨w.heap.size + 1 + 1, 0, none⟩) 0 0) 0 (ints [])) := Lib.hid (by
    have := World.ownsRow_made (e := 2) (size := 1) (base := w.heap.size + 1) ((w.alloc (.cells #[.slice none 0 0, .slice none 0 0, .slice none 0 0] 25)).alloc (.cells #[] 2)) #[] 0 (by simp) (Nat.zero_le _) rfl
    simpa [ints] using this)
  clear h
  go_enter Tryz.func81, Tryz.ntmps81
  go_wp2_with (fail)
  refine (c_NextD B _ _ HD.out.s (by omega)).mono ?_
  rintro e w1 ⟨r, rfl, hr0, hr1, _, hd⟩
  have hrm := hr1 (by omega)
  obtain ⟨j, rfl⟩ : ∃ j : Nat, r = j := ⟨r.toNat, by omega⟩
  have HD1 := Lib.hid (HD.out.then_ hd)
  have HBX1 : Hid (MBox w1 w.heap.size w.heap.size (.slice none 0 0) (.slice none 0 0) (.slice none 0 0)) := Lib.hid (hd.own HBX.out hBl)
  have HTa := Lib.hid (hd.own HT.out (by omega))
  have HTb := Lib.hid (hd.own HT2.out (by omega))
  clear hd hr0 hr1 HD HBX HT HT2
  go_wp2
  go_loopw [3, 4, 5] (fun v u i wr => ∃ (j k : Nat) (zs ss : List Int), j + k ≤ 4 ∧ 1 ≤ j + k ∧ i = .int .i64 j ∧ Hid (zs.length = k) ∧ Hid (ss.length = k) ∧ Hid (∀ z ∈ zs, z ≤ 4) ∧ Hid (wr.ownsRow (w.heap.size + 1) 2 1 v k (ints zs)) ∧ Hid (wr.ownsRow (w.heap.size + 1) 2 1 u k (ints ss)) ∧ Hid (∀ q, v.ownBlock = some q → u.ownBlock ≠ some q) ∧ Hid (MBox wr w.heap.size w.heap.size (.slice none 0 0) (.slice none 0 0) (.slice none 0 0)) ∧ Hid (DW B w wr)) (fun _ _ i _ => (intOf i).toNat)
  case atStart => exact ⟨j + 1, 0, [], [], by omega, by omega, by go_num, Lib.hid rfl, Lib.hid rfl, Lib.hid (by simp), HTa, HTb, Lib.hid (fun q hq hq2 => by simp [Value.ownBlock] at hq hq2; omega), HBX1, HD1⟩
  case round =>
    clear HTa HTb HBX1 HD1 hrm
    obtain ⟨j, k, zs, ss, hjk, hjk1, rfl, hzs, hss, hz4, hv, hu, hsep, hbx, hd⟩ := hrel
    by_cases hj0 : 0 < j
    · obtain ⟨j, rfl⟩ : ∃ j', j = j' + 1 := ⟨j - 1, by omega⟩
      have hji : (0 : Int) < ((j + 1 : Nat) : Int) := by omega
      have hji2 : (0 : Int) < (j : Int) + 1 := by omega
      go_wp2_with (fail)
      refine (c_NextD B _ _ hd.out.s (by omega)).mono ?_
      rintro e w2 ⟨x, rfl, hx0, hx1, _, hd2⟩
      have hxm := hx1 (by omega)
      have HD2 := Lib.hid (hd.out.then_ hd2)
      have HV2 := Lib.hid (hd2.own hv.out (by omega))
      have HU2 := Lib.hid (hd2.own hu.out (by omega))
      have HX2 : Hid (MBox w2 w.heap.size w.heap.size (.slice none 0 0) (.slice none 0 0) (.slice none 0 0)) := Lib.hid (hd2.own hbx.out hBl)
      have hsz2 := (HX2.out).c.2.2.2.2.2.2.2
      clear hd2 hv hu hbx hd hx1
      have hwx : IntKind.i64.wrap (1 + x) = 1 + x := IntWalk.i64_in _ (by omega)
      go_wp2_with (first
        | (at_builtin
           refine wpList_push_int _ (by rfl) (.tmp 24) (.tmp 26) (by rfl) (w.heap.size + 1) _ k zs (1 + x) w2.heap.size 1 (by rfl) (own_below HV2.out (below_alloc (Below.refl _ _) _)) (by rfl) (by go_simp) (by omega) (by simp; omega) ?_
           intro v1 w3 hown1 hgrow _ hnew
           have HW1 := Lib.hid hown1
           have HG3 := Lib.hid hgrow
           have HNW := Lib.hid hnew
           clear hown1 hgrow hnew)
        )
      have hgv := fun q hq => (HV2.out.lt q hq).1
      have HD3 := Lib.hid ((HD2.out.alloc hBl (.cells #[.int .i64 (1 + x)] 2)).far hBl HG3.out (fun q hq => by have := hgv q hq; omega))
      have HU2a := own_below HU2.out (below_alloc (Below.refl _ _) (.cells #[.int .i64 (1 + x)] 2))
      have HSEP3 := Lib.hid (sep_new hsep.out HNW.out HU2a)
      have HU3 := Lib.hid (kept_ne HU2a HG3.out (fun q hq e => hsep.out q e hq))
      have HX3 : Hid (MBox w3 w.heap.size w.heap.size (.slice none 0 0) (.slice none 0 0) (.slice none 0 0)) := Lib.hid (MBox.kept (own_below HX2.out (below_alloc (Below.refl _ _) _)) HG3.out (fun q hq => by have := hgv q hq; omega))
      clear hgv HU2a HNW HG3 HX2 HU2 HD2 hsep hsz2 HV2
      go_wp2_with (fail)
      refine (c_NextD B _ _ HD3.out.s (by omega)).mono ?_
      rintro e w4 ⟨y, rfl, _, _, _, hd4⟩
      have HD4 := Lib.hid (HD3.out.then_ hd4)
      have HV4 := Lib.hid (hd4.own HW1.out (by omega))
      have HU4 := Lib.hid (hd4.own HU3.out (by omega))
      have HX4 : Hid (MBox w4 w.heap.size w.heap.size (.slice none 0 0) (.slice none 0 0) (.slice none 0 0)) := Lib.hid (hd4.own HX3.out hBl)
      have hsz4 := (HX4.out).c.2.2.2.2.2.2.2
      clear hd4 HD3 HW1 HU3 HX3
      go_wp2_with (first
        | (at_builtin
           refine wpList_push_int _ (by rfl) (.tmp 28) (.tmp 32) (by rfl) (w.heap.size + 1) _ k ss y w4.heap.size 1 (by rfl) (own_below HU4.out (below_alloc (Below.refl _ _) _)) (by rfl) (by go_simp) (by omega) (by simp; omega) ?_
           intro u1 w5 hown1 hgrow _ hnew
           have HW5 := Lib.hid hown1
           have HG5 := Lib.hid hgrow
           have HNW := Lib.hid hnew
           clear hown1 hgrow hnew)
        )
      go_roundw
      case rel =>
        have hgu := fun q hq => (HU4.out.lt q hq).1
        have HV4a := own_below HV4.out (below_alloc (Below.refl _ _) (.cells #[.int .i64 y] 2))
        exact ⟨j, k + 1, _, _, by omega, by omega, by go_num, Lib.hid (by rw [List.length_append, hzs.out]; rfl), Lib.hid (by rw [List.length_append, hss.out]; rfl), Lib.hid (fun z hz => by
          rcases List.mem_append.1 hz with hz | hz
          · exact hz4.out z hz
          · rw [List.mem_singleton] at hz; omega), Lib.hid (kept_ne HV4a HG5.out (fun q hq e => HSEP3.out q hq e)), HW5, Lib.hid (sep_new2 HSEP3.out HNW.out HV4a), Lib.hid (MBox.kept (own_below HX4.out (below_alloc (Below.refl _ _) _)) HG5.out (fun q hq => by have := hgu q hq; omega)), Lib.hid ((HD4.out.alloc hBl _).far hBl HG5.out (fun q hq => by have := hgu q hq; omega))⟩
      case measure => simp [intOf] <;> omega
    · have hj1 : j = 0 := by omega
      subst hj1
      obtain ⟨az, cz, hv2⟩ := own_shape hv.out
      subst hv2
      obtain ⟨ax, cs, hv2⟩ := own_shape hu.out
      subst hv2
      have hk1 : 1 ≤ k := by omega
      have hk4 : k ≤ 4 := by omega
      go_wp2_with (fail)
      obtain ⟨wa, rfl⟩ : ∃ wa, wa = wr := ⟨_, rfl⟩
      have hsza := (hbx.out).c.2.2.2.2.2.2.2
      have hBa : B < wa.heap.size := by omega
      have HDa : Hid (DW B wa ((wa.alloc (Obj.cells #[Value.slice az k cz, Value.slice ax k cs, Value.slice none 0 0] 25)).alloc (Obj.cells #[] 45))) := Lib.hid (((DW.start hd.out.s).alloc hBa _).alloc hBa _)
      have HMa : Hid (MBox ((wa.alloc (Obj.cells #[Value.slice az k cz, Value.slice ax k cs, Value.slice none 0 0] 25)).alloc (Obj.cells #[] 45)) wa.heap.size wa.heap.size (Value.slice az k cz) (Value.slice ax k cs) (Value.slice none 0 0)) := Lib.hid (own_below (mbox_new _ _ _) (below_alloc (Below.refl _ _) _))
      have HRa : Hid (((wa.alloc (Obj.cells #[Value.slice az k cz, Value.slice ax k cs, Value.slice none 0 0] 25)).alloc (Obj.cells #[] 45)).ownsRow (wa.heap.size + 1) 45 3 (.slice (some ⟨wa.heap.size + 1, 0, none⟩) 0 0) 0 (rudCells [])) := Lib.hid (by
        have := World.ownsRow_made (e := 45) (size := 3) (base := wa.heap.size + 1) (wa.alloc (Obj.cells #[Value.slice az k cz, Value.slice ax k cs, Value.slice none 0 0] 25)) #[] 0 (by simp) (Nat.zero_le _) rfl
        simpa [rudCells] using this)
      refine (c_NextD B _ _ HDa.out.s (by omega)).mono ?_
      rintro e w6 ⟨r, rfl, hr0, hr1, _, hd6⟩
      have hrm := hr1 (by omega)
      obtain ⟨jj, rfl⟩ : ∃ jj : Nat, r = jj := ⟨r.toNat, by omega⟩
      have hjj : jj ≤ 8 := by omega
      have HD6 := Lib.hid (HDa.out.then_ hd6)
      have HM6 : Hid (MBox w6 wa.heap.size wa.heap.size (Value.slice az k cz) (Value.slice ax k cs) (Value.slice none 0 0)) := Lib.hid (hd6.own HMa.out hBa)
      have HR6 := Lib.hid (hd6.own HRa.out (by omega))
      clear hd6 hr0 hr1 hrm HDa HMa HRa
      go_wp2
      go_loopw [8, 9] (fun v i wr => ∃ (j k2 : Nat) (ds : List RuD), j + k2 ≤ 8 ∧ i = .int .i64 j ∧ Hid (ds.length = k2) ∧ Hid (wr.ownsRow (wa.heap.size + 1) 45 3 v k2 (rudCells ds)) ∧ Hid (∀ d ∈ ds, Nest wr (wa.heap.size + 1) d ∧ d.r.gs.length ≤ 100 ∧ d.r.es.length ≤ 100 ∧ d.r.nm.size ≤ 100) ∧ Hid (MBox wr wa.heap.size wa.heap.size (Value.slice az k cz) (Value.slice ax k cs) (Value.slice none 0 0)) ∧ Hid (DW B wa wr)) (fun _ i _ => (intOf i).toNat)
      case atStart => exact ⟨jj, 0, [], by omega, rfl, Lib.hid rfl, HR6, Lib.hid (by simp), HM6, HD6⟩
      case round =>
        clear HR6 HM6 HD6 hjj
        obtain ⟨j, k2, ds, hjk, rfl, hds, hr, hnest, hmb, hdw⟩ := hrel
        obtain ⟨wb, rfl⟩ : ∃ wb, wb = wr := ⟨_, rfl⟩
        have hszb := (hmb.out).c.2.2.2.2.2.2.2
        have hBb : B < wb.heap.size := by omega
        by_cases hj0 : 0 < j
        · have hji : (0 : Int) < (j : Int) := by omega
          have HDb : Hid (DW B wb (wb.alloc (Obj.cells #[] 47))) := Lib.hid ((DW.start hdw.out.s).alloc hBb _)
          have HEb : Hid ((wb.alloc (Obj.cells #[] 47)).ownsRow wb.heap.size 47 2 (.slice (some ⟨wb.heap.size, 0, none⟩) 0 0) 0 (asgCells [])) := Lib.hid (by
            have := World.ownsRow_made (e := 47) (size := 2) (base := wb.heap.size) wb #[] 0 (by simp) (Nat.zero_le _) rfl
            simpa [asgCells] using this)
          go_wp2
          go_loopw [10, 11] (fun v i wr => ∃ (q k3 : Nat) (es : List Asg), q ≤ k ∧ k3 ≤ 4 ∧ i = .int .i64 q ∧ Hid (es.length = k3) ∧ Hid (wr.ownsRow wb.heap.size 47 2 v k3 (asgCells es)) ∧ Hid (DW B wb wr)) (fun _ i _ => k - (intOf i).toNat)
          case atStart => exact ⟨0, 0, [], Nat.zero_le _, Nat.zero_le _, rfl, Lib.hid rfl, HEb, HDb⟩
          case round =>
            clear HEb HDb
            obtain ⟨q, k3, es, hq, hk3, rfl, hes, he, hdy⟩ := hrel
            obtain ⟨A10, c10, hv2⟩ := own_shape he.out
            subst hv2
            by_cases hqk : q < k
            · have hqi : (q : Int) < (k : Int) := by omega
              have hq0 : (0 : Int) ≤ (q : Int) := by omega
              go_wp2_with (fail)
              refine (c_NextD B _ _ hdy.out.s (by omega)).mono ?_
              rintro e w8 ⟨x, rfl, _, _, _, hd8⟩
              have HD8 := Lib.hid (hdy.out.then_ hd8)
              have HE8 := Lib.hid (hd8.own he.out (by omega))
              clear hd8 he hdy
              by_cases hx0 : x = 0
              · subst hx0
                by_cases hk34 : k3 < 4
                · have hk3i : (k3 : Int) < 4 := by omega
                  obtain ⟨z, hz⟩ : ∃ z, zs[q]? = some z := ⟨_, List.getElem?_eq_getElem (by have := hzs.out; omega)⟩
                  obtain ⟨zb, zo, hze, _, z0⟩ := (Rd.own (HD8.out.own (hdw.out.own hv.out (by omega)) (by omega))).int hz
                  have hzz := hz4.out z (List.mem_of_getElem? hz)
                  clear hz
                  subst hze
                  go_wp2_with (fail)
                  refine (c_NextD B _ _ HD8.out.s (by omega)).mono ?_
                  rintro e w9 ⟨y, rfl, _, _, _, hd9⟩
                  have HD9 := Lib.hid (HD8.out.then_ hd9)
                  have HE9 := Lib.hid (hd9.own HE8.out (by omega))
                  have hsz9 := HD9.out.g.size
                  clear hd9 HD8 HE8 z0
                  go_wp2_with (first
                    | (at_builtin
                       refine wpList_push_asg _ (by rfl) (.tmp 59) (.tmp 68) (by rfl) wb.heap.size _ k3 es ⟨(q : Int), y⟩ w9.heap.size 1 (by rfl) (own_below HE9.out (below_alloc (Below.refl _ _) _)) (by rfl) (by go_simp) (by go_simp) (by omega) (by simp; omega) ?_
                       intro v1 wc hown1 hgrow
                       have HWc := Lib.hid hown1
                       have HGc := Lib.hid hgrow
                       clear hown1 hgrow)
                    )
                  go_roundw
                  case rel => exact ⟨q + 1, k3 + 1, _, by omega, by omega, by go_num, Lib.hid (by rw [List.length_append, hes.out]; rfl), HWc, Lib.hid ((HD9.out.alloc hBb _).far hBb HGc.out (fun q hq => (HE9.out.lt q hq).1))⟩
                  case measure => simp [intOf] <;> omega
                · have hk3i : ¬ (k3 : Int) < 4 := by omega
                  go_wp2
                  go_roundw
                  case rel => exact ⟨q + 1, k3, es, by omega, hk3, by go_num, hes, HE8, HD8⟩
                  case measure => simp [intOf] <;> omega
              · have hx0b : (x == 0) = false := by simpa using hx0
                go_wp2
                go_roundw
                case rel => exact ⟨q + 1, k3, es, by omega, hk3, by go_num, hes, HE8, HD8⟩
                case measure => simp [intOf] <;> omega
            · have hqk2 : q = k := by omega
              subst hqk2
              obtain ⟨wy, rfl⟩ : ∃ wy, wy = wr := ⟨_, rfl⟩
              have HDy := Lib.hid hdy.out
              have HEy := Lib.hid he.out
              have hszy := HDy.out.g.size
              have hBy : B < wy.heap.size := by omega
              obtain ⟨m0, m1, m2, _, _, _, _, hmlt⟩ := MBox.c (HDy.out.own hmb.out (by omega))
              clear he hdy
              have HD0 := Lib.hid (DW.start HDy.out.s)
              go_wp2
              -- REGION
              refine wp_region_heldE 13 (S := (fun w' => w'.cell? ⟨wa.heap.size, 0, none⟩ = some (Value.slice az q cz) ∧ w'.cell? ⟨wa.heap.size, 1, none⟩ = some (Value.slice ax q cs) ∧ w'.cell? ⟨wa.heap.size, 2, none⟩ = some (Value.slice none 0 0))) (by kernel_rfl) ?_ (fun hHeld => ?_)
              · exact ⟨m0, m1, m2⟩
              refine rgE_take (v := ?_) 0 12 rfl (by kernel_rfl) (by kernel_rfl) (by kernel_rfl) (by kernel_rfl) (by kernel_rfl) (fun _ _ _ h => h) (by kernel_rfl) ?_ (by assumption) ?_
              rotate_left
              · (intro w' hSw; (try dsimp only at hSw); go_simp; first | done | with_reducible rfl)
              simp only [Act.put, List.setIfInBounds_toArray, List.set_cons_zero, List.set_cons_succ]
              refine rgE_take (v := ?_) 2 12 rfl (by kernel_rfl) (by kernel_rfl) (by kernel_rfl) (by kernel_rfl) (by kernel_rfl) (fun _ _ _ h => h) (by kernel_rfl) ?_ (by assumption) ?_
              rotate_left
              · (intro w' hSw; (try dsimp only at hSw); go_simp; first | done | with_reducible rfl)
              simp only [Act.put, List.setIfInBounds_toArray, List.set_cons_zero, List.set_cons_succ]
              refine rgE_take (v := ?_) 6 12 rfl (by kernel_rfl) (by kernel_rfl) (by kernel_rfl) (by kernel_rfl) (by kernel_rfl) (fun _ _ _ h => h) (by kernel_rfl) ?_ (by assumption) ?_
              rotate_left
              · (intro w' hSw; (try dsimp only at hSw); go_simp; first | done | with_reducible rfl)
              simp only [Act.put, List.setIfInBounds_toArray, List.set_cons_zero, List.set_cons_succ]
              refine rgE_take (v := ?_) 7 12 rfl (by kernel_rfl) (by kernel_rfl) (by kernel_rfl) (by kernel_rfl) (by kernel_rfl) (fun _ _ _ h => h) (by kernel_rfl) ?_ (by assumption) ?_
              rotate_left
              · (intro w' hSw; (try dsimp only at hSw); go_simp; first | done | with_reducible rfl)
              simp only [Act.put, List.setIfInBounds_toArray, List.set_cons_zero, List.set_cons_succ]
              refine rgE_take (v := ?_) 9 12 rfl (by kernel_rfl) (by kernel_rfl) (by kernel_rfl) (by kernel_rfl) (by kernel_rfl) (fun _ _ _ h => h) (by kernel_rfl) ?_ (by assumption) ?_
              rotate_left
              · (intro w' hSw; (try dsimp only at hSw); go_simp; first | done | with_reducible rfl)
              simp only [Act.put, List.setIfInBounds_toArray, List.set_cons_zero, List.set_cons_succ]
              refine rgE_two 1 3 rfl rfl (by kernel_rfl) (by kernel_rfl) (by kernel_rfl) (by decide) (by decide) (fun K hK => ?_) (fun K hK => ?_)
              · skip
                go_simp
                replace m0 := cell_later (below_alloc (Below.refl _ wy) (Obj.cells #[Value.string ⟨#[103, 111]⟩, Value.string ⟨#[115, 116, 111, 112, 95, 49]⟩, Value.string ⟨#[111, 112, 101, 110]⟩, Value.string ⟨#[99, 108, 111, 115, 101]⟩, Value.string ⟨#[102, 97, 105, 108]⟩, Value.string ⟨#[114, 50]⟩] 9)) (by exact m0)
                replace m1 := cell_later (below_alloc (Below.refl _ wy) (Obj.cells #[Value.string ⟨#[103, 111]⟩, Value.string ⟨#[115, 116, 111, 112, 95, 49]⟩, Value.string ⟨#[111, 112, 101, 110]⟩, Value.string ⟨#[99, 108, 111, 115, 101]⟩, Value.string ⟨#[102, 97, 105, 108]⟩, Value.string ⟨#[114, 50]⟩] 9)) (by exact m1)
                replace m2 := cell_later (below_alloc (Below.refl _ wy) (Obj.cells #[Value.string ⟨#[103, 111]⟩, Value.string ⟨#[115, 116, 111, 112, 95, 49]⟩, Value.string ⟨#[111, 112, 101, 110]⟩, Value.string ⟨#[99, 108, 111, 115, 101]⟩, Value.string ⟨#[102, 97, 105, 108]⟩, Value.string ⟨#[114, 50]⟩] 9)) (by exact m2)
                have HSR := Lib.hid (strs6_at (w := wy))
                have HD1 : Hid (DW B wy (wy.alloc (Obj.cells #[Value.string ⟨#[103, 111]⟩, Value.string ⟨#[115, 116, 111, 112, 95, 49]⟩, Value.string ⟨#[111, 112, 101, 110]⟩, Value.string ⟨#[99, 108, 111, 115, 101]⟩, Value.string ⟨#[102, 97, 105, 108]⟩, Value.string ⟨#[114, 50]⟩] 9)).drew) := Lib.hid ((HD0.out.alloc hBy (Obj.cells #[Value.string ⟨#[103, 111]⟩, Value.string ⟨#[115, 116, 111, 112, 95, 49]⟩, Value.string ⟨#[111, 112, 101, 110]⟩, Value.string ⟨#[99, 108, 111, 115, 101]⟩, Value.string ⟨#[102, 97, 105, 108]⟩, Value.string ⟨#[114, 50]⟩] 9)).drew hBy)
                clear hHeld
                refine hK.out _ _ (.inr ⟨m0, m1, m2⟩) (fun hHeld => ?_)
                clear hK K
                try simp only [Act.put, List.setIfInBounds_toArray, List.set_cons_zero, List.set_cons_succ]
                refine rgE_run 3 rfl (by kernel_rfl) (by kernel_rfl) (by decide) (fun K hK => ?_)
                go_simp
                refine (c_NextD B _ _ HD1.out.s (by omega)).mono ?_
                rintro e x3 ⟨rr, rfl, hr0, hr1, _, hd⟩
                have hr7 := hr1 (by omega)
                obtain ⟨r, rfl⟩ : ∃ r : Nat, rr = r := ⟨rr.toNat, by omega⟩
                have hr6 : r < 6 := by omega
                have hr6i : (r : Int) < 6 := by omega
                have hr6j : (0 : Int) ≤ (r : Int) := by omega
                replace m0 := hd.cell (by exact m0) (by omega)
                replace m1 := hd.cell (by exact m1) (by omega)
                replace m2 := hd.cell (by exact m2) (by omega)
                obtain ⟨nm, hnm, g5⟩ := HSR.out r hr6
                replace g5 := hd.cell (by exact g5) (by omega)
                have HD3 := Lib.hid (HD1.out.then_ hd)
                clear hd hr0 hr1 hr7
                go_wp2
                clear hHeld
                refine hK.out _ _ (.inr ⟨m0, m1, m2⟩) (fun hHeld => ?_)
                clear hK K
                try simp only [Act.put, List.setIfInBounds_toArray, List.set_cons_zero, List.set_cons_succ]
                refine rgE_take (v := ?_) 4 12 rfl (by kernel_rfl) (by kernel_rfl) (by kernel_rfl) (by kernel_rfl) (by kernel_rfl) (fun _ _ _ h => h) (by kernel_rfl) ?_ (by assumption) ?_
                rotate_left
                · (intro w' hSw; (try dsimp only at hSw); go_simp; first | done | with_reducible rfl)
                simp only [Act.put, List.setIfInBounds_toArray, List.set_cons_zero, List.set_cons_succ]
                refine rgE_two 5 8 rfl rfl (by kernel_rfl) (by kernel_rfl) (by kernel_rfl) (by decide) (by decide) (fun K hK => ?_) (fun K hK => ?_)
                · skip
                  go_simp
                  clear hHeld
                  refine hK.out _ _ (.inr ⟨m0, m1, m2⟩) (fun hHeld => ?_)
                  clear hK K
                  try simp only [Act.put, List.setIfInBounds_toArray, List.set_cons_zero, List.set_cons_succ]
                  refine rgE_run 8 rfl (by kernel_rfl) (by kernel_rfl) (by decide) (fun K hK => ?_)
                  go_simp
                  refine (c_l20DrawTests B 2 (w.heap.size + 1) az ax none cz cs 0 q q 0 zs _ HD3.out.s (by omega) hzs.out hk1 (by omega) (fun z hz => by have := hz4.out z hz; omega) (by omega) (HD3.out.own (HDy.out.own (hdw.out.own hv.out (by omega)) (by omega)) (by omega))).mono ?_
                  rintro e x8 ⟨At, ct, tn, ts, rfl, htl, htn, hto, hd⟩
                  have HTO := Lib.hid (own_mono hto HD3.out.g.size)
                  have HTL := Lib.hid htl
                  replace m0 := hd.cell (by exact m0) (by omega)
                  replace m1 := hd.cell (by exact m1) (by omega)
                  replace m2 := hd.cell (by exact m2) (by omega)
                  replace g5 := hd.cell (by exact g5) (by have := HD3.out.s.lt; omega)
                  have HD8 := Lib.hid (HD3.out.then_ hd)
                  clear hd hto htl
                  go_wp2
                  clear hHeld
                  refine hK.out _ _ (.inr ⟨m0, m1, m2⟩) (fun hHeld => ?_)
                  clear hK K
                  try simp only [Act.put, List.setIfInBounds_toArray, List.set_cons_zero, List.set_cons_succ]
                  refine rgE_take (v := ?_) 10 12 rfl (by kernel_rfl) (by kernel_rfl) (by kernel_rfl) (by kernel_rfl) (by kernel_rfl) (fun _ _ _ h => h) (by kernel_rfl) ?_ (by assumption) ?_
                  rotate_left
                  · (intro w' hSw; (try dsimp only at hSw); go_simp; first | done | with_reducible rfl)
                  simp only [Act.put, List.setIfInBounds_toArray, List.set_cons_zero, List.set_cons_succ]
                  refine rgE_run 11 rfl (by kernel_rfl) (by kernel_rfl) (by decide) (fun K hK => ?_)
                  go_simp
                  replace m0 := cell_later (below_alloc (Below.refl _ x8) (Obj.cells #[Value.string nm, Value.slice At tn ct, Value.slice A10 k3 c10] 45)) (by exact m0)
                  replace m1 := cell_later (below_alloc (Below.refl _ x8) (Obj.cells #[Value.string nm, Value.slice At tn ct, Value.slice A10 k3 c10] 45)) (by exact m1)
                  replace m2 := cell_later (below_alloc (Below.refl _ x8) (Obj.cells #[Value.string nm, Value.slice At tn ct, Value.slice A10 k3 c10] 45)) (by exact m2)
                  have HDB : Hid (DW B wy (x8.alloc (Obj.cells #[Value.string nm, Value.slice At tn ct, Value.slice A10 k3 c10] 45))) := Lib.hid (HD8.out.alloc hBy (Obj.cells #[Value.string nm, Value.slice At tn ct, Value.slice A10 k3 c10] 45))
                  have HDB2 : Hid (DW B wb (x8.alloc (Obj.cells #[Value.string nm, Value.slice At tn ct, Value.slice A10 k3 c10] 45))) := Lib.hid (HDy.out.then_ HDB.out)
                  have HTB := Lib.hid (own_below HTO.out (below_alloc (Below.refl _ x8) (Obj.cells #[Value.string nm, Value.slice At tn ct, Value.slice A10 k3 c10] 45)))
                  have HEB := Lib.hid (HDB.out.own HEy.out (by omega))
                  have HRB := Lib.hid (HDB2.out.own hr.out (by omega))
                  have HMB : Hid (MBox (x8.alloc (Obj.cells #[Value.string nm, Value.slice At tn ct, Value.slice A10 k3 c10] 45)) wa.heap.size wa.heap.size (Value.slice az q cz) (Value.slice ax q cs) (Value.slice none 0 0)) := Lib.hid (HDB2.out.own hmb.out (by omega))
                  have HNB : Hid (∀ d ∈ ds, Nest (x8.alloc (Obj.cells #[Value.string nm, Value.slice At tn ct, Value.slice A10 k3 c10] 45)) (wa.heap.size + 1) d) := Lib.hid (fun d hd => ⟨HDB2.out.own (hnest.out d hd).1.1 (by omega), HDB2.out.own (hnest.out d hd).1.2 (by omega)⟩)
                  have hszc := HD8.out.g.size
                  clear hHeld
                  refine hK.out _ _ (.inr ⟨m0, m1, m2⟩) (fun hHeld => ?_)
                  clear hK K
                  try simp only [Act.put, List.setIfInBounds_toArray, List.set_cons_zero, List.set_cons_succ]
                  refine rgE_run 12 rfl (by kernel_rfl) (by kernel_rfl) (by decide) (fun K hK => ?_)
                  refine wp_push_rul _ (.tmp 70) (.tmp 81) rfl (wa.heap.size + 1) _ k2 ds ⟨⟨nm, ts, es⟩, At, ct, A10, c10⟩ x8.heap.size 1 rfl HRB.out rfl (by go_simp) (by dsimp only [RuD.vg]; rw [HTL.out]; go_simp) (by dsimp only [RuD.ve]; rw [hes.out]; go_simp) (by omega) (by simp; omega) ?_
                  intro v1 w7 hown1 hgrow
                  simp only [Act.put, List.setIfInBounds_toArray, List.set_cons_zero, List.set_cons_succ]
                  have hgv := fun q hq => (HRB.out.lt q hq).1
                  replace m0 := hgrow.cell (by exact m0) (fun e => by have := hgv _ e.symm; dsimp only at this; omega)
                  replace m1 := hgrow.cell (by exact m1) (fun e => by have := hgv _ e.symm; dsimp only at this; omega)
                  replace m2 := hgrow.cell (by exact m2) (fun e => by have := hgv _ e.symm; dsimp only at this; omega)
                  have HW7 := Lib.hid hown1
                  have HN7 : Hid (∀ d ∈ ds ++ [(⟨⟨nm, ts, es⟩, At, ct, A10, c10⟩ : RuD)], Nest w7 (wa.heap.size + 1) d ∧ d.r.gs.length ≤ 100 ∧ d.r.es.length ≤ 100 ∧ d.r.nm.size ≤ 100) := Lib.hid (fun d hd => by
                    rcases List.mem_append.1 hd with hd | hd
                    · exact ⟨⟨own_keep (HNB.out d hd).1 HRB.out (by decide) hgrow, own_keep (HNB.out d hd).2 HRB.out (by decide) hgrow⟩, (hnest.out d hd).2⟩
                    · rw [List.mem_singleton] at hd
                      subst hd
                      refine ⟨⟨?_, ?_⟩, by show ts.length ≤ 100; rw [HTL.out]; omega, by show es.length ≤ 100; rw [hes.out]; omega, hnm⟩
                      · dsimp only [RuD.vg]; rw [HTL.out]; exact own_mono (own_keep HTB.out HRB.out (by decide) hgrow) (by omega)
                      · dsimp only [RuD.ve]; rw [hes.out]; exact own_mono (own_keep HEB.out HRB.out (by decide) hgrow) (by omega))
                  have HM7 : Hid (MBox w7 wa.heap.size wa.heap.size (Value.slice az q cz) (Value.slice ax q cs) (Value.slice none 0 0)) := Lib.hid (MBox.kept HMB.out hgrow (fun q hq => by have := hgv q hq; omega))
                  have HD7 : Hid (DW B wa w7) := Lib.hid ((hdw.out.then_ HDB2.out).far hBa hgrow (fun q hq => by have := hgv q hq; omega))
                  clear hown1 hgrow hgv
                  clear hHeld
                  refine hK.out _ _ (.inr ⟨m0, m1, m2⟩) (fun hHeld => ?_)
                  clear hK K
                  try simp only [Act.put, List.setIfInBounds_toArray, List.set_cons_zero, List.set_cons_succ]
                  refine rgE_last rfl (by kernel_rfl) (by kernel_rfl) (by kernel_rfl) (fun K hK => ?_)
                  go_simp
                  go_simp
                  clear hHeld
                  refine hK.out _ _ ?_
                  clear hK K
                  try simp only [Act.put, List.setIfInBounds_toArray, List.set_cons_zero, List.set_cons_succ]
                  go_wp2
                  go_roundw
                  case rel => exact ⟨j - 1, k2 + 1, _, by omega, by go_num, Lib.hid (by rw [List.length_append, hds.out]; rfl), HW7, HN7, HM7, HD7⟩
                  case measure => simp [intOf]; omega
                · skip
                  go_simp
                  refine (c_l20DrawTests B 2 (w.heap.size + 1) az ax none cz cs 0 q q 0 zs _ HD3.out.s (by omega) hzs.out hk1 (by omega) (fun z hz => by have := hz4.out z hz; omega) (by omega) (HD3.out.own (HDy.out.own (hdw.out.own hv.out (by omega)) (by omega)) (by omega))).mono ?_
                  rintro e x8 ⟨At, ct, tn, ts, rfl, htl, htn, hto, hd⟩
                  have HTO := Lib.hid (own_mono hto HD3.out.g.size)
                  have HTL := Lib.hid htl
                  replace m0 := hd.cell (by exact m0) (by omega)
                  replace m1 := hd.cell (by exact m1) (by omega)
                  replace m2 := hd.cell (by exact m2) (by omega)
                  replace g5 := hd.cell (by exact g5) (by have := HD3.out.s.lt; omega)
                  have HD8 := Lib.hid (HD3.out.then_ hd)
                  clear hd hto htl
                  go_wp2
                  clear hHeld
                  refine hK.out _ _ (.inr ⟨m0, m1, m2⟩) (fun hHeld => ?_)
                  clear hK K
                  try simp only [Act.put, List.setIfInBounds_toArray, List.set_cons_zero, List.set_cons_succ]
                  refine rgE_run 5 rfl (by kernel_rfl) (by kernel_rfl) (by decide) (fun K hK => ?_)
                  go_simp
                  clear hHeld
                  refine hK.out _ _ (.inr ⟨m0, m1, m2⟩) (fun hHeld => ?_)
                  clear hK K
                  try simp only [Act.put, List.setIfInBounds_toArray, List.set_cons_zero, List.set_cons_succ]
                  refine rgE_take (v := ?_) 10 12 rfl (by kernel_rfl) (by kernel_rfl) (by kernel_rfl) (by kernel_rfl) (by kernel_rfl) (fun _ _ _ h => h) (by kernel_rfl) ?_ (by assumption) ?_
                  rotate_left
                  · (intro w' hSw; (try dsimp only at hSw); go_simp; first | done | with_reducible rfl)
                  simp only [Act.put, List.setIfInBounds_toArray, List.set_cons_zero, List.set_cons_succ]
                  refine rgE_run 11 rfl (by kernel_rfl) (by kernel_rfl) (by decide) (fun K hK => ?_)
                  go_simp
                  replace m0 := cell_later (below_alloc (Below.refl _ x8) (Obj.cells #[Value.string nm, Value.slice At tn ct, Value.slice A10 k3 c10] 45)) (by exact m0)
                  replace m1 := cell_later (below_alloc (Below.refl _ x8) (Obj.cells #[Value.string nm, Value.slice At tn ct, Value.slice A10 k3 c10] 45)) (by exact m1)
                  replace m2 := cell_later (below_alloc (Below.refl _ x8) (Obj.cells #[Value.string nm, Value.slice At tn ct, Value.slice A10 k3 c10] 45)) (by exact m2)
                  have HDB : Hid (DW B wy (x8.alloc (Obj.cells #[Value.string nm, Value.slice At tn ct, Value.slice A10 k3 c10] 45))) := Lib.hid (HD8.out.alloc hBy (Obj.cells #[Value.string nm, Value.slice At tn ct, Value.slice A10 k3 c10] 45))
                  have HDB2 : Hid (DW B wb (x8.alloc (Obj.cells #[Value.string nm, Value.slice At tn ct, Value.slice A10 k3 c10] 45))) := Lib.hid (HDy.out.then_ HDB.out)
                  have HTB := Lib.hid (own_below HTO.out (below_alloc (Below.refl _ x8) (Obj.cells #[Value.string nm, Value.slice At tn ct, Value.slice A10 k3 c10] 45)))
                  have HEB := Lib.hid (HDB.out.own HEy.out (by omega))
                  have HRB := Lib.hid (HDB2.out.own hr.out (by omega))
                  have HMB : Hid (MBox (x8.alloc (Obj.cells #[Value.string nm, Value.slice At tn ct, Value.slice A10 k3 c10] 45)) wa.heap.size wa.heap.size (Value.slice az q cz) (Value.slice ax q cs) (Value.slice none 0 0)) := Lib.hid (HDB2.out.own hmb.out (by omega))
                  have HNB : Hid (∀ d ∈ ds, Nest (x8.alloc (Obj.cells #[Value.string nm, Value.slice At tn ct, Value.slice A10 k3 c10] 45)) (wa.heap.size + 1) d) := Lib.hid (fun d hd => ⟨HDB2.out.own (hnest.out d hd).1.1 (by omega), HDB2.out.own (hnest.out d hd).1.2 (by omega)⟩)
                  have hszc := HD8.out.g.size
                  clear hHeld
                  refine hK.out _ _ (.inr ⟨m0, m1, m2⟩) (fun hHeld => ?_)
                  clear hK K
                  try simp only [Act.put, List.setIfInBounds_toArray, List.set_cons_zero, List.set_cons_succ]
                  refine rgE_run 12 rfl (by kernel_rfl) (by kernel_rfl) (by decide) (fun K hK => ?_)
                  refine wp_push_rul _ (.tmp 70) (.tmp 81) rfl (wa.heap.size + 1) _ k2 ds ⟨⟨nm, ts, es⟩, At, ct, A10, c10⟩ x8.heap.size 1 rfl HRB.out rfl (by go_simp) (by dsimp only [RuD.vg]; rw [HTL.out]; go_simp) (by dsimp only [RuD.ve]; rw [hes.out]; go_simp) (by omega) (by simp; omega) ?_
                  intro v1 w7 hown1 hgrow
                  simp only [Act.put, List.setIfInBounds_toArray, List.set_cons_zero, List.set_cons_succ]
                  have hgv := fun q hq => (HRB.out.lt q hq).1
                  replace m0 := hgrow.cell (by exact m0) (fun e => by have := hgv _ e.symm; dsimp only at this; omega)
                  replace m1 := hgrow.cell (by exact m1) (fun e => by have := hgv _ e.symm; dsimp only at this; omega)
                  replace m2 := hgrow.cell (by exact m2) (fun e => by have := hgv _ e.symm; dsimp only at this; omega)
                  have HW7 := Lib.hid hown1
                  have HN7 : Hid (∀ d ∈ ds ++ [(⟨⟨nm, ts, es⟩, At, ct, A10, c10⟩ : RuD)], Nest w7 (wa.heap.size + 1) d ∧ d.r.gs.length ≤ 100 ∧ d.r.es.length ≤ 100 ∧ d.r.nm.size ≤ 100) := Lib.hid (fun d hd => by
                    rcases List.mem_append.1 hd with hd | hd
                    · exact ⟨⟨own_keep (HNB.out d hd).1 HRB.out (by decide) hgrow, own_keep (HNB.out d hd).2 HRB.out (by decide) hgrow⟩, (hnest.out d hd).2⟩
                    · rw [List.mem_singleton] at hd
                      subst hd
                      refine ⟨⟨?_, ?_⟩, by show ts.length ≤ 100; rw [HTL.out]; omega, by show es.length ≤ 100; rw [hes.out]; omega, hnm⟩
                      · dsimp only [RuD.vg]; rw [HTL.out]; exact own_mono (own_keep HTB.out HRB.out (by decide) hgrow) (by omega)
                      · dsimp only [RuD.ve]; rw [hes.out]; exact own_mono (own_keep HEB.out HRB.out (by decide) hgrow) (by omega))
                  have HM7 : Hid (MBox w7 wa.heap.size wa.heap.size (Value.slice az q cz) (Value.slice ax q cs) (Value.slice none 0 0)) := Lib.hid (MBox.kept HMB.out hgrow (fun q hq => by have := hgv q hq; omega))
                  have HD7 : Hid (DW B wa w7) := Lib.hid ((hdw.out.then_ HDB2.out).far hBa hgrow (fun q hq => by have := hgv q hq; omega))
                  clear hown1 hgrow hgv
                  clear hHeld
                  refine hK.out _ _ (.inr ⟨m0, m1, m2⟩) (fun hHeld => ?_)
                  clear hK K
                  try simp only [Act.put, List.setIfInBounds_toArray, List.set_cons_zero, List.set_cons_succ]
                  refine rgE_last rfl (by kernel_rfl) (by kernel_rfl) (by kernel_rfl) (fun K hK => ?_)
                  go_simp
                  go_simp
                  clear hHeld
                  refine hK.out _ _ ?_
                  clear hK K
                  try simp only [Act.put, List.setIfInBounds_toArray, List.set_cons_zero, List.set_cons_succ]
                  go_wp2
                  go_roundw
                  case rel => exact ⟨j - 1, k2 + 1, _, by omega, by go_num, Lib.hid (by rw [List.length_append, hds.out]; rfl), HW7, HN7, HM7, HD7⟩
                  case measure => simp [intOf]; omega
              · skip
                go_simp
                have HD9 := Lib.hid (HD0.out.drew hBy)
                refine (c_NextD B _ _ HD9.out.s (by omega)).mono ?_
                rintro e x3 ⟨rr, rfl, hr0, hr1, _, hd⟩
                have hr7 := hr1 (by omega)
                obtain ⟨r, rfl⟩ : ∃ r : Nat, rr = r := ⟨rr.toNat, by omega⟩
                have hr6 : r < 6 := by omega
                have hr6i : (r : Int) < 6 := by omega
                have hr6j : (0 : Int) ≤ (r : Int) := by omega
                replace m0 := hd.cell (by exact m0) (by omega)
                replace m1 := hd.cell (by exact m1) (by omega)
                replace m2 := hd.cell (by exact m2) (by omega)
                have HD3 := Lib.hid (HD9.out.then_ hd)
                clear hd hr0 hr1 hr7
                go_wp2
                clear hHeld
                refine hK.out _ _ (.inr ⟨m0, m1, m2⟩) (fun hHeld => ?_)
                clear hK K
                try simp only [Act.put, List.setIfInBounds_toArray, List.set_cons_zero, List.set_cons_succ]
                refine rgE_two 1 8 rfl rfl (by kernel_rfl) (by kernel_rfl) (by kernel_rfl) (by decide) (by decide) (fun K hK => ?_) (fun K hK => ?_)
                · skip
                  go_simp
                  replace m0 := cell_later (below_alloc (Below.refl _ x3) (Obj.cells #[Value.string ⟨#[103, 111]⟩, Value.string ⟨#[115, 116, 111, 112, 95, 49]⟩, Value.string ⟨#[111, 112, 101, 110]⟩, Value.string ⟨#[99, 108, 111, 115, 101]⟩, Value.string ⟨#[102, 97, 105, 108]⟩, Value.string ⟨#[114, 50]⟩] 9)) (by exact m0)
                  replace m1 := cell_later (below_alloc (Below.refl _ x3) (Obj.cells #[Value.string ⟨#[103, 111]⟩, Value.string ⟨#[115, 116, 111, 112, 95, 49]⟩, Value.string ⟨#[111, 112, 101, 110]⟩, Value.string ⟨#[99, 108, 111, 115, 101]⟩, Value.string ⟨#[102, 97, 105, 108]⟩, Value.string ⟨#[114, 50]⟩] 9)) (by exact m1)
                  replace m2 := cell_later (below_alloc (Below.refl _ x3) (Obj.cells #[Value.string ⟨#[103, 111]⟩, Value.string ⟨#[115, 116, 111, 112, 95, 49]⟩, Value.string ⟨#[111, 112, 101, 110]⟩, Value.string ⟨#[99, 108, 111, 115, 101]⟩, Value.string ⟨#[102, 97, 105, 108]⟩, Value.string ⟨#[114, 50]⟩] 9)) (by exact m2)
                  obtain ⟨nm, hnm, g5⟩ := strs6_at (w := x3) r hr6
                  have HD1 : Hid (DW B wy (x3.alloc (Obj.cells #[Value.string ⟨#[103, 111]⟩, Value.string ⟨#[115, 116, 111, 112, 95, 49]⟩, Value.string ⟨#[111, 112, 101, 110]⟩, Value.string ⟨#[99, 108, 111, 115, 101]⟩, Value.string ⟨#[102, 97, 105, 108]⟩, Value.string ⟨#[114, 50]⟩] 9))) := Lib.hid (HD3.out.alloc hBy (Obj.cells #[Value.string ⟨#[103, 111]⟩, Value.string ⟨#[115, 116, 111, 112, 95, 49]⟩, Value.string ⟨#[111, 112, 101, 110]⟩, Value.string ⟨#[99, 108, 111, 115, 101]⟩, Value.string ⟨#[102, 97, 105, 108]⟩, Value.string ⟨#[114, 50]⟩] 9))
                  clear hHeld
                  refine hK.out _ _ (.inr ⟨m0, m1, m2⟩) (fun hHeld => ?_)
                  clear hK K
                  try simp only [Act.put, List.setIfInBounds_toArray, List.set_cons_zero, List.set_cons_succ]
                  refine rgE_take (v := ?_) 4 12 rfl (by kernel_rfl) (by kernel_rfl) (by kernel_rfl) (by kernel_rfl) (by kernel_rfl) (fun _ _ _ h => h) (by kernel_rfl) ?_ (by assumption) ?_
                  rotate_left
                  · (intro w' hSw; (try dsimp only at hSw); go_simp; first | done | with_reducible rfl)
                  simp only [Act.put, List.setIfInBounds_toArray, List.set_cons_zero, List.set_cons_succ]
                  refine rgE_two 5 8 rfl rfl (by kernel_rfl) (by kernel_rfl) (by kernel_rfl) (by decide) (by decide) (fun K hK => ?_) (fun K hK => ?_)
                  · skip
                    go_simp
                    clear hHeld
                    refine hK.out _ _ (.inr ⟨m0, m1, m2⟩) (fun hHeld => ?_)
                    clear hK K
                    try simp only [Act.put, List.setIfInBounds_toArray, List.set_cons_zero, List.set_cons_succ]
                    refine rgE_run 8 rfl (by kernel_rfl) (by kernel_rfl) (by decide) (fun K hK => ?_)
                    go_simp
                    refine (c_l20DrawTests B 2 (w.heap.size + 1) az ax none cz cs 0 q q 0 zs _ HD1.out.s (by omega) hzs.out hk1 (by omega) (fun z hz => by have := hz4.out z hz; omega) (by omega) (HD1.out.own (HDy.out.own (hdw.out.own hv.out (by omega)) (by omega)) (by omega))).mono ?_
                    rintro e x8 ⟨At, ct, tn, ts, rfl, htl, htn, hto, hd⟩
                    have HTO := Lib.hid (own_mono hto HD1.out.g.size)
                    have HTL := Lib.hid htl
                    replace m0 := hd.cell (by exact m0) (by omega)
                    replace m1 := hd.cell (by exact m1) (by omega)
                    replace m2 := hd.cell (by exact m2) (by omega)
                    replace g5 := hd.cell (by exact g5) (by have := HD3.out.s.lt; omega)
                    have HD8 := Lib.hid (HD1.out.then_ hd)
                    clear hd hto htl
                    go_wp2
                    clear hHeld
                    refine hK.out _ _ (.inr ⟨m0, m1, m2⟩) (fun hHeld => ?_)
                    clear hK K
                    try simp only [Act.put, List.setIfInBounds_toArray, List.set_cons_zero, List.set_cons_succ]
                    refine rgE_take (v := ?_) 10 12 rfl (by kernel_rfl) (by kernel_rfl) (by kernel_rfl) (by kernel_rfl) (by kernel_rfl) (fun _ _ _ h => h) (by kernel_rfl) ?_ (by assumption) ?_
                    rotate_left
                    · (intro w' hSw; (try dsimp only at hSw); go_simp; first | done | with_reducible rfl)
                    simp only [Act.put, List.setIfInBounds_toArray, List.set_cons_zero, List.set_cons_succ]
                    refine rgE_run 11 rfl (by kernel_rfl) (by kernel_rfl) (by decide) (fun K hK => ?_)
                    go_simp
                    replace m0 := cell_later (below_alloc (Below.refl _ x8) (Obj.cells #[Value.string nm, Value.slice At tn ct, Value.slice A10 k3 c10] 45)) (by exact m0)
                    replace m1 := cell_later (below_alloc (Below.refl _ x8) (Obj.cells #[Value.string nm, Value.slice At tn ct, Value.slice A10 k3 c10] 45)) (by exact m1)
                    replace m2 := cell_later (below_alloc (Below.refl _ x8) (Obj.cells #[Value.string nm, Value.slice At tn ct, Value.slice A10 k3 c10] 45)) (by exact m2)
                    have HDB : Hid (DW B wy (x8.alloc (Obj.cells #[Value.string nm, Value.slice At tn ct, Value.slice A10 k3 c10] 45))) := Lib.hid (HD8.out.alloc hBy (Obj.cells #[Value.string nm, Value.slice At tn ct, Value.slice A10 k3 c10] 45))
                    have HDB2 : Hid (DW B wb (x8.alloc (Obj.cells #[Value.string nm, Value.slice At tn ct, Value.slice A10 k3 c10] 45))) := Lib.hid (HDy.out.then_ HDB.out)
                    have HTB := Lib.hid (own_below HTO.out (below_alloc (Below.refl _ x8) (Obj.cells #[Value.string nm, Value.slice At tn ct, Value.slice A10 k3 c10] 45)))
                    have HEB := Lib.hid (HDB.out.own HEy.out (by omega))
                    have HRB := Lib.hid (HDB2.out.own hr.out (by omega))
                    have HMB : Hid (MBox (x8.alloc (Obj.cells #[Value.string nm, Value.slice At tn ct, Value.slice A10 k3 c10] 45)) wa.heap.size wa.heap.size (Value.slice az q cz) (Value.slice ax q cs) (Value.slice none 0 0)) := Lib.hid (HDB2.out.own hmb.out (by omega))
                    have HNB : Hid (∀ d ∈ ds, Nest (x8.alloc (Obj.cells #[Value.string nm, Value.slice At tn ct, Value.slice A10 k3 c10] 45)) (wa.heap.size + 1) d) := Lib.hid (fun d hd => ⟨HDB2.out.own (hnest.out d hd).1.1 (by omega), HDB2.out.own (hnest.out d hd).1.2 (by omega)⟩)
                    have hszc := HD8.out.g.size
                    clear hHeld
                    refine hK.out _ _ (.inr ⟨m0, m1, m2⟩) (fun hHeld => ?_)
                    clear hK K
                    try simp only [Act.put, List.setIfInBounds_toArray, List.set_cons_zero, List.set_cons_succ]
                    refine rgE_run 12 rfl (by kernel_rfl) (by kernel_rfl) (by decide) (fun K hK => ?_)
                    refine wp_push_rul _ (.tmp 70) (.tmp 81) rfl (wa.heap.size + 1) _ k2 ds ⟨⟨nm, ts, es⟩, At, ct, A10, c10⟩ x8.heap.size 1 rfl HRB.out rfl (by go_simp) (by dsimp only [RuD.vg]; rw [HTL.out]; go_simp) (by dsimp only [RuD.ve]; rw [hes.out]; go_simp) (by omega) (by simp; omega) ?_
                    intro v1 w7 hown1 hgrow
                    simp only [Act.put, List.setIfInBounds_toArray, List.set_cons_zero, List.set_cons_succ]
                    have hgv := fun q hq => (HRB.out.lt q hq).1
                    replace m0 := hgrow.cell (by exact m0) (fun e => by have := hgv _ e.symm; dsimp only at this; omega)
                    replace m1 := hgrow.cell (by exact m1) (fun e => by have := hgv _ e.symm; dsimp only at this; omega)
                    replace m2 := hgrow.cell (by exact m2) (fun e => by have := hgv _ e.symm; dsimp only at this; omega)
                    have HW7 := Lib.hid hown1
                    have HN7 : Hid (∀ d ∈ ds ++ [(⟨⟨nm, ts, es⟩, At, ct, A10, c10⟩ : RuD)], Nest w7 (wa.heap.size + 1) d ∧ d.r.gs.length ≤ 100 ∧ d.r.es.length ≤ 100 ∧ d.r.nm.size ≤ 100) := Lib.hid (fun d hd => by
                      rcases List.mem_append.1 hd with hd | hd
                      · exact ⟨⟨own_keep (HNB.out d hd).1 HRB.out (by decide) hgrow, own_keep (HNB.out d hd).2 HRB.out (by decide) hgrow⟩, (hnest.out d hd).2⟩
                      · rw [List.mem_singleton] at hd
                        subst hd
                        refine ⟨⟨?_, ?_⟩, by show ts.length ≤ 100; rw [HTL.out]; omega, by show es.length ≤ 100; rw [hes.out]; omega, hnm⟩
                        · dsimp only [RuD.vg]; rw [HTL.out]; exact own_mono (own_keep HTB.out HRB.out (by decide) hgrow) (by omega)
                        · dsimp only [RuD.ve]; rw [hes.out]; exact own_mono (own_keep HEB.out HRB.out (by decide) hgrow) (by omega))
                    have HM7 : Hid (MBox w7 wa.heap.size wa.heap.size (Value.slice az q cz) (Value.slice ax q cs) (Value.slice none 0 0)) := Lib.hid (MBox.kept HMB.out hgrow (fun q hq => by have := hgv q hq; omega))
                    have HD7 : Hid (DW B wa w7) := Lib.hid ((hdw.out.then_ HDB2.out).far hBa hgrow (fun q hq => by have := hgv q hq; omega))
                    clear hown1 hgrow hgv
                    clear hHeld
                    refine hK.out _ _ (.inr ⟨m0, m1, m2⟩) (fun hHeld => ?_)
                    clear hK K
                    try simp only [Act.put, List.setIfInBounds_toArray, List.set_cons_zero, List.set_cons_succ]
                    refine rgE_last rfl (by kernel_rfl) (by kernel_rfl) (by kernel_rfl) (fun K hK => ?_)
                    go_simp
                    go_simp
                    clear hHeld
                    refine hK.out _ _ ?_
                    clear hK K
                    try simp only [Act.put, List.setIfInBounds_toArray, List.set_cons_zero, List.set_cons_succ]
                    go_wp2
                    go_roundw
                    case rel => exact ⟨j - 1, k2 + 1, _, by omega, by go_num, Lib.hid (by rw [List.length_append, hds.out]; rfl), HW7, HN7, HM7, HD7⟩
                    case measure => simp [intOf]; omega
                  · skip
                    go_simp
                    refine (c_l20DrawTests B 2 (w.heap.size + 1) az ax none cz cs 0 q q 0 zs _ HD1.out.s (by omega) hzs.out hk1 (by omega) (fun z hz => by have := hz4.out z hz; omega) (by omega) (HD1.out.own (HDy.out.own (hdw.out.own hv.out (by omega)) (by omega)) (by omega))).mono ?_
                    rintro e x8 ⟨At, ct, tn, ts, rfl, htl, htn, hto, hd⟩
                    have HTO := Lib.hid (own_mono hto HD1.out.g.size)
                    have HTL := Lib.hid htl
                    replace m0 := hd.cell (by exact m0) (by omega)
                    replace m1 := hd.cell (by exact m1) (by omega)
                    replace m2 := hd.cell (by exact m2) (by omega)
                    replace g5 := hd.cell (by exact g5) (by have := HD3.out.s.lt; omega)
                    have HD8 := Lib.hid (HD1.out.then_ hd)
                    clear hd hto htl
                    go_wp2
                    clear hHeld
                    refine hK.out _ _ (.inr ⟨m0, m1, m2⟩) (fun hHeld => ?_)
                    clear hK K
                    try simp only [Act.put, List.setIfInBounds_toArray, List.set_cons_zero, List.set_cons_succ]
                    refine rgE_run 5 rfl (by kernel_rfl) (by kernel_rfl) (by decide) (fun K hK => ?_)
                    go_simp
                    clear hHeld
                    refine hK.out _ _ (.inr ⟨m0, m1, m2⟩) (fun hHeld => ?_)
                    clear hK K
                    try simp only [Act.put, List.setIfInBounds_toArray, List.set_cons_zero, List.set_cons_succ]
                    refine rgE_take (v := ?_) 10 12 rfl (by kernel_rfl) (by kernel_rfl) (by kernel_rfl) (by kernel_rfl) (by kernel_rfl) (fun _ _ _ h => h) (by kernel_rfl) ?_ (by assumption) ?_
                    rotate_left
                    · (intro w' hSw; (try dsimp only at hSw); go_simp; first | done | with_reducible rfl)
                    simp only [Act.put, List.setIfInBounds_toArray, List.set_cons_zero, List.set_cons_succ]
                    refine rgE_run 11 rfl (by kernel_rfl) (by kernel_rfl) (by decide) (fun K hK => ?_)
                    go_simp
                    replace m0 := cell_later (below_alloc (Below.refl _ x8) (Obj.cells #[Value.string nm, Value.slice At tn ct, Value.slice A10 k3 c10] 45)) (by exact m0)
                    replace m1 := cell_later (below_alloc (Below.refl _ x8) (Obj.cells #[Value.string nm, Value.slice At tn ct, Value.slice A10 k3 c10] 45)) (by exact m1)
                    replace m2 := cell_later (below_alloc (Below.refl _ x8) (Obj.cells #[Value.string nm, Value.slice At tn ct, Value.slice A10 k3 c10] 45)) (by exact m2)
                    have HDB : Hid (DW B wy (x8.alloc (Obj.cells #[Value.string nm, Value.slice At tn ct, Value.slice A10 k3 c10] 45))) := Lib.hid (HD8.out.alloc hBy (Obj.cells #[Value.string nm, Value.slice At tn ct, Value.slice A10 k3 c10] 45))
                    have HDB2 : Hid (DW B wb (x8.alloc (Obj.cells #[Value.string nm, Value.slice At tn ct, Value.slice A10 k3 c10] 45))) := Lib.hid (HDy.out.then_ HDB.out)
                    have HTB := Lib.hid (own_below HTO.out (below_alloc (Below.refl _ x8) (Obj.cells #[Value.string nm, Value.slice At tn ct, Value.slice A10 k3 c10] 45)))
                    have HEB := Lib.hid (HDB.out.own HEy.out (by omega))
                    have HRB := Lib.hid (HDB2.out.own hr.out (by omega))
                    have HMB : Hid (MBox (x8.alloc (Obj.cells #[Value.string nm, Value.slice At tn ct, Value.slice A10 k3 c10] 45)) wa.heap.size wa.heap.size (Value.slice az q cz) (Value.slice ax q cs) (Value.slice none 0 0)) := Lib.hid (HDB2.out.own hmb.out (by omega))
                    have HNB : Hid (∀ d ∈ ds, Nest (x8.alloc (Obj.cells #[Value.string nm, Value.slice At tn ct, Value.slice A10 k3 c10] 45)) (wa.heap.size + 1) d) := Lib.hid (fun d hd => ⟨HDB2.out.own (hnest.out d hd).1.1 (by omega), HDB2.out.own (hnest.out d hd).1.2 (by omega)⟩)
                    have hszc := HD8.out.g.size
                    clear hHeld
                    refine hK.out _ _ (.inr ⟨m0, m1, m2⟩) (fun hHeld => ?_)
                    clear hK K
                    try simp only [Act.put, List.setIfInBounds_toArray, List.set_cons_zero, List.set_cons_succ]
                    refine rgE_run 12 rfl (by kernel_rfl) (by kernel_rfl) (by decide) (fun K hK => ?_)
                    refine wp_push_rul _ (.tmp 70) (.tmp 81) rfl (wa.heap.size + 1) _ k2 ds ⟨⟨nm, ts, es⟩, At, ct, A10, c10⟩ x8.heap.size 1 rfl HRB.out rfl (by go_simp) (by dsimp only [RuD.vg]; rw [HTL.out]; go_simp) (by dsimp only [RuD.ve]; rw [hes.out]; go_simp) (by omega) (by simp; omega) ?_
                    intro v1 w7 hown1 hgrow
                    simp only [Act.put, List.setIfInBounds_toArray, List.set_cons_zero, List.set_cons_succ]
                    have hgv := fun q hq => (HRB.out.lt q hq).1
                    replace m0 := hgrow.cell (by exact m0) (fun e => by have := hgv _ e.symm; dsimp only at this; omega)
                    replace m1 := hgrow.cell (by exact m1) (fun e => by have := hgv _ e.symm; dsimp only at this; omega)
                    replace m2 := hgrow.cell (by exact m2) (fun e => by have := hgv _ e.symm; dsimp only at this; omega)
                    have HW7 := Lib.hid hown1
                    have HN7 : Hid (∀ d ∈ ds ++ [(⟨⟨nm, ts, es⟩, At, ct, A10, c10⟩ : RuD)], Nest w7 (wa.heap.size + 1) d ∧ d.r.gs.length ≤ 100 ∧ d.r.es.length ≤ 100 ∧ d.r.nm.size ≤ 100) := Lib.hid (fun d hd => by
                      rcases List.mem_append.1 hd with hd | hd
                      · exact ⟨⟨own_keep (HNB.out d hd).1 HRB.out (by decide) hgrow, own_keep (HNB.out d hd).2 HRB.out (by decide) hgrow⟩, (hnest.out d hd).2⟩
                      · rw [List.mem_singleton] at hd
                        subst hd
                        refine ⟨⟨?_, ?_⟩, by show ts.length ≤ 100; rw [HTL.out]; omega, by show es.length ≤ 100; rw [hes.out]; omega, hnm⟩
                        · dsimp only [RuD.vg]; rw [HTL.out]; exact own_mono (own_keep HTB.out HRB.out (by decide) hgrow) (by omega)
                        · dsimp only [RuD.ve]; rw [hes.out]; exact own_mono (own_keep HEB.out HRB.out (by decide) hgrow) (by omega))
                    have HM7 : Hid (MBox w7 wa.heap.size wa.heap.size (Value.slice az q cz) (Value.slice ax q cs) (Value.slice none 0 0)) := Lib.hid (MBox.kept HMB.out hgrow (fun q hq => by have := hgv q hq; omega))
                    have HD7 : Hid (DW B wa w7) := Lib.hid ((hdw.out.then_ HDB2.out).far hBa hgrow (fun q hq => by have := hgv q hq; omega))
                    clear hown1 hgrow hgv
                    clear hHeld
                    refine hK.out _ _ (.inr ⟨m0, m1, m2⟩) (fun hHeld => ?_)
                    clear hK K
                    try simp only [Act.put, List.setIfInBounds_toArray, List.set_cons_zero, List.set_cons_succ]
                    refine rgE_last rfl (by kernel_rfl) (by kernel_rfl) (by kernel_rfl) (fun K hK => ?_)
                    go_simp
                    go_simp
                    clear hHeld
                    refine hK.out _ _ ?_
                    clear hK K
                    try simp only [Act.put, List.setIfInBounds_toArray, List.set_cons_zero, List.set_cons_succ]
                    go_wp2
                    go_roundw
                    case rel => exact ⟨j - 1, k2 + 1, _, by omega, by go_num, Lib.hid (by rw [List.length_append, hds.out]; rfl), HW7, HN7, HM7, HD7⟩
                    case measure => simp [intOf]; omega
                · skip
                  go_simp
                  refine (c_l20DrawTests B 2 (w.heap.size + 1) az ax none cz cs 0 q q 0 zs _ HD3.out.s (by omega) hzs.out hk1 (by omega) (fun z hz => by have := hz4.out z hz; omega) (by omega) (HD3.out.own (HDy.out.own (hdw.out.own hv.out (by omega)) (by omega)) (by omega))).mono ?_
                  rintro e x8 ⟨At, ct, tn, ts, rfl, htl, htn, hto, hd⟩
                  have HTO := Lib.hid (own_mono hto HD3.out.g.size)
                  have HTL := Lib.hid htl
                  replace m0 := hd.cell (by exact m0) (by omega)
                  replace m1 := hd.cell (by exact m1) (by omega)
                  replace m2 := hd.cell (by exact m2) (by omega)
                  have HD8 := Lib.hid (HD3.out.then_ hd)
                  clear hd hto htl
                  go_wp2
                  clear hHeld
                  refine hK.out _ _ (.inr ⟨m0, m1, m2⟩) (fun hHeld => ?_)
                  clear hK K
                  try simp only [Act.put, List.setIfInBounds_toArray, List.set_cons_zero, List.set_cons_succ]
                  refine rgE_run 1 rfl (by kernel_rfl) (by kernel_rfl) (by decide) (fun K hK => ?_)
                  go_simp
                  replace m0 := cell_later (below_alloc (Below.refl _ x8) (Obj.cells #[Value.string ⟨#[103, 111]⟩, Value.string ⟨#[115, 116, 111, 112, 95, 49]⟩, Value.string ⟨#[111, 112, 101, 110]⟩, Value.string ⟨#[99, 108, 111, 115, 101]⟩, Value.string ⟨#[102, 97, 105, 108]⟩, Value.string ⟨#[114, 50]⟩] 9)) (by exact m0)
                  replace m1 := cell_later (below_alloc (Below.refl _ x8) (Obj.cells #[Value.string ⟨#[103, 111]⟩, Value.string ⟨#[115, 116, 111, 112, 95, 49]⟩, Value.string ⟨#[111, 112, 101, 110]⟩, Value.string ⟨#[99, 108, 111, 115, 101]⟩, Value.string ⟨#[102, 97, 105, 108]⟩, Value.string ⟨#[114, 50]⟩] 9)) (by exact m1)
                  replace m2 := cell_later (below_alloc (Below.refl _ x8) (Obj.cells #[Value.string ⟨#[103, 111]⟩, Value.string ⟨#[115, 116, 111, 112, 95, 49]⟩, Value.string ⟨#[111, 112, 101, 110]⟩, Value.string ⟨#[99, 108, 111, 115, 101]⟩, Value.string ⟨#[102, 97, 105, 108]⟩, Value.string ⟨#[114, 50]⟩] 9)) (by exact m2)
                  obtain ⟨nm, hnm, g5⟩ := strs6_at (w := x8) r hr6
                  replace HTO := Lib.hid (own_below HTO.out (below_alloc (Below.refl _ x8) (Obj.cells #[Value.string ⟨#[103, 111]⟩, Value.string ⟨#[115, 116, 111, 112, 95, 49]⟩, Value.string ⟨#[111, 112, 101, 110]⟩, Value.string ⟨#[99, 108, 111, 115, 101]⟩, Value.string ⟨#[102, 97, 105, 108]⟩, Value.string ⟨#[114, 50]⟩] 9)))
                  have HD1 : Hid (DW B wy (x8.alloc (Obj.cells #[Value.string ⟨#[103, 111]⟩, Value.string ⟨#[115, 116, 111, 112, 95, 49]⟩, Value.string ⟨#[111, 112, 101, 110]⟩, Value.string ⟨#[99, 108, 111, 115, 101]⟩, Value.string ⟨#[102, 97, 105, 108]⟩, Value.string ⟨#[114, 50]⟩] 9))) := Lib.hid (HD8.out.alloc hBy (Obj.cells #[Value.string ⟨#[103, 111]⟩, Value.string ⟨#[115, 116, 111, 112, 95, 49]⟩, Value.string ⟨#[111, 112, 101, 110]⟩, Value.string ⟨#[99, 108, 111, 115, 101]⟩, Value.string ⟨#[102, 97, 105, 108]⟩, Value.string ⟨#[114, 50]⟩] 9))
                  clear hHeld
                  refine hK.out _ _ (.inr ⟨m0, m1, m2⟩) (fun hHeld => ?_)
                  clear hK K
                  try simp only [Act.put, List.setIfInBounds_toArray, List.set_cons_zero, List.set_cons_succ]
                  refine rgE_take (v := ?_) 4 12 rfl (by kernel_rfl) (by kernel_rfl) (by kernel_rfl) (by kernel_rfl) (by kernel_rfl) (fun _ _ _ h => h) (by kernel_rfl) ?_ (by assumption) ?_
                  rotate_left
                  · (intro w' hSw; (try dsimp only at hSw); go_simp; first | done | with_reducible rfl)
                  simp only [Act.put, List.setIfInBounds_toArray, List.set_cons_zero, List.set_cons_succ]
                  refine rgE_run 5 rfl (by kernel_rfl) (by kernel_rfl) (by decide) (fun K hK => ?_)
                  go_simp
                  clear hHeld
                  refine hK.out _ _ (.inr ⟨m0, m1, m2⟩) (fun hHeld => ?_)
                  clear hK K
                  try simp only [Act.put, List.setIfInBounds_toArray, List.set_cons_zero, List.set_cons_succ]
                  refine rgE_take (v := ?_) 10 12 rfl (by kernel_rfl) (by kernel_rfl) (by kernel_rfl) (by kernel_rfl) (by kernel_rfl) (fun _ _ _ h => h) (by kernel_rfl) ?_ (by assumption) ?_
                  rotate_left
                  · (intro w' hSw; (try dsimp only at hSw); go_simp; first | done | with_reducible rfl)
                  simp only [Act.put, List.setIfInBounds_toArray, List.set_cons_zero, List.set_cons_succ]
                  refine rgE_run 11 rfl (by kernel_rfl) (by kernel_rfl) (by decide) (fun K hK => ?_)
                  go_simp
                  replace m0 := cell_later (below_alloc (Below.refl _ (x8.alloc (Obj.cells #[Value.string ⟨#[103, 111]⟩, Value.string ⟨#[115, 116, 111, 112, 95, 49]⟩, Value.string ⟨#[111, 112, 101, 110]⟩, Value.string ⟨#[99, 108, 111, 115, 101]⟩, Value.string ⟨#[102, 97, 105, 108]⟩, Value.string ⟨#[114, 50]⟩] 9))) (Obj.cells #[Value.string nm, Value.slice At tn ct, Value.slice A10 k3 c10] 45)) (by exact m0)
                  replace m1 := cell_later (below_alloc (Below.refl _ (x8.alloc (Obj.cells #[Value.string ⟨#[103, 111]⟩, Value.string ⟨#[115, 116, 111, 112, 95, 49]⟩, Value.string ⟨#[111, 112, 101, 110]⟩, Value.string ⟨#[99, 108, 111, 115, 101]⟩, Value.string ⟨#[102, 97, 105, 108]⟩, Value.string ⟨#[114, 50]⟩] 9))) (Obj.cells #[Value.string nm, Value.slice At tn ct, Value.slice A10 k3 c10] 45)) (by exact m1)
                  replace m2 := cell_later (below_alloc (Below.refl _ (x8.alloc (Obj.cells #[Value.string ⟨#[103, 111]⟩, Value.string ⟨#[115, 116, 111, 112, 95, 49]⟩, Value.string ⟨#[111, 112, 101, 110]⟩, Value.string ⟨#[99, 108, 111, 115, 101]⟩, Value.string ⟨#[102, 97, 105, 108]⟩, Value.string ⟨#[114, 50]⟩] 9))) (Obj.cells #[Value.string nm, Value.slice At tn ct, Value.slice A10 k3 c10] 45)) (by exact m2)
                  have HDB : Hid (DW B wy ((x8.alloc (Obj.cells #[Value.string ⟨#[103, 111]⟩, Value.string ⟨#[115, 116, 111, 112, 95, 49]⟩, Value.string ⟨#[111, 112, 101, 110]⟩, Value.string ⟨#[99, 108, 111, 115, 101]⟩, Value.string ⟨#[102, 97, 105, 108]⟩, Value.string ⟨#[114, 50]⟩] 9)).alloc (Obj.cells #[Value.string nm, Value.slice At tn ct, Value.slice A10 k3 c10] 45))) := Lib.hid (HD1.out.alloc hBy (Obj.cells #[Value.string nm, Value.slice At tn ct, Value.slice A10 k3 c10] 45))
                  have HDB2 : Hid (DW B wb ((x8.alloc (Obj.cells #[Value.string ⟨#[103, 111]⟩, Value.string ⟨#[115, 116, 111, 112, 95, 49]⟩, Value.string ⟨#[111, 112, 101, 110]⟩, Value.string ⟨#[99, 108, 111, 115, 101]⟩, Value.string ⟨#[102, 97, 105, 108]⟩, Value.string ⟨#[114, 50]⟩] 9)).alloc (Obj.cells #[Value.string nm, Value.slice At tn ct, Value.slice A10 k3 c10] 45))) := Lib.hid (HDy.out.then_ HDB.out)
                  have HTB := Lib.hid (own_below HTO.out (below_alloc (Below.refl _ (x8.alloc (Obj.cells #[Value.string ⟨#[103, 111]⟩, Value.string ⟨#[115, 116, 111, 112, 95, 49]⟩, Value.string ⟨#[111, 112, 101, 110]⟩, Value.string ⟨#[99, 108, 111, 115, 101]⟩, Value.string ⟨#[102, 97, 105, 108]⟩, Value.string ⟨#[114, 50]⟩] 9))) (Obj.cells #[Value.string nm, Value.slice At tn ct, Value.slice A10 k3 c10] 45)))
                  have HEB := Lib.hid (HDB.out.own HEy.out (by omega))
                  have HRB := Lib.hid (HDB2.out.own hr.out (by omega))
                  have HMB : Hid (MBox ((x8.alloc (Obj.cells #[Value.string ⟨#[103, 111]⟩, Value.string ⟨#[115, 116, 111, 112, 95, 49]⟩, Value.string ⟨#[111, 112, 101, 110]⟩, Value.string ⟨#[99, 108, 111, 115, 101]⟩, Value.string ⟨#[102, 97, 105, 108]⟩, Value.string ⟨#[114, 50]⟩] 9)).alloc (Obj.cells #[Value.string nm, Value.slice At tn ct, Value.slice A10 k3 c10] 45)) wa.heap.size wa.heap.size (Value.slice az q cz) (Value.slice ax q cs) (Value.slice none 0 0)) := Lib.hid (HDB2.out.own hmb.out (by omega))
                  have HNB : Hid (∀ d ∈ ds, Nest ((x8.alloc (Obj.cells #[Value.string ⟨#[103, 111]⟩, Value.string ⟨#[115, 116, 111, 112, 95, 49]⟩, Value.string ⟨#[111, 112, 101, 110]⟩, Value.string ⟨#[99, 108, 111, 115, 101]⟩, Value.string ⟨#[102, 97, 105, 108]⟩, Value.string ⟨#[114, 50]⟩] 9)).alloc (Obj.cells #[Value.string nm, Value.slice At tn ct, Value.slice A10 k3 c10] 45)) (wa.heap.size + 1) d) := Lib.hid (fun d hd => ⟨HDB2.out.own (hnest.out d hd).1.1 (by omega), HDB2.out.own (hnest.out d hd).1.2 (by omega)⟩)
                  have hszc := HD8.out.g.size
                  clear hHeld
                  refine hK.out _ _ (.inr ⟨m0, m1, m2⟩) (fun hHeld => ?_)
                  clear hK K
                  try simp only [Act.put, List.setIfInBounds_toArray, List.set_cons_zero, List.set_cons_succ]
                  refine rgE_run 12 rfl (by kernel_rfl) (by kernel_rfl) (by decide) (fun K hK => ?_)
                  refine wp_push_rul _ (.tmp 70) (.tmp 81) rfl (wa.heap.size + 1) _ k2 ds ⟨⟨nm, ts, es⟩, At, ct, A10, c10⟩ (x8.heap.size + 1) 1 rfl HRB.out rfl (by go_simp) (by dsimp only [RuD.vg]; rw [HTL.out]; go_simp) (by dsimp only [RuD.ve]; rw [hes.out]; go_simp) (by omega) (by simp; omega) ?_
                  intro v1 w7 hown1 hgrow
                  simp only [Act.put, List.setIfInBounds_toArray, List.set_cons_zero, List.set_cons_succ]
                  have hgv := fun q hq => (HRB.out.lt q hq).1
                  replace m0 := hgrow.cell (by exact m0) (fun e => by have := hgv _ e.symm; dsimp only at this; omega)
                  replace m1 := hgrow.cell (by exact m1) (fun e => by have := hgv _ e.symm; dsimp only at this; omega)
                  replace m2 := hgrow.cell (by exact m2) (fun e => by have := hgv _ e.symm; dsimp only at this; omega)
                  have HW7 := Lib.hid hown1
                  have HN7 : Hid (∀ d ∈ ds ++ [(⟨⟨nm, ts, es⟩, At, ct, A10, c10⟩ : RuD)], Nest w7 (wa.heap.size + 1) d ∧ d.r.gs.length ≤ 100 ∧ d.r.es.length ≤ 100 ∧ d.r.nm.size ≤ 100) := Lib.hid (fun d hd => by
                    rcases List.mem_append.1 hd with hd | hd
                    · exact ⟨⟨own_keep (HNB.out d hd).1 HRB.out (by decide) hgrow, own_keep (HNB.out d hd).2 HRB.out (by decide) hgrow⟩, (hnest.out d hd).2⟩
                    · rw [List.mem_singleton] at hd
                      subst hd
                      refine ⟨⟨?_, ?_⟩, by show ts.length ≤ 100; rw [HTL.out]; omega, by show es.length ≤ 100; rw [hes.out]; omega, hnm⟩
                      · dsimp only [RuD.vg]; rw [HTL.out]; exact own_mono (own_keep HTB.out HRB.out (by decide) hgrow) (by omega)
                      · dsimp only [RuD.ve]; rw [hes.out]; exact own_mono (own_keep HEB.out HRB.out (by decide) hgrow) (by omega))
                  have HM7 : Hid (MBox w7 wa.heap.size wa.heap.size (Value.slice az q cz) (Value.slice ax q cs) (Value.slice none 0 0)) := Lib.hid (MBox.kept HMB.out hgrow (fun q hq => by have := hgv q hq; omega))
                  have HD7 : Hid (DW B wa w7) := Lib.hid ((hdw.out.then_ HDB2.out).far hBa hgrow (fun q hq => by have := hgv q hq; omega))
                  clear hown1 hgrow hgv
                  clear hHeld
                  refine hK.out _ _ (.inr ⟨m0, m1, m2⟩) (fun hHeld => ?_)
                  clear hK K
                  try simp only [Act.put, List.setIfInBounds_toArray, List.set_cons_zero, List.set_cons_succ]
                  refine rgE_last rfl (by kernel_rfl) (by kernel_rfl) (by kernel_rfl) (fun K hK => ?_)
                  go_simp
                  go_simp
                  clear hHeld
                  refine hK.out _ _ ?_
                  clear hK K
                  try simp only [Act.put, List.setIfInBounds_toArray, List.set_cons_zero, List.set_cons_succ]
                  go_wp2
                  go_roundw
                  case rel => exact ⟨j - 1, k2 + 1, _, by omega, by go_num, Lib.hid (by rw [List.length_append, hds.out]; rfl), HW7, HN7, HM7, HD7⟩
                  case measure => simp [intOf]; omega
              -- END
        · have hj1 : j = 0 := by omega
          subst hj1
          obtain ⟨ar, cr, hv2⟩ := own_shape hr.out
          subst hv2
          have HXb : MBox wb w.heap.size w.heap.size (.slice none 0 0) (.slice none 0 0) (.slice none 0 0) := hdw.out.own hbx.out hBl
          obtain ⟨v0, v1, v2, f0, f1, f2, _, hxlt⟩ := HXb.c
          have HF := Lib.hid (MBox.set3 HXb (Value.slice az k cz) (Value.slice ax k cs) (Value.slice ar k2 cr))
          have HDF : Hid (DW B w (set3 wb w.heap.size (Value.slice az k cz) (Value.slice ax k cs) (Value.slice ar k2 cr))) := Lib.hid ((hd.out.then_ hdw.out).set3 hBl _ _ _ (Nat.le_refl _))
          have hk2 : k2 ≤ 8 := by omega
          have HFIN : Hid (DMd B w.heap.size (set3 wb w.heap.size (Value.slice az k cz) (Value.slice ax k cs) (Value.slice ar k2 cr)) az ax ar cz cs cr k k k2 ⟨zs, ss, ds.map RuD.r⟩ ds) := Lib.hid (by
            have hg := HF.out.2
            have key : ∀ {base : Nat} {e : TypeId} {size n : Nat} {v : Value} {xs : List Value}, wb.ownsRow base e size v n xs → w.heap.size < base → (set3 wb w.heap.size (Value.slice az k cz) (Value.slice ax k cs) (Value.slice ar k2 cr)).ownsRow w.heap.size e size v n xs := fun h hb => own_mono (kept_far h hg (fun q hq => by simp at hq; omega)) (by omega)
            refine ⟨⟨?_, ?_, ?_, rfl, fun d hd => ⟨key (hnest.out d hd).1.1 (by omega), key (hnest.out d hd).1.2 (by omega)⟩⟩, hzs.out, hss.out, by rw [List.length_map, hds.out], hsep.out, fun z hz => by have := hz4.out z hz; omega, fun d hd => by have := (hnest.out d hd).2; omega, hBl⟩
            · have h9 := key (hdw.out.own hv.out (by omega)) (by omega)
              show World.ownsRow _ _ _ _ (.slice az zs.length cz) zs.length _
              rw [hzs.out]
              exact h9
            · have h9 := key (hdw.out.own hu.out (by omega)) (by omega)
              show World.ownsRow _ _ _ _ (.slice ax ss.length cs) ss.length _
              rw [hss.out]
              exact h9
            · have h9 := key hr.out (by omega)
              show World.ownsRow _ _ _ _ (.slice ar (ds.map RuD.r).length cr) (ds.map RuD.r).length _
              rw [List.length_map, hds.out]
              exact h9)
          have HRR : Hid (∀ d ∈ ds, d.r.gs.length ≤ 100 ∧ d.r.es.length ≤ 100 ∧ d.r.nm.size ≤ 100) := Lib.hid fun d hd => (hnest.out d hd).2
          clear hr hnest hmb hdw hv hu hbx hd HXb
          go_wp2_with (fail)
          change bodyPost _ _ _ _ _ (set3 wb w.heap.size (Value.slice az k cz) (Value.slice ax k cs) (Value.slice ar k2 cr))
          generalize set3 wb w.heap.size (Value.slice az k cz) (Value.slice ax k cs) (Value.slice ar k2 cr) = WF at HF HDF HFIN ⊢
          obtain ⟨r0, r1, r2, _⟩ := MBox.c HF.out.1
          clear v0 v1 v2 f0 f1 f2
          refine bodyPost_ret (v := .agg #[.slice az k cz, .slice ax k cs, .slice ar k2 cr]) (by simp [results, Tryz.results81, go_sem, r0, r1, r2]) rfl ⟨az, ax, ar, cz, cs, cr, k, k, k2, _, ds, rfl, HFIN.out, hk1, hk4, hk1, hk4, hk2, HRR.out, HDF.out⟩
end Go.Proofs.YtgpmglfcdbpgkaaGreatDoor

/- l20Draw: what holds between its steps. No condition. -/
namespace Go.Proofs.YtgpmglfcdbpgkaaGreatDoor
open Go.RowKit

/-- The model under way in the box p, the result's box, and the source. -/
structure DKf (B p : Nat) (w wr : World) (az ax ar : Option Addr) (cz cs cr sn tn rn : Nat) (m : Mdl) (ds : List RuD) : Prop where
  b : MBox wr w.heap.size p (.slice az sn cz) (.slice ax tn cs) (.slice ar rn cr)
  m : DMd B w.heap.size wr az ax ar cz cs cr sn tn rn m ds
  n1 : 1 ≤ sn
  n2 : sn ≤ 10
  t1 : 1 ≤ tn
  t2 : tn ≤ 10
  r2 : rn ≤ 300
  x : MBox wr w.heap.size w.heap.size (.slice none 0 0) (.slice none 0 0) (.slice none 0 0)
  lt : w.heap.size < p
  bl : B < w.heap.size
  d : DW B w wr
def DK (B p N : Nat) (w wr : World) : Prop := ∃ az ax ar cz cs cr sn tn rn m ds, DKf B p w wr az ax ar cz cs cr sn tn rn m ds ∧ sn ≤ N ∧ rn ≤ 8 ∧ ∀ d ∈ ds, d.r.gs.length ≤ 100 ∧ d.r.es.length ≤ 100 ∧ d.r.nm.size ≤ 100
section
variable {B p : Nat} {w wr wx : World} {az ax ar : Option Addr} {cz cs cr sn tn rn : Nat} {m : Mdl} {ds : List RuD}
theorem DKf.then_ (h : DKf B p w wr az ax ar cz cs cr sn tn rn m ds) (hd : DW B wr wx) : DKf B p w wx az ax ar cz cs cr sn tn rn m ds :=
  ⟨hd.own h.b h.bl, h.m.far hd, h.n1, h.n2, h.t1, h.t2, h.r2, hd.own h.x h.bl, h.lt, h.bl, h.d.then_ hd⟩
theorem DKf.hB (h : DKf B p w wr az ax ar cz cs cr sn tn rn m ds) : B < wr.heap.size := Nat.lt_of_lt_of_le h.bl h.d.g.size
theorem DKf.alloc (h : DKf B p w wr az ax ar cz cs cr sn tn rn m ds) (o : Obj) : DKf B p w (wr.alloc o) az ax ar cz cs cr sn tn rn m ds := h.then_ ((DW.start h.d.s).alloc h.hB o)
theorem DKf.drew (h : DKf B p w wr az ax ar cz cs cr sn tn rn m ds) : DKf B p w wr.drew az ax ar cz cs cr sn tn rn m ds := h.then_ ((DW.start h.d.s).drew h.hB)
theorem DKf.formZ (h : DKf B p w wr az ax ar cz cs cr sn tn rn m ds) : ∃ g, az = some ⟨g, 0, none⟩ := by
  have hz := h.m.o.z
  have hn := h.m.z
  have h1 := h.n1
  obtain ⟨k, hk⟩ : ∃ k, m.sz.length = k + 1 := ⟨m.sz.length - 1, by omega⟩
  rw [hk] at hz
  obtain ⟨g, cap, hv⟩ := own_form hz
  simp only [Value.slice.injEq] at hv
  exact ⟨g, hv.1⟩
theorem DKf.formS (h : DKf B p w wr az ax ar cz cs cr sn tn rn m ds) : ∃ g, ax = some ⟨g, 0, none⟩ := by
  have hz := h.m.o.s
  have hn := h.m.s
  have h1 := h.t1
  obtain ⟨k, hk⟩ : ∃ k, m.st.length = k + 1 := ⟨m.st.length - 1, by omega⟩
  rw [hk] at hz
  obtain ⟨g, cap, hv⟩ := own_form hz
  simp only [Value.slice.injEq] at hv
  exact ⟨g, hv.1⟩
end
/-- The first size is set. -/
theorem DKf.setZ {B p : Nat} {w wr : World} {g : Nat} {ax ar : Option Addr} {cz cs cr sn tn rn : Nat} {m : Mdl} {ds : List RuD} (h : DKf B p w wr (some ⟨g, 0, none⟩) ax ar cz cs cr sn tn rn m ds) {z : Int} (hz : z ≤ 9223372036854775807) :
    DKf B p w (wr.setCell ⟨g, 0, none⟩ (.int .i64 z)) (some ⟨g, 0, none⟩) ax ar cz cs cr sn tn rn { m with sz := m.sz.set 0 z } ds := by
  have hst := h.m.o.z.stored 0 (.int .i64 z)
  rw [ints_set] at hst
  have hl : (m.sz.set 0 z).length = m.sz.length := List.length_set
  have hg := (own_ge h.m.o.z).1
  have hsz := h.m.z
  refine ⟨own_keep h.b h.m.o.z (by decide) hst.2, ⟨⟨?_, ?_, own_keep h.m.o.r h.m.o.z (by decide) hst.2, h.m.o.e, fun d hd => ⟨own_keep (h.m.o.d d hd).1 h.m.o.z (by decide) hst.2, own_keep (h.m.o.d d hd).2 h.m.o.z (by decide) hst.2⟩⟩, by rw [← hsz]; exact hl, h.m.s, h.m.r, h.m.sep, ?_, h.m.rb, h.m.B⟩, h.n1, h.n2, h.t1, h.t2, h.r2, own_keep h.x h.m.o.z (by decide) hst.2, h.lt, h.bl, h.d.far h.bl hst.2 (fun q hq => by simp at hq; omega)⟩
  · show World.ownsRow _ _ _ _ (.slice _ (m.sz.set 0 z).length cz) (m.sz.set 0 z).length _
    rw [hl]
    exact hst.1
  · refine kept_ne h.m.o.s hst.2 (fun q hq e => ?_)
    have := h.m.sep q (by rw [hsz] at *; simpa [Value.ownBlock] using e)
    rw [← h.m.s] at this
    exact this hq
  · intro y hy
    rcases List.mem_or_eq_of_mem_set hy with hy | hy
    · exact h.m.zb y hy
    · rw [hy]; exact hz
/-- The first start is set. -/
theorem DKf.setS {B p : Nat} {w wr : World} {g : Nat} {az ar : Option Addr} {cz cs cr sn tn rn : Nat} {m : Mdl} {ds : List RuD} (h : DKf B p w wr az (some ⟨g, 0, none⟩) ar cz cs cr sn tn rn m ds) (z : Int) :
    DKf B p w (wr.setCell ⟨g, 0, none⟩ (.int .i64 z)) az (some ⟨g, 0, none⟩) ar cz cs cr sn tn rn { m with st := m.st.set 0 z } ds := by
  have hst := h.m.o.s.stored 0 (.int .i64 z)
  rw [ints_set] at hst
  have hl : (m.st.set 0 z).length = m.st.length := List.length_set
  have hg := (own_ge h.m.o.s).1
  have hsz := h.m.s
  refine ⟨own_keep h.b h.m.o.s (by decide) hst.2, ⟨⟨?_, ?_, own_keep h.m.o.r h.m.o.s (by decide) hst.2, h.m.o.e, fun d hd => ⟨own_keep (h.m.o.d d hd).1 h.m.o.s (by decide) hst.2, own_keep (h.m.o.d d hd).2 h.m.o.s (by decide) hst.2⟩⟩, h.m.z, by rw [← hsz]; exact hl, h.m.r, h.m.sep, h.m.zb, h.m.rb, h.m.B⟩, h.n1, h.n2, h.t1, h.t2, h.r2, own_keep h.x h.m.o.s (by decide) hst.2, h.lt, h.bl, h.d.far h.bl hst.2 (fun q hq => by simp at hq; omega)⟩
  · refine kept_ne h.m.o.z hst.2 (fun q hq e => ?_)
    have := h.m.sep q (by rw [← h.m.z]; exact hq)
    exact this (by simpa [Value.ownBlock] using e)
  · show World.ownsRow _ _ _ _ (.slice _ (m.st.set 0 z).length cs) (m.st.set 0 z).length _
    rw [hl]
    exact hst.1
/-- The first rule is under way in the box q. -/
structure DRf (B p q : Nat) (w wr : World) (az ax ar : Option Addr) (cz cs cr sn tn rn : Nat) (m : Mdl) (ds : List RuD) (d : RuD) : Prop where
  k : DKf B p w wr az ax ar cz cs cr sn tn rn m ds
  b : wr.ownsRow w.heap.size 45 1 (.slice (some ⟨q, 0, none⟩) 3 3) 3 [.string d.r.nm, d.vg, d.ve]
  n : Nest wr w.heap.size d
  g : d.r.gs.length ≤ 1000 ∧ d.r.es.length ≤ 1000 ∧ d.r.nm.size ≤ 1000
  a : ∀ x, (Value.slice ar rn cr).ownBlock = some x → x < q
  r1 : 1 ≤ rn
  r2 : rn ≤ 8
def DR (B p q : Nat) (w wr : World) : Prop := ∃ az ax ar cz cs cr sn tn rn m ds d, DRf B p q w wr az ax ar cz cs cr sn tn rn m ds d
theorem DRf.then_ {B p q : Nat} {w wr wx : World} {az ax ar : Option Addr} {cz cs cr sn tn rn : Nat} {m : Mdl} {ds : List RuD} {d : RuD} (h : DRf B p q w wr az ax ar cz cs cr sn tn rn m ds d) (hd : DW B wr wx) : DRf B p q w wx az ax ar cz cs cr sn tn rn m ds d :=
  ⟨h.k.then_ hd, hd.own h.b h.k.bl, ⟨hd.own h.n.1 h.k.bl, hd.own h.n.2 h.k.bl⟩, h.g, h.a, h.r1, h.r2⟩
theorem DRf.c {B p q : Nat} {w wr : World} {az ax ar : Option Addr} {cz cs cr sn tn rn : Nat} {m : Mdl} {ds : List RuD} {d : RuD} (h : DRf B p q w wr az ax ar cz cs cr sn tn rn m ds d) :
    wr.cell? ⟨q, 0, none⟩ = some (.string d.r.nm) ∧ wr.cell? ⟨q, 1, none⟩ = some d.vg ∧ wr.cell? ⟨q, 2, none⟩ = some d.ve ∧ wr.frozen? ⟨q, 0, none⟩ = false ∧ wr.frozen? ⟨q, 1, none⟩ = false ∧ wr.frozen? ⟨q, 2, none⟩ = false ∧ w.heap.size ≤ q ∧ q < wr.heap.size :=
  ⟨h.b.cellAt 0 (by decide), h.b.cellAt 1 (by decide), h.b.cellAt 2 (by decide), h.b.frozenAt 0, h.b.frozenAt 1, h.b.frozenAt 2, own_ge h.b⟩
theorem rbox_new {w : World} (x y z : Value) : (w.alloc (.cells #[x, y, z] 45)).ownsRow w.heap.size 45 1 (.slice (some ⟨w.heap.size, 0, none⟩) 3 3) 3 [x, y, z] := by
  have h := World.ownsRow_lit (e := 45) (size := 1) (base := w.heap.size) w #[x, y, z] 3 (by simp) (by decide) (by simp)
  simpa using h
/-- One cell of the box q is set: the rule d becomes d'. -/
theorem DRf.set {B p q : Nat} {w wr : World} {az ax ar : Option Addr} {cz cs cr sn tn rn : Nat} {m : Mdl} {ds : List RuD} {d d' : RuD} (h : DRf B p q w wr az ax ar cz cs cr sn tn rn m ds d) (i : Nat) (v : Value)
    (he : ([.string d.r.nm, d.vg, d.ve] : List Value).set i v = [.string d'.r.nm, d'.vg, d'.ve]) (hn : Nest wr w.heap.size d') (hg : d'.r.gs.length ≤ 1000 ∧ d'.r.es.length ≤ 1000 ∧ d'.r.nm.size ≤ 1000) :
    DRf B p q w (wr.setCell ⟨q, i, none⟩ v) az ax ar cz cs cr sn tn rn m ds d' := by
  have hst := h.b.stored i v
  rw [he] at hst
  have hbq := own_ge h.b
  have hb : wr.ownsRow w.heap.size 45 1 (.slice (some ⟨q, 0, none⟩) 3 3) 3 _ := h.b
  have hgr : wr.grownBy (wr.setCell ⟨q, i, none⟩ v) (Value.slice (some ⟨q, 0, none⟩) 3 3).ownBlock := hst.2
  have k1 : ∀ {b1 : Nat} {e1 : TypeId} {s1 n1 : Nat} {v1 : Value} {x1 : List Value}, e1 ≠ 45 → wr.ownsRow b1 e1 s1 v1 n1 x1 → (wr.setCell ⟨q, i, none⟩ v).ownsRow b1 e1 s1 v1 n1 x1 := fun he h1 => own_keep h1 hb he hgr
  refine ⟨⟨k1 (by decide) h.k.b, ⟨⟨k1 (by decide) h.k.m.o.z, k1 (by decide) h.k.m.o.s, kept_ne h.k.m.o.r hst.2 (fun x hx e => ?_), h.k.m.o.e, fun d hd => ⟨k1 (by decide) (h.k.m.o.d d hd).1, k1 (by decide) (h.k.m.o.d d hd).2⟩⟩, h.k.m.z, h.k.m.s, h.k.m.r, h.k.m.sep, h.k.m.zb, h.k.m.rb, h.k.m.B⟩, h.k.n1, h.k.n2, h.k.t1, h.k.t2, h.k.r2, k1 (by decide) h.k.x, h.k.lt, h.k.bl, h.k.d.far h.k.bl hst.2 (fun x hx => by simp at hx; omega)⟩, hst.1, ⟨k1 (by decide) hn.1, k1 (by decide) hn.2⟩, hg, h.a, h.r1, h.r2⟩
  have := h.a x (by rw [← h.k.m.r]; exact hx)
  simp at e
  omega
/-- The box gets other values. -/
theorem DKf.box {B p : Nat} {w wr : World} {az ax ar az' ax' ar' : Option Addr} {cz cs cr sn tn rn cz' cs' cr' sn' tn' rn' : Nat} {m m' : Mdl} {ds ds' : List RuD} (h : DKf B p w wr az ax ar cz cs cr sn tn rn m ds)
    (hm : DMd B w.heap.size wr az' ax' ar' cz' cs' cr' sn' tn' rn' m' ds') (h1 : 1 ≤ sn') (h2 : sn' ≤ 10) (h3 : 1 ≤ tn') (h4 : tn' ≤ 10) (h5 : rn' ≤ 300) :
    DKf B p w (set3 wr p (.slice az' sn' cz') (.slice ax' tn' cs') (.slice ar' rn' cr')) az' ax' ar' cz' cs' cr' sn' tn' rn' m' ds' := by
  obtain ⟨hb, hg⟩ := MBox.set3 h.b (.slice az' sn' cz') (.slice ax' tn' cs') (.slice ar' rn' cr')
  have hlt := h.lt
  have hbx : wr.grownBy (set3 wr p (.slice az' sn' cz') (.slice ax' tn' cs') (.slice ar' rn' cr')) (Value.slice (some ⟨p, 0, none⟩) 3 3).ownBlock := hg
  have hbo : wr.ownsRow w.heap.size 25 1 (.slice (some ⟨p, 0, none⟩) 3 3) 3 _ := h.b
  exact ⟨hb, ⟨⟨own_keep hm.o.z hbo (by decide) hbx, own_keep hm.o.s hbo (by decide) hbx, own_keep hm.o.r hbo (by decide) hbx, hm.o.e, fun d hd => ⟨own_keep (hm.o.d d hd).1 hbo (by decide) hbx, own_keep (hm.o.d d hd).2 hbo (by decide) hbx⟩⟩, hm.z, hm.s, hm.r, hm.sep, hm.zb, hm.rb, hm.B⟩,
    h1, h2, h3, h4, h5, MBox.kept h.x hg (fun q hq => by simp at hq; omega), h.lt, h.bl, h.d.set3 h.bl _ _ _ (Nat.le_of_lt h.lt)⟩
/-- Other sizes. -/
theorem DMd.newZ {B base : Nat} {w : World} {az ax ar az' : Option Addr} {cz cs cr sn tn rn cz' sn' : Nat} {m : Mdl} {ds : List RuD} (h : DMd B base w az ax ar cz cs cr sn tn rn m ds) {zs : List Int} (hz : zs.length = sn') (ho : w.ownsRow base 2 1 (.slice az' sn' cz') sn' (ints zs))
    (hsep : ∀ q, (Value.slice az' sn' cz').ownBlock = some q → (Value.slice ax tn cs).ownBlock ≠ some q) (hb : ∀ z ∈ zs, z ≤ 9223372036854775807) : DMd B base w az' ax ar cz' cs cr sn' tn rn { m with sz := zs } ds := by
  refine ⟨⟨?_, h.o.s, h.o.r, h.o.e, h.o.d⟩, hz, h.s, h.r, hsep, hb, h.rb, h.B⟩
  show World.ownsRow _ _ _ _ (.slice az' zs.length cz') zs.length _
  rw [hz]
  exact ho
theorem strs4_at {w : World} (r : Nat) (hr : r < 4) : ∃ nm : ByteArray, nm.size ≤ 100 ∧ (w.alloc (Obj.cells #[Value.string ⟨#[]⟩, Value.string ⟨#[115, 105, 120, 116, 101, 101, 110, 95, 108, 101, 116, 116, 101, 114, 115, 48]⟩, Value.string ⟨#[115, 101, 118, 101, 110, 116, 101, 101, 110, 95, 108, 101, 116, 116, 101, 114, 115]⟩, Value.string ⟨#[71, 111]⟩] 9)).cell? ⟨w.heap.size, r, none⟩ = some (.string nm) := by
  match r, hr with
  | 0, _ => exact ⟨⟨#[]⟩, by decide, by go_simp⟩
  | 1, _ => exact ⟨⟨#[115, 105, 120, 116, 101, 101, 110, 95, 108, 101, 116, 116, 101, 114, 115, 48]⟩, by decide, by go_simp⟩
  | 2, _ => exact ⟨⟨#[115, 101, 118, 101, 110, 116, 101, 101, 110, 95, 108, 101, 116, 116, 101, 114, 115]⟩, by decide, by go_simp⟩
  | 3, _ => exact ⟨⟨#[71, 111]⟩, by decide, by go_simp⟩
theorem tst_zero (i : Nat) (hi : i < 3) : (Tst.cells ⟨0, 0, false⟩)[i]? = some ((#[.int .i64 0, .int .i64 0, .bool false] : Array Value)[i]!) := by
  match i, hi with
  | 0, _ => rfl
  | 1, _ => rfl
  | 2, _ => rfl
theorem made_tst (n : Nat) : (madeCells (Value.agg #[.int .i64 0, .int .i64 0, .bool false]).cells (n * 3)).toList = tstCells (List.replicate n ⟨0, 0, false⟩) := by
  refine List.ext_getElem (by simp [size_madeCells, tstCells_length]) fun j h1 h2 => ?_
  have hj : j < n * 3 := by simpa [size_madeCells] using h1
  have hk : (List.replicate n (⟨0, 0, false⟩ : Tst))[j / 3]? = some ⟨0, 0, false⟩ := by rw [List.getElem?_replicate, if_pos (by omega)]
  have h3 := tstCells_get (i := j % 3) (Nat.mod_lt _ (by decide)) hk
  rw [show j / 3 * 3 + j % 3 = j by omega, tst_zero _ (Nat.mod_lt _ (by decide)), List.getElem?_eq_getElem h2] at h3
  rw [Option.some.inj h3]
  simp only [madeCells, Array.toList_map, List.getElem_map, Value.cells]
  simp only [Array.getElem_toList, Array.getElem_range]
  rfl
theorem own_none {w : World} {base : Nat} {e : TypeId} {size n c : Nat} {xs : List Value} (h : w.ownsRow base e size (.slice none n c) n xs) : n = 0 ∧ c = 0 := by
  rcases h.2 with ⟨hv, hn⟩ | ⟨g, cap, cur, hv, _⟩
  · simp only [Value.slice.injEq, true_and] at hv
    exact hv
  · simp at hv
theorem wpList_append_asg (w : World) {ops : Array Oper} {rest : List Oper} {o : Oper} {a : Act} {Q : Exit → Act → World → Prop} (hgd : o.guard = none) (s x : Operand)
    (ho : o.op = .call { callee := .builtin .append, args := #[s, x], argTypes := #[43, 43] })
    (base : Nat) (v : Value) (n : Nat) (zs ys : List Asg) (ad : Addr) (m c : Nat) (hs : a.eval s = v) (hown : w.ownsRow base 47 2 v n (asgCells zs))
    (hx : a.eval x = .slice (some ad) m c) (hr : Rd w (some ad) (asgCells ys)) (hm : m = ys.length) (hn : n + m ≤ 1000000) (hbase : base ≤ w.heap.size)
    (h : ∀ v' w', w'.ownsRow base 47 2 v' (n + m) (asgCells (zs ++ ys)) → w.grownBy w' v.ownBlock → wpList Tryz.prog ops Q rest (a.put o.dst v') w') : wpList Tryz.prog ops Q (o :: rest) a w := by
  obtain ⟨i0, hi, hz0, hz1, hz2⟩ := info_parts info_iAssign
  refine wpList_append_own w hgd s x 43 ho base 47 i0 _ 2 16 Tryz.underlying43 hi hz0 hz1 hz2 rfl (by decide) v n (asgCells zs) hs hown ad m c (asgCells ys) hx (by rw [asgCells_length, hm]) (news_rd hr rfl) ?_ (by unfold maxLen; omega) (by omega) hbase ?_
  · intro u hu
    obtain ⟨t, _, hu⟩ := List.mem_flatMap.1 hu
    simp only [Asg.cells, List.mem_cons, List.not_mem_nil, or_false] at hu
    rcases hu with rfl | rfl <;> rfl
  · intro v' w' h1 h2 _
    refine h v' w' ?_ h2
    have e : asgCells (zs ++ ys) = asgCells zs ++ asgCells ys := by simp [asgCells]
    rw [e]
    exact h1
theorem wpList_append_rul (w : World) {ops : Array Oper} {rest : List Oper} {o : Oper} {a : Act} {Q : Exit → Act → World → Prop} (hgd : o.guard = none) (s x : Operand)
    (ho : o.op = .call { callee := .builtin .append, args := #[s, x], argTypes := #[23, 23] })
    (base : Nat) (v : Value) (n : Nat) (zs ys : List RuD) (ad : Addr) (m c : Nat) (hs : a.eval s = v) (hown : w.ownsRow base 45 3 v n (rudCells zs))
    (hx : a.eval x = .slice (some ad) m c) (hr : Rd w (some ad) (rudCells ys)) (hm : m = ys.length) (hn : n + m ≤ 1000000) (hbase : base ≤ w.heap.size)
    (h : ∀ v' w', w'.ownsRow base 45 3 v' (n + m) (rudCells (zs ++ ys)) → w.grownBy w' v.ownBlock → wpList Tryz.prog ops Q rest (a.put o.dst v') w') : wpList Tryz.prog ops Q (o :: rest) a w := by
  obtain ⟨i0, hi, hz0, hz1, hz2⟩ := info_parts info_iRule
  refine wpList_append_own w hgd s x 23 ho base 45 i0 _ 3 64 Tryz.underlying23 hi hz0 hz1 hz2 rfl (by decide) v n (rudCells zs) hs hown ad m c (rudCells ys) hx (by rw [rudCells_length, hm]) (news_rd hr rfl) ?_ (by unfold maxLen; omega) (by omega) hbase ?_
  · intro u hu
    obtain ⟨t, _, hu⟩ := List.mem_flatMap.1 hu
    simp only [RuD.cells, List.mem_cons, List.not_mem_nil, or_false] at hu
    rcases hu with rfl | rfl | rfl <;> rfl
  · intro v' w' h1 h2 _
    refine h v' w' ?_ h2
    have e : rudCells (zs ++ ys) = rudCells zs ++ rudCells ys := by simp [rudCells]
    rw [e]
    exact h1
theorem rud_set0 {d1 d : RuD} {l : List RuD} : (((rudCells (d1 :: l)).set 0 (.string d.r.nm)).set 1 d.vg).set 2 d.ve = rudCells (d :: l) := by
  simp [rudCells, RuD.cells]
theorem rul_first {w : World} {base g n c : Nat} {ds : List RuD} {d1 d : RuD} {l : List RuD} (hds : ds = d1 :: l) (h : w.ownsRow base 45 3 (.slice (some ⟨g, 0, none⟩) n c) n (rudCells ds)) :
    (set3 w g (.string d.r.nm) d.vg d.ve).ownsRow base 45 3 (.slice (some ⟨g, 0, none⟩) n c) n (rudCells (d :: l)) ∧ w.grownBy (set3 w g (.string d.r.nm) d.vg d.ve) (some g) := by
  subst hds
  have h0 := h.stored 0 (.string d.r.nm)
  have h1 := h0.1.stored 1 d.vg
  have h2 := h1.1.stored 2 d.ve
  rw [rud_set0] at h2
  exact ⟨h2.1, grown_trans (grown_trans h0.2 h1.2) h2.2⟩
/-- Other rules. -/
theorem DMd.newR {B base : Nat} {w : World} {az ax ar ar' : Option Addr} {cz cs cr sn tn rn cr' rn' : Nat} {m : Mdl} {ds dl : List RuD} (h : DMd B base w az ax ar cz cs cr sn tn rn m ds) (hl : dl.length = rn') (ho : w.ownsRow base 45 3 (.slice ar' rn' cr') rn' (rudCells dl))
    (hn : ∀ d ∈ dl, Nest w base d ∧ d.r.gs.length ≤ 1000 ∧ d.r.es.length ≤ 1000 ∧ d.r.nm.size ≤ 1000) : DMd B base w az ax ar' cz cs cr' sn tn rn' { m with rs := dl.map RuD.r } dl := by
  refine ⟨⟨h.o.z, h.o.s, ?_, rfl, fun d hd => (hn d hd).1⟩, h.z, h.s, by rw [List.length_map, hl], h.sep, h.zb, fun d hd => (hn d hd).2, h.B⟩
  show World.ownsRow _ _ _ _ (.slice ar' (dl.map RuD.r).length cr') (dl.map RuD.r).length _
  rw [List.length_map, hl]
  exact ho
def lenV : Value → Nat
  | .slice _ n _ => n
  | _ => 0
theorem wp_append_tst (w : World) {o : Oper} {a : Act} {K : Act → World → Prop} {Q : Exit → Act → World → Prop} (s x : Operand)
    (ho : o.op = .call { callee := .builtin .append, args := #[s, x], argTypes := #[42, 42] })
    (base : Nat) (v : Value) (n : Nat) (zs ys : List Tst) (ad : Addr) (m c : Nat) (hs : a.eval s = v) (hown : w.ownsRow base 90 3 v n (tstCells zs))
    (hx : a.eval x = .slice (some ad) m c) (hr : Rd w (some ad) (tstCells ys)) (hm : m = ys.length) (hn : n + m ≤ 1000000) (hbase : base ≤ w.heap.size)
    (h : ∀ v' w', w'.ownsRow base 90 3 v' (n + m) (tstCells (zs ++ ys)) → w.grownBy w' v.ownBlock → K (a.put o.dst v') w') : o.wp Tryz.prog a w K Q := by
  obtain ⟨i0, hi, hz0, hz1, hz2⟩ := info_parts info_iTest
  refine wp_append_own w s x 42 ho base 90 i0 _ 3 24 Tryz.underlying42 hi hz0 hz1 hz2 rfl (by decide) v n (tstCells zs) hs hown ad m c (tstCells ys) hx (by rw [tstCells_length, hm]) (news_rd hr rfl) ?_ (by unfold maxLen; omega) (by omega) hbase ?_
  · intro u hu
    obtain ⟨t, _, hu⟩ := List.mem_flatMap.1 hu
    simp only [Tst.cells, List.mem_cons, List.not_mem_nil, or_false] at hu
    rcases hu with rfl | rfl | rfl <;> rfl
  · intro v' w' h1 h2 _
    refine h v' w' ?_ h2
    have e : tstCells (zs ++ ys) = tstCells zs ++ tstCells ys := by simp [tstCells]
    rw [e]
    exact h1
end Go.Proofs.YtgpmglfcdbpgkaaGreatDoor

/- l20Draw: between the orders of the region of a further test. No condition. -/
namespace Go.Proofs.YtgpmglfcdbpgkaaGreatDoor
open Go.RowKit

structure T14 (B q p : Nat) (w2 C : World) (vg bz : Value) : Prop where
  c : C.cell? ⟨q, 1, none⟩ = some vg
  b : C.cell? ⟨p, 0, none⟩ = some bz
  d : DW B w2 C
theorem T14.alloc {B q p : Nat} {w2 C : World} {vg bz : Value} (h : T14 B q p w2 C vg bz) (hB : B < w2.heap.size) (o : Obj) : T14 B q p w2 (C.alloc o) vg bz :=
  ⟨cell_later (below_alloc (Below.refl _ _) o) h.c, cell_later (below_alloc (Below.refl _ _) o) h.b, h.d.alloc hB o⟩
theorem T14.drew {B q p : Nat} {w2 C : World} {vg bz : Value} (h : T14 B q p w2 C vg bz) (hB : B < w2.heap.size) : T14 B q p w2 C.drew vg bz := ⟨h.c, h.b, h.d.drew hB⟩
theorem T14.far {B q p : Nat} {w2 C C' : World} {vg bz : Value} (h : T14 B q p w2 C vg bz) (hB : B < w2.heap.size) (hq : q < w2.heap.size) (hp : p < w2.heap.size) {row : Option Nat} (hg : C.grownBy C' row) (hr : ∀ x, row = some x → w2.heap.size ≤ x) : T14 B q p w2 C' vg bz :=
  ⟨hg.cell h.c (fun e => by have := hr _ e.symm; dsimp only at this; omega), hg.cell h.b (fun e => by have := hr _ e.symm; dsimp only at this; omega), h.d.far hB hg hr⟩
theorem tst_lit (C : World) (g : Nat) (hg : g = C.heap.size) (x y : Int) (z : Bool) : (C.alloc (Obj.cells #[.int .i64 x, .int .i64 y, .bool z] 90)).cell? ⟨g, 0, none⟩ = some (.int .i64 x) ∧ (C.alloc (Obj.cells #[.int .i64 x, .int .i64 y, .bool z] 90)).cell? ⟨g, 1, none⟩ = some (.int .i64 y) ∧ (C.alloc (Obj.cells #[.int .i64 x, .int .i64 y, .bool z] 90)).cell? ⟨g, 2, none⟩ = some (.bool z) := by
  subst hg
  exact ⟨by go_simp, by go_simp, by go_simp⟩
theorem tst_nil (C : World) (g : Nat) (hg : g = C.heap.size) (base : Nat) (hb : base ≤ C.heap.size) : (C.alloc (Obj.cells #[] 90)).ownsRow base 90 3 (.slice (some ⟨g, 0, none⟩) 0 0) 0 (tstCells []) := by
  subst hg
  have := World.ownsRow_made (e := 90) (size := 3) (base := base) C #[] 0 hb (Nat.zero_le _) rfl
  simpa [tstCells] using this
theorem wp_append_tst_any (w : World) {o : Oper} {a : Act} {K : Act → World → Prop} {Q : Exit → Act → World → Prop} (s x : Operand)
    (ho : o.op = .call { callee := .builtin .append, args := #[s, x], argTypes := #[42, 42] })
    (base : Nat) (v : Value) (n : Nat) (zs ys : List Tst) (A : Option Addr) (m c : Nat) (hs : a.eval s = v) (hown : w.ownsRow base 90 3 v n (tstCells zs))
    (hx : a.eval x = .slice A m c) (hr : Rd w A (tstCells ys)) (hA : A = none → m = 0 ∧ c = 0) (hm : m = ys.length) (hn : n + m ≤ 1000000) (hbase : base ≤ w.heap.size)
    (h : ∀ v' w', w'.ownsRow base 90 3 v' (n + m) (tstCells (zs ++ ys)) → w.grownBy w' v.ownBlock → K (a.put o.dst v') w') : o.wp Tryz.prog a w K Q := by
  cases A with
  | some ad => exact wp_append_tst w s x ho base v n zs ys ad m c hs hown hx hr hm hn hbase h
  | none =>
    obtain ⟨rfl, rfl⟩ := hA rfl
    obtain ⟨i0, hi, hz0, hz1, hz2⟩ := info_parts info_iTest
    have hrun := run_append_owned_none (P := Tryz.prog) (w := w) base 42 o.type 90 i0 3 Tryz.underlying42 hi v n _ hown
    have hy : ys = [] := List.eq_nil_of_length_eq_zero hm.symm
    unfold Oper.wp
    simp [execOp, ho, resolve, invoke, builtin, hs, hx, hrun, Result.andThen]
    exact h _ _ (by rw [hy, List.append_nil]; exact hown) (grown_refl _ _)
end Go.Proofs.YtgpmglfcdbpgkaaGreatDoor
