/- Contracts and helpers (joined texts, part 12). The conditions stand at each theorem. -/
import Derived.Test.YtaloheljfefdeaaH11
import Derived.Test.YtaloheljfefdeaaH7
/- l20DrawValid. Condition: none but the source. -/
namespace Go.Proofs.Ytaloheljfefdeaa
open Go.RowKit

set_option maxHeartbeats 2000000 in
set_option maxRecDepth 100000 in
theorem c_l20DrawValid (B : Nat) (w : World) (h : Src w B) : Calls Try.prog 115 #[.pointer (some ⟨B, 0, none⟩)] w (DrMd B 1 4 8 100 w) := by
  have hBl := h.lt
  have HD := Lib.hid ((((DW.start h).alloc hBl (.cells #[.slice none 0 0, .slice none 0 0, .slice none 0 0] 27)).alloc hBl (.cells #[] 2)).alloc hBl (.cells #[] 2))
  have HBX : Hid (MBox (((w.alloc (.cells #[.slice none 0 0, .slice none 0 0, .slice none 0 0] 27)).alloc (.cells #[] 2)).alloc (.cells #[] 2)) w.heap.size w.heap.size (.slice none 0 0) (.slice none 0 0) (.slice none 0 0)) :=
    Lib.hid (own_below (own_below (mbox_new (w := w) _ _ _) (below_alloc (Below.refl _ _) _)) (below_alloc (Below.refl _ _) _))
  have HT : Hid ((((w.alloc (.cells #[.slice none 0 0, .slice none 0 0, .slice none 0 0] 27)).alloc (.cells #[] 2)).alloc (.cells #[] 2)).ownsRow (w.heap.size + 1) 2 1 (.slice (some ⟨w.heap.size + 1, 0, none⟩) 0 0) 0 (ints [])) := Lib.hid (own_below (by
    have := World.ownsRow_made (e := 2) (size := 1) (base := w.heap.size + 1) (w.alloc (.cells #[.slice none 0 0, .slice none 0 0, .slice none 0 0] 27)) #[] 0 (by simp) (Nat.zero_le _) rfl
    simpa [ints] using this) (below_alloc (Below.refl _ _) _))
  have HT2 : Hid ((((w.alloc (.cells #[.slice none 0 0, .slice none 0 0, .slice none 0 0] 27)).alloc (.cells #[] 2)).alloc (.cells #[] 2)).ownsRow (w.heap.size + 1) 2 1 (.slice (some ⟨w.heap.size + 1 + 1, 0, none⟩) 0 0) 0 (ints [])) := Lib.hid (by
    have := World.ownsRow_made (e := 2) (size := 1) (base := w.heap.size + 1) ((w.alloc (.cells #[.slice none 0 0, .slice none 0 0, .slice none 0 0] 27)).alloc (.cells #[] 2)) #[] 0 (by simp) (Nat.zero_le _) rfl
    simpa [ints] using this)
  clear h
  go_enter Try.func115, Try.ntmps115
  go_wp2_with (fail)
  refine (c_NextD B _ _ HD.out.s (by omega)).mono ?_
  rintro e w1 ⟨r, rfl, hr0, hr1, _, hd⟩
  have hrm := hr1 (by omega)
  obtain ⟨j, rfl⟩ : ∃ j : Nat, r = j := ⟨r.toNat, by omega⟩
  have HD1 := Lib.hid (HD.out.then_ hd)
  have HBX1 : Hid (MBox w1 w.heap.size w.heap.size (.slice none 0 0) (.slice none 0 0) (.slice none 0 0)) := Lib.hid (hd.own HBX.out hBl)
  have HTa := Lib.hid (hd.own HT.out (by omega))
  have HTb := Lib.hid (hd.own HT2.out (by omega))
  clear hd hr0 hr1 HD HBX HT HT2
  go_wp2
  go_loopw [3, 4, 5] (fun v u i wr => ∃ (j k : Nat) (zs ss : List Int), j + k ≤ 4 ∧ 1 ≤ j + k ∧ i = .int .i64 j ∧ Hid (zs.length = k) ∧ Hid (ss.length = k) ∧ Hid (∀ z ∈ zs, z ≤ 4) ∧ Hid (wr.ownsRow (w.heap.size + 1) 2 1 v k (ints zs)) ∧ Hid (wr.ownsRow (w.heap.size + 1) 2 1 u k (ints ss)) ∧ Hid (∀ q, v.ownBlock = some q → u.ownBlock ≠ some q) ∧ Hid (MBox wr w.heap.size w.heap.size (.slice none 0 0) (.slice none 0 0) (.slice none 0 0)) ∧ Hid (DW B w wr)) (fun _ _ i _ => (intOf i).toNat)
  case atStart => exact ⟨j + 1, 0, [], [], by omega, by omega, by go_num, Lib.hid rfl, Lib.hid rfl, Lib.hid (by simp), HTa, HTb, Lib.hid (fun q hq hq2 => by simp [Value.ownBlock] at hq hq2; omega), HBX1, HD1⟩
  case round =>
    clear HTa HTb HBX1 HD1 hrm
    obtain ⟨j, k, zs, ss, hjk, hjk1, rfl, hzs, hss, hz4, hv, hu, hsep, hbx, hd⟩ := hrel
    by_cases hj0 : 0 < j
    · obtain ⟨j, rfl⟩ : ∃ j', j = j' + 1 := ⟨j - 1, by omega⟩
      have hji : (0 : Int) < ((j + 1 : Nat) : Int) := by omega
      have hji2 : (0 : Int) < (j : Int) + 1 := by omega
      go_wp2_with (fail)
      refine (c_NextD B _ _ hd.out.s (by omega)).mono ?_
      rintro e w2 ⟨x, rfl, hx0, hx1, _, hd2⟩
      have hxm := hx1 (by omega)
      have HD2 := Lib.hid (hd.out.then_ hd2)
      have HV2 := Lib.hid (hd2.own hv.out (by omega))
      have HU2 := Lib.hid (hd2.own hu.out (by omega))
      have HX2 : Hid (MBox w2 w.heap.size w.heap.size (.slice none 0 0) (.slice none 0 0) (.slice none 0 0)) := Lib.hid (hd2.own hbx.out hBl)
      have hsz2 := (HX2.out).c.2.2.2.2.2.2.2
      clear hd2 hv hu hbx hd hx1
      have hwx : IntKind.i64.wrap (1 + x) = 1 + x := IntWalk.i64_in _ (by omega)
      go_wp2_with (first
        | (at_builtin
           refine wpList_push_int _ (by rfl) (.tmp 24) (.tmp 26) (by rfl) (w.heap.size + 1) _ k zs (1 + x) w2.heap.size 1 (by rfl) (own_below HV2.out (below_alloc (Below.refl _ _) _)) (by rfl) (by go_simp) (by omega) (by simp; omega) ?_
           intro v1 w3 hown1 hgrow _ hnew
           have HW1 := Lib.hid hown1
           have HG3 := Lib.hid hgrow
           have HNW := Lib.hid hnew
           clear hown1 hgrow hnew)
        )
      have hgv := fun q hq => (HV2.out.lt q hq).1
      have HD3 := Lib.hid ((HD2.out.alloc hBl (.cells #[.int .i64 (1 + x)] 2)).far hBl HG3.out (fun q hq => by have := hgv q hq; omega))
      have HU2a := own_below HU2.out (below_alloc (Below.refl _ _) (.cells #[.int .i64 (1 + x)] 2))
      have HSEP3 := Lib.hid (sep_new hsep.out HNW.out HU2a)
      have HU3 := Lib.hid (kept_ne HU2a HG3.out (fun q hq e => hsep.out q e hq))
      have HX3 : Hid (MBox w3 w.heap.size w.heap.size (.slice none 0 0) (.slice none 0 0) (.slice none 0 0)) := Lib.hid (MBox.kept (own_below HX2.out (below_alloc (Below.refl _ _) _)) HG3.out (fun q hq => by have := hgv q hq; omega))
      clear hgv HU2a HNW HG3 HX2 HU2 HD2 hsep hsz2 HV2
      go_wp2_with (fail)
      refine (c_NextD B _ _ HD3.out.s (by omega)).mono ?_
      rintro e w4 ⟨y, rfl, _, _, _, hd4⟩
      have HD4 := Lib.hid (HD3.out.then_ hd4)
      have HV4 := Lib.hid (hd4.own HW1.out (by omega))
      have HU4 := Lib.hid (hd4.own HU3.out (by omega))
      have HX4 : Hid (MBox w4 w.heap.size w.heap.size (.slice none 0 0) (.slice none 0 0) (.slice none 0 0)) := Lib.hid (hd4.own HX3.out hBl)
      have hsz4 := (HX4.out).c.2.2.2.2.2.2.2
      clear hd4 HD3 HW1 HU3 HX3
      go_wp2_with (first
        | (at_builtin
           refine wpList_push_int _ (by rfl) (.tmp 28) (.tmp 32) (by rfl) (w.heap.size + 1) _ k ss y w4.heap.size 1 (by rfl) (own_below HU4.out (below_alloc (Below.refl _ _) _)) (by rfl) (by go_simp) (by omega) (by simp; omega) ?_
           intro u1 w5 hown1 hgrow _ hnew
           have HW5 := Lib.hid hown1
           have HG5 := Lib.hid hgrow
           have HNW := Lib.hid hnew
           clear hown1 hgrow hnew)
        )
      go_roundw
      case rel =>
        have hgu := fun q hq => (HU4.out.lt q hq).1
        have HV4a := own_below HV4.out (below_alloc (Below.refl _ _) (.cells #[.int .i64 y] 2))
        exact ⟨j, k + 1, _, _, by omega, by omega, by go_num, Lib.hid (by rw [List.length_append, hzs.out]; rfl), Lib.hid (by rw [List.length_append, hss.out]; rfl), Lib.hid (fun z hz => by
          rcases List.mem_append.1 hz with hz | hz
          · exact hz4.out z hz
          · rw [List.mem_singleton] at hz; omega), Lib.hid (kept_ne HV4a HG5.out (fun q hq e => HSEP3.out q hq e)), HW5, Lib.hid (sep_new2 HSEP3.out HNW.out HV4a), Lib.hid (MBox.kept (own_below HX4.out (below_alloc (Below.refl _ _) _)) HG5.out (fun q hq => by have := hgu q hq; omega)), Lib.hid ((HD4.out.alloc hBl _).far hBl HG5.out (fun q hq => by have := hgu q hq; omega))⟩
      case measure => simp [intOf] <;> omega
    · have hj1 : j = 0 := by omega
      subst hj1
      obtain ⟨az, cz, hv2⟩ := own_shape hv.out
      subst hv2
      obtain ⟨ax, cs, hv2⟩ := own_shape hu.out
      subst hv2
      have hk1 : 1 ≤ k := by omega
      have hk4 : k ≤ 4 := by omega
      go_wp2_with (fail)
      obtain ⟨wa, rfl⟩ : ∃ wa, wa = wr := ⟨_, rfl⟩
      have hsza := (hbx.out).c.2.2.2.2.2.2.2
      have hBa : B < wa.heap.size := by omega
      have HDa : Hid (DW B wa ((wa.alloc (Obj.cells #[Value.slice az k cz, Value.slice ax k cs, Value.slice none 0 0] 27)).alloc (Obj.cells #[] 54))) := Lib.hid (((DW.start hd.out.s).alloc hBa _).alloc hBa _)
      have HMa : Hid (MBox ((wa.alloc (Obj.cells #[Value.slice az k cz, Value.slice ax k cs, Value.slice none 0 0] 27)).alloc (Obj.cells #[] 54)) wa.heap.size wa.heap.size (Value.slice az k cz) (Value.slice ax k cs) (Value.slice none 0 0)) := Lib.hid (own_below (mbox_new _ _ _) (below_alloc (Below.refl _ _) _))
      have HRa : Hid (((wa.alloc (Obj.cells #[Value.slice az k cz, Value.slice ax k cs, Value.slice none 0 0] 27)).alloc (Obj.cells #[] 54)).ownsRow (wa.heap.size + 1) 54 3 (.slice (some ⟨wa.heap.size + 1, 0, none⟩) 0 0) 0 (rudCells [])) := Lib.hid (by
        have := World.ownsRow_made (e := 54) (size := 3) (base := wa.heap.size + 1) (wa.alloc (Obj.cells #[Value.slice az k cz, Value.slice ax k cs, Value.slice none 0 0] 27)) #[] 0 (by simp) (Nat.zero_le _) rfl
        simpa [rudCells] using this)
      refine (c_NextD B _ _ HDa.out.s (by omega)).mono ?_
      rintro e w6 ⟨r, rfl, hr0, hr1, _, hd6⟩
      have hrm := hr1 (by omega)
      obtain ⟨jj, rfl⟩ : ∃ jj : Nat, r = jj := ⟨r.toNat, by omega⟩
      have hjj : jj ≤ 8 := by omega
      have HD6 := Lib.hid (HDa.out.then_ hd6)
      have HM6 : Hid (MBox w6 wa.heap.size wa.heap.size (Value.slice az k cz) (Value.slice ax k cs) (Value.slice none 0 0)) := Lib.hid (hd6.own HMa.out hBa)
      have HR6 := Lib.hid (hd6.own HRa.out (by omega))
      clear hd6 hr0 hr1 hrm HDa HMa HRa
      go_wp2
      go_loopw [8, 9] (fun v i wr => ∃ (j k2 : Nat) (ds : List RuD), j + k2 ≤ 8 ∧ i = .int .i64 j ∧ Hid (ds.length = k2) ∧ Hid (wr.ownsRow (wa.heap.size + 1) 54 3 v k2 (rudCells ds)) ∧ Hid (∀ d ∈ ds, Nest wr (wa.heap.size + 1) d ∧ d.r.gs.length ≤ 100 ∧ d.r.es.length ≤ 100 ∧ d.r.nm.size ≤ 100) ∧ Hid (MBox wr wa.heap.size wa.heap.size (Value.slice az k cz) (Value.slice ax k cs) (Value.slice none 0 0)) ∧ Hid (DW B wa wr)) (fun _ i _ => (intOf i).toNat)
      case atStart => exact ⟨jj, 0, [], by omega, rfl, Lib.hid rfl, HR6, Lib.hid (by simp), HM6, HD6⟩
      case round =>
        clear HR6 HM6 HD6 hjj
        obtain ⟨j, k2, ds, hjk, rfl, hds, hr, hnest, hmb, hdw⟩ := hrel
        obtain ⟨wb, rfl⟩ : ∃ wb, wb = wr := ⟨_, rfl⟩
        have hszb := (hmb.out).c.2.2.2.2.2.2.2
        have hBb : B < wb.heap.size := by omega
        by_cases hj0 : 0 < j
        · have hji : (0 : Int) < (j : Int) := by omega
          have HDb : Hid (DW B wb (wb.alloc (Obj.cells #[] 104))) := Lib.hid ((DW.start hdw.out.s).alloc hBb _)
          have HEb : Hid ((wb.alloc (Obj.cells #[] 104)).ownsRow wb.heap.size 104 2 (.slice (some ⟨wb.heap.size, 0, none⟩) 0 0) 0 (asgCells [])) := Lib.hid (by
            have := World.ownsRow_made (e := 104) (size := 2) (base := wb.heap.size) wb #[] 0 (by simp) (Nat.zero_le _) rfl
            simpa [asgCells] using this)
          go_wp2
          go_loopw [10, 11] (fun v i wr => ∃ (q k3 : Nat) (es : List Asg), q ≤ k ∧ k3 ≤ 4 ∧ i = .int .i64 q ∧ Hid (es.length = k3) ∧ Hid (wr.ownsRow wb.heap.size 104 2 v k3 (asgCells es)) ∧ Hid (DW B wb wr)) (fun _ i _ => k - (intOf i).toNat)
          case atStart => exact ⟨0, 0, [], Nat.zero_le _, Nat.zero_le _, rfl, Lib.hid rfl, HEb, HDb⟩
          case round =>
            clear HEb HDb
            obtain ⟨q, k3, es, hq, hk3, rfl, hes, he, hdy⟩ := hrel
            obtain ⟨A10, c10, hv2⟩ := own_shape he.out
            subst hv2
            by_cases hqk : q < k
            · have hqi : (q : Int) < (k : Int) := by omega
              have hq0 : (0 : Int) ≤ (q : Int) := by omega
              go_wp2_with (fail)
              refine (c_NextD B _ _ hdy.out.s (by omega)).mono ?_
              rintro e w8 ⟨x, rfl, _, _, _, hd8⟩
              have HD8 := Lib.hid (hdy.out.then_ hd8)
              have HE8 := Lib.hid (hd8.own he.out (by omega))
              clear hd8 he hdy
              by_cases hx0 : x = 0
              · subst hx0
                by_cases hk34 : k3 < 4
                · have hk3i : (k3 : Int) < 4 := by omega
                  obtain ⟨z, hz⟩ : ∃ z, zs[q]? = some z := ⟨_, List.getElem?_eq_getElem (by have := hzs.out; omega)⟩
                  obtain ⟨zb, zo, hze, _, z0⟩ := (Rd.own (HD8.out.own (hdw.out.own hv.out (by omega)) (by omega))).int hz
                  have hzz := hz4.out z (List.mem_of_getElem? hz)
                  clear hz
                  subst hze
                  go_wp2_with (fail)
                  refine (c_NextD B _ _ HD8.out.s (by omega)).mono ?_
                  rintro e w9 ⟨y, rfl, _, _, _, hd9⟩
                  have HD9 := Lib.hid (HD8.out.then_ hd9)
                  have HE9 := Lib.hid (hd9.own HE8.out (by omega))
                  have hsz9 := HD9.out.g.size
                  clear hd9 HD8 HE8 z0
                  go_wp2_with (first
                    | (at_builtin
                       refine wpList_push_asg _ (by rfl) (.tmp 59) (.tmp 68) (by rfl) wb.heap.size _ k3 es ⟨(q : Int), y⟩ w9.heap.size 1 (by rfl) (own_below HE9.out (below_alloc (Below.refl _ _) _)) (by rfl) (by go_simp) (by go_simp) (by omega) (by simp; omega) ?_
                       intro v1 wc hown1 hgrow
                       have HWc := Lib.hid hown1
                       have HGc := Lib.hid hgrow
                       clear hown1 hgrow)
                    )
                  go_roundw
                  case rel => exact ⟨q + 1, k3 + 1, _, by omega, by omega, by go_num, Lib.hid (by rw [List.length_append, hes.out]; rfl), HWc, Lib.hid ((HD9.out.alloc hBb _).far hBb HGc.out (fun q hq => (HE9.out.lt q hq).1))⟩
                  case measure => simp [intOf] <;> omega
                · have hk3i : ¬ (k3 : Int) < 4 := by omega
                  go_wp2
                  go_roundw
                  case rel => exact ⟨q + 1, k3, es, by omega, hk3, by go_num, hes, HE8, HD8⟩
                  case measure => simp [intOf] <;> omega
              · have hx0b : (x == 0) = false := by simpa using hx0
                go_wp2
                go_roundw
                case rel => exact ⟨q + 1, k3, es, by omega, hk3, by go_num, hes, HE8, HD8⟩
                case measure => simp [intOf] <;> omega
            · have hqk2 : q = k := by omega
              subst hqk2
              obtain ⟨wy, rfl⟩ : ∃ wy, wy = wr := ⟨_, rfl⟩
              have HDy := Lib.hid hdy.out
              have HEy := Lib.hid he.out
              have hszy := HDy.out.g.size
              have hBy : B < wy.heap.size := by omega
              obtain ⟨m0, m1, m2, _, _, _, _, hmlt⟩ := MBox.c (HDy.out.own hmb.out (by omega))
              clear he hdy
              have HD0 := Lib.hid (DW.start HDy.out.s)
              go_wp2
              -- REGION
              refine wp_region_heldE 13 (S := (fun w' => w'.cell? ⟨wa.heap.size, 0, none⟩ = some (Value.slice az q cz) ∧ w'.cell? ⟨wa.heap.size, 1, none⟩ = some (Value.slice ax q cs) ∧ w'.cell? ⟨wa.heap.size, 2, none⟩ = some (Value.slice none 0 0))) (by kernel_rfl) ?_ (fun hHeld => ?_)
              · exact ⟨m0, m1, m2⟩
              refine rgE_take (v := ?_) 0 12 rfl (by kernel_rfl) (by kernel_rfl) (by kernel_rfl) (by kernel_rfl) (by kernel_rfl) (fun _ _ _ h => h) (by kernel_rfl) ?_ (by assumption) ?_
              rotate_left
              · (intro w' hSw; (try dsimp only at hSw); go_simp; first | done | with_reducible rfl)
              simp only [Act.put, List.setIfInBounds_toArray, List.set_cons_zero, List.set_cons_succ]
              refine rgE_take (v := ?_) 2 12 rfl (by kernel_rfl) (by kernel_rfl) (by kernel_rfl) (by kernel_rfl) (by kernel_rfl) (fun _ _ _ h => h) (by kernel_rfl) ?_ (by assumption) ?_
              rotate_left
              · (intro w' hSw; (try dsimp only at hSw); go_simp; first | done | with_reducible rfl)
              simp only [Act.put, List.setIfInBounds_toArray, List.set_cons_zero, List.set_cons_succ]
              refine rgE_take (v := ?_) 6 12 rfl (by kernel_rfl) (by kernel_rfl) (by kernel_rfl) (by kernel_rfl) (by kernel_rfl) (fun _ _ _ h => h) (by kernel_rfl) ?_ (by assumption) ?_
              rotate_left
              · (intro w' hSw; (try dsimp only at hSw); go_simp; first | done | with_reducible rfl)
              simp only [Act.put, List.setIfInBounds_toArray, List.set_cons_zero, List.set_cons_succ]
              refine rgE_take (v := ?_) 7 12 rfl (by kernel_rfl) (by kernel_rfl) (by kernel_rfl) (by kernel_rfl) (by kernel_rfl) (fun _ _ _ h => h) (by kernel_rfl) ?_ (by assumption) ?_
              rotate_left
              · (intro w' hSw; (try dsimp only at hSw); go_simp; first | done | with_reducible rfl)
              simp only [Act.put, List.setIfInBounds_toArray, List.set_cons_zero, List.set_cons_succ]
              refine rgE_take (v := ?_) 9 12 rfl (by kernel_rfl) (by kernel_rfl) (by kernel_rfl) (by kernel_rfl) (by kernel_rfl) (fun _ _ _ h => h) (by kernel_rfl) ?_ (by assumption) ?_
              rotate_left
              · (intro w' hSw; (try dsimp only at hSw); go_simp; first | done | with_reducible rfl)
              simp only [Act.put, List.setIfInBounds_toArray, List.set_cons_zero, List.set_cons_succ]
              refine rgE_two 1 3 rfl rfl (by kernel_rfl) (by kernel_rfl) (by kernel_rfl) (by decide) (by decide) (fun K hK => ?_) (fun K hK => ?_)
              · skip
                go_simp
                replace m0 := cell_later (below_alloc (Below.refl _ wy) (Obj.cells #[Value.string ⟨#[103, 111]⟩, Value.string ⟨#[115, 116, 111, 112, 95, 49]⟩, Value.string ⟨#[111, 112, 101, 110]⟩, Value.string ⟨#[99, 108, 111, 115, 101]⟩, Value.string ⟨#[102, 97, 105, 108]⟩, Value.string ⟨#[114, 50]⟩] 9)) (by exact m0)
                replace m1 := cell_later (below_alloc (Below.refl _ wy) (Obj.cells #[Value.string ⟨#[103, 111]⟩, Value.string ⟨#[115, 116, 111, 112, 95, 49]⟩, Value.string ⟨#[111, 112, 101, 110]⟩, Value.string ⟨#[99, 108, 111, 115, 101]⟩, Value.string ⟨#[102, 97, 105, 108]⟩, Value.string ⟨#[114, 50]⟩] 9)) (by exact m1)
                replace m2 := cell_later (below_alloc (Below.refl _ wy) (Obj.cells #[Value.string ⟨#[103, 111]⟩, Value.string ⟨#[115, 116, 111, 112, 95, 49]⟩, Value.string ⟨#[111, 112, 101, 110]⟩, Value.string ⟨#[99, 108, 111, 115, 101]⟩, Value.string ⟨#[102, 97, 105, 108]⟩, Value.string ⟨#[114, 50]⟩] 9)) (by exact m2)
                have HSR := Lib.hid (strs6_at (w := wy))
                have HD1 : Hid (DW B wy (wy.alloc (Obj.cells #[Value.string ⟨#[103, 111]⟩, Value.string ⟨#[115, 116, 111, 112, 95, 49]⟩, Value.string ⟨#[111, 112, 101, 110]⟩, Value.string ⟨#[99, 108, 111, 115, 101]⟩, Value.string ⟨#[102, 97, 105, 108]⟩, Value.string ⟨#[114, 50]⟩] 9)).drew) := Lib.hid ((HD0.out.alloc hBy (Obj.cells #[Value.string ⟨#[103, 111]⟩, Value.string ⟨#[115, 116, 111, 112, 95, 49]⟩, Value.string ⟨#[111, 112, 101, 110]⟩, Value.string ⟨#[99, 108, 111, 115, 101]⟩, Value.string ⟨#[102, 97, 105, 108]⟩, Value.string ⟨#[114, 50]⟩] 9)).drew hBy)
                clear hHeld
                refine hK.out _ _ (.inr ⟨m0, m1, m2⟩) (fun hHeld => ?_)
                clear hK K
                try simp only [Act.put, List.setIfInBounds_toArray, List.set_cons_zero, List.set_cons_succ]
                refine rgE_run 3 rfl (by kernel_rfl) (by kernel_rfl) (by decide) (fun K hK => ?_)
                go_simp
                refine (c_NextD B _ _ HD1.out.s (by omega)).mono ?_
                rintro e x3 ⟨rr, rfl, hr0, hr1, _, hd⟩
                have hr7 := hr1 (by omega)
                obtain ⟨r, rfl⟩ : ∃ r : Nat, rr = r := ⟨rr.toNat, by omega⟩
                have hr6 : r < 6 := by omega
                have hr6i : (r : Int) < 6 := by omega
                have hr6j : (0 : Int) ≤ (r : Int) := by omega
                replace m0 := hd.cell (by exact m0) (by omega)
                replace m1 := hd.cell (by exact m1) (by omega)
                replace m2 := hd.cell (by exact m2) (by omega)
                obtain ⟨nm, hnm, g5⟩ := HSR.out r hr6
                replace g5 := hd.cell (by exact g5) (by omega)
                have HD3 := Lib.hid (HD1.out.then_ hd)
                clear hd hr0 hr1 hr7
                go_wp2
                clear hHeld
                refine hK.out _ _ (.inr ⟨m0, m1, m2⟩) (fun hHeld => ?_)
                clear hK K
                try simp only [Act.put, List.setIfInBounds_toArray, List.set_cons_zero, List.set_cons_succ]
                refine rgE_take (v := ?_) 4 12 rfl (by kernel_rfl) (by kernel_rfl) (by kernel_rfl) (by kernel_rfl) (by kernel_rfl) (fun _ _ _ h => h) (by kernel_rfl) ?_ (by assumption) ?_
                rotate_left
                · (intro w' hSw; (try dsimp only at hSw); go_simp; first | done | with_reducible rfl)
                simp only [Act.put, List.setIfInBounds_toArray, List.set_cons_zero, List.set_cons_succ]
                refine rgE_two 5 8 rfl rfl (by kernel_rfl) (by kernel_rfl) (by kernel_rfl) (by decide) (by decide) (fun K hK => ?_) (fun K hK => ?_)
                · skip
                  go_simp
                  clear hHeld
                  refine hK.out _ _ (.inr ⟨m0, m1, m2⟩) (fun hHeld => ?_)
                  clear hK K
                  try simp only [Act.put, List.setIfInBounds_toArray, List.set_cons_zero, List.set_cons_succ]
                  refine rgE_run 8 rfl (by kernel_rfl) (by kernel_rfl) (by decide) (fun K hK => ?_)
                  go_simp
                  refine (c_l20DrawTests B 2 (w.heap.size + 1) az ax none cz cs 0 q q 0 zs _ HD3.out.s (by omega) hzs.out hk1 (by omega) (fun z hz => by have := hz4.out z hz; omega) (by omega) (HD3.out.own (HDy.out.own (hdw.out.own hv.out (by omega)) (by omega)) (by omega))).mono ?_
                  rintro e x8 ⟨At, ct, tn, ts, rfl, htl, htn, hto, hd⟩
                  have HTO := Lib.hid (own_mono hto HD3.out.g.size)
                  have HTL := Lib.hid htl
                  replace m0 := hd.cell (by exact m0) (by omega)
                  replace m1 := hd.cell (by exact m1) (by omega)
                  replace m2 := hd.cell (by exact m2) (by omega)
                  replace g5 := hd.cell (by exact g5) (by have := HD3.out.s.lt; omega)
                  have HD8 := Lib.hid (HD3.out.then_ hd)
                  clear hd hto htl
                  go_wp2
                  clear hHeld
                  refine hK.out _ _ (.inr ⟨m0, m1, m2⟩) (fun hHeld => ?_)
                  clear hK K
                  try simp only [Act.put, List.setIfInBounds_toArray, List.set_cons_zero, List.set_cons_succ]
                  refine rgE_take (v := ?_) 10 12 rfl (by kernel_rfl) (by kernel_rfl) (by kernel_rfl) (by kernel_rfl) (by kernel_rfl) (fun _ _ _ h => h) (by kernel_rfl) ?_ (by assumption) ?_
                  rotate_left
                  · (intro w' hSw; (try dsimp only at hSw); go_simp; first | done | with_reducible rfl)
                  simp only [Act.put, List.setIfInBounds_toArray, List.set_cons_zero, List.set_cons_succ]
                  refine rgE_run 11 rfl (by kernel_rfl) (by kernel_rfl) (by decide) (fun K hK => ?_)
                  go_simp
                  replace m0 := cell_later (below_alloc (Below.refl _ x8) (Obj.cells #[Value.string nm, Value.slice At tn ct, Value.slice A10 k3 c10] 54)) (by exact m0)
                  replace m1 := cell_later (below_alloc (Below.refl _ x8) (Obj.cells #[Value.string nm, Value.slice At tn ct, Value.slice A10 k3 c10] 54)) (by exact m1)
                  replace m2 := cell_later (below_alloc (Below.refl _ x8) (Obj.cells #[Value.string nm, Value.slice At tn ct, Value.slice A10 k3 c10] 54)) (by exact m2)
                  have HDB : Hid (DW B wy (x8.alloc (Obj.cells #[Value.string nm, Value.slice At tn ct, Value.slice A10 k3 c10] 54))) := Lib.hid (HD8.out.alloc hBy (Obj.cells #[Value.string nm, Value.slice At tn ct, Value.slice A10 k3 c10] 54))
                  have HDB2 : Hid (DW B wb (x8.alloc (Obj.cells #[Value.string nm, Value.slice At tn ct, Value.slice A10 k3 c10] 54))) := Lib.hid (HDy.out.then_ HDB.out)
                  have HTB := Lib.hid (own_below HTO.out (below_alloc (Below.refl _ x8) (Obj.cells #[Value.string nm, Value.slice At tn ct, Value.slice A10 k3 c10] 54)))
                  have HEB := Lib.hid (HDB.out.own HEy.out (by omega))
                  have HRB := Lib.hid (HDB2.out.own hr.out (by omega))
                  have HMB : Hid (MBox (x8.alloc (Obj.cells #[Value.string nm, Value.slice At tn ct, Value.slice A10 k3 c10] 54)) wa.heap.size wa.heap.size (Value.slice az q cz) (Value.slice ax q cs) (Value.slice none 0 0)) := Lib.hid (HDB2.out.own hmb.out (by omega))
                  have HNB : Hid (∀ d ∈ ds, Nest (x8.alloc (Obj.cells #[Value.string nm, Value.slice At tn ct, Value.slice A10 k3 c10] 54)) (wa.heap.size + 1) d) := Lib.hid (fun d hd => ⟨HDB2.out.own (hnest.out d hd).1.1 (by omega), HDB2.out.own (hnest.out d hd).1.2 (by omega)⟩)
                  have hszc := HD8.out.g.size
                  clear hHeld
                  refine hK.out _ _ (.inr ⟨m0, m1, m2⟩) (fun hHeld => ?_)
                  clear hK K
                  try simp only [Act.put, List.setIfInBounds_toArray, List.set_cons_zero, List.set_cons_succ]
                  refine rgE_run 12 rfl (by kernel_rfl) (by kernel_rfl) (by decide) (fun K hK => ?_)
                  refine wp_push_rul _ (.tmp 70) (.tmp 81) rfl (wa.heap.size + 1) _ k2 ds ⟨⟨nm, ts, es⟩, At, ct, A10, c10⟩ x8.heap.size 1 rfl HRB.out rfl (by go_simp) (by dsimp only [RuD.vg]; rw [HTL.out]; go_simp) (by dsimp only [RuD.ve]; rw [hes.out]; go_simp) (by omega) (by simp; omega) ?_
                  intro v1 w7 hown1 hgrow
                  simp only [Act.put, List.setIfInBounds_toArray, List.set_cons_zero, List.set_cons_succ]
                  have hgv := fun q hq => (HRB.out.lt q hq).1
                  replace m0 := hgrow.cell (by exact m0) (fun e => by have := hgv _ e.symm; dsimp only at this; omega)
                  replace m1 := hgrow.cell (by exact m1) (fun e => by have := hgv _ e.symm; dsimp only at this; omega)
                  replace m2 := hgrow.cell (by exact m2) (fun e => by have := hgv _ e.symm; dsimp only at this; omega)
                  have HW7 := Lib.hid hown1
                  have HN7 : Hid (∀ d ∈ ds ++ [(⟨⟨nm, ts, es⟩, At, ct, A10, c10⟩ : RuD)], Nest w7 (wa.heap.size + 1) d ∧ d.r.gs.length ≤ 100 ∧ d.r.es.length ≤ 100 ∧ d.r.nm.size ≤ 100) := Lib.hid (fun d hd => by
                    rcases List.mem_append.1 hd with hd | hd
                    · exact ⟨⟨own_keep (HNB.out d hd).1 HRB.out (by decide) hgrow, own_keep (HNB.out d hd).2 HRB.out (by decide) hgrow⟩, (hnest.out d hd).2⟩
                    · rw [List.mem_singleton] at hd
                      subst hd
                      refine ⟨⟨?_, ?_⟩, by show ts.length ≤ 100; rw [HTL.out]; omega, by show es.length ≤ 100; rw [hes.out]; omega, hnm⟩
                      · dsimp only [RuD.vg]; rw [HTL.out]; exact own_mono (own_keep HTB.out HRB.out (by decide) hgrow) (by omega)
                      · dsimp only [RuD.ve]; rw [hes.out]; exact own_mono (own_keep HEB.out HRB.out (by decide) hgrow) (by omega))
                  have HM7 : Hid (MBox w7 wa.heap.size wa.heap.size (Value.slice az q cz) (Value.slice ax q cs) (Value.slice none 0 0)) := Lib.hid (MBox.kept HMB.out hgrow (fun q hq => by have := hgv q hq; omega))
                  have HD7 : Hid (DW B wa w7) := Lib.hid ((hdw.out.then_ HDB2.out).far hBa hgrow (fun q hq => by have := hgv q hq; omega))
                  clear hown1 hgrow hgv
                  clear hHeld
                  refine hK.out _ _ (.inr ⟨m0, m1, m2⟩) (fun hHeld => ?_)
                  clear hK K
                  try simp only [Act.put, List.setIfInBounds_toArray, List.set_cons_zero, List.set_cons_succ]
                  refine rgE_last rfl (by kernel_rfl) (by kernel_rfl) (by kernel_rfl) (fun K hK => ?_)
                  go_simp
                  go_simp
                  clear hHeld
                  refine hK.out _ _ ?_
                  clear hK K
                  try simp only [Act.put, List.setIfInBounds_toArray, List.set_cons_zero, List.set_cons_succ]
                  go_wp2
                  go_roundw
                  case rel => exact ⟨j - 1, k2 + 1, _, by omega, by go_num, Lib.hid (by rw [List.length_append, hds.out]; rfl), HW7, HN7, HM7, HD7⟩
                  case measure => simp [intOf]; omega
                · skip
                  go_simp
                  refine (c_l20DrawTests B 2 (w.heap.size + 1) az ax none cz cs 0 q q 0 zs _ HD3.out.s (by omega) hzs.out hk1 (by omega) (fun z hz => by have := hz4.out z hz; omega) (by omega) (HD3.out.own (HDy.out.own (hdw.out.own hv.out (by omega)) (by omega)) (by omega))).mono ?_
                  rintro e x8 ⟨At, ct, tn, ts, rfl, htl, htn, hto, hd⟩
                  have HTO := Lib.hid (own_mono hto HD3.out.g.size)
                  have HTL := Lib.hid htl
                  replace m0 := hd.cell (by exact m0) (by omega)
                  replace m1 := hd.cell (by exact m1) (by omega)
                  replace m2 := hd.cell (by exact m2) (by omega)
                  replace g5 := hd.cell (by exact g5) (by have := HD3.out.s.lt; omega)
                  have HD8 := Lib.hid (HD3.out.then_ hd)
                  clear hd hto htl
                  go_wp2
                  clear hHeld
                  refine hK.out _ _ (.inr ⟨m0, m1, m2⟩) (fun hHeld => ?_)
                  clear hK K
                  try simp only [Act.put, List.setIfInBounds_toArray, List.set_cons_zero, List.set_cons_succ]
                  refine rgE_run 5 rfl (by kernel_rfl) (by kernel_rfl) (by decide) (fun K hK => ?_)
                  go_simp
                  clear hHeld
                  refine hK.out _ _ (.inr ⟨m0, m1, m2⟩) (fun hHeld => ?_)
                  clear hK K
                  try simp only [Act.put, List.setIfInBounds_toArray, List.set_cons_zero, List.set_cons_succ]
                  refine rgE_take (v := ?_) 10 12 rfl (by kernel_rfl) (by kernel_rfl) (by kernel_rfl) (by kernel_rfl) (by kernel_rfl) (fun _ _ _ h => h) (by kernel_rfl) ?_ (by assumption) ?_
                  rotate_left
                  · (intro w' hSw; (try dsimp only at hSw); go_simp; first | done | with_reducible rfl)
                  simp only [Act.put, List.setIfInBounds_toArray, List.set_cons_zero, List.set_cons_succ]
                  refine rgE_run 11 rfl (by kernel_rfl) (by kernel_rfl) (by decide) (fun K hK => ?_)
                  go_simp
                  replace m0 := cell_later (below_alloc (Below.refl _ x8) (Obj.cells #[Value.string nm, Value.slice At tn ct, Value.slice A10 k3 c10] 54)) (by exact m0)
                  replace m1 := cell_later (below_alloc (Below.refl _ x8) (Obj.cells #[Value.string nm, Value.slice At tn ct, Value.slice A10 k3 c10] 54)) (by exact m1)
                  replace m2 := cell_later (below_alloc (Below.refl _ x8) (Obj.cells #[Value.string nm, Value.slice At tn ct, Value.slice A10 k3 c10] 54)) (by exact m2)
                  have HDB : Hid (DW B wy (x8.alloc (Obj.cells #[Value.string nm, Value.slice At tn ct, Value.slice A10 k3 c10] 54))) := Lib.hid (HD8.out.alloc hBy (Obj.cells #[Value.string nm, Value.slice At tn ct, Value.slice A10 k3 c10] 54))
                  have HDB2 : Hid (DW B wb (x8.alloc (Obj.cells #[Value.string nm, Value.slice At tn ct, Value.slice A10 k3 c10] 54))) := Lib.hid (HDy.out.then_ HDB.out)
                  have HTB := Lib.hid (own_below HTO.out (below_alloc (Below.refl _ x8) (Obj.cells #[Value.string nm, Value.slice At tn ct, Value.slice A10 k3 c10] 54)))
                  have HEB := Lib.hid (HDB.out.own HEy.out (by omega))
                  have HRB := Lib.hid (HDB2.out.own hr.out (by omega))
                  have HMB : Hid (MBox (x8.alloc (Obj.cells #[Value.string nm, Value.slice At tn ct, Value.slice A10 k3 c10] 54)) wa.heap.size wa.heap.size (Value.slice az q cz) (Value.slice ax q cs) (Value.slice none 0 0)) := Lib.hid (HDB2.out.own hmb.out (by omega))
                  have HNB : Hid (∀ d ∈ ds, Nest (x8.alloc (Obj.cells #[Value.string nm, Value.slice At tn ct, Value.slice A10 k3 c10] 54)) (wa.heap.size + 1) d) := Lib.hid (fun d hd => ⟨HDB2.out.own (hnest.out d hd).1.1 (by omega), HDB2.out.own (hnest.out d hd).1.2 (by omega)⟩)
                  have hszc := HD8.out.g.size
                  clear hHeld
                  refine hK.out _ _ (.inr ⟨m0, m1, m2⟩) (fun hHeld => ?_)
                  clear hK K
                  try simp only [Act.put, List.setIfInBounds_toArray, List.set_cons_zero, List.set_cons_succ]
                  refine rgE_run 12 rfl (by kernel_rfl) (by kernel_rfl) (by decide) (fun K hK => ?_)
                  refine wp_push_rul _ (.tmp 70) (.tmp 81) rfl (wa.heap.size + 1) _ k2 ds ⟨⟨nm, ts, es⟩, At, ct, A10, c10⟩ x8.heap.size 1 rfl HRB.out rfl (by go_simp) (by dsimp only [RuD.vg]; rw [HTL.out]; go_simp) (by dsimp only [RuD.ve]; rw [hes.out]; go_simp) (by omega) (by simp; omega) ?_
                  intro v1 w7 hown1 hgrow
                  simp only [Act.put, List.setIfInBounds_toArray, List.set_cons_zero, List.set_cons_succ]
                  have hgv := fun q hq => (HRB.out.lt q hq).1
                  replace m0 := hgrow.cell (by exact m0) (fun e => by have := hgv _ e.symm; dsimp only at this; omega)
                  replace m1 := hgrow.cell (by exact m1) (fun e => by have := hgv _ e.symm; dsimp only at this; omega)
                  replace m2 := hgrow.cell (by exact m2) (fun e => by have := hgv _ e.symm; dsimp only at this; omega)
                  have HW7 := Lib.hid hown1
                  have HN7 : Hid (∀ d ∈ ds ++ [(⟨⟨nm, ts, es⟩, At, ct, A10, c10⟩ : RuD)], Nest w7 (wa.heap.size + 1) d ∧ d.r.gs.length ≤ 100 ∧ d.r.es.length ≤ 100 ∧ d.r.nm.size ≤ 100) := Lib.hid (fun d hd => by
                    rcases List.mem_append.1 hd with hd | hd
                    · exact ⟨⟨own_keep (HNB.out d hd).1 HRB.out (by decide) hgrow, own_keep (HNB.out d hd).2 HRB.out (by decide) hgrow⟩, (hnest.out d hd).2⟩
                    · rw [List.mem_singleton] at hd
                      subst hd
                      refine ⟨⟨?_, ?_⟩, by show ts.length ≤ 100; rw [HTL.out]; omega, by show es.length ≤ 100; rw [hes.out]; omega, hnm⟩
                      · dsimp only [RuD.vg]; rw [HTL.out]; exact own_mono (own_keep HTB.out HRB.out (by decide) hgrow) (by omega)
                      · dsimp only [RuD.ve]; rw [hes.out]; exact own_mono (own_keep HEB.out HRB.out (by decide) hgrow) (by omega))
                  have HM7 : Hid (MBox w7 wa.heap.size wa.heap.size (Value.slice az q cz) (Value.slice ax q cs) (Value.slice none 0 0)) := Lib.hid (MBox.kept HMB.out hgrow (fun q hq => by have := hgv q hq; omega))
                  have HD7 : Hid (DW B wa w7) := Lib.hid ((hdw.out.then_ HDB2.out).far hBa hgrow (fun q hq => by have := hgv q hq; omega))
                  clear hown1 hgrow hgv
                  clear hHeld
                  refine hK.out _ _ (.inr ⟨m0, m1, m2⟩) (fun hHeld => ?_)
                  clear hK K
                  try simp only [Act.put, List.setIfInBounds_toArray, List.set_cons_zero, List.set_cons_succ]
                  refine rgE_last rfl (by kernel_rfl) (by kernel_rfl) (by kernel_rfl) (fun K hK => ?_)
                  go_simp
                  go_simp
                  clear hHeld
                  refine hK.out _ _ ?_
                  clear hK K
                  try simp only [Act.put, List.setIfInBounds_toArray, List.set_cons_zero, List.set_cons_succ]
                  go_wp2
                  go_roundw
                  case rel => exact ⟨j - 1, k2 + 1, _, by omega, by go_num, Lib.hid (by rw [List.length_append, hds.out]; rfl), HW7, HN7, HM7, HD7⟩
                  case measure => simp [intOf]; omega
              · skip
                go_simp
                have HD9 := Lib.hid (HD0.out.drew hBy)
                refine (c_NextD B _ _ HD9.out.s (by omega)).mono ?_
                rintro e x3 ⟨rr, rfl, hr0, hr1, _, hd⟩
                have hr7 := hr1 (by omega)
                obtain ⟨r, rfl⟩ : ∃ r : Nat, rr = r := ⟨rr.toNat, by omega⟩
                have hr6 : r < 6 := by omega
                have hr6i : (r : Int) < 6 := by omega
                have hr6j : (0 : Int) ≤ (r : Int) := by omega
                replace m0 := hd.cell (by exact m0) (by omega)
                replace m1 := hd.cell (by exact m1) (by omega)
                replace m2 := hd.cell (by exact m2) (by omega)
                have HD3 := Lib.hid (HD9.out.then_ hd)
                clear hd hr0 hr1 hr7
                go_wp2
                clear hHeld
                refine hK.out _ _ (.inr ⟨m0, m1, m2⟩) (fun hHeld => ?_)
                clear hK K
                try simp only [Act.put, List.setIfInBounds_toArray, List.set_cons_zero, List.set_cons_succ]
                refine rgE_two 1 8 rfl rfl (by kernel_rfl) (by kernel_rfl) (by kernel_rfl) (by decide) (by decide) (fun K hK => ?_) (fun K hK => ?_)
                · skip
                  go_simp
                  replace m0 := cell_later (below_alloc (Below.refl _ x3) (Obj.cells #[Value.string ⟨#[103, 111]⟩, Value.string ⟨#[115, 116, 111, 112, 95, 49]⟩, Value.string ⟨#[111, 112, 101, 110]⟩, Value.string ⟨#[99, 108, 111, 115, 101]⟩, Value.string ⟨#[102, 97, 105, 108]⟩, Value.string ⟨#[114, 50]⟩] 9)) (by exact m0)
                  replace m1 := cell_later (below_alloc (Below.refl _ x3) (Obj.cells #[Value.string ⟨#[103, 111]⟩, Value.string ⟨#[115, 116, 111, 112, 95, 49]⟩, Value.string ⟨#[111, 112, 101, 110]⟩, Value.string ⟨#[99, 108, 111, 115, 101]⟩, Value.string ⟨#[102, 97, 105, 108]⟩, Value.string ⟨#[114, 50]⟩] 9)) (by exact m1)
                  replace m2 := cell_later (below_alloc (Below.refl _ x3) (Obj.cells #[Value.string ⟨#[103, 111]⟩, Value.string ⟨#[115, 116, 111, 112, 95, 49]⟩, Value.string ⟨#[111, 112, 101, 110]⟩, Value.string ⟨#[99, 108, 111, 115, 101]⟩, Value.string ⟨#[102, 97, 105, 108]⟩, Value.string ⟨#[114, 50]⟩] 9)) (by exact m2)
                  obtain ⟨nm, hnm, g5⟩ := strs6_at (w := x3) r hr6
                  have HD1 : Hid (DW B wy (x3.alloc (Obj.cells #[Value.string ⟨#[103, 111]⟩, Value.string ⟨#[115, 116, 111, 112, 95, 49]⟩, Value.string ⟨#[111, 112, 101, 110]⟩, Value.string ⟨#[99, 108, 111, 115, 101]⟩, Value.string ⟨#[102, 97, 105, 108]⟩, Value.string ⟨#[114, 50]⟩] 9))) := Lib.hid (HD3.out.alloc hBy (Obj.cells #[Value.string ⟨#[103, 111]⟩, Value.string ⟨#[115, 116, 111, 112, 95, 49]⟩, Value.string ⟨#[111, 112, 101, 110]⟩, Value.string ⟨#[99, 108, 111, 115, 101]⟩, Value.string ⟨#[102, 97, 105, 108]⟩, Value.string ⟨#[114, 50]⟩] 9))
                  clear hHeld
                  refine hK.out _ _ (.inr ⟨m0, m1, m2⟩) (fun hHeld => ?_)
                  clear hK K
                  try simp only [Act.put, List.setIfInBounds_toArray, List.set_cons_zero, List.set_cons_succ]
                  refine rgE_take (v := ?_) 4 12 rfl (by kernel_rfl) (by kernel_rfl) (by kernel_rfl) (by kernel_rfl) (by kernel_rfl) (fun _ _ _ h => h) (by kernel_rfl) ?_ (by assumption) ?_
                  rotate_left
                  · (intro w' hSw; (try dsimp only at hSw); go_simp; first | done | with_reducible rfl)
                  simp only [Act.put, List.setIfInBounds_toArray, List.set_cons_zero, List.set_cons_succ]
                  refine rgE_two 5 8 rfl rfl (by kernel_rfl) (by kernel_rfl) (by kernel_rfl) (by decide) (by decide) (fun K hK => ?_) (fun K hK => ?_)
                  · skip
                    go_simp
                    clear hHeld
                    refine hK.out _ _ (.inr ⟨m0, m1, m2⟩) (fun hHeld => ?_)
                    clear hK K
                    try simp only [Act.put, List.setIfInBounds_toArray, List.set_cons_zero, List.set_cons_succ]
                    refine rgE_run 8 rfl (by kernel_rfl) (by kernel_rfl) (by decide) (fun K hK => ?_)
                    go_simp
                    refine (c_l20DrawTests B 2 (w.heap.size + 1) az ax none cz cs 0 q q 0 zs _ HD1.out.s (by omega) hzs.out hk1 (by omega) (fun z hz => by have := hz4.out z hz; omega) (by omega) (HD1.out.own (HDy.out.own (hdw.out.own hv.out (by omega)) (by omega)) (by omega))).mono ?_
                    rintro e x8 ⟨At, ct, tn, ts, rfl, htl, htn, hto, hd⟩
                    have HTO := Lib.hid (own_mono hto HD1.out.g.size)
                    have HTL := Lib.hid htl
                    replace m0 := hd.cell (by exact m0) (by omega)
                    replace m1 := hd.cell (by exact m1) (by omega)
                    replace m2 := hd.cell (by exact m2) (by omega)
                    replace g5 := hd.cell (by exact g5) (by have := HD3.out.s.lt; omega)
                    have HD8 := Lib.hid (HD1.out.then_ hd)
                    clear hd hto htl
                    go_wp2
                    clear hHeld
                    refine hK.out _ _ (.inr ⟨m0, m1, m2⟩) (fun hHeld => ?_)
                    clear hK K
                    try simp only [Act.put, List.setIfInBounds_toArray, List.set_cons_zero, List.set_cons_succ]
                    refine rgE_take (v := ?_) 10 12 rfl (by kernel_rfl) (by kernel_rfl) (by kernel_rfl) (by kernel_rfl) (by kernel_rfl) (fun _ _ _ h => h) (by kernel_rfl) ?_ (by assumption) ?_
                    rotate_left
                    · (intro w' hSw; (try dsimp only at hSw); go_simp; first | done | with_reducible rfl)
                    simp only [Act.put, List.setIfInBounds_toArray, List.set_cons_zero, List.set_cons_succ]
                    refine rgE_run 11 rfl (by kernel_rfl) (by kernel_rfl) (by decide) (fun K hK => ?_)
                    go_simp
                    replace m0 := cell_later (below_alloc (Below.refl _ x8) (Obj.cells #[Value.string nm, Value.slice At tn ct, Value.slice A10 k3 c10] 54)) (by exact m0)
                    replace m1 := cell_later (below_alloc (Below.refl _ x8) (Obj.cells #[Value.string nm, Value.slice At tn ct, Value.slice A10 k3 c10] 54)) (by exact m1)
                    replace m2 := cell_later (below_alloc (Below.refl _ x8) (Obj.cells #[Value.string nm, Value.slice At tn ct, Value.slice A10 k3 c10] 54)) (by exact m2)
                    have HDB : Hid (DW B wy (x8.alloc (Obj.cells #[Value.string nm, Value.slice At tn ct, Value.slice A10 k3 c10] 54))) := Lib.hid (HD8.out.alloc hBy (Obj.cells #[Value.string nm, Value.slice At tn ct, Value.slice A10 k3 c10] 54))
                    have HDB2 : Hid (DW B wb (x8.alloc (Obj.cells #[Value.string nm, Value.slice At tn ct, Value.slice A10 k3 c10] 54))) := Lib.hid (HDy.out.then_ HDB.out)
                    have HTB := Lib.hid (own_below HTO.out (below_alloc (Below.refl _ x8) (Obj.cells #[Value.string nm, Value.slice At tn ct, Value.slice A10 k3 c10] 54)))
                    have HEB := Lib.hid (HDB.out.own HEy.out (by omega))
                    have HRB := Lib.hid (HDB2.out.own hr.out (by omega))
                    have HMB : Hid (MBox (x8.alloc (Obj.cells #[Value.string nm, Value.slice At tn ct, Value.slice A10 k3 c10] 54)) wa.heap.size wa.heap.size (Value.slice az q cz) (Value.slice ax q cs) (Value.slice none 0 0)) := Lib.hid (HDB2.out.own hmb.out (by omega))
                    have HNB : Hid (∀ d ∈ ds, Nest (x8.alloc (Obj.cells #[Value.string nm, Value.slice At tn ct, Value.slice A10 k3 c10] 54)) (wa.heap.size + 1) d) := Lib.hid (fun d hd => ⟨HDB2.out.own (hnest.out d hd).1.1 (by omega), HDB2.out.own (hnest.out d hd).1.2 (by omega)⟩)
                    have hszc := HD8.out.g.size
                    clear hHeld
                    refine hK.out _ _ (.inr ⟨m0, m1, m2⟩) (fun hHeld => ?_)
                    clear hK K
                    try simp only [Act.put, List.setIfInBounds_toArray, List.set_cons_zero, List.set_cons_succ]
                    refine rgE_run 12 rfl (by kernel_rfl) (by kernel_rfl) (by decide) (fun K hK => ?_)
                    refine wp_push_rul _ (.tmp 70) (.tmp 81) rfl (wa.heap.size + 1) _ k2 ds ⟨⟨nm, ts, es⟩, At, ct, A10, c10⟩ x8.heap.size 1 rfl HRB.out rfl (by go_simp) (by dsimp only [RuD.vg]; rw [HTL.out]; go_simp) (by dsimp only [RuD.ve]; rw [hes.out]; go_simp) (by omega) (by simp; omega) ?_
                    intro v1 w7 hown1 hgrow
                    simp only [Act.put, List.setIfInBounds_toArray, List.set_cons_zero, List.set_cons_succ]
                    have hgv := fun q hq => (HRB.out.lt q hq).1
                    replace m0 := hgrow.cell (by exact m0) (fun e => by have := hgv _ e.symm; dsimp only at this; omega)
                    replace m1 := hgrow.cell (by exact m1) (fun e => by have := hgv _ e.symm; dsimp only at this; omega)
                    replace m2 := hgrow.cell (by exact m2) (fun e => by have := hgv _ e.symm; dsimp only at this; omega)
                    have HW7 := Lib.hid hown1
                    have HN7 : Hid (∀ d ∈ ds ++ [(⟨⟨nm, ts, es⟩, At, ct, A10, c10⟩ : RuD)], Nest w7 (wa.heap.size + 1) d ∧ d.r.gs.length ≤ 100 ∧ d.r.es.length ≤ 100 ∧ d.r.nm.size ≤ 100) := Lib.hid (fun d hd => by
                      rcases List.mem_append.1 hd with hd | hd
                      · exact ⟨⟨own_keep (HNB.out d hd).1 HRB.out (by decide) hgrow, own_keep (HNB.out d hd).2 HRB.out (by decide) hgrow⟩, (hnest.out d hd).2⟩
                      · rw [List.mem_singleton] at hd
                        subst hd
                        refine ⟨⟨?_, ?_⟩, by show ts.length ≤ 100; rw [HTL.out]; omega, by show es.length ≤ 100; rw [hes.out]; omega, hnm⟩
                        · dsimp only [RuD.vg]; rw [HTL.out]; exact own_mono (own_keep HTB.out HRB.out (by decide) hgrow) (by omega)
                        · dsimp only [RuD.ve]; rw [hes.out]; exact own_mono (own_keep HEB.out HRB.out (by decide) hgrow) (by omega))
                    have HM7 : Hid (MBox w7 wa.heap.size wa.heap.size (Value.slice az q cz) (Value.slice ax q cs) (Value.slice none 0 0)) := Lib.hid (MBox.kept HMB.out hgrow (fun q hq => by have := hgv q hq; omega))
                    have HD7 : Hid (DW B wa w7) := Lib.hid ((hdw.out.then_ HDB2.out).far hBa hgrow (fun q hq => by have := hgv q hq; omega))
                    clear hown1 hgrow hgv
                    clear hHeld
                    refine hK.out _ _ (.inr ⟨m0, m1, m2⟩) (fun hHeld => ?_)
                    clear hK K
                    try simp only [Act.put, List.setIfInBounds_toArray, List.set_cons_zero, List.set_cons_succ]
                    refine rgE_last rfl (by kernel_rfl) (by kernel_rfl) (by kernel_rfl) (fun K hK => ?_)
                    go_simp
                    go_simp
                    clear hHeld
                    refine hK.out _ _ ?_
                    clear hK K
                    try simp only [Act.put, List.setIfInBounds_toArray, List.set_cons_zero, List.set_cons_succ]
                    go_wp2
                    go_roundw
                    case rel => exact ⟨j - 1, k2 + 1, _, by omega, by go_num, Lib.hid (by rw [List.length_append, hds.out]; rfl), HW7, HN7, HM7, HD7⟩
                    case measure => simp [intOf]; omega
                  · skip
                    go_simp
                    refine (c_l20DrawTests B 2 (w.heap.size + 1) az ax none cz cs 0 q q 0 zs _ HD1.out.s (by omega) hzs.out hk1 (by omega) (fun z hz => by have := hz4.out z hz; omega) (by omega) (HD1.out.own (HDy.out.own (hdw.out.own hv.out (by omega)) (by omega)) (by omega))).mono ?_
                    rintro e x8 ⟨At, ct, tn, ts, rfl, htl, htn, hto, hd⟩
                    have HTO := Lib.hid (own_mono hto HD1.out.g.size)
                    have HTL := Lib.hid htl
                    replace m0 := hd.cell (by exact m0) (by omega)
                    replace m1 := hd.cell (by exact m1) (by omega)
                    replace m2 := hd.cell (by exact m2) (by omega)
                    replace g5 := hd.cell (by exact g5) (by have := HD3.out.s.lt; omega)
                    have HD8 := Lib.hid (HD1.out.then_ hd)
                    clear hd hto htl
                    go_wp2
                    clear hHeld
                    refine hK.out _ _ (.inr ⟨m0, m1, m2⟩) (fun hHeld => ?_)
                    clear hK K
                    try simp only [Act.put, List.setIfInBounds_toArray, List.set_cons_zero, List.set_cons_succ]
                    refine rgE_run 5 rfl (by kernel_rfl) (by kernel_rfl) (by decide) (fun K hK => ?_)
                    go_simp
                    clear hHeld
                    refine hK.out _ _ (.inr ⟨m0, m1, m2⟩) (fun hHeld => ?_)
                    clear hK K
                    try simp only [Act.put, List.setIfInBounds_toArray, List.set_cons_zero, List.set_cons_succ]
                    refine rgE_take (v := ?_) 10 12 rfl (by kernel_rfl) (by kernel_rfl) (by kernel_rfl) (by kernel_rfl) (by kernel_rfl) (fun _ _ _ h => h) (by kernel_rfl) ?_ (by assumption) ?_
                    rotate_left
                    · (intro w' hSw; (try dsimp only at hSw); go_simp; first | done | with_reducible rfl)
                    simp only [Act.put, List.setIfInBounds_toArray, List.set_cons_zero, List.set_cons_succ]
                    refine rgE_run 11 rfl (by kernel_rfl) (by kernel_rfl) (by decide) (fun K hK => ?_)
                    go_simp
                    replace m0 := cell_later (below_alloc (Below.refl _ x8) (Obj.cells #[Value.string nm, Value.slice At tn ct, Value.slice A10 k3 c10] 54)) (by exact m0)
                    replace m1 := cell_later (below_alloc (Below.refl _ x8) (Obj.cells #[Value.string nm, Value.slice At tn ct, Value.slice A10 k3 c10] 54)) (by exact m1)
                    replace m2 := cell_later (below_alloc (Below.refl _ x8) (Obj.cells #[Value.string nm, Value.slice At tn ct, Value.slice A10 k3 c10] 54)) (by exact m2)
                    have HDB : Hid (DW B wy (x8.alloc (Obj.cells #[Value.string nm, Value.slice At tn ct, Value.slice A10 k3 c10] 54))) := Lib.hid (HD8.out.alloc hBy (Obj.cells #[Value.string nm, Value.slice At tn ct, Value.slice A10 k3 c10] 54))
                    have HDB2 : Hid (DW B wb (x8.alloc (Obj.cells #[Value.string nm, Value.slice At tn ct, Value.slice A10 k3 c10] 54))) := Lib.hid (HDy.out.then_ HDB.out)
                    have HTB := Lib.hid (own_below HTO.out (below_alloc (Below.refl _ x8) (Obj.cells #[Value.string nm, Value.slice At tn ct, Value.slice A10 k3 c10] 54)))
                    have HEB := Lib.hid (HDB.out.own HEy.out (by omega))
                    have HRB := Lib.hid (HDB2.out.own hr.out (by omega))
                    have HMB : Hid (MBox (x8.alloc (Obj.cells #[Value.string nm, Value.slice At tn ct, Value.slice A10 k3 c10] 54)) wa.heap.size wa.heap.size (Value.slice az q cz) (Value.slice ax q cs) (Value.slice none 0 0)) := Lib.hid (HDB2.out.own hmb.out (by omega))
                    have HNB : Hid (∀ d ∈ ds, Nest (x8.alloc (Obj.cells #[Value.string nm, Value.slice At tn ct, Value.slice A10 k3 c10] 54)) (wa.heap.size + 1) d) := Lib.hid (fun d hd => ⟨HDB2.out.own (hnest.out d hd).1.1 (by omega), HDB2.out.own (hnest.out d hd).1.2 (by omega)⟩)
                    have hszc := HD8.out.g.size
                    clear hHeld
                    refine hK.out _ _ (.inr ⟨m0, m1, m2⟩) (fun hHeld => ?_)
                    clear hK K
                    try simp only [Act.put, List.setIfInBounds_toArray, List.set_cons_zero, List.set_cons_succ]
                    refine rgE_run 12 rfl (by kernel_rfl) (by kernel_rfl) (by decide) (fun K hK => ?_)
                    refine wp_push_rul _ (.tmp 70) (.tmp 81) rfl (wa.heap.size + 1) _ k2 ds ⟨⟨nm, ts, es⟩, At, ct, A10, c10⟩ x8.heap.size 1 rfl HRB.out rfl (by go_simp) (by dsimp only [RuD.vg]; rw [HTL.out]; go_simp) (by dsimp only [RuD.ve]; rw [hes.out]; go_simp) (by omega) (by simp; omega) ?_
                    intro v1 w7 hown1 hgrow
                    simp only [Act.put, List.setIfInBounds_toArray, List.set_cons_zero, List.set_cons_succ]
                    have hgv := fun q hq => (HRB.out.lt q hq).1
                    replace m0 := hgrow.cell (by exact m0) (fun e => by have := hgv _ e.symm; dsimp only at this; omega)
                    replace m1 := hgrow.cell (by exact m1) (fun e => by have := hgv _ e.symm; dsimp only at this; omega)
                    replace m2 := hgrow.cell (by exact m2) (fun e => by have := hgv _ e.symm; dsimp only at this; omega)
                    have HW7 := Lib.hid hown1
                    have HN7 : Hid (∀ d ∈ ds ++ [(⟨⟨nm, ts, es⟩, At, ct, A10, c10⟩ : RuD)], Nest w7 (wa.heap.size + 1) d ∧ d.r.gs.length ≤ 100 ∧ d.r.es.length ≤ 100 ∧ d.r.nm.size ≤ 100) := Lib.hid (fun d hd => by
                      rcases List.mem_append.1 hd with hd | hd
                      · exact ⟨⟨own_keep (HNB.out d hd).1 HRB.out (by decide) hgrow, own_keep (HNB.out d hd).2 HRB.out (by decide) hgrow⟩, (hnest.out d hd).2⟩
                      · rw [List.mem_singleton] at hd
                        subst hd
                        refine ⟨⟨?_, ?_⟩, by show ts.length ≤ 100; rw [HTL.out]; omega, by show es.length ≤ 100; rw [hes.out]; omega, hnm⟩
                        · dsimp only [RuD.vg]; rw [HTL.out]; exact own_mono (own_keep HTB.out HRB.out (by decide) hgrow) (by omega)
                        · dsimp only [RuD.ve]; rw [hes.out]; exact own_mono (own_keep HEB.out HRB.out (by decide) hgrow) (by omega))
                    have HM7 : Hid (MBox w7 wa.heap.size wa.heap.size (Value.slice az q cz) (Value.slice ax q cs) (Value.slice none 0 0)) := Lib.hid (MBox.kept HMB.out hgrow (fun q hq => by have := hgv q hq; omega))
                    have HD7 : Hid (DW B wa w7) := Lib.hid ((hdw.out.then_ HDB2.out).far hBa hgrow (fun q hq => by have := hgv q hq; omega))
                    clear hown1 hgrow hgv
                    clear hHeld
                    refine hK.out _ _ (.inr ⟨m0, m1, m2⟩) (fun hHeld => ?_)
                    clear hK K
                    try simp only [Act.put, List.setIfInBounds_toArray, List.set_cons_zero, List.set_cons_succ]
                    refine rgE_last rfl (by kernel_rfl) (by kernel_rfl) (by kernel_rfl) (fun K hK => ?_)
                    go_simp
                    go_simp
                    clear hHeld
                    refine hK.out _ _ ?_
                    clear hK K
                    try simp only [Act.put, List.setIfInBounds_toArray, List.set_cons_zero, List.set_cons_succ]
                    go_wp2
                    go_roundw
                    case rel => exact ⟨j - 1, k2 + 1, _, by omega, by go_num, Lib.hid (by rw [List.length_append, hds.out]; rfl), HW7, HN7, HM7, HD7⟩
                    case measure => simp [intOf]; omega
                · skip
                  go_simp
                  refine (c_l20DrawTests B 2 (w.heap.size + 1) az ax none cz cs 0 q q 0 zs _ HD3.out.s (by omega) hzs.out hk1 (by omega) (fun z hz => by have := hz4.out z hz; omega) (by omega) (HD3.out.own (HDy.out.own (hdw.out.own hv.out (by omega)) (by omega)) (by omega))).mono ?_
                  rintro e x8 ⟨At, ct, tn, ts, rfl, htl, htn, hto, hd⟩
                  have HTO := Lib.hid (own_mono hto HD3.out.g.size)
                  have HTL := Lib.hid htl
                  replace m0 := hd.cell (by exact m0) (by omega)
                  replace m1 := hd.cell (by exact m1) (by omega)
                  replace m2 := hd.cell (by exact m2) (by omega)
                  have HD8 := Lib.hid (HD3.out.then_ hd)
                  clear hd hto htl
                  go_wp2
                  clear hHeld
                  refine hK.out _ _ (.inr ⟨m0, m1, m2⟩) (fun hHeld => ?_)
                  clear hK K
                  try simp only [Act.put, List.setIfInBounds_toArray, List.set_cons_zero, List.set_cons_succ]
                  refine rgE_run 1 rfl (by kernel_rfl) (by kernel_rfl) (by decide) (fun K hK => ?_)
                  go_simp
                  replace m0 := cell_later (below_alloc (Below.refl _ x8) (Obj.cells #[Value.string ⟨#[103, 111]⟩, Value.string ⟨#[115, 116, 111, 112, 95, 49]⟩, Value.string ⟨#[111, 112, 101, 110]⟩, Value.string ⟨#[99, 108, 111, 115, 101]⟩, Value.string ⟨#[102, 97, 105, 108]⟩, Value.string ⟨#[114, 50]⟩] 9)) (by exact m0)
                  replace m1 := cell_later (below_alloc (Below.refl _ x8) (Obj.cells #[Value.string ⟨#[103, 111]⟩, Value.string ⟨#[115, 116, 111, 112, 95, 49]⟩, Value.string ⟨#[111, 112, 101, 110]⟩, Value.string ⟨#[99, 108, 111, 115, 101]⟩, Value.string ⟨#[102, 97, 105, 108]⟩, Value.string ⟨#[114, 50]⟩] 9)) (by exact m1)
                  replace m2 := cell_later (below_alloc (Below.refl _ x8) (Obj.cells #[Value.string ⟨#[103, 111]⟩, Value.string ⟨#[115, 116, 111, 112, 95, 49]⟩, Value.string ⟨#[111, 112, 101, 110]⟩, Value.string ⟨#[99, 108, 111, 115, 101]⟩, Value.string ⟨#[102, 97, 105, 108]⟩, Value.string ⟨#[114, 50]⟩] 9)) (by exact m2)
                  obtain ⟨nm, hnm, g5⟩ := strs6_at (w := x8) r hr6
                  replace HTO := Lib.hid (own_below HTO.out (below_alloc (Below.refl _ x8) (Obj.cells #[Value.string ⟨#[103, 111]⟩, Value.string ⟨#[115, 116, 111, 112, 95, 49]⟩, Value.string ⟨#[111, 112, 101, 110]⟩, Value.string ⟨#[99, 108, 111, 115, 101]⟩, Value.string ⟨#[102, 97, 105, 108]⟩, Value.string ⟨#[114, 50]⟩] 9)))
                  have HD1 : Hid (DW B wy (x8.alloc (Obj.cells #[Value.string ⟨#[103, 111]⟩, Value.string ⟨#[115, 116, 111, 112, 95, 49]⟩, Value.string ⟨#[111, 112, 101, 110]⟩, Value.string ⟨#[99, 108, 111, 115, 101]⟩, Value.string ⟨#[102, 97, 105, 108]⟩, Value.string ⟨#[114, 50]⟩] 9))) := Lib.hid (HD8.out.alloc hBy (Obj.cells #[Value.string ⟨#[103, 111]⟩, Value.string ⟨#[115, 116, 111, 112, 95, 49]⟩, Value.string ⟨#[111, 112, 101, 110]⟩, Value.string ⟨#[99, 108, 111, 115, 101]⟩, Value.string ⟨#[102, 97, 105, 108]⟩, Value.string ⟨#[114, 50]⟩] 9))
                  clear hHeld
                  refine hK.out _ _ (.inr ⟨m0, m1, m2⟩) (fun hHeld => ?_)
                  clear hK K
                  try simp only [Act.put, List.setIfInBounds_toArray, List.set_cons_zero, List.set_cons_succ]
                  refine rgE_take (v := ?_) 4 12 rfl (by kernel_rfl) (by kernel_rfl) (by kernel_rfl) (by kernel_rfl) (by kernel_rfl) (fun _ _ _ h => h) (by kernel_rfl) ?_ (by assumption) ?_
                  rotate_left
                  · (intro w' hSw; (try dsimp only at hSw); go_simp; first | done | with_reducible rfl)
                  simp only [Act.put, List.setIfInBounds_toArray, List.set_cons_zero, List.set_cons_succ]
                  refine rgE_run 5 rfl (by kernel_rfl) (by kernel_rfl) (by decide) (fun K hK => ?_)
                  go_simp
                  clear hHeld
                  refine hK.out _ _ (.inr ⟨m0, m1, m2⟩) (fun hHeld => ?_)
                  clear hK K
                  try simp only [Act.put, List.setIfInBounds_toArray, List.set_cons_zero, List.set_cons_succ]
                  refine rgE_take (v := ?_) 10 12 rfl (by kernel_rfl) (by kernel_rfl) (by kernel_rfl) (by kernel_rfl) (by kernel_rfl) (fun _ _ _ h => h) (by kernel_rfl) ?_ (by assumption) ?_
                  rotate_left
                  · (intro w' hSw; (try dsimp only at hSw); go_simp; first | done | with_reducible rfl)
                  simp only [Act.put, List.setIfInBounds_toArray, List.set_cons_zero, List.set_cons_succ]
                  refine rgE_run 11 rfl (by kernel_rfl) (by kernel_rfl) (by decide) (fun K hK => ?_)
                  go_simp
                  replace m0 := cell_later (below_alloc (Below.refl _ (x8.alloc (Obj.cells #[Value.string ⟨#[103, 111]⟩, Value.string ⟨#[115, 116, 111, 112, 95, 49]⟩, Value.string ⟨#[111, 112, 101, 110]⟩, Value.string ⟨#[99, 108, 111, 115, 101]⟩, Value.string ⟨#[102, 97, 105, 108]⟩, Value.string ⟨#[114, 50]⟩] 9))) (Obj.cells #[Value.string nm, Value.slice At tn ct, Value.slice A10 k3 c10] 54)) (by exact m0)
                  replace m1 := cell_later (below_alloc (Below.refl _ (x8.alloc (Obj.cells #[Value.string ⟨#[103, 111]⟩, Value.string ⟨#[115, 116, 111, 112, 95, 49]⟩, Value.string ⟨#[111, 112, 101, 110]⟩, Value.string ⟨#[99, 108, 111, 115, 101]⟩, Value.string ⟨#[102, 97, 105, 108]⟩, Value.string ⟨#[114, 50]⟩] 9))) (Obj.cells #[Value.string nm, Value.slice At tn ct, Value.slice A10 k3 c10] 54)) (by exact m1)
                  replace m2 := cell_later (below_alloc (Below.refl _ (x8.alloc (Obj.cells #[Value.string ⟨#[103, 111]⟩, Value.string ⟨#[115, 116, 111, 112, 95, 49]⟩, Value.string ⟨#[111, 112, 101, 110]⟩, Value.string ⟨#[99, 108, 111, 115, 101]⟩, Value.string ⟨#[102, 97, 105, 108]⟩, Value.string ⟨#[114, 50]⟩] 9))) (Obj.cells #[Value.string nm, Value.slice At tn ct, Value.slice A10 k3 c10] 54)) (by exact m2)
                  have HDB : Hid (DW B wy ((x8.alloc (Obj.cells #[Value.string ⟨#[103, 111]⟩, Value.string ⟨#[115, 116, 111, 112, 95, 49]⟩, Value.string ⟨#[111, 112, 101, 110]⟩, Value.string ⟨#[99, 108, 111, 115, 101]⟩, Value.string ⟨#[102, 97, 105, 108]⟩, Value.string ⟨#[114, 50]⟩] 9)).alloc (Obj.cells #[Value.string nm, Value.slice At tn ct, Value.slice A10 k3 c10] 54))) := Lib.hid (HD1.out.alloc hBy (Obj.cells #[Value.string nm, Value.slice At tn ct, Value.slice A10 k3 c10] 54))
                  have HDB2 : Hid (DW B wb ((x8.alloc (Obj.cells #[Value.string ⟨#[103, 111]⟩, Value.string ⟨#[115, 116, 111, 112, 95, 49]⟩, Value.string ⟨#[111, 112, 101, 110]⟩, Value.string ⟨#[99, 108, 111, 115, 101]⟩, Value.string ⟨#[102, 97, 105, 108]⟩, Value.string ⟨#[114, 50]⟩] 9)).alloc (Obj.cells #[Value.string nm, Value.slice At tn ct, Value.slice A10 k3 c10] 54))) := Lib.hid (HDy.out.then_ HDB.out)
                  have HTB := Lib.hid (own_below HTO.out (below_alloc (Below.refl _ (x8.alloc (Obj.cells #[Value.string ⟨#[103, 111]⟩, Value.string ⟨#[115, 116, 111, 112, 95, 49]⟩, Value.string ⟨#[111, 112, 101, 110]⟩, Value.string ⟨#[99, 108, 111, 115, 101]⟩, Value.string ⟨#[102, 97, 105, 108]⟩, Value.string ⟨#[114, 50]⟩] 9))) (Obj.cells #[Value.string nm, Value.slice At tn ct, Value.slice A10 k3 c10] 54)))
                  have HEB := Lib.hid (HDB.out.own HEy.out (by omega))
                  have HRB := Lib.hid (HDB2.out.own hr.out (by omega))
                  have HMB : Hid (MBox ((x8.alloc (Obj.cells #[Value.string ⟨#[103, 111]⟩, Value.string ⟨#[115, 116, 111, 112, 95, 49]⟩, Value.string ⟨#[111, 112, 101, 110]⟩, Value.string ⟨#[99, 108, 111, 115, 101]⟩, Value.string ⟨#[102, 97, 105, 108]⟩, Value.string ⟨#[114, 50]⟩] 9)).alloc (Obj.cells #[Value.string nm, Value.slice At tn ct, Value.slice A10 k3 c10] 54)) wa.heap.size wa.heap.size (Value.slice az q cz) (Value.slice ax q cs) (Value.slice none 0 0)) := Lib.hid (HDB2.out.own hmb.out (by omega))
                  have HNB : Hid (∀ d ∈ ds, Nest ((x8.alloc (Obj.cells #[Value.string ⟨#[103, 111]⟩, Value.string ⟨#[115, 116, 111, 112, 95, 49]⟩, Value.string ⟨#[111, 112, 101, 110]⟩, Value.string ⟨#[99, 108, 111, 115, 101]⟩, Value.string ⟨#[102, 97, 105, 108]⟩, Value.string ⟨#[114, 50]⟩] 9)).alloc (Obj.cells #[Value.string nm, Value.slice At tn ct, Value.slice A10 k3 c10] 54)) (wa.heap.size + 1) d) := Lib.hid (fun d hd => ⟨HDB2.out.own (hnest.out d hd).1.1 (by omega), HDB2.out.own (hnest.out d hd).1.2 (by omega)⟩)
                  have hszc := HD8.out.g.size
                  clear hHeld
                  refine hK.out _ _ (.inr ⟨m0, m1, m2⟩) (fun hHeld => ?_)
                  clear hK K
                  try simp only [Act.put, List.setIfInBounds_toArray, List.set_cons_zero, List.set_cons_succ]
                  refine rgE_run 12 rfl (by kernel_rfl) (by kernel_rfl) (by decide) (fun K hK => ?_)
                  refine wp_push_rul _ (.tmp 70) (.tmp 81) rfl (wa.heap.size + 1) _ k2 ds ⟨⟨nm, ts, es⟩, At, ct, A10, c10⟩ (x8.heap.size + 1) 1 rfl HRB.out rfl (by go_simp) (by dsimp only [RuD.vg]; rw [HTL.out]; go_simp) (by dsimp only [RuD.ve]; rw [hes.out]; go_simp) (by omega) (by simp; omega) ?_
                  intro v1 w7 hown1 hgrow
                  simp only [Act.put, List.setIfInBounds_toArray, List.set_cons_zero, List.set_cons_succ]
                  have hgv := fun q hq => (HRB.out.lt q hq).1
                  replace m0 := hgrow.cell (by exact m0) (fun e => by have := hgv _ e.symm; dsimp only at this; omega)
                  replace m1 := hgrow.cell (by exact m1) (fun e => by have := hgv _ e.symm; dsimp only at this; omega)
                  replace m2 := hgrow.cell (by exact m2) (fun e => by have := hgv _ e.symm; dsimp only at this; omega)
                  have HW7 := Lib.hid hown1
                  have HN7 : Hid (∀ d ∈ ds ++ [(⟨⟨nm, ts, es⟩, At, ct, A10, c10⟩ : RuD)], Nest w7 (wa.heap.size + 1) d ∧ d.r.gs.length ≤ 100 ∧ d.r.es.length ≤ 100 ∧ d.r.nm.size ≤ 100) := Lib.hid (fun d hd => by
                    rcases List.mem_append.1 hd with hd | hd
                    · exact ⟨⟨own_keep (HNB.out d hd).1 HRB.out (by decide) hgrow, own_keep (HNB.out d hd).2 HRB.out (by decide) hgrow⟩, (hnest.out d hd).2⟩
                    · rw [List.mem_singleton] at hd
                      subst hd
                      refine ⟨⟨?_, ?_⟩, by show ts.length ≤ 100; rw [HTL.out]; omega, by show es.length ≤ 100; rw [hes.out]; omega, hnm⟩
                      · dsimp only [RuD.vg]; rw [HTL.out]; exact own_mono (own_keep HTB.out HRB.out (by decide) hgrow) (by omega)
                      · dsimp only [RuD.ve]; rw [hes.out]; exact own_mono (own_keep HEB.out HRB.out (by decide) hgrow) (by omega))
                  have HM7 : Hid (MBox w7 wa.heap.size wa.heap.size (Value.slice az q cz) (Value.slice ax q cs) (Value.slice none 0 0)) := Lib.hid (MBox.kept HMB.out hgrow (fun q hq => by have := hgv q hq; omega))
                  have HD7 : Hid (DW B wa w7) := Lib.hid ((hdw.out.then_ HDB2.out).far hBa hgrow (fun q hq => by have := hgv q hq; omega))
                  clear hown1 hgrow hgv
                  clear hHeld
                  refine hK.out _ _ (.inr ⟨m0, m1, m2⟩) (fun hHeld => ?_)
                  clear hK K
                  try simp only [Act.put, List.setIfInBounds_toArray, List.set_cons_zero, List.set_cons_succ]
                  refine rgE_last rfl (by kernel_rfl) (by kernel_rfl) (by kernel_rfl) (fun K hK => ?_)
                  go_simp
                  go_simp
                  clear hHeld
                  refine hK.out _ _ ?_
                  clear hK K
                  try simp only [Act.put, List.setIfInBounds_toArray, List.set_cons_zero, List.set_cons_succ]
                  go_wp2
                  go_roundw
                  case rel => exact ⟨j - 1, k2 + 1, _, by omega, by go_num, Lib.hid (by rw [List.length_append, hds.out]; rfl), HW7, HN7, HM7, HD7⟩
                  case measure => simp [intOf]; omega
              -- END
        · have hj1 : j = 0 := by omega
          subst hj1
          obtain ⟨ar, cr, hv2⟩ := own_shape hr.out
          subst hv2
          have HXb : MBox wb w.heap.size w.heap.size (.slice none 0 0) (.slice none 0 0) (.slice none 0 0) := hdw.out.own hbx.out hBl
          obtain ⟨v0, v1, v2, f0, f1, f2, _, hxlt⟩ := HXb.c
          have HF := Lib.hid (MBox.set3 HXb (Value.slice az k cz) (Value.slice ax k cs) (Value.slice ar k2 cr))
          have HDF : Hid (DW B w (set3 wb w.heap.size (Value.slice az k cz) (Value.slice ax k cs) (Value.slice ar k2 cr))) := Lib.hid ((hd.out.then_ hdw.out).set3 hBl _ _ _ (Nat.le_refl _))
          have hk2 : k2 ≤ 8 := by omega
          have HFIN : Hid (DMd B w.heap.size (set3 wb w.heap.size (Value.slice az k cz) (Value.slice ax k cs) (Value.slice ar k2 cr)) az ax ar cz cs cr k k k2 ⟨zs, ss, ds.map RuD.r⟩ ds) := Lib.hid (by
            have hg := HF.out.2
            have key : ∀ {base : Nat} {e : TypeId} {size n : Nat} {v : Value} {xs : List Value}, wb.ownsRow base e size v n xs → w.heap.size < base → (set3 wb w.heap.size (Value.slice az k cz) (Value.slice ax k cs) (Value.slice ar k2 cr)).ownsRow w.heap.size e size v n xs := fun h hb => own_mono (kept_far h hg (fun q hq => by simp at hq; omega)) (by omega)
            refine ⟨⟨?_, ?_, ?_, rfl, fun d hd => ⟨key (hnest.out d hd).1.1 (by omega), key (hnest.out d hd).1.2 (by omega)⟩⟩, hzs.out, hss.out, by rw [List.length_map, hds.out], hsep.out, fun z hz => by have := hz4.out z hz; omega, fun d hd => by have := (hnest.out d hd).2; omega, hBl⟩
            · have h9 := key (hdw.out.own hv.out (by omega)) (by omega)
              show World.ownsRow _ _ _ _ (.slice az zs.length cz) zs.length _
              rw [hzs.out]
              exact h9
            · have h9 := key (hdw.out.own hu.out (by omega)) (by omega)
              show World.ownsRow _ _ _ _ (.slice ax ss.length cs) ss.length _
              rw [hss.out]
              exact h9
            · have h9 := key hr.out (by omega)
              show World.ownsRow _ _ _ _ (.slice ar (ds.map RuD.r).length cr) (ds.map RuD.r).length _
              rw [List.length_map, hds.out]
              exact h9)
          have HRR : Hid (∀ d ∈ ds, d.r.gs.length ≤ 100 ∧ d.r.es.length ≤ 100 ∧ d.r.nm.size ≤ 100) := Lib.hid fun d hd => (hnest.out d hd).2
          clear hr hnest hmb hdw hv hu hbx hd HXb
          go_wp2_with (fail)
          change bodyPost _ _ _ _ _ (set3 wb w.heap.size (Value.slice az k cz) (Value.slice ax k cs) (Value.slice ar k2 cr))
          generalize set3 wb w.heap.size (Value.slice az k cz) (Value.slice ax k cs) (Value.slice ar k2 cr) = WF at HF HDF HFIN ⊢
          obtain ⟨r0, r1, r2, _⟩ := MBox.c HF.out.1
          clear v0 v1 v2 f0 f1 f2
          refine bodyPost_ret (v := .agg #[.slice az k cz, .slice ax k cs, .slice ar k2 cr]) (by simp [results, Try.results115, go_sem, r0, r1, r2]) rfl ⟨az, ax, ar, cz, cs, cr, k, k, k2, _, ds, rfl, HFIN.out, hk1, hk4, hk1, hk4, hk2, HRR.out, HDF.out⟩
end Go.Proofs.Ytaloheljfefdeaa
