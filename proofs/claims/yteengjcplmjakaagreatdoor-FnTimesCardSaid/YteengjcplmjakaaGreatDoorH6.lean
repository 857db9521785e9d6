/- Contracts and helpers (joined texts, part 6). The conditions stand at each theorem. -/
import Derived.Test.YteengjcplmjakaaGreatDoorH5
import Derived.Test.YteengjcplmjakaaGreatDoorH4
import Derived.Deep.DeepAppendRoom
/- IsCode on the reference's side, over exact terms (printed by kcode.py out of CHt CIs). Condition: the lists' sizes. -/
namespace Go.Proofs.YteengjcplmjakaaGreatDoor
open Go.RowKit

set_option maxRecDepth 100000 in
theorem c_sIsBlock (t : Tm) (w : World) (hs : t.nm.size ≤ 1048576) : Calls Tryz.prog 99 #[.agg #[.int .i64 t.k, .string t.nm, .int .i64 t.n]] w fun e w' => e = .returned (.bool (blkB t)) ∧ Below w.heap.size w w' := by
  have HT := Lib.hid (fun w => c_l13Term t.k t.nm t.n w hs)
  have HV : Hid ((trmT t.k t.nm t.n && decide (7 ≤ t.k)) = blkB t) := Lib.hid rfl
  obtain ⟨k, nm, n⟩ := t
  dsimp only at hs HT HV ⊢
  generalize trmT k nm n = b at *
  go_enter Tryz.func99, Tryz.ntmps99
  go_wp2_with (fail)
  refine (HT.out _).mono ?_
  rintro e w1 ⟨rfl, hb⟩
  have HB := Lib.hid (below_chain (below_alloc (Below.refl _ _) _) hb)
  have k0 : w1.cell? ⟨w.heap.size, 0, none⟩ = some (.int .i64 k) := cell_later hb (by go_simp)
  clear hb HT
  cases b
  · go_wp2_with (fail)
    go_ret
    exact ⟨ret_bool (by rw [← HV.out]; rfl), HB.out⟩
  · go_wp2_with (fail)
    go_ret
    exact ⟨ret_bool (by rw [← HV.out]; simp), HB.out⟩
def hgt (c : Cd) : List Ins → Int → Option Int
  | [], n => some n
  | x :: t, n => if fitB c x = true ∧ takI c x ≤ n ∧ n - takI c x + givI x ≤ 40 then hgt c t (n - takI c x + givI x) else none
def hgtB (c : Cd) : Bool := decide (hgt c c.ss 0 = some 0)
theorem tak_bd (c : Cd) (x : Ins) : 0 ≤ takI c x ∧ takI c x ≤ 2 := by
  unfold takI argI
  repeat' split
  all_goals omega
theorem giv_bd (x : Ins) : 0 ≤ givI x ∧ givI x ≤ 1 := by
  unfold givI
  split <;> omega
theorem hgt_drop {c : Cd} {k : Nat} {x : Ins} (hx : c.ss[k]? = some x) (n : Int) : hgt c (c.ss.drop k) n = if fitB c x = true ∧ takI c x ≤ n ∧ n - takI c x + givI x ≤ 40 then hgt c (c.ss.drop (k + 1)) (n - takI c x + givI x) else none := by
  obtain ⟨hk, e⟩ := List.getElem?_eq_some_iff.1 hx
  rw [List.drop_eq_getElem_cons hk, e]
  rfl
def HgtP (b : Bool) (w : World) (e : Ending) (w' : World) : Prop := ∃ A n cc, e = .returned (.tuple #[.slice A n cc, .bool b]) ∧ Below w.heap.size w w'
theorem cell_markK {w w' : World} {row : Option Nat} {a : Addr} {v : Value} (h : w.cell? a = some v) (hg : w.grownBy w' row) (hne : ∀ q, row = some q → q ≠ a.block) : w'.cell? a = some v :=
  (hg.cell_far a (World.block_lt_of_cell? w a h) (fun h' => hne _ h'.symm rfl)).trans h
theorem CB.mark {w w' : World} {b : Nat} {c : Cd} {ab as_ : Option Addr} {cb cs : Nat} {row : Option Nat} (h : CB w b c ab as_ cb cs) (hg : w.grownBy w' row) (hne : ∀ q, row = some q → q ≠ b) : CB w' b c ab as_ cb cs :=
  ⟨cell_markK h.1 hg hne, cell_markK h.2.1 hg hne, cell_markK h.2.2.1 hg hne, cell_markK h.2.2.2.1 hg hne, cell_markK h.2.2.2.2 hg hne⟩
set_option maxHeartbeats 2000000 in
set_option maxRecDepth 100000 in
theorem c_l17Heights (c : Cd) (ab as_ : Option Addr) (cb cs : Nat) (w : World) (hd : Hd c) (h : CdR w ab as_ c) :
    Calls Tryz.prog 100 #[cv c ab as_ cb cs] w (HgtP (hgtB c) w) := by
  have HD := Lib.hid hd
  have HC := Lib.hid h
  have HB0 := Lib.hid (below_alloc (below_alloc (Below.refl w.heap.size w) (.cells #[.int .i64 c.i, .int .i64 c.v, .int .i64 c.o, .slice ab c.bs.length cb, .slice as_ c.ss.length cs] 35)) (.cells #[] 2))
  have HA : Hid (CB ((w.alloc (.cells #[.int .i64 c.i, .int .i64 c.v, .int .i64 c.o, .slice ab c.bs.length cb, .slice as_ c.ss.length cs] 35)).alloc (.cells #[] 2)) w.heap.size c ab as_ cb cs) := Lib.hid ⟨by go_simp, by go_simp, by go_simp, by go_simp, by go_simp⟩
  have HO : Hid (((w.alloc (.cells #[.int .i64 c.i, .int .i64 c.v, .int .i64 c.o, .slice ab c.bs.length cb, .slice as_ c.ss.length cs] 35)).alloc (.cells #[] 2)).ownsRow (w.heap.size + 1) 2 1 (.slice (some ⟨w.heap.size + 1, 0, none⟩) 0 0) 0 (ints [])) := Lib.hid (by
    have h := World.ownsRow_lit (e := 2) (size := 1) (base := w.heap.size + 1) (w.alloc (.cells #[.int .i64 c.i, .int .i64 c.v, .int .i64 c.o, .slice ab c.bs.length cb, .slice as_ c.ss.length cs] 35)) #[] 0 (by simp) (by decide) (by simp)
    simpa [ints] using h)
  have hln := hd.s
  clear h hd
  go_enter Tryz.func100, Tryz.ntmps100
  dsimp only [cv]
  go_wp2_with (fail)
  generalize (w.alloc (.cells #[.int .i64 c.i, .int .i64 c.v, .int .i64 c.o, .slice ab c.bs.length cb, .slice as_ c.ss.length cs] 35)).alloc (.cells #[] 2) = W at *
  go_loopw [4, 5, 6, 7, 8] (fun l t i _ _ wr => ∃ (k : Nat) (n : Int) (A3 : Option Addr) (c3 : Nat) (zs : List Int), k ≤ c.ss.length ∧ i = .int .i64 k ∧ t = .int .i64 n ∧ 0 ≤ n ∧ n ≤ 40 ∧ l = .slice A3 k c3 ∧ Hid (hgt c c.ss 0 = hgt c (c.ss.drop k) n) ∧ Hid (wr.ownsRow (w.heap.size + 1) 2 1 (.slice A3 k c3) k (ints zs)) ∧ Hid (Below w.heap.size w wr) ∧ Hid (CB wr w.heap.size c ab as_ cb cs)) (fun _ _ i _ _ _ => c.ss.length - (intOf i).toNat)
  case atStart => exact ⟨0, 0, _, _, [], Nat.zero_le _, rfl, rfl, by omega, by omega, rfl, Lib.hid rfl, HO, HB0, HA⟩
  case round =>
    obtain ⟨k, n, A3, c3, zs, hk, rfl, rfl, hn0, hn1, rfl, hh, ho, hb, ha⟩ := hrel
    clear HO HB0 HA
    by_cases hlt : k < c.ss.length
    · obtain ⟨x, hx⟩ : ∃ x, c.ss[k]? = some x := ⟨_, List.getElem?_eq_getElem hlt⟩
      have HX := Lib.hid (hgt_drop (c := c) hx n)
      obtain ⟨b1, o1, rfl, _, g0, g1⟩ := (HC.out.below hb.out).s.ins hx
      obtain ⟨a0, a1, a2, a3, a4⟩ := ha.out
      have hk0 : (0 : Int) ≤ (k : Int) := by omega
      have hk1 : (k : Int) < c.ss.length := by omega
      clear hx
      go_wp2_with (fail)
      refine wp_region_held_drew (S := (fun w' => (w'.cell? ⟨w.heap.size, 0, none⟩ = some (.int .i64 c.i) ∧ w'.cell? ⟨w.heap.size, 1, none⟩ = some (.int .i64 c.v) ∧ w'.cell? ⟨w.heap.size, 2, none⟩ = some (.int .i64 c.o) ∧ w'.cell? ⟨w.heap.size, 3, none⟩ = some (.slice ab c.bs.length cb) ∧ w'.cell? ⟨w.heap.size, 4, none⟩ = some (.slice (some ⟨b1, o1, none⟩) c.ss.length cs)) ∧ w'.cell? ⟨b1, o1 + k * 2, none⟩ = some (.int .i64 x.o) ∧ w'.cell? ⟨b1, o1 + k * 2 + 1, none⟩ = some (.int .i64 x.a))) (by kernel_rfl) ?_ (fun hHeld => ?_)
      · exact ⟨⟨a0, a1, a2, a3, a4⟩, g0, g1⟩
      refine rg_take (v := ?_) 0 rfl (by kernel_rfl) (by kernel_rfl) (by kernel_rfl) (fun _ _ _ h => h) (by kernel_rfl) ?_ (by assumption) ?_
      rotate_left
      · (intro w' hSw; (try dsimp only at hSw); go_simp; first | done | with_reducible rfl)
      simp only [Act.put, List.setIfInBounds_toArray, List.set_cons_zero, List.set_cons_succ]
      refine rg_take (v := ?_) 1 rfl (by kernel_rfl) (by kernel_rfl) (by kernel_rfl) (fun _ _ _ h => h) (by kernel_rfl) ?_ (by assumption) ?_
      rotate_left
      · (intro w' hSw; (try dsimp only at hSw); go_simp; first | done | with_reducible rfl)
      simp only [Act.put, List.setIfInBounds_toArray, List.set_cons_zero, List.set_cons_succ]
      refine rg_take (v := ?_) 2 rfl (by kernel_rfl) (by kernel_rfl) (by kernel_rfl) (fun _ _ _ h => h) (by kernel_rfl) ?_ (by assumption) ?_
      rotate_left
      · (intro w' hSw; (try dsimp only at hSw); go_simp; first | done | with_reducible rfl)
      simp only [Act.put, List.setIfInBounds_toArray, List.set_cons_zero, List.set_cons_succ]
      refine rg_take (v := ?_) 3 rfl (by kernel_rfl) (by kernel_rfl) (by kernel_rfl) (fun _ _ _ h => h) (by kernel_rfl) ?_ (by assumption) ?_
      rotate_left
      · (intro w' hSw; (try dsimp only at hSw); go_simp; first | done | with_reducible rfl)
      simp only [Act.put, List.setIfInBounds_toArray, List.set_cons_zero, List.set_cons_succ]
      refine rg_take (v := ?_) 4 rfl (by kernel_rfl) (by kernel_rfl) (by kernel_rfl) (fun _ _ _ h => h) (by kernel_rfl) ?_ (by assumption) ?_
      rotate_left
      · (intro w' hSw; (try dsimp only at hSw); go_simp; first | done | with_reducible rfl)
      simp only [Act.put, List.setIfInBounds_toArray, List.set_cons_zero, List.set_cons_succ]
      refine rg_take (v := ?_) 5 rfl (by kernel_rfl) (by kernel_rfl) (by kernel_rfl) (fun _ _ _ h => h) (by kernel_rfl) ?_ (by assumption) ?_
      rotate_left
      · (intro w' hSw; (try dsimp only at hSw); go_simp; first | done | with_reducible rfl)
      simp only [Act.put, List.setIfInBounds_toArray, List.set_cons_zero, List.set_cons_succ]
      refine rg_run 6 rfl (by kernel_rfl) (by kernel_rfl) (fun K hK => ?_)
      go_simp
      refine (c_l17Fits c ab (some ⟨b1, o1, none⟩) cb cs x _ HD.out).mono ?_
      rintro e w2 ⟨rfl, hb2⟩
      have hbs : Below wr.heap.size wr w2 := below_chain (Below.refl _ _).drew hb2
      have HA2 := Lib.hid (ha.out.below hbs)
      have HO2 := Lib.hid (own_below ho.out hbs)
      have HB2 := Lib.hid (below_chain hb.out hbs)
      replace g0 := cell_later hbs g0
      replace g1 := cell_later hbs g1
      clear a0 a1 a2 a3 a4 hbs hb2 ha ho hb
      obtain ⟨a0, a1, a2, a3, a4⟩ := HA2.out
      go_wp2
      clear hHeld
      refine hK.out _ _ (by exact ⟨⟨a0, a1, a2, a3, a4⟩, g0, g1⟩) (fun hHeld => ?_)
      clear hK K
      try simp only [Act.put, List.setIfInBounds_toArray, List.set_cons_zero, List.set_cons_succ]
      refine rg_take (v := ?_) 7 rfl (by kernel_rfl) (by kernel_rfl) (by kernel_rfl) (fun _ _ _ h => h) (by kernel_rfl) ?_ (by assumption) ?_
      rotate_left
      · (intro w' hSw; (try dsimp only at hSw); go_simp; first | done | with_reducible rfl)
      simp only [Act.put, List.setIfInBounds_toArray, List.set_cons_zero, List.set_cons_succ]
      refine wpAnyH_done (by kernel_rfl) ?_ _
      clear hHeld
      rcases hf : fitB c x with _ | _
      · have HV : Hid (hgtB c = false) := Lib.hid (by unfold hgtB; rw [hh.out, HX.out, hf]; simp)
        go_wp2_with (fail)
        refine bodyPost_ret (v := .tuple #[.slice none 0 0, .bool false]) (by simp [results, Tryz.results100, go_sem]) rfl (by rw [HV.out]; exact ⟨_, _, _, rfl, HB2.out⟩)
      · have HF := Lib.hid hf
        rw [hf] at HX
        clear hf
        go_wp2_with (fail)
        refine wp_region_held_drew (S := (fun w' => (w'.cell? ⟨w.heap.size, 0, none⟩ = some (.int .i64 c.i) ∧ w'.cell? ⟨w.heap.size, 1, none⟩ = some (.int .i64 c.v) ∧ w'.cell? ⟨w.heap.size, 2, none⟩ = some (.int .i64 c.o) ∧ w'.cell? ⟨w.heap.size, 3, none⟩ = some (.slice ab c.bs.length cb) ∧ w'.cell? ⟨w.heap.size, 4, none⟩ = some (.slice (some ⟨b1, o1, none⟩) c.ss.length cs)) ∧ w'.cell? ⟨b1, o1 + k * 2, none⟩ = some (.int .i64 x.o) ∧ w'.cell? ⟨b1, o1 + k * 2 + 1, none⟩ = some (.int .i64 x.a))) (by kernel_rfl) ?_ (fun hHeld => ?_)
        · exact ⟨⟨a0, a1, a2, a3, a4⟩, g0, g1⟩
        refine rg_take (v := ?_) 0 rfl (by kernel_rfl) (by kernel_rfl) (by kernel_rfl) (fun _ _ _ h => h) (by kernel_rfl) ?_ (by assumption) ?_
        rotate_left
        · (intro w' hSw; (try dsimp only at hSw); go_simp; first | done | with_reducible rfl)
        simp only [Act.put, List.setIfInBounds_toArray, List.set_cons_zero, List.set_cons_succ]
        refine rg_take (v := ?_) 1 rfl (by kernel_rfl) (by kernel_rfl) (by kernel_rfl) (fun _ _ _ h => h) (by kernel_rfl) ?_ (by assumption) ?_
        rotate_left
        · (intro w' hSw; (try dsimp only at hSw); go_simp; first | done | with_reducible rfl)
        simp only [Act.put, List.setIfInBounds_toArray, List.set_cons_zero, List.set_cons_succ]
        refine rg_take (v := ?_) 2 rfl (by kernel_rfl) (by kernel_rfl) (by kernel_rfl) (fun _ _ _ h => h) (by kernel_rfl) ?_ (by assumption) ?_
        rotate_left
        · (intro w' hSw; (try dsimp only at hSw); go_simp; first | done | with_reducible rfl)
        simp only [Act.put, List.setIfInBounds_toArray, List.set_cons_zero, List.set_cons_succ]
        refine rg_take (v := ?_) 3 rfl (by kernel_rfl) (by kernel_rfl) (by kernel_rfl) (fun _ _ _ h => h) (by kernel_rfl) ?_ (by assumption) ?_
        rotate_left
        · (intro w' hSw; (try dsimp only at hSw); go_simp; first | done | with_reducible rfl)
        simp only [Act.put, List.setIfInBounds_toArray, List.set_cons_zero, List.set_cons_succ]
        refine rg_take (v := ?_) 4 rfl (by kernel_rfl) (by kernel_rfl) (by kernel_rfl) (fun _ _ _ h => h) (by kernel_rfl) ?_ (by assumption) ?_
        rotate_left
        · (intro w' hSw; (try dsimp only at hSw); go_simp; first | done | with_reducible rfl)
        simp only [Act.put, List.setIfInBounds_toArray, List.set_cons_zero, List.set_cons_succ]
        refine rg_take (v := ?_) 5 rfl (by kernel_rfl) (by kernel_rfl) (by kernel_rfl) (fun _ _ _ h => h) (by kernel_rfl) ?_ (by assumption) ?_
        rotate_left
        · (intro w' hSw; (try dsimp only at hSw); go_simp; first | done | with_reducible rfl)
        simp only [Act.put, List.setIfInBounds_toArray, List.set_cons_zero, List.set_cons_succ]
        refine rg_run 6 rfl (by kernel_rfl) (by kernel_rfl) (fun K hK => ?_)
        go_simp
        refine (c_l17Takes c ab (some ⟨b1, o1, none⟩) cb cs x _ HF.out ((HC.out.below HB2.out).below (Below.refl _ _).drew)).mono ?_
        rintro e w3 ⟨rfl, hb2⟩
        have hbs : Below w2.heap.size w2 w3 := below_chain (Below.refl _ _).drew hb2
        have HA3 := Lib.hid (HA2.out.below hbs)
        have HO3 := Lib.hid (own_below HO2.out hbs)
        have HB3 := Lib.hid (below_chain HB2.out hbs)
        replace g0 := cell_later hbs g0
        replace g1 := cell_later hbs g1
        clear a0 a1 a2 a3 a4 hbs hb2 HA2 HO2 HB2
        obtain ⟨a0, a1, a2, a3, a4⟩ := HA3.out
        go_wp2
        clear hHeld
        refine hK.out _ _ (by exact ⟨⟨a0, a1, a2, a3, a4⟩, g0, g1⟩) (fun hHeld => ?_)
        clear hK K
        try simp only [Act.put, List.setIfInBounds_toArray, List.set_cons_zero, List.set_cons_succ]
        refine rg_take (v := ?_) 7 rfl (by kernel_rfl) (by kernel_rfl) (by kernel_rfl) (fun _ _ _ h => h) (by kernel_rfl) ?_ (by assumption) ?_
        rotate_left
        · (intro w' hSw; (try dsimp only at hSw); go_simp; first | done | with_reducible rfl)
        simp only [Act.put, List.setIfInBounds_toArray, List.set_cons_zero, List.set_cons_succ]
        refine rg_take (v := ?_) 8 rfl (by kernel_rfl) (by kernel_rfl) (by kernel_rfl) (fun _ _ _ h => h) (by kernel_rfl) ?_ (by assumption) ?_
        rotate_left
        · (intro w' hSw; (try dsimp only at hSw); go_simp; first | done | with_reducible rfl)
        simp only [Act.put, List.setIfInBounds_toArray, List.set_cons_zero, List.set_cons_succ]
        refine rg_take (v := ?_) 9 rfl (by kernel_rfl) (by kernel_rfl) (by kernel_rfl) (fun _ _ _ h => h) (by kernel_rfl) ?_ (by assumption) ?_
        rotate_left
        · (intro w' hSw; (try dsimp only at hSw); go_simp; first | done | with_reducible rfl)
        simp only [Act.put, List.setIfInBounds_toArray, List.set_cons_zero, List.set_cons_succ]
        refine rg_take (v := ?_) 10 rfl (by kernel_rfl) (by kernel_rfl) (by kernel_rfl) (fun _ _ _ h => h) (by kernel_rfl) ?_ (by assumption) ?_
        rotate_left
        · (intro w' hSw; (try dsimp only at hSw); go_simp; first | done | with_reducible rfl)
        simp only [Act.put, List.setIfInBounds_toArray, List.set_cons_zero, List.set_cons_succ]
        refine rg_take (v := ?_) 11 rfl (by kernel_rfl) (by kernel_rfl) (by kernel_rfl) (fun _ _ _ h => h) (by kernel_rfl) ?_ (by assumption) ?_
        rotate_left
        · (intro w' hSw; (try dsimp only at hSw); go_simp; first | done | with_reducible rfl)
        simp only [Act.put, List.setIfInBounds_toArray, List.set_cons_zero, List.set_cons_succ]
        refine wpAnyH_done (by kernel_rfl) ?_ _
        clear hHeld
        have ht := tak_bd c x
        have hg := giv_bd x
        generalize takI c x = T at *
        generalize givI x = G at *
        clear a0 a1 a2 a3 a4 g0 g1
        by_cases h1 : n < T
        · have HV : Hid (hgtB c = false) := Lib.hid (by unfold hgtB; rw [hh.out, HX.out, if_neg (by omega)]; simp)
          go_wp2_with (fail)
          refine bodyPost_ret (v := .tuple #[.slice none 0 0, .bool false]) (by simp [results, Tryz.results100, go_sem]) rfl (by rw [HV.out]; exact ⟨_, _, _, rfl, HB3.out⟩)
        by_cases h2 : 40 < n - T + G
        · have HV : Hid (hgtB c = false) := Lib.hid (by unfold hgtB; rw [hh.out, HX.out, if_neg (by omega)]; simp)
          go_wp2_with (fail)
          refine bodyPost_ret (v := .tuple #[.slice none 0 0, .bool false]) (by simp [results, Tryz.results100, go_sem]) rfl (by rw [HV.out]; exact ⟨_, _, _, rfl, HB3.out⟩)
        have HH := Lib.hid (hh.out.trans (HX.out.trans (if_pos ⟨trivial, by omega, by omega⟩)))
        have hsz3 := World.block_lt_of_cell? _ _ HA3.out.1
        dsimp only at hsz3
        clear HX hh
        go_wp2_with (first
          | (at_builtin
             refine wpList_push_int _ rfl (.tmp 51) (.tmp 53) rfl (w.heap.size + 1) _ k zs (n - T + G) w3.heap.size 1 rfl (own_below HO3.out (below_alloc (Below.refl _ _) _)) rfl (by go_simp) (by omega) (by simp; omega) ?_
             intro v7 w7 hown hgrow _ _
             obtain ⟨A9, c9, rfl⟩ := own_shape hown
             have HA7 := Lib.hid ((HA3.out.below (below_alloc (Below.refl _ _) (.cells #[.int .i64 (n - T + G)] 2))).mark hgrow (fun q hq => by have := (HO3.out.lt q hq).1; omega))
             have HB7 := Lib.hid (below_of_grown (below_chain HB3.out (below_alloc (Below.refl _ _) (.cells #[.int .i64 (n - T + G)] 2))) hgrow (fun q hq => by have := (HO3.out.lt q hq).1; omega))
             have HO7 := Lib.hid hown
             clear hown hgrow HA3 HB3 HO3)
          )
        go_roundw
        case rel => exact ⟨k + 1, n - T + G, A9, c9, _, by omega, by go_num, rfl, by omega, by omega, rfl, HH, HO7, HB7, HA7⟩
        case measure => simp [intOf]; omega
    · obtain rfl : k = c.ss.length := by omega
      have HV : Hid ((n == 0) = hgtB c) := Lib.hid (by
        unfold hgtB
        rw [hh.out, List.drop_length]
        show (n == 0) = decide (some n = some 0)
        by_cases h0 : n = 0
        · subst h0; rfl
        · simp [h0])
      obtain ⟨a0, a1, a2, a3, a4⟩ := ha.out
      go_wp2_with (fail)
      refine bodyPost_ret (v := .tuple #[.slice A3 c.ss.length c3, .bool (n == 0)]) (by simp [results, Tryz.results100, go_sem]) rfl (by rw [← HV.out]; exact ⟨_, _, _, rfl, hb.out⟩)
def headC (c : Cd) : Bool := inB c.i 0 20 && inB c.v 0 20 && inB c.o 0 20 && decide (c.bs.length ≤ 2000) && decide (c.ss.length ≤ 2000)
def codeB (c : Cd) : Bool := headC c && c.bs.all blkB && hgtB c
theorem head_Hd {c : Cd} (h : headC c = true) : Hd c := by
  unfold headC inB at h
  simp only [Bool.and_eq_true, decide_eq_true_eq] at h
  obtain ⟨⟨⟨⟨h1, h2⟩, h3⟩, h4⟩, h5⟩ := h
  exact ⟨h1.1, h1.2, h2.1, h2.2, h3.1, h3.2, h4, h5⟩
set_option maxHeartbeats 2000000 in
set_option maxRecDepth 100000 in
theorem c_sIsCode (c : Cd) (ab as_ : Option Addr) (cb cs : Nat) (w : World) (hs : CdOk c) (h : CdR w ab as_ c) :
    Calls Tryz.prog 49 #[cv c ab as_ cb cs] w fun e w' => e = .returned (.bool (codeB c)) ∧ Below w.heap.size w w' := by
  have HS := Lib.hid hs
  have H := Lib.hid h
  have hl1 := hs.1.1
  have hl2 := hs.2
  clear hs h
  have HAB : Hid (Below w.heap.size w (w.alloc (.cells #[.int .i64 c.i, .int .i64 c.v, .int .i64 c.o, .slice ab c.bs.length cb, .slice as_ c.ss.length cs] 35))) := Lib.hid (below_alloc (Below.refl _ _) _)
  rcases q1 : inB c.i 0 20 with _ | _
  · have HV : Hid (codeB c = false) := Lib.hid (by unfold codeB headC; rw [q1]; rfl)
    rw [HV.out]
    go_enter Tryz.func49, Tryz.ntmps49
    dsimp only [cv]
    go_wp2_with (first
      | (go_at_call 55
         refine (c_l01In _ _ _ _).mono ?_
         rintro e w' ⟨rfl, rfl⟩)
      )
    go_ret
    exact ⟨rfl, HAB.out⟩
  rcases q2 : inB c.v 0 20 with _ | _
  · have HV : Hid (codeB c = false) := Lib.hid (by unfold codeB headC; rw [q1, q2]; rfl)
    rw [HV.out]
    go_enter Tryz.func49, Tryz.ntmps49
    dsimp only [cv]
    go_wp2_with (first
      | (go_at_call 55
         refine (c_l01In _ _ _ _).mono ?_
         rintro e w' ⟨rfl, rfl⟩)
      )
    go_ret
    exact ⟨rfl, HAB.out⟩
  rcases q3 : inB c.o 0 20 with _ | _
  · have HV : Hid (codeB c = false) := Lib.hid (by unfold codeB headC; rw [q1, q2, q3]; rfl)
    rw [HV.out]
    go_enter Tryz.func49, Tryz.ntmps49
    dsimp only [cv]
    go_wp2_with (first
      | (go_at_call 55
         refine (c_l01In _ _ _ _).mono ?_
         rintro e w' ⟨rfl, rfl⟩)
      )
    go_ret
    exact ⟨rfl, HAB.out⟩
  by_cases q4 : 2000 < c.bs.length
  · have HV : Hid (codeB c = false) := Lib.hid (by unfold codeB headC; rw [decide_eq_false (show ¬ c.bs.length ≤ 2000 by omega)]; simp)
    rw [HV.out]
    go_enter Tryz.func49, Tryz.ntmps49
    dsimp only [cv]
    go_wp2_with (first
      | (go_at_call 55
         refine (c_l01In _ _ _ _).mono ?_
         rintro e w' ⟨rfl, rfl⟩)
      )
    go_ret
    exact ⟨rfl, HAB.out⟩
  by_cases q5 : 2000 < c.ss.length
  · have HV : Hid (codeB c = false) := Lib.hid (by unfold codeB headC; rw [decide_eq_false (show ¬ c.ss.length ≤ 2000 by omega)]; simp)
    rw [HV.out]
    go_enter Tryz.func49, Tryz.ntmps49
    dsimp only [cv]
    go_wp2_with (first
      | (go_at_call 55
         refine (c_l01In _ _ _ _).mono ?_
         rintro e w' ⟨rfl, rfl⟩)
      )
    go_ret
    exact ⟨rfl, HAB.out⟩
  have hh : headC c = true := by
    unfold headC
    rw [q1, q2, q3, decide_eq_true (show c.bs.length ≤ 2000 by omega), decide_eq_true (show c.ss.length ≤ 2000 by omega)]
    rfl
  have HH := Lib.hid hh
  have HA : Hid (CB (w.alloc (.cells #[.int .i64 c.i, .int .i64 c.v, .int .i64 c.o, .slice ab c.bs.length cb, .slice as_ c.ss.length cs] 35)) w.heap.size c ab as_ cb cs) := Lib.hid ⟨by go_simp, by go_simp, by go_simp, by go_simp, by go_simp⟩
  clear hh
  go_enter Tryz.func49, Tryz.ntmps49
  dsimp only [cv]
  go_wp2_with (first
    | (go_at_call 55
       refine (c_l01In _ _ _ _).mono ?_
       rintro e w' ⟨rfl, rfl⟩)
    )
  generalize w.alloc (.cells #[.int .i64 c.i, .int .i64 c.v, .int .i64 c.o, .slice ab c.bs.length cb, .slice as_ c.ss.length cs] 35) = W at *
  clear q1 q2 q3
  go_loopw [3] (fun i wr => ∃ k : Nat, k ≤ c.bs.length ∧ i = .int .i64 k ∧ Hid (∀ t ∈ c.bs.take k, blkB t = true) ∧ Hid (Below w.heap.size w wr) ∧ Hid (CB wr w.heap.size c ab as_ cb cs)) (fun i _ => c.bs.length - (intOf i).toNat)
  case atStart => exact ⟨0, Nat.zero_le _, rfl, Lib.hid (fun t h => by simp at h), HAB, HA⟩
  case round =>
    obtain ⟨k, hk, rfl, hall, hb, ha⟩ := hrel
    clear HAB HA
    obtain ⟨a0, a1, a2, a3, a4⟩ := ha.out
    by_cases hlt : k < c.bs.length
    · obtain ⟨t, ht⟩ : ∃ t, c.bs[k]? = some t := ⟨_, List.getElem?_eq_getElem hlt⟩
      obtain ⟨b1, o1, rfl, _, g0, g1, g2⟩ := (H.out.below hb.out).b.tm ht
      have HT := Lib.hid ht
      have hnm := HS.out.1.2 t (List.mem_of_getElem? ht)
      have hk0 : (0 : Int) ≤ (k : Int) := by omega
      have hk1 : (k : Int) < c.bs.length := by omega
      clear ht
      go_wp2_with (fail)
      refine (c_sIsBlock t _ hnm).mono ?_
      rintro e w2 ⟨rfl, hb2⟩
      have HA2 := Lib.hid (ha.out.below hb2)
      have HB2 := Lib.hid (below_chain hb.out hb2)
      clear hb2 ha hb a0 a1 a2 a3 a4 g0 g1 g2
      rcases hbl : blkB t with _ | _
      · have HV : Hid (codeB c = false) := Lib.hid (by
          unfold codeB
          have hm := List.mem_of_getElem? HT.out
          have : c.bs.all blkB = false := by
            rw [← Bool.not_eq_true, List.all_eq_true]
            intro h
            rw [h t hm] at hbl
            cases hbl
          rw [this]; simp)
        go_wp2_with (fail)
        go_ret
        exact ⟨ret_bool HV.out.symm, HB2.out⟩
      · have HAL : Hid (∀ t ∈ c.bs.take (k + 1), blkB t = true) := Lib.hid (by
          intro t' h
          rw [List.take_add_one, HT.out, List.mem_append] at h
          rcases h with h | h
          · exact hall.out t' h
          · simp at h
            subst h
            exact hbl)
        clear hbl
        go_wp2_with (fail)
        go_roundw
        case rel => exact ⟨k + 1, by omega, by go_num, HAL, HB2, HA2⟩
        case measure => simp [intOf]; omega
    · obtain rfl : k = c.bs.length := by omega
      have HV : Hid (hgtB c = codeB c) := Lib.hid (by
        unfold codeB
        have : c.bs.all blkB = true := by
          rw [List.all_eq_true]
          intro t ht
          have := hall.out t
          rw [List.take_length] at this
          exact this ht
        rw [HH.out, this]; simp)
      go_wp2_with (fail)
      refine (c_l17Heights c ab as_ cb cs _ (head_Hd HH.out) (H.out.below hb.out)).mono ?_
      rintro e w2 ⟨A, n, cc, rfl, hb2⟩
      have HB2 := Lib.hid (below_chain hb.out hb2)
      clear hb2
      go_wp2_with (fail)
      go_ret
      exact ⟨ret_bool HV.out, HB2.out⟩
end Go.Proofs.YteengjcplmjakaaGreatDoor

/- IsCode on the program's side, over exact terms (printed by kcode.py out of CMn CIb CIc CIh CIe). Condition: the lists' sizes; the keywords lie there. -/
namespace Go.Proofs.YteengjcplmjakaaGreatDoor
open Go.RowKit

set_option maxRecDepth 100000 in
theorem c_IsBlock (t : Tm) (w : World) (hs : t.nm.size ≤ 1048576) (hk : KwR w) : Calls Tryz.prog 97 #[.agg #[.int .i64 t.k, .string t.nm, .int .i64 t.n]] w fun e w' => e = .returned (.bool (blkB t)) ∧ Below w.heap.size w w' := by
  have HT := Lib.hid (fun w (h : KwR w) => c_isTerm t.k t.nm t.n w hs h)
  have HV : Hid ((trmT t.k t.nm t.n && decide (7 ≤ t.k)) = blkB t) := Lib.hid rfl
  have HK := Lib.hid hk
  clear hk
  obtain ⟨k, nm, n⟩ := t
  dsimp only at hs HT HV ⊢
  generalize trmT k nm n = b at *
  go_enter Tryz.func97, Tryz.ntmps97
  go_wp2_with (fail)
  refine (HT.out _ (HK.out.below (below_alloc (Below.refl _ _) _))).mono ?_
  rintro e w1 ⟨rfl, hb⟩
  have HB := Lib.hid (below_chain (below_alloc (Below.refl _ _) _) hb)
  have k0 : w1.cell? ⟨w.heap.size, 0, none⟩ = some (.int .i64 k) := cell_later hb (by go_simp)
  clear hb HT
  cases b
  · go_wp2_with (fail)
    go_ret
    exact ⟨ret_bool (by rw [← HV.out]; rfl), HB.out⟩
  · go_wp2_with (fail)
    go_ret
    exact ⟨ret_bool (by rw [← HV.out]; simp), HB.out⟩
set_option maxRecDepth 100000 in
theorem c_notBlock (t : Tm) (w : World) (hs : t.nm.size ≤ 1048576) (hk : KwR w) : Calls Tryz.prog 96 #[.agg #[.int .i64 t.k, .string t.nm, .int .i64 t.n]] w fun e w' => e = .returned (.bool (!blkB t)) ∧ Below w.heap.size w w' := by
  have HK := Lib.hid hk
  clear hk
  go_enter Tryz.func96, Tryz.ntmps96
  go_wp2_with (fail)
  refine (c_IsBlock t _ hs (HK.out.below (below_alloc (Below.refl _ _) _))).mono ?_
  rintro e w1 ⟨rfl, hb⟩
  have HB := Lib.hid (below_chain (below_alloc (Below.refl _ _) _) hb)
  clear hb
  go_wp2_with (fail)
  go_ret
  exact ⟨rfl, HB.out⟩
/-- What a closure over one captured value answers at a test. -/
def ClTm (f : Nat) (pr : Tm → Bool) (l : List Tm) (w : World) : Prop :=
  ∀ (wr : World) (t : Tm), t ∈ l → Below w.heap.size w wr → Calls Tryz.prog f #[.agg #[.int .i64 t.k, .string t.nm, .int .i64 t.n]] wr fun e w2 => e = .returned (.bool (pr t)) ∧ Below wr.heap.size wr w2
set_option maxRecDepth 100000 in
theorem c_IndexTm (f : Nat) (pr : Tm → Bool) (A : Option Addr) (c : Nat) (l : List Tm) (w : World) (hl2 : l.length ≤ 1048576) (hv : Rd w A (tmCells l)) (hcall : Hid (ClTm f pr l w)) (hent : ∀ (args : Array Value) (w : World), (callFunc f args).run Tryz.prog w = .ok (.enter f args) w) :
    Calls Tryz.prog 146 #[.slice A l.length c, .func (.func f) #[] #[]] w fun e w' => e = .returned (.int .i64 (idxI pr l)) ∧ Below w.heap.size w w' := by
  have HR := Lib.hid (rfl : idxI pr l = idxI pr l)
  generalize hR : idxI pr l = R at HR
  replace HR := Lib.hid hR
  clear hR
  generalize hvn : l.length = vn at *
  have HVN := Lib.hid hvn
  have HV := Lib.hid hv
  clear hv hvn
  go_enter Tryz.func146, Tryz.ntmps146
  go_wp2
  go_loopw [8] (fun i wr => ∃ k : Nat, k ≤ vn ∧ i = .int .i64 k ∧ Hid ((l.take k).any pr = false) ∧ Below w.heap.size w wr) (fun i _ => vn - (intOf i).toNat)
  case atStart => exact ⟨0, Nat.zero_le _, rfl, Lib.hid rfl, by (repeat (first | exact Below.refl _ _ | assumption | refine below_alloc ?_ _ | refine below_drewN ?_ _ | refine below_set ?_ _ (by simp; try omega) | refine Below.drew ?_))⟩
  case round =>
    obtain ⟨k, hk, rfl, ha, hb⟩ := hrel
    by_cases hlt : k < vn
    · obtain ⟨t, hz⟩ : ∃ z, l[k]? = some z := ⟨_, List.getElem?_eq_getElem (by have := HVN.out; omega)⟩
      obtain ⟨b', off, rfl, _, g0, g1, g2⟩ := (HV.out.below hb).tm hz
      have HZZ := Lib.hid hz
      have HBE := Lib.hid hb
      have HC := Lib.hid (hcall.out wr t (List.mem_of_getElem? hz) hb)
      clear hz hb
      rcases hin : pr t with _ | _
      · rw [hin] at HC
        have HI := Lib.hid hin
        clear hin
        go_wp2_with (fail)
        refine HC.out.mono ?_
        rintro e w2 ⟨rfl, hb⟩
        have HB2 := Lib.hid (below_chain HBE.out hb)
        clear hb
        go_wp2
        go_roundw
        case rel => exact ⟨k + 1, by omega, by go_num, Lib.hid (any_take_snoc HZZ.out ha.out HI.out), HB2.out⟩
        case measure => simp [intOf]; omega
      · rw [hin] at HC
        have HI := Lib.hid hin
        clear hin
        go_wp2_with (fail)
        refine HC.out.mono ?_
        rintro e w2 ⟨rfl, hb⟩
        have HB2 := Lib.hid (below_chain HBE.out hb)
        clear hb
        go_wp2
        go_ret
        exact ⟨ret_int (by rw [← HR.out, idxI_found HZZ.out ha.out HI.out]), HB2.out⟩
    · have : k = vn := by omega
      subst this
      have hA := ha.out
      rw [List.take_of_length_le (by have := HVN.out; omega)] at hA
      have HA := Lib.hid hA
      clear hA ha
      go_wp2
      go_ret
      exact ⟨ret_int (by rw [← HR.out, idxI_none HA.out]), hb⟩
set_option maxRecDepth 100000 in
theorem c_ContainsTm (f : Nat) (pr : Tm → Bool) (A : Option Addr) (c : Nat) (l : List Tm) (w : World) (hl2 : l.length ≤ 1048576) (hv : Rd w A (tmCells l)) (hcall : Hid (ClTm f pr l w)) (hent : ∀ (args : Array Value) (w : World), (callFunc f args).run Tryz.prog w = .ok (.enter f args) w) :
    Calls Tryz.prog 95 #[.slice A l.length c, .func (.func f) #[] #[]] w fun e w' => e = .returned (.bool (l.any pr)) ∧ Below w.heap.size w w' := by
  have HC := Lib.hid (c_IndexTm f pr A c l w hl2 hv hcall hent)
  have HA := Lib.hid (idxI_any pr l)
  generalize idxI pr l = i at HC HA
  generalize l.any pr = r at HA ⊢
  generalize l.length = n at *
  clear hv hcall hent
  go_enter Tryz.func95, Tryz.ntmps95
  go_wp2_with (fail)
  refine HC.out.mono ?_
  rintro e w1 ⟨rfl, hb⟩
  have HB := Lib.hid hb
  clear hb
  go_wp2
  go_ret
  exact ⟨ret_bool HA.out, HB.out⟩
set_option maxRecDepth 100000 in
theorem c_lengthT (A : Option Addr) (c n : Nat) (w : World) (hn : n ≤ 1048576) : Calls Tryz.prog 178 #[.slice A n c] w fun e w' => e = .returned (.int .i64 n) ∧ w = w' := by
  have hw : IntKind.i64.wrap (n : Int) = n := IntWalk.i64_in _ (by omega)
  go_enter Tryz.func178, Tryz.ntmps178
  go_wp2_with (fail)
  go_ret
  exact ⟨rfl, rfl⟩
set_option maxHeartbeats 1000000 in
set_option maxRecDepth 100000 in
theorem c_many (c : Cd) (ab as_ : Option Addr) (cb cs : Nat) (o : Int) (w : World) (hd : Hd c) :
    Calls Tryz.prog 148 #[cv c ab as_ cb cs, .int .i64 o] w fun e w' => e = .returned (.int .i64 (manyI c o)) ∧ Below w.heap.size w w' := by
  have hb := hd.b
  clear hd
  by_cases h1 : o = 1
  · subst h1
    dsimp only [cv]
    go_enter Tryz.func148, Tryz.ntmps148
    go_wp2_with (fail)
    go_ret
    exact ⟨rfl, by (repeat (first | exact Below.refl _ _ | assumption | refine below_alloc ?_ _ | refine below_drewN ?_ _ | refine below_set ?_ _ (by simp; try omega) | refine Below.drew ?_))⟩
  by_cases h2 : o = 2
  · subst h2
    dsimp only [cv]
    go_enter Tryz.func148, Tryz.ntmps148
    go_wp2_with (fail)
    go_ret
    exact ⟨rfl, by (repeat (first | exact Below.refl _ _ | assumption | refine below_alloc ?_ _ | refine below_drewN ?_ _ | refine below_set ?_ _ (by simp; try omega) | refine Below.drew ?_))⟩
  by_cases h3 : o = 3
  · subst h3
    dsimp only [cv]
    go_enter Tryz.func148, Tryz.ntmps148
    go_wp2_with (fail)
    go_ret
    exact ⟨rfl, by (repeat (first | exact Below.refl _ _ | assumption | refine below_alloc ?_ _ | refine below_drewN ?_ _ | refine below_set ?_ _ (by simp; try omega) | refine Below.drew ?_))⟩
  by_cases h4 : o = 4
  · subst h4
    dsimp only [cv]
    go_enter Tryz.func148, Tryz.ntmps148
    go_wp2_with (fail)
    go_ret
    exact ⟨rfl, by (repeat (first | exact Below.refl _ _ | assumption | refine below_alloc ?_ _ | refine below_drewN ?_ _ | refine below_set ?_ _ (by simp; try omega) | refine Below.drew ?_))⟩
  by_cases h5 : o = 5
  · subst h5
    dsimp only [cv]
    go_enter Tryz.func148, Tryz.ntmps148
    go_wp2_with (fail)
    go_ret
    exact ⟨rfl, by (repeat (first | exact Below.refl _ _ | assumption | refine below_alloc ?_ _ | refine below_drewN ?_ _ | refine below_set ?_ _ (by simp; try omega) | refine Below.drew ?_))⟩
  by_cases h6 : o = 6
  · subst h6
    dsimp only [cv]
    go_enter Tryz.func148, Tryz.ntmps148
    go_wp2_with (fail)
    go_ret
    exact ⟨rfl, by (repeat (first | exact Below.refl _ _ | assumption | refine below_alloc ?_ _ | refine below_drewN ?_ _ | refine below_set ?_ _ (by simp; try omega) | refine Below.drew ?_))⟩
  by_cases h7 : o = 7
  · subst h7
    dsimp only [cv]
    go_enter Tryz.func148, Tryz.ntmps148
    go_wp2_with (first
      | (go_at_call 178
         refine (c_lengthT _ _ _ _ (by omega)).mono ?_
         rintro e w' ⟨rfl, rfl⟩)
      )
    go_ret
    exact ⟨rfl, by (repeat (first | exact Below.refl _ _ | assumption | refine below_alloc ?_ _ | refine below_drewN ?_ _ | refine below_set ?_ _ (by simp; try omega) | refine Below.drew ?_))⟩
  by_cases h8 : o = 8
  · subst h8
    dsimp only [cv]
    go_enter Tryz.func148, Tryz.ntmps148
    go_wp2_with (fail)
    go_ret
    exact ⟨rfl, by (repeat (first | exact Below.refl _ _ | assumption | refine below_alloc ?_ _ | refine below_drewN ?_ _ | refine below_set ?_ _ (by simp; try omega) | refine Below.drew ?_))⟩
  by_cases h9 : o = 9
  · subst h9
    dsimp only [cv]
    go_enter Tryz.func148, Tryz.ntmps148
    go_wp2_with (fail)
    go_ret
    exact ⟨rfl, by (repeat (first | exact Below.refl _ _ | assumption | refine below_alloc ?_ _ | refine below_drewN ?_ _ | refine below_set ?_ _ (by simp; try omega) | refine Below.drew ?_))⟩
  by_cases h10 : o = 10
  · subst h10
    dsimp only [cv]
    go_enter Tryz.func148, Tryz.ntmps148
    go_wp2_with (fail)
    go_ret
    exact ⟨rfl, by (repeat (first | exact Below.refl _ _ | assumption | refine below_alloc ?_ _ | refine below_drewN ?_ _ | refine below_set ?_ _ (by simp; try omega) | refine Below.drew ?_))⟩
  by_cases h11 : o = 11
  · subst h11
    dsimp only [cv]
    go_enter Tryz.func148, Tryz.ntmps148
    go_wp2_with (fail)
    go_ret
    exact ⟨rfl, by (repeat (first | exact Below.refl _ _ | assumption | refine below_alloc ?_ _ | refine below_drewN ?_ _ | refine below_set ?_ _ (by simp; try omega) | refine Below.drew ?_))⟩
  have e1 : (o == 1) = false := by simpa using h1
  have e2 : (o == 2) = false := by simpa using h2
  have e3 : (o == 3) = false := by simpa using h3
  have e4 : (o == 4) = false := by simpa using h4
  have e5 : (o == 5) = false := by simpa using h5
  have e6 : (o == 6) = false := by simpa using h6
  have e7 : (o == 7) = false := by simpa using h7
  have e8 : (o == 8) = false := by simpa using h8
  have e9 : (o == 9) = false := by simpa using h9
  have e10 : (o == 10) = false := by simpa using h10
  have e11 : (o == 11) = false := by simpa using h11
  have HM : Hid (manyI c o = 0) := Lib.hid (by unfold manyI; rw [if_neg h1, if_neg (by omega), if_neg (by omega), if_neg (by omega), if_neg h7, if_neg h9])
  rw [HM.out]
  clear h1 h2 h3 h4 h5 h6 h7 h8 h9 h10 h11
  dsimp only [cv]
  go_enter Tryz.func148, Tryz.ntmps148
  go_wp2_with (fail)
  go_ret
  exact ⟨rfl, by (repeat (first | exact Below.refl _ _ | assumption | refine below_alloc ?_ _ | refine below_drewN ?_ _ | refine below_set ?_ _ (by simp; try omega) | refine Below.drew ?_))⟩
/-- An instruction in its box. -/
def XB (w : World) (b : Nat) (x : Ins) : Prop := w.cell? ⟨b, 0, none⟩ = some (.int .i64 x.o) ∧ w.cell? ⟨b, 1, none⟩ = some (.int .i64 x.a)
theorem XB.below {w w' : World} {b : Nat} {x : Ins} (h : XB w b x) (hb : Below w.heap.size w w') : XB w' b x := ⟨cell_later hb h.1, cell_later hb h.2⟩
theorem fit_of {c : Cd} {x : Ins} (h : 0 ≤ x.a) : fitB c x = !decide (manyI c x.o ≤ x.a) := by
  unfold fitB
  rw [← decide_not, Bool.eq_iff_iff, decide_eq_true_eq, decide_eq_true_eq]
  omega
set_option maxHeartbeats 2000000 in
set_option maxRecDepth 100000 in
theorem c_heights (c : Cd) (ab as_ : Option Addr) (cb cs : Nat) (w : World) (hd : Hd c) (h : CdR w ab as_ c) :
    Calls Tryz.prog 98 #[cv c ab as_ cb cs] w (HgtP (hgtB c) w) := by
  have HD := Lib.hid hd
  have HC := Lib.hid h
  have HB0 := Lib.hid (below_alloc (Below.refl w.heap.size w) (.cells #[.int .i64 c.i, .int .i64 c.v, .int .i64 c.o, .slice ab c.bs.length cb, .slice as_ c.ss.length cs] 35))
  have HA : Hid (CB (w.alloc (.cells #[.int .i64 c.i, .int .i64 c.v, .int .i64 c.o, .slice ab c.bs.length cb, .slice as_ c.ss.length cs] 35)) w.heap.size c ab as_ cb cs) := Lib.hid ⟨by go_simp, by go_simp, by go_simp, by go_simp, by go_simp⟩
  have hln := hd.s
  clear h hd
  go_enter Tryz.func98, Tryz.ntmps98
  dsimp only [cv]
  go_upto_region 1 with (fail)
  generalize w.alloc (.cells #[.int .i64 c.i, .int .i64 c.v, .int .i64 c.o, .slice ab c.bs.length cb, .slice as_ c.ss.length cs] 35) = W at *
  obtain ⟨a0, a1, a2, a3, a4⟩ := HA.out
  go_wp2_with (fail)
  clear a0 a1 a2 a3 a4
  go_loopw [4, 5, 7, 8, 9, 13] (fun l t _ _ _ i wr => ∃ (k : Nat) (n : Int) (A3 : Option Addr) (c3 : Nat) (zs : List Int), k ≤ c.ss.length ∧ i = .int .i64 k ∧ t = .int .i64 n ∧ 0 ≤ n ∧ n ≤ 40 ∧ l = .slice A3 k c3 ∧ Hid (hgt c c.ss 0 = hgt c (c.ss.drop k) n) ∧ Hid (wr.ownsRow (w.heap.size + 1) 2 1 (.slice A3 k c3) k (ints zs)) ∧ Hid (Below w.heap.size w wr) ∧ Hid (CB wr w.heap.size c ab as_ cb cs)) (fun _ _ _ _ _ i _ => c.ss.length - (intOf i).toNat)
  case atStart => exact ⟨0, 0, none, 0, [], Nat.zero_le _, rfl, rfl, by omega, by omega, rfl, Lib.hid rfl, Lib.hid (World.ownsRow_nil _ _ _ _), HB0, HA⟩
  case round =>
    obtain ⟨k, n, A3, c3, zs, hk, rfl, rfl, hn0, hn1, rfl, hh, ho, hb, ha⟩ := hrel
    clear HB0 HA
    by_cases hlt : k < c.ss.length
    · obtain ⟨x, hx⟩ : ∃ x, c.ss[k]? = some x := ⟨_, List.getElem?_eq_getElem hlt⟩
      have HX := Lib.hid (hgt_drop (c := c) hx n)
      obtain ⟨b1, o1, rfl, _, g0, g1⟩ := (HC.out.below hb.out).s.ins hx
      have hk0 : (0 : Int) ≤ (k : Int) := by omega
      have hk1 : (k : Int) < c.ss.length := by omega
      have HX0 : Hid (XB (wr.alloc (.cells #[.int .i64 x.o, .int .i64 x.a] 88)) wr.heap.size x) := Lib.hid ⟨by go_simp, by go_simp⟩
      have HBa := Lib.hid (below_alloc (Below.refl wr.heap.size wr) (.cells #[.int .i64 x.o, .int .i64 x.a] 88))
      clear hx
      go_upto_region 6 with (fail)
      generalize wr.alloc (.cells #[.int .i64 x.o, .int .i64 x.a] 88) = W1 at *
      have HA1 := Lib.hid (ha.out.below HBa.out)
      have HO1 := Lib.hid (own_below ho.out HBa.out)
      have HB1 := Lib.hid (below_chain hb.out HBa.out)
      clear ha hb ho HBa g0 g1
      obtain ⟨a0, a1, a2, a3, a4⟩ := HA1.out
      obtain ⟨g0, g1⟩ := HX0.out
      generalize wr.heap.size = bx at *
      by_cases hneg : x.a < 0
      · have hng : (decide (x.a < 0)) = true := decide_eq_true hneg
        have HV : Hid (hgtB c = false) := Lib.hid (by
          unfold hgtB
          rw [hh.out, HX.out, if_neg (by
            rintro ⟨h, _⟩
            unfold fitB at h
            have := of_decide_eq_true h
            omega)]; simp)
        go_wp2_with (fail)
        refine wp_region_held_drew (S := (fun w' => (w'.cell? ⟨w.heap.size, 0, none⟩ = some (.int .i64 c.i) ∧ w'.cell? ⟨w.heap.size, 1, none⟩ = some (.int .i64 c.v) ∧ w'.cell? ⟨w.heap.size, 2, none⟩ = some (.int .i64 c.o) ∧ w'.cell? ⟨w.heap.size, 3, none⟩ = some (.slice ab c.bs.length cb) ∧ w'.cell? ⟨w.heap.size, 4, none⟩ = some (.slice (some ⟨b1, o1, none⟩) c.ss.length cs)) ∧ w'.cell? ⟨bx, 0, none⟩ = some (.int .i64 x.o) ∧ w'.cell? ⟨bx, 1, none⟩ = some (.int .i64 x.a))) (by kernel_rfl) ?_ (fun hHeld => ?_)
        · exact ⟨⟨a0, a1, a2, a3, a4⟩, g0, g1⟩
        refine rg_take (v := ?_) 0 rfl (by kernel_rfl) (by kernel_rfl) (by kernel_rfl) (fun _ _ _ h => h) (by kernel_rfl) ?_ (by assumption) ?_
        rotate_left
        · (intro w' hSw; (try dsimp only at hSw); go_simp; first | done | with_reducible rfl)
        simp only [Act.put, List.setIfInBounds_toArray, List.set_cons_zero, List.set_cons_succ]
        refine rg_take (v := ?_) 1 rfl (by kernel_rfl) (by kernel_rfl) (by kernel_rfl) (fun _ _ _ h => h) (by kernel_rfl) ?_ (by assumption) ?_
        rotate_left
        · (intro w' hSw; (try dsimp only at hSw); go_simp; first | done | with_reducible rfl)
        simp only [Act.put, List.setIfInBounds_toArray, List.set_cons_zero, List.set_cons_succ]
        refine rg_take (v := ?_) 2 rfl (by kernel_rfl) (by kernel_rfl) (by kernel_rfl) (fun _ _ _ h => h) (by kernel_rfl) ?_ (by assumption) ?_
        rotate_left
        · (intro w' hSw; (try dsimp only at hSw); go_simp; first | done | with_reducible rfl)
        simp only [Act.put, List.setIfInBounds_toArray, List.set_cons_zero, List.set_cons_succ]
        refine rg_take (v := ?_) 3 rfl (by kernel_rfl) (by kernel_rfl) (by kernel_rfl) (fun _ _ _ h => h) (by kernel_rfl) ?_ (by assumption) ?_
        rotate_left
        · (intro w' hSw; (try dsimp only at hSw); go_simp; first | done | with_reducible rfl)
        simp only [Act.put, List.setIfInBounds_toArray, List.set_cons_zero, List.set_cons_succ]
        refine rg_skip 4 rfl (by kernel_rfl) (by kernel_rfl) (by kernel_rfl) (fun _ _ _ h => h) (by kernel_rfl) (by assumption) ?_
        simp only [Act.put, List.setIfInBounds_toArray, List.set_cons_zero, List.set_cons_succ]
        refine rg_skip 5 rfl (by kernel_rfl) (by kernel_rfl) (by kernel_rfl) (fun _ _ _ h => h) (by kernel_rfl) (by assumption) ?_
        simp only [Act.put, List.setIfInBounds_toArray, List.set_cons_zero, List.set_cons_succ]
        refine rg_skip 6 rfl (by kernel_rfl) (by kernel_rfl) (by kernel_rfl) (fun _ _ _ h => h) (by kernel_rfl) (by assumption) ?_
        simp only [Act.put, List.setIfInBounds_toArray, List.set_cons_zero, List.set_cons_succ]
        refine rg_skip 7 rfl (by kernel_rfl) (by kernel_rfl) (by kernel_rfl) (fun _ _ _ h => h) (by kernel_rfl) (by assumption) ?_
        simp only [Act.put, List.setIfInBounds_toArray, List.set_cons_zero, List.set_cons_succ]
        refine rg_skip 8 rfl (by kernel_rfl) (by kernel_rfl) (by kernel_rfl) (fun _ _ _ h => h) (by kernel_rfl) (by assumption) ?_
        simp only [Act.put, List.setIfInBounds_toArray, List.set_cons_zero, List.set_cons_succ]
        refine rg_skip 9 rfl (by kernel_rfl) (by kernel_rfl) (by kernel_rfl) (fun _ _ _ h => h) (by kernel_rfl) (by assumption) ?_
        simp only [Act.put, List.setIfInBounds_toArray, List.set_cons_zero, List.set_cons_succ]
        refine rg_skip 10 rfl (by kernel_rfl) (by kernel_rfl) (by kernel_rfl) (fun _ _ _ h => h) (by kernel_rfl) (by assumption) ?_
        simp only [Act.put, List.setIfInBounds_toArray, List.set_cons_zero, List.set_cons_succ]
        refine rg_take (v := ?_) 11 rfl (by kernel_rfl) (by kernel_rfl) (by kernel_rfl) (fun _ _ _ h => h) (by kernel_rfl) ?_ (by assumption) ?_
        rotate_left
        · (intro w' hSw; (try dsimp only at hSw); go_simp; first | done | with_reducible rfl)
        simp only [Act.put, List.setIfInBounds_toArray, List.set_cons_zero, List.set_cons_succ]
        refine wpAnyH_done (by kernel_rfl) ?_ _
        clear hHeld
        go_wp2_with (fail)
        refine bodyPost_ret (v := .tuple #[.slice none 0 0, .bool false]) (by simp [results, Tryz.results98, go_sem]) rfl (by rw [HV.out]; exact ⟨_, _, _, rfl, HB1.out.drew⟩)
      have hng : (decide (x.a < 0)) = false := decide_eq_false hneg
      have HFE := Lib.hid (fit_of (c := c) (x := x) (by omega))
      go_wp2_with (fail)
      refine wp_region_held_drew (S := (fun w' => (w'.cell? ⟨w.heap.size, 0, none⟩ = some (.int .i64 c.i) ∧ w'.cell? ⟨w.heap.size, 1, none⟩ = some (.int .i64 c.v) ∧ w'.cell? ⟨w.heap.size, 2, none⟩ = some (.int .i64 c.o) ∧ w'.cell? ⟨w.heap.size, 3, none⟩ = some (.slice ab c.bs.length cb) ∧ w'.cell? ⟨w.heap.size, 4, none⟩ = some (.slice (some ⟨b1, o1, none⟩) c.ss.length cs)) ∧ w'.cell? ⟨bx, 0, none⟩ = some (.int .i64 x.o) ∧ w'.cell? ⟨bx, 1, none⟩ = some (.int .i64 x.a))) (by kernel_rfl) ?_ (fun hHeld => ?_)
      · exact ⟨⟨a0, a1, a2, a3, a4⟩, g0, g1⟩
      refine rg_take (v := ?_) 0 rfl (by kernel_rfl) (by kernel_rfl) (by kernel_rfl) (fun _ _ _ h => h) (by kernel_rfl) ?_ (by assumption) ?_
      rotate_left
      · (intro w' hSw; (try dsimp only at hSw); go_simp; first | done | with_reducible rfl)
      simp only [Act.put, List.setIfInBounds_toArray, List.set_cons_zero, List.set_cons_succ]
      refine rg_take (v := ?_) 1 rfl (by kernel_rfl) (by kernel_rfl) (by kernel_rfl) (fun _ _ _ h => h) (by kernel_rfl) ?_ (by assumption) ?_
      rotate_left
      · (intro w' hSw; (try dsimp only at hSw); go_simp; first | done | with_reducible rfl)
      simp only [Act.put, List.setIfInBounds_toArray, List.set_cons_zero, List.set_cons_succ]
      refine rg_take (v := ?_) 2 rfl (by kernel_rfl) (by kernel_rfl) (by kernel_rfl) (fun _ _ _ h => h) (by kernel_rfl) ?_ (by assumption) ?_
      rotate_left
      · (intro w' hSw; (try dsimp only at hSw); go_simp; first | done | with_reducible rfl)
      simp only [Act.put, List.setIfInBounds_toArray, List.set_cons_zero, List.set_cons_succ]
      refine rg_take (v := ?_) 3 rfl (by kernel_rfl) (by kernel_rfl) (by kernel_rfl) (fun _ _ _ h => h) (by kernel_rfl) ?_ (by assumption) ?_
      rotate_left
      · (intro w' hSw; (try dsimp only at hSw); go_simp; first | done | with_reducible rfl)
      simp only [Act.put, List.setIfInBounds_toArray, List.set_cons_zero, List.set_cons_succ]
      refine rg_take (v := ?_) 4 rfl (by kernel_rfl) (by kernel_rfl) (by kernel_rfl) (fun _ _ _ h => h) (by kernel_rfl) ?_ (by assumption) ?_
      rotate_left
      · (intro w' hSw; (try dsimp only at hSw); go_simp; first | done | with_reducible rfl)
      simp only [Act.put, List.setIfInBounds_toArray, List.set_cons_zero, List.set_cons_succ]
      refine rg_take (v := ?_) 5 rfl (by kernel_rfl) (by kernel_rfl) (by kernel_rfl) (fun _ _ _ h => h) (by kernel_rfl) ?_ (by assumption) ?_
      rotate_left
      · (intro w' hSw; (try dsimp only at hSw); go_simp; first | done | with_reducible rfl)
      simp only [Act.put, List.setIfInBounds_toArray, List.set_cons_zero, List.set_cons_succ]
      refine rg_take (v := ?_) 6 rfl (by kernel_rfl) (by kernel_rfl) (by kernel_rfl) (fun _ _ _ h => h) (by kernel_rfl) ?_ (by assumption) ?_
      rotate_left
      · (intro w' hSw; (try dsimp only at hSw); go_simp; first | done | with_reducible rfl)
      simp only [Act.put, List.setIfInBounds_toArray, List.set_cons_zero, List.set_cons_succ]
      refine rg_take (v := ?_) 7 rfl (by kernel_rfl) (by kernel_rfl) (by kernel_rfl) (fun _ _ _ h => h) (by kernel_rfl) ?_ (by assumption) ?_
      rotate_left
      · (intro w' hSw; (try dsimp only at hSw); go_simp; first | done | with_reducible rfl)
      simp only [Act.put, List.setIfInBounds_toArray, List.set_cons_zero, List.set_cons_succ]
      refine rg_take (v := ?_) 8 rfl (by kernel_rfl) (by kernel_rfl) (by kernel_rfl) (fun _ _ _ h => h) (by kernel_rfl) ?_ (by assumption) ?_
      rotate_left
      · (intro w' hSw; (try dsimp only at hSw); go_simp; first | done | with_reducible rfl)
      simp only [Act.put, List.setIfInBounds_toArray, List.set_cons_zero, List.set_cons_succ]
      refine rg_run 9 rfl (by kernel_rfl) (by kernel_rfl) (fun K hK => ?_)
      go_simp
      refine (c_many c ab (some ⟨b1, o1, none⟩) cb cs x.o _ HD.out).mono ?_
      rintro e w2 ⟨rfl, hb2⟩
      have hbs : Below W1.heap.size W1 w2 := below_chain (Below.refl _ _).drew hb2
      have HA2 := Lib.hid (HA1.out.below hbs)
      have HO2 := Lib.hid (own_below HO1.out hbs)
      have HB2 := Lib.hid (below_chain HB1.out hbs)
      have HX2 := Lib.hid (HX0.out.below hbs)
      clear a0 a1 a2 a3 a4 g0 g1 hbs hb2 HA1 HO1 HB1 HX0
      obtain ⟨a0, a1, a2, a3, a4⟩ := HA2.out
      obtain ⟨g0, g1⟩ := HX2.out
      go_wp2
      clear hHeld
      refine hK.out _ _ (by exact ⟨⟨a0, a1, a2, a3, a4⟩, g0, g1⟩) (fun hHeld => ?_)
      clear hK K
      try simp only [Act.put, List.setIfInBounds_toArray, List.set_cons_zero, List.set_cons_succ]
      refine rg_take (v := ?_) 10 rfl (by kernel_rfl) (by kernel_rfl) (by kernel_rfl) (fun _ _ _ h => h) (by kernel_rfl) ?_ (by assumption) ?_
      rotate_left
      · (intro w' hSw; (try dsimp only at hSw); go_simp; first | done | with_reducible rfl)
      simp only [Act.put, List.setIfInBounds_toArray, List.set_cons_zero, List.set_cons_succ]
      refine rg_take (v := ?_) 11 rfl (by kernel_rfl) (by kernel_rfl) (by kernel_rfl) (fun _ _ _ h => h) (by kernel_rfl) ?_ (by assumption) ?_
      rotate_left
      · (intro w' hSw; (try dsimp only at hSw); go_simp; first | done | with_reducible rfl)
      simp only [Act.put, List.setIfInBounds_toArray, List.set_cons_zero, List.set_cons_succ]
      refine wpAnyH_done (by kernel_rfl) ?_ _
      clear hHeld
      generalize manyI c x.o = M at *
      by_cases hM : M ≤ x.a
      · have hMt : decide (M ≤ x.a) = true := decide_eq_true hM
        have HV : Hid (hgtB c = false) := Lib.hid (by unfold hgtB; rw [hh.out, HX.out, HFE.out, hMt]; simp)
        go_wp2_with (fail)
        refine bodyPost_ret (v := .tuple #[.slice none 0 0, .bool false]) (by simp [results, Tryz.results98, go_sem]) rfl (by rw [HV.out]; exact ⟨_, _, _, rfl, HB2.out⟩)
      have hMt : decide (M ≤ x.a) = false := decide_eq_false hM
      have HF : Hid (fitB c x = true) := Lib.hid (by rw [HFE.out, hMt]; rfl)
      go_wp2_with (fail)
      refine (c_effect c ab (some ⟨b1, o1, none⟩) cb cs x _ HF.out (HC.out.below HB2.out)).mono ?_
      rintro e w3 ⟨rfl, hb2⟩
      have HA3 := Lib.hid (HA2.out.below hb2)
      have HO3 := Lib.hid (own_below HO2.out hb2)
      have HB3 := Lib.hid (below_chain HB2.out hb2)
      clear a0 a1 a2 a3 a4 g0 g1 hb2 HA2 HO2 HB2 HX2
      have ht := tak_bd c x
      have hg := giv_bd x
      have HFO := HF.out
      rw [HFO] at HX
      clear HFO HFE hMt hM hng hneg
      generalize takI c x = T at *
      generalize givI x = G at *
      have hw1 : IntKind.i64.wrap (G - T) = G - T := IntWalk.i64_in _ (by omega)
      have hw2 : IntKind.i64.wrap (n + (G - T)) = n + (G - T) := IntWalk.i64_in _ (by omega)
      by_cases h1 : n < T
      · have HV : Hid (hgtB c = false) := Lib.hid (by unfold hgtB; rw [hh.out, HX.out, if_neg (by omega)]; simp)
        go_wp2_with (fail)
        refine bodyPost_ret (v := .tuple #[.slice none 0 0, .bool false]) (by simp [results, Tryz.results98, go_sem]) rfl (by rw [HV.out]; exact ⟨_, _, _, rfl, HB3.out⟩)
      by_cases h2 : 40 < n + (G - T)
      · have HV : Hid (hgtB c = false) := Lib.hid (by unfold hgtB; rw [hh.out, HX.out, if_neg (by omega)]; simp)
        go_wp2_with (fail)
        refine bodyPost_ret (v := .tuple #[.slice none 0 0, .bool false]) (by simp [results, Tryz.results98, go_sem]) rfl (by rw [HV.out]; exact ⟨_, _, _, rfl, HB3.out⟩)
      have HH := Lib.hid (hh.out.trans (HX.out.trans (if_pos ⟨rfl, by omega, by omega⟩)))
      have HH2 : Hid (hgt c c.ss 0 = hgt c (c.ss.drop (k + 1)) (n + (G - T))) := Lib.hid (by rw [HH.out]; congr 1; omega)
      have hsz3 := World.block_lt_of_cell? _ _ HA3.out.1
      dsimp only at hsz3
      clear HX hh HH
      go_wp2_with (first
        | (at_builtin
           refine wpList_push_int _ rfl (.tmp 45) (.tmp 47) rfl (w.heap.size + 1) _ k zs (n + (G - T)) w3.heap.size 1 rfl (own_below HO3.out (below_alloc (Below.refl _ _) _)) rfl (by go_simp) (by omega) (by simp; omega) ?_
           intro v7 w7 hown hgrow _ _
           obtain ⟨A9, c9, rfl⟩ := own_shape hown
           have HA7 := Lib.hid ((HA3.out.below (below_alloc (Below.refl _ _) (.cells #[.int .i64 (n + (G - T))] 2))).mark hgrow (fun q hq => by have := (HO3.out.lt q hq).1; omega))
           have HB7 := Lib.hid (below_of_grown (below_chain HB3.out (below_alloc (Below.refl _ _) (.cells #[.int .i64 (n + (G - T))] 2))) hgrow (fun q hq => by have := (HO3.out.lt q hq).1; omega))
           have HO7 := Lib.hid hown
           clear hown hgrow HA3 HB3 HO3)
        )
      go_roundw
      case rel => exact ⟨k + 1, n + (G - T), A9, c9, _, by omega, by go_num, rfl, by omega, by omega, rfl, HH2, HO7, HB7, HA7⟩
      case measure => simp [intOf]; omega
    · obtain rfl : k = c.ss.length := by omega
      have HV : Hid ((n == 0) = hgtB c) := Lib.hid (by
        unfold hgtB
        rw [hh.out, List.drop_length]
        show (n == 0) = decide (some n = some 0)
        by_cases h0 : n = 0
        · subst h0; rfl
        · simp [h0])
      go_wp2_with (fail)
      refine bodyPost_ret (v := .tuple #[.slice A3 c.ss.length c3, .bool (n == 0)]) (by simp [results, Tryz.results98, go_sem]) rfl (by rw [← HV.out]; exact ⟨_, _, _, rfl, hb.out⟩)
theorem any_notK {l : List Tm} : l.any (fun t => !blkB t) = !(l.all blkB) := by
  induction l with
  | nil => rfl
  | cons t l ih => simp only [List.any_cons, List.all_cons, ih, Bool.not_and]
set_option maxHeartbeats 2000000 in
set_option maxRecDepth 100000 in
theorem c_IsCode (c : Cd) (ab as_ : Option Addr) (cb cs : Nat) (w : World) (hs : CdOk c) (h : CdR w ab as_ c) (hk : KwR w) :
    Calls Tryz.prog 48 #[cv c ab as_ cb cs] w fun e w' => e = .returned (.bool (codeB c)) ∧ Below w.heap.size w w' := by
  have HS := Lib.hid hs
  have H := Lib.hid h
  have HK := Lib.hid hk
  have hl1 := hs.1.1
  have hl2 := hs.2
  clear hs h hk
  have HAB : Hid (Below w.heap.size w (w.alloc (.cells #[.int .i64 c.i, .int .i64 c.v, .int .i64 c.o, .slice ab c.bs.length cb, .slice as_ c.ss.length cs] 35))) := Lib.hid (below_alloc (Below.refl _ _) _)
  rcases q1 : inB c.i 0 20 with _ | _
  · have HV : Hid (codeB c = false) := Lib.hid (by unfold codeB headC; rw [q1]; rfl)
    rw [HV.out]
    go_enter Tryz.func48, Tryz.ntmps48
    dsimp only [cv]
    go_wp2_with (first
      | (go_at_call 52
         refine (c_within _ _ _ _).mono ?_
         rintro e w' ⟨rfl, rfl⟩)
      )
    go_ret
    exact ⟨rfl, HAB.out⟩
  rcases q2 : inB c.v 0 20 with _ | _
  · have HV : Hid (codeB c = false) := Lib.hid (by unfold codeB headC; rw [q1, q2]; rfl)
    rw [HV.out]
    go_enter Tryz.func48, Tryz.ntmps48
    dsimp only [cv]
    go_wp2_with (first
      | (go_at_call 52
         refine (c_within _ _ _ _).mono ?_
         rintro e w' ⟨rfl, rfl⟩)
      )
    go_ret
    exact ⟨rfl, HAB.out⟩
  rcases q3 : inB c.o 0 20 with _ | _
  · have HV : Hid (codeB c = false) := Lib.hid (by unfold codeB headC; rw [q1, q2, q3]; rfl)
    rw [HV.out]
    go_enter Tryz.func48, Tryz.ntmps48
    dsimp only [cv]
    go_wp2_with (first
      | (go_at_call 52
         refine (c_within _ _ _ _).mono ?_
         rintro e w' ⟨rfl, rfl⟩)
      )
    go_ret
    exact ⟨rfl, HAB.out⟩
  by_cases q4 : 2000 < c.bs.length
  · have HV : Hid (codeB c = false) := Lib.hid (by unfold codeB headC; rw [decide_eq_false (show ¬ c.bs.length ≤ 2000 by omega)]; simp)
    rw [HV.out]
    go_enter Tryz.func48, Tryz.ntmps48
    dsimp only [cv]
    go_wp2_with (first
      | (go_at_call 52
         refine (c_within _ _ _ _).mono ?_
         rintro e w' ⟨rfl, rfl⟩)
      )
    go_ret
    exact ⟨rfl, HAB.out⟩
  by_cases q5 : 2000 < c.ss.length
  · have HV : Hid (codeB c = false) := Lib.hid (by unfold codeB headC; rw [decide_eq_false (show ¬ c.ss.length ≤ 2000 by omega)]; simp)
    rw [HV.out]
    go_enter Tryz.func48, Tryz.ntmps48
    dsimp only [cv]
    go_wp2_with (first
      | (go_at_call 52
         refine (c_within _ _ _ _).mono ?_
         rintro e w' ⟨rfl, rfl⟩)
      )
    go_ret
    exact ⟨rfl, HAB.out⟩
  have hh : headC c = true := by
    unfold headC
    rw [q1, q2, q3, decide_eq_true (show c.bs.length ≤ 2000 by omega), decide_eq_true (show c.ss.length ≤ 2000 by omega)]
    rfl
  have HH := Lib.hid hh
  have HA : Hid (CB (w.alloc (.cells #[.int .i64 c.i, .int .i64 c.v, .int .i64 c.o, .slice ab c.bs.length cb, .slice as_ c.ss.length cs] 35)) w.heap.size c ab as_ cb cs) := Lib.hid ⟨by go_simp, by go_simp, by go_simp, by go_simp, by go_simp⟩
  clear hh
  go_enter Tryz.func48, Tryz.ntmps48
  dsimp only [cv]
  go_wp2_with (first
    | (go_at_call 52
       refine (c_within _ _ _ _).mono ?_
       rintro e w' ⟨rfl, rfl⟩)
    )
  generalize w.alloc (.cells #[.int .i64 c.i, .int .i64 c.v, .int .i64 c.o, .slice ab c.bs.length cb, .slice as_ c.ss.length cs] 35) = W at *
  clear q1 q2 q3
  have HCL : Hid (ClTm 96 (fun t => !blkB t) c.bs W) := Lib.hid (fun wr t ht hb => c_notBlock t wr (HS.out.1.2 t ht) ((HK.out.below HAB.out).below hb))
  have HAY := Lib.hid (any_notK (l := c.bs))
  refine (c_ContainsTm 96 (fun t => !blkB t) ab cb c.bs _ hl1 (H.out.below HAB.out).b HCL (enter_of Tryz.func96 (by kernel_rfl) rfl)).mono ?_
  rw [HAY.out]
  rintro e w1 ⟨rfl, hb⟩
  have HA1 := Lib.hid (HA.out.below hb)
  have HB1 := Lib.hid (below_chain HAB.out hb)
  clear hb HA HAB HCL HAY
  obtain ⟨a0, a1, a2, a3, a4⟩ := HA1.out
  rcases hall : c.bs.all blkB with _ | _
  · have HV : Hid (codeB c = false) := Lib.hid (by unfold codeB; rw [hall]; simp)
    go_wp2_with (fail)
    go_ret
    exact ⟨ret_bool HV.out.symm, HB1.out⟩
  · have HV : Hid (hgtB c = codeB c) := Lib.hid (by unfold codeB; rw [HH.out, hall]; simp)
    go_wp2_with (fail)
    refine (c_heights c ab as_ cb cs _ (head_Hd HH.out) (H.out.below HB1.out)).mono ?_
    rintro e w2 ⟨A, n, cc, rfl, hb2⟩
    have HB2 := Lib.hid (below_chain HB1.out hb2)
    clear hb2
    go_wp2_with (fail)
    go_ret
    exact ⟨ret_bool HV.out, HB2.out⟩
end Go.Proofs.YteengjcplmjakaaGreatDoor

/- TimeOf and ScanTime, the reference (printed by kcode.py out of CTf CTg). Condition: the lists' sizes. -/
namespace Go.Proofs.YteengjcplmjakaaGreatDoor
open Go.RowKit

theorem hgt_fit {c : Cd} : ∀ (l : List Ins) (n m : Int), hgt c l n = some m → ∀ x ∈ l, fitB c x = true
  | [], _, _, _, x, hx => by simp at hx
  | y :: t, n, m, h, x, hx => by
    unfold hgt at h
    by_cases hc : fitB c y = true ∧ takI c y ≤ n ∧ n - takI c y + givI y ≤ 40
    · rw [if_pos hc] at h
      rcases List.mem_cons.1 hx with rfl | hx
      · exact hc.1
      · exact hgt_fit t _ _ h x hx
    · rw [if_neg hc] at h
      cases h
theorem code_parts {c : Cd} (h : codeB c = true) : Hd c ∧ (∀ t ∈ c.bs, blkB t = true) ∧ (∀ x ∈ c.ss, fitB c x = true) := by
  unfold codeB at h
  simp only [Bool.and_eq_true] at h
  obtain ⟨⟨h1, h2⟩, h3⟩ := h
  exact ⟨head_Hd h1, List.all_eq_true.1 h2, hgt_fit _ _ _ (of_decide_eq_true h3)⟩
def in0 : Ins := ⟨0, 0⟩
def timeC (c : Cd) (s : Int) : Int := if codeB c then (if inB s 0 ((c.ss.length : Int) - 1) then 0 else 4) else 1
def timeV (c : Cd) (s : Int) : Int := if timeC c s = 0 then timI c (c.ss.getD s.toNat in0) else 0
set_option maxHeartbeats 2000000 in
set_option maxRecDepth 100000 in
theorem c_sTimeOf (c : Cd) (ab as_ : Option Addr) (cb cs : Nat) (s : Int) (w : World) (hs : CdOk c) (h : CdR w ab as_ c) :
    Calls Tryz.prog 15 #[cv c ab as_ cb cs, .int .i64 s] w (Ret2 (timeV c s) (timeC c s) w) := by
  have HS := Lib.hid hs
  have HC := Lib.hid h
  have hl2 := hs.2
  have HAB : Hid (Below w.heap.size w (w.alloc (.cells #[.int .i64 c.i, .int .i64 c.v, .int .i64 c.o, .slice ab c.bs.length cb, .slice as_ c.ss.length cs] 35))) := Lib.hid (below_alloc (Below.refl _ _) _)
  have HA : Hid (CB (w.alloc (.cells #[.int .i64 c.i, .int .i64 c.v, .int .i64 c.o, .slice ab c.bs.length cb, .slice as_ c.ss.length cs] 35)) w.heap.size c ab as_ cb cs) := Lib.hid ⟨by go_simp, by go_simp, by go_simp, by go_simp, by go_simp⟩
  clear hs h
  go_enter Tryz.func15, Tryz.ntmps15
  dsimp only [cv]
  go_upto_region 1 with (fail)
  generalize w.alloc (.cells #[.int .i64 c.i, .int .i64 c.v, .int .i64 c.o, .slice ab c.bs.length cb, .slice as_ c.ss.length cs] 35) = W at *
  obtain ⟨a0, a1, a2, a3, a4⟩ := HA.out
  go_wp2_with (fail)
  refine (c_sIsCode c ab as_ cb cs _ HS.out (HC.out.below HAB.out)).mono ?_
  rintro e w1 ⟨rfl, hb⟩
  have HB1 := Lib.hid (below_chain HAB.out hb)
  have HA1 := Lib.hid (HA.out.below hb)
  clear hb HA HAB a0 a1 a2 a3 a4
  obtain ⟨a0, a1, a2, a3, a4⟩ := HA1.out
  rcases hc : codeB c with _ | _
  · have HV : Hid (timeC c s = 1 ∧ timeV c s = 0) := Lib.hid (by unfold timeV timeC; rw [hc]; exact ⟨rfl, rfl⟩)
    go_wp2_with (fail)
    refine bodyPost_ret (v := .tuple #[.int .i64 0, .int .i64 1]) (by simp [results, Tryz.results15, go_sem]) rfl (by rw [HV.out.1, HV.out.2]; exact ⟨rfl, HB1.out⟩)
  obtain ⟨hd, hbl, hft⟩ := code_parts hc
  have HD := Lib.hid hd
  have HBL := Lib.hid hbl
  have HFT := Lib.hid hft
  have HCC := Lib.hid hc
  clear hd hbl hft hc
  have hw : IntKind.i64.wrap ((c.ss.length : Int) - 1) = (c.ss.length : Int) - 1 := IntWalk.i64_in _ (by omega)
  rcases hi : inB s 0 ((c.ss.length : Int) - 1) with _ | _
  · have HV : Hid (timeC c s = 4 ∧ timeV c s = 0) := Lib.hid (by unfold timeV timeC; rw [HCC.out, hi]; exact ⟨rfl, rfl⟩)
    go_wp2_with (first
      | (go_at_call 55
         refine (c_l01In _ _ _ _).mono ?_
         rintro e w' ⟨rfl, rfl⟩)
      )
    refine bodyPost_ret (v := .tuple #[.int .i64 0, .int .i64 4]) (by simp [results, Tryz.results15, go_sem]) rfl (by rw [HV.out.1, HV.out.2]; exact ⟨rfl, HB1.out⟩)
  have hib := of_decide_eq_true hi
  obtain ⟨k, rfl⟩ : ∃ k : Nat, s = k := ⟨s.toNat, by omega⟩
  obtain ⟨x, hx⟩ : ∃ x, c.ss[k]? = some x := ⟨_, List.getElem?_eq_getElem (by omega)⟩
  have HV : Hid (timeC c k = 0 ∧ timeV c k = timI c x) := Lib.hid (by
    have h0 : timeC c k = 0 := by unfold timeC; rw [HCC.out, hi]; rfl
    refine ⟨h0, ?_⟩
    unfold timeV
    rw [if_pos h0, Int.toNat_natCast, List.getD_eq_getElem?_getD, hx]
    rfl)
  have HF1 := Lib.hid (HFT.out x (List.mem_of_getElem? hx))
  obtain ⟨b1, o1, rfl, _, g0, g1⟩ := (HC.out.below HB1.out).s.ins hx
  have hk0 : (0 : Int) ≤ (k : Int) := by omega
  have hk1 : (k : Int) < c.ss.length := by omega
  clear hx
  go_wp2_with (first
    | (go_at_call 55
       refine (c_l01In _ _ _ _).mono ?_
       rintro e w' ⟨rfl, rfl⟩)
    )
  refine wp_region_held_drew (S := (fun w' => (w'.cell? ⟨w.heap.size, 0, none⟩ = some (.int .i64 c.i) ∧ w'.cell? ⟨w.heap.size, 1, none⟩ = some (.int .i64 c.v) ∧ w'.cell? ⟨w.heap.size, 2, none⟩ = some (.int .i64 c.o) ∧ w'.cell? ⟨w.heap.size, 3, none⟩ = some (.slice ab c.bs.length cb) ∧ w'.cell? ⟨w.heap.size, 4, none⟩ = some (.slice (some ⟨b1, o1, none⟩) c.ss.length cs)) ∧ w'.cell? ⟨b1, o1 + k * 2, none⟩ = some (.int .i64 x.o) ∧ w'.cell? ⟨b1, o1 + k * 2 + 1, none⟩ = some (.int .i64 x.a))) (by kernel_rfl) ?_ (fun hHeld => ?_)
  · exact ⟨⟨a0, a1, a2, a3, a4⟩, g0, g1⟩
  refine rg_take (v := ?_) 0 rfl (by kernel_rfl) (by kernel_rfl) (by kernel_rfl) (fun _ _ _ h => h) (by kernel_rfl) ?_ (by assumption) ?_
  rotate_left
  · (intro w' hSw; (try dsimp only at hSw); go_simp; first | done | with_reducible rfl)
  simp only [Act.put, List.setIfInBounds_toArray, List.set_cons_zero, List.set_cons_succ]
  refine rg_take (v := ?_) 1 rfl (by kernel_rfl) (by kernel_rfl) (by kernel_rfl) (fun _ _ _ h => h) (by kernel_rfl) ?_ (by assumption) ?_
  rotate_left
  · (intro w' hSw; (try dsimp only at hSw); go_simp; first | done | with_reducible rfl)
  simp only [Act.put, List.setIfInBounds_toArray, List.set_cons_zero, List.set_cons_succ]
  refine rg_take (v := ?_) 2 rfl (by kernel_rfl) (by kernel_rfl) (by kernel_rfl) (fun _ _ _ h => h) (by kernel_rfl) ?_ (by assumption) ?_
  rotate_left
  · (intro w' hSw; (try dsimp only at hSw); go_simp; first | done | with_reducible rfl)
  simp only [Act.put, List.setIfInBounds_toArray, List.set_cons_zero, List.set_cons_succ]
  refine rg_take (v := ?_) 3 rfl (by kernel_rfl) (by kernel_rfl) (by kernel_rfl) (fun _ _ _ h => h) (by kernel_rfl) ?_ (by assumption) ?_
  rotate_left
  · (intro w' hSw; (try dsimp only at hSw); go_simp; first | done | with_reducible rfl)
  simp only [Act.put, List.setIfInBounds_toArray, List.set_cons_zero, List.set_cons_succ]
  refine rg_take (v := ?_) 4 rfl (by kernel_rfl) (by kernel_rfl) (by kernel_rfl) (fun _ _ _ h => h) (by kernel_rfl) ?_ (by assumption) ?_
  rotate_left
  · (intro w' hSw; (try dsimp only at hSw); go_simp; first | done | with_reducible rfl)
  simp only [Act.put, List.setIfInBounds_toArray, List.set_cons_zero, List.set_cons_succ]
  refine rg_take (v := ?_) 5 rfl (by kernel_rfl) (by kernel_rfl) (by kernel_rfl) (fun _ _ _ h => h) (by kernel_rfl) ?_ (by assumption) ?_
  rotate_left
  · (intro w' hSw; (try dsimp only at hSw); go_simp; first | done | with_reducible rfl)
  simp only [Act.put, List.setIfInBounds_toArray, List.set_cons_zero, List.set_cons_succ]
  refine rg_run 6 rfl (by kernel_rfl) (by kernel_rfl) (fun K hK => ?_)
  go_simp
  refine (c_l19Time c ab (some ⟨b1, o1, none⟩) cb cs x _ HD.out HBL.out HF1.out ((HC.out.below HB1.out).below (Below.refl _ _).drew)).mono ?_
  rintro e w2 ⟨rfl, hb2⟩
  have hbs : Below w1.heap.size w1 w2 := below_chain (Below.refl _ _).drew hb2
  have HB2 := Lib.hid (below_chain HB1.out hbs)
  have HA2 := Lib.hid (HA1.out.below hbs)
  replace g0 := cell_later hbs g0
  replace g1 := cell_later hbs g1
  clear a0 a1 a2 a3 a4 hbs hb2
  obtain ⟨a0, a1, a2, a3, a4⟩ := HA2.out
  go_wp2
  clear hHeld
  refine hK.out _ _ (by exact ⟨⟨a0, a1, a2, a3, a4⟩, g0, g1⟩) (fun hHeld => ?_)
  clear hK K
  try simp only [Act.put, List.setIfInBounds_toArray, List.set_cons_zero, List.set_cons_succ]
  refine rg_take (v := ?_) 7 rfl (by kernel_rfl) (by kernel_rfl) (by kernel_rfl) (fun _ _ _ h => h) (by kernel_rfl) ?_ (by assumption) ?_
  rotate_left
  · (intro w' hSw; (try dsimp only at hSw); go_simp; first | done | with_reducible rfl)
  simp only [Act.put, List.setIfInBounds_toArray, List.set_cons_zero, List.set_cons_succ]
  refine rg_take (v := ?_) 8 rfl (by kernel_rfl) (by kernel_rfl) (by kernel_rfl) (fun _ _ _ h => h) (by kernel_rfl) ?_ (by assumption) ?_
  rotate_left
  · (intro w' hSw; (try dsimp only at hSw); go_simp; first | done | with_reducible rfl)
  simp only [Act.put, List.setIfInBounds_toArray, List.set_cons_zero, List.set_cons_succ]
  refine wpAnyH_done (by kernel_rfl) ?_ _
  clear hHeld
  clear a0 a1 a2 a3 a4 g0 g1
  go_wp2_with (fail)
  refine bodyPost_ret (v := .tuple #[.int .i64 (timI c x), .int .i64 0]) (by simp [results, Tryz.results15, go_sem]) rfl (by rw [HV.out.1, HV.out.2]; exact ⟨rfl, HB2.out⟩)
def scanC (c : Cd) : Int := if codeB c then 0 else 1
def scanV (c : Cd) : Int := if codeB c then sumK c c.ss.length else 0
set_option maxHeartbeats 2000000 in
set_option maxRecDepth 100000 in
theorem c_sScanTime (c : Cd) (ab as_ : Option Addr) (cb cs : Nat) (w : World) (hs : CdOk c) (h : CdR w ab as_ c) :
    Calls Tryz.prog 12 #[cv c ab as_ cb cs] w (Ret2 (scanV c) (scanC c) w) := by
  have HS := Lib.hid hs
  have HC := Lib.hid h
  have hl2 := hs.2
  have HAB : Hid (Below w.heap.size w (w.alloc (.cells #[.int .i64 c.i, .int .i64 c.v, .int .i64 c.o, .slice ab c.bs.length cb, .slice as_ c.ss.length cs] 35))) := Lib.hid (below_alloc (Below.refl _ _) _)
  have HA : Hid (CB (w.alloc (.cells #[.int .i64 c.i, .int .i64 c.v, .int .i64 c.o, .slice ab c.bs.length cb, .slice as_ c.ss.length cs] 35)) w.heap.size c ab as_ cb cs) := Lib.hid ⟨by go_simp, by go_simp, by go_simp, by go_simp, by go_simp⟩
  clear hs h
  go_enter Tryz.func12, Tryz.ntmps12
  dsimp only [cv]
  go_upto_region 1 with (fail)
  generalize w.alloc (.cells #[.int .i64 c.i, .int .i64 c.v, .int .i64 c.o, .slice ab c.bs.length cb, .slice as_ c.ss.length cs] 35) = W at *
  obtain ⟨a0, a1, a2, a3, a4⟩ := HA.out
  go_wp2_with (fail)
  refine (c_sIsCode c ab as_ cb cs _ HS.out (HC.out.below HAB.out)).mono ?_
  rintro e w1 ⟨rfl, hb⟩
  have HB1 := Lib.hid (below_chain HAB.out hb)
  have HA1 := Lib.hid (HA.out.below hb)
  clear hb HA HAB a0 a1 a2 a3 a4
  obtain ⟨a0, a1, a2, a3, a4⟩ := HA1.out
  rcases hc : codeB c with _ | _
  · have HV : Hid (scanC c = 1 ∧ scanV c = 0) := Lib.hid (by unfold scanV scanC; rw [hc]; exact ⟨rfl, rfl⟩)
    go_wp2_with (fail)
    refine bodyPost_ret (v := .tuple #[.int .i64 0, .int .i64 1]) (by simp [results, Tryz.results12, go_sem]) rfl (by rw [HV.out.1, HV.out.2]; exact ⟨rfl, HB1.out⟩)
  obtain ⟨hd, hbl, hft⟩ := code_parts hc
  have HD := Lib.hid hd
  have HBL := Lib.hid hbl
  have HFT := Lib.hid hft
  have HCC := Lib.hid hc
  clear hd hbl hft hc
  have HV : Hid (scanC c = 0 ∧ scanV c = sumK c c.ss.length) := Lib.hid (by unfold scanV scanC; rw [HCC.out]; exact ⟨rfl, rfl⟩)
  go_wp2_with (fail)
  refine (c_l19Scan c ab as_ cb cs _ HD.out HBL.out HFT.out (HC.out.below HB1.out)).mono ?_
  rintro e w2 ⟨rfl, hb⟩
  have HB2 := Lib.hid (below_chain HB1.out hb)
  clear hb a0 a1 a2 a3 a4
  go_wp2_with (fail)
  refine bodyPost_ret (v := .tuple #[.int .i64 (sumK c c.ss.length), .int .i64 0]) (by simp [results, Tryz.results12, go_sem]) rfl (by rw [HV.out.1, HV.out.2]; exact ⟨rfl, HB2.out⟩)
end Go.Proofs.YteengjcplmjakaaGreatDoor

/- TimeOf and ScanTime, the program (printed by kcode.py out of CIf). Condition: the lists' sizes; the keywords lie there. -/
namespace Go.Proofs.YteengjcplmjakaaGreatDoor
open Go.RowKit

set_option maxHeartbeats 2000000 in
set_option maxRecDepth 100000 in
theorem c_time (c : Cd) (ab as_ : Option Addr) (cb cs : Nat) (w : World) (hd : Hd c) (hbl : ∀ t ∈ c.bs, blkB t = true) (hf : ∀ x ∈ c.ss, fitB c x = true) (h : CdR w ab as_ c) :
    Calls Tryz.prog 43 #[cv c ab as_ cb cs, .slice as_ c.ss.length cs] w fun e w' => e = .returned (.int .i64 (sumK c c.ss.length)) ∧ Below w.heap.size w w' := by
  have HD := Lib.hid hd
  have HC := Lib.hid h
  have HBL := Lib.hid hbl
  have HFT := Lib.hid hf
  have hln := hd.s
  have HAB : Hid (Below w.heap.size w (w.alloc (.cells #[.int .i64 c.i, .int .i64 c.v, .int .i64 c.o, .slice ab c.bs.length cb, .slice as_ c.ss.length cs] 35))) := Lib.hid (below_alloc (Below.refl _ _) _)
  have HA : Hid (CB (w.alloc (.cells #[.int .i64 c.i, .int .i64 c.v, .int .i64 c.o, .slice ab c.bs.length cb, .slice as_ c.ss.length cs] 35)) w.heap.size c ab as_ cb cs) := Lib.hid ⟨by go_simp, by go_simp, by go_simp, by go_simp, by go_simp⟩
  clear hd h hbl hf
  go_enter Tryz.func43, Tryz.ntmps43
  dsimp only [cv]
  go_wp2_with (fail)
  generalize w.alloc (.cells #[.int .i64 c.i, .int .i64 c.v, .int .i64 c.o, .slice ab c.bs.length cb, .slice as_ c.ss.length cs] 35) = W at *
  go_loopw [5, 7, 10] (fun t _ i wr => ∃ k : Nat, k ≤ c.ss.length ∧ i = .int .i64 k ∧ t = .int .i64 (sumK c k) ∧ Hid (Below w.heap.size w wr) ∧ Hid (CB wr w.heap.size c ab as_ cb cs)) (fun _ _ i _ => c.ss.length - (intOf i).toNat)
  case atStart => exact ⟨0, Nat.zero_le _, rfl, rfl, HAB, HA⟩
  case round =>
    obtain ⟨k, hk, rfl, rfl, hb, ha⟩ := hrel
    clear HAB HA
    by_cases hlt : k < c.ss.length
    · obtain ⟨x, hx⟩ : ∃ x, c.ss[k]? = some x := ⟨_, List.getElem?_eq_getElem hlt⟩
      have HX := Lib.hid (sumK_step hx)
      have hsb := sumK_bd HD.out k hk
      have htb := tim_bd HD.out x
      have HF1 := Lib.hid (HFT.out x (List.mem_of_getElem? hx))
      obtain ⟨b1, o1, rfl, _, g0, g1⟩ := (HC.out.below hb.out).s.ins hx
      have hk0 : (0 : Int) ≤ (k : Int) := by omega
      have hk1 : (k : Int) < c.ss.length := by omega
      have HX0 : Hid (XB (wr.alloc (.cells #[.int .i64 x.o, .int .i64 x.a] 88)) wr.heap.size x) := Lib.hid ⟨by go_simp, by go_simp⟩
      have HBa := Lib.hid (below_alloc (Below.refl wr.heap.size wr) (.cells #[.int .i64 x.o, .int .i64 x.a] 88))
      clear hx
      generalize sumK c k = S at *
      go_upto_region 5 with (fail)
      generalize wr.alloc (.cells #[.int .i64 x.o, .int .i64 x.a] 88) = W1 at *
      have HA1 := Lib.hid (ha.out.below HBa.out)
      have HB1 := Lib.hid (below_chain hb.out HBa.out)
      clear ha hb HBa g0 g1
      obtain ⟨a0, a1, a2, a3, a4⟩ := HA1.out
      obtain ⟨g0, g1⟩ := HX0.out
      generalize wr.heap.size = bx at *
      have hw : IntKind.i64.wrap (S + timI c x) = S + timI c x := IntWalk.i64_in _ (by omega)
      go_wp2_with (fail)
      refine (c_timeOf c ab (some ⟨b1, o1, none⟩) cb cs x _ HD.out HBL.out HF1.out (HC.out.below HB1.out)).mono ?_
      rintro e w2 ⟨rfl, hb2⟩
      have HA2 := Lib.hid (HA1.out.below hb2)
      have HB2 := Lib.hid (below_chain HB1.out hb2)
      clear a0 a1 a2 a3 a4 g0 g1 hb2 HA1 HB1 HX0
      go_wp2_with (fail)
      go_roundw
      case rel => exact ⟨k + 1, by omega, by go_num, by rw [HX.out], HB2, HA2⟩
      case measure => simp [intOf]; omega
    · obtain rfl : k = c.ss.length := by omega
      go_wp2_with (fail)
      go_ret
      exact ⟨rfl, hb.out⟩
set_option maxRecDepth 100000 in
theorem c_lengthI (A : Option Addr) (c n : Nat) (w : World) (hn : n ≤ 1048576) : Calls Tryz.prog 53 #[.slice A n c] w fun e w' => e = .returned (.int .i64 n) ∧ w = w' := by
  have hw : IntKind.i64.wrap (n : Int) = n := IntWalk.i64_in _ (by omega)
  go_enter Tryz.func53, Tryz.ntmps53
  go_wp2_with (fail)
  go_ret
  exact ⟨rfl, rfl⟩
set_option maxHeartbeats 2000000 in
set_option maxRecDepth 100000 in
theorem c_ScanTime (c : Cd) (ab as_ : Option Addr) (cb cs : Nat) (w : World) (hs : CdOk c) (h : CdR w ab as_ c) (hk : KwR w) :
    Calls Tryz.prog 11 #[cv c ab as_ cb cs] w (Ret2 (scanV c) (scanC c) w) := by
  have HS := Lib.hid hs
  have HK := Lib.hid hk
  have HC := Lib.hid h
  have hl2 := hs.2
  have HAB : Hid (Below w.heap.size w (w.alloc (.cells #[.int .i64 c.i, .int .i64 c.v, .int .i64 c.o, .slice ab c.bs.length cb, .slice as_ c.ss.length cs] 35))) := Lib.hid (below_alloc (Below.refl _ _) _)
  have HA : Hid (CB (w.alloc (.cells #[.int .i64 c.i, .int .i64 c.v, .int .i64 c.o, .slice ab c.bs.length cb, .slice as_ c.ss.length cs] 35)) w.heap.size c ab as_ cb cs) := Lib.hid ⟨by go_simp, by go_simp, by go_simp, by go_simp, by go_simp⟩
  clear hs h hk
  go_enter Tryz.func11, Tryz.ntmps11
  dsimp only [cv]
  go_upto_region 1 with (fail)
  generalize w.alloc (.cells #[.int .i64 c.i, .int .i64 c.v, .int .i64 c.o, .slice ab c.bs.length cb, .slice as_ c.ss.length cs] 35) = W at *
  obtain ⟨a0, a1, a2, a3, a4⟩ := HA.out
  go_wp2_with (fail)
  refine (c_IsCode c ab as_ cb cs _ HS.out (HC.out.below HAB.out) (HK.out.below HAB.out)).mono ?_
  rintro e w1 ⟨rfl, hb⟩
  have HB1 := Lib.hid (below_chain HAB.out hb)
  have HA1 := Lib.hid (HA.out.below hb)
  clear hb HA HAB a0 a1 a2 a3 a4
  obtain ⟨a0, a1, a2, a3, a4⟩ := HA1.out
  rcases hc : codeB c with _ | _
  · have HV : Hid (scanC c = 1 ∧ scanV c = 0) := Lib.hid (by unfold scanV scanC; rw [hc]; exact ⟨rfl, rfl⟩)
    go_wp2_with (fail)
    refine bodyPost_ret (v := .tuple #[.int .i64 0, .int .i64 1]) (by simp [results, Tryz.results11, go_sem]) rfl (by rw [HV.out.1, HV.out.2]; exact ⟨rfl, HB1.out⟩)
  obtain ⟨hd, hbl, hft⟩ := code_parts hc
  have HD := Lib.hid hd
  have HBL := Lib.hid hbl
  have HFT := Lib.hid hft
  have HCC := Lib.hid hc
  clear hd hbl hft hc
  have HV : Hid (scanC c = 0 ∧ scanV c = sumK c c.ss.length) := Lib.hid (by unfold scanV scanC; rw [HCC.out]; exact ⟨rfl, rfl⟩)
  go_wp2_with (fail)
  refine (c_time c ab as_ cb cs _ HD.out HBL.out HFT.out (HC.out.below HB1.out)).mono ?_
  rintro e w2 ⟨rfl, hb⟩
  have HB2 := Lib.hid (below_chain HB1.out hb)
  clear hb a0 a1 a2 a3 a4
  go_wp2_with (fail)
  refine bodyPost_ret (v := .tuple #[.int .i64 (sumK c c.ss.length), .int .i64 0]) (by simp [results, Tryz.results11, go_sem]) rfl (by rw [HV.out.1, HV.out.2]; exact ⟨rfl, HB2.out⟩)
set_option maxHeartbeats 2000000 in
set_option maxRecDepth 100000 in
theorem c_TimeOf (c : Cd) (ab as_ : Option Addr) (cb cs : Nat) (s : Int) (w : World) (hs : CdOk c) (h : CdR w ab as_ c) (hk : KwR w) :
    Calls Tryz.prog 14 #[cv c ab as_ cb cs, .int .i64 s] w (Ret2 (timeV c s) (timeC c s) w) := by
  have HS := Lib.hid hs
  have HK := Lib.hid hk
  have HC := Lib.hid h
  have hl2 := hs.2
  have HAB : Hid (Below w.heap.size w (w.alloc (.cells #[.int .i64 c.i, .int .i64 c.v, .int .i64 c.o, .slice ab c.bs.length cb, .slice as_ c.ss.length cs] 35))) := Lib.hid (below_alloc (Below.refl _ _) _)
  have HA : Hid (CB (w.alloc (.cells #[.int .i64 c.i, .int .i64 c.v, .int .i64 c.o, .slice ab c.bs.length cb, .slice as_ c.ss.length cs] 35)) w.heap.size c ab as_ cb cs) := Lib.hid ⟨by go_simp, by go_simp, by go_simp, by go_simp, by go_simp⟩
  clear hs h hk
  go_enter Tryz.func14, Tryz.ntmps14
  dsimp only [cv]
  go_upto_region 1 with (fail)
  generalize w.alloc (.cells #[.int .i64 c.i, .int .i64 c.v, .int .i64 c.o, .slice ab c.bs.length cb, .slice as_ c.ss.length cs] 35) = W at *
  obtain ⟨a0, a1, a2, a3, a4⟩ := HA.out
  go_wp2_with (fail)
  refine (c_IsCode c ab as_ cb cs _ HS.out (HC.out.below HAB.out) (HK.out.below HAB.out)).mono ?_
  rintro e w1 ⟨rfl, hb⟩
  have HB1 := Lib.hid (below_chain HAB.out hb)
  have HA1 := Lib.hid (HA.out.below hb)
  clear hb HA HAB a0 a1 a2 a3 a4
  obtain ⟨a0, a1, a2, a3, a4⟩ := HA1.out
  rcases hc : codeB c with _ | _
  · have HV : Hid (timeC c s = 1 ∧ timeV c s = 0) := Lib.hid (by unfold timeV timeC; rw [hc]; exact ⟨rfl, rfl⟩)
    go_wp2_with (fail)
    refine bodyPost_ret (v := .tuple #[.int .i64 0, .int .i64 1]) (by simp [results, Tryz.results14, go_sem]) rfl (by rw [HV.out.1, HV.out.2]; exact ⟨rfl, HB1.out⟩)
  obtain ⟨hd, hbl, hft⟩ := code_parts hc
  have HD := Lib.hid hd
  have HBL := Lib.hid hbl
  have HFT := Lib.hid hft
  have HCC := Lib.hid hc
  clear hd hbl hft hc
  have hw : IntKind.i64.wrap ((c.ss.length : Int) - 1) = (c.ss.length : Int) - 1 := IntWalk.i64_in _ (by omega)
  rcases hi : inB s 0 ((c.ss.length : Int) - 1) with _ | _
  · have HV : Hid (timeC c s = 4 ∧ timeV c s = 0) := Lib.hid (by unfold timeV timeC; rw [HCC.out, hi]; exact ⟨rfl, rfl⟩)
    go_wp2_with (first
      | (go_at_call 52
         refine (c_within _ _ _ _).mono ?_
         rintro e w' ⟨rfl, rfl⟩)
      | (go_at_call 53
         refine (c_lengthI _ _ _ _ hl2).mono ?_
         rintro e w' ⟨rfl, rfl⟩)
      )
    refine bodyPost_ret (v := .tuple #[.int .i64 0, .int .i64 4]) (by simp [results, Tryz.results14, go_sem]) rfl (by rw [HV.out.1, HV.out.2]; exact ⟨rfl, HB1.out⟩)
  have hib := of_decide_eq_true hi
  obtain ⟨k, rfl⟩ : ∃ k : Nat, s = k := ⟨s.toNat, by omega⟩
  obtain ⟨x, hx⟩ : ∃ x, c.ss[k]? = some x := ⟨_, List.getElem?_eq_getElem (by omega)⟩
  have HV : Hid (timeC c k = 0 ∧ timeV c k = timI c x) := Lib.hid (by
    have h0 : timeC c k = 0 := by unfold timeC; rw [HCC.out, hi]; rfl
    refine ⟨h0, ?_⟩
    unfold timeV
    rw [if_pos h0, Int.toNat_natCast, List.getD_eq_getElem?_getD, hx]
    rfl)
  have HF1 := Lib.hid (HFT.out x (List.mem_of_getElem? hx))
  obtain ⟨b1, o1, rfl, _, g0, g1⟩ := (HC.out.below HB1.out).s.ins hx
  have hk0 : (0 : Int) ≤ (k : Int) := by omega
  have hk1 : (k : Int) < c.ss.length := by omega
  clear hx
  go_wp2_with (first
    | (go_at_call 52
       refine (c_within _ _ _ _).mono ?_
       rintro e w' ⟨rfl, rfl⟩)
    | (go_at_call 53
       refine (c_lengthI _ _ _ _ hl2).mono ?_
       rintro e w' ⟨rfl, rfl⟩)
    )
  refine wp_region_held_drew (S := (fun w' => (w'.cell? ⟨w.heap.size, 0, none⟩ = some (.int .i64 c.i) ∧ w'.cell? ⟨w.heap.size, 1, none⟩ = some (.int .i64 c.v) ∧ w'.cell? ⟨w.heap.size, 2, none⟩ = some (.int .i64 c.o) ∧ w'.cell? ⟨w.heap.size, 3, none⟩ = some (.slice ab c.bs.length cb) ∧ w'.cell? ⟨w.heap.size, 4, none⟩ = some (.slice (some ⟨b1, o1, none⟩) c.ss.length cs)) ∧ w'.cell? ⟨b1, o1 + k * 2, none⟩ = some (.int .i64 x.o) ∧ w'.cell? ⟨b1, o1 + k * 2 + 1, none⟩ = some (.int .i64 x.a))) (by kernel_rfl) ?_ (fun hHeld => ?_)
  · exact ⟨⟨a0, a1, a2, a3, a4⟩, g0, g1⟩
  refine rg_take (v := ?_) 0 rfl (by kernel_rfl) (by kernel_rfl) (by kernel_rfl) (fun _ _ _ h => h) (by kernel_rfl) ?_ (by assumption) ?_
  rotate_left
  · (intro w' hSw; (try dsimp only at hSw); go_simp; first | done | with_reducible rfl)
  simp only [Act.put, List.setIfInBounds_toArray, List.set_cons_zero, List.set_cons_succ]
  refine rg_take (v := ?_) 1 rfl (by kernel_rfl) (by kernel_rfl) (by kernel_rfl) (fun _ _ _ h => h) (by kernel_rfl) ?_ (by assumption) ?_
  rotate_left
  · (intro w' hSw; (try dsimp only at hSw); go_simp; first | done | with_reducible rfl)
  simp only [Act.put, List.setIfInBounds_toArray, List.set_cons_zero, List.set_cons_succ]
  refine rg_take (v := ?_) 2 rfl (by kernel_rfl) (by kernel_rfl) (by kernel_rfl) (fun _ _ _ h => h) (by kernel_rfl) ?_ (by assumption) ?_
  rotate_left
  · (intro w' hSw; (try dsimp only at hSw); go_simp; first | done | with_reducible rfl)
  simp only [Act.put, List.setIfInBounds_toArray, List.set_cons_zero, List.set_cons_succ]
  refine rg_take (v := ?_) 3 rfl (by kernel_rfl) (by kernel_rfl) (by kernel_rfl) (fun _ _ _ h => h) (by kernel_rfl) ?_ (by assumption) ?_
  rotate_left
  · (intro w' hSw; (try dsimp only at hSw); go_simp; first | done | with_reducible rfl)
  simp only [Act.put, List.setIfInBounds_toArray, List.set_cons_zero, List.set_cons_succ]
  refine rg_take (v := ?_) 4 rfl (by kernel_rfl) (by kernel_rfl) (by kernel_rfl) (fun _ _ _ h => h) (by kernel_rfl) ?_ (by assumption) ?_
  rotate_left
  · (intro w' hSw; (try dsimp only at hSw); go_simp; first | done | with_reducible rfl)
  simp only [Act.put, List.setIfInBounds_toArray, List.set_cons_zero, List.set_cons_succ]
  refine rg_take (v := ?_) 5 rfl (by kernel_rfl) (by kernel_rfl) (by kernel_rfl) (fun _ _ _ h => h) (by kernel_rfl) ?_ (by assumption) ?_
  rotate_left
  · (intro w' hSw; (try dsimp only at hSw); go_simp; first | done | with_reducible rfl)
  simp only [Act.put, List.setIfInBounds_toArray, List.set_cons_zero, List.set_cons_succ]
  refine rg_run 6 rfl (by kernel_rfl) (by kernel_rfl) (fun K hK => ?_)
  go_simp
  refine (c_timeOf c ab (some ⟨b1, o1, none⟩) cb cs x _ HD.out HBL.out HF1.out ((HC.out.below HB1.out).below (Below.refl _ _).drew)).mono ?_
  rintro e w2 ⟨rfl, hb2⟩
  have hbs : Below w1.heap.size w1 w2 := below_chain (Below.refl _ _).drew hb2
  have HB2 := Lib.hid (below_chain HB1.out hbs)
  have HA2 := Lib.hid (HA1.out.below hbs)
  replace g0 := cell_later hbs g0
  replace g1 := cell_later hbs g1
  clear a0 a1 a2 a3 a4 hbs hb2
  obtain ⟨a0, a1, a2, a3, a4⟩ := HA2.out
  go_wp2
  clear hHeld
  refine hK.out _ _ (by exact ⟨⟨a0, a1, a2, a3, a4⟩, g0, g1⟩) (fun hHeld => ?_)
  clear hK K
  try simp only [Act.put, List.setIfInBounds_toArray, List.set_cons_zero, List.set_cons_succ]
  refine rg_take (v := ?_) 7 rfl (by kernel_rfl) (by kernel_rfl) (by kernel_rfl) (fun _ _ _ h => h) (by kernel_rfl) ?_ (by assumption) ?_
  rotate_left
  · (intro w' hSw; (try dsimp only at hSw); go_simp; first | done | with_reducible rfl)
  simp only [Act.put, List.setIfInBounds_toArray, List.set_cons_zero, List.set_cons_succ]
  refine rg_take (v := ?_) 8 rfl (by kernel_rfl) (by kernel_rfl) (by kernel_rfl) (fun _ _ _ h => h) (by kernel_rfl) ?_ (by assumption) ?_
  rotate_left
  · (intro w' hSw; (try dsimp only at hSw); go_simp; first | done | with_reducible rfl)
  simp only [Act.put, List.setIfInBounds_toArray, List.set_cons_zero, List.set_cons_succ]
  refine wpAnyH_done (by kernel_rfl) ?_ _
  clear hHeld
  clear a0 a1 a2 a3 a4 g0 g1
  go_wp2_with (fail)
  refine bodyPost_ret (v := .tuple #[.int .i64 (timI c x), .int .i64 0]) (by simp [results, Tryz.results14, go_sem]) rfl (by rw [HV.out.1, HV.out.2]; exact ⟨rfl, HB2.out⟩)
end Go.Proofs.YteengjcplmjakaaGreatDoor

/- copy, clear and append in place on a row of instructions that is the call's own: the runs. No condition but the sizes. -/
namespace Go.Proofs.YteengjcplmjakaaGreatDoor
open Go.RowKit

/-- Cells written one behind the other. -/
def setL : List Value → Nat → List Value → List Value
  | xs, _, [] => xs
  | xs, o, v :: r => setL (xs.set o v) (o + 1) r
theorem setL_length : ∀ (vs : List Value) (xs : List Value) (o : Nat), (setL xs o vs).length = xs.length
  | [], _, _ => rfl
  | v :: r, xs, o => by rw [setL, setL_length r]; simp
theorem setL_get : ∀ (vs : List Value) (xs : List Value) (o j : Nat), o + vs.length ≤ xs.length → (setL xs o vs)[j]? = if o ≤ j ∧ j < o + vs.length then vs[j - o]? else xs[j]?
  | [], xs, o, j, _ => by simp [setL]; intro h1 h2; omega
  | v :: r, xs, o, j, h => by
    have hl : (v :: r).length = r.length + 1 := rfl
    rw [setL, setL_get r _ _ _ (by simp at h ⊢; omega)]
    by_cases h1 : o + 1 ≤ j ∧ j < o + 1 + r.length
    · rw [if_pos h1, if_pos (by omega), show j - o = (j - (o + 1)) + 1 by omega]
      rfl
    · rw [if_neg h1, List.getElem?_set]
      by_cases h2 : o = j
      · subst h2
        rw [if_pos rfl, if_pos (by omega), if_pos (by omega)]
        simp
      · rw [if_neg h2, if_neg (by omega)]
theorem own_setL {base g cap n : Nat} : ∀ (vs : List Value) (w : World) (xs : List Value) (o : Nat), w.ownsRow base 88 2 (.slice (some ⟨g, 0, none⟩) n cap) n xs →
    (w.setCells g o vs).ownsRow base 88 2 (.slice (some ⟨g, 0, none⟩) n cap) n (setL xs o vs) ∧ w.grownBy (w.setCells g o vs) (some g)
  | [], w, xs, o, h => ⟨h, grown_refl _ _⟩
  | v :: r, w, xs, o, h => by
    have h1 := h.stored o v
    have h2 := own_setL r _ _ (o + 1) h1.1
    exact ⟨h2.1, grown_trans h1.2 h2.2⟩
/-- The row with all its room. -/
theorem own_full {w : World} {base g n cap : Nat} {xs : List Value} (h : w.ownsRow base 88 2 (.slice (some ⟨g, 0, none⟩) n cap) n xs) : ∃ L, w.ownsRow base 88 2 (.slice (some ⟨g, 0, none⟩) cap cap) cap L ∧ L.take (n * 2) = xs ∧ n ≤ cap := by
  rcases h.2 with ⟨h0, _⟩ | ⟨g', cap', cur, hv, hbg, hg, hnc, hcm, hcs, htake⟩
  · cases h0
  · cases hv
    refine ⟨cur.toList, ⟨by simpa using hcs, .inr ⟨g, cap, cur, rfl, hbg, hg, Nat.le_refl _, hcm, hcs, ?_⟩⟩, htake, hnc⟩
    rw [List.take_of_length_le (by simp; omega)]
theorem own_cut {w : World} {base g n m cap : Nat} {xs : List Value} (h : w.ownsRow base 88 2 (.slice (some ⟨g, 0, none⟩) n cap) n xs) (hm : m ≤ n) : w.ownsRow base 88 2 (.slice (some ⟨g, 0, none⟩) m cap) m (xs.take (m * 2)) := by
  have hl := h.1
  rcases h.2 with ⟨h0, _⟩ | ⟨g', cap', cur, hv, hbg, hg, hnc, hcm, hcs, htake⟩
  · cases h0
  · cases hv
    refine ⟨by rw [List.length_take, hl]; omega, .inr ⟨g, cap, cur, rfl, hbg, hg, by omega, hcm, hcs, ?_⟩⟩
    rw [← htake, List.take_take]
    congr 1
    omega
theorem own_someI {w : World} {base g n cap : Nat} {xs : List Value} (h : w.ownsRow base 88 2 (.slice (some ⟨g, 0, none⟩) n cap) n xs) {j : Nat} (hj : j < n * 2) : (w.cell? ⟨g, j, none⟩).isSome = true := by
  obtain ⟨u, hu⟩ := own_cell h hj
  rw [hu]; rfl
theorem run_copyI {w : World} {base g cap : Nat} {L : List Value} (hF : w.ownsRow base 88 2 (.slice (some ⟨g, 0, none⟩) cap cap) cap L) (o dLen dCap : Nat) (ad : Addr) (m c : Nat) (cs : List Value) (hcs : cs.length = m * 2) (hm : m ≤ dLen)
    (hsrc : ∀ j u, cs[j]? = some u → w.cell? (ad.add j) = some u) (h1 : ∀ u ∈ cs, u.oneCell' = true) (hfit : o + cs.length ≤ cap * 2) (ty : TypeId) :
    (Builtin.copy_ #[33, 33] ty #[.slice (some ⟨g, o, none⟩) dLen dCap, .slice (some ad) m c]).run Tryz.prog w = .ok (goInt m) (w.setCells g o cs) := by
  obtain ⟨i0, hi, hz0, hz1, hz2⟩ := info_parts info_iInstruction
  have hl := run_loadCells_list (P := Tryz.prog) w ad cs hsrc
  rw [hcs] at hl
  have hst := run_storeCells_cells (P := Tryz.prog) g o cs 0 w (fun j hj => own_someI hF (by omega)) (fun j _ => hF.frozenAt _) h1
  have hmin : Nat.min m dLen = m := Nat.min_eq_left hm
  simp [Builtin.copy_, run_underlying Tryz.underlying33, Builtin.lenOf, Builtin.firstCells, sizeOf, typeInfo, hi, hz1, hmin, hl, hst]
theorem run_copyI0 (w : World) (d : Option Addr) (dLen dCap : Nat) (ty : TypeId) :
    (Builtin.copy_ #[33, 33] ty #[.slice d dLen dCap, .slice none 0 0]).run Tryz.prog w = .ok (goInt 0) w := by
  obtain ⟨i0, hi, hz0, hz1, hz2⟩ := info_parts info_iInstruction
  cases d <;> simp [Builtin.copy_, run_underlying Tryz.underlying33, Builtin.lenOf, Builtin.firstCells, sizeOf, typeInfo, hi, storeCells]
theorem run_clearI {w : World} {base g cap : Nat} {L : List Value} (hF : w.ownsRow base 88 2 (.slice (some ⟨g, 0, none⟩) cap cap) cap L) (o m c : Nat) (hm : 0 < m) (hfit : o + m * 2 ≤ cap * 2) :
    ∃ zs : List Value, zs.length = m * 2 ∧ ∀ ty : TypeId, (Builtin.clear_ #[33] ty #[.slice (some ⟨g, o, none⟩) m c]).run Tryz.prog w = .ok (.tuple #[]) (w.setCells g o zs) := by
  have hv : ∀ w, (zeroValue 88).run Tryz.prog w = .ok (.agg #[.int .i64 0, .int .i64 0]) w := fun w => by kernel_rfl
  obtain ⟨zs, hzs⟩ : ∃ zs, zs = (Builtin.zeroCells #[.int .i64 0, .int .i64 0] m).toList := ⟨_, rfl⟩
  have hlen : zs.length = m * 2 := by rw [hzs]; simp [Builtin.zeroCells]
  have h1 : ∀ u ∈ zs, u.oneCell' = true := by
    intro u hu
    rw [hzs] at hu
    simp only [Builtin.zeroCells, Array.toList_map, Array.toList_range, List.mem_map, List.mem_range] at hu
    obtain ⟨j, _, rfl⟩ := hu
    have : j % 2 = 0 ∨ j % 2 = 1 := by omega
    rcases this with h | h <;> simp [h, Value.oneCell']
  refine ⟨zs, hlen, fun ty => ?_⟩
  have hst := run_storeCells_cells (P := Tryz.prog) g o zs 0 w (fun j hj => own_someI hF (by omega)) (fun j _ => hF.frozenAt _) h1
  simp only [Nat.add_zero] at hst
  obtain ⟨m, rfl⟩ : ∃ k, m = k + 1 := ⟨m - 1, by omega⟩
  have hz : (Value.agg #[.int .i64 0, .int .i64 0]).cells = #[.int .i64 0, .int .i64 0] := rfl
  simp [Builtin.clear_, run_underlying Tryz.underlying33, hv, hz, ← hzs, hst]
theorem take_setL_lo {vs xs : List Value} {o m : Nat} (hm : m ≤ o) (hf : o + vs.length ≤ xs.length) : (setL xs o vs).take m = xs.take m := by
  apply List.ext_getElem?
  intro j
  rw [List.getElem?_take, List.getElem?_take]
  split
  · rw [setL_get _ _ _ _ hf, if_neg (by omega)]
  · rfl
theorem take_setL {vs xs : List Value} {o : Nat} (hf : o + vs.length ≤ xs.length) : (setL xs o vs).take (o + vs.length) = xs.take o ++ vs := by
  apply List.ext_getElem?
  intro j
  rw [List.getElem?_take, List.getElem?_append, List.length_take, List.getElem?_take]
  by_cases h1 : j < o + vs.length
  · rw [if_pos h1, setL_get _ _ _ _ hf]
    by_cases h2 : j < o
    · rw [if_neg (by omega), if_pos (by omega), if_pos h2]
    · rw [if_pos (by omega), if_neg (by omega)]
      congr 1
      omega
  · rw [if_neg h1, if_neg (by omega)]
    exact (List.getElem?_eq_none (by omega)).symm
theorem rep_list {l vs : List Ins} {L : List Value} {i n N : Nat} {zs : List Value} (hL : L.take (n * 2) = insCells l) (hl : l.length = n) (hN : L.length = N * 2) (hnN : n ≤ N) (hi : i + 2 ≤ n) (hk : vs.length ≤ 2) (hz : zs.length = (2 - vs.length) * 2) :
    (setL (setL (setL L (i * 2) (insCells vs)) ((i + vs.length) * 2) (insCells (l.drop (i + 2)))) ((n - 2 + vs.length) * 2) zs).take ((n - 2 + vs.length) * 2) = insCells (l.take i ++ vs ++ l.drop (i + 2)) := by
  have hd : (insCells (l.drop (i + 2))).length = (n - (i + 2)) * 2 := by rw [insCells_length, List.length_drop, hl]
  have hv : (insCells vs).length = vs.length * 2 := insCells_length _
  rw [take_setL_lo (Nat.le_refl _) (by rw [setL_length, setL_length, hN, hz]; omega)]
  rw [show (n - 2 + vs.length) * 2 = (i + vs.length) * 2 + (insCells (l.drop (i + 2))).length by rw [hd]; omega, take_setL (by rw [setL_length, hN, hd]; omega)]
  rw [show (i + vs.length) * 2 = i * 2 + (insCells vs).length by rw [hv]; omega, take_setL (by rw [hN, hv]; omega)]
  have h1 : L.take (i * 2) = insCells (l.take i) := by
    rw [ins_take, ← hL, List.take_take]
    congr 1
    omega
  rw [h1]
  simp [insCells]
theorem src_get {l : List Ins} {L : List Value} {n m j : Nat} {u : Value} (hL : L.take (n * 2) = insCells l) (hu : (insCells (l.drop m))[j]? = some u) : L[m * 2 + j]? = some u := by
  rw [ins_drop, List.getElem?_drop, ← hL, List.getElem?_take] at hu
  split at hu
  · exact hu
  · cases hu
theorem src_get1 {l : List Ins} {L : List Value} {n i j N : Nat} {x : Ins} {u : Value} (hL : L.take (n * 2) = insCells l) (hN : L.length = N * 2) (hi : i + 2 ≤ N) (hu : (insCells (l.drop (i + 2)))[j]? = some u) : (setL L (i * 2) x.cells)[(i + 2) * 2 + j]? = some u := by
  have hx : x.cells.length = 2 := rfl
  rw [setL_get _ _ _ _ (by rw [hN, hx]; omega), if_neg (by rw [hx]; omega)]
  exact src_get hL hu
end Go.Proofs.YteengjcplmjakaaGreatDoor

/- slices.Replace of two instructions by none or one, in place (printed by RpR.py). Condition: the row is the call's own. -/
namespace Go.Proofs.YteengjcplmjakaaGreatDoor
open Go.RowKit

/-- The operation 'copy' whose run is known. -/
theorem wp_cp (w : World) {o : Oper} {a : Act} {K : Act → World → Prop} {Q : Exit → Act → World → Prop} (d s : Operand) (t : TypeId)
    (ho : o.op = .call { callee := .builtin .copy, args := #[d, s], argTypes := #[t, t] }) {v u r : Value} {w' : World} (hd : a.eval d = v) (hs : a.eval s = u)
    (hr : ∀ ty, (Builtin.copy_ #[t, t] ty #[v, u]).run Tryz.prog w = .ok r w') (h : K (a.put o.dst r) w') : o.wp Tryz.prog a w K Q := by
  have hr' := hr o.type
  unfold Oper.wp execOp
  simp only [ho, resolve, invoke, builtin, Sem.run_bind, Sem.run_pure, Result.andThen_ok, List.map_toArray, List.map_cons, List.map_nil, hd, hs, hr']
  exact h
theorem wpList_cp (w : World) {ops : Array Oper} {rest : List Oper} {o : Oper} {a : Act} {Q : Exit → Act → World → Prop} (hgd : o.guard = none) (d s : Operand) (t : TypeId)
    (ho : o.op = .call { callee := .builtin .copy, args := #[d, s], argTypes := #[t, t] }) {v u r : Value} {w' : World} (hd : a.eval d = v) (hs : a.eval s = u)
    (hr : ∀ ty, (Builtin.copy_ #[t, t] ty #[v, u]).run Tryz.prog w = .ok r w') (h : wpList Tryz.prog ops Q rest (a.put o.dst r) w') : wpList Tryz.prog ops Q (o :: rest) a w :=
  wpList_plain hgd fun _ hK => wp_cp w d s t ho hd hs hr (hK _ _ h)
def RepP (base g cap : Nat) (l : List Ins) (w : World) (e : Ending) (w' : World) : Prop := e = .returned (.slice (some ⟨g, 0, none⟩) l.length cap) ∧ w'.ownsRow base 88 2 (.slice (some ⟨g, 0, none⟩) l.length cap) l.length (insCells l) ∧ w.grownBy w' (some g)
theorem repP_of {base g cap n : Nat} {l : List Ins} {w w' : World} (hl : n = l.length) (ho : w'.ownsRow base 88 2 (.slice (some ⟨g, 0, none⟩) n cap) n (insCells l)) (hg : w.grownBy w' (some g)) : RepP base g cap l w (.returned (.slice (some ⟨g, 0, none⟩) n cap)) w' := by
  subst hl; exact ⟨rfl, ho, hg⟩
set_option maxHeartbeats 4000000 in
set_option maxRecDepth 100000 in
theorem c_Replace0 (base g n cap i : Nat) (l : List Ins)  (w : World) (hn : l.length = n) (hi : i + 2 ≤ n) (hn2 : n ≤ 3000) (ho : w.ownsRow base 88 2 (.slice (some ⟨g, 0, none⟩) n cap) n (insCells l)) :
    Calls Tryz.prog 102 #[.slice (some ⟨g, 0, none⟩) n cap, .int .i64 (i : Int), .int .i64 ((i : Int) + 2), .slice none 0 0] w (RepP base g cap (l.take i ++ [] ++ l.drop (i + 2)) w) := by
  have HO := Lib.hid ho
  have HN := Lib.hid hn
  have hcap := (own_cap ho).1
  have q0 : (0 : Int) ≤ (i : Int) := by omega
  have q1 : (i : Int) ≤ (i : Int) + 2 := by omega
  have q2 : (i : Int) + 2 ≤ cap := by omega
  have q3 : ((i : Int) + 2).toNat = i + 2 := by omega
  have q4 : ((i : Int) == (i : Int) + 2) = false := by simp; omega
  have q5 : (i : Int) ≤ cap := by omega
  have q6 : (0 : Int) ≤ (i : Int) + 2 := by omega
  have q7 : ¬ cap = i := by omega
  have HLN : Hid (n - 2 = (l.take i ++ [] ++ l.drop (i + 2)).length) := Lib.hid (by rw [List.length_append, List.length_append, List.length_take, List.length_drop, hn]; show _ = _ + 0 + _; omega)
  have HRR : Hid (∀ r, r = l.take i ++ [] ++ l.drop (i + 2) → r = l.take i ++ [] ++ l.drop (i + 2)) := Lib.hid (fun _ h => h)
  obtain ⟨R, hR⟩ : ∃ R, R = l.take i ++ [] ++ l.drop (i + 2) := ⟨_, rfl⟩
  rw [← hR] at HLN ⊢
  have HR0 := Lib.hid hR
  clear ho hn hR HRR
  by_cases he : i + 2 = n
  · subst he
    have HC := Lib.hid (own_cut HO.out (show i ≤ i + 2 by omega))
    have HX : Hid ((insCells l).take (i * 2) = insCells (l.take i)) := Lib.hid (ins_take l i).symm
    rw [HX.out] at HC
    have HDR : Hid (l.drop (i + 2) = []) := Lib.hid (List.drop_eq_nil_of_le (by rw [HN.out]; omega))
    have r0 : ((i : Int) + 2 == (i : Int) + 2) = true := by simp
    obtain ⟨L, hF, hL, _⟩ := own_full HC.out
    obtain ⟨zs, hz, hcl⟩ := run_clearI hF (i * 2) 2 (cap - i) (by omega) (by omega)
    have hS := own_setL zs _ _ (i * 2) hF
    have HR : Hid ((w.setCells g (i * 2) zs).ownsRow base 88 2 (.slice (some ⟨g, 0, none⟩) i cap) i (insCells (l.take i))) := Lib.hid (by
      have h2 := own_cut hS.1 (show i ≤ cap by omega)
      rw [take_setL_lo (Nat.le_refl _) (by rw [hF.1, hz]; omega), hL] at h2
      exact h2)
    have HG := Lib.hid hS.2
    have r1 : (i : Int) < (i : Int) + 2 := by omega
    have r2 : (i : Int) ≤ ((i + 2 : Nat) : Int) := by omega
    have r3 : ((i + 2 : Nat) : Int) ≤ cap := by omega
    have r4 : i + 2 - i = 2 := by omega
    clear hF hL hz hS
    go_enter Tryz.func102, Tryz.ntmps102
    go_wp2_with (first
      | (at_builtin
         refine wpList_append_own_none (w := w) rfl (.tmp 32) (.tmp 33) 33 rfl base 88 (Classical.choose (info_parts info_iInstruction)) 2 Tryz.underlying33 (Classical.choose_spec (info_parts info_iInstruction)).1 (.slice (some ⟨g, 0, none⟩) i cap) i (insCells (l.take i)) rfl HC.out rfl ?_)
      )
    go_ret
    refine repP_of HLN.out ?_ HG.out
    rw [HR0.out, HDR.out, List.append_nil, List.append_nil]
    exact HR.out
  · skip
    have s0 : ((i : Int) + 2 == (n : Int)) = false := by simp; omega
    have s1 : (i : Int) + 2 ≤ n := by omega
    have s2 : ¬ cap = i + 2 := by omega
    obtain ⟨tot, htot⟩ : ∃ tot : Nat, tot = n - 2 := ⟨_, rfl⟩
    have s3 : ((i : Int)) + ((n - (i + 2) : Nat) : Int) = (tot : Int) := by omega
    have s4 : (tot : Int) ≤ cap := by omega
    have s5 : ¬ (cap : Int) < (tot : Int) := by omega
    have s6 : ¬ cap = tot := by omega
    have s7 : (tot : Int) ≤ n := by omega
    have s8 : (n : Int) ≤ cap := by omega
    have s9 : (i : Int) ≤ tot := by omega
    have s10 : (tot : Int) ≤ (tot : Int) := Int.le_refl _
    have s11 : (i : Int) ≤ (i : Int) + 2 := by omega
    have s12 : (i : Int) ≤ tot := by omega
    have s13 : (0 : Int) ≤ (i : Int) := by omega
    have s14 : ((i : Int)).toNat = i := by omega
    have s15 : ¬ cap = i := by omega
    have s16 : n - tot = 2 := by omega
    have s17 : tot - i = n - (i + 2) := by omega
    have s18 : (0 : Int) ≤ (tot : Int) := by omega
    have s19 : i + 1 ≤ tot := by omega
    have s20 : i + 2 ≤ cap := by omega
    have w1 : IntKind.i64.wrap ((i : Int)) = (i : Int) := IntWalk.i64_in _ (by omega)
    have w2 : IntKind.i64.wrap ((i : Int) + ((n - (i + 2) : Nat) : Int)) = tot := by rw [IntWalk.i64_in _ (by omega)]; omega
    obtain ⟨L, hF, hL, _⟩ := own_full HO.out
    have HFd := Lib.hid (own_below hF (Below.refl w.heap.size w).drew)
    have HL := Lib.hid hL
    have HTO := Lib.hid htot
    have HLC := Lib.hid hF.1
    clear hF hL htot
    have hcp1 := fun ty => run_copyI0 w.drew (some ⟨g, i * 2, none⟩) (n - (i + 2)) (cap - i) ty
    have HF1 := HFd
    have HG1 : Hid (w.grownBy w.drew (some g)) := Lib.hid (grown_of_below (Below.refl _ _).drew _)
    have HSG := Lib.hid (fun j u hu => src_get (m := i + 2) (j := j) (u := u) HL.out hu)
    go_enter Tryz.func102, Tryz.ntmps102
    go_wp2_with (fail)
    refine wp_region_held_drew (S := (fun _ => True)) (by kernel_rfl) ?_ (fun hHeld => ?_)
    · exact trivial
    refine rg_take (v := ?_) 0 rfl (by kernel_rfl) (by kernel_rfl) (by kernel_rfl) (fun _ _ _ h => h) (by kernel_rfl) ?_ (by assumption) ?_
    rotate_left
    · (intro w' hSw; (try dsimp only at hSw); go_simp; first | done | with_reducible rfl)
    simp only [Act.put, List.setIfInBounds_toArray, List.set_cons_zero, List.set_cons_succ]
    refine rg_take (v := ?_) 1 rfl (by kernel_rfl) (by kernel_rfl) (by kernel_rfl) (fun _ _ _ h => h) (by kernel_rfl) ?_ (by assumption) ?_
    rotate_left
    · (intro w' hSw; (try dsimp only at hSw); go_simp; first | done | with_reducible rfl)
    simp only [Act.put, List.setIfInBounds_toArray, List.set_cons_zero, List.set_cons_succ]
    refine rg_take (v := ?_) 2 rfl (by kernel_rfl) (by kernel_rfl) (by kernel_rfl) (fun _ _ _ h => h) (by kernel_rfl) ?_ (by assumption) ?_
    rotate_left
    · (intro w' hSw; (try dsimp only at hSw); go_simp; first | done | with_reducible rfl)
    simp only [Act.put, List.setIfInBounds_toArray, List.set_cons_zero, List.set_cons_succ]
    refine rg_take (v := ?_) 3 rfl (by kernel_rfl) (by kernel_rfl) (by kernel_rfl) (fun _ _ _ h => h) (by kernel_rfl) ?_ (by assumption) ?_
    rotate_left
    · (intro w' hSw; (try dsimp only at hSw); go_simp; first | done | with_reducible rfl)
    simp only [Act.put, List.setIfInBounds_toArray, List.set_cons_zero, List.set_cons_succ]
    refine rg_take (v := ?_) 4 rfl (by kernel_rfl) (by kernel_rfl) (by kernel_rfl) (fun _ _ _ h => h) (by kernel_rfl) ?_ (by assumption) ?_
    rotate_left
    · (intro w' hSw; (try dsimp only at hSw); go_simp; first | done | with_reducible rfl)
    simp only [Act.put, List.setIfInBounds_toArray, List.set_cons_zero, List.set_cons_succ]
    refine rg_take (v := ?_) 5 rfl (by kernel_rfl) (by kernel_rfl) (by kernel_rfl) (fun _ _ _ h => h) (by kernel_rfl) ?_ (by assumption) ?_
    rotate_left
    · (intro w' hSw; (try dsimp only at hSw); go_simp; first | done | with_reducible rfl)
    simp only [Act.put, List.setIfInBounds_toArray, List.set_cons_zero, List.set_cons_succ]
    refine rg_take (v := ?_) 6 rfl (by kernel_rfl) (by kernel_rfl) (by kernel_rfl) (fun _ _ _ h => h) (by kernel_rfl) ?_ (by assumption) ?_
    rotate_left
    · (intro w' hSw; (try dsimp only at hSw); go_simp; first | done | with_reducible rfl)
    simp only [Act.put, List.setIfInBounds_toArray, List.set_cons_zero, List.set_cons_succ]
    refine rg_take (v := ?_) 7 rfl (by kernel_rfl) (by kernel_rfl) (by kernel_rfl) (fun _ _ _ h => h) (by kernel_rfl) ?_ (by assumption) ?_
    rotate_left
    · (intro w' hSw; (try dsimp only at hSw); go_simp; first | done | with_reducible rfl)
    simp only [Act.put, List.setIfInBounds_toArray, List.set_cons_zero, List.set_cons_succ]
    refine rg_take (v := ?_) 8 rfl (by kernel_rfl) (by kernel_rfl) (by kernel_rfl) (fun _ _ _ h => h) (by kernel_rfl) ?_ (by assumption) ?_
    rotate_left
    · (intro w' hSw; (try dsimp only at hSw); go_simp; first | done | with_reducible rfl)
    simp only [Act.put, List.setIfInBounds_toArray, List.set_cons_zero, List.set_cons_succ]
    refine rg_take (v := ?_) 9 rfl (by kernel_rfl) (by kernel_rfl) (by kernel_rfl) (fun _ _ _ h => h) (by kernel_rfl) ?_ (by assumption) ?_
    rotate_left
    · (intro w' hSw; (try dsimp only at hSw); go_simp; first | done | with_reducible rfl)
    simp only [Act.put, List.setIfInBounds_toArray, List.set_cons_zero, List.set_cons_succ]
    refine rg_take (v := ?_) 10 rfl (by kernel_rfl) (by kernel_rfl) (by kernel_rfl) (fun _ _ _ h => h) (by kernel_rfl) ?_ (by assumption) ?_
    rotate_left
    · (intro w' hSw; (try dsimp only at hSw); go_simp; first | done | with_reducible rfl)
    simp only [Act.put, List.setIfInBounds_toArray, List.set_cons_zero, List.set_cons_succ]
    refine rg_take (v := ?_) 11 rfl (by kernel_rfl) (by kernel_rfl) (by kernel_rfl) (fun _ _ _ h => h) (by kernel_rfl) ?_ (by assumption) ?_
    rotate_left
    · (intro w' hSw; (try dsimp only at hSw); go_simp; first | done | with_reducible rfl)
    simp only [Act.put, List.setIfInBounds_toArray, List.set_cons_zero, List.set_cons_succ]
    refine rg_take (v := ?_) 12 rfl (by kernel_rfl) (by kernel_rfl) (by kernel_rfl) (fun _ _ _ h => h) (by kernel_rfl) ?_ (by assumption) ?_
    rotate_left
    · (intro w' hSw; (try dsimp only at hSw); go_simp; first | done | with_reducible rfl)
    simp only [Act.put, List.setIfInBounds_toArray, List.set_cons_zero, List.set_cons_succ]
    refine wpAnyH_done (by kernel_rfl) ?_ _
    clear hHeld
    go_upto_region 18 with (fail)
    clear hcp1
    have HF1d := Lib.hid (own_below HF1.out (Below.refl w.drew.heap.size w.drew).drew)
    have hcs : (insCells (l.drop (i + 2))).length = (n - (i + 2)) * 2 := by rw [insCells_length, List.length_drop, HN.out]
    have HCP := Lib.hid (fun ty => run_copyI HF1d.out (i * 2) (n - (i + 2)) (cap - i) ⟨g, (i + 2) * 2, none⟩ (n - (i + 2)) (cap - (i + 2)) (insCells (l.drop (i + 2))) hcs (Nat.le_refl _) (fun j u hu => by
      rw [Addr.add_lit, HF1d.out.cellAt _ (by have := (List.getElem?_eq_some_iff.1 hu).1; omega)]
      exact HSG.out j u hu) (fun u hu => ins_cell1 hu) (by rw [hcs]; omega) ty)
    have hS2 := own_setL (insCells (l.drop (i + 2))) _ _ (i * 2) HF1d.out
    have HF2 := Lib.hid hS2.1
    have HG2 := Lib.hid (grown_trans (grown_trans HG1.out (grown_of_below (Below.refl w.drew.heap.size w.drew).drew _)) hS2.2)
    clear hS2 HF1 HF1d HSG HG1
    refine wp_region_held_drew (S := (fun _ => True)) (by kernel_rfl) ?_ (fun hHeld => ?_)
    · exact trivial
    refine rg_take (v := ?_) 0 rfl (by kernel_rfl) (by kernel_rfl) (by kernel_rfl) (fun _ _ _ h => h) (by kernel_rfl) ?_ (by assumption) ?_
    rotate_left
    · (intro w' hSw; (try dsimp only at hSw); go_simp; first | done | with_reducible rfl)
    simp only [Act.put, List.setIfInBounds_toArray, List.set_cons_zero, List.set_cons_succ]
    refine rg_take (v := ?_) 1 rfl (by kernel_rfl) (by kernel_rfl) (by kernel_rfl) (fun _ _ _ h => h) (by kernel_rfl) ?_ (by assumption) ?_
    rotate_left
    · (intro w' hSw; (try dsimp only at hSw); go_simp; first | done | with_reducible rfl)
    simp only [Act.put, List.setIfInBounds_toArray, List.set_cons_zero, List.set_cons_succ]
    refine rg_take (v := ?_) 2 rfl (by kernel_rfl) (by kernel_rfl) (by kernel_rfl) (fun _ _ _ h => h) (by kernel_rfl) ?_ (by assumption) ?_
    rotate_left
    · (intro w' hSw; (try dsimp only at hSw); go_simp; first | done | with_reducible rfl)
    simp only [Act.put, List.setIfInBounds_toArray, List.set_cons_zero, List.set_cons_succ]
    refine rg_take (v := ?_) 3 rfl (by kernel_rfl) (by kernel_rfl) (by kernel_rfl) (fun _ _ _ h => h) (by kernel_rfl) ?_ (by assumption) ?_
    rotate_left
    · (intro w' hSw; (try dsimp only at hSw); go_simp; first | done | with_reducible rfl)
    simp only [Act.put, List.setIfInBounds_toArray, List.set_cons_zero, List.set_cons_succ]
    refine rg_take (v := ?_) 4 rfl (by kernel_rfl) (by kernel_rfl) (by kernel_rfl) (fun _ _ _ h => h) (by kernel_rfl) ?_ (by assumption) ?_
    rotate_left
    · (intro w' hSw; (try dsimp only at hSw); go_simp; first | done | with_reducible rfl)
    simp only [Act.put, List.setIfInBounds_toArray, List.set_cons_zero, List.set_cons_succ]
    refine rg_take (v := ?_) 5 rfl (by kernel_rfl) (by kernel_rfl) (by kernel_rfl) (fun _ _ _ h => h) (by kernel_rfl) ?_ (by assumption) ?_
    rotate_left
    · (intro w' hSw; (try dsimp only at hSw); go_simp; first | done | with_reducible rfl)
    simp only [Act.put, List.setIfInBounds_toArray, List.set_cons_zero, List.set_cons_succ]
    refine rg_take (v := ?_) 6 rfl (by kernel_rfl) (by kernel_rfl) (by kernel_rfl) (fun _ _ _ h => h) (by kernel_rfl) ?_ (by assumption) ?_
    rotate_left
    · (intro w' hSw; (try dsimp only at hSw); go_simp; first | done | with_reducible rfl)
    simp only [Act.put, List.setIfInBounds_toArray, List.set_cons_zero, List.set_cons_succ]
    refine rg_take (v := ?_) 7 rfl (by kernel_rfl) (by kernel_rfl) (by kernel_rfl) (fun _ _ _ h => h) (by kernel_rfl) ?_ (by assumption) ?_
    rotate_left
    · (intro w' hSw; (try dsimp only at hSw); go_simp; first | done | with_reducible rfl)
    simp only [Act.put, List.setIfInBounds_toArray, List.set_cons_zero, List.set_cons_succ]
    refine rg_take (v := ?_) 8 rfl (by kernel_rfl) (by kernel_rfl) (by kernel_rfl) (fun _ _ _ h => h) (by kernel_rfl) ?_ (by assumption) ?_
    rotate_left
    · (intro w' hSw; (try dsimp only at hSw); go_simp; first | done | with_reducible rfl)
    simp only [Act.put, List.setIfInBounds_toArray, List.set_cons_zero, List.set_cons_succ]
    refine rg_run 9 rfl (by kernel_rfl) (by kernel_rfl) (fun K hK => ?_)
    refine wp_cp _ (.tmp 103) (.tmp 106) 33 rfl rfl rfl HCP.out ?_
    clear hHeld
    refine hK.out _ _ trivial (fun hHeld => ?_)
    clear hK K
    try simp only [Act.put, List.setIfInBounds_toArray, List.set_cons_zero, List.set_cons_succ]
    refine wpAnyH_done (by kernel_rfl) ?_ _
    clear hHeld
    generalize w.drew.drew.setCells g (i * 2) (insCells (l.drop (i + 2))) = W2 at *
    obtain ⟨zs, hz, hcl⟩ := run_clearI HF2.out (tot * 2) 2 (cap - tot) (by omega) (by omega)
    have hS3 := own_setL zs _ _ (tot * 2) HF2.out
    have HR : Hid ((W2.setCells g (tot * 2) zs).ownsRow base 88 2 (.slice (some ⟨g, 0, none⟩) tot cap) tot (insCells R)) := Lib.hid (by
      have h2 := own_cut hS3.1 (show tot ≤ cap by omega)
      have e := rep_list (vs := []) (i := i) (N := cap) (zs := zs) HL.out HN.out HLC.out (by omega) hi (by simp) (by rw [hz]; rfl)
      skip
      rw [HR0.out, ← e]
      rw [HTO.out] at h2 ⊢
      exact h2)
    have HG := Lib.hid (grown_trans HG2.out hS3.2)
    have HTT : Hid (tot = R.length) := Lib.hid (by rw [← HLN.out, HTO.out])
    clear hz hS3 HF2 HG2 hcs HCP
    go_wp2_with (fail)
    go_ret
    exact repP_of HTT.out HR.out HG.out
set_option maxHeartbeats 4000000 in
set_option maxRecDepth 100000 in
theorem c_Replace1 (base g n cap i : Nat) (l : List Ins) (x : Ins) (h : Nat) (w : World) (hn : l.length = n) (hi : i + 2 ≤ n) (hn2 : n ≤ 3000) (ho : w.ownsRow base 88 2 (.slice (some ⟨g, 0, none⟩) n cap) n (insCells l)) (h0 : w.cell? ⟨h, 0, none⟩ = some (.int .i64 x.o)) (h1 : w.cell? ⟨h, 1, none⟩ = some (.int .i64 x.a)) :
    Calls Tryz.prog 102 #[.slice (some ⟨g, 0, none⟩) n cap, .int .i64 (i : Int), .int .i64 ((i : Int) + 2), .slice (some ⟨h, 0, none⟩) 1 1] w (RepP base g cap (l.take i ++ [x] ++ l.drop (i + 2)) w) := by
  have HO := Lib.hid ho
  have HN := Lib.hid hn
  have hcap := (own_cap ho).1
  have q0 : (0 : Int) ≤ (i : Int) := by omega
  have q1 : (i : Int) ≤ (i : Int) + 2 := by omega
  have q2 : (i : Int) + 2 ≤ cap := by omega
  have q3 : ((i : Int) + 2).toNat = i + 2 := by omega
  have q4 : ((i : Int) == (i : Int) + 2) = false := by simp; omega
  have q5 : (i : Int) ≤ cap := by omega
  have q6 : (0 : Int) ≤ (i : Int) + 2 := by omega
  have q7 : ¬ cap = i := by omega
  have HLN : Hid (n - 1 = (l.take i ++ [x] ++ l.drop (i + 2)).length) := Lib.hid (by rw [List.length_append, List.length_append, List.length_take, List.length_drop, hn]; show _ = _ + 1 + _; omega)
  have HRR : Hid (∀ r, r = l.take i ++ [x] ++ l.drop (i + 2) → r = l.take i ++ [x] ++ l.drop (i + 2)) := Lib.hid (fun _ h => h)
  obtain ⟨R, hR⟩ : ∃ R, R = l.take i ++ [x] ++ l.drop (i + 2) := ⟨_, rfl⟩
  rw [← hR] at HLN ⊢
  have HR0 := Lib.hid hR
  clear ho hn hR HRR
  by_cases he : i + 2 = n
  · subst he
    have HC := Lib.hid (own_cut HO.out (show i ≤ i + 2 by omega))
    have HX : Hid ((insCells l).take (i * 2) = insCells (l.take i)) := Lib.hid (ins_take l i).symm
    rw [HX.out] at HC
    have HDR : Hid (l.drop (i + 2) = []) := Lib.hid (List.drop_eq_nil_of_le (by rw [HN.out]; omega))
    have r0 : ((i : Int) + 2 == (i : Int) + 2) = true := by simp
    have r1 : (i : Int) + 1 < (i : Int) + 2 := by omega
    have r2 : (i : Int) + 1 ≤ (i : Int) + 2 := by omega
    have r3 : (i : Int) + 2 ≤ cap := by omega
    have r4 : i + 2 - (i + 1) = 1 := by omega
    have r5 : (0 : Int) ≤ (i : Int) + 1 := by omega
    have r6 : ¬ cap = i + 1 := by omega
    have r7 : ((i : Int) + 1).toNat = i + 1 := by omega
    have H0 := Lib.hid h0
    have H1 := Lib.hid h1
    clear h0 h1
    go_enter Tryz.func102, Tryz.ntmps102
    go_wp2_with (first
      | (at_builtin
         obtain ⟨i0, hi0, hz0, hz1, hz2⟩ := info_parts info_iInstruction
         refine wpList_append_own_spare w rfl (.tmp 32) (.tmp 33) 33 rfl base 88 i0 2 Tryz.underlying33 hi0 hz1 g i cap (insCells (l.take i)) rfl HC.out ⟨h, 0, none⟩ 1 1 x.cells rfl rfl (fun j u hu => by
           match j, hu with
           | 0, hu => simp only [Ins.cells, List.getElem?_cons_zero, Option.some.injEq] at hu; rw [← hu]; simpa [Addr.add] using H0.out
           | 1, hu => simp only [Ins.cells, List.getElem?_cons_succ, List.getElem?_cons_zero, Option.some.injEq] at hu; rw [← hu]; simpa [Addr.add] using H1.out) (fun u hu => by
           simp only [Ins.cells, List.mem_cons, List.not_mem_nil, or_false] at hu
           rcases hu with rfl | rfl <;> rfl) (by omega) ?_
         intro w1 hown hgrow
         have HO1 := Lib.hid hown
         have HG1 := Lib.hid hgrow
         obtain ⟨L, hF, hL, _⟩ := own_full hown
         obtain ⟨zs, hz, hcl⟩ := run_clearI hF ((i + 1) * 2) 1 (cap - (i + 1)) (by omega) (by omega)
         have hS := own_setL zs _ _ ((i + 1) * 2) hF
         have HR : Hid ((w1.setCells g ((i + 1) * 2) zs).ownsRow base 88 2 (.slice (some ⟨g, 0, none⟩) (i + 1) cap) (i + 1) (insCells (l.take i) ++ x.cells)) := Lib.hid (by
           have h2 := own_cut hS.1 (show i + 1 ≤ cap by omega)
           rw [take_setL_lo (Nat.le_refl _) (by rw [hF.1, hz]; omega), hL] at h2
           exact h2)
         have HG := Lib.hid (grown_trans HG1.out hS.2)
         clear hF hL hz hS hown hgrow HO1 HG1 hi0 hz0 hz1 hz2)
      )
    go_ret
    refine repP_of HLN.out ?_ HG.out
    rw [HR0.out, HDR.out, List.append_nil]
    have e : insCells (l.take i ++ [x]) = insCells (l.take i) ++ x.cells := by simp [insCells]
    rw [e]
    exact HR.out
  · skip
    have s0 : ((i : Int) + 2 == (n : Int)) = false := by simp; omega
    have s1 : (i : Int) + 2 ≤ n := by omega
    have s2 : ¬ cap = i + 2 := by omega
    obtain ⟨tot, htot⟩ : ∃ tot : Nat, tot = n - 1 := ⟨_, rfl⟩
    have s3 : ((i : Int) + 1) + ((n - (i + 2) : Nat) : Int) = (tot : Int) := by omega
    have s4 : (tot : Int) ≤ cap := by omega
    have s5 : ¬ (cap : Int) < (tot : Int) := by omega
    have s6 : ¬ cap = tot := by omega
    have s7 : (tot : Int) ≤ n := by omega
    have s8 : (n : Int) ≤ cap := by omega
    have s9 : (i : Int) ≤ tot := by omega
    have s10 : (tot : Int) ≤ (tot : Int) := Int.le_refl _
    have s11 : (i : Int) + 1 ≤ (i : Int) + 2 := by omega
    have s12 : (i : Int) + 1 ≤ tot := by omega
    have s13 : (0 : Int) ≤ (i : Int) + 1 := by omega
    have s14 : ((i : Int) + 1).toNat = i + 1 := by omega
    have s15 : ¬ cap = i + 1 := by omega
    have s16 : n - tot = 1 := by omega
    have s17 : tot - (i + 1) = n - (i + 2) := by omega
    have s18 : (0 : Int) ≤ (tot : Int) := by omega
    have s19 : i + 1 ≤ tot := by omega
    have s20 : i + 2 ≤ cap := by omega
    have w1 : IntKind.i64.wrap ((i : Int) + 1) = (i : Int) + 1 := IntWalk.i64_in _ (by omega)
    have w2 : IntKind.i64.wrap ((i : Int) + 1 + ((n - (i + 2) : Nat) : Int)) = tot := by rw [IntWalk.i64_in _ (by omega)]; omega
    obtain ⟨L, hF, hL, _⟩ := own_full HO.out
    have HFd := Lib.hid (own_below hF (Below.refl w.heap.size w).drew)
    have HL := Lib.hid hL
    have HTO := Lib.hid htot
    have HLC := Lib.hid hF.1
    clear hF hL htot
    have hcp1 := fun ty => run_copyI HFd.out (i * 2) (tot - i) (cap - i) ⟨h, 0, none⟩ 1 1 x.cells rfl (by omega) (fun j u hu => by
      match j, hu with
      | 0, hu => simp only [Ins.cells, List.getElem?_cons_zero, Option.some.injEq] at hu; rw [← hu]; simpa [Addr.add] using h0
      | 1, hu => simp only [Ins.cells, List.getElem?_cons_succ, List.getElem?_cons_zero, Option.some.injEq] at hu; rw [← hu]; simpa [Addr.add] using h1) (fun u hu => by
      simp only [Ins.cells, List.mem_cons, List.not_mem_nil, or_false] at hu
      rcases hu with rfl | rfl <;> rfl) (by show i * 2 + 2 ≤ _; omega) ty
    have hS1 := own_setL x.cells _ _ (i * 2) HFd.out
    have HF1 := Lib.hid hS1.1
    have HG1 := Lib.hid (grown_trans (grown_of_below (Below.refl w.heap.size w).drew _) hS1.2)
    have HSG := Lib.hid (fun j u hu => src_get1 (x := x) (i := i) (j := j) (u := u) HL.out HLC.out (by omega) hu)
    clear hS1 h0 h1
    go_enter Tryz.func102, Tryz.ntmps102
    go_wp2_with (fail)
    refine wp_region_held_drew (S := (fun _ => True)) (by kernel_rfl) ?_ (fun hHeld => ?_)
    · exact trivial
    refine rg_take (v := ?_) 0 rfl (by kernel_rfl) (by kernel_rfl) (by kernel_rfl) (fun _ _ _ h => h) (by kernel_rfl) ?_ (by assumption) ?_
    rotate_left
    · (intro w' hSw; (try dsimp only at hSw); go_simp; first | done | with_reducible rfl)
    simp only [Act.put, List.setIfInBounds_toArray, List.set_cons_zero, List.set_cons_succ]
    refine rg_take (v := ?_) 1 rfl (by kernel_rfl) (by kernel_rfl) (by kernel_rfl) (fun _ _ _ h => h) (by kernel_rfl) ?_ (by assumption) ?_
    rotate_left
    · (intro w' hSw; (try dsimp only at hSw); go_simp; first | done | with_reducible rfl)
    simp only [Act.put, List.setIfInBounds_toArray, List.set_cons_zero, List.set_cons_succ]
    refine rg_take (v := ?_) 2 rfl (by kernel_rfl) (by kernel_rfl) (by kernel_rfl) (fun _ _ _ h => h) (by kernel_rfl) ?_ (by assumption) ?_
    rotate_left
    · (intro w' hSw; (try dsimp only at hSw); go_simp; first | done | with_reducible rfl)
    simp only [Act.put, List.setIfInBounds_toArray, List.set_cons_zero, List.set_cons_succ]
    refine rg_take (v := ?_) 3 rfl (by kernel_rfl) (by kernel_rfl) (by kernel_rfl) (fun _ _ _ h => h) (by kernel_rfl) ?_ (by assumption) ?_
    rotate_left
    · (intro w' hSw; (try dsimp only at hSw); go_simp; first | done | with_reducible rfl)
    simp only [Act.put, List.setIfInBounds_toArray, List.set_cons_zero, List.set_cons_succ]
    refine rg_take (v := ?_) 4 rfl (by kernel_rfl) (by kernel_rfl) (by kernel_rfl) (fun _ _ _ h => h) (by kernel_rfl) ?_ (by assumption) ?_
    rotate_left
    · (intro w' hSw; (try dsimp only at hSw); go_simp; first | done | with_reducible rfl)
    simp only [Act.put, List.setIfInBounds_toArray, List.set_cons_zero, List.set_cons_succ]
    refine rg_take (v := ?_) 5 rfl (by kernel_rfl) (by kernel_rfl) (by kernel_rfl) (fun _ _ _ h => h) (by kernel_rfl) ?_ (by assumption) ?_
    rotate_left
    · (intro w' hSw; (try dsimp only at hSw); go_simp; first | done | with_reducible rfl)
    simp only [Act.put, List.setIfInBounds_toArray, List.set_cons_zero, List.set_cons_succ]
    refine rg_take (v := ?_) 6 rfl (by kernel_rfl) (by kernel_rfl) (by kernel_rfl) (fun _ _ _ h => h) (by kernel_rfl) ?_ (by assumption) ?_
    rotate_left
    · (intro w' hSw; (try dsimp only at hSw); go_simp; first | done | with_reducible rfl)
    simp only [Act.put, List.setIfInBounds_toArray, List.set_cons_zero, List.set_cons_succ]
    refine rg_take (v := ?_) 7 rfl (by kernel_rfl) (by kernel_rfl) (by kernel_rfl) (fun _ _ _ h => h) (by kernel_rfl) ?_ (by assumption) ?_
    rotate_left
    · (intro w' hSw; (try dsimp only at hSw); go_simp; first | done | with_reducible rfl)
    simp only [Act.put, List.setIfInBounds_toArray, List.set_cons_zero, List.set_cons_succ]
    refine rg_take (v := ?_) 8 rfl (by kernel_rfl) (by kernel_rfl) (by kernel_rfl) (fun _ _ _ h => h) (by kernel_rfl) ?_ (by assumption) ?_
    rotate_left
    · (intro w' hSw; (try dsimp only at hSw); go_simp; first | done | with_reducible rfl)
    simp only [Act.put, List.setIfInBounds_toArray, List.set_cons_zero, List.set_cons_succ]
    refine rg_take (v := ?_) 9 rfl (by kernel_rfl) (by kernel_rfl) (by kernel_rfl) (fun _ _ _ h => h) (by kernel_rfl) ?_ (by assumption) ?_
    rotate_left
    · (intro w' hSw; (try dsimp only at hSw); go_simp; first | done | with_reducible rfl)
    simp only [Act.put, List.setIfInBounds_toArray, List.set_cons_zero, List.set_cons_succ]
    refine rg_take (v := ?_) 10 rfl (by kernel_rfl) (by kernel_rfl) (by kernel_rfl) (fun _ _ _ h => h) (by kernel_rfl) ?_ (by assumption) ?_
    rotate_left
    · (intro w' hSw; (try dsimp only at hSw); go_simp; first | done | with_reducible rfl)
    simp only [Act.put, List.setIfInBounds_toArray, List.set_cons_zero, List.set_cons_succ]
    refine rg_take (v := ?_) 11 rfl (by kernel_rfl) (by kernel_rfl) (by kernel_rfl) (fun _ _ _ h => h) (by kernel_rfl) ?_ (by assumption) ?_
    rotate_left
    · (intro w' hSw; (try dsimp only at hSw); go_simp; first | done | with_reducible rfl)
    simp only [Act.put, List.setIfInBounds_toArray, List.set_cons_zero, List.set_cons_succ]
    refine rg_take (v := ?_) 12 rfl (by kernel_rfl) (by kernel_rfl) (by kernel_rfl) (fun _ _ _ h => h) (by kernel_rfl) ?_ (by assumption) ?_
    rotate_left
    · (intro w' hSw; (try dsimp only at hSw); go_simp; first | done | with_reducible rfl)
    simp only [Act.put, List.setIfInBounds_toArray, List.set_cons_zero, List.set_cons_succ]
    refine wpAnyH_done (by kernel_rfl) ?_ _
    clear hHeld
    go_upto_region 18 with (fail)
    clear hcp1
    generalize w.drew.setCells g (i * 2) x.cells = W1 at *
    have HF1d := Lib.hid (own_below HF1.out (Below.refl W1.heap.size W1).drew)
    have hcs : (insCells (l.drop (i + 2))).length = (n - (i + 2)) * 2 := by rw [insCells_length, List.length_drop, HN.out]
    have HCP := Lib.hid (fun ty => run_copyI HF1d.out ((i + 1) * 2) (n - (i + 2)) (cap - (i + 1)) ⟨g, (i + 2) * 2, none⟩ (n - (i + 2)) (cap - (i + 2)) (insCells (l.drop (i + 2))) hcs (Nat.le_refl _) (fun j u hu => by
      rw [Addr.add_lit, HF1d.out.cellAt _ (by have := (List.getElem?_eq_some_iff.1 hu).1; omega)]
      exact HSG.out j u hu) (fun u hu => ins_cell1 hu) (by rw [hcs]; omega) ty)
    have hS2 := own_setL (insCells (l.drop (i + 2))) _ _ ((i + 1) * 2) HF1d.out
    have HF2 := Lib.hid hS2.1
    have HG2 := Lib.hid (grown_trans (grown_trans HG1.out (grown_of_below (Below.refl W1.heap.size W1).drew _)) hS2.2)
    clear hS2 HF1 HF1d HSG HG1
    refine wp_region_held_drew (S := (fun _ => True)) (by kernel_rfl) ?_ (fun hHeld => ?_)
    · exact trivial
    refine rg_take (v := ?_) 0 rfl (by kernel_rfl) (by kernel_rfl) (by kernel_rfl) (fun _ _ _ h => h) (by kernel_rfl) ?_ (by assumption) ?_
    rotate_left
    · (intro w' hSw; (try dsimp only at hSw); go_simp; first | done | with_reducible rfl)
    simp only [Act.put, List.setIfInBounds_toArray, List.set_cons_zero, List.set_cons_succ]
    refine rg_take (v := ?_) 1 rfl (by kernel_rfl) (by kernel_rfl) (by kernel_rfl) (fun _ _ _ h => h) (by kernel_rfl) ?_ (by assumption) ?_
    rotate_left
    · (intro w' hSw; (try dsimp only at hSw); go_simp; first | done | with_reducible rfl)
    simp only [Act.put, List.setIfInBounds_toArray, List.set_cons_zero, List.set_cons_succ]
    refine rg_take (v := ?_) 2 rfl (by kernel_rfl) (by kernel_rfl) (by kernel_rfl) (fun _ _ _ h => h) (by kernel_rfl) ?_ (by assumption) ?_
    rotate_left
    · (intro w' hSw; (try dsimp only at hSw); go_simp; first | done | with_reducible rfl)
    simp only [Act.put, List.setIfInBounds_toArray, List.set_cons_zero, List.set_cons_succ]
    refine rg_take (v := ?_) 3 rfl (by kernel_rfl) (by kernel_rfl) (by kernel_rfl) (fun _ _ _ h => h) (by kernel_rfl) ?_ (by assumption) ?_
    rotate_left
    · (intro w' hSw; (try dsimp only at hSw); go_simp; first | done | with_reducible rfl)
    simp only [Act.put, List.setIfInBounds_toArray, List.set_cons_zero, List.set_cons_succ]
    refine rg_take (v := ?_) 4 rfl (by kernel_rfl) (by kernel_rfl) (by kernel_rfl) (fun _ _ _ h => h) (by kernel_rfl) ?_ (by assumption) ?_
    rotate_left
    · (intro w' hSw; (try dsimp only at hSw); go_simp; first | done | with_reducible rfl)
    simp only [Act.put, List.setIfInBounds_toArray, List.set_cons_zero, List.set_cons_succ]
    refine rg_take (v := ?_) 5 rfl (by kernel_rfl) (by kernel_rfl) (by kernel_rfl) (fun _ _ _ h => h) (by kernel_rfl) ?_ (by assumption) ?_
    rotate_left
    · (intro w' hSw; (try dsimp only at hSw); go_simp; first | done | with_reducible rfl)
    simp only [Act.put, List.setIfInBounds_toArray, List.set_cons_zero, List.set_cons_succ]
    refine rg_take (v := ?_) 6 rfl (by kernel_rfl) (by kernel_rfl) (by kernel_rfl) (fun _ _ _ h => h) (by kernel_rfl) ?_ (by assumption) ?_
    rotate_left
    · (intro w' hSw; (try dsimp only at hSw); go_simp; first | done | with_reducible rfl)
    simp only [Act.put, List.setIfInBounds_toArray, List.set_cons_zero, List.set_cons_succ]
    refine rg_take (v := ?_) 7 rfl (by kernel_rfl) (by kernel_rfl) (by kernel_rfl) (fun _ _ _ h => h) (by kernel_rfl) ?_ (by assumption) ?_
    rotate_left
    · (intro w' hSw; (try dsimp only at hSw); go_simp; first | done | with_reducible rfl)
    simp only [Act.put, List.setIfInBounds_toArray, List.set_cons_zero, List.set_cons_succ]
    refine rg_take (v := ?_) 8 rfl (by kernel_rfl) (by kernel_rfl) (by kernel_rfl) (fun _ _ _ h => h) (by kernel_rfl) ?_ (by assumption) ?_
    rotate_left
    · (intro w' hSw; (try dsimp only at hSw); go_simp; first | done | with_reducible rfl)
    simp only [Act.put, List.setIfInBounds_toArray, List.set_cons_zero, List.set_cons_succ]
    refine rg_run 9 rfl (by kernel_rfl) (by kernel_rfl) (fun K hK => ?_)
    refine wp_cp _ (.tmp 103) (.tmp 106) 33 rfl rfl rfl HCP.out ?_
    clear hHeld
    refine hK.out _ _ trivial (fun hHeld => ?_)
    clear hK K
    try simp only [Act.put, List.setIfInBounds_toArray, List.set_cons_zero, List.set_cons_succ]
    refine wpAnyH_done (by kernel_rfl) ?_ _
    clear hHeld
    generalize W1.drew.setCells g ((i + 1) * 2) (insCells (l.drop (i + 2))) = W2 at *
    obtain ⟨zs, hz, hcl⟩ := run_clearI HF2.out (tot * 2) 1 (cap - tot) (by omega) (by omega)
    have hS3 := own_setL zs _ _ (tot * 2) HF2.out
    have HR : Hid ((W2.setCells g (tot * 2) zs).ownsRow base 88 2 (.slice (some ⟨g, 0, none⟩) tot cap) tot (insCells R)) := Lib.hid (by
      have h2 := own_cut hS3.1 (show tot ≤ cap by omega)
      have e := rep_list (vs := [x]) (i := i) (N := cap) (zs := zs) HL.out HN.out HLC.out (by omega) hi (by simp) (by rw [hz]; rfl)
      rw [show n - 2 + [x].length = n - 1 by show n - 2 + 1 = n - 1; omega, show insCells [x] = x.cells by simp [insCells]] at e
      rw [HR0.out, ← e]
      rw [HTO.out] at h2 ⊢
      exact h2)
    have HG := Lib.hid (grown_trans HG2.out hS3.2)
    have HTT : Hid (tot = R.length) := Lib.hid (by rw [← HLN.out, HTO.out])
    clear hz hS3 HF2 HG2 hcs HCP
    go_wp2_with (fail)
    go_ret
    exact repP_of HTT.out HR.out HG.out
end Go.Proofs.YteengjcplmjakaaGreatDoor

/- Improving codes: the plain law; improveAt, improveOnce (printed by KIm.py). Condition: the row is the call's own. -/
namespace Go.Proofs.YteengjcplmjakaaGreatDoor
open Go.RowKit

/-- What two instructions are replaced by. -/
def btI (x y : Ins) : Option (List Ins) := if x.o = 1 ∧ y.o = 4 then some [⟨1, 1 - x.a⟩] else if x.o = 4 ∧ y.o = 4 ∨ (x.o = 1 ∧ x.a = 1) ∧ y.o = 5 ∨ (x.o = 1 ∧ x.a = 0) ∧ y.o = 6 then some [] else none
/-- A push has a bit. -/
def Pb (l : List Ins) : Prop := ∀ x ∈ l, x.o = 1 → 0 ≤ x.a ∧ x.a ≤ 1
theorem fit_pb {c : Cd} {l : List Ins} (h : ∀ x ∈ l, fitB c x = true) : Pb l := by
  intro x hx ho
  have := h x hx
  unfold fitB manyI at this
  rw [if_pos ho] at this
  have := of_decide_eq_true this
  omega
theorem hgt_cons (c : Cd) (x : Ins) (l : List Ins) (n : Int) : hgt c (x :: l) n = if fitB c x = true ∧ takI c x ≤ n ∧ n - takI c x + givI x ≤ 40 then hgt c l (n - takI c x + givI x) else none := rfl
theorem tk1 (c : Cd) {x : Ins} (h : x.o = 1) : takI c x = 0 ∧ givI x = 1 ∧ timI c x = 1 := by unfold takI givI timI; rw [h]; simp
theorem tk4 (c : Cd) {x : Ins} (h : x.o = 4) : takI c x = 1 ∧ givI x = 1 ∧ timI c x = 1 := by unfold takI givI timI; rw [h]; simp
theorem tk56 (c : Cd) {x : Ins} (h : x.o = 5 ∨ x.o = 6) : takI c x = 2 ∧ givI x = 1 ∧ timI c x = 2 := by
  unfold takI givI timI
  rcases h with h | h <;> rw [h] <;> simp
theorem bt_hgt {c : Cd} {x y : Ins} {v : List Ins} (h : btI x y = some v) : ∀ {pre post : List Ins} {n m : Int}, hgt c (pre ++ x :: y :: post) n = some m → hgt c (pre ++ v ++ post) n = some m
  | p :: pre, post, n, m, e => by
    rw [List.cons_append, hgt_cons] at e
    rw [List.cons_append, List.cons_append, hgt_cons]
    split at e
    · rename_i hp
      rw [if_pos hp]
      exact bt_hgt h e
    · cases e
  | [], post, n, m, e => by
    rw [List.nil_append, hgt_cons, hgt_cons] at e
    rw [List.nil_append]
    split at e
    · rename_i hx
      split at e
      · rename_i hy
        unfold btI at h
        split at h
        · rename_i h1
          obtain ⟨e1, e2, _⟩ := tk1 c h1.1
          obtain ⟨f1, f2, _⟩ := tk4 c h1.2
          simp only [Option.some.injEq] at h
          subst h
          have hb : 0 ≤ x.a ∧ x.a ≤ 1 := fit_pb (l := [x]) (fun z hz => by rw [List.mem_singleton] at hz; subst hz; exact hx.1) x (List.mem_singleton.2 rfl) h1.1
          rw [List.singleton_append, hgt_cons]
          obtain ⟨g1, g2, _⟩ := tk1 c (x := ⟨1, 1 - x.a⟩) rfl
          have hf : fitB c ⟨1, 1 - x.a⟩ = true := by
            unfold fitB manyI
            rw [if_pos rfl]
            exact decide_eq_true (by dsimp only; omega)
          rw [e1, e2, f1, f2] at e hy
          rw [e1, e2] at hx
          rw [g1, g2, if_pos ⟨hf, by omega, by omega⟩, ← e]
          congr 1
          omega
        · split at h
          · rename_i h1
            simp only [Option.some.injEq] at h
            subst h
            rw [List.nil_append, ← e]
            rcases h1 with ⟨h1, h2⟩ | ⟨⟨h1, _⟩, h2⟩ | ⟨⟨h1, _⟩, h2⟩
            · obtain ⟨e1, e2, _⟩ := tk4 c h1
              obtain ⟨f1, f2, _⟩ := tk4 c h2
              rw [e1, e2, f1, f2]
              congr 1
              omega
            · obtain ⟨e1, e2, _⟩ := tk1 c h1
              obtain ⟨f1, f2, _⟩ := tk56 c (.inl h2)
              rw [e1, e2, f1, f2]
              congr 1
              omega
            · obtain ⟨e1, e2, _⟩ := tk1 c h1
              obtain ⟨f1, f2, _⟩ := tk56 c (.inr h2)
              rw [e1, e2, f1, f2]
              congr 1
              omega
          · cases h
      · cases e
    · cases e
theorem sumT_cat (c : Cd) : ∀ (l r : List Ins), sumT c (l ++ r) = sumT c l + sumT c r
  | [], r => by simp [sumT]
  | y :: t, r => by
    show timI c y + sumT c (t ++ r) = timI c y + sumT c t + sumT c r
    rw [sumT_cat c t r]
    omega
theorem bt_sum {c : Cd} {x y : Ins} {v : List Ins} (h : btI x y = some v) (pre post : List Ins) : sumT c (pre ++ v ++ post) ≤ sumT c (pre ++ x :: y :: post) := by
  rw [sumT_cat, sumT_cat, sumT_cat]
  have e : sumT c (x :: y :: post) = timI c x + (timI c y + sumT c post) := rfl
  rw [e]
  have hv : sumT c v ≤ timI c x + timI c y := by
    unfold btI at h
    split at h
    · rename_i h1
      simp only [Option.some.injEq] at h
      subst h
      rw [(tk1 c h1.1).2.2, (tk4 c h1.2).2.2]
      show timI c ⟨1, 1 - x.a⟩ + 0 ≤ _
      rw [(tk1 c (x := ⟨1, 1 - x.a⟩) rfl).2.2]
      omega
    · split at h
      · rename_i h1
        simp only [Option.some.injEq] at h
        subst h
        show (0 : Int) ≤ _
        rcases h1 with ⟨h1, h2⟩ | ⟨⟨h1, _⟩, h2⟩ | ⟨⟨h1, _⟩, h2⟩
        · rw [(tk4 c h1).2.2, (tk4 c h2).2.2]; omega
        · rw [(tk1 c h1).2.2, (tk56 c (.inl h2)).2.2]; omega
        · rw [(tk1 c h1).2.2, (tk56 c (.inr h2)).2.2]; omega
      · cases h
  omega
theorem bt_pb {x y : Ins} {v l : List Ins} {i : Nat} (h : btI x y = some v) (hp : Pb l) (hx : l[i]? = some x) : Pb (l.take i ++ v ++ l.drop (i + 2)) := by
  intro z hz ho
  rcases List.mem_append.1 hz with hz | hz
  · rcases List.mem_append.1 hz with hz | hz
    · exact hp z (List.mem_of_mem_take hz) ho
    · have hxx := hp x (List.mem_of_getElem? hx)
      unfold btI at h
      split at h
      · rename_i h1
        simp only [Option.some.injEq] at h
        subst h
        rw [List.mem_singleton] at hz
        subst hz
        have := hxx h1.1
        dsimp only
        omega
      · split at h
        · simp only [Option.some.injEq] at h
          subst h
          cases hz
        · cases h
  · exact hp z (List.mem_of_mem_drop hz) ho
theorem bt_len {x y : Ins} {v : List Ins} (h : btI x y = some v) : v.length ≤ 1 := by
  unfold btI at h
  split at h
  · simp only [Option.some.injEq] at h; subst h; exact Nat.le_refl _
  · split at h
    · simp only [Option.some.injEq] at h; subst h; exact Nat.zero_le _
    · cases h
/-- What improveAt hands back. -/
def BtP (x y : Ins) (w : World) (e : Ending) (w' : World) : Prop :=
  (btI x y = none ∧ e = .returned (.tuple #[.slice none 0 0, .bool false]) ∧ Below w.heap.size w w') ∨
  (btI x y = some [] ∧ e = .returned (.tuple #[.slice none 0 0, .bool true]) ∧ Below w.heap.size w w') ∨
  (∃ z h, btI x y = some [z] ∧ e = .returned (.tuple #[.slice (some ⟨h, 0, none⟩) 1 1, .bool true]) ∧ w.heap.size ≤ h ∧ w'.cell? ⟨h, 0, none⟩ = some (.int .i64 z.o) ∧ w'.cell? ⟨h, 1, none⟩ = some (.int .i64 z.a) ∧ Below w.heap.size w w')
set_option maxHeartbeats 4000000 in
set_option maxRecDepth 100000 in
theorem c_improveAt (x y : Ins) (w : World) (hx : x.o = 1 → 0 ≤ x.a ∧ x.a ≤ 1) :
    Calls Tryz.prog 101 #[.agg #[.int .i64 x.o, .int .i64 x.a], .agg #[.int .i64 y.o, .int .i64 y.a]] w (BtP x y w) := by
  obtain ⟨xo, xa⟩ := x
  obtain ⟨yo, ya⟩ := y
  dsimp only at hx ⊢
  have B2 := Lib.hid (below_alloc (below_alloc (Below.refl w.heap.size w) (.cells #[.int .i64 xo, .int .i64 xa] 88)) (.cells #[.int .i64 yo, .int .i64 ya] 88))
  by_cases x1 : xo = 1
  · subst x1
    have hb := hx rfl
    clear hx
    rcases (show xa = 0 ∨ xa = 1 by omega) with rfl | rfl
    · clear hb
      by_cases y4 : yo = 4
      · subst y4
        have HB : Hid (btI ⟨1, 0⟩ ⟨4, ya⟩ = some [⟨1, 1⟩]) := Lib.hid (by
          unfold btI
          simp)
        go_enter Tryz.func101, Tryz.ntmps101
        go_wp2_with (fail)
        go_ret2
        exact .inr (.inr ⟨⟨1, 1⟩, _, HB.out, rfl, (by first | simp | exact Nat.le_refl _ | omega), (by go_simp), (by go_simp), by (repeat (first | exact Below.refl _ _ | assumption | refine below_alloc ?_ _ | refine below_drewN ?_ _ | refine below_set ?_ _ (by simp; try omega) | refine Below.drew ?_))⟩)
      by_cases y5 : yo = 5
      · subst y5
        have HB : Hid (btI ⟨1, 0⟩ ⟨5, ya⟩ = none) := Lib.hid (by
          unfold btI
          simp)
        go_enter Tryz.func101, Tryz.ntmps101
        go_wp2_with (fail)
        go_ret2
        exact .inl ⟨HB.out, rfl, by (repeat (first | exact Below.refl _ _ | assumption | refine below_alloc ?_ _ | refine below_drewN ?_ _ | refine below_set ?_ _ (by simp; try omega) | refine Below.drew ?_))⟩
      by_cases y6 : yo = 6
      · subst y6
        have HB : Hid (btI ⟨1, 0⟩ ⟨6, ya⟩ = some []) := Lib.hid (by
          unfold btI
          simp)
        go_enter Tryz.func101, Tryz.ntmps101
        go_wp2_with (fail)
        go_ret2
        exact .inr (.inl ⟨HB.out, rfl, by (repeat (first | exact Below.refl _ _ | assumption | refine below_alloc ?_ _ | refine below_drewN ?_ _ | refine below_set ?_ _ (by simp; try omega) | refine Below.drew ?_))⟩)
      have yb4 : (yo == 4) = false := by simpa using y4
      have yb5 : (yo == 5) = false := by simpa using y5
      have yb6 : (yo == 6) = false := by simpa using y6
      have HB : Hid (btI ⟨1, 0⟩ ⟨yo, ya⟩ = none) := Lib.hid (by
        unfold btI
        simp [y4, y5, y6])
      clear y4 y5 y6
      go_enter Tryz.func101, Tryz.ntmps101
      go_wp2_with (fail)
      go_ret2
      exact .inl ⟨HB.out, rfl, by (repeat (first | exact Below.refl _ _ | assumption | refine below_alloc ?_ _ | refine below_drewN ?_ _ | refine below_set ?_ _ (by simp; try omega) | refine Below.drew ?_))⟩
    · clear hb
      by_cases y4 : yo = 4
      · subst y4
        have HB : Hid (btI ⟨1, 1⟩ ⟨4, ya⟩ = some [⟨1, 0⟩]) := Lib.hid (by
          unfold btI
          simp)
        go_enter Tryz.func101, Tryz.ntmps101
        go_wp2_with (fail)
        go_ret2
        exact .inr (.inr ⟨⟨1, 0⟩, _, HB.out, rfl, (by first | simp | exact Nat.le_refl _ | omega), (by go_simp), (by go_simp), by (repeat (first | exact Below.refl _ _ | assumption | refine below_alloc ?_ _ | refine below_drewN ?_ _ | refine below_set ?_ _ (by simp; try omega) | refine Below.drew ?_))⟩)
      by_cases y5 : yo = 5
      · subst y5
        have HB : Hid (btI ⟨1, 1⟩ ⟨5, ya⟩ = some []) := Lib.hid (by
          unfold btI
          simp)
        go_enter Tryz.func101, Tryz.ntmps101
        go_wp2_with (fail)
        go_ret2
        exact .inr (.inl ⟨HB.out, rfl, by (repeat (first | exact Below.refl _ _ | assumption | refine below_alloc ?_ _ | refine below_drewN ?_ _ | refine below_set ?_ _ (by simp; try omega) | refine Below.drew ?_))⟩)
      by_cases y6 : yo = 6
      · subst y6
        have HB : Hid (btI ⟨1, 1⟩ ⟨6, ya⟩ = none) := Lib.hid (by
          unfold btI
          simp)
        go_enter Tryz.func101, Tryz.ntmps101
        go_wp2_with (fail)
        go_ret2
        exact .inl ⟨HB.out, rfl, by (repeat (first | exact Below.refl _ _ | assumption | refine below_alloc ?_ _ | refine below_drewN ?_ _ | refine below_set ?_ _ (by simp; try omega) | refine Below.drew ?_))⟩
      have yb4 : (yo == 4) = false := by simpa using y4
      have yb5 : (yo == 5) = false := by simpa using y5
      have yb6 : (yo == 6) = false := by simpa using y6
      have HB : Hid (btI ⟨1, 1⟩ ⟨yo, ya⟩ = none) := Lib.hid (by
        unfold btI
        simp [y4, y5, y6])
      clear y4 y5 y6
      go_enter Tryz.func101, Tryz.ntmps101
      go_wp2_with (fail)
      go_ret2
      exact .inl ⟨HB.out, rfl, by (repeat (first | exact Below.refl _ _ | assumption | refine below_alloc ?_ _ | refine below_drewN ?_ _ | refine below_set ?_ _ (by simp; try omega) | refine Below.drew ?_))⟩
  clear hx
  have xb1 : (xo == 1) = false := by simpa using x1
  by_cases x4 : xo = 4
  · subst x4
    clear x1
    by_cases y4 : yo = 4
    · subst y4
      have HB : Hid (btI ⟨4, xa⟩ ⟨4, ya⟩ = some []) := Lib.hid (by
        unfold btI
        simp)
      go_enter Tryz.func101, Tryz.ntmps101
      go_wp2_with (fail)
      go_ret2
      exact .inr (.inl ⟨HB.out, rfl, by (repeat (first | exact Below.refl _ _ | assumption | refine below_alloc ?_ _ | refine below_drewN ?_ _ | refine below_set ?_ _ (by simp; try omega) | refine Below.drew ?_))⟩)
    by_cases y5 : yo = 5
    · subst y5
      have HB : Hid (btI ⟨4, xa⟩ ⟨5, ya⟩ = none) := Lib.hid (by
        unfold btI
        simp)
      go_enter Tryz.func101, Tryz.ntmps101
      go_wp2_with (fail)
      go_ret2
      exact .inl ⟨HB.out, rfl, by (repeat (first | exact Below.refl _ _ | assumption | refine below_alloc ?_ _ | refine below_drewN ?_ _ | refine below_set ?_ _ (by simp; try omega) | refine Below.drew ?_))⟩
    by_cases y6 : yo = 6
    · subst y6
      have HB : Hid (btI ⟨4, xa⟩ ⟨6, ya⟩ = none) := Lib.hid (by
        unfold btI
        simp)
      go_enter Tryz.func101, Tryz.ntmps101
      go_wp2_with (fail)
      go_ret2
      exact .inl ⟨HB.out, rfl, by (repeat (first | exact Below.refl _ _ | assumption | refine below_alloc ?_ _ | refine below_drewN ?_ _ | refine below_set ?_ _ (by simp; try omega) | refine Below.drew ?_))⟩
    have yb4 : (yo == 4) = false := by simpa using y4
    have yb5 : (yo == 5) = false := by simpa using y5
    have yb6 : (yo == 6) = false := by simpa using y6
    have HB : Hid (btI ⟨4, xa⟩ ⟨yo, ya⟩ = none) := Lib.hid (by
      unfold btI
      simp [y4, y5, y6])
    clear y4 y5 y6
    go_enter Tryz.func101, Tryz.ntmps101
    go_wp2_with (fail)
    go_ret2
    exact .inl ⟨HB.out, rfl, by (repeat (first | exact Below.refl _ _ | assumption | refine below_alloc ?_ _ | refine below_drewN ?_ _ | refine below_set ?_ _ (by simp; try omega) | refine Below.drew ?_))⟩
  have xb4 : (xo == 4) = false := by simpa using x4
  by_cases y4 : yo = 4
  · subst y4
    have HB : Hid (btI ⟨xo, xa⟩ ⟨4, ya⟩ = none) := Lib.hid (by
      unfold btI
      simp [x1, x4])
    clear x1 x4
    go_enter Tryz.func101, Tryz.ntmps101
    go_wp2_with (fail)
    go_ret2
    exact .inl ⟨HB.out, rfl, by (repeat (first | exact Below.refl _ _ | assumption | refine below_alloc ?_ _ | refine below_drewN ?_ _ | refine below_set ?_ _ (by simp; try omega) | refine Below.drew ?_))⟩
  by_cases y5 : yo = 5
  · subst y5
    have HB : Hid (btI ⟨xo, xa⟩ ⟨5, ya⟩ = none) := Lib.hid (by
      unfold btI
      simp [x1, x4])
    clear x1 x4
    go_enter Tryz.func101, Tryz.ntmps101
    go_wp2_with (fail)
    go_ret2
    exact .inl ⟨HB.out, rfl, by (repeat (first | exact Below.refl _ _ | assumption | refine below_alloc ?_ _ | refine below_drewN ?_ _ | refine below_set ?_ _ (by simp; try omega) | refine Below.drew ?_))⟩
  by_cases y6 : yo = 6
  · subst y6
    have HB : Hid (btI ⟨xo, xa⟩ ⟨6, ya⟩ = none) := Lib.hid (by
      unfold btI
      simp [x1, x4])
    clear x1 x4
    go_enter Tryz.func101, Tryz.ntmps101
    go_wp2_with (fail)
    go_ret2
    exact .inl ⟨HB.out, rfl, by (repeat (first | exact Below.refl _ _ | assumption | refine below_alloc ?_ _ | refine below_drewN ?_ _ | refine below_set ?_ _ (by simp; try omega) | refine Below.drew ?_))⟩
  have yb4 : (yo == 4) = false := by simpa using y4
  have yb5 : (yo == 5) = false := by simpa using y5
  have yb6 : (yo == 6) = false := by simpa using y6
  have HB : Hid (btI ⟨xo, xa⟩ ⟨yo, ya⟩ = none) := Lib.hid (by
    unfold btI
    simp [x1, x4, y4, y5, y6])
  clear y4 y5 y6
  clear x1 x4
  go_enter Tryz.func101, Tryz.ntmps101
  go_wp2_with (fail)
  go_ret2
  exact .inl ⟨HB.out, rfl, by (repeat (first | exact Below.refl _ _ | assumption | refine below_alloc ?_ _ | refine below_drewN ?_ _ | refine below_set ?_ _ (by simp; try omega) | refine Below.drew ?_))⟩
end Go.Proofs.YteengjcplmjakaaGreatDoor
