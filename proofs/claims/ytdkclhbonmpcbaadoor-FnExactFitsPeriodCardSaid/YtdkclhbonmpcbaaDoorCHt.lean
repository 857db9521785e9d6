/- The heights of the stack, on the reference's side. Condition: the code's head is in range. -/
import Derived.Test.YtdkclhbonmpcbaaDoorCHs
import Derived.Test.YtdkclhbonmpcbaaDoorRgH
namespace Go.Proofs.YtdkclhbonmpcbaaDoor
open Go.RowKit

/-- append of one number to a list of the call's own. -/
theorem wpList_push_int (w : World) {ops : Array Oper} {rest : List Oper} {o : Oper} {a : Act} {Q : Exit → Act → World → Prop} (hgd : o.guard = none) (s x : Operand)
    (ho : o.op = .call { callee := .builtin .append, args := #[s, x], argTypes := #[60, 60] })
    (base : Nat) (v : Value) (n : Nat) (zs : List Int) (z : Int) (g c : Nat) (hs : a.eval s = v) (hown : w.ownsRow base 2 1 v n (ints zs))
    (hx : a.eval x = .slice (some ⟨g, 0, none⟩) 1 c) (hc : w.cell? ⟨g, 0, none⟩ = some (.int .i64 z)) (hn : n ≤ 1099511627776) (hbase : base ≤ w.heap.size)
    (h : ∀ v' w', w'.ownsRow base 2 1 v' (n + 1) (ints (zs ++ [z])) → w.grownBy w' v.ownBlock → (∀ g, v.ownBlock = some g → ∀ j, j < n * 1 → w'.cell? ⟨g, j, none⟩ = w.cell? ⟨g, j, none⟩) → (v'.ownBlock = v.ownBlock ∨ v'.ownBlock = some w.heap.size) → wpList Tryd.prog ops Q rest (a.put o.dst v') w') : wpList Tryd.prog ops Q (o :: rest) a w := by
  obtain ⟨i0, hi, hz0, hz1, hz2⟩ := info_parts info_int64
  refine wpList_push w hgd s x 60 ho base 2 i0 (.int .i64 0) 1 8 Tryd.underlying60 hi hz0 hz1 hz2 rfl (by decide) v n (ints zs) hs hown ⟨g, 0, none⟩ c [.int .i64 z] hx rfl ?_ ?_ (by unfold maxLen; omega) (by omega) hbase ?_
  · intro j u hu
    match j, hu with
    | 0, hu =>
      simp only [List.getElem?_cons_zero, Option.some.injEq] at hu
      rw [← hu]
      simpa [Addr.add] using hc
  · intro u hu
    simp only [List.mem_singleton] at hu
    subst hu; rfl
  · intro v' w' h1 h2 h3 h4
    exact h v' w' (by simpa [ints] using h1) h2 h3 h4

def hgt (c : Cd) : List Ins → Int → Option Int
  | [], n => some n
  | x :: t, n => if fitB c x = true ∧ takI c x ≤ n ∧ n - takI c x + givI x ≤ 40 then hgt c t (n - takI c x + givI x) else none
def hgtB (c : Cd) : Bool := decide (hgt c c.ss 0 = some 0)
theorem tak_bd (c : Cd) (x : Ins) : 0 ≤ takI c x ∧ takI c x ≤ 2 := by
  unfold takI argI
  repeat' split
  all_goals omega
theorem giv_bd (x : Ins) : 0 ≤ givI x ∧ givI x ≤ 1 := by
  unfold givI
  split <;> omega
theorem hgt_drop {c : Cd} {k : Nat} {x : Ins} (hx : c.ss[k]? = some x) (n : Int) : hgt c (c.ss.drop k) n = if fitB c x = true ∧ takI c x ≤ n ∧ n - takI c x + givI x ≤ 40 then hgt c (c.ss.drop (k + 1)) (n - takI c x + givI x) else none := by
  obtain ⟨hk, e⟩ := List.getElem?_eq_some_iff.1 hx
  rw [List.drop_eq_getElem_cons hk, e]
  rfl
def HgtP (b : Bool) (w : World) (e : Ending) (w' : World) : Prop := ∃ A n cc, e = .returned (.tuple #[.slice A n cc, .bool b]) ∧ Below w.heap.size w w'
theorem own_shape {w : World} {base : Nat} {e : TypeId} {size n : Nat} {v : Value} {xs : List Value} (h : w.ownsRow base e size v n xs) : ∃ A c, v = .slice A n c := by
  rcases h.2 with ⟨h1, h2⟩ | ⟨g, cap, cur, hv, _⟩
  · exact ⟨none, 0, by rw [h1, h2]⟩
  · exact ⟨_, _, hv⟩
/-- The code in its box. -/
def CB (w : World) (b : Nat) (c : Cd) (ab as_ : Option Addr) (cb cs : Nat) : Prop := w.cell? ⟨b, 0, none⟩ = some (.int .i64 c.i) ∧ w.cell? ⟨b, 1, none⟩ = some (.int .i64 c.v) ∧ w.cell? ⟨b, 2, none⟩ = some (.int .i64 c.o) ∧ w.cell? ⟨b, 3, none⟩ = some (.slice ab c.bs.length cb) ∧ w.cell? ⟨b, 4, none⟩ = some (.slice as_ c.ss.length cs)
theorem CB.below {w w' : World} {b : Nat} {c : Cd} {ab as_ : Option Addr} {cb cs : Nat} (h : CB w b c ab as_ cb cs) (hb : Below w.heap.size w w') : CB w' b c ab as_ cb cs :=
  ⟨cell_later hb h.1, cell_later hb h.2.1, cell_later hb h.2.2.1, cell_later hb h.2.2.2.1, cell_later hb h.2.2.2.2⟩
theorem cell_mark {w w' : World} {row : Option Nat} {a : Addr} {v : Value} (h : w.cell? a = some v) (hg : w.grownBy w' row) (hne : ∀ q, row = some q → q ≠ a.block) : w'.cell? a = some v :=
  (hg.cell_far a (World.block_lt_of_cell? w a h) (fun h' => hne _ h'.symm rfl)).trans h
theorem CB.mark {w w' : World} {b : Nat} {c : Cd} {ab as_ : Option Addr} {cb cs : Nat} {row : Option Nat} (h : CB w b c ab as_ cb cs) (hg : w.grownBy w' row) (hne : ∀ q, row = some q → q ≠ b) : CB w' b c ab as_ cb cs :=
  ⟨cell_mark h.1 hg hne, cell_mark h.2.1 hg hne, cell_mark h.2.2.1 hg hne, cell_mark h.2.2.2.1 hg hne, cell_mark h.2.2.2.2 hg hne⟩
set_option maxHeartbeats 2000000 in
set_option maxRecDepth 100000 in
theorem c_l17Heights (c : Cd) (ab as_ : Option Addr) (cb cs : Nat) (w : World) (hd : Hd c) (h : CdR w ab as_ c) :
    Calls Tryd.prog 34 #[cv c ab as_ cb cs] w (HgtP (hgtB c) w) := by
  have HD := Lib.hid hd
  have HC := Lib.hid h
  have HB0 := Lib.hid (below_alloc (below_alloc (Below.refl w.heap.size w) (.cells #[.int .i64 c.i, .int .i64 c.v, .int .i64 c.o, .slice ab c.bs.length cb, .slice as_ c.ss.length cs] 32)) (.cells #[] 2))
  have HA : Hid (CB ((w.alloc (.cells #[.int .i64 c.i, .int .i64 c.v, .int .i64 c.o, .slice ab c.bs.length cb, .slice as_ c.ss.length cs] 32)).alloc (.cells #[] 2)) w.heap.size c ab as_ cb cs) := Lib.hid ⟨by go_simp, by go_simp, by go_simp, by go_simp, by go_simp⟩
  have HO : Hid (((w.alloc (.cells #[.int .i64 c.i, .int .i64 c.v, .int .i64 c.o, .slice ab c.bs.length cb, .slice as_ c.ss.length cs] 32)).alloc (.cells #[] 2)).ownsRow (w.heap.size + 1) 2 1 (.slice (some ⟨w.heap.size + 1, 0, none⟩) 0 0) 0 (ints [])) := Lib.hid (by
    have h := World.ownsRow_lit (e := 2) (size := 1) (base := w.heap.size + 1) (w.alloc (.cells #[.int .i64 c.i, .int .i64 c.v, .int .i64 c.o, .slice ab c.bs.length cb, .slice as_ c.ss.length cs] 32)) #[] 0 (by simp) (by decide) (by simp)
    simpa [ints] using h)
  have hln := hd.s
  clear h hd
  go_enter Tryd.func34, Tryd.ntmps34
  dsimp only [cv]
  go_wp2_with (fail)
  generalize (w.alloc (.cells #[.int .i64 c.i, .int .i64 c.v, .int .i64 c.o, .slice ab c.bs.length cb, .slice as_ c.ss.length cs] 32)).alloc (.cells #[] 2) = W at *
  go_loopw [4, 5, 6, 7, 8] (fun l t i _ _ wr => ∃ (k : Nat) (n : Int) (A3 : Option Addr) (c3 : Nat) (zs : List Int), k ≤ c.ss.length ∧ i = .int .i64 k ∧ t = .int .i64 n ∧ 0 ≤ n ∧ n ≤ 40 ∧ l = .slice A3 k c3 ∧ Hid (hgt c c.ss 0 = hgt c (c.ss.drop k) n) ∧ Hid (wr.ownsRow (w.heap.size + 1) 2 1 (.slice A3 k c3) k (ints zs)) ∧ Hid (Below w.heap.size w wr) ∧ Hid (CB wr w.heap.size c ab as_ cb cs)) (fun _ _ i _ _ _ => c.ss.length - (intOf i).toNat)
  case atStart => exact ⟨0, 0, _, _, [], Nat.zero_le _, rfl, rfl, by omega, by omega, rfl, Lib.hid rfl, HO, HB0, HA⟩
  case round =>
    obtain ⟨k, n, A3, c3, zs, hk, rfl, rfl, hn0, hn1, rfl, hh, ho, hb, ha⟩ := hrel
    clear HO HB0 HA
    by_cases hlt : k < c.ss.length
    · obtain ⟨x, hx⟩ : ∃ x, c.ss[k]? = some x := ⟨_, List.getElem?_eq_getElem hlt⟩
      have HX := Lib.hid (hgt_drop (c := c) hx n)
      obtain ⟨b1, o1, rfl, _, g0, g1⟩ := (HC.out.below hb.out).s.ins hx
      obtain ⟨a0, a1, a2, a3, a4⟩ := ha.out
      have hk0 : (0 : Int) ≤ (k : Int) := by omega
      have hk1 : (k : Int) < c.ss.length := by omega
      clear hx
      go_wp2_with (fail)
      refine wp_region_held_drew (S := (fun w' => (w'.cell? ⟨w.heap.size, 0, none⟩ = some (.int .i64 c.i) ∧ w'.cell? ⟨w.heap.size, 1, none⟩ = some (.int .i64 c.v) ∧ w'.cell? ⟨w.heap.size, 2, none⟩ = some (.int .i64 c.o) ∧ w'.cell? ⟨w.heap.size, 3, none⟩ = some (.slice ab c.bs.length cb) ∧ w'.cell? ⟨w.heap.size, 4, none⟩ = some (.slice (some ⟨b1, o1, none⟩) c.ss.length cs)) ∧ w'.cell? ⟨b1, o1 + k * 2, none⟩ = some (.int .i64 x.o) ∧ w'.cell? ⟨b1, o1 + k * 2 + 1, none⟩ = some (.int .i64 x.a))) (by kernel_rfl) ?_ (fun hHeld => ?_)
      · exact ⟨⟨a0, a1, a2, a3, a4⟩, g0, g1⟩
      refine rg_take (v := ?_) 0 rfl (by kernel_rfl) (by kernel_rfl) (by kernel_rfl) (fun _ _ _ h => h) (by kernel_rfl) ?_ (by assumption) ?_
      rotate_left
      · (intro w' hSw; (try dsimp only at hSw); go_simp; first | done | with_reducible rfl)
      simp only [Act.put, List.setIfInBounds_toArray, List.set_cons_zero, List.set_cons_succ]
      refine rg_take (v := ?_) 1 rfl (by kernel_rfl) (by kernel_rfl) (by kernel_rfl) (fun _ _ _ h => h) (by kernel_rfl) ?_ (by assumption) ?_
      rotate_left
      · (intro w' hSw; (try dsimp only at hSw); go_simp; first | done | with_reducible rfl)
      simp only [Act.put, List.setIfInBounds_toArray, List.set_cons_zero, List.set_cons_succ]
      refine rg_take (v := ?_) 2 rfl (by kernel_rfl) (by kernel_rfl) (by kernel_rfl) (fun _ _ _ h => h) (by kernel_rfl) ?_ (by assumption) ?_
      rotate_left
      · (intro w' hSw; (try dsimp only at hSw); go_simp; first | done | with_reducible rfl)
      simp only [Act.put, List.setIfInBounds_toArray, List.set_cons_zero, List.set_cons_succ]
      refine rg_take (v := ?_) 3 rfl (by kernel_rfl) (by kernel_rfl) (by kernel_rfl) (fun _ _ _ h => h) (by kernel_rfl) ?_ (by assumption) ?_
      rotate_left
      · (intro w' hSw; (try dsimp only at hSw); go_simp; first | done | with_reducible rfl)
      simp only [Act.put, List.setIfInBounds_toArray, List.set_cons_zero, List.set_cons_succ]
      refine rg_take (v := ?_) 4 rfl (by kernel_rfl) (by kernel_rfl) (by kernel_rfl) (fun _ _ _ h => h) (by kernel_rfl) ?_ (by assumption) ?_
      rotate_left
      · (intro w' hSw; (try dsimp only at hSw); go_simp; first | done | with_reducible rfl)
      simp only [Act.put, List.setIfInBounds_toArray, List.set_cons_zero, List.set_cons_succ]
      refine rg_take (v := ?_) 5 rfl (by kernel_rfl) (by kernel_rfl) (by kernel_rfl) (fun _ _ _ h => h) (by kernel_rfl) ?_ (by assumption) ?_
      rotate_left
      · (intro w' hSw; (try dsimp only at hSw); go_simp; first | done | with_reducible rfl)
      simp only [Act.put, List.setIfInBounds_toArray, List.set_cons_zero, List.set_cons_succ]
      refine rg_run 6 rfl (by kernel_rfl) (by kernel_rfl) (fun K hK => ?_)
      go_simp
      refine (c_l17Fits c ab (some ⟨b1, o1, none⟩) cb cs x _ HD.out).mono ?_
      rintro e w2 ⟨rfl, hb2⟩
      have hbs : Below wr.heap.size wr w2 := below_chain (Below.refl _ _).drew hb2
      have HA2 := Lib.hid (ha.out.below hbs)
      have HO2 := Lib.hid (own_below ho.out hbs)
      have HB2 := Lib.hid (below_chain hb.out hbs)
      replace g0 := cell_later hbs g0
      replace g1 := cell_later hbs g1
      clear a0 a1 a2 a3 a4 hbs hb2 ha ho hb
      obtain ⟨a0, a1, a2, a3, a4⟩ := HA2.out
      go_wp2
      clear hHeld
      refine hK.out _ _ (by exact ⟨⟨a0, a1, a2, a3, a4⟩, g0, g1⟩) (fun hHeld => ?_)
      clear hK K
      try simp only [Act.put, List.setIfInBounds_toArray, List.set_cons_zero, List.set_cons_succ]
      refine rg_take (v := ?_) 7 rfl (by kernel_rfl) (by kernel_rfl) (by kernel_rfl) (fun _ _ _ h => h) (by kernel_rfl) ?_ (by assumption) ?_
      rotate_left
      · (intro w' hSw; (try dsimp only at hSw); go_simp; first | done | with_reducible rfl)
      simp only [Act.put, List.setIfInBounds_toArray, List.set_cons_zero, List.set_cons_succ]
      refine wpAnyH_done (by kernel_rfl) ?_ _
      clear hHeld
      rcases hf : fitB c x with _ | _
      · have HV : Hid (hgtB c = false) := Lib.hid (by unfold hgtB; rw [hh.out, HX.out, hf]; simp)
        go_wp2_with (fail)
        refine bodyPost_ret (v := .tuple #[.slice none 0 0, .bool false]) (by simp [results, Tryd.results34, go_sem]) rfl (by rw [HV.out]; exact ⟨_, _, _, rfl, HB2.out⟩)
      · have HF := Lib.hid hf
        rw [hf] at HX
        clear hf
        go_wp2_with (fail)
        refine wp_region_held_drew (S := (fun w' => (w'.cell? ⟨w.heap.size, 0, none⟩ = some (.int .i64 c.i) ∧ w'.cell? ⟨w.heap.size, 1, none⟩ = some (.int .i64 c.v) ∧ w'.cell? ⟨w.heap.size, 2, none⟩ = some (.int .i64 c.o) ∧ w'.cell? ⟨w.heap.size, 3, none⟩ = some (.slice ab c.bs.length cb) ∧ w'.cell? ⟨w.heap.size, 4, none⟩ = some (.slice (some ⟨b1, o1, none⟩) c.ss.length cs)) ∧ w'.cell? ⟨b1, o1 + k * 2, none⟩ = some (.int .i64 x.o) ∧ w'.cell? ⟨b1, o1 + k * 2 + 1, none⟩ = some (.int .i64 x.a))) (by kernel_rfl) ?_ (fun hHeld => ?_)
        · exact ⟨⟨a0, a1, a2, a3, a4⟩, g0, g1⟩
        refine rg_take (v := ?_) 0 rfl (by kernel_rfl) (by kernel_rfl) (by kernel_rfl) (fun _ _ _ h => h) (by kernel_rfl) ?_ (by assumption) ?_
        rotate_left
        · (intro w' hSw; (try dsimp only at hSw); go_simp; first | done | with_reducible rfl)
        simp only [Act.put, List.setIfInBounds_toArray, List.set_cons_zero, List.set_cons_succ]
        refine rg_take (v := ?_) 1 rfl (by kernel_rfl) (by kernel_rfl) (by kernel_rfl) (fun _ _ _ h => h) (by kernel_rfl) ?_ (by assumption) ?_
        rotate_left
        · (intro w' hSw; (try dsimp only at hSw); go_simp; first | done | with_reducible rfl)
        simp only [Act.put, List.setIfInBounds_toArray, List.set_cons_zero, List.set_cons_succ]
        refine rg_take (v := ?_) 2 rfl (by kernel_rfl) (by kernel_rfl) (by kernel_rfl) (fun _ _ _ h => h) (by kernel_rfl) ?_ (by assumption) ?_
        rotate_left
        · (intro w' hSw; (try dsimp only at hSw); go_simp; first | done | with_reducible rfl)
        simp only [Act.put, List.setIfInBounds_toArray, List.set_cons_zero, List.set_cons_succ]
        refine rg_take (v := ?_) 3 rfl (by kernel_rfl) (by kernel_rfl) (by kernel_rfl) (fun _ _ _ h => h) (by kernel_rfl) ?_ (by assumption) ?_
        rotate_left
        · (intro w' hSw; (try dsimp only at hSw); go_simp; first | done | with_reducible rfl)
        simp only [Act.put, List.setIfInBounds_toArray, List.set_cons_zero, List.set_cons_succ]
        refine rg_take (v := ?_) 4 rfl (by kernel_rfl) (by kernel_rfl) (by kernel_rfl) (fun _ _ _ h => h) (by kernel_rfl) ?_ (by assumption) ?_
        rotate_left
        · (intro w' hSw; (try dsimp only at hSw); go_simp; first | done | with_reducible rfl)
        simp only [Act.put, List.setIfInBounds_toArray, List.set_cons_zero, List.set_cons_succ]
        refine rg_take (v := ?_) 5 rfl (by kernel_rfl) (by kernel_rfl) (by kernel_rfl) (fun _ _ _ h => h) (by kernel_rfl) ?_ (by assumption) ?_
        rotate_left
        · (intro w' hSw; (try dsimp only at hSw); go_simp; first | done | with_reducible rfl)
        simp only [Act.put, List.setIfInBounds_toArray, List.set_cons_zero, List.set_cons_succ]
        refine rg_run 6 rfl (by kernel_rfl) (by kernel_rfl) (fun K hK => ?_)
        go_simp
        refine (c_l17Takes c ab (some ⟨b1, o1, none⟩) cb cs x _ HF.out ((HC.out.below HB2.out).below (Below.refl _ _).drew)).mono ?_
        rintro e w3 ⟨rfl, hb2⟩
        have hbs : Below w2.heap.size w2 w3 := below_chain (Below.refl _ _).drew hb2
        have HA3 := Lib.hid (HA2.out.below hbs)
        have HO3 := Lib.hid (own_below HO2.out hbs)
        have HB3 := Lib.hid (below_chain HB2.out hbs)
        replace g0 := cell_later hbs g0
        replace g1 := cell_later hbs g1
        clear a0 a1 a2 a3 a4 hbs hb2 HA2 HO2 HB2
        obtain ⟨a0, a1, a2, a3, a4⟩ := HA3.out
        go_wp2
        clear hHeld
        refine hK.out _ _ (by exact ⟨⟨a0, a1, a2, a3, a4⟩, g0, g1⟩) (fun hHeld => ?_)
        clear hK K
        try simp only [Act.put, List.setIfInBounds_toArray, List.set_cons_zero, List.set_cons_succ]
        refine rg_take (v := ?_) 7 rfl (by kernel_rfl) (by kernel_rfl) (by kernel_rfl) (fun _ _ _ h => h) (by kernel_rfl) ?_ (by assumption) ?_
        rotate_left
        · (intro w' hSw; (try dsimp only at hSw); go_simp; first | done | with_reducible rfl)
        simp only [Act.put, List.setIfInBounds_toArray, List.set_cons_zero, List.set_cons_succ]
        refine rg_take (v := ?_) 8 rfl (by kernel_rfl) (by kernel_rfl) (by kernel_rfl) (fun _ _ _ h => h) (by kernel_rfl) ?_ (by assumption) ?_
        rotate_left
        · (intro w' hSw; (try dsimp only at hSw); go_simp; first | done | with_reducible rfl)
        simp only [Act.put, List.setIfInBounds_toArray, List.set_cons_zero, List.set_cons_succ]
        refine rg_take (v := ?_) 9 rfl (by kernel_rfl) (by kernel_rfl) (by kernel_rfl) (fun _ _ _ h => h) (by kernel_rfl) ?_ (by assumption) ?_
        rotate_left
        · (intro w' hSw; (try dsimp only at hSw); go_simp; first | done | with_reducible rfl)
        simp only [Act.put, List.setIfInBounds_toArray, List.set_cons_zero, List.set_cons_succ]
        refine rg_take (v := ?_) 10 rfl (by kernel_rfl) (by kernel_rfl) (by kernel_rfl) (fun _ _ _ h => h) (by kernel_rfl) ?_ (by assumption) ?_
        rotate_left
        · (intro w' hSw; (try dsimp only at hSw); go_simp; first | done | with_reducible rfl)
        simp only [Act.put, List.setIfInBounds_toArray, List.set_cons_zero, List.set_cons_succ]
        refine rg_take (v := ?_) 11 rfl (by kernel_rfl) (by kernel_rfl) (by kernel_rfl) (fun _ _ _ h => h) (by kernel_rfl) ?_ (by assumption) ?_
        rotate_left
        · (intro w' hSw; (try dsimp only at hSw); go_simp; first | done | with_reducible rfl)
        simp only [Act.put, List.setIfInBounds_toArray, List.set_cons_zero, List.set_cons_succ]
        refine wpAnyH_done (by kernel_rfl) ?_ _
        clear hHeld
        have ht := tak_bd c x
        have hg := giv_bd x
        generalize takI c x = T at *
        generalize givI x = G at *
        clear a0 a1 a2 a3 a4 g0 g1
        by_cases h1 : n < T
        · have HV : Hid (hgtB c = false) := Lib.hid (by unfold hgtB; rw [hh.out, HX.out, if_neg (by omega)]; simp)
          go_wp2_with (fail)
          refine bodyPost_ret (v := .tuple #[.slice none 0 0, .bool false]) (by simp [results, Tryd.results34, go_sem]) rfl (by rw [HV.out]; exact ⟨_, _, _, rfl, HB3.out⟩)
        by_cases h2 : 40 < n - T + G
        · have HV : Hid (hgtB c = false) := Lib.hid (by unfold hgtB; rw [hh.out, HX.out, if_neg (by omega)]; simp)
          go_wp2_with (fail)
          refine bodyPost_ret (v := .tuple #[.slice none 0 0, .bool false]) (by simp [results, Tryd.results34, go_sem]) rfl (by rw [HV.out]; exact ⟨_, _, _, rfl, HB3.out⟩)
        have HH := Lib.hid (hh.out.trans (HX.out.trans (if_pos ⟨trivial, by omega, by omega⟩)))
        have hsz3 := World.block_lt_of_cell? _ _ HA3.out.1
        dsimp only at hsz3
        clear HX hh
        go_wp2_with (first
          | (at_builtin
             refine wpList_push_int _ rfl (.tmp 51) (.tmp 53) rfl (w.heap.size + 1) _ k zs (n - T + G) w3.heap.size 1 rfl (own_below HO3.out (below_alloc (Below.refl _ _) _)) rfl (by go_simp) (by omega) (by simp; omega) ?_
             intro v7 w7 hown hgrow _ _
             obtain ⟨A9, c9, rfl⟩ := own_shape hown
             have HA7 := Lib.hid ((HA3.out.below (below_alloc (Below.refl _ _) (.cells #[.int .i64 (n - T + G)] 2))).mark hgrow (fun q hq => by have := (HO3.out.lt q hq).1; omega))
             have HB7 := Lib.hid (below_of_grown (below_chain HB3.out (below_alloc (Below.refl _ _) (.cells #[.int .i64 (n - T + G)] 2))) hgrow (fun q hq => by have := (HO3.out.lt q hq).1; omega))
             have HO7 := Lib.hid hown
             clear hown hgrow HA3 HB3 HO3)
          )
        go_roundw
        case rel => exact ⟨k + 1, n - T + G, A9, c9, _, by omega, by go_num, rfl, by omega, by omega, rfl, HH, HO7, HB7, HA7⟩
        case measure => simp [intOf]; omega
    · obtain rfl : k = c.ss.length := by omega
      have HV : Hid ((n == 0) = hgtB c) := Lib.hid (by
        unfold hgtB
        rw [hh.out, List.drop_length]
        show (n == 0) = decide (some n = some 0)
        by_cases h0 : n = 0
        · subst h0; rfl
        · simp [h0])
      obtain ⟨a0, a1, a2, a3, a4⟩ := ha.out
      go_wp2_with (fail)
      refine bodyPost_ret (v := .tuple #[.slice A3 c.ss.length c3, .bool (n == 0)]) (by simp [results, Tryd.results34, go_sem]) rfl (by rw [← HV.out]; exact ⟨_, _, _, rfl, hb.out⟩)
end Go.Proofs.YtdkclhbonmpcbaaDoor
