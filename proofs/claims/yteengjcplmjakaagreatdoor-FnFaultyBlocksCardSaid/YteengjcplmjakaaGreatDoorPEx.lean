/- Expressions on both sides, exactly (printed by PEx.py). Condition: the names' lengths; the keywords lie there. -/
import Derived.Test.YteengjcplmjakaaGreatDoorPTm
namespace Go.Proofs.YteengjcplmjakaaGreatDoor
open Go.RowKit

theorem wpList_push_int (w : World) {ops : Array Oper} {rest : List Oper} {o : Oper} {a : Act} {Q : Exit → Act → World → Prop} (hgd : o.guard = none) (s x : Operand)
    (ho : o.op = .call { callee := .builtin .append, args := #[s, x], argTypes := #[29, 29] })
    (base : Nat) (v : Value) (n : Nat) (zs : List Int) (z : Int) (g c : Nat) (hs : a.eval s = v) (hown : w.ownsRow base 2 1 v n (ints zs))
    (hx : a.eval x = .slice (some ⟨g, 0, none⟩) 1 c) (hc : w.cell? ⟨g, 0, none⟩ = some (.int .i64 z)) (hn : n ≤ 1099511627776) (hbase : base ≤ w.heap.size)
    (h : ∀ v' w', w'.ownsRow base 2 1 v' (n + 1) (ints (zs ++ [z])) → w.grownBy w' v.ownBlock → (∀ g, v.ownBlock = some g → ∀ j, j < n * 1 → w'.cell? ⟨g, j, none⟩ = w.cell? ⟨g, j, none⟩) → (v'.ownBlock = v.ownBlock ∨ v'.ownBlock = some w.heap.size) → wpList Tryz.prog ops Q rest (a.put o.dst v') w') : wpList Tryz.prog ops Q (o :: rest) a w := by
  obtain ⟨i0, hi, hz0, hz1, hz2⟩ := info_parts info_int64
  refine wpList_push w hgd s x 29 ho base 2 i0 (.int .i64 0) 1 8 Tryz.underlying29 hi hz0 hz1 hz2 rfl (by decide) v n (ints zs) hs hown ⟨g, 0, none⟩ c [.int .i64 z] hx rfl ?_ ?_ (by unfold maxLen; omega) (by omega) hbase ?_
  · intro j u hu
    match j, hu with
    | 0, hu =>
      simp only [List.getElem?_cons_zero, Option.some.injEq] at hu
      rw [← hu]
      simpa [Addr.add] using hc
  · intro u hu
    simp only [List.mem_singleton] at hu
    subst hu; rfl
  · intro v' w' h1 h2 h3 h4
    exact h v' w' (by simpa [ints] using h1) h2 h3 h4

theorem own_shape {w : World} {base : Nat} {e : TypeId} {size n : Nat} {v : Value} {xs : List Value} (h : w.ownsRow base e size v n xs) : ∃ A c, v = .slice A n c := by
  rcases h.2 with ⟨h1, h2⟩ | ⟨g, cap, cur, hv, _⟩
  · exact ⟨none, 0, by rw [h1, h2]⟩
  · exact ⟨_, _, hv⟩
set_option maxRecDepth 100000 in
theorem c_arguments (k : Int) (w : World) : Calls Tryz.prog 120 #[.int .i64 k] w fun e w' => e = .returned (.int .i64 (argI k)) ∧ w = w' := by
  by_cases h1 : k = 1
  · subst h1
    go_enter Tryz.func120, Tryz.ntmps120
    go_wp2_with (fail)
    go_ret
    exact ⟨rfl, rfl⟩
  by_cases h2 : k = 2
  · subst h2
    go_enter Tryz.func120, Tryz.ntmps120
    go_wp2_with (fail)
    go_ret
    exact ⟨rfl, rfl⟩
  by_cases h3 : k = 3
  · subst h3
    go_enter Tryz.func120, Tryz.ntmps120
    go_wp2_with (fail)
    go_ret
    exact ⟨rfl, rfl⟩
  by_cases h4 : k = 4
  · subst h4
    go_enter Tryz.func120, Tryz.ntmps120
    go_wp2_with (fail)
    go_ret
    exact ⟨rfl, rfl⟩
  by_cases h7 : k = 7
  · subst h7
    go_enter Tryz.func120, Tryz.ntmps120
    go_wp2_with (fail)
    go_ret
    exact ⟨rfl, rfl⟩
  by_cases h8 : k = 8
  · subst h8
    go_enter Tryz.func120, Tryz.ntmps120
    go_wp2_with (fail)
    go_ret
    exact ⟨rfl, rfl⟩
  by_cases h9 : k = 9
  · subst h9
    go_enter Tryz.func120, Tryz.ntmps120
    go_wp2_with (fail)
    go_ret
    exact ⟨rfl, rfl⟩
  have e1 : (k == 1) = false := by simpa using h1
  have e2 : (k == 2) = false := by simpa using h2
  have e3 : (k == 3) = false := by simpa using h3
  have e4 : (k == 4) = false := by simpa using h4
  have e7 : (k == 7) = false := by simpa using h7
  have e8 : (k == 8) = false := by simpa using h8
  have e9 : (k == 9) = false := by simpa using h9
  have HE : Hid (argI k = 2) := Lib.hid (by unfold argI; rw [if_neg (by omega), if_neg (by omega)])
  rw [HE.out]
  clear h1 h2 h3 h4 h7 h8 h9
  go_enter Tryz.func120, Tryz.ntmps120
  go_wp2_with (fail)
  go_ret
  exact ⟨rfl, rfl⟩
def runH : List Tm → Int → Option Int
  | [], n => some n
  | t :: l, n => if trmT t.k t.nm t.n = true ∧ argI t.k ≤ n then runH l (n - argI t.k + 1) else none
/-- An expression list of any length. -/
def exF (l : List Tm) : Bool := match runH l 0 with | some n => decide (n = 1) | none => false
def exB (l : List Tm) : Bool := exF l && decide (l.length ≤ 40)
theorem run_drop {l : List Tm} {k : Nat} {x : Tm} (hx : l[k]? = some x) (n : Int) : runH (l.drop k) n = if trmT x.k x.nm x.n = true ∧ argI x.k ≤ n then runH (l.drop (k + 1)) (n - argI x.k + 1) else none := by
  obtain ⟨hk, e⟩ := List.getElem?_eq_some_iff.1 hx
  rw [List.drop_eq_getElem_cons hk, e]
  rfl
theorem arg_bd (k : Int) : 0 ≤ argI k ∧ argI k ≤ 2 := by
  unfold argI
  split
  · omega
  · split <;> omega
theorem ex_none {l : List Tm} (h : runH l 0 = none) : exF l = false := by unfold exF; rw [h]
theorem ex_some {l : List Tm} {n : Int} (h : runH l 0 = some n) : exF l = decide (n = 1) := by unfold exF; rw [h]
def HtP (b : Bool) (w : World) (e : Ending) (w' : World) : Prop := ∃ A n cc, e = .returned (.tuple #[.slice A n cc, .bool b]) ∧ Below w.heap.size w w'
set_option maxHeartbeats 1000000 in
set_option maxRecDepth 100000 in
theorem c_l13Heights (A : Option Addr) (c n : Nat) (l : List Tm) (w : World) (hn : n = l.length) (hs : n ≤ 1048576) (hok : ∀ t ∈ l, t.nm.size ≤ 1048576) (hr : Rd w A (tmCells l)) :
    Calls Tryz.prog 176 #[.slice A n c] w (HtP (exB l) w) := by
  have HN := Lib.hid hn
  have HR := Lib.hid hr
  have HOK := Lib.hid (fun (t : Tm) (ht : t ∈ l) w => c_l13Term t.k t.nm t.n w (hok t ht))
  have HTK := Lib.hid (fun k w => c_l13Takes k w)
  have HV : Hid (exB l = (exF l && decide (n ≤ 40))) := Lib.hid (by unfold exB; rw [hn])
  have HB0 := Lib.hid (below_alloc (Below.refl w.heap.size w) (.cells #[] 2))
  have HO : Hid ((w.alloc (.cells #[] 2)).ownsRow w.heap.size 2 1 (.slice (some ⟨w.heap.size, 0, none⟩) 0 0) 0 (ints [])) := Lib.hid (by
    have h := World.ownsRow_lit (e := 2) (size := 1) (base := w.heap.size) w #[] 0 (by simp) (by decide) (by simp)
    simpa [ints] using h)
  generalize exB l = R at *
  clear hn hr hok
  go_enter Tryz.func176, Tryz.ntmps176
  go_wp2_with (fail)
  generalize w.alloc (.cells #[] 2) = W at *
  go_loopw [4, 5, 6] (fun o u i wr => ∃ (k : Nat) (m : Int) (A3 : Option Addr) (c3 : Nat) (zs : List Int), k ≤ n ∧ i = .int .i64 k ∧ u = .int .i64 m ∧ 0 ≤ m ∧ m ≤ k ∧ o = .slice A3 k c3 ∧ Hid (runH l 0 = runH (l.drop k) m) ∧ Hid (wr.ownsRow w.heap.size 2 1 (.slice A3 k c3) k (ints zs)) ∧ Hid (Below w.heap.size w wr)) (fun _ _ i _ => n - (intOf i).toNat)
  case atStart => exact ⟨0, 0, _, _, [], Nat.zero_le _, rfl, rfl, by omega, by omega, rfl, Lib.hid rfl, HO, HB0⟩
  case round =>
    obtain ⟨k, m, A3, c3, zs, hk, rfl, rfl, hm0, hm1, rfl, hh, ho, hb⟩ := hrel
    clear HO HB0
    by_cases hlt : k < n
    · obtain ⟨⟨tk, tn, tx⟩, hx⟩ : ∃ x, l[k]? = some x := ⟨_, List.getElem?_eq_getElem (by have := HN.out; omega)⟩
      have HX := Lib.hid (run_drop hx m)
      have HTM := Lib.hid (HOK.out _ (List.mem_of_getElem? hx))
      obtain ⟨b1, o1, rfl, _, g0, g1, g2⟩ := (HR.out.below hb.out).tm hx
      have hk0 : (0 : Int) ≤ (k : Int) := by omega
      have hk1 : (k : Int) < n := by omega
      have ha := arg_bd tk
      dsimp only at HX HTM g0 g1 g2
      have HTA := Lib.hid (HTK.out tk)
      generalize argI tk = T at *
      generalize trmT tk tn tx = q at *
      clear hx
      go_wp2_with (fail)
      refine (HTM.out _).mono ?_
      rintro e w2 ⟨rfl, hb2⟩
      have HB2 := Lib.hid (below_chain hb.out hb2)
      have HO2 := Lib.hid (own_below ho.out hb2)
      replace g0 := cell_later hb2 g0
      clear hb2 g1 g2
      cases q
      · have HF := Lib.hid (ex_none (hh.out.trans (HX.out.trans (if_neg (by simp)))))
        obtain rfl : R = false := by rw [HV.out, HF.out]; rfl
        go_wp2_with (fail)
        refine bodyPost_ret (v := .tuple #[.slice none 0 0, .bool false]) (by simp [results, Tryz.results176, go_sem]) rfl ⟨_, _, _, rfl, HB2.out⟩
      · go_wp2_with (fail)
        refine (HTA.out _).mono ?_
        rintro e w3 ⟨rfl, rfl⟩
        by_cases h1 : m < T
        · have HF := Lib.hid (ex_none (hh.out.trans (HX.out.trans (if_neg (by omega)))))
          obtain rfl : R = false := by rw [HV.out, HF.out]; rfl
          go_wp2_with (fail)
          refine bodyPost_ret (v := .tuple #[.slice none 0 0, .bool false]) (by simp [results, Tryz.results176, go_sem]) rfl ⟨_, _, _, rfl, HB2.out⟩
        · have HH := Lib.hid (hh.out.trans (HX.out.trans (if_pos ⟨trivial, by omega⟩)))
          have hw1 : IntKind.i64.wrap (m - T) = m - T := IntWalk.i64_in _ (by omega)
          have hw2 : IntKind.i64.wrap (m - T + 1) = m - T + 1 := IntWalk.i64_in _ (by omega)
          clear HX
          go_wp2_with (fail)
          refine (HTA.out _).mono ?_
          rintro e w3 ⟨rfl, rfl⟩
          have hsz := World.block_lt_of_cell? _ _ g0
          dsimp only at hsz
          go_wp2_with (first
            | (at_builtin
               refine wpList_push_int _ rfl (.tmp 39) (.tmp 41) rfl w.heap.size _ k zs (m - T + 1) w2.heap.size 1 rfl (own_below HO2.out (below_alloc (Below.refl _ _) _)) rfl (by go_simp) (by omega) (by have := HB2.out.size; simp; omega) ?_
               intro v7 w7 hown hgrow _ _
               obtain ⟨A9, c9, rfl⟩ := own_shape hown
               have HB7 := Lib.hid (below_of_grown (below_chain HB2.out (below_alloc (Below.refl _ _) (.cells #[.int .i64 (m - T + 1)] 2))) hgrow (fun q hq => by have := (HO2.out.lt q hq).1; omega))
               have HO7 := Lib.hid hown
               clear hown hgrow HB2 HO2)
            )
          go_roundw
          case rel => exact ⟨k + 1, m - T + 1, A9, c9, _, by omega, by go_num, rfl, by omega, by omega, rfl, HH, HO7, HB7⟩
          case measure => simp [intOf]; omega
    · obtain rfl : k = n := by omega
      have HE : Hid (exF l = decide (m = 1)) := Lib.hid (ex_some (by rw [hh.out, HN.out, List.drop_length]; rfl))
      by_cases h1 : m = 1
      · subst h1
        have HVV : Hid (R = decide (k ≤ 40)) := Lib.hid (by rw [HV.out, HE.out]; simp)
        by_cases h2 : k ≤ 40
        · obtain rfl : R = true := by rw [HVV.out]; simpa using h2
          have h3 : (k : Int) ≤ 40 := by omega
          go_wp2_with (fail)
          refine bodyPost_ret (v := .tuple #[.slice A3 k c3, .bool true]) (by simp [results, Tryz.results176, go_sem]) rfl ⟨_, _, _, rfl, hb.out⟩
        · obtain rfl : R = false := by rw [HVV.out]; simpa using h2
          have h3 : ¬ (k : Int) ≤ 40 := by omega
          go_wp2_with (fail)
          refine bodyPost_ret (v := .tuple #[.slice A3 k c3, .bool false]) (by simp [results, Tryz.results176, go_sem]) rfl ⟨_, _, _, rfl, hb.out⟩
      · have hmb : (m == 1) = false := by simpa using h1
        obtain rfl : R = false := by rw [HV.out, HE.out, decide_eq_false h1]; rfl
        go_wp2_with (fail)
        refine bodyPost_ret (v := .tuple #[.slice A3 k c3, .bool false]) (by simp [results, Tryz.results176, go_sem]) rfl ⟨_, _, _, rfl, hb.out⟩
set_option maxRecDepth 100000 in
theorem c_sIsExpression (A : Option Addr) (c n : Nat) (l : List Tm) (w : World) (hn : n = l.length) (hs : n ≤ 1048576) (hok : ∀ t ∈ l, t.nm.size ≤ 1048576) (hr : Rd w A (tmCells l)) :
    Calls Tryz.prog 142 #[.slice A n c] w fun e w' => e = .returned (.bool (exB l)) ∧ Below w.heap.size w w' := by
  have H := Lib.hid (c_l13Heights A c n l w hn hs hok hr)
  generalize exB l = R at *
  clear hr hn hok
  go_enter Tryz.func142, Tryz.ntmps142
  go_wp2_with (fail)
  refine H.out.mono ?_
  rintro e w2 ⟨A2, n2, c2, rfl, hb⟩
  have HB := Lib.hid hb
  clear hb
  go_wp2_with (fail)
  go_ret
  exact ⟨rfl, HB.out⟩
/-- What height hands back. -/
def HgP (b : Bool) (w : World) (e : Ending) (w' : World) : Prop := ∃ z : Int, e = .returned (.tuple #[.int .i64 z, .bool b]) ∧ Below w.heap.size w w'
set_option maxHeartbeats 1000000 in
set_option maxRecDepth 100000 in
theorem c_height (A : Option Addr) (c n : Nat) (l : List Tm) (w : World) (hn : n = l.length) (hs : n ≤ 1048576) (hok : ∀ t ∈ l, t.nm.size ≤ 1048576) (hr : Rd w A (tmCells l)) (hkw : KwR w) :
    Calls Tryz.prog 186 #[.slice A n c] w (HgP (exF l) w) := by
  have HN := Lib.hid hn
  have HR := Lib.hid hr
  have HKW := Lib.hid hkw
  have HOK := Lib.hid (fun (t : Tm) (ht : t ∈ l) w h => c_isTerm t.k t.nm t.n w (hok t ht) h)
  have HTK := Lib.hid (fun k w => c_arguments k w)
  have HV : Hid (exF l = exF l) := Lib.hid rfl
  generalize hR : exF l = R at *
  have HRR := Lib.hid hR
  clear hn hr hok hkw HV hR
  go_enter Tryz.func186, Tryz.ntmps186
  go_wp2_with (fail)
  go_loopw [4, 5, 7, 10] (fun u v _ i wr => ∃ (k : Nat) (m M : Int), k ≤ n ∧ i = .int .i64 k ∧ u = .int .i64 m ∧ v = .int .i64 M ∧ 0 ≤ m ∧ m ≤ k ∧ Hid (runH l 0 = runH (l.drop k) m) ∧ Hid (Below w.heap.size w wr)) (fun _ _ _ i _ => n - (intOf i).toNat)
  case atStart => exact ⟨0, 0, 0, Nat.zero_le _, rfl, rfl, rfl, by omega, by omega, Lib.hid rfl, Lib.hid (by (repeat (first | exact Below.refl _ _ | assumption | refine below_alloc ?_ _ | refine below_drewN ?_ _ | refine below_set ?_ _ (by simp; try omega) | refine Below.drew ?_)))⟩
  case round =>
    obtain ⟨k, m, M, hk, rfl, rfl, rfl, hm0, hm1, hh, hb⟩ := hrel
    by_cases hlt : k < n
    · obtain ⟨⟨tk, tn, tx⟩, hx⟩ : ∃ x, l[k]? = some x := ⟨_, List.getElem?_eq_getElem (by have := HN.out; omega)⟩
      have HX := Lib.hid (run_drop hx m)
      have HTM := Lib.hid (HOK.out _ (List.mem_of_getElem? hx))
      obtain ⟨b1, o1, rfl, _, g0, g1, g2⟩ := (HR.out.below hb.out).tm hx
      have hk0 : (0 : Int) ≤ (k : Int) := by omega
      have hk1 : (k : Int) < n := by omega
      have ha := arg_bd tk
      dsimp only at HX HTM g0 g1 g2
      have HTA := Lib.hid (HTK.out tk)
      generalize argI tk = T at *
      generalize trmT tk tn tx = q at *
      clear hx
      have HBA := Lib.hid (below_alloc (Below.refl wr.heap.size wr) (.cells #[.int .i64 tk, .string tn, .int .i64 tx] 60))
      go_wp2_with (fail)
      refine (HTM.out _ (HKW.out.below (below_chain hb.out HBA.out))).mono ?_
      rintro e w2 ⟨rfl, hb2⟩
      have HB2 := Lib.hid (below_chain (below_chain hb.out HBA.out) hb2)
      have b0 : w2.cell? ⟨wr.heap.size, 0, none⟩ = some (.int .i64 tk) := cell_later hb2 (by go_simp)
      clear hb2 g0 g1 g2
      cases q
      · have HF := Lib.hid (ex_none (hh.out.trans (HX.out.trans (if_neg (by simp)))))
        obtain rfl : R = false := by rw [← HRR.out, HF.out]
        go_wp2_with (fail)
        refine bodyPost_ret (v := .tuple #[.int .i64 0, .bool false]) (by simp [results, Tryz.results186, go_sem]) rfl ⟨_, rfl, HB2.out⟩
      · go_wp2_with (fail)
        refine (HTA.out _).mono ?_
        rintro e w3 ⟨rfl, rfl⟩
        by_cases h1 : m < T
        · have HF := Lib.hid (ex_none (hh.out.trans (HX.out.trans (if_neg (by omega)))))
          obtain rfl : R = false := by rw [← HRR.out, HF.out]
          go_wp2_with (fail)
          refine bodyPost_ret (v := .tuple #[.int .i64 0, .bool false]) (by simp [results, Tryz.results186, go_sem]) rfl ⟨_, rfl, HB2.out⟩
        · have HH := Lib.hid (hh.out.trans (HX.out.trans (if_pos ⟨trivial, by omega⟩)))
          have hw1 : IntKind.i64.wrap (1 - T) = 1 - T := IntWalk.i64_in _ (by omega)
          have hw2 : IntKind.i64.wrap (m + (1 - T)) = m + (1 - T) := IntWalk.i64_in _ (by omega)
          clear HX
          go_wp2_with (fail)
          refine (HTA.out _).mono ?_
          rintro e w3 ⟨rfl, rfl⟩
          go_wp2_with (fail)
          go_roundw
          case rel => exact ⟨k + 1, m + (1 - T), _, by omega, by go_num, rfl, rfl, by omega, by omega, (by rw [show m + (1 - T) = m - T + 1 by omega]; exact HH), HB2⟩
          case measure => simp [intOf]; omega
    · obtain rfl : k = n := by omega
      have HE : Hid (R = decide (m = 1)) := Lib.hid (by rw [← HRR.out]; exact ex_some (by rw [hh.out, HN.out, List.drop_length]; rfl))
      have HE2 : Hid (R = (m == 1)) := Lib.hid (by rw [HE.out]; by_cases h : m = 1 <;> simp [h])
      go_wp2_with (fail)
      refine bodyPost_ret (v := .tuple #[.int .i64 M, .bool (m == 1)]) (by simp [results, Tryz.results186, go_sem]) rfl ⟨_, by rw [HE2.out], hb.out⟩
set_option maxRecDepth 100000 in
theorem c_IsExpression (A : Option Addr) (c n : Nat) (l : List Tm) (w : World) (hn : n = l.length) (hs : n ≤ 1048576) (hok : ∀ t ∈ l, t.nm.size ≤ 1048576) (hr : Rd w A (tmCells l)) (hkw : KwR w) :
    Calls Tryz.prog 168 #[.slice A n c] w fun e w' => e = .returned (.bool (exB l)) ∧ Below w.heap.size w w' := by
  have H := Lib.hid (c_height A c n l w hn hs hok hr hkw)
  have HV : Hid (exB l = (exF l && decide (n ≤ 40))) := Lib.hid (by unfold exB; rw [hn])
  generalize exB l = E at HV ⊢
  generalize exF l = R at *
  clear hr hn hok hkw
  go_enter Tryz.func168, Tryz.ntmps168
  go_wp2_with (fail)
  refine H.out.mono ?_
  rintro e w2 ⟨z, rfl, hb⟩
  have HB := Lib.hid hb
  clear hb
  cases R
  · obtain rfl : E = false := by rw [HV.out]; rfl
    go_wp2_with (fail)
    go_ret
    exact ⟨rfl, HB.out⟩
  · go_wp2_with (fail)
    go_ret
    exact ⟨ret_bool (by rw [HV.out, Bool.true_and, decide_eq_decide]; omega), HB.out⟩
end Go.Proofs.YteengjcplmjakaaGreatDoor
