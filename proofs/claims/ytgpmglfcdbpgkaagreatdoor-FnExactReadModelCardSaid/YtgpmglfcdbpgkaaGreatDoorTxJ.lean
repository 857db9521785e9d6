/- Lists of words and rules as texts, on the program's side. Condition: the rule is that of a valid model; the table of powers of ten lies there. -/
import Derived.Test.YtgpmglfcdbpgkaaGreatDoorTxI
import Derived.Test.YtgpmglfcdbpgkaaGreatDoorPshM
namespace Go.Proofs.YtgpmglfcdbpgkaaGreatDoor
open Go.RowKit

theorem add_bsT (x y : List UInt8) (h : x.length + y.length ≤ 1000000000) (w : World) : (Op.stringOp .add (bsT x) (bsT y)).run Tryz.prog w = .ok (.string (bsT (x ++ y))) w := by
  have := add_str (bsT x) (bsT y) (by rw [bsT_size, bsT_size]; omega) w
  rw [this, show bsT x ++ bsT y = bsT (x ++ y) from by rw [bsT_of (app_list (bsT x) (bsT y)), bsT_list, bsT_list]]
theorem wp_push_str (w : World) {o : Oper} {a : Act} {K : Act → World → Prop} {Q : Exit → Act → World → Prop} (s x : Operand)
    (ho : o.op = .call { callee := .builtin .append, args := #[s, x], argTypes := #[48, 48] })
    (base : Nat) (v : Value) (n : Nat) (ws : List (List UInt8)) (L : List UInt8) (g c : Nat) (hs : a.eval s = v) (hown : w.ownsRow base 9 1 v n (strs ws))
    (hx : a.eval x = .slice (some ⟨g, 0, none⟩) 1 c) (h0 : w.cell? ⟨g, 0, none⟩ = some (.string (bsT L))) (hn : n ≤ 1000000000) (hbase : base ≤ w.heap.size)
    (h : ∀ v' w', w'.ownsRow base 9 1 v' (n + 1) (strs (ws ++ [L])) → w.grownBy w' v.ownBlock → (v'.ownBlock = v.ownBlock ∨ v'.ownBlock = some w.heap.size) → K (a.put o.dst v') w') : o.wp Tryz.prog a w K Q := by
  obtain ⟨i0, hi, hz0, hz1, hz2⟩ := info_parts info_string
  refine wp_push w s x 48 ho base 9 i0 (.string ⟨#[]⟩) 1 16 Tryz.underlying48 hi hz0 hz1 hz2 rfl (by decide) v n (strs ws) hs hown ⟨g, 0, none⟩ c [.string (bsT L)] hx rfl ?_ ?_ (by unfold maxLen; omega) (by omega) hbase ?_
  · intro j u hu
    match j, hu with
    | 0, hu =>
      simp only [List.getElem?_cons_zero, Option.some.injEq] at hu
      rw [← hu]
      simpa [Addr.add] using h0
  · intro u hu
    simp only [List.mem_singleton] at hu
    subst hu; rfl
  · intro v' w' h1 h2 _ h4
    exact h v' w' (by simpa [strs] using h1) h2 h4
set_option maxRecDepth 100000 in
theorem c_listText (A : Option Addr) (c n base : Nat) (ws : List (List UInt8)) (w : World) (hn : n = ws.length) (hs : n ≤ 1000) (hl : ∀ x ∈ ws, x.length ≤ 1000) (ho : w.ownsRow base 9 1 (.slice A n c) n (strs ws)) :
    Calls Tryz.prog 102 #[.slice A n c] w fun e w' => e = .returned (.string (bsT (txList ws))) ∧ Below w.heap.size w w' := by
  by_cases h0 : n = 0
  · have hw0 : ws = [] := List.eq_nil_of_length_eq_zero (by omega)
    subst hw0
    have h0n : ((n : Int) == 0) = true := by simp [h0]
    clear h0 hn
    have HV : Hid (bsT (txList []) = ⟨#[45]⟩) := Lib.hid rfl
    rw [HV.out]
    go_enter Tryz.func102, Tryz.ntmps102
    go_wp2_with (fail)
    go_ret
    exact ⟨rfl, Below.refl _ _⟩
  · have hw0 : ws ≠ [] := by intro e; rw [e] at hn; exact h0 hn
    obtain ⟨g, hA⟩ : ∃ g, A = some ⟨g, 0, none⟩ := by
      rcases ho.2 with ⟨_, h⟩ | ⟨g, cap, cur, hv, _⟩
      · exact absurd h h0
      · injection hv with h1
        exact ⟨g, h1⟩
    subst hA
    have hcap := (own_cap ho).1
    have HJ := Lib.hid (join_call g 0 c ws [38] w (fun j x hx => by
      have hc := ho.cells (g := g) rfl j (.string (bsT x)) (by unfold strs; rw [List.getElem?_map, hx]; rfl)
      have hadd : (⟨g, 0, none⟩ : Addr).add j = ⟨g, 0 + j, none⟩ := by unfold Addr.add; split <;> simp_all
      rw [hadd] at hc
      exact hc) (ho.lt _ rfl).2 (by rw [← hn]; omega) (by rw [← hn]; exact hcap) hl (by simp))
    rw [← hn] at HJ
    have HV : Hid (txList ws = Lib.join ws [38]) := Lib.hid (by unfold txList; rw [if_neg hw0])
    have h0n : ((n : Int) == 0) = false := by simpa using h0
    have h0p : 0 < n := by omega
    clear hw0 ho hn hl hcap h0
    go_enter Tryz.func102, Tryz.ntmps102
    go_wp2_with (fail)
    refine HJ.out.mono ?_
    rintro e w2 ⟨rfl, hb2⟩
    have HB2 := Lib.hid hb2
    clear hb2
    go_wp2_with (fail)
    go_ret
    exact ⟨by rw [HV.out]; rfl, HB2.out⟩
theorem cell_markT {w w' : World} {row : Option Nat} {a : Addr} {v : Value} (h : w.cell? a = some v) (hg : w.grownBy w' row) (hne : ∀ q, row = some q → q ≠ a.block) : w'.cell? a = some v :=
  (hg.cell_far a (World.block_lt_of_cell? w a h) (fun h' => hne _ h'.symm rfl)).trans h
/-- A rule in its box. -/
def RB (w : World) (b : Nat) (nm : ByteArray) (ag ae : Option Addr) (gn en cg ce : Nat) : Prop := w.cell? ⟨b, 0, none⟩ = some (.string nm) ∧ w.cell? ⟨b, 1, none⟩ = some (.slice ag gn cg) ∧ w.cell? ⟨b, 2, none⟩ = some (.slice ae en ce)
theorem RB.below {w w' : World} {b : Nat} {nm : ByteArray} {ag ae : Option Addr} {gn en cg ce : Nat} (h : RB w b nm ag ae gn en cg ce) (hb : Below w.heap.size w w') : RB w' b nm ag ae gn en cg ce := ⟨cell_later hb h.1, cell_later hb h.2.1, cell_later hb h.2.2⟩
theorem RB.mark {w w' : World} {b : Nat} {nm : ByteArray} {ag ae : Option Addr} {gn en cg ce : Nat} {row : Option Nat} (h : RB w b nm ag ae gn en cg ce) (hg : w.grownBy w' row) (hne : ∀ q, row = some q → q ≠ b) : RB w' b nm ag ae gn en cg ce := ⟨cell_markT h.1 hg hne, cell_markT h.2.1 hg hne, cell_markT h.2.2 hg hne⟩
theorem take_snoc {α : Type} {f : α → List UInt8} {l : List α} {k : Nat} {z : α} (hz : l[k]? = some z) : (l.take (k + 1)).map f = (l.take k).map f ++ [f z] := by
  rw [List.take_add_one, hz]
  simp
set_option maxHeartbeats 4000000 in
set_option maxRecDepth 100000 in
theorem c_ruleText (r : Rul) (ag ae : Option Addr) (cg ce : Nat) (w : World) (hR : RulS r) (hnl : r.nm.size ≤ 16) (hgl : r.gs.length ≤ 24) (hel : r.es.length ≤ 4) (hg : Rd w ag (tstCells r.gs)) (he : Rd w ae (asgCells r.es)) (hP : Pw w) :
    Calls Tryz.prog 74 #[.agg #[.string r.nm, .slice ag r.gs.length cg, .slice ae r.es.length ce]] w fun e w' => e = .returned (.string (bsT (txRule r))) ∧ Below w.heap.size w w' := by
  have HR := Lib.hid hR
  have HG := Lib.hid hg
  have HE := Lib.hid he
  have HP := Lib.hid hP
  have HAB : Hid (Below w.heap.size w (w.alloc (.cells #[.string r.nm, .slice ag r.gs.length cg, .slice ae r.es.length ce] 45))) := Lib.hid (below_alloc (Below.refl _ _) _)
  have HA : Hid (RB (w.alloc (.cells #[.string r.nm, .slice ag r.gs.length cg, .slice ae r.es.length ce] 45)) w.heap.size r.nm ag ae r.gs.length r.es.length cg ce) := Lib.hid ⟨by go_simp, by go_simp, by go_simp⟩
  clear hR hg he hP
  go_enter Tryz.func74, Tryz.ntmps74
  go_upto_region 1 with (fail)
  have hsz0 : (w.alloc (.cells #[.string r.nm, .slice ag r.gs.length cg, .slice ae r.es.length ce] 45)).heap.size = w.heap.size + 1 := by simp
  generalize w.alloc (.cells #[.string r.nm, .slice ag r.gs.length cg, .slice ae r.es.length ce] 45) = W at *
  obtain ⟨a0, a1, a2⟩ := HA.out
  go_wp2_with (fail)
  clear a0 a1 a2
  go_loopw [3, 6, 7, 13] (fun v _ _ i wr => ∃ (k : Nat) (A3 : Option Addr) (c3 : Nat), k ≤ r.gs.length ∧ i = .int .i64 k ∧ v = .slice A3 k c3 ∧ Hid (wr.ownsRow (w.heap.size + 1) 9 1 (.slice A3 k c3) k (strs ((r.gs.take k).map txTest))) ∧ Hid (Below w.heap.size w wr) ∧ Hid (w.heap.size + 1 ≤ wr.heap.size) ∧ Hid (RB wr w.heap.size r.nm ag ae r.gs.length r.es.length cg ce)) (fun _ _ _ i _ => r.gs.length - (intOf i).toNat)
  case atStart => exact ⟨0, none, 0, Nat.zero_le _, rfl, rfl, Lib.hid (World.ownsRow_nil _ _ _ _), HAB, Lib.hid (by omega), HA⟩
  case round =>
    obtain ⟨k, A3, c3, hk, rfl, rfl, HO, HB, HSZ, HM⟩ := hrel
    clear HAB HA
    by_cases hlt : k < r.gs.length
    · obtain ⟨z, hz⟩ : ∃ z, r.gs[k]? = some z := ⟨_, List.getElem?_eq_getElem hlt⟩
      have HSM := Lib.hid (HR.out.gs z (List.mem_of_getElem? hz))
      have HST := Lib.hid (take_snoc (f := txTest) hz)
      obtain ⟨b, off, rfl, _, g0, g1, g2⟩ := (HG.out.below HB.out).tst hz
      have hl1 := itoa_len HSM.out.1
      have hl2 := itoa_len HSM.out.2
      have hk0 : (0 : Int) ≤ (k : Int) := by omega
      have hk1 : (k : Int) < (r.gs.length : Int) := by omega
      clear hz
      obtain ⟨v, x, q⟩ := z
      dsimp only at g0 g1 g2 hl1 hl2
      have HXa : Hid ((wr.alloc (.cells #[.int .i64 v, .int .i64 x, .bool q] 90)).cell? ⟨wr.heap.size, 0, none⟩ = some (.int .i64 v) ∧ (wr.alloc (.cells #[.int .i64 v, .int .i64 x, .bool q] 90)).cell? ⟨wr.heap.size, 1, none⟩ = some (.int .i64 x) ∧ (wr.alloc (.cells #[.int .i64 v, .int .i64 x, .bool q] 90)).cell? ⟨wr.heap.size, 2, none⟩ = some (.bool q)) := Lib.hid ⟨by go_simp, by go_simp, by go_simp⟩
      have HBa := Lib.hid (below_alloc (Below.refl wr.heap.size wr) (.cells #[.int .i64 v, .int .i64 x, .bool q] 90))
      go_upto_region 5 with (fail)
      generalize wr.alloc (.cells #[.int .i64 v, .int .i64 x, .bool q] 90) = W1 at *
      obtain ⟨x0, x1, x2⟩ := HXa.out
      have HB1 := Lib.hid (below_chain HB.out HBa.out)
      have HO1 := Lib.hid (own_below HO.out HBa.out)
      have HM1 := Lib.hid (HM.out.below HBa.out)
      have HZ1 : Hid (w.heap.size + 1 ≤ W1.heap.size) := Lib.hid (by have := HBa.out.size; have := HSZ.out; omega)
      have HQ : Hid (∀ p, (Value.slice A3 k c3).ownBlock = some p → p < wr.heap.size) := Lib.hid (fun p hp => (HO.out.lt p hp).2)
      generalize wr.heap.size = bx at *
      clear HXa HBa HB HO HM g0 g1 g2 HSZ
      go_upto_if 18 with (fail)
      go_cut [7] from 18 to 18 (fun u wx => u = .string (sgB q) ∧ wx = W1)
      case first =>
        cases q
        · go_wp2_with (fail)
          go_meet
          case rel => exact ⟨rfl, rfl⟩
        · go_wp2_with (fail)
          go_meet
          case rel => exact ⟨rfl, rfl⟩
      case rest =>
        obtain ⟨rfl, hwc⟩ := hcut
        obtain rfl : W1 = wc := hwc.symm
        clear hwc
        obtain ⟨sc, hsc⟩ : ∃ sc : UInt8, sc = if q then 61 else 33 := ⟨_, rfl⟩
        have hsg : sgB q = bsT [sc] := by subst hsc; cases q <;> rfl
        rw [hsg]
        have HTX : Hid (Lib.itoa v ++ [sc] ++ Lib.itoa x = txTest ⟨v, x, q⟩) := Lib.hid (by unfold txTest; subst hsc; simp)
        have had1 := add_bsT (Lib.itoa v) [sc] (by simp; omega)
        have had2 := add_bsT (Lib.itoa v ++ [sc]) (Lib.itoa x) (by simp; omega)
        rw [HTX.out] at had2
        generalize bsT [sc] = sg at *
        clear hsc hsg HTX
        go_wp2_with (fail)
        refine wp_region_held_drew (S := (fun w' => w'.cell? ⟨bx, 0, none⟩ = some (.int .i64 v) ∧ w'.cell? ⟨bx, 1, none⟩ = some (.int .i64 x))) (by kernel_rfl) ?_ (fun hHeld => ?_)
        · exact ⟨x0, x1⟩
        refine rg_take (v := ?_) 0 rfl (by kernel_rfl) (by kernel_rfl) (by kernel_rfl) (fun _ _ _ h => h) (by kernel_rfl) ?_ (by assumption) ?_
        rotate_left
        · (intro w' hSw; (try dsimp only at hSw); go_simp; first | done | with_reducible rfl)
        simp only [Act.put, List.setIfInBounds_toArray, List.set_cons_zero, List.set_cons_succ]
        refine rg_take (v := ?_) 1 rfl (by kernel_rfl) (by kernel_rfl) (by kernel_rfl) (fun _ _ _ h => h) (by kernel_rfl) ?_ (by assumption) ?_
        rotate_left
        · (intro w' hSw; (try dsimp only at hSw); go_simp; first | done | with_reducible rfl)
        simp only [Act.put, List.setIfInBounds_toArray, List.set_cons_zero, List.set_cons_succ]
        refine rg_take (v := ?_) 2 rfl (by kernel_rfl) (by kernel_rfl) (by kernel_rfl) (fun _ _ _ h => h) (by kernel_rfl) ?_ (by assumption) ?_
        rotate_left
        · (intro w' hSw; (try dsimp only at hSw); go_simp; first | done | with_reducible rfl)
        simp only [Act.put, List.setIfInBounds_toArray, List.set_cons_zero, List.set_cons_succ]
        refine rg_take (v := ?_) 4 rfl (by kernel_rfl) (by kernel_rfl) (by kernel_rfl) (fun _ _ _ h => h) (by kernel_rfl) ?_ (by assumption) ?_
        rotate_left
        · (intro w' hSw; (try dsimp only at hSw); go_simp; first | done | with_reducible rfl)
        simp only [Act.put, List.setIfInBounds_toArray, List.set_cons_zero, List.set_cons_succ]
        refine rg_take (v := ?_) 6 rfl (by kernel_rfl) (by kernel_rfl) (by kernel_rfl) (fun _ _ _ h => h) (by kernel_rfl) ?_ (by assumption) ?_
        rotate_left
        · (intro w' hSw; (try dsimp only at hSw); go_simp; first | done | with_reducible rfl)
        simp only [Act.put, List.setIfInBounds_toArray, List.set_cons_zero, List.set_cons_succ]
        refine rg_take (v := ?_) 7 rfl (by kernel_rfl) (by kernel_rfl) (by kernel_rfl) (fun _ _ _ h => h) (by kernel_rfl) ?_ (by assumption) ?_
        rotate_left
        · (intro w' hSw; (try dsimp only at hSw); go_simp; first | done | with_reducible rfl)
        simp only [Act.put, List.setIfInBounds_toArray, List.set_cons_zero, List.set_cons_succ]
        refine rg_run 3 rfl (by kernel_rfl) (by kernel_rfl) (fun K hK => ?_)
        go_simp
        refine (c_decimalS v HSM.out.1 _ (HP.out.below HB1.out.drew)).mono ?_
        rintro e w2 ⟨rfl, hb⟩
        have hbs : Below W1.heap.size W1 w2 := below_chain (Below.refl _ _).drew hb
        have HB2 := Lib.hid (below_chain HB1.out hbs)
        have HO2 := Lib.hid (own_below HO1.out hbs)
        have HM2 := Lib.hid (HM1.out.below hbs)
        have HZ2 : Hid (w.heap.size + 1 ≤ w2.heap.size) := Lib.hid (by have := hbs.size; have := HZ1.out; omega)
        replace x0 := cell_later hb (by exact x0)
        replace x1 := cell_later hb (by exact x1)
        clear hb hbs HB1 HO1 HM1 HZ1
        go_wp2
        clear hHeld
        refine hK.out _ _ (by exact ⟨x0, x1⟩) (fun hHeld => ?_)
        clear hK K
        try simp only [Act.put, List.setIfInBounds_toArray, List.set_cons_zero, List.set_cons_succ]
        refine rg_take (v := ?_) 5 rfl (by kernel_rfl) (by kernel_rfl) (by kernel_rfl) (fun _ _ _ h => h) (by kernel_rfl) ?_ (by assumption) ?_
        rotate_left
        · (intro w' hSw; (try dsimp only at hSw); go_simp; first | done | with_reducible rfl)
        simp only [Act.put, List.setIfInBounds_toArray, List.set_cons_zero, List.set_cons_succ]
        refine rg_run 8 rfl (by kernel_rfl) (by kernel_rfl) (fun K hK => ?_)
        go_simp
        refine (c_decimalS x HSM.out.2 _ (HP.out.below HB2.out)).mono ?_
        rintro e w3 ⟨rfl, hb⟩
        have HB3 := Lib.hid (below_chain HB2.out hb)
        have HO3 := Lib.hid (own_below HO2.out hb)
        have HM3 := Lib.hid (HM2.out.below hb)
        have HZ3 : Hid (w.heap.size + 1 ≤ w3.heap.size) := Lib.hid (by have := hb.size; have := HZ2.out; omega)
        replace x0 := cell_later hb (by exact x0)
        replace x1 := cell_later hb (by exact x1)
        clear hb HB2 HO2 HM2 HZ2
        go_wp2
        clear hHeld
        refine hK.out _ _ (by exact ⟨x0, x1⟩) (fun hHeld => ?_)
        clear hK K
        try simp only [Act.put, List.setIfInBounds_toArray, List.set_cons_zero, List.set_cons_succ]
        refine rg_take (v := ?_) 9 rfl (by kernel_rfl) (by kernel_rfl) (by kernel_rfl) (fun _ _ _ h => h) (by kernel_rfl) ?_ (by assumption) ?_
        rotate_left
        · (intro w' hSw; (try dsimp only at hSw); go_simp; first | done | with_reducible rfl)
        simp only [Act.put, List.setIfInBounds_toArray, List.set_cons_zero, List.set_cons_succ]
        have HA3 := Lib.hid (below_alloc (Below.refl w3.heap.size w3) (.cells #[.string (bsT (txTest ⟨v, x, q⟩))] 9))
        have x0' := cell_later HA3.out x0
        have x1' := cell_later HA3.out x1
        have HC3 : Hid ((w3.alloc (.cells #[.string (bsT (txTest ⟨v, x, q⟩))] 9)).cell? ⟨w3.heap.size, 0, none⟩ = some (.string (bsT (txTest ⟨v, x, q⟩)))) := Lib.hid (by go_simp)
        refine rg_run 10 rfl (by kernel_rfl) (by kernel_rfl) (fun K hK => ?_)
        go_simp
        clear hHeld
        refine hK.out _ _ (by exact ⟨x0', x1'⟩) (fun hHeld => ?_)
        clear hK K
        try simp only [Act.put, List.setIfInBounds_toArray, List.set_cons_zero, List.set_cons_succ]
        have HB4 := Lib.hid (below_chain HB3.out HA3.out)
        have HO4 := Lib.hid (own_below HO3.out HA3.out)
        have HM4 := Lib.hid (HM3.out.below HA3.out)
        have HZ4 : Hid (w.heap.size + 1 ≤ (w3.alloc (.cells #[.string (bsT (txTest ⟨v, x, q⟩))] 9)).heap.size) := Lib.hid (by have := HZ3.out; simp; omega)
        generalize w3.alloc (.cells #[.string (bsT (txTest ⟨v, x, q⟩))] 9) = W4 at *
        generalize w3.heap.size = b4 at *
        clear HB3 HO3 HM3 HZ3 HA3 x0 x1 had1 had2
        refine rg_run 11 rfl (by kernel_rfl) (by kernel_rfl) (fun K hK => ?_)
        refine wp_push_str W4 (.tmp 19) (.tmp 29) rfl (w.heap.size + 1) (.slice A3 k c3) k ((r.gs.take k).map txTest) (txTest ⟨v, x, q⟩) b4 1 rfl HO4.out rfl HC3.out (by omega) HZ4.out ?_
        intro v5 w5 hown hgrow _
        obtain ⟨A9, c9, rfl⟩ := own_shape hown
        have HO5 := Lib.hid hown
        rw [← HST.out] at HO5
        have hne : ∀ p, (Value.slice A3 k c3).ownBlock = some p → w.heap.size + 1 ≤ p := fun p hp => (HO4.out.lt p hp).1
        have HB5 := Lib.hid (below_of_grown HB4.out hgrow (fun p hp => by have := hne p hp; omega))
        have HM5 := Lib.hid (HM4.out.mark hgrow (fun p hp => by have := hne p hp; omega))
        have HZ5 : Hid (w.heap.size + 1 ≤ w5.heap.size) := Lib.hid (Nat.le_trans HZ4.out hgrow.size)
        have y0 := cell_markT x0' hgrow (fun p hp => by have := HQ.out p hp; dsimp only; omega)
        have y1 := cell_markT x1' hgrow (fun p hp => by have := HQ.out p hp; dsimp only; omega)
        clear hne hown hgrow HO4 HB4 HM4 HZ4 HC3 HQ HST x0' x1'
        clear hHeld
        refine hK.out _ _ (by exact ⟨y0, y1⟩) (fun hHeld => ?_)
        clear hK K
        try simp only [Act.put, List.setIfInBounds_toArray, List.set_cons_zero, List.set_cons_succ]
        refine rg_take (v := ?_) 12 rfl (by kernel_rfl) (by kernel_rfl) (by kernel_rfl) (fun _ _ _ h => h) (by kernel_rfl) ?_ (by assumption) ?_
        rotate_left
        · (intro w' hSw; (try dsimp only at hSw); go_simp; first | done | with_reducible rfl)
        simp only [Act.put, List.setIfInBounds_toArray, List.set_cons_zero, List.set_cons_succ]
        refine wpAnyH_done (by kernel_rfl) ?_ _
        clear hHeld
        clear y0 y1
        go_wp2_with (fail)
        go_roundw
        case rel => exact ⟨k + 1, A9, c9, by omega, by go_num, rfl, HO5, HB5, HZ5, HM5⟩
        case measure => simp [intOf]; omega
    · obtain rfl : k = r.gs.length := by omega
      rw [List.take_length] at HO
      have HLT : Hid (∀ x ∈ r.gs.map txTest, x.length ≤ 1000) := Lib.hid (fun x hx => by
        obtain ⟨t, ht, rfl⟩ := List.mem_map.1 hx
        have := test_len (HR.out.gs t ht)
        omega)
      have HLE : Hid (∀ x ∈ r.es.map txAsg, x.length ≤ 1000) := Lib.hid (fun x hx => by
        obtain ⟨t, ht, rfl⟩ := List.mem_map.1 hx
        have := asg_len (HR.out.es t ht)
        omega)
      obtain ⟨a0, a1, a2⟩ := HM.out
      obtain ⟨wt, rfl⟩ : ∃ wt, wt = wr := ⟨_, rfl⟩
      go_wp2_with (fail)
      clear a0 a1 a2
      go_loopw [4, 9, 35] (fun v _ i wr => ∃ (k : Nat) (A3 : Option Addr) (c3 : Nat), k ≤ r.es.length ∧ i = .int .i64 k ∧ v = .slice A3 k c3 ∧ Hid (wr.ownsRow wt.heap.size 9 1 (.slice A3 k c3) k (strs ((r.es.take k).map txAsg))) ∧ Hid (Below wt.heap.size wt wr)) (fun _ _ i _ => r.es.length - (intOf i).toNat)
      case atStart => exact ⟨0, none, 0, Nat.zero_le _, rfl, rfl, Lib.hid (World.ownsRow_nil _ _ _ _), Lib.hid (Below.refl _ _)⟩
      case round =>
        obtain ⟨k, A4, c4, hk, rfl, rfl, HO2, HB2⟩ := hrel
        by_cases hlt : k < r.es.length
        · obtain ⟨z, hz⟩ : ∃ z, r.es[k]? = some z := ⟨_, List.getElem?_eq_getElem hlt⟩
          have HSM := Lib.hid (HR.out.es z (List.mem_of_getElem? hz))
          have HST := Lib.hid (take_snoc (f := txAsg) hz)
          obtain ⟨b, off, rfl, _, g0, g1⟩ := (HE.out.below (below_chain HB.out HB2.out)).asg hz
          have hl1 := itoa_len HSM.out.1
          have hl2 := itoa_len HSM.out.2
          have hk0 : (0 : Int) ≤ (k : Int) := by omega
          have hk1 : (k : Int) < (r.es.length : Int) := by omega
          clear hz
          obtain ⟨v, x⟩ := z
          dsimp only at g0 g1 hl1 hl2
          have HXa : Hid ((wr.alloc (.cells #[.int .i64 v, .int .i64 x] 47)).cell? ⟨wr.heap.size, 0, none⟩ = some (.int .i64 v) ∧ (wr.alloc (.cells #[.int .i64 v, .int .i64 x] 47)).cell? ⟨wr.heap.size, 1, none⟩ = some (.int .i64 x)) := Lib.hid ⟨by go_simp, by go_simp⟩
          have HBa := Lib.hid (below_alloc (Below.refl wr.heap.size wr) (.cells #[.int .i64 v, .int .i64 x] 47))
          go_upto_region 13 with (fail)
          generalize wr.alloc (.cells #[.int .i64 v, .int .i64 x] 47) = W1 at *
          obtain ⟨x0, x1⟩ := HXa.out
          have HB3 := Lib.hid (below_chain HB2.out HBa.out)
          have HO3 := Lib.hid (own_below HO2.out HBa.out)
          have HQ : Hid (∀ p, (Value.slice A4 k c4).ownBlock = some p → p < wr.heap.size) := Lib.hid (fun p hp => (HO2.out.lt p hp).2)
          generalize wr.heap.size = bx at *
          clear HXa HBa HB2 HO2 g0 g1
          have HTX : Hid (Lib.itoa v ++ [58] ++ Lib.itoa x = txAsg ⟨v, x⟩) := Lib.hid (by unfold txAsg; simp)
          have had1 : ∀ w, (Op.stringOp .add (bsT (Lib.itoa v)) ⟨#[58]⟩).run Tryz.prog w = .ok (.string (bsT (Lib.itoa v ++ [58]))) w := add_bsT (Lib.itoa v) [58] (by simp; omega)
          have had2 := add_bsT (Lib.itoa v ++ [58]) (Lib.itoa x) (by simp; omega)
          rw [HTX.out] at had2
          clear HTX
          go_wp2_with (fail)
          refine wp_region_held_drew (S := (fun w' => w'.cell? ⟨bx, 0, none⟩ = some (.int .i64 v) ∧ w'.cell? ⟨bx, 1, none⟩ = some (.int .i64 x))) (by kernel_rfl) ?_ (fun hHeld => ?_)
          · exact ⟨x0, x1⟩
          refine rg_take (v := ?_) 0 rfl (by kernel_rfl) (by kernel_rfl) (by kernel_rfl) (fun _ _ _ h => h) (by kernel_rfl) ?_ (by assumption) ?_
          rotate_left
          · (intro w' hSw; (try dsimp only at hSw); go_simp; first | done | with_reducible rfl)
          simp only [Act.put, List.setIfInBounds_toArray, List.set_cons_zero, List.set_cons_succ]
          refine rg_take (v := ?_) 1 rfl (by kernel_rfl) (by kernel_rfl) (by kernel_rfl) (fun _ _ _ h => h) (by kernel_rfl) ?_ (by assumption) ?_
          rotate_left
          · (intro w' hSw; (try dsimp only at hSw); go_simp; first | done | with_reducible rfl)
          simp only [Act.put, List.setIfInBounds_toArray, List.set_cons_zero, List.set_cons_succ]
          refine rg_take (v := ?_) 2 rfl (by kernel_rfl) (by kernel_rfl) (by kernel_rfl) (fun _ _ _ h => h) (by kernel_rfl) ?_ (by assumption) ?_
          rotate_left
          · (intro w' hSw; (try dsimp only at hSw); go_simp; first | done | with_reducible rfl)
          simp only [Act.put, List.setIfInBounds_toArray, List.set_cons_zero, List.set_cons_succ]
          refine rg_take (v := ?_) 5 rfl (by kernel_rfl) (by kernel_rfl) (by kernel_rfl) (fun _ _ _ h => h) (by kernel_rfl) ?_ (by assumption) ?_
          rotate_left
          · (intro w' hSw; (try dsimp only at hSw); go_simp; first | done | with_reducible rfl)
          simp only [Act.put, List.setIfInBounds_toArray, List.set_cons_zero, List.set_cons_succ]
          refine rg_take (v := ?_) 6 rfl (by kernel_rfl) (by kernel_rfl) (by kernel_rfl) (fun _ _ _ h => h) (by kernel_rfl) ?_ (by assumption) ?_
          rotate_left
          · (intro w' hSw; (try dsimp only at hSw); go_simp; first | done | with_reducible rfl)
          simp only [Act.put, List.setIfInBounds_toArray, List.set_cons_zero, List.set_cons_succ]
          refine rg_run 3 rfl (by kernel_rfl) (by kernel_rfl) (fun K hK => ?_)
          go_simp
          refine (c_decimalS v HSM.out.1 _ (HP.out.below (below_chain HB.out HB3.out.drew))).mono ?_
          rintro e w2 ⟨rfl, hb⟩
          have hbs : Below W1.heap.size W1 w2 := below_chain (Below.refl _ _).drew hb
          have HB4 := Lib.hid (below_chain HB3.out hbs)
          have HO4 := Lib.hid (own_below HO3.out hbs)
          replace x0 := cell_later hb (by exact x0)
          replace x1 := cell_later hb (by exact x1)
          clear hb hbs HB3 HO3
          go_wp2
          clear hHeld
          refine hK.out _ _ (by exact ⟨x0, x1⟩) (fun hHeld => ?_)
          clear hK K
          try simp only [Act.put, List.setIfInBounds_toArray, List.set_cons_zero, List.set_cons_succ]
          refine rg_take (v := ?_) 4 rfl (by kernel_rfl) (by kernel_rfl) (by kernel_rfl) (fun _ _ _ h => h) (by kernel_rfl) ?_ (by assumption) ?_
          rotate_left
          · (intro w' hSw; (try dsimp only at hSw); go_simp; first | done | with_reducible rfl)
          simp only [Act.put, List.setIfInBounds_toArray, List.set_cons_zero, List.set_cons_succ]
          refine rg_run 7 rfl (by kernel_rfl) (by kernel_rfl) (fun K hK => ?_)
          go_simp
          refine (c_decimalS x HSM.out.2 _ (HP.out.below (below_chain HB.out HB4.out))).mono ?_
          rintro e w3 ⟨rfl, hb⟩
          have HB5 := Lib.hid (below_chain HB4.out hb)
          have HO5 := Lib.hid (own_below HO4.out hb)
          replace x0 := cell_later hb (by exact x0)
          replace x1 := cell_later hb (by exact x1)
          clear hb HB4 HO4
          go_wp2
          clear hHeld
          refine hK.out _ _ (by exact ⟨x0, x1⟩) (fun hHeld => ?_)
          clear hK K
          try simp only [Act.put, List.setIfInBounds_toArray, List.set_cons_zero, List.set_cons_succ]
          refine rg_take (v := ?_) 8 rfl (by kernel_rfl) (by kernel_rfl) (by kernel_rfl) (fun _ _ _ h => h) (by kernel_rfl) ?_ (by assumption) ?_
          rotate_left
          · (intro w' hSw; (try dsimp only at hSw); go_simp; first | done | with_reducible rfl)
          simp only [Act.put, List.setIfInBounds_toArray, List.set_cons_zero, List.set_cons_succ]
          have HA3 := Lib.hid (below_alloc (Below.refl w3.heap.size w3) (.cells #[.string (bsT (txAsg ⟨v, x⟩))] 9))
          have x0' := cell_later HA3.out x0
          have x1' := cell_later HA3.out x1
          have HC3 : Hid ((w3.alloc (.cells #[.string (bsT (txAsg ⟨v, x⟩))] 9)).cell? ⟨w3.heap.size, 0, none⟩ = some (.string (bsT (txAsg ⟨v, x⟩)))) := Lib.hid (by go_simp)
          refine rg_run 9 rfl (by kernel_rfl) (by kernel_rfl) (fun K hK => ?_)
          go_simp
          clear hHeld
          refine hK.out _ _ (by exact ⟨x0', x1'⟩) (fun hHeld => ?_)
          clear hK K
          try simp only [Act.put, List.setIfInBounds_toArray, List.set_cons_zero, List.set_cons_succ]
          have HB6 := Lib.hid (below_chain HB5.out HA3.out)
          have HO6 := Lib.hid (own_below HO5.out HA3.out)
          generalize w3.alloc (.cells #[.string (bsT (txAsg ⟨v, x⟩))] 9) = W4 at *
          generalize w3.heap.size = b4 at *
          clear HB5 HO5 HA3 x0 x1 had1 had2
          refine rg_run 10 rfl (by kernel_rfl) (by kernel_rfl) (fun K hK => ?_)
          refine wp_push_str W4 (.tmp 39) (.tmp 48) rfl wt.heap.size (.slice A4 k c4) k ((r.es.take k).map txAsg) (txAsg ⟨v, x⟩) b4 1 rfl HO6.out rfl HC3.out (by omega) HB6.out.size ?_
          intro v5 w5 hown hgrow _
          obtain ⟨A9, c9, rfl⟩ := own_shape hown
          have HO7 := Lib.hid hown
          rw [← HST.out] at HO7
          have hne : ∀ p, (Value.slice A4 k c4).ownBlock = some p → wt.heap.size ≤ p := fun p hp => (HO6.out.lt p hp).1
          have HB7 := Lib.hid (below_of_grown HB6.out hgrow (fun p hp => hne p hp))
          have y0 := cell_markT x0' hgrow (fun p hp => by have := HQ.out p hp; dsimp only; omega)
          have y1 := cell_markT x1' hgrow (fun p hp => by have := HQ.out p hp; dsimp only; omega)
          clear hne hown hgrow HO6 HB6 HC3 HQ HST x0' x1'
          clear hHeld
          refine hK.out _ _ (by exact ⟨y0, y1⟩) (fun hHeld => ?_)
          clear hK K
          try simp only [Act.put, List.setIfInBounds_toArray, List.set_cons_zero, List.set_cons_succ]
          refine rg_take (v := ?_) 11 rfl (by kernel_rfl) (by kernel_rfl) (by kernel_rfl) (fun _ _ _ h => h) (by kernel_rfl) ?_ (by assumption) ?_
          rotate_left
          · (intro w' hSw; (try dsimp only at hSw); go_simp; first | done | with_reducible rfl)
          simp only [Act.put, List.setIfInBounds_toArray, List.set_cons_zero, List.set_cons_succ]
          refine wpAnyH_done (by kernel_rfl) ?_ _
          clear hHeld
          clear y0 y1
          go_wp2_with (fail)
          go_roundw
          case rel => exact ⟨k + 1, A9, c9, by omega, by go_num, rfl, HO7, HB7⟩
          case measure => simp [intOf]; omega
        · obtain rfl : k = r.es.length := by omega
          rw [List.take_length] at HO2
          obtain ⟨a0, a1, a2⟩ := HM.out.below HB2.out
          have hgs1 : (txList (r.gs.map txTest)).length ≤ 145 := by have := tests_len HR.out; omega
          have hes1 : (txList (r.es.map txAsg)).length ≤ 25 := by have := asgs_len HR.out; omega
          have HLG := Lib.hid (fun w' h => c_listText A3 c3 r.gs.length (w.heap.size + 1) (r.gs.map txTest) w' (by simp) (by omega) HLT.out h)
          have HLS := Lib.hid (fun w' h => c_listText A4 c4 r.es.length wt.heap.size (r.es.map txAsg) w' (by simp) (by omega) HLE.out h)
          have hnm : r.nm = bsT r.nm.data.toList := bsT_of rfl
          have hnz : r.nm.data.toList.length ≤ 16 := by rw [← size_list rfl]; exact hnl
          have HTX : Hid (r.nm.data.toList ++ [32] ++ txList (r.gs.map txTest) ++ [32] ++ txList (r.es.map txAsg) = txRule r) := Lib.hid (by unfold txRule; simp)
          have had1 : ∀ w, (Op.stringOp .add (bsT r.nm.data.toList) ⟨#[32]⟩).run Tryz.prog w = .ok (.string (bsT (r.nm.data.toList ++ [32]))) w := add_bsT _ [32] (by simp; omega)
          have had2 := add_bsT (r.nm.data.toList ++ [32]) (txList (r.gs.map txTest)) (by simp; omega)
          have had3 : ∀ w, (Op.stringOp .add (bsT (r.nm.data.toList ++ [32] ++ txList (r.gs.map txTest))) ⟨#[32]⟩).run Tryz.prog w = .ok (.string (bsT (r.nm.data.toList ++ [32] ++ txList (r.gs.map txTest) ++ [32]))) w := add_bsT _ [32] (by simp; omega)
          have had4 := add_bsT (r.nm.data.toList ++ [32] ++ txList (r.gs.map txTest) ++ [32]) (txList (r.es.map txAsg)) (by simp; omega)
          rw [HTX.out] at had4
          rw [hnm] at a0
          generalize r.nm.data.toList ++ [32] ++ txList (r.gs.map txTest) ++ [32] = l3 at had3 had4
          generalize r.nm.data.toList ++ [32] ++ txList (r.gs.map txTest) = l2 at had2 had3
          generalize r.nm.data.toList ++ [32] = l1 at had1 had2
          generalize r.nm.data.toList = nl at *
          generalize txList (r.gs.map txTest) = tg at *
          generalize txList (r.es.map txAsg) = te at *
          clear HTX hnm a1 a2
          go_wp2_with (fail)
          refine wp_region_held_drew (S := (fun w' => w'.cell? ⟨w.heap.size, 0, none⟩ = some (.string (bsT nl)))) (by kernel_rfl) ?_ (fun hHeld => ?_)
          · exact a0
          refine rg_take (v := ?_) 0 rfl (by kernel_rfl) (by kernel_rfl) (by kernel_rfl) (fun _ _ _ h => h) (by kernel_rfl) ?_ (by assumption) ?_
          rotate_left
          · (intro w' hSw; (try dsimp only at hSw); go_simp; first | done | with_reducible rfl)
          simp only [Act.put, List.setIfInBounds_toArray, List.set_cons_zero, List.set_cons_succ]
          refine rg_take (v := ?_) 1 rfl (by kernel_rfl) (by kernel_rfl) (by kernel_rfl) (fun _ _ _ h => h) (by kernel_rfl) ?_ (by assumption) ?_
          rotate_left
          · (intro w' hSw; (try dsimp only at hSw); go_simp; first | done | with_reducible rfl)
          simp only [Act.put, List.setIfInBounds_toArray, List.set_cons_zero, List.set_cons_succ]
          refine rg_take (v := ?_) 2 rfl (by kernel_rfl) (by kernel_rfl) (by kernel_rfl) (fun _ _ _ h => h) (by kernel_rfl) ?_ (by assumption) ?_
          rotate_left
          · (intro w' hSw; (try dsimp only at hSw); go_simp; first | done | with_reducible rfl)
          simp only [Act.put, List.setIfInBounds_toArray, List.set_cons_zero, List.set_cons_succ]
          refine rg_take (v := ?_) 3 rfl (by kernel_rfl) (by kernel_rfl) (by kernel_rfl) (fun _ _ _ h => h) (by kernel_rfl) ?_ (by assumption) ?_
          rotate_left
          · (intro w' hSw; (try dsimp only at hSw); go_simp; first | done | with_reducible rfl)
          simp only [Act.put, List.setIfInBounds_toArray, List.set_cons_zero, List.set_cons_succ]
          refine rg_take (v := ?_) 7 rfl (by kernel_rfl) (by kernel_rfl) (by kernel_rfl) (fun _ _ _ h => h) (by kernel_rfl) ?_ (by assumption) ?_
          rotate_left
          · (intro w' hSw; (try dsimp only at hSw); go_simp; first | done | with_reducible rfl)
          simp only [Act.put, List.setIfInBounds_toArray, List.set_cons_zero, List.set_cons_succ]
          refine rg_run 4 rfl (by kernel_rfl) (by kernel_rfl) (fun K hK => ?_)
          go_simp
          refine (HLG.out _ (own_below HO.out HB2.out).drew).mono ?_
          rintro e w5 ⟨rfl, hb⟩
          have hbs : Below wr.heap.size wr w5 := below_chain (Below.refl _ _).drew hb
          have HB5 := Lib.hid (below_chain HB2.out hbs)
          have HO5 := Lib.hid (own_below HO2.out hbs)
          replace a0 := cell_later hb (by exact a0)
          clear hb hbs HO2
          go_wp2
          clear hHeld
          refine hK.out _ _ (by exact a0) (fun hHeld => ?_)
          clear hK K
          try simp only [Act.put, List.setIfInBounds_toArray, List.set_cons_zero, List.set_cons_succ]
          refine rg_take (v := ?_) 5 rfl (by kernel_rfl) (by kernel_rfl) (by kernel_rfl) (fun _ _ _ h => h) (by kernel_rfl) ?_ (by assumption) ?_
          rotate_left
          · (intro w' hSw; (try dsimp only at hSw); go_simp; first | done | with_reducible rfl)
          simp only [Act.put, List.setIfInBounds_toArray, List.set_cons_zero, List.set_cons_succ]
          refine rg_take (v := ?_) 6 rfl (by kernel_rfl) (by kernel_rfl) (by kernel_rfl) (fun _ _ _ h => h) (by kernel_rfl) ?_ (by assumption) ?_
          rotate_left
          · (intro w' hSw; (try dsimp only at hSw); go_simp; first | done | with_reducible rfl)
          simp only [Act.put, List.setIfInBounds_toArray, List.set_cons_zero, List.set_cons_succ]
          refine rg_run 8 rfl (by kernel_rfl) (by kernel_rfl) (fun K hK => ?_)
          go_simp
          refine (HLS.out _ HO5.out).mono ?_
          rintro e w6 ⟨rfl, hb⟩
          have HB6 := Lib.hid (below_chain HB.out (below_chain HB5.out hb))
          replace a0 := cell_later hb (by exact a0)
          clear hb HO5 HB5
          go_wp2
          clear hHeld
          refine hK.out _ _ (by exact a0) (fun hHeld => ?_)
          clear hK K
          try simp only [Act.put, List.setIfInBounds_toArray, List.set_cons_zero, List.set_cons_succ]
          refine rg_take (v := ?_) 9 rfl (by kernel_rfl) (by kernel_rfl) (by kernel_rfl) (fun _ _ _ h => h) (by kernel_rfl) ?_ (by assumption) ?_
          rotate_left
          · (intro w' hSw; (try dsimp only at hSw); go_simp; first | done | with_reducible rfl)
          simp only [Act.put, List.setIfInBounds_toArray, List.set_cons_zero, List.set_cons_succ]
          refine rg_take (v := ?_) 10 rfl (by kernel_rfl) (by kernel_rfl) (by kernel_rfl) (fun _ _ _ h => h) (by kernel_rfl) ?_ (by assumption) ?_
          rotate_left
          · (intro w' hSw; (try dsimp only at hSw); go_simp; first | done | with_reducible rfl)
          simp only [Act.put, List.setIfInBounds_toArray, List.set_cons_zero, List.set_cons_succ]
          refine wpAnyH_done (by kernel_rfl) ?_ _
          clear hHeld
          clear had1 had2 had3 had4 a0
          go_wp2_with (fail)
          go_ret
          exact ⟨rfl, HB6.out⟩
end Go.Proofs.YtgpmglfcdbpgkaaGreatDoor
