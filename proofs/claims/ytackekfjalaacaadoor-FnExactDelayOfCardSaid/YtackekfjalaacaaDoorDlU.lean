/- The program's side of delays: isUsed, lineOf, reach. Condition: the lengths. -/
import Derived.Test.YtackekfjalaacaaDoorDlC
import Derived.Test.YtackekfjalaacaaDoorDlR
import Derived.Test.YtackekfjalaacaaDoorMpW
namespace Go.Proofs.YtackekfjalaacaaDoor
open Go.RowKit

def usT (s : ByteArray) (t : Tm) : Bool := t.k == 1 && decide (t.nm = s)
set_option maxRecDepth 100000 in
theorem c_isUsed1 (b : Nat) (s : ByteArray) (t : Tm) (w : World) (k0 : w.cell? ⟨b, 0, none⟩ = some (.string s)) :
    Calls Tryd.prog 44 #[.agg #[.int .i64 t.k, .string t.nm, .int .i64 t.n], .pointer (some ⟨b, 0, none⟩)] w fun e w' => e = .returned (.bool (usT s t)) ∧ Below w.heap.size w w' := by
  obtain ⟨tk, tn, tx⟩ := t
  dsimp only
  have HV : Hid (usT s ⟨tk, tn, tx⟩ = (tk == 1 && decide (tn = s))) := Lib.hid rfl
  generalize usT s ⟨tk, tn, tx⟩ = R at *
  have hb0 := World.block_lt_of_cell? _ _ k0
  dsimp only at hb0
  have B0 := Lib.hid (below_alloc (Below.refl w.heap.size w) (.cells #[.int .i64 tk, .string tn, .int .i64 tx] 74))
  have m0 : (w.alloc (.cells #[.int .i64 tk, .string tn, .int .i64 tx] 74)).cell? ⟨w.heap.size, 0, none⟩ = some (.int .i64 tk) := by go_simp
  have m1 : (w.alloc (.cells #[.int .i64 tk, .string tn, .int .i64 tx] 74)).cell? ⟨w.heap.size, 1, none⟩ = some (.string tn) := by go_simp
  replace k0 := cell_later B0.out k0
  go_enter Tryd.func44, Tryd.ntmps44
  go_upto_region 1 with (fail)
  generalize w.alloc (.cells #[.int .i64 tk, .string tn, .int .i64 tx] 74) = W at *
  by_cases hk : tk = 1
  rotate_left
  · have hkb : (tk == 1) = false := by simpa using hk
    obtain rfl : R = false := by rw [HV.out, hkb]; rfl
    clear hk
    go_wp2_with (fail)
    go_ret
    exact ⟨rfl, B0.out⟩
  subst hk
  by_cases he : tn = s
  · subst he
    have heq : (tn.toList == tn.toList) = true := by simp
    obtain rfl : R = true := by rw [HV.out]; simp
    go_wp2_with (fail)
    go_ret
    exact ⟨rfl, B0.out⟩
  · have heq : (tn.toList == s.toList) = false := by rw [beq_str]; exact decide_eq_false he
    obtain rfl : R = false := by rw [HV.out, decide_eq_false he]; rfl
    clear he
    go_wp2_with (fail)
    go_ret
    exact ⟨rfl, B0.out⟩
set_option maxHeartbeats 1000000 in
set_option maxRecDepth 100000 in
theorem c_isUsed (tg : ByteArray) (ts : List Tm) (la : Option Addr) (lc : Nat) (s : ByteArray) (w : World) (hl : ts.length ≤ 1048576) (hr : Rd w la (tmCells ts)) :
    Calls Tryd.prog 31 #[.agg #[.string tg, .slice la ts.length lc], .string s] w fun e w' => e = .returned (.bool (usB s ⟨tg, ts⟩)) ∧ Below w.heap.size w w' := by
  have HC := Lib.hid (fun (b : Nat) (w : World) (k0 : w.cell? ⟨b, 0, none⟩ = some (.string s)) (hr : Rd w la (tmCells ts)) =>
    c_ContainsTc 44 (.pointer (some ⟨b, 0, none⟩)) (usT s) la lc _ ts w rfl (by omega) hr (Lib.hid (fun wr x _ hb => c_isUsed1 b s x wr (cell_later hb k0))) (enter_of Tryd.func44 (by kernel_rfl) rfl))
  have HV : Hid (usB s ⟨tg, ts⟩ = ts.any (usT s)) := Lib.hid rfl
  have HR := Lib.hid hr
  rw [HV.out]
  clear HV
  generalize ts.any (usT s) = q at *
  generalize ts.length = tn at *
  have B0 := Lib.hid (below_alloc (below_alloc (Below.refl w.heap.size w) (.cells #[.string tg, .slice la tn lc] 57)) (.cells #[.string s] 9))
  have g1 : ((w.alloc (.cells #[.string tg, .slice la tn lc] 57)).alloc (.cells #[.string s] 9)).cell? ⟨w.heap.size, 1, none⟩ = some (.slice la tn lc) := by go_simp
  have k0 : ((w.alloc (.cells #[.string tg, .slice la tn lc] 57)).alloc (.cells #[.string s] 9)).cell? ⟨w.heap.size + 1, 0, none⟩ = some (.string s) := by go_simp
  have HCC := Lib.hid (HC.out (w.heap.size + 1) _ k0 (HR.out.below B0.out))
  have hmf : ∀ (fn : Fn) (first cap : Array Value) (w : World), (Instr.makeFunc fn first cap).run Tryd.prog w = .ok (.func fn first cap) w := fun _ _ _ _ => rfl
  clear hl hr HC k0
  go_enter Tryd.func31, Tryd.ntmps31
  go_upto_region 1 with (fail)
  generalize (w.alloc (.cells #[.string tg, .slice la tn lc] 57)).alloc (.cells #[.string s] 9) = W at *
  go_wp2_with (fail)
  refine HCC.out.mono ?_
  rintro e w1 ⟨rfl, hb⟩
  have B1 := Lib.hid (below_chain B0.out hb)
  clear hb g1 HCC
  go_wp2_with (fail)
  go_ret
  exact ⟨rfl, B1.out⟩
def tgE (s : ByteArray) (l : Lin) : Bool := decide (l.tg = s)
theorem idx_tg (s : ByteArray) : ∀ l : List Lin, idxI (tgE s) l = ixS (l.map Lin.tg) s
  | [] => rfl
  | x :: l => by
    have ih := idx_tg s l
    have hb := ixS_bd s (l.map Lin.tg)
    rw [List.map_cons]
    show idxI (tgE s) (x :: l) = if x.tg = s then 0 else if ixS (l.map Lin.tg) s = -1 then -1 else ixS (l.map Lin.tg) s + 1
    rw [← ih]
    unfold idxI at ih ⊢
    rw [List.findIdx?_cons]
    unfold tgE
    by_cases h : x.tg = s
    · rw [decide_eq_true h, if_pos rfl, if_pos h]; rfl
    · rw [decide_eq_false h, if_neg (by decide), if_neg h]
      cases e : List.findIdx? (fun l : Lin => decide (l.tg = s)) l with
      | none => rfl
      | some k =>
        show ((k + 1 : Nat) : Int) = if (k : Int) = -1 then -1 else (k : Int) + 1
        rw [if_neg (by omega)]
        omega
set_option maxRecDepth 100000 in
theorem c_lineOf1 (b : Nat) (s : ByteArray) (tg : ByteArray) (a : Option Addr) (n c : Nat) (w : World) (k0 : w.cell? ⟨b, 0, none⟩ = some (.string s)) :
    Calls Tryd.prog 46 #[.agg #[.string tg, .slice a n c], .pointer (some ⟨b, 0, none⟩)] w fun e w' => e = .returned (.bool (decide (tg = s))) ∧ Below w.heap.size w w' := by
  have hb0 := World.block_lt_of_cell? _ _ k0
  dsimp only at hb0
  have B0 := Lib.hid (below_alloc (Below.refl w.heap.size w) (.cells #[.string tg, .slice a n c] 57))
  have m0 : (w.alloc (.cells #[.string tg, .slice a n c] 57)).cell? ⟨w.heap.size, 0, none⟩ = some (.string tg) := by go_simp
  replace k0 := cell_later B0.out k0
  have heq : (tg.toList == s.toList) = decide (tg = s) := beq_str tg s
  generalize decide (tg = s) = R at *
  go_enter Tryd.func46, Tryd.ntmps46
  go_upto_region 1 with (fail)
  generalize w.alloc (.cells #[.string tg, .slice a n c] 57) = W at *
  go_wp2_with (fail)
  go_ret
  exact ⟨rfl, B0.out⟩
set_option maxHeartbeats 1000000 in
set_option maxRecDepth 100000 in
theorem c_lineOf (p : Prg) (a1 a2 a3 a4 : Option Addr) (c1 c2 c3 c4 : Nat) (s : ByteArray) (w : World) (hs : p.ls.length ≤ 1048576) (h : PgR w a1 a2 a3 a4 p) :
    Calls Tryd.prog 32 #[pv p a1 a2 a3 a4 c1 c2 c3 c4, .string s] w fun e w' => e = .returned (.int .i64 (ixS (tgs p) s)) ∧ Below w.heap.size w w' := by
  have HC := Lib.hid (fun (b : Nat) (w : World) (k0 : w.cell? ⟨b, 0, none⟩ = some (.string s)) (hl : Ll w a4 p.ls) =>
    c_IndexLc 46 (.pointer (some ⟨b, 0, none⟩)) (tgE s) a4 c4 p.ls.length p.ls w rfl (by omega) hl (Lib.hid (fun wr x a c _ hb _ => c_lineOf1 b s x.tg a x.ts.length c wr (cell_later hb k0))) (enter_of Tryd.func46 (by kernel_rfl) rfl))
  have H := Lib.hid h
  have HV : Hid (idxI (tgE s) p.ls = ixS (tgs p) s) := Lib.hid (idx_tg s p.ls)
  have hw : IntKind.i64.wrap (idxI (tgE s) p.ls) = idxI (tgE s) p.ls := by
    have h1 := ixS_bd s (tgs p)
    have h2 : (tgs p).length = p.ls.length := by unfold tgs; simp
    rw [HV.out]
    exact IntWalk.i64_in _ (by omega)
  rw [← HV.out]
  clear HV
  generalize idxI (tgE s) p.ls = q at *
  have B0 := Lib.hid (below_alloc (below_alloc (Below.refl w.heap.size w) (.cells #[.string p.nm, .slice a1 p.ins.length c1, .slice a2 p.vs.length c2, .slice a3 p.os.length c3, .string p.gd, .slice a4 p.ls.length c4] 31)) (.cells #[.string s] 9))
  have k5 : ((w.alloc (.cells #[.string p.nm, .slice a1 p.ins.length c1, .slice a2 p.vs.length c2, .slice a3 p.os.length c3, .string p.gd, .slice a4 p.ls.length c4] 31)).alloc (.cells #[.string s] 9)).cell? ⟨w.heap.size, 5, none⟩ = some (.slice a4 p.ls.length c4) := by go_simp
  have k0 : ((w.alloc (.cells #[.string p.nm, .slice a1 p.ins.length c1, .slice a2 p.vs.length c2, .slice a3 p.os.length c3, .string p.gd, .slice a4 p.ls.length c4] 31)).alloc (.cells #[.string s] 9)).cell? ⟨w.heap.size + 1, 0, none⟩ = some (.string s) := by go_simp
  have HCC := Lib.hid (HC.out (w.heap.size + 1) _ k0 (H.out.l.below B0.out))
  have hmf : ∀ (fn : Fn) (first cap : Array Value) (w : World), (Instr.makeFunc fn first cap).run Tryd.prog w = .ok (.func fn first cap) w := fun _ _ _ _ => rfl
  clear hs h HC k0
  go_enter Tryd.func32, Tryd.ntmps32
  dsimp only [pv]
  go_upto_region 1 with (fail)
  generalize (w.alloc (.cells #[.string p.nm, .slice a1 p.ins.length c1, .slice a2 p.vs.length c2, .slice a3 p.os.length c3, .string p.gd, .slice a4 p.ls.length c4] 31)).alloc (.cells #[.string s] 9) = W at *
  go_wp2_with (fail)
  refine HCC.out.mono ?_
  rintro e w1 ⟨rfl, hb⟩
  have B1 := Lib.hid (below_chain B0.out hb)
  clear hb k5 HCC
  go_wp2_with (fail)
  go_ret
  exact ⟨rfl, B1.out⟩
theorem zero_int (w : World) : (zeroValue 2).run Tryd.prog w = .ok (.int .i64 0) w := by kernel_rfl
set_option maxHeartbeats 1000000 in
set_option maxRecDepth 100000 in
theorem c_reach (bf bm : Nat) (l : List En) (c : Nat) (s : ByteArray) (v : Int) (w : World) (hs : s.size ≤ maxLen) (k0 : w.cell? ⟨bf, 0, none⟩ = some (.map (some bm))) (hm : MpA w bm l c) :
    Calls Tryd.prog 30 #[.string s, .int .i64 v, .pointer (some ⟨bf, 0, none⟩)] w fun e w' => e = .returned (.bool (rB l s v)) ∧ MpA w' bm (rL l c s v) (rC l c s v) ∧ w.grownBy w' (some bm) ∧ w'.heap.size = w.heap.size := by
  have HM := Lib.hid hm
  have HV : Hid ((rB l s v = false ∧ rL l c s v = l ∧ rC l c s v = c) ∨ (rB l s v = true ∧ rL l c s v = putE l c s v ∧ rC l c s v = putC l c s)) := Lib.hid (by
    unfold rL rC
    cases rB l s v
    · exact .inl ⟨rfl, rfl, rfl⟩
    · exact .inr ⟨rfl, rfl, rfl⟩)
  have HBN : Hid (getE l s = none → rB l s v = true) := Lib.hid (fun h => by unfold rB; rw [h])
  have HBS : Hid (∀ old, getE l s = some old → rB l s v = !decide (old ≤ v)) := Lib.hid (fun old h => by unfold rB; rw [h])
  clear hm
  generalize rB l s v = R at *
  generalize rL l c s v = L2 at *
  generalize rC l c s v = C2 at *
  have HG : Hid (w.grownBy w (some bm)) := Lib.hid ⟨rfl, rfl, rfl, Nat.le_refl _, fun _ _ _ => rfl⟩
  go_enter Tryd.func30, Tryd.ntmps30
  rcases hg : getE l s with _ | old
  · obtain ⟨rfl, rfl, rfl⟩ : R = true ∧ L2 = putE l c s v ∧ C2 = putC l c s := by
      rcases HV.out with ⟨h1, _⟩ | h1
      · have := HBN.out hg; rw [h1] at this; cases this
      · exact h1
    have e1 : (getE l s).isSome = false := by rw [hg]; rfl
    have e2 : (getE l s).getD 0 = 0 := by rw [hg]; rfl
    clear HV HBN HBS
    go_wp2_with (first
      | (at_lookup
         refine wpList_lookE2 _ rfl (.tmp 9) (.tmp 10) rfl Tryd.underlying9 Tryd.underlying42 (zero_int _) bm l c rfl HM.out s rfl hs ?_
         rw [e1, e2])
      | (at_mapUpdate
         refine wpList_putE _ rfl (.tmp 20) (.tmp 21) (.tmp 22) rfl Tryd.underlying9 Tryd.underlying42 bm l c rfl HM.out s v rfl rfl hs ?_
         intro w2 hm2 hg2 hz2)
      )
    go_ret
    exact ⟨rfl, hm2, hg2, hz2⟩
  · have e1 : (getE l s).isSome = true := by rw [hg]; rfl
    have e2 : (getE l s).getD 0 = old := by rw [hg]; rfl
    have HB := Lib.hid (HBS.out old hg)
    by_cases hle : old ≤ v
    · obtain ⟨rfl, rfl, rfl⟩ : R = false ∧ L2 = l ∧ C2 = c := by
        rcases HV.out with h1 | ⟨h1, _⟩
        · exact h1
        · have := HB.out; rw [h1, decide_eq_true hle] at this; cases this
      clear HV HB HBN HBS
      go_wp2_with (first
        | (at_lookup
           refine wpList_lookE2 _ rfl (.tmp 9) (.tmp 10) rfl Tryd.underlying9 Tryd.underlying42 (zero_int _) bm _ _ rfl HM.out s rfl hs ?_
           rw [e1, e2])
        )
      go_ret
      exact ⟨rfl, HM.out, HG.out, rfl⟩
    · obtain ⟨rfl, rfl, rfl⟩ : R = true ∧ L2 = putE l c s v ∧ C2 = putC l c s := by
        rcases HV.out with ⟨h1, _⟩ | h1
        · have := HB.out; rw [h1, decide_eq_false hle] at this; cases this
        · exact h1
      clear HV HB HBN HBS
      go_wp2_with (first
        | (at_lookup
           refine wpList_lookE2 _ rfl (.tmp 9) (.tmp 10) rfl Tryd.underlying9 Tryd.underlying42 (zero_int _) bm l c rfl HM.out s rfl hs ?_
           rw [e1, e2])
        | (at_mapUpdate
           refine wpList_putE _ rfl (.tmp 20) (.tmp 21) (.tmp 22) rfl Tryd.underlying9 Tryd.underlying42 bm l c rfl HM.out s v rfl rfl hs ?_
           intro w2 hm2 hg2 hz2)
        )
      go_ret
      exact ⟨rfl, hm2, hg2, hz2⟩
end Go.Proofs.YtackekfjalaacaaDoor
