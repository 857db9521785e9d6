/- ReachedBy, the reference. Condition: the lengths. -/
import Derived.Test.YtackekfjalaacaaGreatDoorHRbD
namespace Go.Proofs.YtackekfjalaacaaGreatDoor
open Go.RowKit

theorem wpList_push_st (w : World) {ops : Array Oper} {rest : List Oper} {o : Oper} {a : Act} {Q : Exit → Act → World → Prop} (hgd : o.guard = none) (s x : Operand)
    (ho : o.op = .call { callee := .builtin .append, args := #[s, x], argTypes := #[22, 22] })
    (base : Nat) (v : Value) (n : Nat) (l : List ByteArray) (t : ByteArray) (g c : Nat) (hs : a.eval s = v) (hown : w.ownsRow base 9 1 v n (sts l))
    (hx : a.eval x = .slice (some ⟨g, 0, none⟩) 1 c) (h0 : w.cell? ⟨g, 0, none⟩ = some (.string t)) (hn : n ≤ 1048577) (hbase : base ≤ w.heap.size)
    (h : ∀ v' w', w'.ownsRow base 9 1 v' (n + 1) (sts (l ++ [t])) → w.grownBy w' v.ownBlock → wpList Tryz.prog ops Q rest (a.put o.dst v') w') : wpList Tryz.prog ops Q (o :: rest) a w := by
  obtain ⟨i0, hi, hz0, hz1, hz2⟩ := info_parts info_string
  refine wpList_push w hgd s x 22 ho base 9 i0 _ 1 16 Tryz.underlying22 hi hz0 hz1 hz2 rfl (by decide) v n (sts l) hs hown ⟨g, 0, none⟩ c [.string t] hx rfl ?_ ?_ (by unfold maxLen; omega) (by omega) hbase ?_
  · intro j u hu
    match j, hu with
    | 0, hu => simp only [List.getElem?_cons_zero, Option.some.injEq] at hu; rw [← hu]; simpa [Addr.add] using h0
  · intro u hu
    simp only [List.mem_singleton] at hu
    subst hu; rfl
  · intro v' w' hown1 hgrow _ _
    refine h v' w' ?_ hgrow
    have e : sts (l ++ [t]) = sts l ++ [.string t] := by simp [sts]
    rw [e]
    exact hown1
def rbC (p : Prg) (inp : ByteArray) : Int := if (wrB p && fltB p) then (if memS p.ins inp then 0 else 4) else 1
def rbV (p : Prg) (inp : ByteArray) (s : ByteArray) : Bool := decide (0 < (scnV p inp).getD (ixS (tgs p) s).toNat 0)
def rbO (p : Prg) (inp : ByteArray) (s : ByteArray) : Bool := decide (0 < dlyV p inp s)
def rbL (p : Prg) (inp : ByteArray) : List ByteArray := if rbC p inp = 0 then p.vs.filter (rbV p inp) ++ p.os.filter (rbO p inp) else []
/-- A list of strings of the call's own, and a code. -/
def RetSC (L : List ByteArray) (C : Int) (w : World) (e : Ending) (w' : World) : Prop := ∃ A n c, e = .returned (.tuple #[.slice A n c, .int .i64 C]) ∧ n = L.length ∧ w'.ownsRow w.heap.size 9 1 (.slice A n c) n (sts L) ∧ Below w.heap.size w w'
theorem retSC_of {L L2 : List ByteArray} {C C2 : Int} {w w' : World} {A : Option Addr} {n c : Nat} (h : L = L2) (hc : C = C2) (hn : n = L2.length) (ho : w'.ownsRow w.heap.size 9 1 (.slice A n c) n (sts L2)) (hb : Below w.heap.size w w') : RetSC L C w (.returned (.tuple #[.slice A n c, .int .i64 C2])) w' := by
  subst h; subst hc; exact ⟨A, n, c, rfl, hn, ho, hb⟩
theorem retSC_nil {C : Int} {w w' : World} (hb : Below w.heap.size w w') : RetSC [] C w (.returned (.tuple #[.slice none 0 0, .int .i64 C])) w' :=
  ⟨none, 0, 0, rfl, rfl, ⟨rfl, .inl ⟨rfl, rfl⟩⟩, hb⟩
theorem filt_step {l : List ByteArray} {f : ByteArray → Bool} {k : Nat} {x : ByteArray} (h : l[k]? = some x) : (l.take (k + 1)).filter f = (l.take k).filter f ++ (if f x then [x] else []) := by
  rw [List.take_add_one, h, List.filter_append]
  cases hf : f x <;> simp [hf]
set_option maxHeartbeats 4000000 in
set_option maxRecDepth 100000 in
theorem c_sReached (p : Prg) (a1 a2 a3 a4 : Option Addr) (c1 c2 c3 c4 : Nat) (inp : ByteArray) (w : World) (hs : PgOk p) (hz : PgZ a1 a2 a3 c1 c2 c3) (h : PgR w a1 a2 a3 a4 p) :
    Calls Tryz.prog 7 #[pv p a1 a2 a3 a4 c1 c2 c3 c4, .string inp] w (RetSC (rbL p inp) (rbC p inp) w) := by
  have H := Lib.hid h
  have HSO := Lib.hid (fun w h => c_sIsSound p a1 a2 a3 a4 c1 c2 c3 c4 w hs hz h)
  have HI := Lib.hid (fun w h => c_l14Index a1 c1 _ p.ins inp w rfl hs.i.1 h)
  have HSN := Lib.hid (fun w hbd h => c_l19Scans p a1 a2 a3 a4 c1 c2 c3 c4 inp w hs hbd h)
  have HLN := Lib.hid (fun s w h => c_l14Line p a1 a2 a3 a4 c1 c2 c3 c4 s w hs.l.1 h)
  have HDL := Lib.hid (fun out w hbd hout h => c_l19Delay p a1 a2 a3 a4 c1 c2 c3 c4 inp out w hs hbd hout h)
  have HND := Lib.hid (fun h : (wrB p && fltB p) = true => (snd_of h).b)
  have HNM := Lib.hid (fun h : (wrB p && fltB p) = true => nmd_of h)
  have HI1 := Lib.hid (fun h => mem_ix (l := p.ins) (s := inp) h)
  have HI0 := Lib.hid (fun h => no_ix (l := p.ins) (s := inp) h)
  have HV : Hid (rbC p inp = if (wrB p && fltB p) then (if memS p.ins inp then 0 else 4) else 1) := Lib.hid rfl
  have HR : Hid (rbL p inp = if rbC p inp = 0 then p.vs.filter (rbV p inp) ++ p.os.filter (rbO p inp) else []) := Lib.hid rfl
  have HRV : Hid (∀ s, rbV p inp s = decide (0 < (scnV p inp).getD (ixS (tgs p) s).toNat 0)) := Lib.hid (fun _ => rfl)
  have HRO : Hid (∀ s, rbO p inp s = decide (0 < dlyV p inp s)) := Lib.hid (fun _ => rfl)
  have HSL := Lib.hid (scnV_len p inp)
  have HTL := Lib.hid (tgs_len p)
  generalize rbL p inp = L at *
  generalize rbC p inp = R at *
  generalize (wrB p && fltB p) = s at *
  generalize memS p.ins inp = u at *
  have B0 := Lib.hid (below_alloc (Below.refl w.heap.size w) (.cells #[.string p.nm, .slice a1 p.ins.length c1, .slice a2 p.vs.length c2, .slice a3 p.os.length c3, .string p.gd, .slice a4 p.ls.length c4] 31))
  have HP : Hid (PB (w.alloc (.cells #[.string p.nm, .slice a1 p.ins.length c1, .slice a2 p.vs.length c2, .slice a3 p.os.length c3, .string p.gd, .slice a4 p.ls.length c4] 31)) w.heap.size p a1 a2 a3 a4 c1 c2 c3 c4) := Lib.hid ⟨by go_simp, by go_simp, by go_simp, by go_simp, by go_simp, by go_simp⟩
  clear hs hz h
  dsimp only [pv] at *
  go_enter Tryz.func7, Tryz.ntmps7
  go_upto_region 1 with (fail)
  generalize w.alloc (.cells #[.string p.nm, .slice a1 p.ins.length c1, .slice a2 p.vs.length c2, .slice a3 p.os.length c3, .string p.gd, .slice a4 p.ls.length c4] 31) = W at *
  obtain ⟨k0, k1, k2, k3, k4, k5⟩ := HP.out
  go_wp2_with (fail)
  refine (HSO.out _ (H.out.below B0.out)).mono ?_
  rintro e w1 ⟨rfl, hb⟩
  have B1 := Lib.hid (below_chain B0.out hb)
  have BW1 := Lib.hid hb
  replace k0 := cell_later hb (by exact k0)
  replace k1 := cell_later hb (by exact k1)
  replace k2 := cell_later hb (by exact k2)
  replace k3 := cell_later hb (by exact k3)
  replace k4 := cell_later hb (by exact k4)
  replace k5 := cell_later hb (by exact k5)
  clear hb
  cases s
  · obtain rfl : R = 1 := HV.out
    obtain rfl : L = [] := HR.out
    go_wp2_with (fail)
    go_ret2
    exact retSC_nil B1.out
  go_wp2_with (fail)
  refine (HI.out _ (H.out.i.below B1.out)).mono ?_
  rintro e w2 ⟨rfl, hb⟩
  have B2 := Lib.hid (below_chain B1.out hb)
  have BW2 := Lib.hid (below_chain BW1.out hb)
  replace k0 := cell_later hb (by exact k0)
  replace k1 := cell_later hb (by exact k1)
  replace k2 := cell_later hb (by exact k2)
  replace k3 := cell_later hb (by exact k3)
  replace k4 := cell_later hb (by exact k4)
  replace k5 := cell_later hb (by exact k5)
  clear hb
  cases u
  · obtain rfl : R = 4 := HV.out
    obtain rfl : L = [] := HR.out
    have hi := HI0.out rfl
    generalize ixS p.ins inp = z at *
    go_wp2_with (fail)
    go_ret2
    exact retSC_nil B2.out
  obtain rfl : R = 0 := HV.out
  have HLL : Hid (L = p.vs.filter (rbV p inp) ++ p.os.filter (rbO p inp)) := Lib.hid HR.out
  have HB := Lib.hid (HND.out (by first | rfl | trivial))
  have HN := Lib.hid (HNM.out (by first | rfl | trivial))
  have hi := HI1.out rfl
  have hi2 : ¬ ixS p.ins inp < 0 := by omega
  generalize ixS p.ins inp = z at *
  clear HV HR HI0 HI1 HND HNM
  go_wp2_with (fail)
  refine (HSN.out _ HB.out (H.out.below B2.out)).mono ?_
  rintro e w3 ⟨g, rfl, hown, hb⟩
  have B3 := Lib.hid (below_chain B2.out hb)
  have BW3 := Lib.hid hb
  have HSO2 := Lib.hid hown
  replace k0 := cell_later hb (by exact k0)
  replace k1 := cell_later hb (by exact k1)
  replace k2 := cell_later hb (by exact k2)
  replace k3 := cell_later hb (by exact k3)
  replace k4 := cell_later hb (by exact k4)
  replace k5 := cell_later hb (by exact k5)
  clear hb hown hi hi2
  have bl := HB.out.l
  have bv := HB.out.v
  have bo := HB.out.o
  have HO0 : Hid ((w3.alloc (.cells #[] 9)).ownsRow w3.heap.size 9 1 (.slice (some ⟨w3.heap.size, 0, none⟩) 0 0) 0 (sts [])) := Lib.hid (by
    have h := World.ownsRow_lit (e := 9) (size := 1) (base := w3.heap.size) w3 #[] 0 (Nat.le_refl _) (by decide) (by simp)
    simpa [sts] using h)
  have BE := Lib.hid (below_alloc (Below.refl w3.heap.size w3) (.cells #[] 9))
  go_wp2_with (fail)
  have B1' := Lib.hid (show Below W.heap.size W w2 from BW2.out)
  have B3' := Lib.hid (show Below w2.heap.size w2 w3 from BW3.out)
  have HSC : Hid (∀ (wq : World), Below w3.heap.size w3 wq → ∀ j : Nat, j < p.ls.length → wq.cell? ⟨g, j, none⟩ = some (.int .i64 ((scnV p inp).getD j 0))) := Lib.hid (fun wq hb j hj => cell_later hb (scn_cell HSO2.out (by rw [HSL.out]; exact hj)))
  have HIX : Hid (∀ s, s ∈ p.vs ∨ s ∈ p.os → ∃ j : Nat, ixS (tgs p) s = j ∧ j < p.ls.length) := Lib.hid (fun s hs => by
    have h1 := ix_mem (HN.out.mad s hs)
    have h2 := ixS_bd s (tgs p)
    have h3 := HTL.out
    exact ⟨(ixS (tgs p) s).toNat, by omega, by omega⟩)
  have HSLI : Hid (((scnV p inp).length : Int) = p.ls.length) := Lib.hid (by rw [HSL.out])
  go_loopw [7, 8] (fun u ii wr => ∃ (k n : Nat) (A3 : Option Addr) (c9 : Nat), k ≤ p.vs.length ∧ n ≤ k ∧ ii = .int .i64 k ∧ u = .slice A3 n c9 ∧ Hid (((p.vs.take k).filter (rbV p inp)).length = n) ∧ Hid (wr.ownsRow w3.heap.size 9 1 (.slice A3 n c9) n (sts ((p.vs.take k).filter (rbV p inp)))) ∧ Hid (Below w3.heap.size w3 wr)) (fun _ ii _ => p.vs.length - (intOf ii).toNat)
  case atStart => exact ⟨0, 0, _, _, Nat.zero_le _, Nat.le_refl _, rfl, rfl, Lib.hid rfl, HO0, BE⟩
  case round =>
    clear HO0 BE k0 k1 k2 k3 k4 k5
    obtain ⟨k, n, A3, c9, hk, hn, rfl, rfl, hln, ho, hb⟩ := hrel
    have HBW := Lib.hid (below_chain B3.out hb.out)
    obtain ⟨k0, k1, k2, k3, k4, k5⟩ := (HP.out.below (below_chain (below_chain B1'.out B3'.out) hb.out))
    by_cases hlt : k < p.vs.length
    · obtain ⟨x, hx⟩ : ∃ x, p.vs[k]? = some x := ⟨_, List.getElem?_eq_getElem hlt⟩
      obtain ⟨b, off, rfl, hblt, g0w⟩ := H.out.v.st hx
      have GW := Lib.hid g0w
      have g0 := cell_later HBW.out g0w
      obtain ⟨j, hj, hjl⟩ := HIX.out x (.inl (List.mem_of_getElem? hx))
      have HXV := Lib.hid (HRV.out x)
      rw [hj, Int.toNat_natCast] at HXV
      have HLX := Lib.hid (HLN.out x)
      rw [hj] at HLX
      have HFS := Lib.hid (filt_step (f := rbV p inp) hx)
      have hk0 : (0 : Int) ≤ (k : Int) := by omega
      have hk1 : (k : Int) < p.vs.length := by omega
      have hj0 : (0 : Int) ≤ (j : Int) := by omega
      have hj1 : (j : Int) < (scnV p inp).length := by rw [HSLI.out]; omega
      have HCJ := Lib.hid (fun wq hb => HSC.out wq hb j hjl)
      clear hx g0w hblt hj hjl
      generalize (p.vs.take k).filter (rbV p inp) = FO at *
      generalize rbV p inp x = y at *
      generalize (scnV p inp).getD j 0 = z at *
      generalize (scnV p inp).length = zl at *
      go_upto_region 10 with (fail)
      refine wp_region_held_drew (S := (fun w' => w'.cell? ⟨b, off + k, none⟩ = some (.string x) ∧ w'.cell? ⟨w.heap.size, 0, none⟩ = some (.string p.nm) ∧ w'.cell? ⟨w.heap.size, 1, none⟩ = some (.slice a1 p.ins.length c1) ∧ w'.cell? ⟨w.heap.size, 2, none⟩ = some (.slice (some ⟨b, off, none⟩) p.vs.length c2) ∧ w'.cell? ⟨w.heap.size, 3, none⟩ = some (.slice a3 p.os.length c3) ∧ w'.cell? ⟨w.heap.size, 4, none⟩ = some (.string p.gd) ∧ w'.cell? ⟨w.heap.size, 5, none⟩ = some (.slice a4 p.ls.length c4))) (by kernel_rfl) ?_ (fun hHeld => ?_)
      · exact ⟨g0, k0, k1, k2, k3, k4, k5⟩
      refine rg_take (v := ?_) 0 rfl (by kernel_rfl) (by kernel_rfl) (by kernel_rfl) (fun _ _ _ h => h) (by kernel_rfl) ?_ (by assumption) ?_
      rotate_left
      · (intro w' hSw; (try dsimp only at hSw); go_simp; first | done | with_reducible rfl)
      simp only [Act.put, List.setIfInBounds_toArray, List.set_cons_zero, List.set_cons_succ]
      refine rg_take (v := ?_) 1 rfl (by kernel_rfl) (by kernel_rfl) (by kernel_rfl) (fun _ _ _ h => h) (by kernel_rfl) ?_ (by assumption) ?_
      rotate_left
      · (intro w' hSw; (try dsimp only at hSw); go_simp; first | done | with_reducible rfl)
      simp only [Act.put, List.setIfInBounds_toArray, List.set_cons_zero, List.set_cons_succ]
      refine rg_take (v := ?_) 2 rfl (by kernel_rfl) (by kernel_rfl) (by kernel_rfl) (fun _ _ _ h => h) (by kernel_rfl) ?_ (by assumption) ?_
      rotate_left
      · (intro w' hSw; (try dsimp only at hSw); go_simp; first | done | with_reducible rfl)
      simp only [Act.put, List.setIfInBounds_toArray, List.set_cons_zero, List.set_cons_succ]
      refine rg_take (v := ?_) 3 rfl (by kernel_rfl) (by kernel_rfl) (by kernel_rfl) (fun _ _ _ h => h) (by kernel_rfl) ?_ (by assumption) ?_
      rotate_left
      · (intro w' hSw; (try dsimp only at hSw); go_simp; first | done | with_reducible rfl)
      simp only [Act.put, List.setIfInBounds_toArray, List.set_cons_zero, List.set_cons_succ]
      refine rg_take (v := ?_) 4 rfl (by kernel_rfl) (by kernel_rfl) (by kernel_rfl) (fun _ _ _ h => h) (by kernel_rfl) ?_ (by assumption) ?_
      rotate_left
      · (intro w' hSw; (try dsimp only at hSw); go_simp; first | done | with_reducible rfl)
      simp only [Act.put, List.setIfInBounds_toArray, List.set_cons_zero, List.set_cons_succ]
      refine rg_take (v := ?_) 5 rfl (by kernel_rfl) (by kernel_rfl) (by kernel_rfl) (fun _ _ _ h => h) (by kernel_rfl) ?_ (by assumption) ?_
      rotate_left
      · (intro w' hSw; (try dsimp only at hSw); go_simp; first | done | with_reducible rfl)
      simp only [Act.put, List.setIfInBounds_toArray, List.set_cons_zero, List.set_cons_succ]
      refine rg_take (v := ?_) 6 rfl (by kernel_rfl) (by kernel_rfl) (by kernel_rfl) (fun _ _ _ h => h) (by kernel_rfl) ?_ (by assumption) ?_
      rotate_left
      · (intro w' hSw; (try dsimp only at hSw); go_simp; first | done | with_reducible rfl)
      simp only [Act.put, List.setIfInBounds_toArray, List.set_cons_zero, List.set_cons_succ]
      refine rg_run 7 rfl (by kernel_rfl) (by kernel_rfl) (fun K hK => ?_)
      go_simp
      refine (HLX.out _ ((H.out.below HBW.out).below (Below.refl _ _).drew)).mono ?_
      rintro e w5 ⟨rfl, hb5⟩
      have hbs : Below wr.heap.size wr w5 := below_chain (Below.refl _ _).drew hb5
      have B5 := Lib.hid (below_chain hb.out hbs)
      have HO5 := Lib.hid (own_below ho.out hbs)
      replace g0 := cell_later hbs (by exact g0)
      replace k0 := cell_later hbs (by exact k0)
      replace k1 := cell_later hbs (by exact k1)
      replace k2 := cell_later hbs (by exact k2)
      replace k3 := cell_later hbs (by exact k3)
      replace k4 := cell_later hbs (by exact k4)
      replace k5 := cell_later hbs (by exact k5)
      have q0 := HCJ.out _ B5.out
      clear hb5 hbs hb ho HCJ HLX
      go_wp2
      clear hHeld
      refine hK.out _ _ (by exact ⟨g0, k0, k1, k2, k3, k4, k5⟩) (fun hHeld => ?_)
      clear hK K
      try simp only [Act.put, List.setIfInBounds_toArray, List.set_cons_zero, List.set_cons_succ]
      refine rg_take (v := ?_) 8 rfl (by kernel_rfl) (by kernel_rfl) (by kernel_rfl) (fun _ _ _ h => h) (by kernel_rfl) ?_ (by assumption) ?_
      rotate_left
      · (intro w' hSw; (try dsimp only at hSw); go_simp; first | done | with_reducible rfl)
      simp only [Act.put, List.setIfInBounds_toArray, List.set_cons_zero, List.set_cons_succ]
      refine rg_run 9 rfl (by kernel_rfl) (by kernel_rfl) (fun K hK => ?_)
      go_simp
      go_wp2
      clear hHeld
      refine hK.out _ _ (by exact ⟨g0, k0, k1, k2, k3, k4, k5⟩) (fun hHeld => ?_)
      clear hK K
      try simp only [Act.put, List.setIfInBounds_toArray, List.set_cons_zero, List.set_cons_succ]
      refine rg_take (v := ?_) 10 rfl (by kernel_rfl) (by kernel_rfl) (by kernel_rfl) (fun _ _ _ h => h) (by kernel_rfl) ?_ (by assumption) ?_
      rotate_left
      · (intro w' hSw; (try dsimp only at hSw); go_simp; first | done | with_reducible rfl)
      simp only [Act.put, List.setIfInBounds_toArray, List.set_cons_zero, List.set_cons_succ]
      refine wpAnyH_done (by kernel_rfl) ?_ _
      clear hHeld
      clear q0 hj0 hj1
      by_cases h0 : 0 < z
      · obtain rfl : y = true := by rw [HXV.out]; exact decide_eq_true h0
        go_wp2_with (first
          | (at_builtin
             refine wpList_push_st _ rfl (.tmp 40) (.tmp 46) rfl w3.heap.size _ n _ x w5.heap.size 1 rfl (own_below HO5.out (below_alloc (Below.refl _ _) _)) rfl (by go_simp) (by omega) (below_alloc B5.out _).size ?_
             intro v7 w7 hown hgrow
             obtain ⟨A9, c9', rfl⟩ := own_shape hown
             have HB7 := Lib.hid (below_of_grown (below_alloc B5.out _) hgrow (fun q hq => (HO5.out.lt q hq).1))
             have HO7 := Lib.hid hown
             clear hown hgrow)
          )
        go_roundw
        case rel => exact ⟨k + 1, n + 1, A9, c9', by omega, by omega, by go_num, rfl, Lib.hid (by rw [HFS.out, List.length_append, hln.out]; rfl), Lib.hid (by rw [HFS.out]; exact HO7.out), HB7⟩
        case measure => simp [intOf]; omega
      · obtain rfl : y = false := by rw [HXV.out]; exact decide_eq_false h0
        go_wp2_with (fail)
        go_roundw
        case rel => exact ⟨k + 1, n, A3, c9, by omega, by omega, by go_num, rfl, Lib.hid (by rw [HFS.out]; simpa using hln.out), Lib.hid (by rw [HFS.out]; simpa using HO5.out), B5⟩
        case measure => simp [intOf]; omega
    · obtain rfl : k = p.vs.length := by omega
      rw [List.take_length] at hln ho
      generalize p.vs.filter (rbV p inp) = F1 at *
      obtain ⟨w8, rfl⟩ : ∃ w8, w8 = wr := ⟨_, rfl⟩
      have HO8 : Hid (w8.ownsRow w3.heap.size 9 1 (.slice A3 n c9) n (sts (F1 ++ (p.os.take 0).filter (rbO p inp)))) := Lib.hid (by simpa using ho.out)
      have HL8 : Hid ((F1 ++ (p.os.take 0).filter (rbO p inp)).length = n) := Lib.hid (by simpa using hln.out)
      clear ho hln
      go_wp2_with (fail)
      obtain ⟨HHB, HHW⟩ : Hid (Below w3.heap.size w3 w8) ∧ Hid (Below w.heap.size w w8) := ⟨hb, HBW⟩
      go_loopw [7, 9] (fun u ii wr => ∃ (k n : Nat) (A3 : Option Addr) (c9 : Nat), k ≤ p.os.length ∧ n ≤ 20 + k ∧ ii = .int .i64 k ∧ u = .slice A3 n c9 ∧ Hid ((F1 ++ (p.os.take k).filter (rbO p inp)).length = n) ∧ Hid (wr.ownsRow w3.heap.size 9 1 (.slice A3 n c9) n (sts (F1 ++ (p.os.take k).filter (rbO p inp)))) ∧ Hid (Below w3.heap.size w3 wr)) (fun _ ii _ => p.os.length - (intOf ii).toNat)
      case atStart => exact ⟨0, n, _, _, Nat.zero_le _, by omega, rfl, rfl, HL8, HO8, HHB⟩
      case round =>
        clear HO8 HL8 k0 k1 k2 k3 k4 k5 hb HBW HHB HHW hn hlt hk
        obtain ⟨k, n, A3, c9, hk, hn, rfl, rfl, hln, ho, hb⟩ := hrel
        have HBW := Lib.hid (below_chain B3.out hb.out)
        obtain ⟨k0, k1, k2, k3, k4, k5⟩ := (HP.out.below (below_chain (below_chain B1'.out B3'.out) hb.out))
        by_cases hlt : k < p.os.length
        · obtain ⟨x, hx⟩ : ∃ x, p.os[k]? = some x := ⟨_, List.getElem?_eq_getElem hlt⟩
          obtain ⟨b, off, rfl, hblt, g0w⟩ := H.out.o.st hx
          have GW := Lib.hid g0w
          have g0 := cell_later HBW.out g0w
          have HXV := Lib.hid (HRO.out x)
          have HLX := Lib.hid (fun w => HDL.out x w HB.out (ix_mem (HN.out.mad x (.inr (List.mem_of_getElem? hx)))))
          have HFS := Lib.hid (filt_step (f := rbO p inp) hx)
          have hk0 : (0 : Int) ≤ (k : Int) := by omega
          have hk1 : (k : Int) < p.os.length := by omega
          clear hx g0w hblt
          generalize (p.os.take k).filter (rbO p inp) = FO at *
          generalize rbO p inp x = y at *
          generalize dlyV p inp x = z at *
          go_upto_region 15 with (fail)
          refine wp_region_held_drew (S := (fun w' => w'.cell? ⟨b, off + k, none⟩ = some (.string x) ∧ w'.cell? ⟨w.heap.size, 0, none⟩ = some (.string p.nm) ∧ w'.cell? ⟨w.heap.size, 1, none⟩ = some (.slice a1 p.ins.length c1) ∧ w'.cell? ⟨w.heap.size, 2, none⟩ = some (.slice a2 p.vs.length c2) ∧ w'.cell? ⟨w.heap.size, 3, none⟩ = some (.slice (some ⟨b, off, none⟩) p.os.length c3) ∧ w'.cell? ⟨w.heap.size, 4, none⟩ = some (.string p.gd) ∧ w'.cell? ⟨w.heap.size, 5, none⟩ = some (.slice a4 p.ls.length c4))) (by kernel_rfl) ?_ (fun hHeld => ?_)
          · exact ⟨g0, k0, k1, k2, k3, k4, k5⟩
          refine rg_take (v := ?_) 0 rfl (by kernel_rfl) (by kernel_rfl) (by kernel_rfl) (fun _ _ _ h => h) (by kernel_rfl) ?_ (by assumption) ?_
          rotate_left
          · (intro w' hSw; (try dsimp only at hSw); go_simp; first | done | with_reducible rfl)
          simp only [Act.put, List.setIfInBounds_toArray, List.set_cons_zero, List.set_cons_succ]
          refine rg_take (v := ?_) 1 rfl (by kernel_rfl) (by kernel_rfl) (by kernel_rfl) (fun _ _ _ h => h) (by kernel_rfl) ?_ (by assumption) ?_
          rotate_left
          · (intro w' hSw; (try dsimp only at hSw); go_simp; first | done | with_reducible rfl)
          simp only [Act.put, List.setIfInBounds_toArray, List.set_cons_zero, List.set_cons_succ]
          refine rg_take (v := ?_) 2 rfl (by kernel_rfl) (by kernel_rfl) (by kernel_rfl) (fun _ _ _ h => h) (by kernel_rfl) ?_ (by assumption) ?_
          rotate_left
          · (intro w' hSw; (try dsimp only at hSw); go_simp; first | done | with_reducible rfl)
          simp only [Act.put, List.setIfInBounds_toArray, List.set_cons_zero, List.set_cons_succ]
          refine rg_take (v := ?_) 3 rfl (by kernel_rfl) (by kernel_rfl) (by kernel_rfl) (fun _ _ _ h => h) (by kernel_rfl) ?_ (by assumption) ?_
          rotate_left
          · (intro w' hSw; (try dsimp only at hSw); go_simp; first | done | with_reducible rfl)
          simp only [Act.put, List.setIfInBounds_toArray, List.set_cons_zero, List.set_cons_succ]
          refine rg_take (v := ?_) 4 rfl (by kernel_rfl) (by kernel_rfl) (by kernel_rfl) (fun _ _ _ h => h) (by kernel_rfl) ?_ (by assumption) ?_
          rotate_left
          · (intro w' hSw; (try dsimp only at hSw); go_simp; first | done | with_reducible rfl)
          simp only [Act.put, List.setIfInBounds_toArray, List.set_cons_zero, List.set_cons_succ]
          refine rg_take (v := ?_) 5 rfl (by kernel_rfl) (by kernel_rfl) (by kernel_rfl) (fun _ _ _ h => h) (by kernel_rfl) ?_ (by assumption) ?_
          rotate_left
          · (intro w' hSw; (try dsimp only at hSw); go_simp; first | done | with_reducible rfl)
          simp only [Act.put, List.setIfInBounds_toArray, List.set_cons_zero, List.set_cons_succ]
          refine rg_take (v := ?_) 6 rfl (by kernel_rfl) (by kernel_rfl) (by kernel_rfl) (fun _ _ _ h => h) (by kernel_rfl) ?_ (by assumption) ?_
          rotate_left
          · (intro w' hSw; (try dsimp only at hSw); go_simp; first | done | with_reducible rfl)
          simp only [Act.put, List.setIfInBounds_toArray, List.set_cons_zero, List.set_cons_succ]
          refine rg_run 7 rfl (by kernel_rfl) (by kernel_rfl) (fun K hK => ?_)
          go_simp
          refine (HLX.out _ ((H.out.below HBW.out).below (Below.refl _ _).drew)).mono ?_
          rintro e w5 ⟨rfl, hb5⟩
          have hbs : Below wr.heap.size wr w5 := below_chain (Below.refl _ _).drew hb5
          have B5 := Lib.hid (below_chain hb.out hbs)
          have HO5 := Lib.hid (own_below ho.out hbs)
          replace g0 := cell_later hbs (by exact g0)
          replace k0 := cell_later hbs (by exact k0)
          replace k1 := cell_later hbs (by exact k1)
          replace k2 := cell_later hbs (by exact k2)
          replace k3 := cell_later hbs (by exact k3)
          replace k4 := cell_later hbs (by exact k4)
          replace k5 := cell_later hbs (by exact k5)
          clear hb5 hbs hb ho HLX
          go_wp2
          clear hHeld
          refine hK.out _ _ (by exact ⟨g0, k0, k1, k2, k3, k4, k5⟩) (fun hHeld => ?_)
          clear hK K
          try simp only [Act.put, List.setIfInBounds_toArray, List.set_cons_zero, List.set_cons_succ]
          refine rg_take (v := ?_) 8 rfl (by kernel_rfl) (by kernel_rfl) (by kernel_rfl) (fun _ _ _ h => h) (by kernel_rfl) ?_ (by assumption) ?_
          rotate_left
          · (intro w' hSw; (try dsimp only at hSw); go_simp; first | done | with_reducible rfl)
          simp only [Act.put, List.setIfInBounds_toArray, List.set_cons_zero, List.set_cons_succ]
          refine wpAnyH_done (by kernel_rfl) ?_ _
          clear hHeld
          by_cases h0 : 0 < z
          · obtain rfl : y = true := by rw [HXV.out]; exact decide_eq_true h0
            go_wp2_with (first
              | (at_builtin
                 refine wpList_push_st _ rfl (.tmp 64) (.tmp 70) rfl w3.heap.size _ n _ x w5.heap.size 1 rfl (own_below HO5.out (below_alloc (Below.refl _ _) _)) rfl (by go_simp) (by omega) (below_alloc B5.out _).size ?_
                 intro v7 w7 hown hgrow
                 obtain ⟨A9, c9', rfl⟩ := own_shape hown
                 have HB7 := Lib.hid (below_of_grown (below_alloc B5.out _) hgrow (fun q hq => (HO5.out.lt q hq).1))
                 have HO7 := Lib.hid hown
                 clear hown hgrow)
              )
            go_roundw
            case rel => exact ⟨k + 1, n + 1, A9, c9', by omega, by omega, by go_num, rfl, Lib.hid (by rw [HFS.out, ← List.append_assoc, List.length_append, hln.out]; rfl), Lib.hid (by rw [HFS.out, ← List.append_assoc]; exact HO7.out), HB7⟩
            case measure => simp [intOf]; omega
          · obtain rfl : y = false := by rw [HXV.out]; exact decide_eq_false h0
            go_wp2_with (fail)
            go_roundw
            case rel => exact ⟨k + 1, n, A3, c9, by omega, by omega, by go_num, rfl, Lib.hid (by rw [HFS.out]; simpa using hln.out), Lib.hid (by rw [HFS.out]; simpa using HO5.out), B5⟩
            case measure => simp [intOf]; omega
        · obtain rfl : k = p.os.length := by omega
          rw [List.take_length] at hln ho
          clear k0 k1 k2 k4 k5
          go_wp2_with (fail)
          go_ret2
          exact retSC_of HLL.out rfl hln.out.symm (own_mono ho.out (Nat.le_trans B3.out.size (Nat.le_refl _))) HBW.out
end Go.Proofs.YtackekfjalaacaaGreatDoor
