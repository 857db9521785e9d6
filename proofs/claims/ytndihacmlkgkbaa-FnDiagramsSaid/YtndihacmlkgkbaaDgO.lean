/- Contract of the forest's node. Condition: the sizes; int64 arguments. -/
import Derived.Test.YtndihacmlkgkbaaDgN
namespace Go.Proofs.Ytndihacmlkgkbaa
open Go.RowKit Go.Maps Go.WideMaps

theorem MapI.at_ {k : TypeId} {w : World} {b n : Nat} {f : Value → Option Int} (h : MapI k w b n f) {o : Obj} (ho : w.heap[b]? = some o) : ∃ es c, o = .map es c := by
  obtain ⟨D, ⟨es, clock, hb, _⟩, _⟩ := h
  rw [hb] at ho
  simp only [Option.some.injEq] at ho
  exact ⟨es, clock, ho.symm⟩
theorem MapI.ne {k : TypeId} {w : World} {b n : Nat} {f : Value → Option Int} (h : MapI k w b n f) {base : Nat} {e : TypeId} {size m : Nat} {v : Value} {xs : List Value} (ho : w.ownsRow base e size v m xs) : ∀ q, v.ownBlock = some q → q ≠ b := by
  rintro q hq rfl
  obtain ⟨D, ⟨es, clock, hb, _⟩, _⟩ := h
  obtain ⟨_, cur, h2⟩ := own_kind ho hq hb
  cases h2
set_option maxHeartbeats 1000000 in
set_option maxRecDepth 100000 in
theorem c_node (lo bf bm : Nat) (X i a b : Int) (v : Value) (out : List Nd) (w : World) (hs : out.length ≤ 1099511627775) (hlo : lo ≤ w.heap.size) (hwi : wfI i) (hwa : wfI a) (hwb : wfI b) (h : FO lo w bf bm X v out) :
    Calls Try.prog 47 #[.pointer (some ⟨bf, 0, none⟩), .int .i64 i, .int .i64 a, .int .i64 b] w fun e w' => e = .returned (.int .i64 (mkN out ⟨i, a, b⟩).2) ∧ ∃ v', FO lo w' bf bm X v' (mkN out ⟨i, a, b⟩).1 ∧ Fr (PR lo (KF bm) v.ownBlock) w w' ∧ RC w v v' := by
  by_cases hab : a = b
  · subst hab
    have hm : mkN out ⟨i, a, a⟩ = (out, a) := by unfold mkN; rw [if_pos rfl]
    rw [hm]
    have H := Lib.hid h
    clear h
    go_enter Try.func47, Try.ntmps47
    go_wp2
    go_ret
    exact ⟨rfl, _, H.out, Fr.refl _ _, RC.refl _ _⟩
  · have hne : (a == b) = false := by simpa using hab
    obtain ⟨kl, hkl⟩ := keyNode hwi hwa hwb
    obtain ⟨hbox, hrow, hmap, hbm⟩ := h
    have hblt := (own_ge hbox)
    have hmlt := hmap.lt
    have hal := below_alloc (Below.refl w.heap.size w) (.cells #[.int .i64 i, .int .i64 a, .int .i64 b] 57)
    have HB := Lib.hid (own_below hbox hal)
    have HR := Lib.hid (own_below hrow hal)
    have HMP := Lib.hid (hmap.below hal)
    have HKL := Lib.hid hkl
    have HBM := Lib.hid hbm
    have x0 : (w.alloc (.cells #[.int .i64 i, .int .i64 a, .int .i64 b] 57)).cell? ⟨w.heap.size, 0, none⟩ = some (.int .i64 i) := by go_simp
    have x1 : (w.alloc (.cells #[.int .i64 i, .int .i64 a, .int .i64 b] 57)).cell? ⟨w.heap.size, 1, none⟩ = some (.int .i64 a) := by go_simp
    have x2 : (w.alloc (.cells #[.int .i64 i, .int .i64 a, .int .i64 b] 57)).cell? ⟨w.heap.size, 2, none⟩ = some (.int .i64 b) := by go_simp
    have HA := Lib.hid hal
    have HV := Lib.hid (fun q hq => (hrow.lt q hq).2)
    clear hal hbox hrow hmap hkl hwi hwa hwb
    go_enter Try.func47, Try.ntmps47
    go_wp2_with (fail)
    have hszW : (w.alloc (.cells #[.int .i64 i, .int .i64 a, .int .i64 b] 57)).heap.size = w.heap.size + 1 := by simp
    generalize w.alloc (.cells #[.int .i64 i, .int .i64 a, .int .i64 b] 57) = W at *
    have k0 := HB.out.cellAt 1 (by decide)
    have k2 := HB.out.cellAt 2 (by decide)
    simp only [List.getElem?_cons_zero, List.getElem?_cons_succ] at k0 k2
    obtain ⟨A, c, rfl⟩ := own_shape HR.out
    have hk := (HMP.out.below (Below.refl W.heap.size W).drew).look lawNode Try.underlying92 HKL.out
    rw [knF_at] at hk
    rcases hi : idxN out ⟨i, a, b⟩ with _ | k
    · rw [hi] at hk
      have HM := Lib.hid (mkN_none hab hi)
      have HKP := Lib.hid (knF_put hi)
      clear hi
      dsimp only [Option.map_none] at hk
      have hbm2 : bm ≠ w.heap.size := by omega
      refine wp_region_held_drew (S := (fun w' => w'.cell? ⟨bf, 2, none⟩ = some (.map (some bm)) ∧ (w'.cell? ⟨w.heap.size, 0, none⟩ = some (.int .i64 i) ∧ w'.cell? ⟨w.heap.size, 1, none⟩ = some (.int .i64 a) ∧ w'.cell? ⟨w.heap.size, 2, none⟩ = some (.int .i64 b)) ∧ (Instr.lookup 92 (.map (some bm)) (.agg #[.int .i64 i, .int .i64 a, .int .i64 b]) true).run Try.prog w' = .ok (.tuple #[.int .i64 0, .bool false]) w')) (by kernel_rfl) ?_ (fun hHeld => ?_)
      · exact ⟨k2, ⟨x0, x1, x2⟩, hk⟩
      refine rg_take (v := ?_) 0 rfl (by kernel_rfl) (by kernel_rfl) (by kernel_rfl) (fun _ _ _ h => h) (by kernel_rfl) ?_ (by assumption) ?_
      rotate_left
      · (intro w' hSw; (try dsimp only at hSw); go_simp; first | done | with_reducible rfl)
      simp only [Act.put, List.setIfInBounds_toArray, List.set_cons_zero, List.set_cons_succ]
      refine rg_take (v := ?_) 1 rfl (by kernel_rfl) (by kernel_rfl) (by kernel_rfl) (fun _ _ _ h => h) (by kernel_rfl) ?_ (by assumption) ?_
      rotate_left
      · (intro w' hSw; (try dsimp only at hSw); go_simp; first | done | with_reducible rfl)
      simp only [Act.put, List.setIfInBounds_toArray, List.set_cons_zero, List.set_cons_succ]
      refine rg_take (v := ?_) 2 rfl (by kernel_rfl) (by kernel_rfl) (by kernel_rfl) (fun _ _ _ h => h) (by kernel_rfl) ?_ (by assumption) ?_
      rotate_left
      · (intro w' hSw; (try dsimp only at hSw); go_simp; first | done | with_reducible rfl)
      simp only [Act.put, List.setIfInBounds_toArray, List.set_cons_zero, List.set_cons_succ]
      refine rg_take (v := ?_) 3 rfl (by kernel_rfl) (by kernel_rfl) (by kernel_rfl) (fun _ _ _ h => h) (by kernel_rfl) ?_ (by assumption) ?_
      rotate_left
      · (intro w' hSw; (try dsimp only at hSw); go_simp; first | done | with_reducible rfl)
      simp only [Act.put, List.setIfInBounds_toArray, List.set_cons_zero, List.set_cons_succ]
      refine rg_take (v := ?_) 4 rfl (by kernel_rfl) (by kernel_rfl) (by kernel_rfl) (fun _ _ _ h => h) (by kernel_rfl) ?_ (by assumption) ?_
      rotate_left
      · (intro w' hSw; (try dsimp only at hSw); go_simp; first | done | with_reducible rfl)
      simp only [Act.put, List.setIfInBounds_toArray, List.set_cons_zero, List.set_cons_succ]
      refine rg_take (v := ?_) 5 rfl (by kernel_rfl) (by kernel_rfl) (by kernel_rfl) (fun _ _ _ h => h) (by kernel_rfl) ?_ (by assumption) ?_
      rotate_left
      · (intro w' hSw; (try dsimp only at hSw); go_simp; first | done | with_reducible rfl)
      simp only [Act.put, List.setIfInBounds_toArray, List.set_cons_zero, List.set_cons_succ]
      refine rg_take (v := ?_) 6 rfl (by kernel_rfl) (by kernel_rfl) (by kernel_rfl) (fun _ _ _ h => h) (by kernel_rfl) ?_ (by assumption) ?_
      rotate_left
      · (intro w' hSw; (try dsimp only at hSw); go_simp; first | done | with_reducible rfl)
      simp only [Act.put, List.setIfInBounds_toArray, List.set_cons_zero, List.set_cons_succ]
      refine rg_take (v := ?_) 7 rfl (by kernel_rfl) (by kernel_rfl) (by kernel_rfl) (fun _ _ _ h => h) (by kernel_rfl) ?_ (by assumption) ?_
      rotate_left
      · (intro w' hSw; (try dsimp only at hSw); go_simp; first | done | with_reducible rfl)
      simp only [Act.put, List.setIfInBounds_toArray, List.set_cons_zero, List.set_cons_succ]
      refine rg_take (v := ?_) 8 rfl (by kernel_rfl) (by kernel_rfl) (by kernel_rfl) (fun _ _ _ h => h) (by kernel_rfl) ?_ (by assumption) ?_
      rotate_left
      · (intro w' hSw; (try dsimp only at hSw); go_simp; first | done | with_reducible rfl)
      simp only [Act.put, List.setIfInBounds_toArray, List.set_cons_zero, List.set_cons_succ]
      refine rg_take (v := ?_) 9 rfl (by kernel_rfl) (by kernel_rfl) (by kernel_rfl) (fun _ _ _ h => h) (by kernel_rfl) ?_ (by assumption) ?_
      rotate_left
      · (intro w' hSw; (try dsimp only at hSw); go_simp; first | done | with_reducible rfl)
      simp only [Act.put, List.setIfInBounds_toArray, List.set_cons_zero, List.set_cons_succ]
      refine rg_take (v := ?_) 10 rfl (by kernel_rfl) (by kernel_rfl) (by kernel_rfl) (fun _ _ _ h => h) (by kernel_rfl) ?_ (by assumption) ?_
      rotate_left
      · (intro w' hSw; (try dsimp only at hSw); go_simp; first | done | with_reducible rfl)
      simp only [Act.put, List.setIfInBounds_toArray, List.set_cons_zero, List.set_cons_succ]
      refine wpAnyH_done (by kernel_rfl) ?_ _
      clear hHeld
      clear hk
      have HBX := Lib.hid (own_below HB.out (Below.refl W.heap.size W).drew)
      have HRX := Lib.hid (own_below HR.out (Below.refl W.heap.size W).drew)
      have HMX := Lib.hid (HMP.out.below (Below.refl W.heap.size W).drew)
      have HAX := Lib.hid (HA.out.drew)
      clear HB HR HMP HA
      go_wp2_with (fail)
      have hwd : W.drew.heap.size = w.heap.size + 1 := hszW
      have d0 : W.drew.cell? ⟨bf, 1, none⟩ = some (.slice A out.length c) := k0
      have d1 : W.drew.cell? ⟨bf, 2, none⟩ = some (.map (some bm)) := k2
      have d2 : W.drew.cell? ⟨w.heap.size, 0, none⟩ = some (.int .i64 i) := x0
      have d3 : W.drew.cell? ⟨w.heap.size, 1, none⟩ = some (.int .i64 a) := x1
      have d4 : W.drew.cell? ⟨w.heap.size, 2, none⟩ = some (.int .i64 b) := x2
      clear k0 k2 x0 x1 x2
      generalize W.drew = wr at *
      have k0 := d0
      have k2 := d1
      have x0 := d2
      have x1 := d3
      have x2 := d4
      clear d0 d1 d2 d3 d4
      refine wp_region_heldE 10 (S := (fun w' => w'.cell? ⟨bf, 1, none⟩ = some (.slice A out.length c) ∧ (w'.cell? ⟨w.heap.size, 0, none⟩ = some (.int .i64 i) ∧ w'.cell? ⟨w.heap.size, 1, none⟩ = some (.int .i64 a) ∧ w'.cell? ⟨w.heap.size, 2, none⟩ = some (.int .i64 b)))) (by kernel_rfl) ?_ (fun hHeld => ?_)
      · exact ⟨k0, x0, x1, x2⟩
      refine rgE_take (v := ?_) 0 12 rfl (by kernel_rfl) (by kernel_rfl) (by kernel_rfl) (by kernel_rfl) (by kernel_rfl) (fun _ _ _ h => h) (by kernel_rfl) ?_ (by assumption) ?_
      rotate_left
      · (intro w' hSw; (try dsimp only at hSw); go_simp; first | done | with_reducible rfl)
      simp only [Act.put, List.setIfInBounds_toArray, List.set_cons_zero, List.set_cons_succ]
      refine rgE_take (v := ?_) 1 12 rfl (by kernel_rfl) (by kernel_rfl) (by kernel_rfl) (by kernel_rfl) (by kernel_rfl) (fun _ _ _ h => h) (by kernel_rfl) ?_ (by assumption) ?_
      rotate_left
      · (intro w' hSw; (try dsimp only at hSw); go_simp; first | done | with_reducible rfl)
      simp only [Act.put, List.setIfInBounds_toArray, List.set_cons_zero, List.set_cons_succ]
      refine rgE_take (v := ?_) 2 12 rfl (by kernel_rfl) (by kernel_rfl) (by kernel_rfl) (by kernel_rfl) (by kernel_rfl) (fun _ _ _ h => h) (by kernel_rfl) ?_ (by assumption) ?_
      rotate_left
      · (intro w' hSw; (try dsimp only at hSw); go_simp; first | done | with_reducible rfl)
      simp only [Act.put, List.setIfInBounds_toArray, List.set_cons_zero, List.set_cons_succ]
      refine rgE_take (v := ?_) 3 12 rfl (by kernel_rfl) (by kernel_rfl) (by kernel_rfl) (by kernel_rfl) (by kernel_rfl) (fun _ _ _ h => h) (by kernel_rfl) ?_ (by assumption) ?_
      rotate_left
      · (intro w' hSw; (try dsimp only at hSw); go_simp; first | done | with_reducible rfl)
      simp only [Act.put, List.setIfInBounds_toArray, List.set_cons_zero, List.set_cons_succ]
      refine rgE_take (v := ?_) 4 12 rfl (by kernel_rfl) (by kernel_rfl) (by kernel_rfl) (by kernel_rfl) (by kernel_rfl) (fun _ _ _ h => h) (by kernel_rfl) ?_ (by assumption) ?_
      rotate_left
      · (intro w' hSw; (try dsimp only at hSw); go_simp; first | done | with_reducible rfl)
      simp only [Act.put, List.setIfInBounds_toArray, List.set_cons_zero, List.set_cons_succ]
      refine rgE_take (v := ?_) 5 12 rfl (by kernel_rfl) (by kernel_rfl) (by kernel_rfl) (by kernel_rfl) (by kernel_rfl) (fun _ _ _ h => h) (by kernel_rfl) ?_ (by assumption) ?_
      rotate_left
      · (intro w' hSw; (try dsimp only at hSw); go_simp; first | done | with_reducible rfl)
      simp only [Act.put, List.setIfInBounds_toArray, List.set_cons_zero, List.set_cons_succ]
      refine rgE_run 6 rfl (by kernel_rfl) (by kernel_rfl) (by decide) (fun K hK => ?_)
      go_simp
      go_wp2
      have y0 : (wr.alloc (.cells #[.int .i64 i, .int .i64 a, .int .i64 b] 57)).cell? ⟨bf, 1, none⟩ = some (.slice A out.length c) := by rw [World.cell?_alloc_lt _ _ _ (show bf < wr.heap.size by omega)]; exact k0
      have y1 : (wr.alloc (.cells #[.int .i64 i, .int .i64 a, .int .i64 b] 57)).cell? ⟨w.heap.size, 0, none⟩ = some (.int .i64 i) := by rw [World.cell?_alloc_lt _ _ _ (show w.heap.size < wr.heap.size by omega)]; exact x0
      have y2 : (wr.alloc (.cells #[.int .i64 i, .int .i64 a, .int .i64 b] 57)).cell? ⟨w.heap.size, 1, none⟩ = some (.int .i64 a) := by rw [World.cell?_alloc_lt _ _ _ (show w.heap.size < wr.heap.size by omega)]; exact x1
      have y3 : (wr.alloc (.cells #[.int .i64 i, .int .i64 a, .int .i64 b] 57)).cell? ⟨w.heap.size, 2, none⟩ = some (.int .i64 b) := by rw [World.cell?_alloc_lt _ _ _ (show w.heap.size < wr.heap.size by omega)]; exact x2
      clear hHeld
      refine hK.out _ _ (.inr (by exact ⟨y0, y1, y2, y3⟩)) (fun hHeld => ?_)
      clear hK K
      try simp only [Act.put, List.setIfInBounds_toArray, List.set_cons_zero, List.set_cons_succ]
      have HBY := Lib.hid (own_below (by exact HBX.out) (below_alloc (Below.refl wr.heap.size wr) (.cells #[.int .i64 i, .int .i64 a, .int .i64 b] 57)))
      have HRY := Lib.hid (own_below (by exact HRX.out) (below_alloc (Below.refl wr.heap.size wr) (.cells #[.int .i64 i, .int .i64 a, .int .i64 b] 57)))
      have HMY := Lib.hid (MapI.below (by exact HMX.out) (below_alloc (Below.refl wr.heap.size wr) (.cells #[.int .i64 i, .int .i64 a, .int .i64 b] 57)))
      have HAY := Lib.hid (below_alloc (by exact HAX.out) (.cells #[.int .i64 i, .int .i64 a, .int .i64 b] 57))
      have z0 : (wr.alloc (.cells #[.int .i64 i, .int .i64 a, .int .i64 b] 57)).cell? ⟨wr.heap.size, 0, none⟩ = some (.int .i64 i) := by go_simp
      have z1 : (wr.alloc (.cells #[.int .i64 i, .int .i64 a, .int .i64 b] 57)).cell? ⟨wr.heap.size, 1, none⟩ = some (.int .i64 a) := by go_simp
      have z2 : (wr.alloc (.cells #[.int .i64 i, .int .i64 a, .int .i64 b] 57)).cell? ⟨wr.heap.size, 2, none⟩ = some (.int .i64 b) := by go_simp
      have hszY : lo ≤ (wr.alloc (.cells #[.int .i64 i, .int .i64 a, .int .i64 b] 57)).heap.size := by simp; omega
      rw [hwd] at z0 z1 z2
      generalize wr.alloc (.cells #[.int .i64 i, .int .i64 a, .int .i64 b] 57) = WY at *
      refine rgE_run 7 rfl (by kernel_rfl) (by kernel_rfl) (by decide) (fun K hK => ?_)
      refine wp_push_nd WY.drew (.tmp 35) (.tmp 37) rfl lo (.slice A out.length c) out ⟨i, a, b⟩ (w.heap.size + 1) 1 rfl HRY.out rfl z0 z1 z2 (by omega) hszY ?_
      intro v9 w9 ho9 hg9 hv9
      have hnb : ∀ q, (Value.slice A out.length c).ownBlock = some q → q ≠ bf := fun q hq e => own_ne HBY.out HRY.out (by decide) bf rfl (e ▸ hq)
      have m0 := cell_mark (by exact y0) hg9 hnb
      have m1 := cell_mark (by exact y1) hg9 (fun q hq => by have := HV.out q hq; show q ≠ w.heap.size; omega)
      have m2 := cell_mark (by exact y2) hg9 (fun q hq => by have := HV.out q hq; show q ≠ w.heap.size; omega)
      have m3 := cell_mark (by exact y3) hg9 (fun q hq => by have := HV.out q hq; show q ≠ w.heap.size; omega)
      have HB9 := Lib.hid ((own_drew HBY.out).kept hg9 (.inr (fun e => own_ne HBY.out HRY.out (by decide) bf rfl e.symm)))
      have HM9 := Lib.hid ((HMY.out.below (Below.refl _ _).drew).grown hg9 (fun e => HMY.out.ne HRY.out _ e.symm rfl))
      have HO9 := Lib.hid ho9
      have hsz9 : WY.heap.size ≤ w9.heap.size := hg9.size
      have HF9 := Lib.hid (show Fr (PR lo (KF bm) (Value.slice A out.length c).ownBlock) w w9 from (Fr.of_below (show Below w.heap.size w WY.drew from HAY.out.drew)).trans (Fr.of_grown hg9 (fun q o hq ho => by
        obtain ⟨h1, cur, h2⟩ := own_kind HRY.out hq ho
        exact ⟨h1, .inr hq⟩)))
      have HRC := Lib.hid (show RC w (.slice A out.length c) v9 from hv9.elim .inl (fun h => .inr ⟨_, h, HAY.out.size⟩))
      clear hg9 ho9 hv9 HBY HRY HMY HAY y0 y1 y2 y3 z0 z1 z2
      obtain ⟨A9, c9, rfl⟩ := own_shape HO9.out
      generalize hN9 : (out ++ [(⟨i, a, b⟩ : Nd)]).length = n9 at *
      rw [List.length_append, List.length_singleton] at hN9
      clear hHeld
      refine hK.out _ _ (.inr ⟨m0, m1, m2, m3⟩) (fun hHeld => ?_)
      clear hK K
      try simp only [Act.put, List.setIfInBounds_toArray, List.set_cons_zero, List.set_cons_succ]
      refine rgE_take (v := ?_) 8 12 rfl (by kernel_rfl) (by kernel_rfl) (by kernel_rfl) (by kernel_rfl) (by kernel_rfl) (fun _ _ _ h => h) (by kernel_rfl) ?_ (by assumption) ?_
      rotate_left
      · (intro w' hSw; (try dsimp only at hSw); go_simp; first | done | with_reducible rfl)
      simp only [Act.put, List.setIfInBounds_toArray, List.set_cons_zero, List.set_cons_succ]
      refine rgE_take (v := ?_) 9 12 rfl (by kernel_rfl) (by kernel_rfl) (by kernel_rfl) (by kernel_rfl) (by kernel_rfl) (fun _ _ _ h => h) (by kernel_rfl) ?_ (by assumption) ?_
      rotate_left
      · (intro w' hSw; (try dsimp only at hSw); go_simp; first | done | with_reducible rfl)
      simp only [Act.put, List.setIfInBounds_toArray, List.set_cons_zero, List.set_cons_succ]
      have f0 := HB9.out.frozenAt 1
      have hst := HB9.out.stored 1 (.slice A9 n9 c9)
      have HST := Lib.hid hst.1
      have HR9 := Lib.hid (HO9.out.kept hst.2 (.inr (fun e => own_ne HB9.out HO9.out (by decide) bf rfl e)))
      have HMZ := Lib.hid (HM9.out.grown hst.2 (fun e => HM9.out.ne HB9.out _ e.symm rfl))
      have HFZ := Lib.hid (HF9.out.trans (Fr.of_grown hst.2 (fun q o hq ho => by
        obtain ⟨h1, cur, h2⟩ := own_kind HB9.out hq ho
        exact ⟨h1, .inl (.inl ⟨cur, _, h2⟩)⟩)))
      have hbw : bf ≠ w.heap.size := by omega
      replace m1 := (World.cell?_setCell_far w9 ⟨bf, 1, none⟩ ⟨w.heap.size, 0, none⟩ (.slice A9 n9 c9) hbw).trans m1
      replace m2 := (World.cell?_setCell_far w9 ⟨bf, 1, none⟩ ⟨w.heap.size, 1, none⟩ (.slice A9 n9 c9) hbw).trans m2
      replace m3 := (World.cell?_setCell_far w9 ⟨bf, 1, none⟩ ⟨w.heap.size, 2, none⟩ (.slice A9 n9 c9) hbw).trans m3
      clear hst
      refine rgE_last rfl (by kernel_rfl) (by kernel_rfl) (by kernel_rfl) (fun K hK => ?_)
      go_simp
      go_simp
      clear hHeld
      refine hK.out _ _ ?_
      clear hK K
      try simp only [Act.put, List.setIfInBounds_toArray, List.set_cons_zero, List.set_cons_succ]
      have r0 := HST.out
      have r1 := HR9.out
      have r2 := HFZ.out
      have r3 := r0.cellAt 1 (by decide)
      have r4 := r0.cellAt 2 (by decide)
      have r5 := HMZ.out
      have hszZ : w.heap.size ≤ (w9.setCell ⟨bf, 1, none⟩ (.slice A9 n9 c9)).heap.size := r2.size
      simp only [List.set_cons_zero, List.set_cons_succ, List.getElem?_cons_zero, List.getElem?_cons_succ] at r0 r3 r4
      generalize w9.setCell ⟨bf, 1, none⟩ (.slice A9 n9 c9) = WF at *
      have HN9 := Lib.hid hN9
      have HR0 := Lib.hid r0
      have HR1 := Lib.hid r1
      have HR2 := Lib.hid r2
      have HR5 := Lib.hid r5
      clear HST HR9 HFZ HB9 HO9 HF9 HMZ HM9 f0 m0 k0 x0 x1 x2 r0 r1 r2 r5 hN9
      have hn9 : n9 ≤ 1099511627776 := by have := HN9.out; omega
      have HKP2 : Hid (putF 57 (knF out) (.agg #[.int .i64 i, .int .i64 a, .int .i64 b]) ((n9 : Int) + 1) (knF (out ++ [⟨i, a, b⟩]))) := Lib.hid (by
        have h := HKP.out
        have := HN9.out
        rw [show (out.length : Int) + 2 = (n9 : Int) + 1 by omega] at h
        exact h)
      have hwz : (Lit.int .i64 ((n9 : Int) + 1)).wf = true := by
        simp [Lit.wf, IntKind.min, IntKind.max, IntKind.signed, IntKind.bits]
        omega
      obtain ⟨wz, hz1, hz2, hz3⟩ := (HR5.out.below (Below.refl WF.heap.size WF).drew).put lawNode Try.underlying92 HKL.out hwz (by omega) HKP2.out
      have HZ2 := Lib.hid hz2
      have HZB := Lib.hid ((own_drew HR0.out).kept hz3 (.inr (fun e => HR5.out.ne HR0.out bm e rfl)))
      have HZR := Lib.hid ((own_drew HR1.out).kept hz3 (.inr (fun e => HR5.out.ne HR1.out bm e rfl)))
      have HZF := Lib.hid ((HR2.out.trans (Fr.of_below (Below.refl WF.heap.size WF).drew)).trans (Fr.of_grown (P := PR lo (KF bm) (Value.slice A out.length c).ownBlock) hz3 (fun q o hq ho => by
        simp only [Option.some.injEq] at hq
        subst hq
        exact ⟨HBM.out, .inl (.inr ⟨rfl, (HR5.out.below (Below.refl WF.heap.size WF).drew).at_ ho⟩)⟩)))
      clear HBX HRX HMX HAX hwd k2 hszY hsz9 hnb hz2 hz3 HR0 HR1 HR2 HR5 HKP HKP2 hwz
      go_wp2_with (first
        | (go_at_call 44
           refine (c_length _ _ _ _).mono ?_
           rintro e w' ⟨rfl, rfl⟩)
        )
      refine wp_region_heldE 6 (S := (fun w' => w'.cell? ⟨bf, 2, none⟩ = some (.map (some bm)) ∧ (w'.cell? ⟨w.heap.size, 0, none⟩ = some (.int .i64 i) ∧ w'.cell? ⟨w.heap.size, 1, none⟩ = some (.int .i64 a) ∧ w'.cell? ⟨w.heap.size, 2, none⟩ = some (.int .i64 b)))) (by kernel_rfl) ?_ (fun hHeld => ?_)
      · exact ⟨r4, m1, m2, m3⟩
      refine rgE_take (v := ?_) 0 12 rfl (by kernel_rfl) (by kernel_rfl) (by kernel_rfl) (by kernel_rfl) (by kernel_rfl) (fun _ _ _ h => h) (by kernel_rfl) ?_ (by assumption) ?_
      rotate_left
      · (intro w' hSw; (try dsimp only at hSw); go_simp; first | done | with_reducible rfl)
      simp only [Act.put, List.setIfInBounds_toArray, List.set_cons_zero, List.set_cons_succ]
      refine rgE_take (v := ?_) 1 12 rfl (by kernel_rfl) (by kernel_rfl) (by kernel_rfl) (by kernel_rfl) (by kernel_rfl) (fun _ _ _ h => h) (by kernel_rfl) ?_ (by assumption) ?_
      rotate_left
      · (intro w' hSw; (try dsimp only at hSw); go_simp; first | done | with_reducible rfl)
      simp only [Act.put, List.setIfInBounds_toArray, List.set_cons_zero, List.set_cons_succ]
      refine rgE_take (v := ?_) 2 12 rfl (by kernel_rfl) (by kernel_rfl) (by kernel_rfl) (by kernel_rfl) (by kernel_rfl) (fun _ _ _ h => h) (by kernel_rfl) ?_ (by assumption) ?_
      rotate_left
      · (intro w' hSw; (try dsimp only at hSw); go_simp; first | done | with_reducible rfl)
      simp only [Act.put, List.setIfInBounds_toArray, List.set_cons_zero, List.set_cons_succ]
      refine rgE_take (v := ?_) 3 12 rfl (by kernel_rfl) (by kernel_rfl) (by kernel_rfl) (by kernel_rfl) (by kernel_rfl) (fun _ _ _ h => h) (by kernel_rfl) ?_ (by assumption) ?_
      rotate_left
      · (intro w' hSw; (try dsimp only at hSw); go_simp; first | done | with_reducible rfl)
      simp only [Act.put, List.setIfInBounds_toArray, List.set_cons_zero, List.set_cons_succ]
      refine rgE_take (v := ?_) 4 12 rfl (by kernel_rfl) (by kernel_rfl) (by kernel_rfl) (by kernel_rfl) (by kernel_rfl) (fun _ _ _ h => h) (by kernel_rfl) ?_ (by assumption) ?_
      rotate_left
      · (intro w' hSw; (try dsimp only at hSw); go_simp; first | done | with_reducible rfl)
      simp only [Act.put, List.setIfInBounds_toArray, List.set_cons_zero, List.set_cons_succ]
      refine rgE_take (v := ?_) 5 12 rfl (by kernel_rfl) (by kernel_rfl) (by kernel_rfl) (by kernel_rfl) (by kernel_rfl) (fun _ _ _ h => h) (by kernel_rfl) ?_ (by assumption) ?_
      rotate_left
      · (intro w' hSw; (try dsimp only at hSw); go_simp; first | done | with_reducible rfl)
      simp only [Act.put, List.setIfInBounds_toArray, List.set_cons_zero, List.set_cons_succ]
      refine rgE_last rfl (by kernel_rfl) (by kernel_rfl) (by kernel_rfl) (fun K hK => ?_)
      go_simp
      clear hHeld
      refine hK.out _ _ ?_
      clear hK K
      try simp only [Act.put, List.setIfInBounds_toArray, List.set_cons_zero, List.set_cons_succ]
      clear hz1
      go_wp2_with (fail)
      go_ret
      have hn10 := HN9.out
      exact ⟨by rw [HM.out]; go_num, by rw [HM.out]; exact ⟨_, ⟨HZB.out, by rw [List.length_append, List.length_singleton, HN9.out]; exact HZR.out, by rw [List.length_append, List.length_singleton]; exact HZ2.out, HBM.out⟩, HZF.out, HRC.out⟩⟩
    · rw [hi] at hk
      have HM := Lib.hid (mkN_some hab hi)
      clear hi
      dsimp only [Option.map_some] at hk
      refine wp_region_held_drew (S := (fun w' => w'.cell? ⟨bf, 2, none⟩ = some (.map (some bm)) ∧ (w'.cell? ⟨w.heap.size, 0, none⟩ = some (.int .i64 i) ∧ w'.cell? ⟨w.heap.size, 1, none⟩ = some (.int .i64 a) ∧ w'.cell? ⟨w.heap.size, 2, none⟩ = some (.int .i64 b)) ∧ (Instr.lookup 92 (.map (some bm)) (.agg #[.int .i64 i, .int .i64 a, .int .i64 b]) true).run Try.prog w' = .ok (.tuple #[.int .i64 ((k : Int) + 2), .bool true]) w')) (by kernel_rfl) ?_ (fun hHeld => ?_)
      · exact ⟨k2, ⟨x0, x1, x2⟩, hk⟩
      refine rg_take (v := ?_) 0 rfl (by kernel_rfl) (by kernel_rfl) (by kernel_rfl) (fun _ _ _ h => h) (by kernel_rfl) ?_ (by assumption) ?_
      rotate_left
      · (intro w' hSw; (try dsimp only at hSw); go_simp; first | done | with_reducible rfl)
      simp only [Act.put, List.setIfInBounds_toArray, List.set_cons_zero, List.set_cons_succ]
      refine rg_take (v := ?_) 1 rfl (by kernel_rfl) (by kernel_rfl) (by kernel_rfl) (fun _ _ _ h => h) (by kernel_rfl) ?_ (by assumption) ?_
      rotate_left
      · (intro w' hSw; (try dsimp only at hSw); go_simp; first | done | with_reducible rfl)
      simp only [Act.put, List.setIfInBounds_toArray, List.set_cons_zero, List.set_cons_succ]
      refine rg_take (v := ?_) 2 rfl (by kernel_rfl) (by kernel_rfl) (by kernel_rfl) (fun _ _ _ h => h) (by kernel_rfl) ?_ (by assumption) ?_
      rotate_left
      · (intro w' hSw; (try dsimp only at hSw); go_simp; first | done | with_reducible rfl)
      simp only [Act.put, List.setIfInBounds_toArray, List.set_cons_zero, List.set_cons_succ]
      refine rg_take (v := ?_) 3 rfl (by kernel_rfl) (by kernel_rfl) (by kernel_rfl) (fun _ _ _ h => h) (by kernel_rfl) ?_ (by assumption) ?_
      rotate_left
      · (intro w' hSw; (try dsimp only at hSw); go_simp; first | done | with_reducible rfl)
      simp only [Act.put, List.setIfInBounds_toArray, List.set_cons_zero, List.set_cons_succ]
      refine rg_take (v := ?_) 4 rfl (by kernel_rfl) (by kernel_rfl) (by kernel_rfl) (fun _ _ _ h => h) (by kernel_rfl) ?_ (by assumption) ?_
      rotate_left
      · (intro w' hSw; (try dsimp only at hSw); go_simp; first | done | with_reducible rfl)
      simp only [Act.put, List.setIfInBounds_toArray, List.set_cons_zero, List.set_cons_succ]
      refine rg_take (v := ?_) 5 rfl (by kernel_rfl) (by kernel_rfl) (by kernel_rfl) (fun _ _ _ h => h) (by kernel_rfl) ?_ (by assumption) ?_
      rotate_left
      · (intro w' hSw; (try dsimp only at hSw); go_simp; first | done | with_reducible rfl)
      simp only [Act.put, List.setIfInBounds_toArray, List.set_cons_zero, List.set_cons_succ]
      refine rg_take (v := ?_) 6 rfl (by kernel_rfl) (by kernel_rfl) (by kernel_rfl) (fun _ _ _ h => h) (by kernel_rfl) ?_ (by assumption) ?_
      rotate_left
      · (intro w' hSw; (try dsimp only at hSw); go_simp; first | done | with_reducible rfl)
      simp only [Act.put, List.setIfInBounds_toArray, List.set_cons_zero, List.set_cons_succ]
      refine rg_take (v := ?_) 7 rfl (by kernel_rfl) (by kernel_rfl) (by kernel_rfl) (fun _ _ _ h => h) (by kernel_rfl) ?_ (by assumption) ?_
      rotate_left
      · (intro w' hSw; (try dsimp only at hSw); go_simp; first | done | with_reducible rfl)
      simp only [Act.put, List.setIfInBounds_toArray, List.set_cons_zero, List.set_cons_succ]
      refine rg_take (v := ?_) 8 rfl (by kernel_rfl) (by kernel_rfl) (by kernel_rfl) (fun _ _ _ h => h) (by kernel_rfl) ?_ (by assumption) ?_
      rotate_left
      · (intro w' hSw; (try dsimp only at hSw); go_simp; first | done | with_reducible rfl)
      simp only [Act.put, List.setIfInBounds_toArray, List.set_cons_zero, List.set_cons_succ]
      refine rg_take (v := ?_) 9 rfl (by kernel_rfl) (by kernel_rfl) (by kernel_rfl) (fun _ _ _ h => h) (by kernel_rfl) ?_ (by assumption) ?_
      rotate_left
      · (intro w' hSw; (try dsimp only at hSw); go_simp; first | done | with_reducible rfl)
      simp only [Act.put, List.setIfInBounds_toArray, List.set_cons_zero, List.set_cons_succ]
      refine rg_take (v := ?_) 10 rfl (by kernel_rfl) (by kernel_rfl) (by kernel_rfl) (fun _ _ _ h => h) (by kernel_rfl) ?_ (by assumption) ?_
      rotate_left
      · (intro w' hSw; (try dsimp only at hSw); go_simp; first | done | with_reducible rfl)
      simp only [Act.put, List.setIfInBounds_toArray, List.set_cons_zero, List.set_cons_succ]
      refine wpAnyH_done (by kernel_rfl) ?_ _
      clear hHeld
      clear hk
      go_wp2_with (fail)
      go_ret
      exact ⟨by rw [HM.out]; rfl, by rw [HM.out]; exact ⟨_, FO.below ⟨HB.out, HR.out, HMP.out, HBM.out⟩ (Below.refl _ _).drew, Fr.of_below HA.out.drew, RC.refl _ _⟩⟩
end Go.Proofs.Ytndihacmlkgkbaa
