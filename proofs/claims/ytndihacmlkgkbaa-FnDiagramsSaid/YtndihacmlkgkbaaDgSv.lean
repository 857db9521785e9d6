/- Contract of l22Node with the row at hand: only the box and that row may change. Condition: the sizes. -/
import Derived.Test.YtndihacmlkgkbaaDgN
namespace Go.Proofs.Ytndihacmlkgkbaa
open Go.RowKit

def SV (lo : Nat) (w : World) (bo : Nat) (v : Value) (out : List Nd) : Prop := w.ownsRow lo 77 1 (.slice (some ⟨bo, 0, none⟩) 1 1) 1 [v] ∧ w.ownsRow lo 57 3 v out.length (ndCells out)
theorem SV.sb {lo bo : Nat} {w : World} {v : Value} {out : List Nd} (h : SV lo w bo v out) : SB lo w bo out := ⟨v, h.1, h.2⟩
theorem SV.below {lo bo : Nat} {w w' : World} {v : Value} {out : List Nd} (h : SV lo w bo v out) (hb : Below w.heap.size w w') : SV lo w' bo v out := ⟨own_below h.1 hb, own_below h.2 hb⟩
theorem SV.other {lo bo : Nat} {w w' : World} {v : Value} {out : List Nd} {b2 s2 n2 : Nat} {e2 : TypeId} {v2 : Value} {x2 : List Value} (h : SV lo w bo v out) (ho : w.ownsRow b2 e2 s2 v2 n2 x2) (h1 : e2 ≠ 77) (h2 : e2 ≠ 57) (hg : w.grownBy w' v2.ownBlock) : SV lo w' bo v out := by
  obtain ⟨hb, hr⟩ := h
  refine ⟨hb.kept hg ?_, hr.kept hg ?_⟩
  · exact .inr (fun e => own_ne ho hb h1 bo e.symm rfl)
  · rcases hv : v.ownBlock with _ | q
    · exact .inl rfl
    · exact .inr (fun e => own_ne ho hr h2 q e.symm hv)
def PX (lo bo : Nat) (row : Option Nat) (k : Nat) (_ : Obj) : Prop := lo ≤ k ∧ (k = bo ∨ row = some k)
theorem PX.below {lo bo : Nat} {row : Option Nat} {w a : World} (h : Fr (PX lo bo row) w a) (hl : lo ≤ w.heap.size) : Below lo w a := h.below (fun _ _ hp => hp.1) hl
theorem PX.cell {lo bo k off : Nat} {row : Option Nat} {w a : World} {x : Value} (h : Fr (PX lo bo row) w a) (hc : w.cell? ⟨k, off, none⟩ = some x) (h1 : k ≠ bo) (h2 : row ≠ some k) : a.cell? ⟨k, off, none⟩ = some x :=
  h.cell hc (fun _ _ hp => hp.2.elim h1 h2)
theorem PX.own {lo bo : Nat} {row : Option Nat} {w a : World} {base : Nat} {e : TypeId} {size n : Nat} {v : Value} {xs : List Value} (h : Fr (PX lo bo row) w a) (ho : w.ownsRow base e size v n xs) (h1 : v.ownBlock ≠ some bo) (h2 : ∀ q, row = some q → v.ownBlock ≠ some q) : a.ownsRow base e size v n xs :=
  h.own ho (fun g _ _ _ hg hp => hp.2.elim (fun e => h1 (e ▸ hg)) (fun e => h2 g e hg))
set_option maxRecDepth 100000 in
theorem c_l22NodeV (lo bo : Nat) (i a b : Int) (v : Value) (out : List Nd) (w : World) (hs : out.length ≤ 1099511627775) (hlo : lo ≤ w.heap.size) (h : SV lo w bo v out) :
    Calls Try.prog 61 #[.pointer (some ⟨bo, 0, none⟩), .int .i64 i, .int .i64 a, .int .i64 b] w fun e w' => e = .returned (.int .i64 (mkN out ⟨i, a, b⟩).2) ∧ ∃ v', SV lo w' bo v' (mkN out ⟨i, a, b⟩).1 ∧ Fr (PX lo bo v.ownBlock) w w' ∧ RC w v v' := by
  by_cases hab : a = b
  · subst hab
    have hm : mkN out ⟨i, a, a⟩ = (out, a) := by unfold mkN; rw [if_pos rfl]
    rw [hm]
    have H := Lib.hid h
    clear h
    go_enter Try.func61, Try.ntmps61
    go_wp2
    go_ret
    exact ⟨rfl, v, H.out, Fr.refl _ _, RC.refl _ _⟩
  · have hne : (a == b) = false := by simpa using hab
    obtain ⟨hbox, hrow⟩ := h
    have hblt := (own_ge hbox)
    have hal := below_alloc (Below.refl w.heap.size w) (.cells #[.int .i64 i, .int .i64 a, .int .i64 b] 57)
    have HB := Lib.hid (own_below hbox hal)
    have HR := Lib.hid (own_below hrow hal)
    have x0 : (w.alloc (.cells #[.int .i64 i, .int .i64 a, .int .i64 b] 57)).cell? ⟨w.heap.size, 0, none⟩ = some (.int .i64 i) := by go_simp
    have x1 : (w.alloc (.cells #[.int .i64 i, .int .i64 a, .int .i64 b] 57)).cell? ⟨w.heap.size, 1, none⟩ = some (.int .i64 a) := by go_simp
    have x2 : (w.alloc (.cells #[.int .i64 i, .int .i64 a, .int .i64 b] 57)).cell? ⟨w.heap.size, 2, none⟩ = some (.int .i64 b) := by go_simp
    have HA := Lib.hid hal
    have HV := Lib.hid (fun q hq => (hrow.lt q hq).2)
    clear hal hbox hrow
    go_enter Try.func61, Try.ntmps61
    go_wp2
    generalize w.alloc (.cells #[.int .i64 i, .int .i64 a, .int .i64 b] 57) = W at *
    have k0 := HB.out.cellAt 0 (by decide)
    simp only [List.getElem?_cons_zero] at k0
    obtain ⟨A, c, rfl⟩ := own_shape HR.out
    have HRD := Lib.hid (Rd.own HR.out)
    go_loopw [10] (fun u wr => ∃ k : Nat, k ≤ out.length ∧ u = .int .i64 k ∧ Below W.heap.size W wr ∧ Hid (∀ (j : Nat) (y : Nd), j < k → out[j]? = some y → y ≠ ⟨i, a, b⟩)) (fun u _ => out.length - (intOf u).toNat)
    case atStart => exact ⟨0, Nat.zero_le _, rfl, Below.refl _ _, Lib.hid (fun j y hj => absurd hj (by omega))⟩
    case round =>
      obtain ⟨k, hk, rfl, hb, hall⟩ := hrel
      replace k0 := cell_later hb k0
      replace x0 := cell_later hb x0
      replace x1 := cell_later hb x1
      replace x2 := cell_later hb x2
      by_cases hlt : k < out.length
      · obtain ⟨y, hy⟩ : ∃ y, out[k]? = some y := ⟨_, List.getElem?_eq_getElem hlt⟩
        clear HV
        obtain ⟨b1, o1, rfl, _, g0, g1, g2⟩ := (HRD.out.below hb).nd hy
        have HY := Lib.hid hy
        have HBB := Lib.hid hb
        have hk0 : (0 : Int) ≤ (k : Int) := by omega
        have hk1 : (k : Int) < out.length := by omega
        clear hy hb
        obtain ⟨yi, ya, yb⟩ := y
        dsimp only at g0 g1 g2
        go_wp2_with (fail)
        refine wp_region_held_drew (S := (fun w' => w'.cell? ⟨bo, 0, none⟩ = some (.slice (some ⟨b1, o1, none⟩) out.length c) ∧ (w'.cell? ⟨w.heap.size, 0, none⟩ = some (.int .i64 i) ∧ w'.cell? ⟨w.heap.size, 1, none⟩ = some (.int .i64 a) ∧ w'.cell? ⟨w.heap.size, 2, none⟩ = some (.int .i64 b)) ∧ w'.cell? ⟨b1, o1 + k * 3, none⟩ = some (.int .i64 yi) ∧ w'.cell? ⟨b1, o1 + k * 3 + 1, none⟩ = some (.int .i64 ya) ∧ w'.cell? ⟨b1, o1 + k * 3 + 2, none⟩ = some (.int .i64 yb))) (by kernel_rfl) ?_ (fun hHeld => ?_)
        · exact ⟨k0, ⟨x0, x1, x2⟩, g0, g1, g2⟩
        refine rg_take (v := ?_) 0 rfl (by kernel_rfl) (by kernel_rfl) (by kernel_rfl) (fun _ _ _ h => h) (by kernel_rfl) ?_ (by assumption) ?_
        rotate_left
        · (intro w' hSw; (try dsimp only at hSw); go_simp; first | done | with_reducible rfl)
        simp only [Act.put, List.setIfInBounds_toArray, List.set_cons_zero, List.set_cons_succ]
        refine rg_take (v := ?_) 1 rfl (by kernel_rfl) (by kernel_rfl) (by kernel_rfl) (fun _ _ _ h => h) (by kernel_rfl) ?_ (by assumption) ?_
        rotate_left
        · (intro w' hSw; (try dsimp only at hSw); go_simp; first | done | with_reducible rfl)
        simp only [Act.put, List.setIfInBounds_toArray, List.set_cons_zero, List.set_cons_succ]
        refine rg_take (v := ?_) 2 rfl (by kernel_rfl) (by kernel_rfl) (by kernel_rfl) (fun _ _ _ h => h) (by kernel_rfl) ?_ (by assumption) ?_
        rotate_left
        · (intro w' hSw; (try dsimp only at hSw); go_simp; first | done | with_reducible rfl)
        simp only [Act.put, List.setIfInBounds_toArray, List.set_cons_zero, List.set_cons_succ]
        refine rg_take (v := ?_) 3 rfl (by kernel_rfl) (by kernel_rfl) (by kernel_rfl) (fun _ _ _ h => h) (by kernel_rfl) ?_ (by assumption) ?_
        rotate_left
        · (intro w' hSw; (try dsimp only at hSw); go_simp; first | done | with_reducible rfl)
        simp only [Act.put, List.setIfInBounds_toArray, List.set_cons_zero, List.set_cons_succ]
        refine rg_take (v := ?_) 4 rfl (by kernel_rfl) (by kernel_rfl) (by kernel_rfl) (fun _ _ _ h => h) (by kernel_rfl) ?_ (by assumption) ?_
        rotate_left
        · (intro w' hSw; (try dsimp only at hSw); go_simp; first | done | with_reducible rfl)
        simp only [Act.put, List.setIfInBounds_toArray, List.set_cons_zero, List.set_cons_succ]
        refine rg_take (v := ?_) 5 rfl (by kernel_rfl) (by kernel_rfl) (by kernel_rfl) (fun _ _ _ h => h) (by kernel_rfl) ?_ (by assumption) ?_
        rotate_left
        · (intro w' hSw; (try dsimp only at hSw); go_simp; first | done | with_reducible rfl)
        simp only [Act.put, List.setIfInBounds_toArray, List.set_cons_zero, List.set_cons_succ]
        refine rg_take (v := ?_) 6 rfl (by kernel_rfl) (by kernel_rfl) (by kernel_rfl) (fun _ _ _ h => h) (by kernel_rfl) ?_ (by assumption) ?_
        rotate_left
        · (intro w' hSw; (try dsimp only at hSw); go_simp; first | done | with_reducible rfl)
        simp only [Act.put, List.setIfInBounds_toArray, List.set_cons_zero, List.set_cons_succ]
        refine rg_take (v := ?_) 7 rfl (by kernel_rfl) (by kernel_rfl) (by kernel_rfl) (fun _ _ _ h => h) (by kernel_rfl) ?_ (by assumption) ?_
        rotate_left
        · (intro w' hSw; (try dsimp only at hSw); go_simp; first | done | with_reducible rfl)
        simp only [Act.put, List.setIfInBounds_toArray, List.set_cons_zero, List.set_cons_succ]
        obtain ⟨E, hE⟩ : ∃ E : Bool, E = decide (yi = i ∧ ya = a ∧ yb = b) := ⟨_, rfl⟩
        refine rg_take (v := .bool E) 8 rfl (by kernel_rfl) (by kernel_rfl) (by kernel_rfl) (fun _ _ _ h => h) (by kernel_rfl) ?_ (by assumption) ?_
        · intro w' hSw
          subst hE
          go_simp
          by_cases e0 : yi = i <;> by_cases e1 : ya = a <;> by_cases e2 : yb = b <;> simp [e0, e1, e2]
        simp only [Act.put, List.setIfInBounds_toArray, List.set_cons_zero, List.set_cons_succ]
        refine wpAnyH_done (by kernel_rfl) ?_ _
        clear hHeld
        have HBd := Lib.hid (HBB.out.drew)
        rcases hEE : E with _ | _
        · subst hEE
          have hEn := of_decide_eq_false hE.symm
          go_wp2_with (fail)
          go_roundw
          case rel => exact ⟨k + 1, by omega, by go_num, HBd.out, Lib.hid (fun j z hj hz => by
            rcases Nat.lt_or_ge j k with h | h
            · exact hall.out j z h hz
            · obtain rfl : j = k := by omega
              rw [HY.out] at hz
              simp only [Option.some.injEq] at hz
              subst hz
              intro e
              simp only [Nd.mk.injEq] at e
              exact hEn e)⟩
          case measure => simp [intOf]; omega
        · subst hEE
          obtain ⟨rfl, rfl, rfl⟩ := of_decide_eq_true hE.symm
          have HM := Lib.hid (mkN_some hab (idxN_go hall.out HY.out))
          go_wp2_with (fail)
          go_ret
          exact ⟨by rw [HM.out]; rfl, _, by rw [HM.out]; exact SV.below ⟨HB.out, HR.out⟩ HBd.out, Fr.of_below (below_chain HA.out HBd.out), RC.refl _ _⟩
      · obtain rfl : k = out.length := by omega
        have HM := Lib.hid (mkN_none hab (idxN_go0 hall.out))
        have HBX := Lib.hid (own_below HB.out hb)
        have HRX := Lib.hid (own_below HR.out hb)
        have HAX := Lib.hid (below_chain HA.out hb)
        have hszr := HAX.out.size
        have hW := HA.out.size
        have hblt3 := own_ge HBX.out
        clear HB HR HRD HA hb
        go_wp2_with (fail)
        refine wp_region_heldE 10 (S := (fun w' => w'.cell? ⟨bo, 0, none⟩ = some (.slice A out.length c) ∧ (w'.cell? ⟨w.heap.size, 0, none⟩ = some (.int .i64 i) ∧ w'.cell? ⟨w.heap.size, 1, none⟩ = some (.int .i64 a) ∧ w'.cell? ⟨w.heap.size, 2, none⟩ = some (.int .i64 b)))) (by kernel_rfl) ?_ (fun hHeld => ?_)
        · exact ⟨k0, x0, x1, x2⟩
        refine rgE_take (v := ?_) 0 12 rfl (by kernel_rfl) (by kernel_rfl) (by kernel_rfl) (by kernel_rfl) (by kernel_rfl) (fun _ _ _ h => h) (by kernel_rfl) ?_ (by assumption) ?_
        rotate_left
        · (intro w' hSw; (try dsimp only at hSw); go_simp; first | done | with_reducible rfl)
        simp only [Act.put, List.setIfInBounds_toArray, List.set_cons_zero, List.set_cons_succ]
        refine rgE_take (v := ?_) 1 12 rfl (by kernel_rfl) (by kernel_rfl) (by kernel_rfl) (by kernel_rfl) (by kernel_rfl) (fun _ _ _ h => h) (by kernel_rfl) ?_ (by assumption) ?_
        rotate_left
        · (intro w' hSw; (try dsimp only at hSw); go_simp; first | done | with_reducible rfl)
        simp only [Act.put, List.setIfInBounds_toArray, List.set_cons_zero, List.set_cons_succ]
        refine rgE_take (v := ?_) 2 12 rfl (by kernel_rfl) (by kernel_rfl) (by kernel_rfl) (by kernel_rfl) (by kernel_rfl) (fun _ _ _ h => h) (by kernel_rfl) ?_ (by assumption) ?_
        rotate_left
        · (intro w' hSw; (try dsimp only at hSw); go_simp; first | done | with_reducible rfl)
        simp only [Act.put, List.setIfInBounds_toArray, List.set_cons_zero, List.set_cons_succ]
        refine rgE_take (v := ?_) 3 12 rfl (by kernel_rfl) (by kernel_rfl) (by kernel_rfl) (by kernel_rfl) (by kernel_rfl) (fun _ _ _ h => h) (by kernel_rfl) ?_ (by assumption) ?_
        rotate_left
        · (intro w' hSw; (try dsimp only at hSw); go_simp; first | done | with_reducible rfl)
        simp only [Act.put, List.setIfInBounds_toArray, List.set_cons_zero, List.set_cons_succ]
        refine rgE_take (v := ?_) 4 12 rfl (by kernel_rfl) (by kernel_rfl) (by kernel_rfl) (by kernel_rfl) (by kernel_rfl) (fun _ _ _ h => h) (by kernel_rfl) ?_ (by assumption) ?_
        rotate_left
        · (intro w' hSw; (try dsimp only at hSw); go_simp; first | done | with_reducible rfl)
        simp only [Act.put, List.setIfInBounds_toArray, List.set_cons_zero, List.set_cons_succ]
        refine rgE_take (v := ?_) 5 12 rfl (by kernel_rfl) (by kernel_rfl) (by kernel_rfl) (by kernel_rfl) (by kernel_rfl) (fun _ _ _ h => h) (by kernel_rfl) ?_ (by assumption) ?_
        rotate_left
        · (intro w' hSw; (try dsimp only at hSw); go_simp; first | done | with_reducible rfl)
        simp only [Act.put, List.setIfInBounds_toArray, List.set_cons_zero, List.set_cons_succ]
        refine rgE_run 6 rfl (by kernel_rfl) (by kernel_rfl) (by decide) (fun K hK => ?_)
        go_simp
        go_wp2
        have y0 : (wr.alloc (.cells #[.int .i64 i, .int .i64 a, .int .i64 b] 57)).cell? ⟨bo, 0, none⟩ = some (.slice A out.length c) := by rw [World.cell?_alloc_lt _ _ _ (show bo < wr.heap.size from hblt3.2)]; exact k0
        have hwl := World.block_lt_of_cell? _ _ x0
        dsimp only at hwl
        have y1 : (wr.alloc (.cells #[.int .i64 i, .int .i64 a, .int .i64 b] 57)).cell? ⟨w.heap.size, 0, none⟩ = some (.int .i64 i) := by rw [World.cell?_alloc_lt _ _ _ (show w.heap.size < wr.heap.size from hwl)]; exact x0
        have y2 : (wr.alloc (.cells #[.int .i64 i, .int .i64 a, .int .i64 b] 57)).cell? ⟨w.heap.size, 1, none⟩ = some (.int .i64 a) := by rw [World.cell?_alloc_lt _ _ _ (show w.heap.size < wr.heap.size from hwl)]; exact x1
        have y3 : (wr.alloc (.cells #[.int .i64 i, .int .i64 a, .int .i64 b] 57)).cell? ⟨w.heap.size, 2, none⟩ = some (.int .i64 b) := by rw [World.cell?_alloc_lt _ _ _ (show w.heap.size < wr.heap.size from hwl)]; exact x2
        clear hHeld
        refine hK.out _ _ (.inr (by exact ⟨y0, y1, y2, y3⟩)) (fun hHeld => ?_)
        clear hK K
        try simp only [Act.put, List.setIfInBounds_toArray, List.set_cons_zero, List.set_cons_succ]
        have HBY := Lib.hid (own_below (by exact HBX.out) (below_alloc (Below.refl wr.heap.size wr) (.cells #[.int .i64 i, .int .i64 a, .int .i64 b] 57)))
        have HRY := Lib.hid (own_below (by exact HRX.out) (below_alloc (Below.refl wr.heap.size wr) (.cells #[.int .i64 i, .int .i64 a, .int .i64 b] 57)))
        have HAY := Lib.hid (below_alloc (by exact HAX.out) (.cells #[.int .i64 i, .int .i64 a, .int .i64 b] 57))
        have z0 : (wr.alloc (.cells #[.int .i64 i, .int .i64 a, .int .i64 b] 57)).cell? ⟨wr.heap.size, 0, none⟩ = some (.int .i64 i) := by go_simp
        have z1 : (wr.alloc (.cells #[.int .i64 i, .int .i64 a, .int .i64 b] 57)).cell? ⟨wr.heap.size, 1, none⟩ = some (.int .i64 a) := by go_simp
        have z2 : (wr.alloc (.cells #[.int .i64 i, .int .i64 a, .int .i64 b] 57)).cell? ⟨wr.heap.size, 2, none⟩ = some (.int .i64 b) := by go_simp
        have hszY : lo ≤ (wr.alloc (.cells #[.int .i64 i, .int .i64 a, .int .i64 b] 57)).heap.size := by simp; omega
        generalize hgY : wr.heap.size = gY at *
        generalize wr.alloc (.cells #[.int .i64 i, .int .i64 a, .int .i64 b] 57) = WY at *
        refine rgE_run 7 rfl (by kernel_rfl) (by kernel_rfl) (by decide) (fun K hK => ?_)
        refine wp_push_nd WY.drew (.tmp 43) (.tmp 45) rfl lo (.slice A out.length c) out ⟨i, a, b⟩ gY 1 rfl HRY.out rfl z0 z1 z2 (by omega) hszY ?_
        intro v9 w9 ho9 hg9 hv9
        have hnb : ∀ q, (Value.slice A out.length c).ownBlock = some q → q ≠ bo := fun q hq e => own_ne HBY.out HRY.out (by decide) bo rfl (e ▸ hq)
        have m0 := cell_mark (by exact y0) hg9 hnb
        have m1 := cell_mark (by exact y1) hg9 (fun q hq => by have := HV.out q hq; show q ≠ w.heap.size; omega)
        have m2 := cell_mark (by exact y2) hg9 (fun q hq => by have := HV.out q hq; show q ≠ w.heap.size; omega)
        have m3 := cell_mark (by exact y3) hg9 (fun q hq => by have := HV.out q hq; show q ≠ w.heap.size; omega)
        have HB9 := Lib.hid ((own_drew HBY.out).kept hg9 (.inr (fun e => own_ne HBY.out HRY.out (by decide) bo rfl e.symm)))
        have HO9 := Lib.hid ho9
        have hsz9 : WY.heap.size ≤ w9.heap.size := hg9.size
        have HF9 := Lib.hid (show Fr (PX lo bo (Value.slice A out.length c).ownBlock) w w9 from (Fr.of_below (show Below w.heap.size w WY.drew from HAY.out.drew)).trans (Fr.of_grown hg9 (fun q o hq ho => ⟨(HRY.out.lt q hq).1, .inr hq⟩)))
        have HRC := Lib.hid (show RC w (.slice A out.length c) v9 from hv9.elim .inl (fun h => .inr ⟨_, h, by have := HAY.out.size; exact this⟩))
        clear hg9 ho9 hv9 HBY HRY HAY y0 y1 y2 y3
        obtain ⟨A9, c9, rfl⟩ := own_shape HO9.out
        generalize hN9 : (out ++ [(⟨i, a, b⟩ : Nd)]).length = n9 at *
        rw [List.length_append, List.length_singleton] at hN9
        clear hHeld
        refine hK.out _ _ (.inr ⟨m0, m1, m2, m3⟩) (fun hHeld => ?_)
        clear hK K
        try simp only [Act.put, List.setIfInBounds_toArray, List.set_cons_zero, List.set_cons_succ]
        refine rgE_take (v := ?_) 8 12 rfl (by kernel_rfl) (by kernel_rfl) (by kernel_rfl) (by kernel_rfl) (by kernel_rfl) (fun _ _ _ h => h) (by kernel_rfl) ?_ (by assumption) ?_
        rotate_left
        · (intro w' hSw; (try dsimp only at hSw); go_simp; first | done | with_reducible rfl)
        simp only [Act.put, List.setIfInBounds_toArray, List.set_cons_zero, List.set_cons_succ]
        refine rgE_take (v := ?_) 9 12 rfl (by kernel_rfl) (by kernel_rfl) (by kernel_rfl) (by kernel_rfl) (by kernel_rfl) (fun _ _ _ h => h) (by kernel_rfl) ?_ (by assumption) ?_
        rotate_left
        · (intro w' hSw; (try dsimp only at hSw); go_simp; first | done | with_reducible rfl)
        simp only [Act.put, List.setIfInBounds_toArray, List.set_cons_zero, List.set_cons_succ]
        have f0 := HB9.out.frozenAt 0
        have hst := HB9.out.stored 0 (.slice A9 n9 c9)
        have HST := Lib.hid hst.1
        have HR9 := Lib.hid (HO9.out.kept hst.2 (.inr (fun e => own_ne HB9.out HO9.out (by decide) bo rfl e)))
        have HFZ := Lib.hid (HF9.out.trans (Fr.of_grown hst.2 (fun q o hq ho => by
          simp only [Option.some.injEq] at hq
          subst hq
          exact ⟨(own_ge HB9.out).1, .inl rfl⟩)))
        clear hst
        refine rgE_last rfl (by kernel_rfl) (by kernel_rfl) (by kernel_rfl) (fun K hK => ?_)
        go_simp
        go_simp
        clear hHeld
        refine hK.out _ _ ?_
        clear hK K
        try simp only [Act.put, List.setIfInBounds_toArray, List.set_cons_zero, List.set_cons_succ]
        have r0 := HST.out
        have r1 := HR9.out
        have r2 := HFZ.out
        have r3 := r0.cellAt 0 (by decide)
        simp only [List.set_cons_zero, List.getElem?_cons_zero] at r0 r3
        generalize w9.setCell ⟨bo, 0, none⟩ (.slice A9 n9 c9) = WF at r0 r1 r2 r3 ⊢
        clear HST HR9 HFZ HB9 HO9 HF9 f0 m0 m1 m2 m3 k0 x0 x1 x2
        go_wp2_with (fail)
        go_ret
        exact ⟨by rw [HM.out]; go_num, _, by rw [HM.out]; exact ⟨r0, by rw [List.length_append, List.length_singleton, hN9]; exact r1⟩, r2, HRC.out⟩
end Go.Proofs.Ytndihacmlkgkbaa
