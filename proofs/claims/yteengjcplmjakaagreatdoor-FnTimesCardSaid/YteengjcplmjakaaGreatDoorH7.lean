/- Contracts and helpers (joined texts, part 7). The conditions stand at each theorem. -/
import Derived.Test.YteengjcplmjakaaGreatDoorH6
import Derived.Lib.SliceRun
import Derived.Test.YteengjcplmjakaaGreatDoorH4
import Derived.Test.YteengjcplmjakaaGreatDoorH5
/- improveOnce: one place improved, in place; slices.Clone of terms and of instructions. Condition: the row is the call's own. -/
namespace Go.Proofs.YteengjcplmjakaaGreatDoor
open Go.RowKit

def Imp (l l' : List Ins) (b : Bool) : Prop := (b = false ∧ l' = l) ∨ (b = true ∧ ∃ i x y v, l[i]? = some x ∧ l[i + 1]? = some y ∧ btI x y = some v ∧ l' = l.take i ++ v ++ l.drop (i + 2))
def OnceP (base : Nat) (A : Option Addr) (n cap : Nat) (l : List Ins) (w : World) (e : Ending) (w' : World) : Prop :=
  ∃ l' b, e = .returned (.tuple #[.slice A l'.length cap, .bool b]) ∧ w'.ownsRow base 88 2 (.slice A l'.length cap) l'.length (insCells l') ∧ w.grownBy w' (Value.slice A n cap).ownBlock ∧ Imp l l' b
theorem onceP_of {base cap n : Nat} {A : Option Addr} {l l' : List Ins} {w w1 w' : World} {e : Ending} {g : Nat} {b : Bool} (hA : A = some ⟨g, 0, none⟩) (hb : Below w.heap.size w w1) (h : RepP base g cap l' w1 e w') (hi : Imp l l' b) : ∃ v, e = .returned v ∧ v = .slice A l'.length cap ∧ w'.ownsRow base 88 2 (.slice A l'.length cap) l'.length (insCells l') ∧ w.grownBy w' (Value.slice A n cap).ownBlock ∧ Imp l l' b := by
  subst hA
  obtain ⟨h1, h2, h3⟩ := h
  exact ⟨_, h1, rfl, h2, grown_trans (grown_of_below hb _) h3, hi⟩
set_option maxHeartbeats 4000000 in
set_option maxRecDepth 100000 in
theorem c_improveOnce (base n cap : Nat) (A : Option Addr) (l : List Ins) (w : World) (hn : l.length = n) (hn2 : n ≤ 3000) (ho : w.ownsRow base 88 2 (.slice A n cap) n (insCells l)) (hp : Pb l) :
    Calls Tryz.prog 58 #[.slice A n cap] w (OnceP base A n cap l w) := by
  have HN := Lib.hid hn
  have HO := Lib.hid ho
  have HP := Lib.hid hp
  clear hn ho hp
  go_enter Tryz.func58, Tryz.ntmps58
  go_wp2_with (fail)
  go_loopw [4, 5, 6] (fun i _ _ wr => ∃ k : Nat, k ≤ n ∧ i = .int .i64 k ∧ Hid (Below w.heap.size w wr)) (fun i _ _ _ => n - (intOf i).toNat)
  case atStart => exact ⟨0, Nat.zero_le _, rfl, Lib.hid (Below.refl _ _)⟩
  case round =>
    obtain ⟨k, hk, rfl, hb⟩ := hrel
    have hw1 : IntKind.i64.wrap ((k : Int) + 1) = (k : Int) + 1 := IntWalk.i64_in _ (by omega)
    by_cases hlt : k + 1 < n
    · have hlt1 : (k : Int) + 1 < (n : Int) := by omega
      have hlt2 : (k : Int) < (n : Int) := by omega
      have hk0 : (0 : Int) ≤ (k : Int) := by omega
      have hk1 : (0 : Int) ≤ (k : Int) + 1 := by omega
      have hk2 : ((k : Int) + 1).toNat = k + 1 := by omega
      have hw2 : IntKind.i64.wrap ((k : Int) + 2) = (k : Int) + 2 := IntWalk.i64_in _ (by omega)
      obtain ⟨g, cc, e9, _, _⟩ := HO.out.form (by omega)
      simp only [Value.slice.injEq, true_and] at e9
      obtain ⟨rfl, rfl⟩ := e9
      obtain ⟨x, hx⟩ : ∃ x, l[k]? = some x := ⟨_, List.getElem?_eq_getElem (by have := HN.out; omega)⟩
      obtain ⟨y, hy⟩ : ∃ y, l[k + 1]? = some y := ⟨_, List.getElem?_eq_getElem (by have := HN.out; omega)⟩
      have HX := Lib.hid hx
      have HY := Lib.hid hy
      have HPX := Lib.hid (HP.out x (List.mem_of_getElem? hx))
      obtain ⟨u0, u1⟩ := insCells_at hx
      obtain ⟨v0, v1⟩ := insCells_at hy
      have HOr := Lib.hid (own_below HO.out hb.out)
      have g0 : wr.cell? ⟨g, k * 2, none⟩ = some (.int .i64 x.o) := (HOr.out.cellAt _ (by omega)).trans u0
      have g1 : wr.cell? ⟨g, k * 2 + 1, none⟩ = some (.int .i64 x.a) := (HOr.out.cellAt _ (by omega)).trans u1
      have g2 : wr.cell? ⟨g, (k + 1) * 2, none⟩ = some (.int .i64 y.o) := (HOr.out.cellAt _ (by omega)).trans v0
      have g3 : wr.cell? ⟨g, (k + 1) * 2 + 1, none⟩ = some (.int .i64 y.a) := (HOr.out.cellAt _ (by omega)).trans v1
      clear hx hy u0 u1 v0 v1
      have HC := Lib.hid (fun w => c_improveAt x y w HPX.out)
      obtain ⟨bt, hbt⟩ : ∃ bt, Hid (btI x y = bt) := ⟨_, Lib.hid rfl⟩
      obtain ⟨xo, xa⟩ := x
      obtain ⟨yo, ya⟩ := y
      dsimp only at g0 g1 g2 g3 HC
      go_upto_region 4 with (fail)
      refine wp_region_held_drew (S := (fun w' => w'.cell? ⟨g, k * 2, none⟩ = some (.int .i64 xo) ∧ w'.cell? ⟨g, k * 2 + 1, none⟩ = some (.int .i64 xa) ∧ w'.cell? ⟨g, (k + 1) * 2, none⟩ = some (.int .i64 yo) ∧ w'.cell? ⟨g, (k + 1) * 2 + 1, none⟩ = some (.int .i64 ya))) (by kernel_rfl) ?_ (fun hHeld => ?_)
      · exact ⟨g0, g1, g2, g3⟩
      refine rg_take (v := ?_) 0 rfl (by kernel_rfl) (by kernel_rfl) (by kernel_rfl) (fun _ _ _ h => h) (by kernel_rfl) ?_ (by assumption) ?_
      rotate_left
      · (intro w' hSw; (try dsimp only at hSw); go_simp; first | done | with_reducible rfl)
      simp only [Act.put, List.setIfInBounds_toArray, List.set_cons_zero, List.set_cons_succ]
      refine rg_take (v := ?_) 1 rfl (by kernel_rfl) (by kernel_rfl) (by kernel_rfl) (fun _ _ _ h => h) (by kernel_rfl) ?_ (by assumption) ?_
      rotate_left
      · (intro w' hSw; (try dsimp only at hSw); go_simp; first | done | with_reducible rfl)
      simp only [Act.put, List.setIfInBounds_toArray, List.set_cons_zero, List.set_cons_succ]
      refine rg_take (v := ?_) 2 rfl (by kernel_rfl) (by kernel_rfl) (by kernel_rfl) (fun _ _ _ h => h) (by kernel_rfl) ?_ (by assumption) ?_
      rotate_left
      · (intro w' hSw; (try dsimp only at hSw); go_simp; first | done | with_reducible rfl)
      simp only [Act.put, List.setIfInBounds_toArray, List.set_cons_zero, List.set_cons_succ]
      refine rg_take (v := ?_) 3 rfl (by kernel_rfl) (by kernel_rfl) (by kernel_rfl) (fun _ _ _ h => h) (by kernel_rfl) ?_ (by assumption) ?_
      rotate_left
      · (intro w' hSw; (try dsimp only at hSw); go_simp; first | done | with_reducible rfl)
      simp only [Act.put, List.setIfInBounds_toArray, List.set_cons_zero, List.set_cons_succ]
      refine rg_take (v := ?_) 4 rfl (by kernel_rfl) (by kernel_rfl) (by kernel_rfl) (fun _ _ _ h => h) (by kernel_rfl) ?_ (by assumption) ?_
      rotate_left
      · (intro w' hSw; (try dsimp only at hSw); go_simp; first | done | with_reducible rfl)
      simp only [Act.put, List.setIfInBounds_toArray, List.set_cons_zero, List.set_cons_succ]
      refine rg_take (v := ?_) 5 rfl (by kernel_rfl) (by kernel_rfl) (by kernel_rfl) (fun _ _ _ h => h) (by kernel_rfl) ?_ (by assumption) ?_
      rotate_left
      · (intro w' hSw; (try dsimp only at hSw); go_simp; first | done | with_reducible rfl)
      simp only [Act.put, List.setIfInBounds_toArray, List.set_cons_zero, List.set_cons_succ]
      refine rg_take (v := ?_) 6 rfl (by kernel_rfl) (by kernel_rfl) (by kernel_rfl) (fun _ _ _ h => h) (by kernel_rfl) ?_ (by assumption) ?_
      rotate_left
      · (intro w' hSw; (try dsimp only at hSw); go_simp; first | done | with_reducible rfl)
      simp only [Act.put, List.setIfInBounds_toArray, List.set_cons_zero, List.set_cons_succ]
      refine rg_take (v := ?_) 7 rfl (by kernel_rfl) (by kernel_rfl) (by kernel_rfl) (fun _ _ _ h => h) (by kernel_rfl) ?_ (by assumption) ?_
      rotate_left
      · (intro w' hSw; (try dsimp only at hSw); go_simp; first | done | with_reducible rfl)
      simp only [Act.put, List.setIfInBounds_toArray, List.set_cons_zero, List.set_cons_succ]
      refine rg_take (v := ?_) 8 rfl (by kernel_rfl) (by kernel_rfl) (by kernel_rfl) (fun _ _ _ h => h) (by kernel_rfl) ?_ (by assumption) ?_
      rotate_left
      · (intro w' hSw; (try dsimp only at hSw); go_simp; first | done | with_reducible rfl)
      simp only [Act.put, List.setIfInBounds_toArray, List.set_cons_zero, List.set_cons_succ]
      refine rg_run 9 rfl (by kernel_rfl) (by kernel_rfl) (fun K hK => ?_)
      go_simp
      refine (HC.out _).mono ?_
      rintro e w1 hbp
      rcases hbp with ⟨hbn, rfl, hb1⟩ | ⟨hbn, rfl, hb1⟩ | ⟨z, h, hbn, rfl, hh, z0, z1, hb1⟩
      · have hbs : Below wr.heap.size wr w1 := below_chain (Below.refl _ _).drew hb1
        have HB1 := Lib.hid (below_chain hb.out hbs)
        replace g0 := cell_later hbs (by exact g0)
        replace g1 := cell_later hbs (by exact g1)
        replace g2 := cell_later hbs (by exact g2)
        replace g3 := cell_later hbs (by exact g3)
        clear hb1 hbs
        go_wp2
        clear hHeld
        refine hK.out _ _ (by exact ⟨g0, g1, g2, g3⟩) (fun hHeld => ?_)
        clear hK K
        try simp only [Act.put, List.setIfInBounds_toArray, List.set_cons_zero, List.set_cons_succ]
        refine rg_take (v := ?_) 10 rfl (by kernel_rfl) (by kernel_rfl) (by kernel_rfl) (fun _ _ _ h => h) (by kernel_rfl) ?_ (by assumption) ?_
        rotate_left
        · (intro w' hSw; (try dsimp only at hSw); go_simp; first | done | with_reducible rfl)
        simp only [Act.put, List.setIfInBounds_toArray, List.set_cons_zero, List.set_cons_succ]
        refine rg_take (v := ?_) 11 rfl (by kernel_rfl) (by kernel_rfl) (by kernel_rfl) (fun _ _ _ h => h) (by kernel_rfl) ?_ (by assumption) ?_
        rotate_left
        · (intro w' hSw; (try dsimp only at hSw); go_simp; first | done | with_reducible rfl)
        simp only [Act.put, List.setIfInBounds_toArray, List.set_cons_zero, List.set_cons_succ]
        refine rg_take (v := ?_) 12 rfl (by kernel_rfl) (by kernel_rfl) (by kernel_rfl) (fun _ _ _ h => h) (by kernel_rfl) ?_ (by assumption) ?_
        rotate_left
        · (intro w' hSw; (try dsimp only at hSw); go_simp; first | done | with_reducible rfl)
        simp only [Act.put, List.setIfInBounds_toArray, List.set_cons_zero, List.set_cons_succ]
        refine rg_take (v := ?_) 13 rfl (by kernel_rfl) (by kernel_rfl) (by kernel_rfl) (fun _ _ _ h => h) (by kernel_rfl) ?_ (by assumption) ?_
        rotate_left
        · (intro w' hSw; (try dsimp only at hSw); go_simp; first | done | with_reducible rfl)
        simp only [Act.put, List.setIfInBounds_toArray, List.set_cons_zero, List.set_cons_succ]
        refine rg_take (v := ?_) 14 rfl (by kernel_rfl) (by kernel_rfl) (by kernel_rfl) (fun _ _ _ h => h) (by kernel_rfl) ?_ (by assumption) ?_
        rotate_left
        · (intro w' hSw; (try dsimp only at hSw); go_simp; first | done | with_reducible rfl)
        simp only [Act.put, List.setIfInBounds_toArray, List.set_cons_zero, List.set_cons_succ]
        refine wpAnyH_done (by kernel_rfl) ?_ _
        clear hHeld
        clear g0 g1 g2 g3
        go_wp2_with (fail)
        go_roundw
        case rel => exact ⟨k + 1, by omega, by go_num, HB1⟩
        case measure => simp [intOf]; omega
      · have hbs : Below wr.heap.size wr w1 := below_chain (Below.refl _ _).drew hb1
        have HB1 := Lib.hid (below_chain hb.out hbs)
        have HO1 := Lib.hid (own_below HOr.out hbs)
        replace g0 := cell_later hbs (by exact g0)
        replace g1 := cell_later hbs (by exact g1)
        replace g2 := cell_later hbs (by exact g2)
        replace g3 := cell_later hbs (by exact g3)
        have HIM : Hid (Imp l (l.take k ++ [] ++ l.drop (k + 2)) true) := Lib.hid (.inr ⟨rfl, k, _, _, _, HX.out, HY.out, hbn, rfl⟩)
        clear hb1 hbs hbn
        go_wp2
        clear hHeld
        refine hK.out _ _ (by exact ⟨g0, g1, g2, g3⟩) (fun hHeld => ?_)
        clear hK K
        try simp only [Act.put, List.setIfInBounds_toArray, List.set_cons_zero, List.set_cons_succ]
        refine rg_take (v := ?_) 10 rfl (by kernel_rfl) (by kernel_rfl) (by kernel_rfl) (fun _ _ _ h => h) (by kernel_rfl) ?_ (by assumption) ?_
        rotate_left
        · (intro w' hSw; (try dsimp only at hSw); go_simp; first | done | with_reducible rfl)
        simp only [Act.put, List.setIfInBounds_toArray, List.set_cons_zero, List.set_cons_succ]
        refine rg_take (v := ?_) 11 rfl (by kernel_rfl) (by kernel_rfl) (by kernel_rfl) (fun _ _ _ h => h) (by kernel_rfl) ?_ (by assumption) ?_
        rotate_left
        · (intro w' hSw; (try dsimp only at hSw); go_simp; first | done | with_reducible rfl)
        simp only [Act.put, List.setIfInBounds_toArray, List.set_cons_zero, List.set_cons_succ]
        refine rg_take (v := ?_) 12 rfl (by kernel_rfl) (by kernel_rfl) (by kernel_rfl) (fun _ _ _ h => h) (by kernel_rfl) ?_ (by assumption) ?_
        rotate_left
        · (intro w' hSw; (try dsimp only at hSw); go_simp; first | done | with_reducible rfl)
        simp only [Act.put, List.setIfInBounds_toArray, List.set_cons_zero, List.set_cons_succ]
        refine rg_take (v := ?_) 13 rfl (by kernel_rfl) (by kernel_rfl) (by kernel_rfl) (fun _ _ _ h => h) (by kernel_rfl) ?_ (by assumption) ?_
        rotate_left
        · (intro w' hSw; (try dsimp only at hSw); go_simp; first | done | with_reducible rfl)
        simp only [Act.put, List.setIfInBounds_toArray, List.set_cons_zero, List.set_cons_succ]
        refine rg_take (v := ?_) 14 rfl (by kernel_rfl) (by kernel_rfl) (by kernel_rfl) (fun _ _ _ h => h) (by kernel_rfl) ?_ (by assumption) ?_
        rotate_left
        · (intro w' hSw; (try dsimp only at hSw); go_simp; first | done | with_reducible rfl)
        simp only [Act.put, List.setIfInBounds_toArray, List.set_cons_zero, List.set_cons_succ]
        refine wpAnyH_done (by kernel_rfl) ?_ _
        clear hHeld
        clear g0 g1 g2 g3
        go_wp2_with (fail)
        refine (c_Replace0 base g n cap k l _ HN.out (by omega) hn2 HO1.out).mono ?_
        rintro e w2 ⟨rfl, ho2, hg2⟩
        have HR := Lib.hid ho2
        have HG := Lib.hid (grown_trans (grown_of_below HB1.out _) hg2)
        clear ho2 hg2
        generalize l.take k ++ [] ++ l.drop (k + 2) = R at *
        go_wp2_with (fail)
        go_ret2
        exact ⟨R, true, rfl, HR.out, HG.out, HIM.out⟩
      · have hbs : Below wr.heap.size wr w1 := below_chain (Below.refl _ _).drew hb1
        have HB1 := Lib.hid (below_chain hb.out hbs)
        have HO1 := Lib.hid (own_below HOr.out hbs)
        replace g0 := cell_later hbs (by exact g0)
        replace g1 := cell_later hbs (by exact g1)
        replace g2 := cell_later hbs (by exact g2)
        replace g3 := cell_later hbs (by exact g3)
        have HIM : Hid (Imp l (l.take k ++ [z] ++ l.drop (k + 2)) true) := Lib.hid (.inr ⟨rfl, k, _, _, _, HX.out, HY.out, hbn, rfl⟩)
        have Z0 := Lib.hid z0
        have Z1 := Lib.hid z1
        clear hb1 hbs hbn z0 z1
        go_wp2
        clear hHeld
        refine hK.out _ _ (by exact ⟨g0, g1, g2, g3⟩) (fun hHeld => ?_)
        clear hK K
        try simp only [Act.put, List.setIfInBounds_toArray, List.set_cons_zero, List.set_cons_succ]
        refine rg_take (v := ?_) 10 rfl (by kernel_rfl) (by kernel_rfl) (by kernel_rfl) (fun _ _ _ h => h) (by kernel_rfl) ?_ (by assumption) ?_
        rotate_left
        · (intro w' hSw; (try dsimp only at hSw); go_simp; first | done | with_reducible rfl)
        simp only [Act.put, List.setIfInBounds_toArray, List.set_cons_zero, List.set_cons_succ]
        refine rg_take (v := ?_) 11 rfl (by kernel_rfl) (by kernel_rfl) (by kernel_rfl) (fun _ _ _ h => h) (by kernel_rfl) ?_ (by assumption) ?_
        rotate_left
        · (intro w' hSw; (try dsimp only at hSw); go_simp; first | done | with_reducible rfl)
        simp only [Act.put, List.setIfInBounds_toArray, List.set_cons_zero, List.set_cons_succ]
        refine rg_take (v := ?_) 12 rfl (by kernel_rfl) (by kernel_rfl) (by kernel_rfl) (fun _ _ _ h => h) (by kernel_rfl) ?_ (by assumption) ?_
        rotate_left
        · (intro w' hSw; (try dsimp only at hSw); go_simp; first | done | with_reducible rfl)
        simp only [Act.put, List.setIfInBounds_toArray, List.set_cons_zero, List.set_cons_succ]
        refine rg_take (v := ?_) 13 rfl (by kernel_rfl) (by kernel_rfl) (by kernel_rfl) (fun _ _ _ h => h) (by kernel_rfl) ?_ (by assumption) ?_
        rotate_left
        · (intro w' hSw; (try dsimp only at hSw); go_simp; first | done | with_reducible rfl)
        simp only [Act.put, List.setIfInBounds_toArray, List.set_cons_zero, List.set_cons_succ]
        refine rg_take (v := ?_) 14 rfl (by kernel_rfl) (by kernel_rfl) (by kernel_rfl) (fun _ _ _ h => h) (by kernel_rfl) ?_ (by assumption) ?_
        rotate_left
        · (intro w' hSw; (try dsimp only at hSw); go_simp; first | done | with_reducible rfl)
        simp only [Act.put, List.setIfInBounds_toArray, List.set_cons_zero, List.set_cons_succ]
        refine wpAnyH_done (by kernel_rfl) ?_ _
        clear hHeld
        clear g0 g1 g2 g3
        go_wp2_with (fail)
        refine (c_Replace1 base g n cap k l z h _ HN.out (by omega) hn2 HO1.out Z0.out Z1.out).mono ?_
        rintro e w2 ⟨rfl, ho2, hg2⟩
        have HR := Lib.hid ho2
        have HG := Lib.hid (grown_trans (grown_of_below HB1.out _) hg2)
        clear ho2 hg2
        generalize l.take k ++ [z] ++ l.drop (k + 2) = R at *
        go_wp2_with (fail)
        go_ret2
        exact ⟨R, true, rfl, HR.out, HG.out, HIM.out⟩
    · have hlt1 : ¬ (k : Int) + 1 < (n : Int) := by omega
      have HOr := Lib.hid (own_below HO.out hb.out)
      go_wp2_with (fail)
      go_ret2
      obtain rfl := HN.out
      exact ⟨l, false, rfl, HOr.out, grown_of_below hb.out _, .inl ⟨rfl, rfl⟩⟩
end Go.Proofs.YteengjcplmjakaaGreatDoor

/- slices.Clone of terms and of instructions; ImproveCode: the code stays one and takes no longer. Condition: the rows are the call's own; the keywords lie there. -/
namespace Go.Proofs.YteengjcplmjakaaGreatDoor
open Go.RowKit

set_option maxRecDepth 100000 in
theorem c_CloneT (A : Option Addr) (base c n : Nat) (l : List Tm) (w : World) (hs : n ≤ 100000) (ho : w.ownsRow base 60 3 (.slice A n c) n (tmCells l)) :
    Calls Tryz.prog 56 #[.slice A n c] w fun e w' => ∃ A' c', e = .returned (.slice A' n c') ∧ w'.ownsRow w.heap.size 60 3 (.slice A' n c') n (tmCells l) ∧ Below w.heap.size w w' := by
  have q22 : ∀ (w : World) (a : Option Addr) (n c n' c' : Nat), (binOp .eql 32 (.slice a n c) (.slice none n' c')).run Tryz.prog w = .ok (.bool a.isNone) w := fun w a n c n' c' => Lib.run_eql_slice_nil w _ _ a n c n' c' Tryz.underlying32
  have hl : n = l.length := by have := ho.1; rw [tmCells_length] at this; omega
  have HL := Lib.hid hl
  have HO := Lib.hid ho
  clear hl
  rcases ho.2 with ⟨hv, hn0⟩ | ⟨g, cap, cur, hv, _⟩
  · simp only [Value.slice.injEq] at hv
    obtain ⟨rfl, rfl, rfl⟩ := hv
    clear ho hn0
    have HE : Hid (l = []) := Lib.hid (List.eq_nil_of_length_eq_zero HL.out.symm)
    go_enter Tryz.func56, Tryz.ntmps56
    go_wp2_with (fail)
    go_ret
    exact ⟨none, 0, rfl, by rw [HE.out]; exact own_nil, Below.refl _ _⟩
  · simp only [Value.slice.injEq, true_and] at hv
    obtain ⟨rfl, rfl⟩ := hv
    have HR := Lib.hid (Rd.own ho)
    have HN : Hid ((w.alloc (.cells #[] 60)).ownsRow w.heap.size 60 3 (.slice (some ⟨w.heap.size, 0, none⟩) 0 0) 0 (tmCells [])) := Lib.hid (by
      have h := World.ownsRow_lit (e := 60) (size := 3) (base := w.heap.size) w #[] 0 (Nat.le_refl _) (by decide) (by simp)
      simpa [tmCells] using h)
    clear ho
    go_enter Tryz.func56, Tryz.ntmps56
    go_wp2_with (first
      | (at_builtin
         refine app_tms _ (by rfl) (.tmp 5) (.tmp 6) (by rfl) w.heap.size (.slice (some ⟨w.heap.size, 0, none⟩) 0 0) 0 [] (by rfl) HN.out g n c l (by rfl) HL.out (HR.out.below (below_alloc (Below.refl _ _) _)) (by omega) (by simp) ?_
         intro v' w1 hown hgrow
         rw [Nat.zero_add, List.nil_append] at hown
         obtain ⟨A', c', rfl⟩ := own_shape hown
         have HO1 := Lib.hid hown
         have HB := Lib.hid (below_of_grown (below_alloc (Below.refl w.heap.size w) (.cells #[] 60)) hgrow (fun q hq => by cases hq; exact Nat.le_refl _))
         clear hown hgrow)
      )
    go_ret
    exact ⟨A', c', rfl, HO1.out, HB.out⟩
set_option maxRecDepth 100000 in
theorem c_CloneI (A : Option Addr) (base c n : Nat) (l : List Ins) (w : World) (hs : n ≤ 100000) (ho : w.ownsRow base 88 2 (.slice A n c) n (insCells l)) :
    Calls Tryz.prog 57 #[.slice A n c] w fun e w' => ∃ A' c', e = .returned (.slice A' n c') ∧ w'.ownsRow w.heap.size 88 2 (.slice A' n c') n (insCells l) ∧ Below w.heap.size w w' := by
  have q22 : ∀ (w : World) (a : Option Addr) (n c n' c' : Nat), (binOp .eql 33 (.slice a n c) (.slice none n' c')).run Tryz.prog w = .ok (.bool a.isNone) w := fun w a n c n' c' => Lib.run_eql_slice_nil w _ _ a n c n' c' Tryz.underlying33
  have hl : n = l.length := by have := ho.1; rw [insCells_length] at this; omega
  have HL := Lib.hid hl
  clear hl
  rcases ho.2 with ⟨hv, hn0⟩ | ⟨g, cap, cur, hv, _⟩
  · simp only [Value.slice.injEq] at hv
    obtain ⟨rfl, rfl, rfl⟩ := hv
    clear ho hn0
    have HE : Hid (l = []) := Lib.hid (List.eq_nil_of_length_eq_zero HL.out.symm)
    go_enter Tryz.func57, Tryz.ntmps57
    go_wp2_with (fail)
    go_ret
    exact ⟨none, 0, rfl, by rw [HE.out]; exact own_nil, Below.refl _ _⟩
  · simp only [Value.slice.injEq, true_and] at hv
    obtain ⟨rfl, rfl⟩ := hv
    have HR := Lib.hid (Rd.own ho)
    clear ho
    go_enter Tryz.func57, Tryz.ntmps57
    go_wp2_with (first
      | (at_builtin
         refine app_ins _ (by rfl) (.tmp 5) (.tmp 6) (by rfl) w.heap.size (.slice (some ⟨w.heap.size, 0, none⟩) 0 0) 0 [] (by rfl) (own_litI0 w) ⟨g, 0, none⟩ n c l (by rfl) HL.out (HR.out.below (below_alloc (Below.refl _ _) _)) (by omega) (by simp) ?_
         intro v' w1 hown hgrow
         rw [Nat.zero_add, List.nil_append] at hown
         obtain ⟨A', c', rfl⟩ := own_shape hown
         have HO1 := Lib.hid hown
         have HB := Lib.hid (below_of_grown (below_alloc (Below.refl w.heap.size w) (.cells #[] 88)) hgrow (fun q hq => by cases hq; exact Nat.le_refl _))
         clear hown hgrow)
      )
    go_ret
    exact ⟨A', c', rfl, HO1.out, HB.out⟩
theorem hgt_ss {i v o : Int} {bs : List Tm} {s1 s2 : List Ins} : ∀ (l : List Ins) (n : Int), hgt ⟨i, v, o, bs, s1⟩ l n = hgt ⟨i, v, o, bs, s2⟩ l n
  | [], _ => rfl
  | x :: l, n => by
    show (if fitB ⟨i, v, o, bs, s1⟩ x = true ∧ takI ⟨i, v, o, bs, s1⟩ x ≤ n ∧ n - takI ⟨i, v, o, bs, s1⟩ x + givI x ≤ 40 then hgt ⟨i, v, o, bs, s1⟩ l (n - takI ⟨i, v, o, bs, s1⟩ x + givI x) else none) = (if fitB ⟨i, v, o, bs, s1⟩ x = true ∧ takI ⟨i, v, o, bs, s1⟩ x ≤ n ∧ n - takI ⟨i, v, o, bs, s1⟩ x + givI x ≤ 40 then hgt ⟨i, v, o, bs, s2⟩ l (n - takI ⟨i, v, o, bs, s1⟩ x + givI x) else none)
    rw [hgt_ss l]
theorem sum_ss {i v o : Int} {bs : List Tm} {s1 s2 : List Ins} : ∀ (l : List Ins), sumT ⟨i, v, o, bs, s1⟩ l = sumT ⟨i, v, o, bs, s2⟩ l
  | [] => rfl
  | x :: l => by
    show timI ⟨i, v, o, bs, s1⟩ x + sumT ⟨i, v, o, bs, s1⟩ l = timI ⟨i, v, o, bs, s1⟩ x + sumT ⟨i, v, o, bs, s2⟩ l
    rw [sum_ss l]
/-- What improving keeps of the steps. -/
structure GoodL (c : Cd) (l : List Ins) : Prop where
  h : hgt c l 0 = some 0
  s : sumT c l ≤ sumT c c.ss
  n : l.length ≤ 2000
  p : Pb l
theorem goodL_imp {c : Cd} {l l' : List Ins} {b : Bool} (h : GoodL c l) (hi : Imp l l' b) : GoodL c l' ∧ (b = true → l'.length + 1 ≤ l.length) ∧ (b = false → l' = l) := by
  rcases hi with ⟨rfl, rfl⟩ | ⟨rfl, i, x, y, v, hx, hy, hv, rfl⟩
  · exact ⟨h, (fun e => by cases e), fun _ => rfl⟩
  · obtain ⟨hi, ex⟩ := List.getElem?_eq_some_iff.1 hx
    obtain ⟨hi2, ey⟩ := List.getElem?_eq_some_iff.1 hy
    have hd : l.drop i = x :: y :: l.drop (i + 2) := by rw [List.drop_eq_getElem_cons hi, ex, List.drop_eq_getElem_cons hi2, ey]
    have hl : l = l.take i ++ x :: y :: l.drop (i + 2) := by rw [← hd, List.take_append_drop]
    have hlen : (l.take i ++ v ++ l.drop (i + 2)).length + 1 ≤ l.length := by
      have := bt_len hv
      rw [List.length_append, List.length_append, List.length_take, List.length_drop]
      omega
    refine ⟨⟨?_, ?_, by have := h.n; omega, bt_pb hv h.p hx⟩, fun _ => hlen, (fun e => by cases e)⟩
    · have h0 := h.h
      rw [hl] at h0
      exact bt_hgt hv h0
    · have h1 := bt_sum (c := c) hv (l.take i) (l.drop (i + 2))
      rw [← hl] at h1
      exact Int.le_trans h1 h.s
theorem goodL_start {c : Cd} (h : codeB c = true) : GoodL c c.ss := by
  obtain ⟨hd, _, hf⟩ := code_parts h
  refine ⟨?_, Int.le_refl _, hd.s, fit_pb hf⟩
  unfold codeB hgtB at h
  simp only [Bool.and_eq_true, decide_eq_true_eq] at h
  exact h.2
theorem goodL_code {i v o : Int} {bs : List Tm} {ss l : List Ins} (h : codeB ⟨i, v, o, bs, ss⟩ = true) (hg : GoodL ⟨i, v, o, bs, ss⟩ l) : codeB ⟨i, v, o, bs, l⟩ = true ∧ sumT ⟨i, v, o, bs, l⟩ l ≤ sumT ⟨i, v, o, bs, ss⟩ ss := by
  refine ⟨?_, by rw [sum_ss (s2 := ss)]; exact hg.s⟩
  unfold codeB headC hgtB at h ⊢
  simp only [Bool.and_eq_true, decide_eq_true_eq] at h ⊢
  exact ⟨⟨⟨h.1.1.1, hg.n⟩, h.1.2⟩, by rw [hgt_ss (s2 := ss)]; exact hg.h⟩
def lenC : Option Value → Nat
  | some (.slice _ n _) => n
  | _ => 0
def bit1 : Value → Nat
  | .bool true => 1
  | _ => 0
def ImpP (c : Cd) (w : World) (e : Ending) (w' : World) : Prop := ∃ c' B1 r1 B2 r2, e = .returned (.tuple #[cv c' B1 B2 r1 r2, .int .i64 0]) ∧ codeB c' = true ∧ sumT c' c'.ss ≤ sumT c c.ss ∧ CdOk c' ∧ CdR w' B1 B2 c' ∧ Below w.heap.size w w'
set_option maxHeartbeats 4000000 in
set_option maxRecDepth 100000 in
theorem c_ImproveCode (c : Cd) (base : Nat) (A1 A2 : Option Addr) (q1 q2 : Nat) (w : World) (hcd : CdOk c) (hc : codeB c = true) (hk : KwR w)
    (h1 : w.ownsRow base 60 3 (.slice A1 c.bs.length q1) c.bs.length (tmCells c.bs)) (h2 : w.ownsRow base 88 2 (.slice A2 c.ss.length q2) c.ss.length (insCells c.ss)) :
    Calls Tryz.prog 17 #[cv c A1 A2 q1 q2] w (ImpP c w) := by
  have HCO := Lib.hid hcd
  have HG := Lib.hid (goodL_start hc)
  have HGC := Lib.hid hc
  have H1 := Lib.hid h1
  have H2 := Lib.hid h2
  have HK := Lib.hid hk
  have HIS := Lib.hid (fun w h hk => c_IsCode c A1 A2 q1 q2 w hcd h hk)
  have hl1 := (code_parts hc).1.b
  have hl2 := (code_parts hc).1.s
  rw [hc] at HIS
  clear hcd hc h1 h2 hk
  obtain ⟨ci, cw, co, bs, ss⟩ := c
  dsimp only [cv] at HIS H1 H2 hl1 hl2 ⊢
  have BA := below_alloc (below_alloc (Below.refl w.heap.size w) (.cells #[.int .i64 ci, .int .i64 cw, .int .i64 co, .slice A1 bs.length q1, .slice A2 ss.length q2] 35)) (.cells #[.int .i64 0, .int .i64 0, .int .i64 0, .slice none 0 0, .slice none 0 0] 35)
  have HB0 := Lib.hid BA
  have HC0 : Hid (CBox ((w.alloc (.cells #[.int .i64 ci, .int .i64 cw, .int .i64 co, .slice A1 bs.length q1, .slice A2 ss.length q2] 35)).alloc (.cells #[.int .i64 0, .int .i64 0, .int .i64 0, .slice none 0 0, .slice none 0 0] 35)) w.heap.size w.heap.size [.int .i64 ci, .int .i64 cw, .int .i64 co, .slice A1 bs.length q1, .slice A2 ss.length q2]) := Lib.hid (own_below (own_box w w.heap.size 35 [.int .i64 ci, .int .i64 cw, .int .i64 co, .slice A1 bs.length q1, .slice A2 ss.length q2] 5 rfl (Nat.le_refl _)) (below_alloc (Below.refl _ _) _))
  have HX0 : Hid (CBox ((w.alloc (.cells #[.int .i64 ci, .int .i64 cw, .int .i64 co, .slice A1 bs.length q1, .slice A2 ss.length q2] 35)).alloc (.cells #[.int .i64 0, .int .i64 0, .int .i64 0, .slice none 0 0, .slice none 0 0] 35)) w.heap.size (w.heap.size + 1) [.int .i64 0, .int .i64 0, .int .i64 0, .slice none 0 0, .slice none 0 0]) := Lib.hid (by
    have h := own_box (w.alloc (.cells #[.int .i64 ci, .int .i64 cw, .int .i64 co, .slice A1 bs.length q1, .slice A2 ss.length q2] 35)) w.heap.size 35 [.int .i64 0, .int .i64 0, .int .i64 0, .slice none 0 0, .slice none 0 0] 5 rfl (by simp)
    have e : (w.alloc (.cells #[.int .i64 ci, .int .i64 cw, .int .i64 co, .slice A1 bs.length q1, .slice A2 ss.length q2] 35)).heap.size = w.heap.size + 1 := by simp
    rw [e] at h
    exact h)
  have hw0 : w.heap.size + 1 < ((w.alloc (.cells #[.int .i64 ci, .int .i64 cw, .int .i64 co, .slice A1 bs.length q1, .slice A2 ss.length q2] 35)).alloc (.cells #[.int .i64 0, .int .i64 0, .int .i64 0, .slice none 0 0, .slice none 0 0] 35)).heap.size := by simp
  clear BA
  go_enter Tryz.func17, Tryz.ntmps17
  go_upto_region 1 with (fail)
  generalize (w.alloc (.cells #[.int .i64 ci, .int .i64 cw, .int .i64 co, .slice A1 bs.length q1, .slice A2 ss.length q2] 35)).alloc (.cells #[.int .i64 0, .int .i64 0, .int .i64 0, .slice none 0 0, .slice none 0 0] 35) = W at *
  obtain ⟨⟨k0, k1, k2, k3, k4⟩, _, _⟩ := CBox.c HC0.out
  go_wp2_with (fail)
  refine (HIS.out _ ⟨(Rd.own H1.out).below HB0.out, (Rd.own H2.out).below HB0.out⟩ (HK.out.below HB0.out)).mono ?_
  rintro e w1 ⟨rfl, hb⟩
  have HB1 := Lib.hid (below_chain HB0.out hb)
  have HX1 : Hid (CBox _ _ _ _) := Lib.hid (own_below HX0.out hb)
  have hw1 := Nat.lt_of_lt_of_le hw0 hb.size
  replace k0 := cell_later hb (by exact k0)
  replace k1 := cell_later hb (by exact k1)
  replace k2 := cell_later hb (by exact k2)
  replace k3 := cell_later hb (by exact k3)
  replace k4 := cell_later hb (by exact k4)
  have HC1 : Hid (CBox _ _ _ _) := Lib.hid (own_below HC0.out hb)
  clear hb HB0 HX0 HC0 HIS hw0
  go_upto_region 3 with (fail)
  refine wp_region_held_drew (S := (fun w' => w'.cell? ⟨w.heap.size, 0, none⟩ = some (.int .i64 ci) ∧ w'.cell? ⟨w.heap.size, 1, none⟩ = some (.int .i64 cw) ∧ w'.cell? ⟨w.heap.size, 2, none⟩ = some (.int .i64 co) ∧ w'.cell? ⟨w.heap.size, 3, none⟩ = some (.slice A1 bs.length q1) ∧ w'.cell? ⟨w.heap.size, 4, none⟩ = some (.slice A2 ss.length q2))) (by kernel_rfl) ?_ (fun hHeld => ?_)
  · exact ⟨k0, k1, k2, k3, k4⟩
  refine rg_take (v := ?_) 0 rfl (by kernel_rfl) (by kernel_rfl) (by kernel_rfl) (fun _ _ _ h => h) (by kernel_rfl) ?_ (by assumption) ?_
  rotate_left
  · (intro w' hSw; (try dsimp only at hSw); go_simp; first | done | with_reducible rfl)
  simp only [Act.put, List.setIfInBounds_toArray, List.set_cons_zero, List.set_cons_succ]
  refine rg_take (v := ?_) 1 rfl (by kernel_rfl) (by kernel_rfl) (by kernel_rfl) (fun _ _ _ h => h) (by kernel_rfl) ?_ (by assumption) ?_
  rotate_left
  · (intro w' hSw; (try dsimp only at hSw); go_simp; first | done | with_reducible rfl)
  simp only [Act.put, List.setIfInBounds_toArray, List.set_cons_zero, List.set_cons_succ]
  refine rg_take (v := ?_) 2 rfl (by kernel_rfl) (by kernel_rfl) (by kernel_rfl) (fun _ _ _ h => h) (by kernel_rfl) ?_ (by assumption) ?_
  rotate_left
  · (intro w' hSw; (try dsimp only at hSw); go_simp; first | done | with_reducible rfl)
  simp only [Act.put, List.setIfInBounds_toArray, List.set_cons_zero, List.set_cons_succ]
  refine rg_take (v := ?_) 3 rfl (by kernel_rfl) (by kernel_rfl) (by kernel_rfl) (fun _ _ _ h => h) (by kernel_rfl) ?_ (by assumption) ?_
  rotate_left
  · (intro w' hSw; (try dsimp only at hSw); go_simp; first | done | with_reducible rfl)
  simp only [Act.put, List.setIfInBounds_toArray, List.set_cons_zero, List.set_cons_succ]
  refine rg_take (v := ?_) 4 rfl (by kernel_rfl) (by kernel_rfl) (by kernel_rfl) (fun _ _ _ h => h) (by kernel_rfl) ?_ (by assumption) ?_
  rotate_left
  · (intro w' hSw; (try dsimp only at hSw); go_simp; first | done | with_reducible rfl)
  simp only [Act.put, List.setIfInBounds_toArray, List.set_cons_zero, List.set_cons_succ]
  refine rg_take (v := ?_) 5 rfl (by kernel_rfl) (by kernel_rfl) (by kernel_rfl) (fun _ _ _ h => h) (by kernel_rfl) ?_ (by assumption) ?_
  rotate_left
  · (intro w' hSw; (try dsimp only at hSw); go_simp; first | done | with_reducible rfl)
  simp only [Act.put, List.setIfInBounds_toArray, List.set_cons_zero, List.set_cons_succ]
  refine rg_take (v := ?_) 6 rfl (by kernel_rfl) (by kernel_rfl) (by kernel_rfl) (fun _ _ _ h => h) (by kernel_rfl) ?_ (by assumption) ?_
  rotate_left
  · (intro w' hSw; (try dsimp only at hSw); go_simp; first | done | with_reducible rfl)
  simp only [Act.put, List.setIfInBounds_toArray, List.set_cons_zero, List.set_cons_succ]
  refine rg_take (v := ?_) 7 rfl (by kernel_rfl) (by kernel_rfl) (by kernel_rfl) (fun _ _ _ h => h) (by kernel_rfl) ?_ (by assumption) ?_
  rotate_left
  · (intro w' hSw; (try dsimp only at hSw); go_simp; first | done | with_reducible rfl)
  simp only [Act.put, List.setIfInBounds_toArray, List.set_cons_zero, List.set_cons_succ]
  refine rg_take (v := ?_) 9 rfl (by kernel_rfl) (by kernel_rfl) (by kernel_rfl) (fun _ _ _ h => h) (by kernel_rfl) ?_ (by assumption) ?_
  rotate_left
  · (intro w' hSw; (try dsimp only at hSw); go_simp; first | done | with_reducible rfl)
  simp only [Act.put, List.setIfInBounds_toArray, List.set_cons_zero, List.set_cons_succ]
  refine rg_take (v := ?_) 10 rfl (by kernel_rfl) (by kernel_rfl) (by kernel_rfl) (fun _ _ _ h => h) (by kernel_rfl) ?_ (by assumption) ?_
  rotate_left
  · (intro w' hSw; (try dsimp only at hSw); go_simp; first | done | with_reducible rfl)
  simp only [Act.put, List.setIfInBounds_toArray, List.set_cons_zero, List.set_cons_succ]
  refine rg_twoT 8 13 rfl rfl (by kernel_rfl) (by kernel_rfl) (by kernel_rfl) (fun K hK => ?_) (fun K hK => ?_)
  · skip
    go_simp
    refine (c_CloneT A1 base q1 _ bs _ (by omega) (own_below H1.out (HB1.out.drew))).mono ?_
    rintro e w2 ⟨B1, r1, rfl, hb1, hb⟩
    have hbs := below_chain (Below.refl _ _).drew hb
    have HB2 := Lib.hid (below_chain HB1.out hbs)
    have HX2 : Hid (CBox _ _ _ _) := Lib.hid (own_below HX1.out hbs)
    have HC2 : Hid (CBox _ _ _ _) := Lib.hid (own_below HC1.out hbs)
    have HT2 := Lib.hid (own_mono hb1 (show w.heap.size ≤ _ from HB1.out.size))
    have hw2 := Nat.lt_of_lt_of_le hw1 hbs.size
    replace k0 := cell_later hbs (by exact k0)
    replace k1 := cell_later hbs (by exact k1)
    replace k2 := cell_later hbs (by exact k2)
    replace k3 := cell_later hbs (by exact k3)
    replace k4 := cell_later hbs (by exact k4)
    clear hb hbs hb1 HB1 HX1 HC1 hw1
    go_wp2
    clear hHeld
    refine hK.out _ _ (by exact ⟨k0, k1, k2, k3, k4⟩) (fun hHeld => ?_)
    clear hK K
    try simp only [Act.put, List.setIfInBounds_toArray, List.set_cons_zero, List.set_cons_succ]
    refine rg_twoT 11 13 rfl rfl (by kernel_rfl) (by kernel_rfl) (by kernel_rfl) (fun K hK => ?_) (fun K hK => ?_)
    · skip
      go_simp
      refine (c_CloneI A2 base q2 _ ss _ (by omega) (own_below H2.out HB2.out)).mono ?_
      rintro e w3 ⟨B2, r2, rfl, hb1, hb⟩
      have HB3 := Lib.hid (below_chain HB2.out hb)
      have HX3 : Hid (CBox _ _ _ _) := Lib.hid (own_below HX2.out hb)
      have HC3 : Hid (CBox _ _ _ _) := Lib.hid (own_below HC2.out hb)
      have HT3 := Lib.hid (own_below HT2.out hb)
      have HS3 := Lib.hid (own_mono hb1 HB2.out.size)
      have hw3 := Nat.lt_of_lt_of_le hw2 hb.size
      replace k0 := cell_later hb (by exact k0)
      replace k1 := cell_later hb (by exact k1)
      replace k2 := cell_later hb (by exact k2)
      replace k3 := cell_later hb (by exact k3)
      replace k4 := cell_later hb (by exact k4)
      clear hb hb1 HB2 HX2 HC2 HT2 hw2
      go_wp2
      clear hHeld
      refine hK.out _ _ (by exact ⟨k0, k1, k2, k3, k4⟩) (fun hHeld => ?_)
      clear hK K
      try simp only [Act.put, List.setIfInBounds_toArray, List.set_cons_zero, List.set_cons_succ]
      refine rg_take (v := ?_) 12 rfl (by kernel_rfl) (by kernel_rfl) (by kernel_rfl) (fun _ _ _ h => h) (by kernel_rfl) ?_ (by assumption) ?_
      rotate_left
      · (intro w' hSw; (try dsimp only at hSw); go_simp; first | done | with_reducible rfl)
      simp only [Act.put, List.setIfInBounds_toArray, List.set_cons_zero, List.set_cons_succ]
      refine rg_run 13 rfl (by kernel_rfl) (by kernel_rfl) (fun K hK => ?_)
      go_simp
      have BA := below_alloc (Below.refl w3.heap.size w3) (.cells #[.int .i64 0, .int .i64 0, .int .i64 0, .slice none 0 0, .slice none 0 0] 35)
      replace k0 := cell_later BA (by exact k0)
      replace k1 := cell_later BA (by exact k1)
      replace k2 := cell_later BA (by exact k2)
      replace k3 := cell_later BA (by exact k3)
      replace k4 := cell_later BA (by exact k4)
      clear hHeld
      refine hK.out _ _ (by exact ⟨k0, k1, k2, k3, k4⟩) (fun hHeld => ?_)
      clear hK K
      try simp only [Act.put, List.setIfInBounds_toArray, List.set_cons_zero, List.set_cons_succ]
      have HZ : Hid (CBox (w3.alloc (.cells #[.int .i64 0, .int .i64 0, .int .i64 0, .slice none 0 0, .slice none 0 0] 35)) w.heap.size w3.heap.size [.int .i64 0, .int .i64 0, .int .i64 0, .slice none 0 0, .slice none 0 0]) := Lib.hid (own_box w3 w.heap.size 35 [.int .i64 0, .int .i64 0, .int .i64 0, .slice none 0 0, .slice none 0 0] 5 rfl (by omega))
      have HT4 := Lib.hid (own_below HT3.out BA)
      have HS4 := Lib.hid (own_below HS3.out BA)
      have HX4 : Hid (CBox _ _ _ _) := Lib.hid (own_below HX3.out BA)
      have HC4 : Hid (CBox _ _ _ _) := Lib.hid (own_below HC3.out BA)
      have HB4 := Lib.hid (below_chain HB3.out BA)
      clear HT3 HS3 HX3 HC3 HB3 BA
      generalize w3.alloc (.cells #[.int .i64 0, .int .i64 0, .int .i64 0, .slice none 0 0, .slice none 0 0] 35) = w4 at *
      obtain ⟨⟨y0, y1, y2, y3, y4⟩, ⟨f0, f1, f2, f3, f4⟩, hyl⟩ := CBox.c HZ.out
      have hz := CBox.fill HZ.out (.int .i64 ci) (.int .i64 cw) (.int .i64 co) (.slice B1 bs.length r1) (.slice B2 ss.length r2)
      have HO5 : Hid (CBox (((((w4.setCell ⟨w3.heap.size, 0, none⟩ (.int .i64 ci)).setCell ⟨w3.heap.size, 1, none⟩ (.int .i64 cw)).setCell ⟨w3.heap.size, 2, none⟩ (.int .i64 co)).setCell ⟨w3.heap.size, 3, none⟩ (.slice B1 bs.length r1)).setCell ⟨w3.heap.size, 4, none⟩ (.slice B2 ss.length r2)) w.heap.size w3.heap.size [.int .i64 ci, .int .i64 cw, .int .i64 co, .slice B1 bs.length r1, .slice B2 ss.length r2]) := Lib.hid hz.1
      have HT5 := Lib.hid (own_keep HT4.out HZ.out (by decide) hz.2)
      have HS5 := Lib.hid (own_keep HS4.out HZ.out (by decide) hz.2)
      have HX5 : Hid (CBox _ _ _ _) := Lib.hid (HX4.out.keep hz.2 (by omega))
      have HC5 : CBox _ _ _ _ := HC4.out.keep hz.2 (by omega)
      have HB5 := Lib.hid (below_of_grown HB4.out hz.2 (fun q hq => by simp only [Option.some.injEq] at hq; omega))
      obtain ⟨⟨p0, p1, p2, p3, p4⟩, _, _⟩ := CBox.c HC5
      clear hz HZ HT4 HS4 HX4 HC4 HB4 HC5
      refine rg_run 14 rfl (by kernel_rfl) (by kernel_rfl) (fun K hK => ?_)
      go_simp
      clear hHeld
      refine hK.out _ _ (by exact ⟨p0, p1, p2, p3, p4⟩) (fun hHeld => ?_)
      clear hK K
      try simp only [Act.put, List.setIfInBounds_toArray, List.set_cons_zero, List.set_cons_succ]
      refine wpAnyH_done (by kernel_rfl) ?_ _
      clear hHeld
      clear p0 p1 p2 p3 p4 k0 k1 k2 k3 k4 y0 y1 y2 y3 y4 f0 f1 f2 f3 f4
      have hobw : w.heap.size + 1 < w3.heap.size := by omega
      obtain ⟨ob, hob⟩ : ∃ ob, ob = w3.heap.size := ⟨_, rfl⟩
      rw [← hob] at HO5 HT5 HS5 HX5 HB5 hobw ⊢
      clear hyl
      generalize (((((w4.setCell ⟨ob, 0, none⟩ (.int .i64 ci)).setCell ⟨ob, 1, none⟩ (.int .i64 cw)).setCell ⟨ob, 2, none⟩ (.int .i64 co)).setCell ⟨ob, 3, none⟩ (.slice B1 bs.length r1)).setCell ⟨ob, 4, none⟩ (.slice B2 ss.length r2)) = w5 at *
      clear hob
      go_wp2_with (fail)
      go_loopw [5] (fun u wr => ∃ (ch : Bool) (n cap : Nat) (A : Option Addr) (l : List Ins), u = .bool ch ∧ n ≤ 2000 ∧ Hid (l.length = n) ∧ Hid (GoodL ⟨ci, cw, co, bs, ss⟩ l) ∧ Hid (wr.ownsRow w.heap.size 88 2 (.slice A n cap) n (insCells l)) ∧ Hid (wr.ownsRow w.heap.size 60 3 (.slice B1 bs.length r1) bs.length (tmCells bs))
          ∧ Hid (CBox wr w.heap.size ob [.int .i64 ci, .int .i64 cw, .int .i64 co, .slice B1 bs.length r1, .slice A n cap]) ∧ Hid (CBox wr w.heap.size (w.heap.size + 1) [.int .i64 0, .int .i64 0, .int .i64 0, .slice none 0 0, .slice none 0 0]) ∧ Hid (Below w.heap.size w wr)) (fun u wr => 2 * lenC (wr.cell? ⟨ob, 4, none⟩) + bit1 u)
      case atStart => exact ⟨true, ss.length, r2, B2, ss, rfl, hl2, Lib.hid rfl, HG, HS5, HT5, HO5, HX5, HB5⟩
      case round =>
        clear HO5 HT5 HS5 HX5 HB5
        obtain ⟨ch, n, cap, A, l, rfl, hn2, hl, hg, hs, ht, hbo, hbx, hb⟩ := hrel
        obtain ⟨⟨k0, k1, k2, k3, k4⟩, ⟨f0, f1, f2, f3, f4⟩, _⟩ := CBox.c hbo.out
        cases ch
        · obtain ⟨⟨y0, y1, y2, y3, y4⟩, ⟨g0, g1, g2, g3, g4⟩, _⟩ := CBox.c hbx.out
          have hz := CBox.fill hbx.out (.int .i64 ci) (.int .i64 cw) (.int .i64 co) (.slice B1 bs.length r1) (.slice A n cap)
          have YT := Lib.hid (own_keep ht.out hbx.out (by decide) hz.2)
          have YS := Lib.hid (own_keep hs.out hbx.out (by decide) hz.2)
          have YB := Lib.hid (below_of_grown hb.out hz.2 (fun q hq => by simp only [Option.some.injEq] at hq; omega))
          have YC := Lib.hid hz.1
          obtain ⟨WF, hWF⟩ : ∃ WF, WF = (((((wr.setCell ⟨w.heap.size + 1, 0, none⟩ (.int .i64 ci)).setCell ⟨w.heap.size + 1, 1, none⟩ (.int .i64 cw)).setCell ⟨w.heap.size + 1, 2, none⟩ (.int .i64 co)).setCell ⟨w.heap.size + 1, 3, none⟩ (.slice B1 bs.length r1)).setCell ⟨w.heap.size + 1, 4, none⟩ (.slice A n cap)) := ⟨_, rfl⟩
          rw [← hWF] at YT YS YB YC
          have HF := Lib.hid hWF
          have HGL := hg
          have HLL := hl
          clear hWF hz ht hs hb hbx hbo hg hl
          go_wp2_with (fail)
          rw [← HF.out]
          obtain ⟨⟨r0', r1', r2', r3', r4'⟩, _⟩ := CBox.c YC.out
          clear y0 y1 y2 y3 y4 g0 g1 g2 g3 g4 k0 k1 k2 k3 k4 f0 f1 f2 f3 f4
          refine bodyPost_ret (v := .tuple #[.agg #[.int .i64 ci, .int .i64 cw, .int .i64 co, .slice B1 bs.length r1, .slice A n cap], .int .i64 0]) (by simp [results, Tryz.results17, go_sem, r0', r1', r2', r3', r4']) rfl (by
            obtain ⟨h1, h2⟩ := goodL_code HGC.out HGL.out
            have hLL := HLL.out
            subst hLL
            exact ⟨⟨ci, cw, co, bs, l⟩, B1, r1, A, cap, rfl, h1, h2, ⟨HCO.out.1, by show l.length ≤ _; have := HGL.out.n; omega⟩, ⟨Rd.own YT.out, Rd.own YS.out⟩, YB.out⟩)
        · go_wp2_with (fail)
          refine (c_improveOnce w.heap.size n cap A l _ hl.out (by omega) hs.out hg.out.p).mono ?_
          rintro e w6 ⟨l', b, rfl, ho6, hg6, hi6⟩
          obtain ⟨hgl, hb1, hb0⟩ := goodL_imp hg.out hi6
          have HGL := Lib.hid hgl
          have HBT := Lib.hid hb1
          have HBF := Lib.hid hb0
          have HT6 := Lib.hid (own_keep ht.out hs.out (by decide) hg6)
          have HO6 : CBox w6 _ _ _ := own_keep hbo.out hs.out (by decide) hg6
          have HX6 : CBox w6 _ _ _ := own_keep hbx.out hs.out (by decide) hg6
          have HB6 := below_of_grown hb.out hg6 (fun q hq => (hs.out.lt q hq).1)
          obtain ⟨⟨k0', k1', k2', k3', k4'⟩, ⟨f0', f1', f2', f3', f4'⟩, _⟩ := CBox.c HO6
          have hz := CBox.put HO6 4 (.slice A l'.length cap)
          have HO7 : Hid (CBox (w6.setCell ⟨ob, 4, none⟩ (.slice A l'.length cap)) w.heap.size ob [.int .i64 ci, .int .i64 cw, .int .i64 co, .slice B1 bs.length r1, .slice A l'.length cap]) := Lib.hid hz.1
          have HT7 := Lib.hid (own_keep HT6.out HO6 (by decide) hz.2)
          have HS7 := Lib.hid (own_keep ho6 HO6 (by decide) hz.2)
          have HX7 := Lib.hid (HX6.keep hz.2 (by omega))
          have HB7 := Lib.hid (below_of_grown HB6 hz.2 (fun q hq => by simp only [Option.some.injEq] at hq; omega))
          have HLE : Hid (l'.length ≤ 2000) := Lib.hid hgl.n
          have HML : Hid (l.length = n) := hl
          have HK4 := Lib.hid k4
          clear hz hgl hb1 hb0 hi6 ho6 hg6 HT6 HO6 HX6 HB6 hl hg hs ht hbo hbx hb k0 k1 k2 k3 k4 f0 f1 f2 f3 f4
          obtain ⟨ln, hln⟩ : ∃ ln, Hid (l'.length = ln) := ⟨_, Lib.hid rfl⟩
          rw [hln.out] at HO7 HS7 HT7 HX7 HB7 HLE ⊢
          go_wp2_with (fail)
          have HK7 := Lib.hid (CBox.c HO7.out).1.2.2.2.2
          clear k0' k1' k2' k3' k4' f0' f1' f2' f3' f4'
          go_roundw
          case rel => exact ⟨b, ln, cap, A, l', rfl, HLE.out, hln, HGL, HS7, HT7, HO7, HX7, HB7⟩
          case measure =>
            rw [HK7.out, HK4.out]
            have h1 := HML.out
            have h2 := hln.out
            cases b
            · have := HBF.out rfl
              subst this
              show 2 * ln + 0 < 2 * n + 1
              omega
            · have := HBT.out rfl
              show 2 * ln + 1 < 2 * n + 1
              omega
    · skip
      go_simp
      have BA := below_alloc (Below.refl w2.heap.size w2) (.cells #[.int .i64 0, .int .i64 0, .int .i64 0, .slice none 0 0, .slice none 0 0] 35)
      replace k0 := cell_later BA (by exact k0)
      replace k1 := cell_later BA (by exact k1)
      replace k2 := cell_later BA (by exact k2)
      replace k3 := cell_later BA (by exact k3)
      replace k4 := cell_later BA (by exact k4)
      clear hHeld
      refine hK.out _ _ (by exact ⟨k0, k1, k2, k3, k4⟩) (fun hHeld => ?_)
      clear hK K
      try simp only [Act.put, List.setIfInBounds_toArray, List.set_cons_zero, List.set_cons_succ]
      have HZ2 : Hid (CBox (w2.alloc (.cells #[.int .i64 0, .int .i64 0, .int .i64 0, .slice none 0 0, .slice none 0 0] 35)) w.heap.size w2.heap.size [.int .i64 0, .int .i64 0, .int .i64 0, .slice none 0 0, .slice none 0 0]) := Lib.hid (own_box w2 w.heap.size 35 [.int .i64 0, .int .i64 0, .int .i64 0, .slice none 0 0, .slice none 0 0] 5 rfl (by omega))
      have HT3 := Lib.hid (own_below HT2.out BA)
      have HX3 : Hid (CBox _ _ _ _) := Lib.hid (own_below HX2.out BA)
      have HC3 : Hid (CBox _ _ _ _) := Lib.hid (own_below HC2.out BA)
      have HB3 := Lib.hid (below_chain HB2.out BA)
      have hw3 := Nat.lt_of_lt_of_le hw2 BA.size
      clear HT2 HX2 HC2 HB2 BA
      refine rg_run 11 rfl (by kernel_rfl) (by kernel_rfl) (fun K hK => ?_)
      go_simp
      refine (c_CloneI A2 base q2 _ ss _ (by omega) (own_below H2.out HB3.out)).mono ?_
      rintro e w4 ⟨B2, r2, rfl, hb1, hb⟩
      have HB4 := Lib.hid (below_chain HB3.out hb)
      have HX4 : Hid (CBox _ _ _ _) := Lib.hid (own_below HX3.out hb)
      have HC4 : Hid (CBox _ _ _ _) := Lib.hid (own_below HC3.out hb)
      have HT4 := Lib.hid (own_below HT3.out hb)
      have HS4 := Lib.hid (own_mono hb1 HB3.out.size)
      have hw4 := Nat.lt_of_lt_of_le hw3 hb.size
      replace k0 := cell_later hb (by exact k0)
      replace k1 := cell_later hb (by exact k1)
      replace k2 := cell_later hb (by exact k2)
      replace k3 := cell_later hb (by exact k3)
      replace k4 := cell_later hb (by exact k4)
      have HZ : Hid (CBox _ _ _ _) := Lib.hid (own_below HZ2.out hb)
      clear hb hb1 HB3 HX3 HC3 HT3 hw3 HZ2
      go_wp2
      clear hHeld
      refine hK.out _ _ (by exact ⟨k0, k1, k2, k3, k4⟩) (fun hHeld => ?_)
      clear hK K
      try simp only [Act.put, List.setIfInBounds_toArray, List.set_cons_zero, List.set_cons_succ]
      refine rg_take (v := ?_) 12 rfl (by kernel_rfl) (by kernel_rfl) (by kernel_rfl) (fun _ _ _ h => h) (by kernel_rfl) ?_ (by assumption) ?_
      rotate_left
      · (intro w' hSw; (try dsimp only at hSw); go_simp; first | done | with_reducible rfl)
      simp only [Act.put, List.setIfInBounds_toArray, List.set_cons_zero, List.set_cons_succ]
      obtain ⟨⟨y0, y1, y2, y3, y4⟩, ⟨f0, f1, f2, f3, f4⟩, hyl⟩ := CBox.c HZ.out
      have hz := CBox.fill HZ.out (.int .i64 ci) (.int .i64 cw) (.int .i64 co) (.slice B1 bs.length r1) (.slice B2 ss.length r2)
      have HO5 : Hid (CBox (((((w4.setCell ⟨w2.heap.size, 0, none⟩ (.int .i64 ci)).setCell ⟨w2.heap.size, 1, none⟩ (.int .i64 cw)).setCell ⟨w2.heap.size, 2, none⟩ (.int .i64 co)).setCell ⟨w2.heap.size, 3, none⟩ (.slice B1 bs.length r1)).setCell ⟨w2.heap.size, 4, none⟩ (.slice B2 ss.length r2)) w.heap.size w2.heap.size [.int .i64 ci, .int .i64 cw, .int .i64 co, .slice B1 bs.length r1, .slice B2 ss.length r2]) := Lib.hid hz.1
      have HT5 := Lib.hid (own_keep HT4.out HZ.out (by decide) hz.2)
      have HS5 := Lib.hid (own_keep HS4.out HZ.out (by decide) hz.2)
      have HX5 : Hid (CBox _ _ _ _) := Lib.hid (HX4.out.keep hz.2 (by omega))
      have HC5 : CBox _ _ _ _ := HC4.out.keep hz.2 (by omega)
      have HB5 := Lib.hid (below_of_grown HB4.out hz.2 (fun q hq => by simp only [Option.some.injEq] at hq; omega))
      obtain ⟨⟨p0, p1, p2, p3, p4⟩, _, _⟩ := CBox.c HC5
      clear hz HZ HT4 HS4 HX4 HC4 HB4 HC5
      refine rg_run 14 rfl (by kernel_rfl) (by kernel_rfl) (fun K hK => ?_)
      go_simp
      clear hHeld
      refine hK.out _ _ (by exact ⟨p0, p1, p2, p3, p4⟩) (fun hHeld => ?_)
      clear hK K
      try simp only [Act.put, List.setIfInBounds_toArray, List.set_cons_zero, List.set_cons_succ]
      refine wpAnyH_done (by kernel_rfl) ?_ _
      clear hHeld
      clear p0 p1 p2 p3 p4 k0 k1 k2 k3 k4 y0 y1 y2 y3 y4 f0 f1 f2 f3 f4
      have hobw : w.heap.size + 1 < w2.heap.size := by omega
      obtain ⟨ob, hob⟩ : ∃ ob, ob = w2.heap.size := ⟨_, rfl⟩
      rw [← hob] at HO5 HT5 HS5 HX5 HB5 hobw ⊢
      clear hyl
      generalize (((((w4.setCell ⟨ob, 0, none⟩ (.int .i64 ci)).setCell ⟨ob, 1, none⟩ (.int .i64 cw)).setCell ⟨ob, 2, none⟩ (.int .i64 co)).setCell ⟨ob, 3, none⟩ (.slice B1 bs.length r1)).setCell ⟨ob, 4, none⟩ (.slice B2 ss.length r2)) = w5 at *
      clear hob
      go_wp2_with (fail)
      go_loopw [5] (fun u wr => ∃ (ch : Bool) (n cap : Nat) (A : Option Addr) (l : List Ins), u = .bool ch ∧ n ≤ 2000 ∧ Hid (l.length = n) ∧ Hid (GoodL ⟨ci, cw, co, bs, ss⟩ l) ∧ Hid (wr.ownsRow w.heap.size 88 2 (.slice A n cap) n (insCells l)) ∧ Hid (wr.ownsRow w.heap.size 60 3 (.slice B1 bs.length r1) bs.length (tmCells bs))
          ∧ Hid (CBox wr w.heap.size ob [.int .i64 ci, .int .i64 cw, .int .i64 co, .slice B1 bs.length r1, .slice A n cap]) ∧ Hid (CBox wr w.heap.size (w.heap.size + 1) [.int .i64 0, .int .i64 0, .int .i64 0, .slice none 0 0, .slice none 0 0]) ∧ Hid (Below w.heap.size w wr)) (fun u wr => 2 * lenC (wr.cell? ⟨ob, 4, none⟩) + bit1 u)
      case atStart => exact ⟨true, ss.length, r2, B2, ss, rfl, hl2, Lib.hid rfl, HG, HS5, HT5, HO5, HX5, HB5⟩
      case round =>
        clear HO5 HT5 HS5 HX5 HB5
        obtain ⟨ch, n, cap, A, l, rfl, hn2, hl, hg, hs, ht, hbo, hbx, hb⟩ := hrel
        obtain ⟨⟨k0, k1, k2, k3, k4⟩, ⟨f0, f1, f2, f3, f4⟩, _⟩ := CBox.c hbo.out
        cases ch
        · obtain ⟨⟨y0, y1, y2, y3, y4⟩, ⟨g0, g1, g2, g3, g4⟩, _⟩ := CBox.c hbx.out
          have hz := CBox.fill hbx.out (.int .i64 ci) (.int .i64 cw) (.int .i64 co) (.slice B1 bs.length r1) (.slice A n cap)
          have YT := Lib.hid (own_keep ht.out hbx.out (by decide) hz.2)
          have YS := Lib.hid (own_keep hs.out hbx.out (by decide) hz.2)
          have YB := Lib.hid (below_of_grown hb.out hz.2 (fun q hq => by simp only [Option.some.injEq] at hq; omega))
          have YC := Lib.hid hz.1
          obtain ⟨WF, hWF⟩ : ∃ WF, WF = (((((wr.setCell ⟨w.heap.size + 1, 0, none⟩ (.int .i64 ci)).setCell ⟨w.heap.size + 1, 1, none⟩ (.int .i64 cw)).setCell ⟨w.heap.size + 1, 2, none⟩ (.int .i64 co)).setCell ⟨w.heap.size + 1, 3, none⟩ (.slice B1 bs.length r1)).setCell ⟨w.heap.size + 1, 4, none⟩ (.slice A n cap)) := ⟨_, rfl⟩
          rw [← hWF] at YT YS YB YC
          have HF := Lib.hid hWF
          have HGL := hg
          have HLL := hl
          clear hWF hz ht hs hb hbx hbo hg hl
          go_wp2_with (fail)
          rw [← HF.out]
          obtain ⟨⟨r0', r1', r2', r3', r4'⟩, _⟩ := CBox.c YC.out
          clear y0 y1 y2 y3 y4 g0 g1 g2 g3 g4 k0 k1 k2 k3 k4 f0 f1 f2 f3 f4
          refine bodyPost_ret (v := .tuple #[.agg #[.int .i64 ci, .int .i64 cw, .int .i64 co, .slice B1 bs.length r1, .slice A n cap], .int .i64 0]) (by simp [results, Tryz.results17, go_sem, r0', r1', r2', r3', r4']) rfl (by
            obtain ⟨h1, h2⟩ := goodL_code HGC.out HGL.out
            have hLL := HLL.out
            subst hLL
            exact ⟨⟨ci, cw, co, bs, l⟩, B1, r1, A, cap, rfl, h1, h2, ⟨HCO.out.1, by show l.length ≤ _; have := HGL.out.n; omega⟩, ⟨Rd.own YT.out, Rd.own YS.out⟩, YB.out⟩)
        · go_wp2_with (fail)
          refine (c_improveOnce w.heap.size n cap A l _ hl.out (by omega) hs.out hg.out.p).mono ?_
          rintro e w6 ⟨l', b, rfl, ho6, hg6, hi6⟩
          obtain ⟨hgl, hb1, hb0⟩ := goodL_imp hg.out hi6
          have HGL := Lib.hid hgl
          have HBT := Lib.hid hb1
          have HBF := Lib.hid hb0
          have HT6 := Lib.hid (own_keep ht.out hs.out (by decide) hg6)
          have HO6 : CBox w6 _ _ _ := own_keep hbo.out hs.out (by decide) hg6
          have HX6 : CBox w6 _ _ _ := own_keep hbx.out hs.out (by decide) hg6
          have HB6 := below_of_grown hb.out hg6 (fun q hq => (hs.out.lt q hq).1)
          obtain ⟨⟨k0', k1', k2', k3', k4'⟩, ⟨f0', f1', f2', f3', f4'⟩, _⟩ := CBox.c HO6
          have hz := CBox.put HO6 4 (.slice A l'.length cap)
          have HO7 : Hid (CBox (w6.setCell ⟨ob, 4, none⟩ (.slice A l'.length cap)) w.heap.size ob [.int .i64 ci, .int .i64 cw, .int .i64 co, .slice B1 bs.length r1, .slice A l'.length cap]) := Lib.hid hz.1
          have HT7 := Lib.hid (own_keep HT6.out HO6 (by decide) hz.2)
          have HS7 := Lib.hid (own_keep ho6 HO6 (by decide) hz.2)
          have HX7 := Lib.hid (HX6.keep hz.2 (by omega))
          have HB7 := Lib.hid (below_of_grown HB6 hz.2 (fun q hq => by simp only [Option.some.injEq] at hq; omega))
          have HLE : Hid (l'.length ≤ 2000) := Lib.hid hgl.n
          have HML : Hid (l.length = n) := hl
          have HK4 := Lib.hid k4
          clear hz hgl hb1 hb0 hi6 ho6 hg6 HT6 HO6 HX6 HB6 hl hg hs ht hbo hbx hb k0 k1 k2 k3 k4 f0 f1 f2 f3 f4
          obtain ⟨ln, hln⟩ : ∃ ln, Hid (l'.length = ln) := ⟨_, Lib.hid rfl⟩
          rw [hln.out] at HO7 HS7 HT7 HX7 HB7 HLE ⊢
          go_wp2_with (fail)
          have HK7 := Lib.hid (CBox.c HO7.out).1.2.2.2.2
          clear k0' k1' k2' k3' k4' f0' f1' f2' f3' f4'
          go_roundw
          case rel => exact ⟨b, ln, cap, A, l', rfl, HLE.out, hln, HGL, HS7, HT7, HO7, HX7, HB7⟩
          case measure =>
            rw [HK7.out, HK4.out]
            have h1 := HML.out
            have h2 := hln.out
            cases b
            · have := HBF.out rfl
              subst this
              show 2 * ln + 0 < 2 * n + 1
              omega
            · have := HBT.out rfl
              show 2 * ln + 1 < 2 * n + 1
              omega
  · skip
    go_simp
    have BA := below_alloc (Below.refl w1.heap.size w1).drew (.cells #[.int .i64 0, .int .i64 0, .int .i64 0, .slice none 0 0, .slice none 0 0] 35)
    replace k0 := cell_later BA (by exact k0)
    replace k1 := cell_later BA (by exact k1)
    replace k2 := cell_later BA (by exact k2)
    replace k3 := cell_later BA (by exact k3)
    replace k4 := cell_later BA (by exact k4)
    clear hHeld
    refine hK.out _ _ (by exact ⟨k0, k1, k2, k3, k4⟩) (fun hHeld => ?_)
    clear hK K
    try simp only [Act.put, List.setIfInBounds_toArray, List.set_cons_zero, List.set_cons_succ]
    have HZ2 : Hid (CBox (w1.drew.alloc (.cells #[.int .i64 0, .int .i64 0, .int .i64 0, .slice none 0 0, .slice none 0 0] 35)) w.heap.size w1.heap.size [.int .i64 0, .int .i64 0, .int .i64 0, .slice none 0 0, .slice none 0 0]) := Lib.hid (own_box w1.drew w.heap.size 35 [.int .i64 0, .int .i64 0, .int .i64 0, .slice none 0 0, .slice none 0 0] 5 rfl (show w.heap.size ≤ w1.heap.size by omega))
    have HX2 : Hid (CBox _ _ _ _) := Lib.hid (own_below HX1.out BA)
    have HC2 : Hid (CBox _ _ _ _) := Lib.hid (own_below HC1.out BA)
    have HB2 := Lib.hid (below_chain HB1.out BA)
    have hw2 := Nat.lt_of_lt_of_le hw1 BA.size
    clear HX1 HC1 HB1 BA
    refine rg_run 8 rfl (by kernel_rfl) (by kernel_rfl) (fun K hK => ?_)
    go_simp
    refine (c_CloneT A1 base q1 _ bs _ (by omega) (own_below H1.out (HB2.out))).mono ?_
    rintro e w3 ⟨B1, r1, rfl, hb1, hb⟩
    have hbs := hb
    have HB3 := Lib.hid (below_chain HB2.out hbs)
    have HX3 : Hid (CBox _ _ _ _) := Lib.hid (own_below HX2.out hbs)
    have HC3 : Hid (CBox _ _ _ _) := Lib.hid (own_below HC2.out hbs)
    have HT3 := Lib.hid (own_mono hb1 (show w.heap.size ≤ _ from HB2.out.size))
    have hw3 := Nat.lt_of_lt_of_le hw2 hbs.size
    replace k0 := cell_later hbs (by exact k0)
    replace k1 := cell_later hbs (by exact k1)
    replace k2 := cell_later hbs (by exact k2)
    replace k3 := cell_later hbs (by exact k3)
    replace k4 := cell_later hbs (by exact k4)
    have HZ3 : Hid (CBox _ _ _ _) := Lib.hid (own_below HZ2.out hb)
    clear hb hbs hb1 HB2 HX2 HC2 hw2 HZ2
    go_wp2
    clear hHeld
    refine hK.out _ _ (by exact ⟨k0, k1, k2, k3, k4⟩) (fun hHeld => ?_)
    clear hK K
    try simp only [Act.put, List.setIfInBounds_toArray, List.set_cons_zero, List.set_cons_succ]
    refine rg_run 11 rfl (by kernel_rfl) (by kernel_rfl) (fun K hK => ?_)
    go_simp
    refine (c_CloneI A2 base q2 _ ss _ (by omega) (own_below H2.out HB3.out)).mono ?_
    rintro e w4 ⟨B2, r2, rfl, hb1, hb⟩
    have HB4 := Lib.hid (below_chain HB3.out hb)
    have HX4 : Hid (CBox _ _ _ _) := Lib.hid (own_below HX3.out hb)
    have HC4 : Hid (CBox _ _ _ _) := Lib.hid (own_below HC3.out hb)
    have HT4 := Lib.hid (own_below HT3.out hb)
    have HS4 := Lib.hid (own_mono hb1 HB3.out.size)
    have hw4 := Nat.lt_of_lt_of_le hw3 hb.size
    replace k0 := cell_later hb (by exact k0)
    replace k1 := cell_later hb (by exact k1)
    replace k2 := cell_later hb (by exact k2)
    replace k3 := cell_later hb (by exact k3)
    replace k4 := cell_later hb (by exact k4)
    have HZ : Hid (CBox _ _ _ _) := Lib.hid (own_below HZ3.out hb)
    clear hb hb1 HB3 HX3 HC3 HT3 hw3 HZ3
    go_wp2
    clear hHeld
    refine hK.out _ _ (by exact ⟨k0, k1, k2, k3, k4⟩) (fun hHeld => ?_)
    clear hK K
    try simp only [Act.put, List.setIfInBounds_toArray, List.set_cons_zero, List.set_cons_succ]
    refine rg_take (v := ?_) 12 rfl (by kernel_rfl) (by kernel_rfl) (by kernel_rfl) (fun _ _ _ h => h) (by kernel_rfl) ?_ (by assumption) ?_
    rotate_left
    · (intro w' hSw; (try dsimp only at hSw); go_simp; first | done | with_reducible rfl)
    simp only [Act.put, List.setIfInBounds_toArray, List.set_cons_zero, List.set_cons_succ]
    obtain ⟨⟨y0, y1, y2, y3, y4⟩, ⟨f0, f1, f2, f3, f4⟩, hyl⟩ := CBox.c HZ.out
    have hz := CBox.fill HZ.out (.int .i64 ci) (.int .i64 cw) (.int .i64 co) (.slice B1 bs.length r1) (.slice B2 ss.length r2)
    have HO5 : Hid (CBox (((((w4.setCell ⟨w1.heap.size, 0, none⟩ (.int .i64 ci)).setCell ⟨w1.heap.size, 1, none⟩ (.int .i64 cw)).setCell ⟨w1.heap.size, 2, none⟩ (.int .i64 co)).setCell ⟨w1.heap.size, 3, none⟩ (.slice B1 bs.length r1)).setCell ⟨w1.heap.size, 4, none⟩ (.slice B2 ss.length r2)) w.heap.size w1.heap.size [.int .i64 ci, .int .i64 cw, .int .i64 co, .slice B1 bs.length r1, .slice B2 ss.length r2]) := Lib.hid hz.1
    have HT5 := Lib.hid (own_keep HT4.out HZ.out (by decide) hz.2)
    have HS5 := Lib.hid (own_keep HS4.out HZ.out (by decide) hz.2)
    have HX5 : Hid (CBox _ _ _ _) := Lib.hid (HX4.out.keep hz.2 (by omega))
    have HC5 : CBox _ _ _ _ := HC4.out.keep hz.2 (by omega)
    have HB5 := Lib.hid (below_of_grown HB4.out hz.2 (fun q hq => by simp only [Option.some.injEq] at hq; omega))
    obtain ⟨⟨p0, p1, p2, p3, p4⟩, _, _⟩ := CBox.c HC5
    clear hz HZ HT4 HS4 HX4 HC4 HB4 HC5
    refine rg_run 14 rfl (by kernel_rfl) (by kernel_rfl) (fun K hK => ?_)
    go_simp
    clear hHeld
    refine hK.out _ _ (by exact ⟨p0, p1, p2, p3, p4⟩) (fun hHeld => ?_)
    clear hK K
    try simp only [Act.put, List.setIfInBounds_toArray, List.set_cons_zero, List.set_cons_succ]
    refine wpAnyH_done (by kernel_rfl) ?_ _
    clear hHeld
    clear p0 p1 p2 p3 p4 k0 k1 k2 k3 k4 y0 y1 y2 y3 y4 f0 f1 f2 f3 f4
    have hobw : w.heap.size + 1 < w1.heap.size := by omega
    obtain ⟨ob, hob⟩ : ∃ ob, ob = w1.heap.size := ⟨_, rfl⟩
    rw [← hob] at HO5 HT5 HS5 HX5 HB5 hobw ⊢
    clear hyl
    generalize (((((w4.setCell ⟨ob, 0, none⟩ (.int .i64 ci)).setCell ⟨ob, 1, none⟩ (.int .i64 cw)).setCell ⟨ob, 2, none⟩ (.int .i64 co)).setCell ⟨ob, 3, none⟩ (.slice B1 bs.length r1)).setCell ⟨ob, 4, none⟩ (.slice B2 ss.length r2)) = w5 at *
    clear hob
    go_wp2_with (fail)
    go_loopw [5] (fun u wr => ∃ (ch : Bool) (n cap : Nat) (A : Option Addr) (l : List Ins), u = .bool ch ∧ n ≤ 2000 ∧ Hid (l.length = n) ∧ Hid (GoodL ⟨ci, cw, co, bs, ss⟩ l) ∧ Hid (wr.ownsRow w.heap.size 88 2 (.slice A n cap) n (insCells l)) ∧ Hid (wr.ownsRow w.heap.size 60 3 (.slice B1 bs.length r1) bs.length (tmCells bs))
        ∧ Hid (CBox wr w.heap.size ob [.int .i64 ci, .int .i64 cw, .int .i64 co, .slice B1 bs.length r1, .slice A n cap]) ∧ Hid (CBox wr w.heap.size (w.heap.size + 1) [.int .i64 0, .int .i64 0, .int .i64 0, .slice none 0 0, .slice none 0 0]) ∧ Hid (Below w.heap.size w wr)) (fun u wr => 2 * lenC (wr.cell? ⟨ob, 4, none⟩) + bit1 u)
    case atStart => exact ⟨true, ss.length, r2, B2, ss, rfl, hl2, Lib.hid rfl, HG, HS5, HT5, HO5, HX5, HB5⟩
    case round =>
      clear HO5 HT5 HS5 HX5 HB5
      obtain ⟨ch, n, cap, A, l, rfl, hn2, hl, hg, hs, ht, hbo, hbx, hb⟩ := hrel
      obtain ⟨⟨k0, k1, k2, k3, k4⟩, ⟨f0, f1, f2, f3, f4⟩, _⟩ := CBox.c hbo.out
      cases ch
      · obtain ⟨⟨y0, y1, y2, y3, y4⟩, ⟨g0, g1, g2, g3, g4⟩, _⟩ := CBox.c hbx.out
        have hz := CBox.fill hbx.out (.int .i64 ci) (.int .i64 cw) (.int .i64 co) (.slice B1 bs.length r1) (.slice A n cap)
        have YT := Lib.hid (own_keep ht.out hbx.out (by decide) hz.2)
        have YS := Lib.hid (own_keep hs.out hbx.out (by decide) hz.2)
        have YB := Lib.hid (below_of_grown hb.out hz.2 (fun q hq => by simp only [Option.some.injEq] at hq; omega))
        have YC := Lib.hid hz.1
        obtain ⟨WF, hWF⟩ : ∃ WF, WF = (((((wr.setCell ⟨w.heap.size + 1, 0, none⟩ (.int .i64 ci)).setCell ⟨w.heap.size + 1, 1, none⟩ (.int .i64 cw)).setCell ⟨w.heap.size + 1, 2, none⟩ (.int .i64 co)).setCell ⟨w.heap.size + 1, 3, none⟩ (.slice B1 bs.length r1)).setCell ⟨w.heap.size + 1, 4, none⟩ (.slice A n cap)) := ⟨_, rfl⟩
        rw [← hWF] at YT YS YB YC
        have HF := Lib.hid hWF
        have HGL := hg
        have HLL := hl
        clear hWF hz ht hs hb hbx hbo hg hl
        go_wp2_with (fail)
        rw [← HF.out]
        obtain ⟨⟨r0', r1', r2', r3', r4'⟩, _⟩ := CBox.c YC.out
        clear y0 y1 y2 y3 y4 g0 g1 g2 g3 g4 k0 k1 k2 k3 k4 f0 f1 f2 f3 f4
        refine bodyPost_ret (v := .tuple #[.agg #[.int .i64 ci, .int .i64 cw, .int .i64 co, .slice B1 bs.length r1, .slice A n cap], .int .i64 0]) (by simp [results, Tryz.results17, go_sem, r0', r1', r2', r3', r4']) rfl (by
          obtain ⟨h1, h2⟩ := goodL_code HGC.out HGL.out
          have hLL := HLL.out
          subst hLL
          exact ⟨⟨ci, cw, co, bs, l⟩, B1, r1, A, cap, rfl, h1, h2, ⟨HCO.out.1, by show l.length ≤ _; have := HGL.out.n; omega⟩, ⟨Rd.own YT.out, Rd.own YS.out⟩, YB.out⟩)
      · go_wp2_with (fail)
        refine (c_improveOnce w.heap.size n cap A l _ hl.out (by omega) hs.out hg.out.p).mono ?_
        rintro e w6 ⟨l', b, rfl, ho6, hg6, hi6⟩
        obtain ⟨hgl, hb1, hb0⟩ := goodL_imp hg.out hi6
        have HGL := Lib.hid hgl
        have HBT := Lib.hid hb1
        have HBF := Lib.hid hb0
        have HT6 := Lib.hid (own_keep ht.out hs.out (by decide) hg6)
        have HO6 : CBox w6 _ _ _ := own_keep hbo.out hs.out (by decide) hg6
        have HX6 : CBox w6 _ _ _ := own_keep hbx.out hs.out (by decide) hg6
        have HB6 := below_of_grown hb.out hg6 (fun q hq => (hs.out.lt q hq).1)
        obtain ⟨⟨k0', k1', k2', k3', k4'⟩, ⟨f0', f1', f2', f3', f4'⟩, _⟩ := CBox.c HO6
        have hz := CBox.put HO6 4 (.slice A l'.length cap)
        have HO7 : Hid (CBox (w6.setCell ⟨ob, 4, none⟩ (.slice A l'.length cap)) w.heap.size ob [.int .i64 ci, .int .i64 cw, .int .i64 co, .slice B1 bs.length r1, .slice A l'.length cap]) := Lib.hid hz.1
        have HT7 := Lib.hid (own_keep HT6.out HO6 (by decide) hz.2)
        have HS7 := Lib.hid (own_keep ho6 HO6 (by decide) hz.2)
        have HX7 := Lib.hid (HX6.keep hz.2 (by omega))
        have HB7 := Lib.hid (below_of_grown HB6 hz.2 (fun q hq => by simp only [Option.some.injEq] at hq; omega))
        have HLE : Hid (l'.length ≤ 2000) := Lib.hid hgl.n
        have HML : Hid (l.length = n) := hl
        have HK4 := Lib.hid k4
        clear hz hgl hb1 hb0 hi6 ho6 hg6 HT6 HO6 HX6 HB6 hl hg hs ht hbo hbx hb k0 k1 k2 k3 k4 f0 f1 f2 f3 f4
        obtain ⟨ln, hln⟩ : ∃ ln, Hid (l'.length = ln) := ⟨_, Lib.hid rfl⟩
        rw [hln.out] at HO7 HS7 HT7 HX7 HB7 HLE ⊢
        go_wp2_with (fail)
        have HK7 := Lib.hid (CBox.c HO7.out).1.2.2.2.2
        clear k0' k1' k2' k3' k4' f0' f1' f2' f3' f4'
        go_roundw
        case rel => exact ⟨b, ln, cap, A, l', rfl, HLE.out, hln, HGL, HS7, HT7, HO7, HX7, HB7⟩
        case measure =>
          rw [HK7.out, HK4.out]
          have h1 := HML.out
          have h2 := hln.out
          cases b
          · have := HBF.out rfl
            subst this
            show 2 * ln + 0 < 2 * n + 1
            omega
          · have := HBT.out rfl
            show 2 * ln + 1 < 2 * n + 1
            omega
end Go.Proofs.YteengjcplmjakaaGreatDoor

/- The code of a sound program is a code, plainly. No condition but that the program is sound. -/
namespace Go.Proofs.YteengjcplmjakaaGreatDoor
open Go.RowKit

theorem tak_nm (p : Prg) (c : Cd) (s : ByteArray) : takI c (nmI p s 2 3) = 0 ∧ givI (nmI p s 2 3) = 1 := by
  unfold nmI
  split <;> exact ⟨rfl, rfl⟩
theorem tak_gd (p : Prg) (c : Cd) (s : ByteArray) : takI c (nmI p s 10 11) = 0 ∧ givI (nmI p s 10 11) = 0 := by
  unfold nmI
  split <;> exact ⟨rfl, rfl⟩
theorem tak_tg (p : Prg) (c : Cd) (s : ByteArray) : takI c (tgI p s) = 1 ∧ givI (tgI p s) = 0 := by
  unfold tgI
  split <;> exact ⟨rfl, rfl⟩
theorem tak_T {p : Prg} {c : Cd} {b : Nat} {t : Tm} (hk : trmT t.k t.nm t.n = true) (hb : isB t = true → c.bs[b]? = some t) : takI c (insT p b t) = argI t.k ∧ givI (insT p b t) = 1 := by
  have hkk := trm_k hk
  unfold insT
  by_cases h1 : t.k = 1
  · rw [if_pos h1, h1]; exact tak_nm _ _ _
  rw [if_neg h1]
  by_cases h2 : t.k = 2
  · rw [if_pos h2, h2]; exact ⟨rfl, rfl⟩
  rw [if_neg h2]
  by_cases h3 : t.k = 3
  · rw [if_pos h3, h3]; exact ⟨rfl, rfl⟩
  rw [if_neg h3]
  by_cases h4 : t.k = 4 ∨ t.k = 5 ∨ t.k = 6
  · rw [if_pos h4]
    rcases h4 with h4 | h4 | h4 <;> rw [h4] <;> exact ⟨rfl, rfl⟩
  rw [if_neg h4]
  have hB : isB t = true := decide_eq_true (by omega)
  refine ⟨?_, rfl⟩
  show argI (kindA c (b : Int)) = _
  unfold kindA
  rw [Int.toNat_natCast, List.getD_eq_getElem?_getD, hb hB]
  rfl
theorem hgt_T {p : Prg} {c : Cd} (r : List Ins) : ∀ {l : List Tm} {b : Nat} {pre post : List Tm} {n m : Int}, c.bs = pre ++ (l.filter isB ++ post) → pre.length = b → (∀ x ∈ csT p b l, fitB c x = true) → runH l n = some m → n + l.length ≤ 40 → hgt c (csT p b l ++ r) n = hgt c r m
  | [], _, _, _, n, m, _, _, _, hr, _ => by
    simp only [runH, Option.some.injEq] at hr
    subst hr
    rfl
  | t :: l, b, pre, post, n, m, hc, hp, hf, hr, hn => by
    have e : runH (t :: l) n = if trmT t.k t.nm t.n = true ∧ argI t.k ≤ n then runH l (n - argI t.k + 1) else none := rfl
    rw [e] at hr
    split at hr
    · rename_i hx
      obtain ⟨e1, e2⟩ := tak_T (p := p) (c := c) (b := b) hx.1 (fun hB => by
        rw [hc, List.getElem?_append_right (by omega), hp, Nat.sub_self, List.filter_cons, if_pos hB]
        rfl)
      have ha := arg_bd t.k
      have hl : ((t :: l).length : Int) = l.length + 1 := by simp
      show (if fitB c (insT p b t) = true ∧ takI c (insT p b t) ≤ n ∧ n - takI c (insT p b t) + givI (insT p b t) ≤ 40 then hgt c (csT p (b + nbT [t]) l ++ r) (n - takI c (insT p b t) + givI (insT p b t)) else none) = _
      rw [e1, e2, if_pos ⟨hf _ List.mem_cons_self, hx.2, by omega⟩]
      refine hgt_T r (pre := pre ++ [t].filter isB) (post := post) ?_ ?_ (fun x hx => hf x (List.mem_cons_of_mem _ hx)) hr (by omega)
      · rw [hc, show t :: l = [t] ++ l from rfl, List.filter_append]
        simp
      · rw [List.length_append, hp]
        rfl
    · cases hr
theorem hgt_L {p : Prg} {c : Cd} (r : List Ins) {l : Lin} {b : Nat} {pre post : List Tm} (hc : c.bs = pre ++ (blkL l ++ post)) (hp : pre.length = b) (hf : ∀ x ∈ csL p b l, fitB c x = true) (hr : runH l.ts 0 = some 1) (hn : l.ts.length ≤ 40) : hgt c (csL p b l ++ r) 0 = hgt c r 0 := by
  unfold csL at hf ⊢
  rw [List.append_assoc, hgt_T ([tgI p l.tg] ++ r) hc hp (fun x hx => hf x (List.mem_append_left _ hx)) hr (by omega)]
  obtain ⟨e1, e2⟩ := tak_tg p c l.tg
  show (if fitB c (tgI p l.tg) = true ∧ takI c (tgI p l.tg) ≤ 1 ∧ 1 - takI c (tgI p l.tg) + givI (tgI p l.tg) ≤ 40 then hgt c r (1 - takI c (tgI p l.tg) + givI (tgI p l.tg)) else none) = _
  rw [e1, e2, if_pos ⟨hf _ (List.mem_append_right _ (List.mem_singleton.2 rfl)), by omega, by omega⟩]
  rfl
theorem hgt_P {p : Prg} {c : Cd} (r : List Ins) : ∀ {ls : List Lin} {b : Nat} {pre post : List Tm}, c.bs = pre ++ (ls.flatMap blkL ++ post) → pre.length = b → (∀ x ∈ csP p b ls, fitB c x = true) → (∀ l ∈ ls, runH l.ts 0 = some 1) → (∀ l ∈ ls, l.ts.length ≤ 40) → hgt c (csP p b ls ++ r) 0 = hgt c r 0
  | [], _, _, _, _, _, _, _, _ => rfl
  | l :: ls, b, pre, post, hc, hp, hf, hr, hn => by
    show hgt c (csL p b l ++ csP p (b + nbT l.ts) ls ++ r) 0 = _
    have hf' : ∀ x ∈ csL p b l ++ csP p (b + nbT l.ts) ls, fitB c x = true := hf
    rw [List.append_assoc, hgt_L (csP p (b + nbT l.ts) ls ++ r) (pre := pre) (post := ls.flatMap blkL ++ post) (by rw [hc, List.flatMap_cons, List.append_assoc]) hp (fun x hx => hf' x (List.mem_append_left _ hx)) (hr l List.mem_cons_self) (hn l List.mem_cons_self)]
    refine hgt_P r (pre := pre ++ blkL l) (post := post) ?_ ?_ (fun x hx => hf' x (List.mem_append_right _ hx)) (fun x hx => hr x (List.mem_cons_of_mem _ hx)) (fun x hx => hn x (List.mem_cons_of_mem _ hx))
    · rw [hc, List.flatMap_cons, List.append_assoc, List.append_assoc]
    · rw [List.length_append, hp]
      rfl
theorem run_one {p : Prg} (h : (wrB p && fltB p) = true) : ∀ l ∈ p.ls, runH l.ts 0 = some 1 := by
  intro l hl
  rw [Bool.and_eq_true] at h
  obtain ⟨hw, _⟩ := h
  unfold wrB at hw
  simp only [Bool.and_eq_true] at hw
  have h1 := List.all_eq_true.1 hw.2.2.2.2.2.1 l hl
  unfold linB exB at h1
  simp only [Bool.and_eq_true] at h1
  have h0 := h1.2.1
  unfold exF at h0
  split at h0
  · rename_i n e
    rw [e]
    simpa using h0
  · cases h0
/-- The code of a sound program is a code. -/
theorem code_cmp {p : Prg} (h : (wrB p && fltB p) = true) : codeB (cmp p) = true := by
  have hs := snd_of h
  have hd := hd_cmp hs
  have hf := fit_cmp hs
  have hh : hgt (cmp p) (cmp p).ss 0 = some 0 := by
    show hgt (cmp p) (csP p 0 p.ls ++ gdI p) 0 = some 0
    rw [hgt_P (b := 0) (gdI p) (pre := []) (post := []) (by show blk p = [] ++ (p.ls.flatMap blkL ++ []); rw [List.nil_append, List.append_nil]; rfl) rfl (fun x hx => hf x (List.mem_append_left _ hx)) (run_one h) hs.b.t]
    have hg : ∀ x ∈ gdI p, fitB (cmp p) x = true := fun x hx => hf x (List.mem_append_right _ hx)
    unfold gdI at hg ⊢
    split
    · rfl
    · rename_i he
      rw [if_neg he] at hg
      obtain ⟨e1, e2⟩ := tak_gd p (cmp p) p.gd
      show (if fitB (cmp p) (nmI p p.gd 10 11) = true ∧ takI (cmp p) (nmI p p.gd 10 11) ≤ 0 ∧ 0 - takI (cmp p) (nmI p p.gd 10 11) + givI (nmI p p.gd 10 11) ≤ 40 then some (0 - takI (cmp p) (nmI p p.gd 10 11) + givI (nmI p p.gd 10 11)) else none) = _
      rw [e1, e2, if_pos ⟨hg _ (List.mem_singleton.2 rfl), by omega, by omega⟩]
      rfl
  unfold codeB headC hgtB inB
  rw [hh]
  simp only [Bool.and_eq_true, decide_eq_true_eq]
  exact ⟨⟨⟨⟨⟨⟨⟨hd.i0, hd.i1⟩, hd.v0, hd.v1⟩, hd.o0, hd.o1⟩, hd.b⟩, hd.s⟩, List.all_eq_true.2 (blk_cmp hs)⟩, trivial⟩
theorem scan_cmp {p : Prg} (h : (wrB p && fltB p) = true) : scanC (cmp p) = 0 ∧ scanV (cmp p) = sumK (cmp p) (cmp p).ss.length := by
  unfold scanC scanV
  rw [code_cmp h]
  exact ⟨rfl, rfl⟩
end Go.Proofs.YteengjcplmjakaaGreatDoor

/- LineTimes on the reference's side. Condition: the lengths. -/
namespace Go.Proofs.YteengjcplmjakaaGreatDoor
open Go.RowKit

def soB (p : Prg) : Bool := wrB p && fltB p
/-- The code, the list. -/
def ltC (p : Prg) : Int := if soB p then 0 else 1
def ltV (p : Prg) : List Int := if soB p then p.ls.map tL else []
/-- What is handed back: a list of the call's own, and a code. -/
def RetZC (zs : List Int) (c : Int) (w : World) (e : Ending) (w' : World) : Prop :=
  ∃ A n cap, e = .returned (.tuple #[.slice A n cap, .int .i64 c]) ∧ n = zs.length ∧ w'.ownsRow w.heap.size 2 1 (.slice A n cap) n (ints zs) ∧ Below w.heap.size w w'
theorem retZC_nil {zs : List Int} {c : Int} {w w' : World} (h : zs = []) (hb : Below w.heap.size w w') : RetZC zs c w (.returned (.tuple #[.slice none 0 0, .int .i64 c])) w' := by
  subst h
  exact ⟨none, 0, 0, rfl, rfl, World.ownsRow_nil _ _ _ _, hb⟩
theorem retZC_own {zs L : List Int} {n cap : Nat} {A : Option Addr} {w w' : World} (h : zs = L) (hn : L.length = n) (ho : w'.ownsRow w.heap.size 2 1 (.slice A n cap) n (ints L)) (hb : Below w.heap.size w w') : RetZC zs 0 w (.returned (.tuple #[.slice A n cap, .int .i64 0])) w' := by
  subst h; subst hn
  exact ⟨A, _, cap, rfl, rfl, ho, hb⟩
theorem ltS_drop {c : Cd} {k : Nat} {x : Ins} (hx : c.ss[k]? = some x) (n : Int) : ltS c (c.ss.drop k) n = if x.o = 8 ∨ x.o = 9 then (n + timI c x) :: ltS c (c.ss.drop (k + 1)) 0 else ltS c (c.ss.drop (k + 1)) (n + timI c x) := by
  obtain ⟨hk, e⟩ := List.getElem?_eq_some_iff.1 hx
  rw [List.drop_eq_getElem_cons hk, e]
  rfl
set_option maxHeartbeats 2000000 in
set_option maxRecDepth 100000 in
theorem c_sLineTimes (p : Prg) (a1 a2 a3 a4 : Option Addr) (c1 c2 c3 c4 : Nat) (w : World) (hs : PgOk p) (hz : PgZ a1 a2 a3 c1 c2 c3) (h : PgR w a1 a2 a3 a4 p) :
    Calls Tryz.prog 9 #[pv p a1 a2 a3 a4 c1 c2 c3 c4] w (RetZC (ltV p) (ltC p) w) := by
  have H := Lib.hid h
  have HI := Lib.hid (fun w h => c_sIsSound p a1 a2 a3 a4 c1 c2 c3 c4 w hs hz h)
  have HC := Lib.hid (fun w hd h => c_l17Compile p a1 a2 a3 a4 c1 c2 c3 c4 w hs hd h)
  have HSN := Lib.hid (fun h => snd_of (p := p) h)
  have HV : Hid (soB p = (wrB p && fltB p)) := Lib.hid rfl
  have HV1 : Hid (soB p = false → ltC p = 1 ∧ ltV p = []) := Lib.hid (fun e => by unfold ltC ltV; rw [e]; exact ⟨rfl, rfl⟩)
  have HV0 : Hid (soB p = true → ltC p = 0 ∧ ltV p = p.ls.map tL) := Lib.hid (fun e => by unfold ltC ltV; rw [e]; exact ⟨rfl, rfl⟩)
  rw [← HV.out] at HI HSN
  clear HV
  generalize ltC p = RC at *
  generalize ltV p = RV at *
  generalize soB p = s at *
  have B0 := Lib.hid (below_alloc (Below.refl w.heap.size w) (.cells #[.string p.nm, .slice a1 p.ins.length c1, .slice a2 p.vs.length c2, .slice a3 p.os.length c3, .string p.gd, .slice a4 p.ls.length c4] 27))
  have HP : Hid (PB (w.alloc (.cells #[.string p.nm, .slice a1 p.ins.length c1, .slice a2 p.vs.length c2, .slice a3 p.os.length c3, .string p.gd, .slice a4 p.ls.length c4] 27)) w.heap.size p a1 a2 a3 a4 c1 c2 c3 c4) := Lib.hid ⟨by go_simp, by go_simp, by go_simp, by go_simp, by go_simp, by go_simp⟩
  clear hs hz h
  go_enter Tryz.func9, Tryz.ntmps9
  dsimp only [pv]
  go_upto_region 1 with (fail)
  generalize w.alloc (.cells #[.string p.nm, .slice a1 p.ins.length c1, .slice a2 p.vs.length c2, .slice a3 p.os.length c3, .string p.gd, .slice a4 p.ls.length c4] 27) = W at *
  obtain ⟨k0, k1, k2, k3, k4, k5⟩ := HP.out
  go_wp2_with (fail)
  refine (HI.out _ (H.out.below B0.out)).mono ?_
  rintro e w1 ⟨rfl, hb⟩
  have B1 := Lib.hid (below_chain B0.out hb)
  replace k0 := cell_later hb (by exact k0)
  replace k1 := cell_later hb (by exact k1)
  replace k2 := cell_later hb (by exact k2)
  replace k3 := cell_later hb (by exact k3)
  replace k4 := cell_later hb (by exact k4)
  replace k5 := cell_later hb (by exact k5)
  clear hb
  cases s
  · obtain ⟨rfl, e2⟩ := HV1.out rfl
    have HE2 := Lib.hid e2
    clear e2
    go_wp2_with (fail)
    go_ret2
    exact retZC_nil HE2.out B1.out
  obtain ⟨rfl, e2⟩ := HV0.out rfl
  have HE2 := Lib.hid e2
  have HD := Lib.hid (HSN.out rfl)
  clear e2 HV1 HV0 HSN HI
  go_wp2_with (fail)
  refine (HC.out _ HD.out (H.out.below B1.out)).mono ?_
  rintro e w2 ⟨ab, cb, as_, cs, rfl, hob, hos, hb⟩
  have B2 := Lib.hid (below_chain B1.out hb)
  have HR : Hid (CdR w2 ab as_ (cmp p)) := Lib.hid ⟨Rd.own hob, Rd.own hos⟩
  have HLT := Lib.hid (HE2.out.trans (ltS_cmp HD.out).symm)
  have HH := Lib.hid (hd_cmp HD.out)
  have HBL := Lib.hid (blk_cmp HD.out)
  have HFT := Lib.hid (fit_cmp HD.out)
  have hln := (hd_cmp HD.out).s
  clear hb hob hos k0 k1 k2 k3 k4 k5 HE2 HC HD
  generalize cmp p = c at *
  dsimp only [cv]
  have HAB := Lib.hid (below_alloc (Below.refl w2.heap.size w2) (.cells #[.int .i64 c.i, .int .i64 c.v, .int .i64 c.o, .slice ab c.bs.length cb, .slice as_ c.ss.length cs] 35))
  have HA : Hid (CB (w2.alloc (.cells #[.int .i64 c.i, .int .i64 c.v, .int .i64 c.o, .slice ab c.bs.length cb, .slice as_ c.ss.length cs] 35)) w2.heap.size c ab as_ cb cs) := Lib.hid ⟨by go_simp, by go_simp, by go_simp, by go_simp, by go_simp⟩
  go_upto_region 4 with (fail)
  generalize w2.alloc (.cells #[.int .i64 c.i, .int .i64 c.v, .int .i64 c.o, .slice ab c.bs.length cb, .slice as_ c.ss.length cs] 35) = W2 at *
  have HR2 := Lib.hid (HR.out.below HAB.out)
  have B3 := Lib.hid (below_chain B2.out HAB.out)
  generalize w2.heap.size = bc at *
  clear HR HAB B2 B1
  have HO0 : Hid ((W2.alloc (.cells #[] 2)).ownsRow W2.heap.size 2 1 (.slice (some ⟨W2.heap.size, 0, none⟩) 0 0) 0 (ints [])) := Lib.hid (by
    have h := World.ownsRow_lit (e := 2) (size := 1) (base := W2.heap.size) W2 #[] 0 (Nat.le_refl _) (by decide) (by simp)
    simpa [ints] using h)
  have BE := Lib.hid (below_alloc (Below.refl W2.heap.size W2) (.cells #[] 2))
  go_wp2_with (fail)
  go_loopw [5, 6, 7] (fun u t i wr => ∃ (k m : Nat) (A3 : Option Addr) (c3 : Nat) (out : List Int) (n : Int), k ≤ c.ss.length ∧ m ≤ k ∧ i = .int .i64 k ∧ t = .int .i64 n ∧ 0 ≤ n ∧ n ≤ 22 * k ∧ u = .slice A3 m c3 ∧ Hid (out.length = m) ∧ Hid (wr.ownsRow W2.heap.size 2 1 (.slice A3 m c3) m (ints out)) ∧ Hid (RV = out ++ ltS c (c.ss.drop k) n) ∧ Hid (Below W2.heap.size W2 wr)) (fun _ _ i _ => c.ss.length - (intOf i).toNat)
  case atStart => exact ⟨0, 0, _, _, [], 0, Nat.zero_le _, by omega, rfl, rfl, by omega, by omega, rfl, Lib.hid rfl, HO0, Lib.hid HLT.out, BE⟩
  case round =>
    obtain ⟨k, m, A3, C3, out, n, hk, hm, rfl, rfl, hn0, hn1, rfl, hl, ho, hv, hb⟩ := hrel
    clear HO0 BE
    obtain ⟨q0, q1, q2, q3, q4⟩ := HA.out.below hb.out
    by_cases hlt : k < c.ss.length
    · obtain ⟨x, hx⟩ : ∃ x, c.ss[k]? = some x := ⟨_, List.getElem?_eq_getElem hlt⟩
      have htb := tim_bd HH.out x
      have HDR := Lib.hid (ltS_drop hx n)
      have HF1 := Lib.hid (HFT.out x (List.mem_of_getElem? hx))
      obtain ⟨b1, o1, rfl, _, g0, g1⟩ := (HR2.out.below hb.out).s.ins hx
      have hk0 : (0 : Int) ≤ (k : Int) := by omega
      have hk1 : (k : Int) < c.ss.length := by omega
      clear hx
      go_wp2_with (fail)
      refine wp_region_held_drew (S := (fun w' => (w'.cell? ⟨bc, 0, none⟩ = some (.int .i64 c.i) ∧ w'.cell? ⟨bc, 1, none⟩ = some (.int .i64 c.v) ∧ w'.cell? ⟨bc, 2, none⟩ = some (.int .i64 c.o) ∧ w'.cell? ⟨bc, 3, none⟩ = some (.slice ab c.bs.length cb) ∧ w'.cell? ⟨bc, 4, none⟩ = some (.slice (some ⟨b1, o1, none⟩) c.ss.length cs)) ∧ w'.cell? ⟨b1, o1 + k * 2, none⟩ = some (.int .i64 x.o) ∧ w'.cell? ⟨b1, o1 + k * 2 + 1, none⟩ = some (.int .i64 x.a))) (by kernel_rfl) ?_ (fun hHeld => ?_)
      · exact ⟨⟨q0, q1, q2, q3, q4⟩, g0, g1⟩
      refine rg_take (v := ?_) 0 rfl (by kernel_rfl) (by kernel_rfl) (by kernel_rfl) (fun _ _ _ h => h) (by kernel_rfl) ?_ (by assumption) ?_
      rotate_left
      · (intro w' hSw; (try dsimp only at hSw); go_simp; first | done | with_reducible rfl)
      simp only [Act.put, List.setIfInBounds_toArray, List.set_cons_zero, List.set_cons_succ]
      refine rg_take (v := ?_) 1 rfl (by kernel_rfl) (by kernel_rfl) (by kernel_rfl) (fun _ _ _ h => h) (by kernel_rfl) ?_ (by assumption) ?_
      rotate_left
      · (intro w' hSw; (try dsimp only at hSw); go_simp; first | done | with_reducible rfl)
      simp only [Act.put, List.setIfInBounds_toArray, List.set_cons_zero, List.set_cons_succ]
      refine rg_take (v := ?_) 2 rfl (by kernel_rfl) (by kernel_rfl) (by kernel_rfl) (fun _ _ _ h => h) (by kernel_rfl) ?_ (by assumption) ?_
      rotate_left
      · (intro w' hSw; (try dsimp only at hSw); go_simp; first | done | with_reducible rfl)
      simp only [Act.put, List.setIfInBounds_toArray, List.set_cons_zero, List.set_cons_succ]
      refine rg_take (v := ?_) 3 rfl (by kernel_rfl) (by kernel_rfl) (by kernel_rfl) (fun _ _ _ h => h) (by kernel_rfl) ?_ (by assumption) ?_
      rotate_left
      · (intro w' hSw; (try dsimp only at hSw); go_simp; first | done | with_reducible rfl)
      simp only [Act.put, List.setIfInBounds_toArray, List.set_cons_zero, List.set_cons_succ]
      refine rg_take (v := ?_) 4 rfl (by kernel_rfl) (by kernel_rfl) (by kernel_rfl) (fun _ _ _ h => h) (by kernel_rfl) ?_ (by assumption) ?_
      rotate_left
      · (intro w' hSw; (try dsimp only at hSw); go_simp; first | done | with_reducible rfl)
      simp only [Act.put, List.setIfInBounds_toArray, List.set_cons_zero, List.set_cons_succ]
      refine rg_take (v := ?_) 5 rfl (by kernel_rfl) (by kernel_rfl) (by kernel_rfl) (fun _ _ _ h => h) (by kernel_rfl) ?_ (by assumption) ?_
      rotate_left
      · (intro w' hSw; (try dsimp only at hSw); go_simp; first | done | with_reducible rfl)
      simp only [Act.put, List.setIfInBounds_toArray, List.set_cons_zero, List.set_cons_succ]
      refine rg_take (v := ?_) 6 rfl (by kernel_rfl) (by kernel_rfl) (by kernel_rfl) (fun _ _ _ h => h) (by kernel_rfl) ?_ (by assumption) ?_
      rotate_left
      · (intro w' hSw; (try dsimp only at hSw); go_simp; first | done | with_reducible rfl)
      simp only [Act.put, List.setIfInBounds_toArray, List.set_cons_zero, List.set_cons_succ]
      refine rg_run 7 rfl (by kernel_rfl) (by kernel_rfl) (fun K hK => ?_)
      go_simp
      refine (c_l19Time c ab (some ⟨b1, o1, none⟩) cb cs x _ HH.out HBL.out HF1.out ((HR2.out.below hb.out).below (Below.refl _ _).drew)).mono ?_
      rintro e w5 ⟨rfl, hb2⟩
      have hbs : Below wr.heap.size wr w5 := below_chain (Below.refl _ _).drew hb2
      have HB5 := Lib.hid (below_chain hb.out hbs)
      have HO5 := Lib.hid (own_below ho.out hbs)
      replace q0 := cell_later hbs (by exact q0)
      replace q1 := cell_later hbs (by exact q1)
      replace q2 := cell_later hbs (by exact q2)
      replace q3 := cell_later hbs (by exact q3)
      replace q4 := cell_later hbs (by exact q4)
      replace g0 := cell_later hbs (by exact g0)
      replace g1 := cell_later hbs (by exact g1)
      clear hbs hb2 hb ho
      have hw : IntKind.i64.wrap (n + timI c x) = n + timI c x := IntWalk.i64_in _ (by omega)
      go_wp2
      clear hHeld
      refine hK.out _ _ (by exact ⟨⟨q0, q1, q2, q3, q4⟩, g0, g1⟩) (fun hHeld => ?_)
      clear hK K
      try simp only [Act.put, List.setIfInBounds_toArray, List.set_cons_zero, List.set_cons_succ]
      refine rg_take (v := ?_) 8 rfl (by kernel_rfl) (by kernel_rfl) (by kernel_rfl) (fun _ _ _ h => h) (by kernel_rfl) ?_ (by assumption) ?_
      rotate_left
      · (intro w' hSw; (try dsimp only at hSw); go_simp; first | done | with_reducible rfl)
      simp only [Act.put, List.setIfInBounds_toArray, List.set_cons_zero, List.set_cons_succ]
      refine rg_take (v := ?_) 9 rfl (by kernel_rfl) (by kernel_rfl) (by kernel_rfl) (fun _ _ _ h => h) (by kernel_rfl) ?_ (by assumption) ?_
      rotate_left
      · (intro w' hSw; (try dsimp only at hSw); go_simp; first | done | with_reducible rfl)
      simp only [Act.put, List.setIfInBounds_toArray, List.set_cons_zero, List.set_cons_succ]
      refine wpAnyH_done (by kernel_rfl) ?_ _
      clear hHeld
      clear hw
      generalize timI c x = T at *
      obtain ⟨xo, xa⟩ := x
      dsimp only at g0 g1 HDR
      by_cases h8 : xo = 8 ∨ xo = 9
      · rw [if_pos h8] at HDR
        have HNE : Hid (RV = (out ++ [n + T]) ++ ltS c (c.ss.drop (k + 1)) 0) := Lib.hid (by rw [hv.out, HDR.out, List.append_assoc]; rfl)
        clear HDR hv
        have HAL := Lib.hid (below_alloc HB5.out (.cells #[.int .i64 (n + T)] 2))
        have HOA := Lib.hid (own_below HO5.out (below_alloc (Below.refl _ _) (.cells #[.int .i64 (n + T)] 2)))
        rcases h8 with rfl | rfl
        · go_wp2_with (first
            | (at_builtin
               refine wpList_push_int _ rfl (.tmp 46) (.tmp 48) rfl W2.heap.size _ m out (n + T) w5.heap.size 1 rfl HOA.out rfl (by go_simp) (by omega) HAL.out.size ?_
               intro v7 w7 hown hgrow _ _
               obtain ⟨A9, c9, rfl⟩ := own_shape hown
               have HB7 := Lib.hid (below_of_grown HAL.out hgrow (fun q hq => (HOA.out.lt q hq).1))
               have HO7 := Lib.hid hown
               clear hown hgrow)
            )
          go_roundw
          case rel => exact ⟨k + 1, m + 1, A9, c9, out ++ [n + T], 0, by omega, by omega, by go_num, rfl, by omega, by omega, rfl, Lib.hid (by rw [List.length_append, hl.out]; rfl), HO7, HNE, HB7⟩
          case measure => simp [intOf]; omega
        · go_wp2_with (first
            | (at_builtin
               refine wpList_push_int _ rfl (.tmp 46) (.tmp 48) rfl W2.heap.size _ m out (n + T) w5.heap.size 1 rfl HOA.out rfl (by go_simp) (by omega) HAL.out.size ?_
               intro v7 w7 hown hgrow _ _
               obtain ⟨A9, c9, rfl⟩ := own_shape hown
               have HB7 := Lib.hid (below_of_grown HAL.out hgrow (fun q hq => (HOA.out.lt q hq).1))
               have HO7 := Lib.hid hown
               clear hown hgrow)
            )
          go_roundw
          case rel => exact ⟨k + 1, m + 1, A9, c9, out ++ [n + T], 0, by omega, by omega, by go_num, rfl, by omega, by omega, rfl, Lib.hid (by rw [List.length_append, hl.out]; rfl), HO7, HNE, HB7⟩
          case measure => simp [intOf]; omega
      · rw [if_neg h8] at HDR
        have HNE : Hid (RV = out ++ ltS c (c.ss.drop (k + 1)) (n + T)) := Lib.hid (by rw [hv.out, HDR.out])
        have e8 : (xo == 8) = false := by simp; omega
        have e9 : (xo == 9) = false := by simp; omega
        clear HDR hv h8
        go_wp2_with (fail)
        go_roundw
        case rel => exact ⟨k + 1, m, A3, C3, out, n + T, by omega, by omega, by go_num, rfl, by omega, by omega, rfl, hl, HO5, HNE, HB5⟩
        case measure => simp [intOf]; omega
    · obtain rfl : k = c.ss.length := by omega
      have HNE : Hid (RV = out) := Lib.hid (by
        have := hv.out
        rwa [List.drop_length, show ltS c [] n = [] from rfl, List.append_nil] at this)
      clear hv
      go_wp2_with (fail)
      go_ret2
      exact retZC_own HNE.out hl.out (own_mono ho.out B3.out.size) (below_chain B3.out hb.out)
end Go.Proofs.YteengjcplmjakaaGreatDoor

/- likeInts and sum; the times of a program's steps, plainly. Condition: the lengths; the numbers' bounds. -/
namespace Go.Proofs.YteengjcplmjakaaGreatDoor
open Go.RowKit

set_option maxRecDepth 100000 in
theorem c_likeInts (A A' : Option Addr) (c c' n n' : Nat) (zs : List Int) (w : World) (hn : n = zs.length) (hn' : n' = zs.length) (hs : zs.length ≤ 1048576) (hr : Rd w A (ints zs)) (hr' : Rd w A' (ints zs)) :
    Calls Tryz.prog 16 #[.slice A n c, .slice A' n' c'] w fun e w' => e = .returned (.bool true) ∧ Below w.heap.size w w' := by
  obtain rfl : n = n' := by omega
  have HN := Lib.hid hn
  have hs2 : n ≤ 1048576 := by omega
  clear hn hn' hs
  go_enter Tryz.func16, Tryz.ntmps16
  go_wp2
  go_loopw [5] (fun v wr => ∃ k : Nat, k ≤ n ∧ v = .int .i64 k ∧ Below w.heap.size w wr) (fun v _ => n - (intOf v).toNat)
  case atStart => exact ⟨0, Nat.zero_le _, rfl, by (repeat (first | exact Below.refl _ _ | assumption | refine below_alloc ?_ _ | refine below_drewN ?_ _ | refine below_set ?_ _ (by simp; try omega) | refine Below.drew ?_))⟩
  case round =>
    obtain ⟨k, hk, rfl, hb⟩ := hrel
    by_cases hlt : k < n
    · obtain ⟨z, hz⟩ : ∃ z, zs[k]? = some z := ⟨_, List.getElem?_eq_getElem (by have := HN.out; omega)⟩
      obtain ⟨b1, o1, rfl, _, g1⟩ := (hr.below hb).int hz
      obtain ⟨b2, o2, rfl, _, g2⟩ := (hr'.below hb).int hz
      have hk0 : (0 : Int) ≤ (k : Int) := by omega
      have hk1 : (k : Int) < n := by omega
      have HB := Lib.hid hb
      clear hz hr hr' hb
      go_wp2_with (fail)
      go_region_held3 (fun w' => w'.cell? ⟨b1, o1 + k, none⟩ = some (.int .i64 z) ∧ w'.cell? ⟨b2, o2 + k, none⟩ = some (.int .i64 z)) (exact ⟨g1, g2⟩) (fail)
      go_wp2_with (fail)
      go_roundw
      case rel => exact ⟨k + 1, by omega, by go_num, HB.out.drew⟩
      case measure => simp [intOf]; omega
    · obtain rfl : k = n := by omega
      go_wp2
      go_ret
      exact ⟨rfl, hb⟩
def sumZ : List Int → Int
  | [] => 0
  | z :: l => z + sumZ l
theorem sumZ_snoc : ∀ (l : List Int) (z : Int), sumZ (l ++ [z]) = sumZ l + z
  | [], z => by simp [sumZ]
  | y :: l, z => by
    show y + sumZ (l ++ [z]) = y + sumZ l + z
    rw [sumZ_snoc l z]
    omega
theorem sumZ_bd : ∀ (l : List Int), (∀ z ∈ l, 0 ≤ z ∧ z ≤ 1000) → 0 ≤ sumZ l ∧ sumZ l ≤ 1000 * l.length
  | [], _ => ⟨Int.le_refl _, Int.le_refl _⟩
  | z :: l, h => by
    have h1 := h z List.mem_cons_self
    have h2 := sumZ_bd l (fun y hy => h y (List.mem_cons_of_mem _ hy))
    have hl : ((z :: l).length : Int) = l.length + 1 := by simp
    show 0 ≤ z + sumZ l ∧ z + sumZ l ≤ _
    omega
set_option maxRecDepth 100000 in
theorem c_sum (A : Option Addr) (c n : Nat) (zs : List Int) (w : World) (hn : n = zs.length) (hs : n ≤ 1048576) (hb : ∀ z ∈ zs, 0 ≤ z ∧ z ≤ 1000) (hr : Rd w A (ints zs)) :
    Calls Tryz.prog 19 #[.slice A n c] w fun e w' => e = .returned (.int .i64 (sumZ zs)) ∧ Below w.heap.size w w' := by
  have HN := Lib.hid hn
  have HB := Lib.hid hb
  have HR := Lib.hid hr
  clear hn hb hr
  go_enter Tryz.func19, Tryz.ntmps19
  go_wp2
  go_loopw [3, 4] (fun s i wr => ∃ k : Nat, k ≤ n ∧ i = .int .i64 k ∧ s = .int .i64 (sumZ (zs.take k)) ∧ Hid (Below w.heap.size w wr)) (fun _ i _ => n - (intOf i).toNat)
  case atStart => exact ⟨0, Nat.zero_le _, rfl, rfl, Lib.hid (Below.refl _ _)⟩
  case round =>
    obtain ⟨k, hk, rfl, rfl, hb⟩ := hrel
    by_cases hlt : k < n
    · obtain ⟨z, hz⟩ : ∃ z, zs[k]? = some z := ⟨_, List.getElem?_eq_getElem (by have := HN.out; omega)⟩
      have HS : Hid (sumZ (zs.take (k + 1)) = sumZ (zs.take k) + z) := Lib.hid (by rw [List.take_add_one, hz]; exact sumZ_snoc _ _)
      have h1 := sumZ_bd (zs.take k) (fun y hy => HB.out y (List.mem_of_mem_take hy))
      have h2 := HB.out z (List.mem_of_getElem? hz)
      have h3 : (zs.take k).length ≤ n := by rw [List.length_take]; omega
      obtain ⟨b, off, rfl, _, g0⟩ := (HR.out.below hb.out).int hz
      have hk0 : (0 : Int) ≤ (k : Int) := by omega
      have hk1 : (k : Int) < n := by omega
      clear hz
      generalize sumZ (zs.take k) = S at *
      have hw : IntKind.i64.wrap (S + z) = S + z := IntWalk.i64_in _ (by omega)
      go_wp2_with (fail)
      go_roundw
      case rel => exact ⟨k + 1, by omega, by go_num, by rw [HS.out], hb⟩
      case measure => simp [intOf]; omega
    · obtain rfl : k = n := by omega
      have HE : Hid (zs.take k = zs) := Lib.hid (List.take_of_length_le (by have := HN.out; omega))
      rw [HE.out]
      go_wp2_with (fail)
      go_ret
      exact ⟨rfl, hb.out⟩
theorem sumT_P {p : Prg} {c : Cd} : ∀ {ls : List Lin} {b : Nat} {pre post : List Tm}, (∀ l ∈ ls, ∀ t ∈ l.ts, trmT t.k t.nm t.n = true) → c.bs = pre ++ (ls.flatMap blkL ++ post) → pre.length = b → sumT c (csP p b ls) = sumZ (ls.map tL)
  | [], _, _, _, _, _, _ => rfl
  | l :: ls, b, pre, post, hk, hc, hp => by
    show sumT c (csL p b l ++ csP p (b + nbT l.ts) ls) = tL l + sumZ (ls.map tL)
    rw [sumT_app2, sum_L (pre := pre) (post := ls.flatMap blkL ++ post) (hk l List.mem_cons_self) (by rw [hc, List.flatMap_cons, List.append_assoc]) hp]
    congr 1
    refine sumT_P (pre := pre ++ blkL l) (post := post) (fun x hx => hk x (List.mem_cons_of_mem _ hx)) ?_ ?_
    · rw [hc, List.flatMap_cons, List.append_assoc, List.append_assoc]
    · rw [List.length_append, hp]
      rfl
/-- The time of a sound program's code: the lines' times, and the mask. -/
theorem sum_cmp {p : Prg} (h : Snd p) : sumT (cmp p) (cmp p).ss = sumZ (p.ls.map tL) + (if p.gd.toList.isEmpty then 0 else 2 + (p.os.length : Int)) := by
  show sumT (cmp p) (csP p 0 p.ls ++ gdI p) = _
  rw [sumT_app2, sumT_P (c := cmp p) (b := 0) (pre := []) (post := []) h.k (by show blk p = [] ++ (p.ls.flatMap blkL ++ []); rw [List.nil_append, List.append_nil]; rfl) rfl]
  congr 1
  unfold gdI
  split
  · rfl
  · show timI (cmp p) (nmI p p.gd 10 11) + 0 = _
    have : timI (cmp p) (nmI p p.gd 10 11) = 2 + (p.os.length : Int) := by
      unfold nmI
      split <;> rfl
    rw [this]
    omega
theorem tL_bd {p : Prg} (h : PgB p) : ∀ z ∈ p.ls.map tL, 0 ≤ z ∧ z ≤ 1000 := by
  intro z hz
  obtain ⟨l, hl, rfl⟩ := List.mem_map.1 hz
  have h1 := tTs_bd l.ts
  have h2 := h.t l hl
  unfold tL
  omega
end Go.Proofs.YteengjcplmjakaaGreatDoor

/- LineTimes on the program's side. Condition: the lengths; the keywords. -/
namespace Go.Proofs.YteengjcplmjakaaGreatDoor
open Go.RowKit

theorem insCells_drop : ∀ (l : List Ins) (m : Nat), insCells (l.drop m) = (insCells l).drop (m * 2)
  | [], m => by simp [insCells]
  | x :: t, 0 => rfl
  | x :: t, m + 1 => by
    rw [show (m + 1) * 2 = m * 2 + 2 from by omega]
    show insCells (t.drop m) = List.drop (m * 2 + 2) (.int .i64 x.o :: .int .i64 x.a :: insCells t)
    rw [insCells_drop t m, List.drop_succ_cons, List.drop_succ_cons]
theorem Rd.insDrop {w : World} {g : Nat} {l : List Ins} {m : Nat} (h : Rd w (some ⟨g, 0, none⟩) (insCells l)) : Rd w (some ⟨g, m * 2, none⟩) (insCells (l.drop m)) := by
  rcases h with h | ⟨b, off, e, hlt, hc⟩
  · left
    rw [insCells_drop, h]
    simp
  · simp only [Option.some.injEq, Addr.mk.injEq, and_true] at e
    obtain ⟨rfl, rfl⟩ := e
    right
    refine ⟨g, m * 2, rfl, hlt, fun j u hu => ?_⟩
    rw [insCells_drop, List.getElem?_drop] at hu
    have := hc (m * 2 + j) u hu
    rwa [Nat.zero_add] at this
theorem sumT_ss (i v o : Int) (bs : List Tm) (s1 s2 : List Ins) : ∀ l : List Ins, sumT ⟨i, v, o, bs, s1⟩ l = sumT ⟨i, v, o, bs, s2⟩ l
  | [] => rfl
  | x :: t => by
    show timI ⟨i, v, o, bs, s1⟩ x + sumT _ t = timI ⟨i, v, o, bs, s2⟩ x + sumT _ t
    rw [sumT_ss i v o bs s1 s2 t]
    rfl
theorem fitB_ss {i v o : Int} {bs : List Tm} {s1 : List Ins} (s2 : List Ins) {x : Ins} (h : fitB ⟨i, v, o, bs, s1⟩ x = true) : fitB ⟨i, v, o, bs, s2⟩ x = true := h
theorem csP_fit {p : Prg} (h : Snd p) {k : Nat} {l : Lin} (hl : p.ls[k]? = some l) (s2 : List Ins) : ∀ x ∈ csL p (nbL (p.ls.take k)) l, fitB ⟨p.ins.length, p.vs.length, p.os.length, blk p, s2⟩ x = true := by
  intro x hx
  refine fitB_ss s2 (fit_cmp h x ?_)
  show x ∈ csP p 0 p.ls ++ gdI p
  refine List.mem_append_left _ ?_
  have : p.ls = p.ls.take (k + 1) ++ p.ls.drop (k + 1) := (List.take_append_drop _ _).symm
  have h2 : ∀ (a b : List Lin) (n : Nat), csP p n (a ++ b) = csP p n a ++ csP p (n + nbL a) b := by
    intro a
    induction a with
    | nil => intro b n; simp [csP, nbL]
    | cons y a ih =>
      intro b n
      show csL p n y ++ csP p (n + nbT y.ts) (a ++ b) = csL p n y ++ csP p (n + nbT y.ts) a ++ _
      rw [ih, nbL_cons, ← Nat.add_assoc, List.append_assoc]
  rw [this, h2, csP_step hl]
  exact List.mem_append_left _ (List.mem_append_right _ hx)
theorem hd_ss {p : Prg} (h : Snd p) {s2 : List Ins} (hl : s2.length ≤ 2000) : Hd ⟨p.ins.length, p.vs.length, p.os.length, blk p, s2⟩ := by
  have := hd_cmp h
  exact ⟨this.i0, this.i1, this.v0, this.v1, this.o0, this.o1, this.b, hl⟩
theorem map_step {p : Prg} {k : Nat} {l : Lin} (h : p.ls[k]? = some l) : (p.ls.take (k + 1)).map tL = (p.ls.take k).map tL ++ [tL l] := by
  rw [List.take_add_one, h]
  simp
theorem own_some {w : World} {base : Nat} {e : TypeId} {size n c : Nat} {A : Option Addr} {xs : List Value} (h : w.ownsRow base e size (.slice A n c) n xs) (hn : 0 < n) : ∃ g, A = some ⟨g, 0, none⟩ := by
  obtain ⟨m, rfl⟩ : ∃ m, n = m + 1 := ⟨n - 1, by omega⟩
  obtain ⟨g, cap, e⟩ := own_form h
  simp only [Value.slice.injEq] at e
  exact ⟨g, e.1⟩
theorem wp_push_intQ (w : World) {o : Oper} {a : Act} {K : Act → World → Prop} {Q : Exit → Act → World → Prop} (s x : Operand)
    (ho : o.op = .call { callee := .builtin .append, args := #[s, x], argTypes := #[29, 29] })
    (base : Nat) (v : Value) (n : Nat) (l : List Int) (z : Int) (g c : Nat) (hs : a.eval s = v) (hown : w.ownsRow base 2 1 v n (ints l))
    (hx : a.eval x = .slice (some ⟨g, 0, none⟩) 1 c) (h0 : w.cell? ⟨g, 0, none⟩ = some (.int .i64 z)) (hn : n ≤ 1099511627776) (hbase : base ≤ w.heap.size)
    (h : ∀ v' w', w'.ownsRow base 2 1 v' (n + 1) (ints (l ++ [z])) → w.grownBy w' v.ownBlock → K (a.put o.dst v') w') : o.wp Tryz.prog a w K Q := by
  obtain ⟨i0, hi, hz0, hz1, hz2⟩ := info_parts info_int64
  refine wp_push w s x 29 ho base 2 i0 (.int .i64 0) 1 8 Tryz.underlying29 hi hz0 hz1 hz2 rfl (by decide) v n (ints l) hs hown ⟨g, 0, none⟩ c [.int .i64 z] hx rfl ?_ ?_ (by unfold maxLen; omega) (by omega) hbase ?_
  · intro j u hu
    match j, hu with
    | 0, hu =>
      simp only [List.getElem?_cons_zero, Option.some.injEq] at hu
      rw [← hu]
      simpa [Addr.add] using h0
  · intro u hu
    simp only [List.mem_singleton] at hu
    subst hu; rfl
  · intro v' w' h1 h2 h3 _
    exact h v' w' (by simpa [ints] using h1) h2
theorem kept_ne {w w' : World} {b1 b2 : Nat} {e1 e2 : TypeId} {s1 s2 n1 n2 : Nat} {v1 v2 : Value} {x1 x2 : List Value} (h1 : w.ownsRow b1 e1 s1 v1 n1 x1) (h2 : w.ownsRow b2 e2 s2 v2 n2 x2) (he : e1 ≠ e2) (hg : w.grownBy w' v2.ownBlock) : w'.ownsRow b1 e1 s1 v1 n1 x1 :=
  h1.kept hg (by
    rcases hv : v1.ownBlock with _ | q
    · exact .inl rfl
    · exact .inr (fun e => own_ne h1 h2 he q hv e.symm))
theorem XS.kept {w0 w w' : World} {b : Nat} {p : Prg} {a1 a2 a3 a4 ab : Option Addr} {c1 c2 c3 c4 cb : Nat} {A : Option Addr} {c : Nat} {S : List Ins} {nb : Nat} (h : XS w0 w b p a1 a2 a3 a4 ab c1 c2 c3 c4 cb A c S nb)
    {v : Value} {n : Nat} {xs : List Value} (ho : w.ownsRow w0.heap.size 2 1 v n xs) (hg : w.grownBy w' v.ownBlock) : XS w0 w' b p a1 a2 a3 a4 ab c1 c2 c3 c4 cb A c S nb :=
  ⟨kept_ne h.box ho (by decide) hg, kept_ne h.row ho (by decide) hg, kept_ne h.blk ho (by decide) hg, below_of_grown h.bel hg (fun q hq => (ho.lt q hq).1)⟩
set_option maxHeartbeats 2000000 in
set_option maxRecDepth 100000 in
theorem c_LineTimes (p : Prg) (a1 a2 a3 a4 : Option Addr) (c1 c2 c3 c4 : Nat) (w : World) (hs : PgOk p) (hz : PgZ a1 a2 a3 c1 c2 c3) (h : PgR w a1 a2 a3 a4 p) (hk : KwR w) :
    Calls Tryz.prog 8 #[pv p a1 a2 a3 a4 c1 c2 c3 c4] w (RetZC (ltV p) (ltC p) w) := by
  have H := Lib.hid h
  have HKW := Lib.hid hk
  have HS := Lib.hid hs
  have HI := Lib.hid (fun w h hk => c_IsSound p a1 a2 a3 a4 c1 c2 c3 c4 w hs hz h hk)
  have HNC := Lib.hid (fun w hb h => c_newCompiler p a1 a2 a3 a4 c1 c2 c3 c4 w hs hb h)
  have HSN := Lib.hid (fun h => snd_of (p := p) h)
  have HV : Hid (soB p = (wrB p && fltB p)) := Lib.hid rfl
  have HV1 : Hid (soB p = false → ltC p = 1 ∧ ltV p = []) := Lib.hid (fun e => by unfold ltC ltV; rw [e]; exact ⟨rfl, rfl⟩)
  have HV0 : Hid (soB p = true → ltC p = 0 ∧ ltV p = p.ls.map tL) := Lib.hid (fun e => by unfold ltC ltV; rw [e]; exact ⟨rfl, rfl⟩)
  rw [← HV.out] at HI HSN
  clear HV
  generalize ltC p = RC at *
  generalize ltV p = RV at *
  generalize soB p = s at *
  have B0 := Lib.hid (below_alloc (Below.refl w.heap.size w) (.cells #[.string p.nm, .slice a1 p.ins.length c1, .slice a2 p.vs.length c2, .slice a3 p.os.length c3, .string p.gd, .slice a4 p.ls.length c4] 27))
  have HP : Hid (PB (w.alloc (.cells #[.string p.nm, .slice a1 p.ins.length c1, .slice a2 p.vs.length c2, .slice a3 p.os.length c3, .string p.gd, .slice a4 p.ls.length c4] 27)) w.heap.size p a1 a2 a3 a4 c1 c2 c3 c4) := Lib.hid ⟨by go_simp, by go_simp, by go_simp, by go_simp, by go_simp, by go_simp⟩
  clear hs hz h hk
  go_enter Tryz.func8, Tryz.ntmps8
  dsimp only [pv]
  go_upto_region 1 with (fail)
  generalize w.alloc (.cells #[.string p.nm, .slice a1 p.ins.length c1, .slice a2 p.vs.length c2, .slice a3 p.os.length c3, .string p.gd, .slice a4 p.ls.length c4] 27) = W at *
  obtain ⟨k0, k1, k2, k3, k4, k5⟩ := HP.out
  go_wp2_with (fail)
  refine (HI.out _ (H.out.below B0.out) (HKW.out.below B0.out)).mono ?_
  rintro e w1 ⟨rfl, hb⟩
  have B1 := Lib.hid (below_chain B0.out hb)
  replace k0 := cell_later hb (by exact k0)
  replace k1 := cell_later hb (by exact k1)
  replace k2 := cell_later hb (by exact k2)
  replace k3 := cell_later hb (by exact k3)
  replace k4 := cell_later hb (by exact k4)
  replace k5 := cell_later hb (by exact k5)
  clear hb
  cases s
  · obtain ⟨rfl, e2⟩ := HV1.out rfl
    have HE2 := Lib.hid e2
    clear e2
    go_wp2_with (fail)
    go_ret2
    exact retZC_nil HE2.out B1.out
  obtain ⟨rfl, e2⟩ := HV0.out rfl
  have HE2 := Lib.hid e2
  have HD := Lib.hid (HSN.out rfl)
  have bl := HD.out.b.l
  clear e2 HV1 HV0 HSN HI
  have HPW := Lib.hid (H.out.below B1.out)
  go_wp2_with (fail)
  refine (HNC.out _ HD.out.b HPW.out).mono ?_
  rintro e w2 ⟨b, ab, cb, rfl, hx⟩
  have HX1 := Lib.hid hx
  clear hx
  replace k0 := cell_later HX1.out.bel (by exact k0)
  replace k1 := cell_later HX1.out.bel (by exact k1)
  replace k2 := cell_later HX1.out.bel (by exact k2)
  replace k3 := cell_later HX1.out.bel (by exact k3)
  replace k4 := cell_later HX1.out.bel (by exact k4)
  replace k5 := cell_later HX1.out.bel (by exact k5)
  go_wp2_with (fail)
  clear k0 k1 k2 k3 k4 k5
  go_loopw [5, 7, 8, 17] (fun u _ _ i wr => ∃ (k : Nat) (A3 : Option Addr) (q3 : Nat), k ≤ p.ls.length ∧ i = .int .i64 k ∧ u = .slice A3 k q3 ∧ Hid (wr.ownsRow w1.heap.size 2 1 (.slice A3 k q3) k (ints ((p.ls.take k).map tL))) ∧ Hid (∃ A c, XS w1 wr b p a1 a2 a3 a4 ab c1 c2 c3 c4 cb A c (csP p 0 (p.ls.take k)) (nbL (p.ls.take k)))) (fun _ _ _ i _ => p.ls.length - (intOf i).toNat)
  case atStart => exact ⟨0, none, 0, Nat.zero_le _, rfl, rfl, Lib.hid (World.ownsRow_nil _ _ _ _), Lib.hid ⟨none, 0, HX1.out⟩⟩
  case round =>
    obtain ⟨k, A3, C3, hk, rfl, rfl, ho, hx⟩ := hrel
    clear HX1
    obtain ⟨A1, cc1, hx1⟩ := hx.out
    have HX1 := Lib.hid hx1
    clear hx hx1
    have hnb := nbL_le HD.out.b k
    have hlen := csP_len p (p.ls.take k) 0 (fun l hl => HD.out.b.t l (List.mem_of_mem_take hl))
    rw [List.length_take] at hlen
    by_cases hlt : k < p.ls.length
    · obtain ⟨⟨tg, ts⟩, hz⟩ : ∃ z, p.ls[k]? = some z := ⟨_, List.getElem?_eq_getElem hlt⟩
      obtain ⟨b2, o2, la, lc, rfl, hblt, g0w, g1w, hrow⟩ := HPW.out.l.at hz
      dsimp only at g0w g1w hrow
      have g0 := cell_later HX1.out.bel g0w
      have g1 := cell_later HX1.out.bel g1w
      have htl := HD.out.b.t _ (List.mem_of_getElem? hz)
      dsimp only at htl
      have hal := below_alloc (Below.refl wr.heap.size wr) (.cells #[.string tg, .slice la ts.length lc] 80)
      have HX2 := Lib.hid (HX1.out.below hal)
      have HO2 := Lib.hid (own_below ho.out hal)
      have hl2 : (csP p 0 (p.ls.take k)).length ≤ 2000 := by omega
      have HLC := Lib.hid (fun w' hx => c_line w1 b p a1 a2 a3 _ ab c1 c2 c3 c4 cb A1 cc1 (csP p 0 (p.ls.take k)) (nbL (p.ls.take k)) tg ts la lc w' HS.out (HD.out.k _ (List.mem_of_getElem? hz)) htl hl2 (by omega) HPW.out hrow hx)
      have HST := Lib.hid (csP_step hz)
      have HNS := Lib.hid (nbL_step hz)
      have HMS := Lib.hid (map_step hz)
      have HTL := Lib.hid (sum_line HD.out hz)
      have HFL := Lib.hid (csP_fit HD.out hz)
      have hcl : (csL p (nbL (p.ls.take k)) ⟨tg, ts⟩).length ≤ 41 ∧ 0 < (csL p (nbL (p.ls.take k)) ⟨tg, ts⟩).length := by unfold csL; rw [List.length_append, csT_len, List.length_singleton]; dsimp only; omega
      have htb := tTs_bd ts
      have HTT : Hid (tL ⟨tg, ts⟩ = tTs ts + 3) := Lib.hid rfl
      have hk0 : (0 : Int) ≤ (k : Int) := by omega
      have hk1 : (k : Int) < p.ls.length := by omega
      have hlk : (csP p 0 (p.ls.take k)).length ≤ 41 * 40 := by omega
      obtain ⟨x0, x1⟩ : (wr.alloc (.cells #[.string tg, .slice la ts.length lc] 80)).cell? ⟨wr.heap.size, 0, none⟩ = some (.string tg) ∧ (wr.alloc (.cells #[.string tg, .slice la ts.length lc] 80)).cell? ⟨wr.heap.size, 1, none⟩ = some (.slice la ts.length lc) := ⟨by go_simp, by go_simp⟩
      obtain ⟨_, ⟨_, _, _, _, k10⟩, _, _, hb1, hb2⟩ := HX2.out.cells
      clear hz hal g0w g1w hrow hblt hl2 hlen hnb ho
      go_upto_region 8 with (fail)
      generalize wr.alloc (.cells #[.string tg, .slice la ts.length lc] 80) = W3 at *
      clear g0 g1
      have hw9 : IntKind.i64.wrap ((csP p 0 (p.ls.take k)).length : Int) = (csP p 0 (p.ls.take k)).length := IntWalk.i64_in _ (by omega)
      generalize csP p 0 (p.ls.take k) = S0 at *
      generalize csL p (nbL (p.ls.take k)) ⟨tg, ts⟩ = L9 at *
      go_wp2_with (fail)
      refine (HLC.out _ HX2.out).mono ?_
      rintro e w4 ⟨rfl, ⟨A4, cc4, hx⟩, hf⟩
      have HX4 := Lib.hid hx
      have HO4 := Lib.hid (hf.own HO2.out (fun g cur fz _ _ => pi_no (by decide) (by decide)))
      have hdl : (S0 ++ L9).drop S0.length = L9 := by simp
      have hsl : (S0 ++ L9).length = S0.length + L9.length := List.length_append
      obtain ⟨g, rfl⟩ := own_some hx.row (by omega)
      have hcap := own_cap hx.row
      unfold maxLen at hcap
      have HTG : Hid (∀ w', XS w1 w' b p a1 a2 a3 (some ⟨b2, o2, none⟩) ab c1 c2 c3 c4 cb (some ⟨g, 0, none⟩) cc4 (S0 ++ L9) (nbL (p.ls.take k) + nbT ts) → Calls Tryz.prog 43 #[.agg #[.int .i64 p.ins.length, .int .i64 p.vs.length, .int .i64 p.os.length, .slice ab (blk p).length cb, .slice (some ⟨g, 0, none⟩) (S0 ++ L9).length cc4], .slice (some ⟨g, S0.length * 2, none⟩) ((S0 ++ L9).length - S0.length) (cc4 - S0.length)] w' fun e w'' => e = .returned (.int .i64 (tL ⟨tg, ts⟩)) ∧ Below w'.heap.size w' w'') := Lib.hid (fun w' hx => by
        have h1 := c_timeG ⟨p.ins.length, p.vs.length, p.os.length, blk p, S0 ++ L9⟩ L9 ab (some ⟨g, 0, none⟩) (some ⟨g, S0.length * 2, none⟩) cb cc4 (cc4 - S0.length) ((S0 ++ L9).length - S0.length) w' (hd_ss HD.out (by omega)) (blk_cmp HD.out) (by omega) (by omega) (HFL.out _) ⟨Rd.own hx.blk, Rd.own hx.row⟩ (by have h := Rd.insDrop (m := S0.length) (Rd.own hx.row); rwa [hdl] at h)
        rw [sumT_ss _ _ _ _ (S0 ++ L9) (cmp p).ss L9, show sumT ⟨p.ins.length, p.vs.length, p.os.length, blk p, (cmp p).ss⟩ L9 = tL ⟨tg, ts⟩ from HTL.out] at h1
        exact h1)
      clear hx hf x0 x1 k10 hb1 hb2 hdl HX2 HLC HFL HTL
      obtain ⟨_, ⟨k6, k7, k8, k9, k10⟩, _, _, hb1, hb2⟩ := HX4.out.cells
      have hs0 : (0 : Int) ≤ (S0.length : Int) := by omega
      have hs1 : (S0.length : Int) ≤ (S0 ++ L9).length := by omega
      have hs2 : S0.length ≤ (S0 ++ L9).length := by omega
      have hs3 : (S0 ++ L9).length ≤ cc4 := hcap.1
      generalize tL ⟨tg, ts⟩ = T at *
      generalize hn9 : (S0 ++ L9).length = n9 at *
      have HN9 := Lib.hid hn9
      generalize hn0 : S0.length = n0 at *
      have hcne : ¬ cc4 = n0 := by omega
      clear hn9 hn0 hsl
      go_upto_region 10 with (fail)
      refine wp_region_held_drew (S := (fun w' => w'.cell? ⟨b, 6, none⟩ = some (.int .i64 p.ins.length) ∧ w'.cell? ⟨b, 7, none⟩ = some (.int .i64 p.vs.length) ∧ w'.cell? ⟨b, 8, none⟩ = some (.int .i64 p.os.length) ∧ w'.cell? ⟨b, 9, none⟩ = some (.slice ab (blk p).length cb) ∧ w'.cell? ⟨b, 10, none⟩ = some (.slice (some ⟨g, 0, none⟩) n9 cc4))) (by kernel_rfl) ?_ (fun hHeld => ?_)
      · exact ⟨k6, k7, k8, k9, k10⟩
      refine rg_take (v := ?_) 0 rfl (by kernel_rfl) (by kernel_rfl) (by kernel_rfl) (fun _ _ _ h => h) (by kernel_rfl) ?_ (by assumption) ?_
      rotate_left
      · (intro w' hSw; (try dsimp only at hSw); go_simp; first | done | with_reducible rfl)
      simp only [Act.put, List.setIfInBounds_toArray, List.set_cons_zero, List.set_cons_succ]
      refine rg_take (v := ?_) 1 rfl (by kernel_rfl) (by kernel_rfl) (by kernel_rfl) (fun _ _ _ h => h) (by kernel_rfl) ?_ (by assumption) ?_
      rotate_left
      · (intro w' hSw; (try dsimp only at hSw); go_simp; first | done | with_reducible rfl)
      simp only [Act.put, List.setIfInBounds_toArray, List.set_cons_zero, List.set_cons_succ]
      refine rg_take (v := ?_) 2 rfl (by kernel_rfl) (by kernel_rfl) (by kernel_rfl) (fun _ _ _ h => h) (by kernel_rfl) ?_ (by assumption) ?_
      rotate_left
      · (intro w' hSw; (try dsimp only at hSw); go_simp; first | done | with_reducible rfl)
      simp only [Act.put, List.setIfInBounds_toArray, List.set_cons_zero, List.set_cons_succ]
      refine rg_take (v := ?_) 3 rfl (by kernel_rfl) (by kernel_rfl) (by kernel_rfl) (fun _ _ _ h => h) (by kernel_rfl) ?_ (by assumption) ?_
      rotate_left
      · (intro w' hSw; (try dsimp only at hSw); go_simp; first | done | with_reducible rfl)
      simp only [Act.put, List.setIfInBounds_toArray, List.set_cons_zero, List.set_cons_succ]
      refine rg_take (v := ?_) 4 rfl (by kernel_rfl) (by kernel_rfl) (by kernel_rfl) (fun _ _ _ h => h) (by kernel_rfl) ?_ (by assumption) ?_
      rotate_left
      · (intro w' hSw; (try dsimp only at hSw); go_simp; first | done | with_reducible rfl)
      simp only [Act.put, List.setIfInBounds_toArray, List.set_cons_zero, List.set_cons_succ]
      refine rg_take (v := ?_) 5 rfl (by kernel_rfl) (by kernel_rfl) (by kernel_rfl) (fun _ _ _ h => h) (by kernel_rfl) ?_ (by assumption) ?_
      rotate_left
      · (intro w' hSw; (try dsimp only at hSw); go_simp; first | done | with_reducible rfl)
      simp only [Act.put, List.setIfInBounds_toArray, List.set_cons_zero, List.set_cons_succ]
      refine rg_take (v := ?_) 6 rfl (by kernel_rfl) (by kernel_rfl) (by kernel_rfl) (fun _ _ _ h => h) (by kernel_rfl) ?_ (by assumption) ?_
      rotate_left
      · (intro w' hSw; (try dsimp only at hSw); go_simp; first | done | with_reducible rfl)
      simp only [Act.put, List.setIfInBounds_toArray, List.set_cons_zero, List.set_cons_succ]
      refine rg_take (v := ?_) 7 rfl (by kernel_rfl) (by kernel_rfl) (by kernel_rfl) (fun _ _ _ h => h) (by kernel_rfl) ?_ (by assumption) ?_
      rotate_left
      · (intro w' hSw; (try dsimp only at hSw); go_simp; first | done | with_reducible rfl)
      simp only [Act.put, List.setIfInBounds_toArray, List.set_cons_zero, List.set_cons_succ]
      refine rg_take (v := ?_) 8 rfl (by kernel_rfl) (by kernel_rfl) (by kernel_rfl) (fun _ _ _ h => h) (by kernel_rfl) ?_ (by assumption) ?_
      rotate_left
      · (intro w' hSw; (try dsimp only at hSw); go_simp; first | done | with_reducible rfl)
      simp only [Act.put, List.setIfInBounds_toArray, List.set_cons_zero, List.set_cons_succ]
      refine rg_take (v := ?_) 9 rfl (by kernel_rfl) (by kernel_rfl) (by kernel_rfl) (fun _ _ _ h => h) (by kernel_rfl) ?_ (by assumption) ?_
      rotate_left
      · (intro w' hSw; (try dsimp only at hSw); go_simp; first | done | with_reducible rfl)
      simp only [Act.put, List.setIfInBounds_toArray, List.set_cons_zero, List.set_cons_succ]
      refine rg_take (v := ?_) 10 rfl (by kernel_rfl) (by kernel_rfl) (by kernel_rfl) (fun _ _ _ h => h) (by kernel_rfl) ?_ (by assumption) ?_
      rotate_left
      · (intro w' hSw; (try dsimp only at hSw); go_simp; first | done | with_reducible rfl)
      simp only [Act.put, List.setIfInBounds_toArray, List.set_cons_zero, List.set_cons_succ]
      refine rg_take (v := ?_) 11 rfl (by kernel_rfl) (by kernel_rfl) (by kernel_rfl) (fun _ _ _ h => h) (by kernel_rfl) ?_ (by assumption) ?_
      rotate_left
      · (intro w' hSw; (try dsimp only at hSw); go_simp; first | done | with_reducible rfl)
      simp only [Act.put, List.setIfInBounds_toArray, List.set_cons_zero, List.set_cons_succ]
      refine rg_run 12 rfl (by kernel_rfl) (by kernel_rfl) (fun K hK => ?_)
      go_simp
      refine (HTG.out _ (HX4.out.below (Below.refl _ _).drew)).mono ?_
      rintro e w5 ⟨rfl, hb5⟩
      have hbs : Below w4.heap.size w4 w5 := below_chain (Below.refl _ _).drew hb5
      have HX5 := Lib.hid (HX4.out.below hbs)
      have HO5 := Lib.hid (own_below HO4.out hbs)
      replace k6 := cell_later hbs (by exact k6)
      replace k7 := cell_later hbs (by exact k7)
      replace k8 := cell_later hbs (by exact k8)
      replace k9 := cell_later hbs (by exact k9)
      replace k10 := cell_later hbs (by exact k10)
      clear hbs hb5 HTG HX4 HO4
      go_wp2
      clear hHeld
      refine hK.out _ _ (by exact ⟨k6, k7, k8, k9, k10⟩) (fun hHeld => ?_)
      clear hK K
      try simp only [Act.put, List.setIfInBounds_toArray, List.set_cons_zero, List.set_cons_succ]
      refine rg_run 13 rfl (by kernel_rfl) (by kernel_rfl) (fun K hK => ?_)
      go_simp
      go_wp2
      have hal := below_alloc (Below.refl w5.heap.size w5) (.cells #[.int .i64 T] 2)
      have HX6 := Lib.hid (HX5.out.below hal)
      have HO6 := Lib.hid (own_below HO5.out hal)
      have z0 : (w5.alloc (.cells #[.int .i64 T] 2)).cell? ⟨w5.heap.size, 0, none⟩ = some (.int .i64 T) := by go_simp
      replace k6 := cell_later hal (by exact k6)
      replace k7 := cell_later hal (by exact k7)
      replace k8 := cell_later hal (by exact k8)
      replace k9 := cell_later hal (by exact k9)
      replace k10 := cell_later hal (by exact k10)
      clear hal HX5 HO5
      generalize w5.alloc (.cells #[.int .i64 T] 2) = W6 at *
      generalize w5.heap.size = g6 at *
      clear hHeld
      refine hK.out _ _ (by exact ⟨k6, k7, k8, k9, k10⟩) (fun hHeld => ?_)
      clear hK K
      try simp only [Act.put, List.setIfInBounds_toArray, List.set_cons_zero, List.set_cons_succ]
      refine rg_run 14 rfl (by kernel_rfl) (by kernel_rfl) (fun K hK => ?_)
      refine wp_push_intQ _ (.tmp 30) (.tmp 43) rfl w1.heap.size _ k _ T g6 1 rfl (by exact HO6.out) rfl (by exact z0) (by omega) HX6.out.bel.size ?_
      intro v7 w7 hown hgrow
      obtain ⟨A9, q9, rfl⟩ := own_shape hown
      have HX7 := Lib.hid (HX6.out.kept HO6.out hgrow)
      have HO7 := Lib.hid hown
      clear hown hgrow k6 k7 k8 k9 k10 z0 hb1 hb2
      have HLV : Hid ((S0 ++ L9).length = n9) := HN9
      obtain ⟨_, ⟨k6, k7, k8, k9, k10⟩, _, _, hb1, hb2⟩ := HX7.out.cells
      rw [HLV.out] at k10
      clear hHeld
      refine hK.out _ _ (by exact ⟨k6, k7, k8, k9, k10⟩) (fun hHeld => ?_)
      clear hK K
      try simp only [Act.put, List.setIfInBounds_toArray, List.set_cons_zero, List.set_cons_succ]
      refine rg_take (v := ?_) 15 rfl (by kernel_rfl) (by kernel_rfl) (by kernel_rfl) (fun _ _ _ h => h) (by kernel_rfl) ?_ (by assumption) ?_
      rotate_left
      · (intro w' hSw; (try dsimp only at hSw); go_simp; first | done | with_reducible rfl)
      simp only [Act.put, List.setIfInBounds_toArray, List.set_cons_zero, List.set_cons_succ]
      refine wpAnyH_done (by kernel_rfl) ?_ _
      clear hHeld
      clear k6 k7 k8 k9 k10 hb1 hb2 hs0 hs1 hs2 hs3 hw9 hcne
      go_wp2_with (fail)
      go_roundw
      case rel => exact ⟨k + 1, A9, q9, by omega, by go_num, rfl, Lib.hid (by rw [HMS.out]; exact HO7.out), Lib.hid ⟨_, _, by rw [HST.out, HNS.out]; exact HX7.out⟩⟩
      case measure => simp [intOf]; omega
    · obtain rfl : k = p.ls.length := by omega
      rw [List.take_length] at ho
      have HO2 := Lib.hid (own_mono ho.out B1.out.size)
      have HLN : Hid ((p.ls.map tL).length = p.ls.length) := Lib.hid (by simp)
      have HBB := Lib.hid (below_chain B1.out HX1.out.bel)
      clear ho hlen hnb
      go_wp2_with (fail)
      go_ret2
      exact retZC_own HE2.out HLN.out HO2.out HBB.out
end Go.Proofs.YteengjcplmjakaaGreatDoor

/- The law's walk: times. Condition: the bytes; the keywords lie there. -/
namespace Go.Proofs.YteengjcplmjakaaGreatDoor
open Go.RowKit

theorem sumT_KK (c : Cd) : sumT c c.ss = sumK c c.ss.length := by unfold sumK; rw [List.take_length]
theorem cmp_okT {p : Prg} (hok : PgOk p) (h : (wrB p && fltB p) = true) : CdOk (cmp p) := by
  have hd := hd_cmp (snd_of h)
  refine ⟨⟨by have := hd.b; omega, fun t ht => ?_⟩, by have := hd.s; omega⟩
  obtain ⟨l, hl, ht⟩ := List.mem_flatMap.1 (show t ∈ p.ls.flatMap blkL from ht)
  exact (hok.l.2 l hl).2.2 t (List.mem_filter.1 (show t ∈ l.ts.filter isB from ht)).1
theorem scan_code {c : Cd} (h : codeB c = true) : scanC c = 0 ∧ scanV c = sumT c c.ss := by
  unfold scanC scanV
  rw [h, sumT_KK]
  exact ⟨rfl, rfl⟩
theorem code_scan {c : Cd} (h : scanC c = 0) : codeB c = true := by
  unfold scanC at h
  split at h
  · assumption
  · cases h
theorem lt_so {p : Prg} (h : ltC p = 0) : (wrB p && fltB p) = true ∧ ltV p = p.ls.map tL := by
  unfold ltC at h
  split at h
  · rename_i hs
    exact ⟨hs, by unfold ltV; rw [if_pos hs]⟩
  · cases h
theorem ltV_len (p : Prg) : (ltV p).length ≤ p.ls.length := by
  unfold ltV
  split
  · simp
  · exact Nat.zero_le _
set_option maxHeartbeats 8000000 in
set_option maxRecDepth 100000 in
theorem law_FnTimes (A : Option Addr) (c n : Nat) (w : World) (hb : Bytes w w.heap.size A n) (hk : KwR w) :
    Calls Tryz.prog 3 #[.slice A n c] w fun e w' => e = .returned (.bool true) ∧ Below w.heap.size w w' := by
  have HK := Lib.hid hk
  clear hk
  by_cases hbig : 4096 < n
  · have hd : decide (4096 < n) = true := decide_eq_true hbig
    go_enter Tryz.func3, Tryz.ntmps3
    go_wp2_with (first
      | (go_at_call 6
         refine (c_big _ _ _ _).mono ?_
         rintro e w' ⟨rfl, rfl⟩)
      )
    go_ret
    exact ⟨rfl, by (repeat (first | exact Below.refl _ _ | assumption | refine below_alloc ?_ _ | refine below_drewN ?_ _ | refine below_set ?_ _ (by simp; try omega) | refine Below.drew ?_))⟩
  have hd : decide (4096 < n) = false := decide_eq_false hbig
  have HY := Lib.hid (fun w' (h : Below w.heap.size w w') => hb.later h h.size)
  have HYB := Lib.hid hb
  clear hb
  go_enter Tryz.func3, Tryz.ntmps3
  go_wp2_with (first
    | (go_at_call 6
       refine (c_big _ _ _ _).mono ?_
       rintro e w' ⟨rfl, rfl⟩)
    )
  refine (c_DrawLineTimes A c n w (by omega) HYB.out).mono ?_
  rintro e w1 ⟨p, a1, a2, a3, a4, c1, c2, c3, c4, ds, xs, rfl, ho, hok, _, hb1⟩
  have HB1 := Lib.hid hb1
  have H1 := Lib.hid ho.pg
  have hz : PgZ a1 a2 a3 c1 c2 c3 := ⟨own_none ho.i, own_none ho.v, own_none ho.o⟩
  have HIL := Lib.hid (fun w h hk => c_LineTimes p a1 a2 a3 a4 c1 c2 c3 c4 w hok hz h hk)
  have HSL := Lib.hid (fun w h => c_sLineTimes p a1 a2 a3 a4 c1 c2 c3 c4 w hok hz h)
  have HCP := Lib.hid (fun w h hk hso => c_CompileProgram p a1 a2 a3 a4 c1 c2 c3 c4 w hok hz h hk hso)
  have HLT := Lib.hid (fun (h : ltC p = 0) => lt_so h)
  have HLL := Lib.hid (show (ltV p).length ≤ 1048576 from Nat.le_trans (ltV_len p) hok.l.1)
  have HCO := Lib.hid (fun h => cmp_okT hok h)
  have HCD := Lib.hid (fun (h : (wrB p && fltB p) = true) => (⟨(scan_code (code_cmp h)).1, (scan_code (code_cmp h)).2.trans (sum_cmp (snd_of h)), tL_bd (snd_of h).b⟩ : scanC (cmp p) = 0 ∧ scanV (cmp p) = sumZ (p.ls.map tL) + (if p.gd.toList.isEmpty then 0 else 2 + (p.os.length : Int)) ∧ ∀ z ∈ p.ls.map tL, 0 ≤ z ∧ z ≤ 1000))
  have hosl : p.os.length ≤ 1048576 := hok.o.1
  have hlsl : p.ls.length ≤ 1048576 := hok.l.1
  have HP1 := Lib.hid (own_box w1 w1.heap.size 27 [.string p.nm, .slice a1 p.ins.length c1, .slice a2 p.vs.length c2, .slice a3 p.os.length c3, .string p.gd, .slice a4 p.ls.length c4] 6 rfl (Nat.le_refl _))
  have BA := below_alloc (Below.refl w1.heap.size w1) (.cells #[.string p.nm, .slice a1 p.ins.length c1, .slice a2 p.vs.length c2, .slice a3 p.os.length c3, .string p.gd, .slice a4 p.ls.length c4] 27)
  have HB2 := Lib.hid (below_chain HB1.out BA)
  have H2 := Lib.hid (H1.out.below BA)
  clear ho hok hz hb1 BA H1 HB1 HYB
  generalize ltC p = C at *
  generalize ltV p = V at *
  generalize hcm : cmp p = CM at *
  clear hcm
  dsimp only [F1, pv] at *
  go_upto_region 4 with (fail)
  generalize w1.alloc (.cells #[.string p.nm, .slice a1 p.ins.length c1, .slice a2 p.vs.length c2, .slice a3 p.os.length c3, .string p.gd, .slice a4 p.ls.length c4] 27) = w2 at *
  generalize w1.heap.size = pb at *
  obtain ⟨⟨k0, k1, k2, k3, k4, k5⟩, _, _⟩ := PBox.c (show PBox w2 pb pb [.string p.nm, .slice a1 p.ins.length c1, .slice a2 p.vs.length c2, .slice a3 p.os.length c3, .string p.gd, .slice a4 p.ls.length c4] from HP1.out)
  clear HP1
  go_wp2_with (fail)
  refine (HIL.out _ H2.out (HK.out.below HB2.out)).mono ?_
  rintro e w3 ⟨A3, n3, c3', rfl, hn3, ho3, hb⟩
  have HB3 := Lib.hid (below_chain HB2.out hb)
  have H3 := Lib.hid (H2.out.below hb)
  have HN3 := Lib.hid hn3
  have HR3 := Lib.hid (Rd.own ho3)
  replace k0 := cell_later hb (by exact k0)
  replace k1 := cell_later hb (by exact k1)
  replace k2 := cell_later hb (by exact k2)
  replace k3 := cell_later hb (by exact k3)
  replace k4 := cell_later hb (by exact k4)
  replace k5 := cell_later hb (by exact k5)
  clear hb HB2 H2 HIL hn3 ho3
  go_wp2_with (fail)
  refine (HSL.out _ H3.out).mono ?_
  rintro e w4 ⟨A4, n4, c4', rfl, hn4, ho4, hb⟩
  have HB4 := Lib.hid (below_chain HB3.out hb)
  have H4 := Lib.hid (H3.out.below hb)
  have HN4 := Lib.hid hn4
  have HR4 := Lib.hid (Rd.own ho4)
  have HR3b := Lib.hid (HR3.out.below hb)
  replace k0 := cell_later hb (by exact k0)
  replace k1 := cell_later hb (by exact k1)
  replace k2 := cell_later hb (by exact k2)
  replace k3 := cell_later hb (by exact k3)
  replace k4 := cell_later hb (by exact k4)
  replace k5 := cell_later hb (by exact k5)
  clear hb HB3 H3 HSL hn4 ho4 HR3
  go_wp2_with (fail)
  refine (c_DrawScanTime A c n _ (by omega) (HY.out _ HB4.out)).mono ?_
  rintro e w5 ⟨cc, B1, r1, B2, r2, xs, rfl, hbt, hbs, hcok, _, hb⟩
  have HB5 := Lib.hid (below_chain HB4.out hb)
  have H5 := Lib.hid (H4.out.below hb)
  have HR3 := Lib.hid (HR3b.out.below hb)
  have HR4b := Lib.hid (HR4.out.below hb)
  replace k0 := cell_later hb (by exact k0)
  replace k1 := cell_later hb (by exact k1)
  replace k2 := cell_later hb (by exact k2)
  replace k3 := cell_later hb (by exact k3)
  replace k4 := cell_later hb (by exact k4)
  replace k5 := cell_later hb (by exact k5)
  have HBT5 := Lib.hid hbt
  have HBS5 := Lib.hid hbs
  have HIS := Lib.hid (fun w h hk => c_ScanTime cc B1 B2 r1 r2 w hcok h hk)
  have HSS := Lib.hid (fun w h => c_sScanTime cc B1 B2 r1 r2 w hcok h)
  have HIC := Lib.hid (fun base w hc hk h1 h2 => c_ImproveCode cc base B1 B2 r1 r2 w hcok hc hk h1 h2)
  have HCS := Lib.hid (fun (h : scanC cc = 0) => (⟨code_scan h, (scan_code (code_scan h)).2⟩ : codeB cc = true ∧ scanV cc = sumT cc cc.ss))
  clear hb HB4 H4 HR3b HR4 hbt hbs hcok
  generalize hsC : scanC cc = SC at *
  generalize hsV : scanV cc = SV at *
  clear hsC hsV
  have HRi := HR3
  have HSi := HR4b
  clear HR3 HR4b
  have HR5 := HRi
  have HS5 := HSi
  clear HRi HSi
  dsimp only [F1, cv] at *
  have HPC := Lib.hid (own_box w5 w5.heap.size 35 [.int .i64 cc.i, .int .i64 cc.v, .int .i64 cc.o, .slice B1 cc.bs.length r1, .slice B2 cc.ss.length r2] 5 rfl (Nat.le_refl _))
  have BA := below_alloc (Below.refl w5.heap.size w5) (.cells #[.int .i64 cc.i, .int .i64 cc.v, .int .i64 cc.o, .slice B1 cc.bs.length r1, .slice B2 cc.ss.length r2] 35)
  have HB6 := Lib.hid (below_chain HB5.out BA)
  have H6 := Lib.hid (H5.out.below BA)
  have HR6 := Lib.hid (HR5.out.below BA)
  have HS6 := Lib.hid (HS5.out.below BA)
  have HBT6 := Lib.hid (own_below HBT5.out BA)
  have HBS6 := Lib.hid (own_below HBS5.out BA)
  replace k0 := cell_later BA (by exact k0)
  replace k1 := cell_later BA (by exact k1)
  replace k2 := cell_later BA (by exact k2)
  replace k3 := cell_later BA (by exact k3)
  replace k4 := cell_later BA (by exact k4)
  replace k5 := cell_later BA (by exact k5)
  clear HB5 H5 HR5 HS5 HBT5 HBS5 
  clear BA
  go_upto_region 7 with (fail)
  generalize w5.alloc (.cells #[.int .i64 cc.i, .int .i64 cc.v, .int .i64 cc.o, .slice B1 cc.bs.length r1, .slice B2 cc.ss.length r2] 35) = w6 at *
  generalize w5.heap.size = cb at *
  obtain ⟨⟨j0, j1, j2, j3, j4⟩, _, _⟩ := CBox.c (show CBox w6 cb cb [.int .i64 cc.i, .int .i64 cc.v, .int .i64 cc.o, .slice B1 cc.bs.length r1, .slice B2 cc.ss.length r2] from HPC.out)
  clear HPC
  go_wp2_with (fail)
  refine (HIS.out _ ⟨Rd.own HBT6.out, Rd.own HBS6.out⟩ (HK.out.below HB6.out)).mono ?_
  rintro e w7 ⟨rfl, hb⟩
  have HB7 := Lib.hid (below_chain HB6.out hb)
  have H7 := Lib.hid (H6.out.below hb)
  have HR7 := Lib.hid (HR6.out.below hb)
  have HS7 := Lib.hid (HS6.out.below hb)
  have HBT7 := Lib.hid (own_below HBT6.out hb)
  have HBS7 := Lib.hid (own_below HBS6.out hb)
  replace k0 := cell_later hb (by exact k0)
  replace k1 := cell_later hb (by exact k1)
  replace k2 := cell_later hb (by exact k2)
  replace k3 := cell_later hb (by exact k3)
  replace k4 := cell_later hb (by exact k4)
  replace k5 := cell_later hb (by exact k5)
  replace j0 := cell_later hb (by exact j0)
  replace j1 := cell_later hb (by exact j1)
  replace j2 := cell_later hb (by exact j2)
  replace j3 := cell_later hb (by exact j3)
  replace j4 := cell_later hb (by exact j4)
  clear HB6 H6 HR6 HS6 HBT6 HBS6 hb HIS
  go_wp2_with (fail)
  refine (HSS.out _ ⟨Rd.own HBT7.out, Rd.own HBS7.out⟩).mono ?_
  rintro e w8 ⟨rfl, hb⟩
  have HB8 := Lib.hid (below_chain HB7.out hb)
  have H8 := Lib.hid (H7.out.below hb)
  have HR8 := Lib.hid (HR7.out.below hb)
  have HS8 := Lib.hid (HS7.out.below hb)
  have HBT8 := Lib.hid (own_below HBT7.out hb)
  have HBS8 := Lib.hid (own_below HBS7.out hb)
  replace k0 := cell_later hb (by exact k0)
  replace k1 := cell_later hb (by exact k1)
  replace k2 := cell_later hb (by exact k2)
  replace k3 := cell_later hb (by exact k3)
  replace k4 := cell_later hb (by exact k4)
  replace k5 := cell_later hb (by exact k5)
  replace j0 := cell_later hb (by exact j0)
  replace j1 := cell_later hb (by exact j1)
  replace j2 := cell_later hb (by exact j2)
  replace j3 := cell_later hb (by exact j3)
  replace j4 := cell_later hb (by exact j4)
  clear HB7 H7 HR7 HS7 HBT7 HBS7 hb HSS
  go_wp2_with (fail)
  refine (c_DrawTimeOf A c n _ (by omega) (HY.out _ HB8.out)).mono ?_
  rintro e w9 ⟨dd, E1, t1, E2, t2, xs, rfl, hdt, hds, hdok, ⟨z, rfl⟩, hb⟩
  have HD9 := Lib.hid (Rd.own hdt)
  have HE9 := Lib.hid (Rd.own hds)
  have HIT := Lib.hid (fun w h hk => c_TimeOf dd E1 E2 t1 t2 z w hdok h hk)
  have HST := Lib.hid (fun w h => c_sTimeOf dd E1 E2 t1 t2 z w hdok h)
  have HB9 := Lib.hid (below_chain HB8.out hb)
  have H9 := Lib.hid (H8.out.below hb)
  have HR9 := Lib.hid (HR8.out.below hb)
  have HS9 := Lib.hid (HS8.out.below hb)
  have HBT9 := Lib.hid (own_below HBT8.out hb)
  have HBS9 := Lib.hid (own_below HBS8.out hb)
  replace k0 := cell_later hb (by exact k0)
  replace k1 := cell_later hb (by exact k1)
  replace k2 := cell_later hb (by exact k2)
  replace k3 := cell_later hb (by exact k3)
  replace k4 := cell_later hb (by exact k4)
  replace k5 := cell_later hb (by exact k5)
  replace j0 := cell_later hb (by exact j0)
  replace j1 := cell_later hb (by exact j1)
  replace j2 := cell_later hb (by exact j2)
  replace j3 := cell_later hb (by exact j3)
  replace j4 := cell_later hb (by exact j4)
  clear HB8 H8 HR8 HS8 HBT8 HBS8 hb hdt hds hdok
  generalize timeV dd z = TV at *
  generalize timeC dd z = TC at *
  dsimp only [F2, cv] at *
  have HPC := Lib.hid (own_box w9 w9.heap.size 35 [.int .i64 dd.i, .int .i64 dd.v, .int .i64 dd.o, .slice E1 dd.bs.length t1, .slice E2 dd.ss.length t2] 5 rfl (Nat.le_refl _))
  have BA := below_alloc (Below.refl w9.heap.size w9) (.cells #[.int .i64 dd.i, .int .i64 dd.v, .int .i64 dd.o, .slice E1 dd.bs.length t1, .slice E2 dd.ss.length t2] 35)
  have HD10 := Lib.hid (HD9.out.below BA)
  have HE10 := Lib.hid (HE9.out.below BA)
  have HB10 := Lib.hid (below_chain HB9.out BA)
  have H10 := Lib.hid (H9.out.below BA)
  have HR10 := Lib.hid (HR9.out.below BA)
  have HS10 := Lib.hid (HS9.out.below BA)
  have HBT10 := Lib.hid (own_below HBT9.out BA)
  have HBS10 := Lib.hid (own_below HBS9.out BA)
  replace k0 := cell_later BA (by exact k0)
  replace k1 := cell_later BA (by exact k1)
  replace k2 := cell_later BA (by exact k2)
  replace k3 := cell_later BA (by exact k3)
  replace k4 := cell_later BA (by exact k4)
  replace k5 := cell_later BA (by exact k5)
  replace j0 := cell_later BA (by exact j0)
  replace j1 := cell_later BA (by exact j1)
  replace j2 := cell_later BA (by exact j2)
  replace j3 := cell_later BA (by exact j3)
  replace j4 := cell_later BA (by exact j4)
  clear HB9 H9 HR9 HS9 HBT9 HBS9 HD9 HE9
  clear BA
  go_upto_region 10 with (fail)
  generalize w9.alloc (.cells #[.int .i64 dd.i, .int .i64 dd.v, .int .i64 dd.o, .slice E1 dd.bs.length t1, .slice E2 dd.ss.length t2] 35) = w10 at *
  generalize w9.heap.size = db at *
  obtain ⟨⟨i0, i1, i2, i3, i4⟩, _, _⟩ := CBox.c (show CBox w10 db db [.int .i64 dd.i, .int .i64 dd.v, .int .i64 dd.o, .slice E1 dd.bs.length t1, .slice E2 dd.ss.length t2] from HPC.out)
  clear HPC
  go_wp2_with (fail)
  refine (HIT.out _ ⟨HD10.out, HE10.out⟩ (HK.out.below HB10.out)).mono ?_
  rintro e w11 ⟨rfl, hb⟩
  have HD11 := Lib.hid (HD10.out.below hb)
  have HE11 := Lib.hid (HE10.out.below hb)
  have HB11 := Lib.hid (below_chain HB10.out hb)
  have H11 := Lib.hid (H10.out.below hb)
  have HR11 := Lib.hid (HR10.out.below hb)
  have HS11 := Lib.hid (HS10.out.below hb)
  have HBT11 := Lib.hid (own_below HBT10.out hb)
  have HBS11 := Lib.hid (own_below HBS10.out hb)
  replace k0 := cell_later hb (by exact k0)
  replace k1 := cell_later hb (by exact k1)
  replace k2 := cell_later hb (by exact k2)
  replace k3 := cell_later hb (by exact k3)
  replace k4 := cell_later hb (by exact k4)
  replace k5 := cell_later hb (by exact k5)
  replace j0 := cell_later hb (by exact j0)
  replace j1 := cell_later hb (by exact j1)
  replace j2 := cell_later hb (by exact j2)
  replace j3 := cell_later hb (by exact j3)
  replace j4 := cell_later hb (by exact j4)
  replace i0 := cell_later hb (by exact i0)
  replace i1 := cell_later hb (by exact i1)
  replace i2 := cell_later hb (by exact i2)
  replace i3 := cell_later hb (by exact i3)
  replace i4 := cell_later hb (by exact i4)
  clear HB10 H10 HR10 HS10 HBT10 HBS10 hb HIT HD10 HE10
  go_wp2_with (fail)
  refine (HST.out _ ⟨HD11.out, HE11.out⟩).mono ?_
  rintro e w12 ⟨rfl, hb⟩
  clear HD11 HE11 i0 i1 i2 i3 i4
  have HB12 := Lib.hid (below_chain HB11.out hb)
  have H12 := Lib.hid (H11.out.below hb)
  have HR12 := Lib.hid (HR11.out.below hb)
  have HS12 := Lib.hid (HS11.out.below hb)
  have HBT12 := Lib.hid (own_below HBT11.out hb)
  have HBS12 := Lib.hid (own_below HBS11.out hb)
  replace k0 := cell_later hb (by exact k0)
  replace k1 := cell_later hb (by exact k1)
  replace k2 := cell_later hb (by exact k2)
  replace k3 := cell_later hb (by exact k3)
  replace k4 := cell_later hb (by exact k4)
  replace k5 := cell_later hb (by exact k5)
  replace j0 := cell_later hb (by exact j0)
  replace j1 := cell_later hb (by exact j1)
  replace j2 := cell_later hb (by exact j2)
  replace j3 := cell_later hb (by exact j3)
  replace j4 := cell_later hb (by exact j4)
  clear HB11 H11 HR11 HS11 HBT11 HBS11 hb HST
  go_wp2_with (fail)
  refine (c_likeInts A3 A4 c3' c4' n3 n4 V _ HN3.out HN4.out HLL.out HR12.out HS12.out).mono ?_
  rintro e w13 ⟨rfl, hb⟩
  have HB13 := Lib.hid (below_chain HB12.out hb)
  have H13 := Lib.hid (H12.out.below hb)
  have HR13 := Lib.hid (HR12.out.below hb)
  have HS13 := Lib.hid (HS12.out.below hb)
  have HBT13 := Lib.hid (own_below HBT12.out hb)
  have HBS13 := Lib.hid (own_below HBS12.out hb)
  replace k0 := cell_later hb (by exact k0)
  replace k1 := cell_later hb (by exact k1)
  replace k2 := cell_later hb (by exact k2)
  replace k3 := cell_later hb (by exact k3)
  replace k4 := cell_later hb (by exact k4)
  replace k5 := cell_later hb (by exact k5)
  replace j0 := cell_later hb (by exact j0)
  replace j1 := cell_later hb (by exact j1)
  replace j2 := cell_later hb (by exact j2)
  replace j3 := cell_later hb (by exact j3)
  replace j4 := cell_later hb (by exact j4)
  clear HB12 H12 HR12 HS12 HBT12 HBS12 hb
  by_cases hS : SC = 0
  · subst hS
    obtain ⟨hcb, hcv⟩ := HCS.out rfl
    have HCB := Lib.hid hcb
    have HCV := Lib.hid hcv
    clear hcb hcv HCS
    go_wp2_with (fail)
    refine (HIC.out _ _ HCB.out (HK.out.below HB13.out) HBT13.out HBS13.out).mono ?_
    rintro e w14 ⟨cx, X1, y1, X2, y2, rfl, hxb, hxs, hxo, hxr, hb⟩
    obtain ⟨hx0, hx1⟩ := scan_code hxb
    have hcc := c_ScanTime cx X1 X2 y1 y2
    simp only [hx0, hx1] at hcc
    have hle : sumT cx cx.ss ≤ SV := by rw [HCV.out]; exact hxs
    have HXC := Lib.hid hcc
    have HXO := Lib.hid hxo
    have HXR := Lib.hid hxr
    have HB14 := Lib.hid (below_chain HB13.out hb)
    have H14 := Lib.hid (H13.out.below hb)
    have HR14 := Lib.hid (HR13.out.below hb)
    have HS14 := Lib.hid (HS13.out.below hb)
    have HBT14 := Lib.hid (own_below HBT13.out hb)
    have HBS14 := Lib.hid (own_below HBS13.out hb)
    replace k0 := cell_later hb (by exact k0)
    replace k1 := cell_later hb (by exact k1)
    replace k2 := cell_later hb (by exact k2)
    replace k3 := cell_later hb (by exact k3)
    replace k4 := cell_later hb (by exact k4)
    replace k5 := cell_later hb (by exact k5)
    clear HB13 H13 HR13 HS13 HBT13 HBS13 hb hcc hx0 hx1 hxb hxs hxo hxr HIC HCB HCV j0 j1 j2 j3 j4
    generalize sumT cx cx.ss = SX at *
    dsimp only [cv] at *
    have BA := below_alloc (Below.refl w14.heap.size w14) (.cells #[.int .i64 cx.i, .int .i64 cx.v, .int .i64 cx.o, .slice X1 cx.bs.length y1, .slice X2 cx.ss.length y2] 35)
    have HXR2 := Lib.hid (HXR.out.below BA)
    have HB15 := Lib.hid (below_chain HB14.out BA)
    have H15 := Lib.hid (H14.out.below BA)
    have HR15 := Lib.hid (HR14.out.below BA)
    have HS15 := Lib.hid (HS14.out.below BA)
    have HBT15 := Lib.hid (own_below HBT14.out BA)
    have HBS15 := Lib.hid (own_below HBS14.out BA)
    replace k0 := cell_later BA (by exact k0)
    replace k1 := cell_later BA (by exact k1)
    replace k2 := cell_later BA (by exact k2)
    replace k3 := cell_later BA (by exact k3)
    replace k4 := cell_later BA (by exact k4)
    replace k5 := cell_later BA (by exact k5)
    clear HB14 H14 HR14 HS14 HBT14 HBS14 HXR
    clear BA
    have hle2 : ¬ SV < SX := by omega
    have hle3 : decide (SV < SX) = false := decide_eq_false hle2
    go_wp2_with (fail)
    refine (HXC.out _ HXO.out HXR2.out (HK.out.below HB15.out)).mono ?_
    rintro e w16 ⟨rfl, hb⟩
    have HB16 := Lib.hid (below_chain HB15.out hb)
    have H16 := Lib.hid (H15.out.below hb)
    have HR16 := Lib.hid (HR15.out.below hb)
    have HS16 := Lib.hid (HS15.out.below hb)
    have HBT16 := Lib.hid (own_below HBT15.out hb)
    have HBS16 := Lib.hid (own_below HBS15.out hb)
    replace k0 := cell_later hb (by exact k0)
    replace k1 := cell_later hb (by exact k1)
    replace k2 := cell_later hb (by exact k2)
    replace k3 := cell_later hb (by exact k3)
    replace k4 := cell_later hb (by exact k4)
    replace k5 := cell_later hb (by exact k5)
    clear HB15 H15 HR15 HS15 HBT15 HBS15 hb HXC HXR2 HXO
    clear HBT16 HBS16 HS16
    by_cases hC : C = 0
    · subst hC
      obtain ⟨hso, hv⟩ := HLT.out rfl
      have HSO := Lib.hid hso
      obtain ⟨hc0, hc1, hc2⟩ := HCD.out hso
      have HC0 := Lib.hid hc0
      have HC1 := Lib.hid hc1
      have HC2 := Lib.hid hc2
      have HMO := Lib.hid (HCO.out hso)
      have hsb := sumZ_bd _ hc2
      rw [List.length_map] at hsb
      have HNL : Hid (n3 = p.ls.length) := Lib.hid (by rw [HN3.out, hv, List.length_map])
      have HN3b : Hid (n3 = (p.ls.map tL).length) := Lib.hid (by rw [HN3.out, hv])
      have HRL : Hid (Rd _ A3 (ints (p.ls.map tL))) := Lib.hid (hv ▸ HR16.out)
      clear hso hv hc0 hc1 hc2 HLT HCD HCO HN3 HN4 HR16 HLL
      go_wp2_with (fail)
      refine (HCP.out _ H16.out (HK.out.below HB16.out) HSO.out).mono ?_
      rintro e wa ⟨M1, q1, M2, q2, rfl, hcd, hb⟩
      have hcc := c_ScanTime CM M1 M2 q1 q2
      simp only [HC0.out, HC1.out] at hcc
      have HCC := Lib.hid hcc
      have HCR := Lib.hid hcd
      have HBa := Lib.hid (below_chain HB16.out hb)
      have HRa := Lib.hid (HRL.out.below hb)
      replace k3 := cell_later hb (by exact k3)
      replace k4 := cell_later hb (by exact k4)
      replace k5 := cell_later hb (by exact k5)
      clear hb hcc hcd HB16 H16 HRL HCP
      have HSM := Lib.hid (fun (w : World) h => c_sum A3 c3' n3 (p.ls.map tL) w HN3b.out (by have := HNL.out; omega) HC2.out h)
      generalize sumZ (p.ls.map tL) = S at *
      dsimp only [cv] at *
      have BA := below_alloc (Below.refl wa.heap.size wa) (.cells #[.int .i64 CM.i, .int .i64 CM.v, .int .i64 CM.o, .slice M1 CM.bs.length q1, .slice M2 CM.ss.length q2] 35)
      have HBb := Lib.hid (below_chain HBa.out BA)
      have HCRb := Lib.hid (HCR.out.below BA)
      have HRb := Lib.hid (HRa.out.below BA)
      replace k3 := cell_later BA (by exact k3)
      replace k4 := cell_later BA (by exact k4)
      replace k5 := cell_later BA (by exact k5)
      clear BA HBa HCR HRa
      go_wp2_with (fail)
      refine (HCC.out _ HMO.out HCRb.out (HK.out.below HBb.out)).mono ?_
      rintro e wc ⟨rfl, hb⟩
      have HBc := Lib.hid (below_chain HBb.out hb)
      have HRc := Lib.hid (HRb.out.below hb)
      replace k3 := cell_later hb (by exact k3)
      replace k4 := cell_later hb (by exact k4)
      replace k5 := cell_later hb (by exact k5)
      clear hb HBb HCRb HRb HCC
      have hnl : n3 = p.ls.length := HNL.out
      have hnl2 : ((n3 : Int) == (p.ls.length : Int)) = true := by rw [hnl]; simp
      clear hnl
      cases hg : p.gd.toList.isEmpty
      · have hw1 : IntKind.i64.wrap (2 + (p.os.length : Int)) = 2 + (p.os.length : Int) := IntWalk.i64_in _ (by omega)
        have hw2 : IntKind.i64.wrap (S + (2 + (p.os.length : Int))) = S + (2 + (p.os.length : Int)) := IntWalk.i64_in _ (by omega)
        go_wp2_with (fail)
        refine (HSM.out _ HRc.out).mono ?_
        rintro e wd ⟨rfl, hb⟩
        have HBd := Lib.hid (below_chain HBc.out hb)
        replace k5 := cell_later hb (by exact k5)
        clear hb HBc HRc HSM
        go_wp2_with (fail)
        go_ret
        exact ⟨rfl, HBd.out⟩
      · have hw2 : IntKind.i64.wrap (S + 0) = S + 0 := IntWalk.i64_in _ (by omega)
        have hw3 : IntKind.i64.wrap S = S := IntWalk.i64_in _ (by omega)
        go_wp2_with (fail)
        refine (HSM.out _ HRc.out).mono ?_
        rintro e wd ⟨rfl, hb⟩
        have HBd := Lib.hid (below_chain HBc.out hb)
        replace k5 := cell_later hb (by exact k5)
        clear hb HBc HRc HSM
        go_wp2_with (fail)
        go_ret
        exact ⟨rfl, HBd.out⟩
    · have hC1 : (C != 0) = true := by simpa using hC
      have hC2 : (C == 0) = false := by simpa using hC
      clear k0 k1 k2 k3 k4 k5
      go_wp2_with (fail)
      go_ret
      exact ⟨rfl, HB16.out⟩
  · have hS1 : (SC == 0) = false := by simpa using hS
    clear HCS HIC HBT13 HBS13 HS13 j0 j1 j2 j3 j4
    by_cases hC : C = 0
    · subst hC
      obtain ⟨hso, hv⟩ := HLT.out rfl
      have HSO := Lib.hid hso
      obtain ⟨hc0, hc1, hc2⟩ := HCD.out hso
      have HC0 := Lib.hid hc0
      have HC1 := Lib.hid hc1
      have HC2 := Lib.hid hc2
      have HMO := Lib.hid (HCO.out hso)
      have hsb := sumZ_bd _ hc2
      rw [List.length_map] at hsb
      have HNL : Hid (n3 = p.ls.length) := Lib.hid (by rw [HN3.out, hv, List.length_map])
      have HN3b : Hid (n3 = (p.ls.map tL).length) := Lib.hid (by rw [HN3.out, hv])
      have HRL : Hid (Rd _ A3 (ints (p.ls.map tL))) := Lib.hid (hv ▸ HR13.out)
      clear hso hv hc0 hc1 hc2 HLT HCD HCO HN3 HN4 HR13 HLL
      go_wp2_with (fail)
      refine (HCP.out _ H13.out (HK.out.below HB13.out) HSO.out).mono ?_
      rintro e wa ⟨M1, q1, M2, q2, rfl, hcd, hb⟩
      have hcc := c_ScanTime CM M1 M2 q1 q2
      simp only [HC0.out, HC1.out] at hcc
      have HCC := Lib.hid hcc
      have HCR := Lib.hid hcd
      have HBa := Lib.hid (below_chain HB13.out hb)
      have HRa := Lib.hid (HRL.out.below hb)
      replace k3 := cell_later hb (by exact k3)
      replace k4 := cell_later hb (by exact k4)
      replace k5 := cell_later hb (by exact k5)
      clear hb hcc hcd HB13 H13 HRL HCP
      have HSM := Lib.hid (fun (w : World) h => c_sum A3 c3' n3 (p.ls.map tL) w HN3b.out (by have := HNL.out; omega) HC2.out h)
      generalize sumZ (p.ls.map tL) = S at *
      dsimp only [cv] at *
      have BA := below_alloc (Below.refl wa.heap.size wa) (.cells #[.int .i64 CM.i, .int .i64 CM.v, .int .i64 CM.o, .slice M1 CM.bs.length q1, .slice M2 CM.ss.length q2] 35)
      have HBb := Lib.hid (below_chain HBa.out BA)
      have HCRb := Lib.hid (HCR.out.below BA)
      have HRb := Lib.hid (HRa.out.below BA)
      replace k3 := cell_later BA (by exact k3)
      replace k4 := cell_later BA (by exact k4)
      replace k5 := cell_later BA (by exact k5)
      clear BA HBa HCR HRa
      go_wp2_with (fail)
      refine (HCC.out _ HMO.out HCRb.out (HK.out.below HBb.out)).mono ?_
      rintro e wc ⟨rfl, hb⟩
      have HBc := Lib.hid (below_chain HBb.out hb)
      have HRc := Lib.hid (HRb.out.below hb)
      replace k3 := cell_later hb (by exact k3)
      replace k4 := cell_later hb (by exact k4)
      replace k5 := cell_later hb (by exact k5)
      clear hb HBb HCRb HRb HCC
      have hnl : n3 = p.ls.length := HNL.out
      have hnl2 : ((n3 : Int) == (p.ls.length : Int)) = true := by rw [hnl]; simp
      clear hnl
      cases hg : p.gd.toList.isEmpty
      · have hw1 : IntKind.i64.wrap (2 + (p.os.length : Int)) = 2 + (p.os.length : Int) := IntWalk.i64_in _ (by omega)
        have hw2 : IntKind.i64.wrap (S + (2 + (p.os.length : Int))) = S + (2 + (p.os.length : Int)) := IntWalk.i64_in _ (by omega)
        go_wp2_with (fail)
        refine (HSM.out _ HRc.out).mono ?_
        rintro e wd ⟨rfl, hb⟩
        have HBd := Lib.hid (below_chain HBc.out hb)
        replace k5 := cell_later hb (by exact k5)
        clear hb HBc HRc HSM
        go_wp2_with (fail)
        go_ret
        exact ⟨rfl, HBd.out⟩
      · have hw2 : IntKind.i64.wrap (S + 0) = S + 0 := IntWalk.i64_in _ (by omega)
        have hw3 : IntKind.i64.wrap S = S := IntWalk.i64_in _ (by omega)
        go_wp2_with (fail)
        refine (HSM.out _ HRc.out).mono ?_
        rintro e wd ⟨rfl, hb⟩
        have HBd := Lib.hid (below_chain HBc.out hb)
        replace k5 := cell_later hb (by exact k5)
        clear hb HBc HRc HSM
        go_wp2_with (fail)
        go_ret
        exact ⟨rfl, HBd.out⟩
    · have hC1 : (C != 0) = true := by simpa using hC
      have hC2 : (C == 0) = false := by simpa using hC
      clear k0 k1 k2 k3 k4 k5
      go_wp2_with (fail)
      go_ret
      exact ⟨rfl, HB13.out⟩
end Go.Proofs.YteengjcplmjakaaGreatDoor
