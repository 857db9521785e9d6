/- The closed facts that the rows of this seat share: how the program's head reads (harness, sum, cut), so that no fact reckons over the whole head. No condition. -/
import Derived.Test.YteengjcplmjakaaGreatDoorRows
import Derived.JoinedOf
import Derived.KernelRfl
namespace Go.Proofs.YteengjcplmjakaaGreatDoor
open Go

theorem ws_space (r : List Char) : wordsSigns (Char.ofNat 32 :: r) = [] :: wordsSigns r := rfl
theorem ws_cons (c : Char) (r w : List Char) (ws : List (List Char)) (hc : c ≠ Char.ofNat 32) (h : wordsSigns r = w :: ws) : wordsSigns (c :: r) = (c :: w) :: ws := by
  unfold wordsSigns
  split
  · rename_i he
    cases he
  · rename_i he
    simp only [List.cons.injEq] at he
    exact absurd he.1 hc
  · rename_i he
    simp only [List.cons.injEq] at he
    obtain ⟨rfl, rfl⟩ := he
    rw [h]
theorem ws_word (r : List Char) : ∀ (w : List Char), (∀ c ∈ w, c ≠ Char.ofNat 32) → wordsSigns (w ++ Char.ofNat 32 :: r) = w :: wordsSigns r
  | [], _ => ws_space r
  | c :: w, h => ws_cons c _ w _ (h c (List.mem_cons_self ..)) (ws_word r w fun d hd => h d (List.mem_cons_of_mem _ hd))
theorem ws_cut (L : List Char) (h1 : L.take 8 = "harness".toList ++ [Char.ofNat 32]) (h2 : isSumSigns ((L.drop 8).take 64) = true) (h3 : (L.drop 72).take 5 = Char.ofNat 32 :: ("cut".toList ++ [Char.ofNat 32])) :
    behindMainWord (wordsSigns L) = "cut".toList :: wordsSigns (L.drop 77) := by
  have e : L = "harness".toList ++ Char.ofNat 32 :: ((L.drop 8).take 64 ++ Char.ofNat 32 :: ("cut".toList ++ Char.ofNat 32 :: L.drop 77)) := by
    have e1 : L = L.take 8 ++ ((L.drop 8).take 64 ++ ((L.drop 72).take 5 ++ L.drop 77)) := by
      have a : (L.drop 72).take 5 ++ L.drop 77 = L.drop 72 := by
        rw [show L.drop 77 = (L.drop 72).drop 5 from by rw [List.drop_drop]]
        exact List.take_append_drop 5 _
      have b : (L.drop 8).take 64 ++ L.drop 72 = L.drop 8 := by
        rw [show L.drop 72 = (L.drop 8).drop 64 from by rw [List.drop_drop]]
        exact List.take_append_drop 64 _
      rw [a, b]
      exact (List.take_append_drop 8 L).symm
    rw [h1, h3] at e1
    simpa using e1
  have n1 : ∀ c ∈ "harness".toList, c ≠ Char.ofNat 32 := by decide
  have n3 : ∀ c ∈ "cut".toList, c ≠ Char.ofNat 32 := by decide
  have n2 : ∀ c ∈ (L.drop 8).take 64, c ≠ Char.ofNat 32 := by
    intro c hc he
    simp only [isSumSigns, Bool.and_eq_true, List.all_eq_true] at h2
    have := h2.2 c hc
    rw [he] at this
    exact absurd this (by decide)
  have e2 : wordsSigns L = "harness".toList :: (L.drop 8).take 64 :: "cut".toList :: wordsSigns (L.drop 77) := by
    rw [e.symm ▸ ws_word _ _ n1 |> fun h => (congrArg wordsSigns e).trans (ws_word _ _ n1), ws_word _ _ n2, ws_word _ _ n3]
  rw [e2]
  simp [behindMainWord, h2]
def ioPart0 : List Nat := [104, 97, 114, 110, 101, 115, 115, 32, 102, 97, 56, 100, 102, 57, 55, 53, 54, 56, 51, 50, 51, 102, 51, 48, 52, 55, 53, 51, 54, 49, 50, 52, 99, 55, 49, 55, 100, 48, 48, 97, 50, 49, 53, 54, 100, 54, 102, 50, 53, 101, 56, 100, 53, 55, 48, 101, 102, 101, 53, 52, 52, 57, 102, 48, 102, 101, 99, 50, 55, 53, 100, 98, 32, 99, 117, 116, 32]
def ioPart1 : List Nat := [97, 116, 32, 108, 111, 111, 112, 46, 101, 120, 97, 109, 112, 108, 101, 47, 103, 48, 48, 57, 49, 54, 47, 108, 97, 119, 115, 46, 70, 110, 84, 105, 109, 101, 115, 32, 108, 111, 111, 112, 46, 101, 120, 97, 109, 112, 108, 101, 47, 103, 48, 48, 57, 49, 54, 47, 108, 97, 119, 115, 46, 70, 110, 70, 97, 117, 108, 116, 121, 66, 108, 111, 99, 107, 115, 32, 108, 111, 111, 112, 46, 101, 120, 97, 109, 112, 108, 101, 47, 103, 48, 48, 57, 49, 54, 47, 108, 97, 119, 115]
def ioPart2 : List Nat := [46, 70, 110, 82, 101, 97, 99, 116, 105, 111, 110, 115]
def ioRest : List Nat := ioPart1 ++ ioPart2
theorem io_eq : Tryz.prog.initOrder = String.ofList (List.map Char.ofNat ioPart0 ++ List.map Char.ofNat ioRest) := by kernel_rfl
theorem io_list : Tryz.prog.initOrder.toList = List.map Char.ofNat ioPart0 ++ List.map Char.ofNat ioRest := by
  rw [io_eq, String.toList_ofList]
theorem part_length : (List.map Char.ofNat ioPart0).length = 77 := by decide
theorem io_cut : behindMainWord (wordsSigns Tryz.prog.initOrder.toList) = "cut".toList :: wordsSigns (List.map Char.ofNat ioRest) := by
  rw [io_list]
  generalize List.map Char.ofNat ioRest = R
  have h := ws_cut (List.map Char.ofNat ioPart0 ++ R) (by rw [List.take_append_of_le_length (by rw [part_length]; decide)]; decide)
    (by rw [List.drop_append_of_le_length (by rw [part_length]; decide), List.take_append_of_le_length (by rw [List.length_drop, part_length]; decide)]; decide)
    (by rw [List.drop_append_of_le_length (by rw [part_length]; decide), List.take_append_of_le_length (by rw [List.length_drop, part_length]; decide)]; decide)
  rw [h, List.drop_append_of_le_length (by rw [part_length]; decide)]
  have e : List.drop 77 (List.map Char.ofNat ioPart0) = [] := List.drop_eq_nil_of_le (by rw [part_length]; decide)
  rw [e]
  rfl
theorem strip_cut (l : List String) (ws : List (List Char)) (h : ∀ o ∈ l, ("cut".toList == o.toList) = false) : stripLifts l ("cut".toList :: ws) = ([], "cut".toList :: ws) := by
  induction l with
  | nil => rfl
  | cons o os ih =>
    unfold stripLifts
    rw [if_neg (by rw [h o (List.mem_cons_self ..)]; decide)]
    exact ih fun o' ho => h o' (List.mem_cons_of_mem _ ho)
theorem lift_ne : ∀ o ∈ liftWords, ("cut".toList == o.toList) = false := by decide
theorem may_of (P : Program) (ws : List (List Char)) (h : behindMainWord (wordsSigns P.initOrder.toList) = "cut".toList :: ws) (h1 : P.laysLater = false) (h2 : P.bearsReflect = false) (h3 : P.doorFits [] = true) : P.mayEnter = true := by
  unfold Program.mayEnter
  rw [h]
  simp only [strip_cut _ _ lift_ne, h1, h2, h3]
  simp
theorem lifts_of (P : Program) (ws : List (List Char)) (h : behindMainWord (wordsSigns P.initOrder.toList) = "cut".toList :: ws) : P.headLifts = [] := by
  unfold Program.headLifts
  rw [h, strip_cut _ _ lift_ne]
  simp
theorem final_of (P : Program) (ws : List (List Char)) (h : behindMainWord (wordsSigns P.initOrder.toList) = "cut".toList :: ws) : P.liftsFinal = false := by
  unfold Program.liftsFinal
  rw [h, lifts_of P ws h]
  simp
theorem make_of (P : Program) (ws : List (List Char)) (h : behindMainWord (wordsSigns P.initOrder.toList) = "cut".toList :: ws) : P.make = some .cut := by
  unfold Program.make
  rw [h]
  simp
theorem lays_no : Tryz.prog.laysLater = false := by kernel_rfl
theorem refl_no : Tryz.prog.bearsReflect = false := by kernel_rfl
theorem door_fits : Tryz.prog.doorFits [] = true := by kernel_rfl
theorem may_enter : Tryz.prog.mayEnter = true := may_of _ _ io_cut lays_no refl_no door_fits
theorem lifts_final : Tryz.prog.liftsFinal = false := final_of _ _ io_cut
theorem make_cut : Tryz.prog.make = some .cut := make_of _ _ io_cut
end Go.Proofs.YteengjcplmjakaaGreatDoor
