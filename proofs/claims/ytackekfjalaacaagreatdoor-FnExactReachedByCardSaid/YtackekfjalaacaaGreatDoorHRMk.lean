/- Marks of a program and of a memory: what they touch (printed by PMk.py). No condition but the sizes. -/
import Derived.Test.YtackekfjalaacaaGreatDoorHRbI
import Derived.Test.YtackekfjalaacaaGreatDoorMShp
import Derived.Laws.BytesArg
namespace Go.Proofs.YtackekfjalaacaaGreatDoor
open Go.RowKit

theorem own_zero {w : World} {base : Nat} {e : TypeId} {size c : Nat} {A : Option Addr} {xs : List Value} (h : w.ownsRow base e size (.slice A 0 c) 0 xs) : xs = [] := List.eq_nil_of_length_eq_zero (by simpa using h.1)
def markL (k : Int) (n : Nat) : List Int := (List.range n).map fun (i : Nat) => k + (i : Int)
theorem markL_length (k : Int) (n : Nat) : (markL k n).length = n := by simp [markL]
theorem markL_get {k : Int} {n j : Nat} (h : j < n) : (markL k n)[j]? = some (k + j) := by simp [markL, h]
theorem cell_mark {w w' : World} {row : Option Nat} {a : Addr} {v : Value} (h : w.cell? a = some v) (hg : w.grownBy w' row) (hne : ∀ q, row = some q → q ≠ a.block) : w'.cell? a = some v :=
  (hg.cell_far a (World.block_lt_of_cell? w a h) (fun h' => hne _ h'.symm rfl)).trans h
theorem Mk.of_grown {w w' : World} {A : Option Addr} {n c base : Nat} {e : TypeId} {size : Nat} {xs : List Value} (hg : w.grownBy w' (Value.slice A n c).ownBlock) (ho : w.ownsRow base e size (.slice A n c) n xs) (ho' : ∃ ys, w'.ownsRow base e size (.slice A n c) n ys) : Mk base w.heap.size w w' := by
  refine ⟨hg.os, hg.tape, hg.output, hg.size, fun k hk h => hg.block k hk fun h2 => ?_, fun k cur e2 fz hc => ?_⟩
  · have := ho.lt k h2.symm
    omega
  · by_cases hk : (Value.slice A n c).ownBlock = some k
    · rcases ho.2 with ⟨hv, _⟩ | ⟨g, cap, cur1, hv, _, hg1, _, _, hs1, _⟩
      · rw [hv] at hk; cases hk
      · obtain ⟨ys, ho2⟩ := ho'
        rcases ho2.2 with ⟨hv2, _⟩ | ⟨g2, cap2, cur2, hv2, _, hg2, _, _, hs2, _⟩
        · rw [hv2] at hk; cases hk
        · rw [hv] at hk hv2
          simp only [Value.slice.injEq, Option.some.injEq, Addr.mk.injEq, and_true, true_and] at hv2
          obtain ⟨rfl, rfl⟩ := hv2
          simp only [Value.ownBlock, Option.some.injEq] at hk
          subst hk
          rw [hg1] at hc
          simp only [Option.some.injEq, Obj.cells.injEq] at hc
          obtain ⟨rfl, rfl, rfl⟩ := hc
          exact ⟨cur2, hg2, hs2.trans hs1.symm⟩
    · exact ⟨cur, by rw [hg.block k (Array.getElem?_eq_some_iff.1 hc).1 (fun h => hk h.symm)]; exact hc, rfl⟩
/-- Only rows of the type T are touched. -/
def Typ (T : TypeId) (w w' : World) : Prop := ∀ (k : Nat) (cur : Array Value) (e : TypeId) (fz : Nat × Nat), w.heap[k]? = some (Obj.cells cur e fz) → e ≠ T → w'.heap[k]? = w.heap[k]?
theorem Typ.refl (T : TypeId) (w : World) : Typ T w w := fun _ _ _ _ _ _ => rfl
theorem Typ.trans {T : TypeId} {a b c : World} (h1 : Typ T a b) (h2 : Typ T b c) : Typ T a c := fun k cur e fz h hne => by
  have e1 := h1 k cur e fz h hne
  exact (h2 k cur e fz (e1.trans h) hne).trans e1
theorem Typ.set {T : TypeId} {a b : World} (h : Typ T a b) {g off n : Nat} {cur : Array Value} (hg : b.heap[g]? = some (Obj.cells cur T (0, 0))) (v : Value) (_hn : off = n) : Typ T a (b.setCell ⟨g, off, none⟩ v) := by
  refine h.trans fun k cur2 e fz hc hne => ?_
  unfold World.setCell
  simp only
  rw [Array.getElem?_modify, if_neg]
  intro hk
  subst hk
  rw [hg] at hc
  simp only [Option.some.injEq, Obj.cells.injEq] at hc
  exact hne hc.2.1.symm
theorem Typ.of_below {T : TypeId} {a b : World} (h : Below a.heap.size a b) : Typ T a b := fun k _ _ _ hc _ => h.block k (Array.getElem?_eq_some_iff.1 hc).1
/-- A mark's end: the count goes on, only the blocks from lo up to hi are touched, and of these only the rows of one type. -/
def RetMk (T : TypeId) (lo hi : Nat) (bd : Nat) (w : World) (e : Ending) (w' : World) : Prop := ∃ kk : Nat, kk ≤ bd ∧ e = .returned (.int .i64 kk) ∧ Mk lo hi w w' ∧ Typ T w w'
/-- A row of the call's own, below hi. -/
def OwnL (w : World) (lo hi : Nat) (e : TypeId) (size : Nat) (v : Value) (n : Nat) : Prop := OwnX w lo e size v n ∧ ∀ q, v.ownBlock = some q → q < hi
theorem OwnL.mk {lo hi lo2 hi2 : Nat} {a b : World} {e : TypeId} {size n : Nat} {v : Value} (ho : OwnL a lo2 hi2 e size v n) (h : Mk lo hi a b) : OwnL b lo2 hi2 e size v n := ⟨ho.1.mk h, ho.2⟩
theorem OwnL.blk {w : World} {lo hi : Nat} {e : TypeId} {size n c : Nat} {A : Option Addr} (h : OwnL w lo hi e size (.slice A n c) n) (hn : 0 < n) : ∃ g, A = some ⟨g, 0, none⟩ ∧ lo ≤ g ∧ g < hi ∧ (∃ cur : Array Value, w.heap[g]? = some (Obj.cells cur e (0, 0))) ∧ ∀ j, j < n * size → (∃ u, w.cell? ⟨g, j, none⟩ = some u) ∧ w.frozen? ⟨g, j, none⟩ = false := by
  obtain ⟨⟨xs, ho⟩, hq⟩ := h
  rcases ho.2 with ⟨hv, h0⟩ | ⟨g, cap, cur, hv, hg, hgg, _⟩
  · omega
  · simp only [Value.slice.injEq, true_and] at hv
    obtain ⟨rfl, rfl⟩ := hv
    exact ⟨g, rfl, (ho.lt g rfl).1, hq g rfl, ⟨cur, hgg⟩, fun j hj => ⟨own_cell ho hj, ho.frozenAt j⟩⟩
theorem heap_set {w : World} {g off : Nat} {cur : Array Value} {e : TypeId} (h : w.heap[g]? = some (Obj.cells cur e (0, 0))) (v : Value) : ∃ cur' : Array Value, (w.setCell ⟨g, off, none⟩ v).heap[g]? = some (Obj.cells cur' e (0, 0)) := by
  unfold World.setCell
  simp only
  rw [Array.getElem?_modify, if_pos rfl, h]
  exact ⟨_, rfl⟩
/-- What markText hands back. -/
def RetTx (w : World) (e : Ending) (w' : World) : Prop := ∃ s : ByteArray, e = .returned (.string s) ∧ Below w.heap.size w w'
set_option maxHeartbeats 1000000 in
set_option maxRecDepth 100000 in
theorem c_markText (k : Nat) (w : World) (hk : k ≤ 1000000000000000) : Calls Tryz.prog 40 #[.int .i64 k] w (RetTx w) := by
  rcases Nat.eq_zero_or_pos k with h0 | h0
  · have hk1 : ((k : Nat) : Int) ≤ 0 := by omega
    clear h0
    go_enter Tryz.func40, Tryz.ntmps40
    go_wp2
    go_ret
    exact ⟨_, rfl, Below.refl _ _⟩
  have hk1 : ¬ ((k : Nat) : Int) ≤ 0 := by omega
  go_enter Tryz.func40, Tryz.ntmps40
  go_wp2
  go_loopw [0, 3] (fun i s wr => ∃ (j : Nat) (t : ByteArray), j ≤ k ∧ i = .int .i64 j ∧ s = .string t ∧ t.size ≤ k - j ∧ Below w.heap.size w wr) (fun i _ _ => (intOf i).toNat)
  case atStart => exact ⟨k, ⟨#[]⟩, Nat.le_refl _, rfl, rfl, Nat.zero_le _, Below.refl _ _⟩
  case round =>
    obtain ⟨j, t, hj, rfl, rfl, hts, hb⟩ := hrel
    have HB := Lib.hid hb
    clear hb
    by_cases hlt : 0 < j
    · have hj0 : (0 : Int) < (j : Int) := by omega
      have hj1 : (0 : Int) ≤ (j : Int) := by omega
      obtain ⟨r, hrs, hback⟩ : ∃ r : ByteArray, r.size ≤ 1 ∧ (convert 41 9 (.slice (some ⟨wr.heap.size, 0, none⟩) 1 1)).run Tryz.prog (wr.alloc (Obj.cells #[Value.int .u8 (48 + (j : Int) % 10)] 5)) = .ok (.string r) (wr.alloc (Obj.cells #[Value.int .u8 (48 + (j : Int) % 10)] 5)) :=
        ⟨strOfNums [48 + (j : Int) % 10], (by show (strOfNums [48 + (j : Int) % 10]).data.size ≤ 1; simp [strOfNums]), run_convert_bytes_arg _ _ 5 Tryz.underlying41 Tryz.underlying5 _ 0 1 1 [48 + (j : Int) % 10] rfl (fun i hi => by
          obtain rfl : i = 0 := by omega
          go_simp) _ Tryz.underlying9⟩
      have hd1 : (j / 10 : Nat) < j := Nat.div_lt_self hlt (by omega)
      have hd2 : ((j : Int) / 10) = ((j / 10 : Nat) : Int) := by omega
      have hd3 : r.size + t.size ≤ 9223372036854775807 := by omega
      have HD2 := Lib.hid hd2
      clear hd2
      go_wp2
      go_roundw
      case rel => exact ⟨j / 10, r ++ t, by omega, by rw [HD2.out], rfl, by rw [ByteArray.size_append]; omega, below_alloc HB.out _⟩
      case measure => simp [intOf]; omega
    · have hj0 : ¬ (0 : Int) < (j : Int) := by omega
      have hd3 : t.size + 1 ≤ 9223372036854775807 := by omega
      go_wp2
      go_ret
      exact ⟨_, rfl, HB.out⟩
theorem OwnL.of_own {w : World} {lo : Nat} {e : TypeId} {size n : Nat} {v : Value} {xs : List Value} (h : w.ownsRow lo e size v n xs) : OwnL w lo w.heap.size e size v n := ⟨⟨xs, h⟩, fun q hq => (h.lt q hq).2⟩
theorem OwnL.below {w w' : World} {lo hi : Nat} {e : TypeId} {size n : Nat} {v : Value} (h : OwnL w lo hi e size v n) (hb : Below w.heap.size w w') : OwnL w' lo hi e size v n := by
  obtain ⟨⟨xs, ho⟩, hq⟩ := h
  exact ⟨⟨xs, own_below ho hb⟩, hq⟩
/-- The end of a mark that touches rows of several types. -/
def RetMo (lo hi : Nat) (bd : Nat) (w : World) (e : Ending) (w' : World) : Prop := ∃ kk : Nat, kk ≤ bd ∧ e = .returned (.int .i64 kk) ∧ Mk lo hi w w'
set_option maxHeartbeats 1000000 in
set_option maxRecDepth 100000 in
theorem c_markStringS (A : Option Addr) (c n lo hi k : Nat) (kz : Int) (w : World) (hz : kz = (k : Int)) (hk : k ≤ 100000000000000) (hn : n ≤ 1048576) (ho : OwnL w lo hi 9 1 (.slice A n c) n) :
    Calls Tryz.prog 13 #[.slice A n c, .int .i64 kz] w (RetMk 9 lo hi (k + n) w) := by
  subst hz
  have HO := Lib.hid ho
  clear ho
  go_enter Tryz.func13, Tryz.ntmps13
  go_wp2
  go_loopw [1, 5] (fun t i wr => ∃ j kk : Nat, j ≤ n ∧ kk ≤ k + j ∧ i = .int .i64 j ∧ t = .int .i64 kk ∧ Mk lo hi w wr ∧ Typ 9 w wr) (fun _ i _ => n - (intOf i).toNat)
  case atStart => exact ⟨0, k, Nat.zero_le _, by omega, rfl, rfl, Mk.refl _ _ _, Typ.refl _ _⟩
  case round =>
    obtain ⟨j, kk, hj, hkk, rfl, rfl, hm, ht⟩ := hrel
    by_cases hlt : j < n
    · obtain ⟨g, rfl, hg1, hg2, _, _⟩ := (HO.out.mk hm).blk (by omega)
      have HM := Lib.hid hm
      have HT := Lib.hid ht
      clear hm ht
      go_wp2_with (fail)
      refine (c_markText kk _ (by omega)).mono ?_
      rintro e w2 ⟨s, rfl, hb⟩
      have HM2 := Lib.hid (HM.out.trans (Mk.of_below (lo := lo) (hi := hi) hb))
      have HT2 := Lib.hid (HT.out.trans (Typ.of_below (T := 9) hb))
      clear hb
      obtain ⟨g', hgg, _, _, ⟨cur, hcur⟩, hce⟩ := (HO.out.mk HM2.out).blk (by omega)
      simp only [Option.some.injEq, Addr.mk.injEq, and_true] at hgg
      subst hgg
      obtain ⟨⟨o0, e0⟩, f0⟩ := hce j (by omega)
      have HM3 := Lib.hid (HM2.out.setCell (p := ⟨g, j, none⟩) (.string s) hg1 hg2)
      have HT3 := Lib.hid (HT2.out.set (off := j) (n := j) hcur (.string s) rfl)
      clear hce hcur HM2 HT2
      go_wp2
      go_roundw
      case rel => exact ⟨j + 1, kk + 1, by omega, by omega, by go_num, by go_num, HM3.out, HT3.out⟩
      case measure => simp [intOf]; omega
    · obtain rfl : j = n := by omega
      have HM := Lib.hid hm
      have HT := Lib.hid ht
      clear hm ht
      go_wp2
      go_ret
      exact ⟨kk, hkk, rfl, HM.out, HT.out⟩
set_option maxHeartbeats 1000000 in
set_option maxRecDepth 100000 in
theorem c_markTermS (A : Option Addr) (c n lo hi k : Nat) (kz : Int) (w : World) (hz : kz = (k : Int)) (hk : k ≤ 100000000000000) (hn : n ≤ 1048576) (ho : OwnL w lo hi 109 3 (.slice A n c) n) :
    Calls Tryz.prog 70 #[.slice A n c, .int .i64 kz] w (RetMk 109 lo hi (k + 3 * n) w) := by
  subst hz
  have HO := Lib.hid ho
  clear ho
  go_enter Tryz.func70, Tryz.ntmps70
  go_wp2
  go_loopw [1, 5] (fun t i wr => ∃ j kk : Nat, j ≤ n ∧ kk ≤ k + 3 * j ∧ i = .int .i64 j ∧ t = .int .i64 kk ∧ Mk lo hi w wr ∧ Typ 109 w wr) (fun _ i _ => n - (intOf i).toNat)
  case atStart => exact ⟨0, k, Nat.zero_le _, by omega, rfl, rfl, Mk.refl _ _ _, Typ.refl _ _⟩
  case round =>
    obtain ⟨j, kk, hj, hkk, rfl, rfl, hm, ht⟩ := hrel
    by_cases hlt : j < n
    · obtain ⟨g, rfl, hg1, hg2, ⟨cur, hcur⟩, hc⟩ := (HO.out.mk hm).blk (by omega)
      obtain ⟨⟨o0, e0⟩, f0⟩ := hc (j * 3) (by omega)
      have HM1 := Lib.hid (hm.setCell (p := ⟨g, j * 3, none⟩) (.int .i64 kk) hg1 hg2)
      have HT1 := Lib.hid (ht.set (off := j * 3) (n := j * 3) hcur (.int .i64 kk) rfl)
      clear hc hm ht hcur
      have hk0 : (0 : Int) ≤ (kk : Int) := by omega
      go_upto_region 6 with (fail)
      generalize wr.setCell ⟨g, j * 3, none⟩ (.int .i64 kk) = w1 at *
      clear o0 e0 f0
      go_wp2_with (fail)
      refine (c_markText (kk + 1) _ (by omega)).mono ?_
      rintro e w2 ⟨s, rfl, hb⟩
      have HM2 := Lib.hid (HM1.out.trans (Mk.of_below (lo := lo) (hi := hi) hb))
      have HT2 := Lib.hid (HT1.out.trans (Typ.of_below (T := 109) hb))
      clear hb
      obtain ⟨g', hgg, _, _, ⟨cur, hcur⟩, hce⟩ := (HO.out.mk HM2.out).blk (by omega)
      simp only [Option.some.injEq, Addr.mk.injEq, and_true] at hgg
      subst hgg
      obtain ⟨⟨o1, e1⟩, f1⟩ := hce (j * 3 + 1) (by omega)
      obtain ⟨⟨o2, e2⟩, f2⟩ := hce (j * 3 + 2) (by omega)
      have HM3 := Lib.hid (fun v2 => (HM2.out.setCell (p := ⟨g, j * 3 + 1, none⟩) (.string s) hg1 hg2).setCell (p := ⟨g, j * 3 + 2, none⟩) v2 hg1 hg2)
      have HT3 := Lib.hid (fun v2 => show Typ 109 w ((w2.setCell ⟨g, j * 3 + 1, none⟩ (.string s)).setCell ⟨g, j * 3 + 2, none⟩ v2) by
        obtain ⟨c1, h1⟩ := heap_set (off := j * 3 + 1) hcur (.string s)
        exact (HT2.out.set hcur (.string s) rfl).set h1 v2 rfl)
      clear hce hcur HM2 HT2 HM1 HT1
      go_wp2
      go_roundw
      case rel => exact ⟨j + 1, kk + 3, by omega, by omega, by go_num, by go_num, HM3.out _, HT3.out _⟩
      case measure => simp [intOf]; omega
    · obtain rfl : j = n := by omega
      have HM := Lib.hid hm
      have HT := Lib.hid ht
      clear hm ht
      go_wp2
      go_ret
      exact ⟨kk, hkk, rfl, HM.out, HT.out⟩
end Go.Proofs.YtackekfjalaacaaGreatDoor
