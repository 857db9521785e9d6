/- Marks of a model: what they touch. No condition but the sizes. -/
import Derived.Test.YticlpjljcedfmaaIntsM
import Derived.Test.YticlpjljcedfmaaMTo
import Derived.Laws.BytesArg
namespace Go.Proofs.Yticlpjljcedfmaa
open Go.RowKit

/-- Only rows of the type T are touched. -/
def Typ (T : TypeId) (w w' : World) : Prop := ∀ (k : Nat) (cur : Array Value) (e : TypeId) (fz : Nat × Nat), w.heap[k]? = some (Obj.cells cur e fz) → e ≠ T → w'.heap[k]? = w.heap[k]?
theorem Typ.refl (T : TypeId) (w : World) : Typ T w w := fun _ _ _ _ _ _ => rfl
theorem Typ.trans {T : TypeId} {a b c : World} (h1 : Typ T a b) (h2 : Typ T b c) : Typ T a c := fun k cur e fz h hne => by
  have e1 := h1 k cur e fz h hne
  exact (h2 k cur e fz (e1.trans h) hne).trans e1
theorem Typ.set {T : TypeId} {a b : World} (h : Typ T a b) {g off n : Nat} {cur : Array Value} (hg : b.heap[g]? = some (Obj.cells cur T (0, 0))) (v : Value) (_hn : off = n) : Typ T a (b.setCell ⟨g, off, none⟩ v) := by
  refine h.trans fun k cur2 e fz hc hne => ?_
  unfold World.setCell
  simp only
  rw [Array.getElem?_modify, if_neg]
  intro hk
  subst hk
  rw [hg] at hc
  simp only [Option.some.injEq, Obj.cells.injEq] at hc
  exact hne hc.2.1.symm
theorem Typ.of_below {T : TypeId} {a b : World} (h : Below a.heap.size a b) : Typ T a b := fun k _ _ _ hc _ => h.block k (Array.getElem?_eq_some_iff.1 hc).1
/-- A mark's end: the count goes on, only the blocks from lo up to hi are touched, and of these only the rows of one type. -/
def RetMk (T : TypeId) (lo hi : Nat) (bd : Nat) (w : World) (e : Ending) (w' : World) : Prop := ∃ kk : Nat, kk ≤ bd ∧ e = .returned (.int .i64 kk) ∧ Mk lo hi w w' ∧ Typ T w w'
/-- A row of the call's own, below hi. -/
def OwnL (w : World) (lo hi : Nat) (e : TypeId) (size : Nat) (v : Value) (n : Nat) : Prop := OwnX w lo e size v n ∧ ∀ q, v.ownBlock = some q → q < hi
theorem OwnL.mk {lo hi lo2 hi2 : Nat} {a b : World} {e : TypeId} {size n : Nat} {v : Value} (ho : OwnL a lo2 hi2 e size v n) (h : Mk lo hi a b) : OwnL b lo2 hi2 e size v n := ⟨ho.1.mk h, ho.2⟩
theorem OwnL.blk {w : World} {lo hi : Nat} {e : TypeId} {size n c : Nat} {A : Option Addr} (h : OwnL w lo hi e size (.slice A n c) n) (hn : 0 < n) : ∃ g, A = some ⟨g, 0, none⟩ ∧ lo ≤ g ∧ g < hi ∧ (∃ cur : Array Value, w.heap[g]? = some (Obj.cells cur e (0, 0))) ∧ ∀ j, j < n * size → (∃ u, w.cell? ⟨g, j, none⟩ = some u) ∧ w.frozen? ⟨g, j, none⟩ = false := by
  obtain ⟨⟨xs, ho⟩, hq⟩ := h
  rcases ho.2 with ⟨hv, h0⟩ | ⟨g, cap, cur, hv, hg, hgg, _⟩
  · omega
  · simp only [Value.slice.injEq, true_and] at hv
    obtain ⟨rfl, rfl⟩ := hv
    exact ⟨g, rfl, (ho.lt g rfl).1, hq g rfl, ⟨cur, hgg⟩, fun j hj => ⟨own_cell ho hj, ho.frozenAt j⟩⟩
theorem heap_set {w : World} {g off : Nat} {cur : Array Value} {e : TypeId} (h : w.heap[g]? = some (Obj.cells cur e (0, 0))) (v : Value) : ∃ cur' : Array Value, (w.setCell ⟨g, off, none⟩ v).heap[g]? = some (Obj.cells cur' e (0, 0)) := by
  unfold World.setCell
  simp only
  rw [Array.getElem?_modify, if_pos rfl, h]
  exact ⟨_, rfl⟩
set_option maxHeartbeats 1000000 in
set_option maxRecDepth 100000 in
theorem c_markTestS (A : Option Addr) (c n lo hi k : Nat) (w : World) (hk : k ≤ 100000000000000) (hn : n ≤ 1048576) (ho : OwnL w lo hi 77 3 (.slice A n c) n) :
    Calls Try.prog 85 #[.slice A n c, .int .i64 k] w (RetMk 77 lo hi (k + 3 * n) w) := by
  have HO := Lib.hid ho
  clear ho
  go_enter Try.func85, Try.ntmps85
  go_wp2
  go_loopw [1, 5] (fun t i wr => ∃ j kk : Nat, j ≤ n ∧ kk ≤ k + 3 * j ∧ i = .int .i64 j ∧ t = .int .i64 kk ∧ Mk lo hi w wr ∧ Typ 77 w wr) (fun _ i _ => n - (intOf i).toNat)
  case atStart => exact ⟨0, k, Nat.zero_le _, by omega, rfl, rfl, Mk.refl _ _ _, Typ.refl _ _⟩
  case round =>
    obtain ⟨j, kk, hj, hkk, rfl, rfl, hm, ht⟩ := hrel
    by_cases hlt : j < n
    · obtain ⟨g, rfl, hg1, hg2, ⟨cur, hcur⟩, hc⟩ := (HO.out.mk hm).blk (by omega)
      obtain ⟨⟨o0, e0⟩, f0⟩ := hc (j * 3) (by omega)
      obtain ⟨⟨o1, e1⟩, f1⟩ := hc (j * 3 + 1) (by omega)
      obtain ⟨⟨o2, e2⟩, f2⟩ := hc (j * 3 + 2) (by omega)
      have HM := Lib.hid (fun v0 v1 v2 => ((hm.setCell (p := ⟨g, j * 3, none⟩) v0 hg1 hg2).setCell (p := ⟨g, j * 3 + 1, none⟩) v1 hg1 hg2).setCell (p := ⟨g, j * 3 + 2, none⟩) v2 hg1 hg2)
      have HT := Lib.hid (fun v0 v1 v2 => show Typ 77 w (((wr.setCell ⟨g, j * 3, none⟩ v0).setCell ⟨g, j * 3 + 1, none⟩ v1).setCell ⟨g, j * 3 + 2, none⟩ v2) by
        obtain ⟨c1, h1⟩ := heap_set (off := j * 3) hcur v0
        obtain ⟨c2, h2⟩ := heap_set (off := j * 3 + 1) h1 v1
        exact ((ht.set hcur v0 rfl).set h1 v1 rfl).set h2 v2 rfl)
      clear hc hm ht hcur
      have hk0 : (0 : Int) ≤ (kk : Int) := by omega
      go_wp2
      go_roundw
      case rel => exact ⟨j + 1, kk + 3, by omega, by omega, by go_num, by go_num, HM.out _ _ _, HT.out _ _ _⟩
      case measure => simp [intOf]; omega
    · obtain rfl : j = n := by omega
      have HM := Lib.hid hm
      have HT := Lib.hid ht
      clear hm ht
      go_wp2
      go_ret
      exact ⟨kk, hkk, rfl, HM.out, HT.out⟩
set_option maxHeartbeats 1000000 in
set_option maxRecDepth 100000 in
theorem c_markAssignS (A : Option Addr) (c n lo hi k : Nat) (w : World) (hk : k ≤ 100000000000000) (hn : n ≤ 1048576) (ho : OwnL w lo hi 80 2 (.slice A n c) n) :
    Calls Try.prog 86 #[.slice A n c, .int .i64 k] w (RetMk 80 lo hi (k + 2 * n) w) := by
  have HO := Lib.hid ho
  clear ho
  go_enter Try.func86, Try.ntmps86
  go_wp2
  go_loopw [1, 5] (fun t i wr => ∃ j kk : Nat, j ≤ n ∧ kk ≤ k + 2 * j ∧ i = .int .i64 j ∧ t = .int .i64 kk ∧ Mk lo hi w wr ∧ Typ 80 w wr) (fun _ i _ => n - (intOf i).toNat)
  case atStart => exact ⟨0, k, Nat.zero_le _, by omega, rfl, rfl, Mk.refl _ _ _, Typ.refl _ _⟩
  case round =>
    obtain ⟨j, kk, hj, hkk, rfl, rfl, hm, ht⟩ := hrel
    by_cases hlt : j < n
    · obtain ⟨g, rfl, hg1, hg2, ⟨cur, hcur⟩, hc⟩ := (HO.out.mk hm).blk (by omega)
      obtain ⟨⟨o0, e0⟩, f0⟩ := hc (j * 2) (by omega)
      obtain ⟨⟨o1, e1⟩, f1⟩ := hc (j * 2 + 1) (by omega)
      have HM := Lib.hid (fun v0 v1 => (hm.setCell (p := ⟨g, j * 2, none⟩) v0 hg1 hg2).setCell (p := ⟨g, j * 2 + 1, none⟩) v1 hg1 hg2)
      have HT := Lib.hid (fun v0 v1 => show Typ 80 w ((wr.setCell ⟨g, j * 2, none⟩ v0).setCell ⟨g, j * 2 + 1, none⟩ v1) by
        obtain ⟨c1, h1⟩ := heap_set (off := j * 2) hcur v0
        exact (ht.set hcur v0 rfl).set h1 v1 rfl)
      clear hc hm ht hcur
      have hk0 : (0 : Int) ≤ (kk : Int) := by omega
      go_wp2
      go_roundw
      case rel => exact ⟨j + 1, kk + 2, by omega, by omega, by go_num, by go_num, HM.out _ _, HT.out _ _⟩
      case measure => simp [intOf]; omega
    · obtain rfl : j = n := by omega
      have HM := Lib.hid hm
      have HT := Lib.hid ht
      clear hm ht
      go_wp2
      go_ret
      exact ⟨kk, hkk, rfl, HM.out, HT.out⟩
/-- What markText hands back. -/
def RetTx (w : World) (e : Ending) (w' : World) : Prop := ∃ s : ByteArray, e = .returned (.string s) ∧ Below w.heap.size w w'
set_option maxHeartbeats 1000000 in
set_option maxRecDepth 100000 in
theorem c_markText (k : Nat) (w : World) (hk : k ≤ 1000000000000000) : Calls Try.prog 84 #[.int .i64 k] w (RetTx w) := by
  rcases Nat.eq_zero_or_pos k with h0 | h0
  · have hk1 : ((k : Nat) : Int) ≤ 0 := by omega
    clear h0
    go_enter Try.func84, Try.ntmps84
    go_wp2
    go_ret
    exact ⟨_, rfl, Below.refl _ _⟩
  have hk1 : ¬ ((k : Nat) : Int) ≤ 0 := by omega
  go_enter Try.func84, Try.ntmps84
  go_wp2
  go_loopw [0, 3] (fun i s wr => ∃ (j : Nat) (t : ByteArray), j ≤ k ∧ i = .int .i64 j ∧ s = .string t ∧ t.size ≤ k - j ∧ Below w.heap.size w wr) (fun i _ _ => (intOf i).toNat)
  case atStart => exact ⟨k, ⟨#[]⟩, Nat.le_refl _, rfl, rfl, Nat.zero_le _, Below.refl _ _⟩
  case round =>
    obtain ⟨j, t, hj, rfl, rfl, hts, hb⟩ := hrel
    have HB := Lib.hid hb
    clear hb
    by_cases hlt : 0 < j
    · have hj0 : (0 : Int) < (j : Int) := by omega
      have hj1 : (0 : Int) ≤ (j : Int) := by omega
      obtain ⟨r, hrs, hback⟩ : ∃ r : ByteArray, r.size ≤ 1 ∧ (convert 113 9 (.slice (some ⟨wr.heap.size, 0, none⟩) 1 1)).run Try.prog (wr.alloc (Obj.cells #[Value.int .u8 (48 + (j : Int) % 10)] 5)) = .ok (.string r) (wr.alloc (Obj.cells #[Value.int .u8 (48 + (j : Int) % 10)] 5)) :=
        ⟨strOfNums [48 + (j : Int) % 10], (by show (strOfNums [48 + (j : Int) % 10]).data.size ≤ 1; simp [strOfNums]), run_convert_bytes_arg _ _ 5 Try.underlying113 Try.underlying5 _ 0 1 1 [48 + (j : Int) % 10] rfl (fun i hi => by
          obtain rfl : i = 0 := by omega
          go_simp) _ Try.underlying9⟩
      have hd1 : (j / 10 : Nat) < j := Nat.div_lt_self hlt (by omega)
      have hd2 : ((j : Int) / 10) = ((j / 10 : Nat) : Int) := by omega
      have hd3 : r.size + t.size ≤ 9223372036854775807 := by omega
      have HD2 := Lib.hid hd2
      clear hd2
      go_wp2
      go_roundw
      case rel => exact ⟨j / 10, r ++ t, by omega, by rw [HD2.out], rfl, by rw [ByteArray.size_append]; omega, below_alloc HB.out _⟩
      case measure => simp [intOf]; omega
    · have hj0 : ¬ (0 : Int) < (j : Int) := by omega
      have hd3 : t.size + 1 ≤ 9223372036854775807 := by omega
      go_wp2
      go_ret
      exact ⟨_, rfl, HB.out⟩
end Go.Proofs.Yticlpjljcedfmaa
