/- Contracts and helpers (joined texts, part 5). The conditions stand at each theorem. -/
import Derived.Test.YtdjehopcpjkgjaaH4
import Derived.Test.YtdjehopcpjkgjaaH0
import Derived.Laws.BytesArg
import Derived.Deep.RegionLaw
import Derived.Lib.SliceRun
import Derived.Laws.OwnMore
import Derived.Shelf.RegionOpenPlain
import Derived.Test.YtdjehopcpjkgjaaH1
/- EnabledRules, on both sides. Condition: the lengths are those that the laws let by. -/
namespace Go.Proofs.Ytdjehopcpjkgjaa
open Go.RowKit

/-- What is handed back: a list of the call's own, and a code. -/
def RetIC (n : Nat) (zs : List Int) (c : Int) (w : World) (e : Ending) (w' : World) : Prop :=
  ∃ A cap, e = .returned (.tuple #[.slice A n cap, .int .i64 c]) ∧ w'.ownsRow w.heap.size 2 1 (.slice A n cap) n (ints zs) ∧ Below w.heap.size w w'
def erL (m : Mdl) (vs : List Int) : List Int := if mdB m && stB m.sz vs then enL vs m.rs else []
theorem retIC_nil {n : Nat} {zs : List Int} {c : Int} {w w' : World} (h : zs = []) (hn : n = zs.length) (hb : Below w.heap.size w w') : RetIC n zs c w (.returned (.tuple #[.slice none 0 0, .int .i64 c])) w' := by
  subst h
  subst hn
  exact ⟨none, 0, rfl, World.ownsRow_nil _ _ _ _, hb⟩
set_option maxHeartbeats 1000000 in
set_option maxRecDepth 100000 in
theorem c_EnabledRules (m : Mdl) (az ax ar : Option Addr) (cz cs cr : Nat) (A : Option Addr) (c : Nat) (vs : List Int) (w : World) (hok : MOk m) (hl : vs.length ≤ 1048576) (h : Md w az ax ar m) (hv : Rd w A (ints vs)) :
    Calls Try.prog 41 #[mv m az ax ar cz cs cr, .slice A vs.length c] w (RetIC (erL m vs).length (erL m vs) (stC m vs) w) := by
  have HC := Lib.hid (fun w' h hv => c_stateCode m az ax ar cz cs cr A c vs w' hok hl h hv)
  have HEN := Lib.hid (fun hgs w' h hv => c_enabled m az ax ar cz cs cr A c vs w' hok.1.2.2.1 hl hgs h hv)
  have HG := Lib.hid (fun h1 h2 => gs_of (m := m) (vs := vs) h1 h2 hok)
  have HSC := Lib.hid (show stC m vs = if mdB m then (if stB m.sz vs then 0 else 2) else 1 from rfl)
  have HER := Lib.hid (show erL m vs = if mdB m && stB m.sz vs then enL vs m.rs else [] from rfl)
  have HM := Lib.hid h
  have HV := Lib.hid hv
  generalize stC m vs = C at *
  generalize erL m vs = L at *
  generalize enL vs m.rs = L0 at *
  clear h hv hok
  rcases h1 : (mdB m && stB m.sz vs) with _ | _
  · have hC0 : C = 1 ∨ C = 2 := by
      have := HSC.out
      rcases hm : mdB m with _ | _
      · rw [hm] at this; left; simpa using this
      · rw [hm] at h1 this
        rw [Bool.true_and] at h1
        rw [h1] at this
        right; simpa using this
    have hL : L = [] := by have := HER.out; rw [h1] at this; simpa using this
    have HL := Lib.hid hL
    clear hL HEN HG HSC HER h1
    dsimp only [mv] at *
    generalize m.sz.length = sn at *
    generalize m.st.length = tn at *
    generalize m.rs.length = rn at *
    generalize vs.length = vn at *
    rcases hC0 with rfl | rfl
    all_goals
      go_enter Try.func41, Try.ntmps41
      go_wp2_with (fail)
      refine (HC.out _ (HM.out.alloc _) (HV.out.alloc _)).mono ?_
      rintro e w1 ⟨rfl, hb⟩
      have HB := Lib.hid (below_chain (by (repeat (first | exact Below.refl _ _ | assumption | refine below_alloc ?_ _ | refine below_drewN ?_ _ | refine below_set ?_ _ (by simp; try omega) | refine Below.drew ?_)) : Below w.heap.size w _) hb)
      clear hb
      go_wp2
      go_ret2
      exact retIC_nil HL.out rfl HB.out
  · have h2 := h1
    rw [Bool.and_eq_true] at h2
    have e := HSC.out
    rw [h2.1, h2.2] at e
    simp only [if_true] at e
    have e2 := HER.out
    rw [h1] at e2
    simp only [if_true] at e2
    have HGS := Lib.hid (HG.out h2.1 h2.2)
    have HEN2 := Lib.hid (fun w' h hv => HEN.out HGS.out w' h hv)
    subst e e2
    clear h1 h2 HSC HER HEN HG HGS
    dsimp only [mv] at *
    generalize m.sz.length = sn at *
    generalize m.st.length = tn at *
    generalize m.rs.length = rn at *
    generalize vs.length = vn at *
    go_enter Try.func41, Try.ntmps41
    go_wp2_with (fail)
    refine (HC.out _ (HM.out.alloc _) (HV.out.alloc _)).mono ?_
    rintro e w1 ⟨rfl, hb⟩
    have k0 : w1.cell? ⟨w.heap.size, 0, none⟩ = some (.slice az sn cz) := cell_later hb (by go_simp)
    have k1 : w1.cell? ⟨w.heap.size, 1, none⟩ = some (.slice ax tn cs) := cell_later hb (by go_simp)
    have k2 : w1.cell? ⟨w.heap.size, 2, none⟩ = some (.slice ar rn cr) := cell_later hb (by go_simp)
    have HB := Lib.hid (below_chain (by (repeat (first | exact Below.refl _ _ | assumption | refine below_alloc ?_ _ | refine below_drewN ?_ _ | refine below_set ?_ _ (by simp; try omega) | refine Below.drew ?_)) : Below w.heap.size w _) hb)
    clear hb
    go_wp2_with (fail)
    refine (HEN2.out _ (HM.out.below HB.out) (HV.out.below HB.out)).mono ?_
    rintro e w2 ⟨A1, c1, rfl, ho, hb⟩
    have HO := Lib.hid (own_mono ho (HB.out.size))
    have HB2 := Lib.hid (below_chain HB.out hb)
    clear ho hb
    go_wp2
    go_ret2
    exact ⟨A1, c1, rfl, HO.out, HB2.out⟩
set_option maxHeartbeats 1000000 in
set_option maxRecDepth 100000 in
theorem c_sEnabledRules (m : Mdl) (az ax ar : Option Addr) (cz cs cr : Nat) (A : Option Addr) (c : Nat) (vs : List Int) (w : World) (hok : MOk m) (hl : vs.length ≤ 1048576) (h : Md w az ax ar m) (hv : Rd w A (ints vs)) :
    Calls Try.prog 42 #[mv m az ax ar cz cs cr, .slice A vs.length c] w (RetIC (erL m vs).length (erL m vs) (stC m vs) w) := by
  have HC := Lib.hid (fun w' h hv => c_l20Code m az ax ar cz cs cr A c vs w' hok hl h hv)
  have HEN := Lib.hid (fun hgs w' h hv => c_l20Enabled m az ax ar cz cs cr A c vs w' hok.1.2.2.1 hl hgs h hv)
  have HG := Lib.hid (fun h1 h2 => gs_of (m := m) (vs := vs) h1 h2 hok)
  have HSC := Lib.hid (show stC m vs = if mdB m then (if stB m.sz vs then 0 else 2) else 1 from rfl)
  have HER := Lib.hid (show erL m vs = if mdB m && stB m.sz vs then enL vs m.rs else [] from rfl)
  have HM := Lib.hid h
  have HV := Lib.hid hv
  generalize stC m vs = C at *
  generalize erL m vs = L at *
  generalize enL vs m.rs = L0 at *
  clear h hv hok
  rcases h1 : (mdB m && stB m.sz vs) with _ | _
  · have hC0 : C = 1 ∨ C = 2 := by
      have := HSC.out
      rcases hm : mdB m with _ | _
      · rw [hm] at this; left; simpa using this
      · rw [hm] at h1 this
        rw [Bool.true_and] at h1
        rw [h1] at this
        right; simpa using this
    have hL : L = [] := by have := HER.out; rw [h1] at this; simpa using this
    have HL := Lib.hid hL
    clear hL HEN HG HSC HER h1
    dsimp only [mv] at *
    generalize m.sz.length = sn at *
    generalize m.st.length = tn at *
    generalize m.rs.length = rn at *
    generalize vs.length = vn at *
    rcases hC0 with rfl | rfl
    all_goals
      go_enter Try.func42, Try.ntmps42
      go_wp2_with (fail)
      refine (HC.out _ (HM.out.alloc _) (HV.out.alloc _)).mono ?_
      rintro e w1 ⟨rfl, hb⟩
      have HB := Lib.hid (below_chain (by (repeat (first | exact Below.refl _ _ | assumption | refine below_alloc ?_ _ | refine below_drewN ?_ _ | refine below_set ?_ _ (by simp; try omega) | refine Below.drew ?_)) : Below w.heap.size w _) hb)
      clear hb
      go_wp2
      go_ret2
      exact retIC_nil HL.out rfl HB.out
  · have h2 := h1
    rw [Bool.and_eq_true] at h2
    have e := HSC.out
    rw [h2.1, h2.2] at e
    simp only [if_true] at e
    have e2 := HER.out
    rw [h1] at e2
    simp only [if_true] at e2
    have HGS := Lib.hid (HG.out h2.1 h2.2)
    have HEN2 := Lib.hid (fun w' h hv => HEN.out HGS.out w' h hv)
    subst e e2
    clear h1 h2 HSC HER HEN HG HGS
    dsimp only [mv] at *
    generalize m.sz.length = sn at *
    generalize m.st.length = tn at *
    generalize m.rs.length = rn at *
    generalize vs.length = vn at *
    go_enter Try.func42, Try.ntmps42
    go_wp2_with (fail)
    refine (HC.out _ (HM.out.alloc _) (HV.out.alloc _)).mono ?_
    rintro e w1 ⟨rfl, hb⟩
    have k0 : w1.cell? ⟨w.heap.size, 0, none⟩ = some (.slice az sn cz) := cell_later hb (by go_simp)
    have k1 : w1.cell? ⟨w.heap.size, 1, none⟩ = some (.slice ax tn cs) := cell_later hb (by go_simp)
    have k2 : w1.cell? ⟨w.heap.size, 2, none⟩ = some (.slice ar rn cr) := cell_later hb (by go_simp)
    have HB := Lib.hid (below_chain (by (repeat (first | exact Below.refl _ _ | assumption | refine below_alloc ?_ _ | refine below_drewN ?_ _ | refine below_set ?_ _ (by simp; try omega) | refine Below.drew ?_)) : Below w.heap.size w _) hb)
    clear hb
    go_wp2_with (fail)
    refine (HEN2.out _ (HM.out.below HB.out) (HV.out.below HB.out)).mono ?_
    rintro e w2 ⟨A1, c1, rfl, ho, hb⟩
    have HO := Lib.hid (own_mono ho (HB.out.size))
    have HB2 := Lib.hid (below_chain HB.out hb)
    clear ho hb
    go_wp2
    go_ret2
    exact ⟨A1, c1, rfl, HO.out, HB2.out⟩
end Go.Proofs.Ytdjehopcpjkgjaa

/- Marks of a model: what they touch. No condition but the sizes. -/
namespace Go.Proofs.Ytdjehopcpjkgjaa
open Go.RowKit

/-- Only rows of the type T are touched. -/
def Typ (T : TypeId) (w w' : World) : Prop := ∀ (k : Nat) (cur : Array Value) (e : TypeId) (fz : Nat × Nat), w.heap[k]? = some (Obj.cells cur e fz) → e ≠ T → w'.heap[k]? = w.heap[k]?
theorem Typ.refl (T : TypeId) (w : World) : Typ T w w := fun _ _ _ _ _ _ => rfl
theorem Typ.trans {T : TypeId} {a b c : World} (h1 : Typ T a b) (h2 : Typ T b c) : Typ T a c := fun k cur e fz h hne => by
  have e1 := h1 k cur e fz h hne
  exact (h2 k cur e fz (e1.trans h) hne).trans e1
theorem Typ.set {T : TypeId} {a b : World} (h : Typ T a b) {g off n : Nat} {cur : Array Value} (hg : b.heap[g]? = some (Obj.cells cur T (0, 0))) (v : Value) (_hn : off = n) : Typ T a (b.setCell ⟨g, off, none⟩ v) := by
  refine h.trans fun k cur2 e fz hc hne => ?_
  unfold World.setCell
  simp only
  rw [Array.getElem?_modify, if_neg]
  intro hk
  subst hk
  rw [hg] at hc
  simp only [Option.some.injEq, Obj.cells.injEq] at hc
  exact hne hc.2.1.symm
theorem Typ.of_below {T : TypeId} {a b : World} (h : Below a.heap.size a b) : Typ T a b := fun k _ _ _ hc _ => h.block k (Array.getElem?_eq_some_iff.1 hc).1
/-- A mark's end: the count goes on, only the blocks from lo up to hi are touched, and of these only the rows of one type. -/
def RetMk (T : TypeId) (lo hi : Nat) (bd : Nat) (w : World) (e : Ending) (w' : World) : Prop := ∃ kk : Nat, kk ≤ bd ∧ e = .returned (.int .i64 kk) ∧ Mk lo hi w w' ∧ Typ T w w'
/-- A row of the call's own, below hi. -/
def OwnL (w : World) (lo hi : Nat) (e : TypeId) (size : Nat) (v : Value) (n : Nat) : Prop := OwnX w lo e size v n ∧ ∀ q, v.ownBlock = some q → q < hi
theorem OwnL.mk {lo hi lo2 hi2 : Nat} {a b : World} {e : TypeId} {size n : Nat} {v : Value} (ho : OwnL a lo2 hi2 e size v n) (h : Mk lo hi a b) : OwnL b lo2 hi2 e size v n := ⟨ho.1.mk h, ho.2⟩
theorem OwnL.blk {w : World} {lo hi : Nat} {e : TypeId} {size n c : Nat} {A : Option Addr} (h : OwnL w lo hi e size (.slice A n c) n) (hn : 0 < n) : ∃ g, A = some ⟨g, 0, none⟩ ∧ lo ≤ g ∧ g < hi ∧ (∃ cur : Array Value, w.heap[g]? = some (Obj.cells cur e (0, 0))) ∧ ∀ j, j < n * size → (∃ u, w.cell? ⟨g, j, none⟩ = some u) ∧ w.frozen? ⟨g, j, none⟩ = false := by
  obtain ⟨⟨xs, ho⟩, hq⟩ := h
  rcases ho.2 with ⟨hv, h0⟩ | ⟨g, cap, cur, hv, hg, hgg, _⟩
  · omega
  · simp only [Value.slice.injEq, true_and] at hv
    obtain ⟨rfl, rfl⟩ := hv
    exact ⟨g, rfl, (ho.lt g rfl).1, hq g rfl, ⟨cur, hgg⟩, fun j hj => ⟨own_cell ho hj, ho.frozenAt j⟩⟩
theorem heap_set {w : World} {g off : Nat} {cur : Array Value} {e : TypeId} (h : w.heap[g]? = some (Obj.cells cur e (0, 0))) (v : Value) : ∃ cur' : Array Value, (w.setCell ⟨g, off, none⟩ v).heap[g]? = some (Obj.cells cur' e (0, 0)) := by
  unfold World.setCell
  simp only
  rw [Array.getElem?_modify, if_pos rfl, h]
  exact ⟨_, rfl⟩
set_option maxHeartbeats 1000000 in
set_option maxRecDepth 100000 in
theorem c_markTestS (A : Option Addr) (c n lo hi k : Nat) (w : World) (hk : k ≤ 100000000000000) (hn : n ≤ 1048576) (ho : OwnL w lo hi 96 3 (.slice A n c) n) :
    Calls Try.prog 35 #[.slice A n c, .int .i64 k] w (RetMk 96 lo hi (k + 3 * n) w) := by
  have HO := Lib.hid ho
  clear ho
  go_enter Try.func35, Try.ntmps35
  go_wp2
  go_loopw [1, 5] (fun t i wr => ∃ j kk : Nat, j ≤ n ∧ kk ≤ k + 3 * j ∧ i = .int .i64 j ∧ t = .int .i64 kk ∧ Mk lo hi w wr ∧ Typ 96 w wr) (fun _ i _ => n - (intOf i).toNat)
  case atStart => exact ⟨0, k, Nat.zero_le _, by omega, rfl, rfl, Mk.refl _ _ _, Typ.refl _ _⟩
  case round =>
    obtain ⟨j, kk, hj, hkk, rfl, rfl, hm, ht⟩ := hrel
    by_cases hlt : j < n
    · obtain ⟨g, rfl, hg1, hg2, ⟨cur, hcur⟩, hc⟩ := (HO.out.mk hm).blk (by omega)
      obtain ⟨⟨o0, e0⟩, f0⟩ := hc (j * 3) (by omega)
      obtain ⟨⟨o1, e1⟩, f1⟩ := hc (j * 3 + 1) (by omega)
      obtain ⟨⟨o2, e2⟩, f2⟩ := hc (j * 3 + 2) (by omega)
      have HM := Lib.hid (fun v0 v1 v2 => ((hm.setCell (p := ⟨g, j * 3, none⟩) v0 hg1 hg2).setCell (p := ⟨g, j * 3 + 1, none⟩) v1 hg1 hg2).setCell (p := ⟨g, j * 3 + 2, none⟩) v2 hg1 hg2)
      have HT := Lib.hid (fun v0 v1 v2 => show Typ 96 w (((wr.setCell ⟨g, j * 3, none⟩ v0).setCell ⟨g, j * 3 + 1, none⟩ v1).setCell ⟨g, j * 3 + 2, none⟩ v2) by
        obtain ⟨c1, h1⟩ := heap_set (off := j * 3) hcur v0
        obtain ⟨c2, h2⟩ := heap_set (off := j * 3 + 1) h1 v1
        exact ((ht.set hcur v0 rfl).set h1 v1 rfl).set h2 v2 rfl)
      clear hc hm ht hcur
      have hk0 : (0 : Int) ≤ (kk : Int) := by omega
      go_wp2
      go_roundw
      case rel => exact ⟨j + 1, kk + 3, by omega, by omega, by go_num, by go_num, HM.out _ _ _, HT.out _ _ _⟩
      case measure => simp [intOf]; omega
    · obtain rfl : j = n := by omega
      have HM := Lib.hid hm
      have HT := Lib.hid ht
      clear hm ht
      go_wp2
      go_ret
      exact ⟨kk, hkk, rfl, HM.out, HT.out⟩
set_option maxHeartbeats 1000000 in
set_option maxRecDepth 100000 in
theorem c_markAssignS (A : Option Addr) (c n lo hi k : Nat) (w : World) (hk : k ≤ 100000000000000) (hn : n ≤ 1048576) (ho : OwnL w lo hi 129 2 (.slice A n c) n) :
    Calls Try.prog 136 #[.slice A n c, .int .i64 k] w (RetMk 129 lo hi (k + 2 * n) w) := by
  have HO := Lib.hid ho
  clear ho
  go_enter Try.func136, Try.ntmps136
  go_wp2
  go_loopw [1, 5] (fun t i wr => ∃ j kk : Nat, j ≤ n ∧ kk ≤ k + 2 * j ∧ i = .int .i64 j ∧ t = .int .i64 kk ∧ Mk lo hi w wr ∧ Typ 129 w wr) (fun _ i _ => n - (intOf i).toNat)
  case atStart => exact ⟨0, k, Nat.zero_le _, by omega, rfl, rfl, Mk.refl _ _ _, Typ.refl _ _⟩
  case round =>
    obtain ⟨j, kk, hj, hkk, rfl, rfl, hm, ht⟩ := hrel
    by_cases hlt : j < n
    · obtain ⟨g, rfl, hg1, hg2, ⟨cur, hcur⟩, hc⟩ := (HO.out.mk hm).blk (by omega)
      obtain ⟨⟨o0, e0⟩, f0⟩ := hc (j * 2) (by omega)
      obtain ⟨⟨o1, e1⟩, f1⟩ := hc (j * 2 + 1) (by omega)
      have HM := Lib.hid (fun v0 v1 => (hm.setCell (p := ⟨g, j * 2, none⟩) v0 hg1 hg2).setCell (p := ⟨g, j * 2 + 1, none⟩) v1 hg1 hg2)
      have HT := Lib.hid (fun v0 v1 => show Typ 129 w ((wr.setCell ⟨g, j * 2, none⟩ v0).setCell ⟨g, j * 2 + 1, none⟩ v1) by
        obtain ⟨c1, h1⟩ := heap_set (off := j * 2) hcur v0
        exact (ht.set hcur v0 rfl).set h1 v1 rfl)
      clear hc hm ht hcur
      have hk0 : (0 : Int) ≤ (kk : Int) := by omega
      go_wp2
      go_roundw
      case rel => exact ⟨j + 1, kk + 2, by omega, by omega, by go_num, by go_num, HM.out _ _, HT.out _ _⟩
      case measure => simp [intOf]; omega
    · obtain rfl : j = n := by omega
      have HM := Lib.hid hm
      have HT := Lib.hid ht
      clear hm ht
      go_wp2
      go_ret
      exact ⟨kk, hkk, rfl, HM.out, HT.out⟩
/-- What markText hands back. -/
def RetTx (w : World) (e : Ending) (w' : World) : Prop := ∃ s : ByteArray, e = .returned (.string s) ∧ Below w.heap.size w w'
set_option maxHeartbeats 1000000 in
set_option maxRecDepth 100000 in
theorem c_markText (k : Nat) (w : World) (hk : k ≤ 1000000000000000) : Calls Try.prog 135 #[.int .i64 k] w (RetTx w) := by
  rcases Nat.eq_zero_or_pos k with h0 | h0
  · have hk1 : ((k : Nat) : Int) ≤ 0 := by omega
    clear h0
    go_enter Try.func135, Try.ntmps135
    go_wp2
    go_ret
    exact ⟨_, rfl, Below.refl _ _⟩
  have hk1 : ¬ ((k : Nat) : Int) ≤ 0 := by omega
  go_enter Try.func135, Try.ntmps135
  go_wp2
  go_loopw [0, 3] (fun i s wr => ∃ (j : Nat) (t : ByteArray), j ≤ k ∧ i = .int .i64 j ∧ s = .string t ∧ t.size ≤ k - j ∧ Below w.heap.size w wr) (fun i _ _ => (intOf i).toNat)
  case atStart => exact ⟨k, ⟨#[]⟩, Nat.le_refl _, rfl, rfl, Nat.zero_le _, Below.refl _ _⟩
  case round =>
    obtain ⟨j, t, hj, rfl, rfl, hts, hb⟩ := hrel
    have HB := Lib.hid hb
    clear hb
    by_cases hlt : 0 < j
    · have hj0 : (0 : Int) < (j : Int) := by omega
      have hj1 : (0 : Int) ≤ (j : Int) := by omega
      obtain ⟨r, hrs, hback⟩ : ∃ r : ByteArray, r.size ≤ 1 ∧ (convert 43 9 (.slice (some ⟨wr.heap.size, 0, none⟩) 1 1)).run Try.prog (wr.alloc (Obj.cells #[Value.int .u8 (48 + (j : Int) % 10)] 5)) = .ok (.string r) (wr.alloc (Obj.cells #[Value.int .u8 (48 + (j : Int) % 10)] 5)) :=
        ⟨strOfNums [48 + (j : Int) % 10], (by show (strOfNums [48 + (j : Int) % 10]).data.size ≤ 1; simp [strOfNums]), run_convert_bytes_arg _ _ 5 Try.underlying43 Try.underlying5 _ 0 1 1 [48 + (j : Int) % 10] rfl (fun i hi => by
          obtain rfl : i = 0 := by omega
          go_simp) _ Try.underlying9⟩
      have hd1 : (j / 10 : Nat) < j := Nat.div_lt_self hlt (by omega)
      have hd2 : ((j : Int) / 10) = ((j / 10 : Nat) : Int) := by omega
      have hd3 : r.size + t.size ≤ 9223372036854775807 := by omega
      have HD2 := Lib.hid hd2
      clear hd2
      go_wp2
      go_roundw
      case rel => exact ⟨j / 10, r ++ t, by omega, by rw [HD2.out], rfl, by rw [ByteArray.size_append]; omega, below_alloc HB.out _⟩
      case measure => simp [intOf]; omega
    · have hj0 : ¬ (0 : Int) < (j : Int) := by omega
      have hd3 : t.size + 1 ≤ 9223372036854775807 := by omega
      go_wp2
      go_ret
      exact ⟨_, rfl, HB.out⟩
end Go.Proofs.Ytdjehopcpjkgjaa

/- Marks of rules and of a model: what they touch. No condition but the sizes. -/
namespace Go.Proofs.Ytdjehopcpjkgjaa
open Go.RowKit

theorem c_markTestZ (A : Option Addr) (c n lo hi k : Nat) (kz : Int) (w : World) (hz : kz = (k : Int)) (hk : k ≤ 100000000000000) (hn : n ≤ 1048576) (ho : OwnL w lo hi 96 3 (.slice A n c) n) :
    Calls Try.prog 35 #[.slice A n c, .int .i64 kz] w (RetMk 96 lo hi (k + 3 * n) w) := by subst hz; exact c_markTestS A c n lo hi k w hk hn ho
theorem c_markAssignZ (A : Option Addr) (c n lo hi k : Nat) (kz : Int) (w : World) (hz : kz = (k : Int)) (hk : k ≤ 100000000000000) (hn : n ≤ 1048576) (ho : OwnL w lo hi 129 2 (.slice A n c) n) :
    Calls Try.prog 136 #[.slice A n c, .int .i64 kz] w (RetMk 129 lo hi (k + 2 * n) w) := by subst hz; exact c_markAssignS A c n lo hi k w hk hn ho
/-- The slices that lie in a row of rules. -/
def Cts (w : World) (A : Option Addr) (ds : List RuD) : Prop := ∀ g, A = some ⟨g, 0, none⟩ → ∀ j d, ds[j]? = some d → w.cell? ⟨g, j * 3 + 1, none⟩ = some d.vg ∧ w.cell? ⟨g, j * 3 + 2, none⟩ = some d.ve
theorem Cts.below {w w' : World} {A : Option Addr} {ds : List RuD} (h : Cts w A ds) (hb : Below w.heap.size w w') : Cts w' A ds := fun g hg j d hd => ⟨cell_later hb (h g hg j d hd).1, cell_later hb (h g hg j d hd).2⟩
theorem Cts.set {w : World} {ds : List RuD} {g : Nat} (h : Cts w (some ⟨g, 0, none⟩) ds) (i : Nat) (v : Value) : Cts (w.setCell ⟨g, i * 3, none⟩ v) (some ⟨g, 0, none⟩) ds := fun g' hg j d hd => by
  simp only [Option.some.injEq, Addr.mk.injEq, and_true] at hg
  subst hg
  have := h g rfl j d hd
  rw [World.cell?_setCell_other _ _ _ _ (fun e => by simp only [Addr.mk.injEq, and_true, true_and] at e; omega), World.cell?_setCell_other _ _ _ _ (fun e => by simp only [Addr.mk.injEq, and_true, true_and] at e; omega)]
  exact this
theorem Cts.typ {w w' : World} {ds : List RuD} {g : Nat} {T : TypeId} {cur : Array Value} (h : Cts w (some ⟨g, 0, none⟩) ds) (ht : Typ T w w') (hg : w.heap[g]? = some (Obj.cells cur 71 (0, 0))) (hne : (show TypeId from 71) ≠ T) : Cts w' (some ⟨g, 0, none⟩) ds := fun g' hg' j d hd => by
  simp only [Option.some.injEq, Addr.mk.injEq, and_true] at hg'
  subst hg'
  have e := ht g cur _ _ hg hne
  have := h g rfl j d hd
  rw [World.cell?_of_block (a := ⟨g, j * 3 + 1, none⟩) e, World.cell?_of_block (a := ⟨g, j * 3 + 2, none⟩) e]
  exact this
/-- The rows behind a rule are the call's own, and below hi. -/
def NestL (w : World) (lo hi : Nat) (d : RuD) : Prop := OwnL w lo hi 96 3 d.vg d.r.gs.length ∧ OwnL w lo hi 129 2 d.ve d.r.es.length ∧ d.r.gs.length ≤ 1048576 ∧ d.r.es.length ≤ 1048576
theorem NestL.mk {lo hi lo2 hi2 : Nat} {a b : World} {d : RuD} (h : NestL a lo2 hi2 d) (hm : Mk lo hi a b) : NestL b lo2 hi2 d := ⟨h.1.mk hm, h.2.1.mk hm, h.2.2⟩
/-- The end of a mark that touches rows of several types. -/
def RetMo (lo hi : Nat) (bd : Nat) (w : World) (e : Ending) (w' : World) : Prop := ∃ kk : Nat, kk ≤ bd ∧ e = .returned (.int .i64 kk) ∧ Mk lo hi w w'
set_option maxHeartbeats 1000000 in
set_option maxRecDepth 100000 in
theorem c_markRuleS (A : Option Addr) (c n lo hi k : Nat) (ds : List RuD) (w : World) (hk : k ≤ 10000000000) (hn : n ≤ 1048576) (hds : ds.length = n) (ho : OwnL w lo hi 71 3 (.slice A n c) n) (hc : Cts w A ds) (hN : ∀ d ∈ ds, NestL w lo hi d) :
    Calls Try.prog 93 #[.slice A n c, .int .i64 k] w (RetMo lo hi (k + n * 5242881) w) := by
  have HO := Lib.hid ho
  have HC := Lib.hid hc
  have HN := Lib.hid hN
  have HD := Lib.hid hds
  clear ho hc hN hds
  go_enter Try.func93, Try.ntmps93
  go_wp2
  go_loopw [1, 5] (fun t i wr => ∃ j kk : Nat, j ≤ n ∧ kk ≤ k + j * 5242881 ∧ i = .int .i64 j ∧ t = .int .i64 kk ∧ Hid (Cts wr A ds) ∧ Mk lo hi w wr) (fun _ i _ => n - (intOf i).toNat)
  case atStart => exact ⟨0, k, Nat.zero_le _, by omega, rfl, rfl, HC, Mk.refl _ _ _⟩
  case round =>
    obtain ⟨j, kk, hj, hkk, rfl, rfl, hct, hm⟩ := hrel
    by_cases hlt : j < n
    · obtain ⟨d, hd⟩ : ∃ z, ds[j]? = some z := ⟨_, List.getElem?_eq_getElem (by have := HD.out; omega)⟩
      obtain ⟨g, rfl, hg1, hg2, _, _⟩ := (HO.out.mk hm).blk (by omega)
      have HDD := Lib.hid hd
      have HM := Lib.hid hm
      have HNd := Lib.hid (HN.out d (List.mem_of_getElem? hd))
      have hgn := HNd.out.2.2.1
      have hen := HNd.out.2.2.2
      clear hd hm
      go_wp2_with (fail)
      refine (c_markText kk _ (by omega)).mono ?_
      rintro e w2 ⟨s, rfl, hb⟩
      have HM2 := Lib.hid (HM.out.trans (Mk.of_below (lo := lo) (hi := hi) hb))
      have HC2 := Lib.hid (hct.out.below hb)
      clear hb hct
      obtain ⟨g', hgg, _, _, ⟨cur, hcur⟩, hce⟩ := (HO.out.mk HM2.out).blk (by omega)
      simp only [Option.some.injEq, Addr.mk.injEq, and_true] at hgg
      subst hgg
      obtain ⟨⟨o0, e0⟩, f0⟩ := hce (j * 3) (by omega)
      clear hce
      have HC3 := Lib.hid (HC2.out.set j (.string s))
      have HM3 := Lib.hid (HM2.out.setCell (p := ⟨g, j * 3, none⟩) (.string s) hg1 hg2)
      obtain ⟨cur3, hcur3⟩ := heap_set (off := j * 3) hcur (.string s)
      have HH3 := Lib.hid hcur3
      clear hcur hcur3
      have l1 := (HC3.out g rfl j d HDD.out).1
      unfold RuD.vg at l1
      go_wp2_with (fail)
      generalize w2.setCell ⟨g, j * 3, none⟩ (.string s) = w3 at *
      clear e0 f0 l1 HC2 HM2
      refine (c_markTestZ d.ag d.cg _ lo hi (kk + 1) _ _ (by omega) (by omega) hgn (HNd.out.1.mk HM3.out)).mono ?_
      rintro e w4 ⟨k4, hk4, rfl, hm4, ht4⟩
      have HM4 := Lib.hid (HM3.out.trans hm4)
      have HC4 := Lib.hid (HC3.out.typ ht4 HH3.out (by decide))
      have HH4 := Lib.hid ((ht4 g cur3 _ _ HH3.out (by decide)).trans HH3.out)
      clear hm4 ht4 HC3 HM3 HH3
      have l2 := (HC4.out g rfl j d HDD.out).2
      unfold RuD.ve at l2
      go_wp2_with (fail)
      refine (c_markAssignZ d.ae d.ce _ lo hi k4 _ _ (by omega) (by omega) hen (HNd.out.2.1.mk HM4.out)).mono ?_
      rintro e w5 ⟨k5, hk5, rfl, hm5, ht5⟩
      have HM5 := Lib.hid (HM4.out.trans hm5)
      have HC5 := Lib.hid (HC4.out.typ ht5 HH4.out (by decide))
      clear hm5 ht5 HC4 HM4 HH4 l2
      go_wp2
      go_roundw
      case rel => exact ⟨j + 1, k5, by omega, by omega, by go_num, rfl, HC5, HM5.out⟩
      case measure => simp [intOf]; omega
    · obtain rfl : j = n := by omega
      have HM := Lib.hid hm
      clear hm
      go_wp2
      go_ret
      exact ⟨kk, hkk, rfl, HM.out⟩
end Go.Proofs.Ytdjehopcpjkgjaa

/- The mark of a model: what it touches. No condition but the sizes. -/
namespace Go.Proofs.Ytdjehopcpjkgjaa
open Go.RowKit

set_option maxRecDepth 100000 in
theorem c_markIntsL (A : Option Addr) (c n lo hi k : Nat) (kz : Int) (w : World) (hz : kz = (k : Int)) (hk : k ≤ 100000000000000) (hn : n ≤ 1048576) (ho : OwnL w lo hi 2 1 (.slice A n c) n) :
    Calls Try.prog 36 #[.slice A n c, .int .i64 kz] w (RetMo lo hi (k + n) w) := by
  subst hz
  have HO := Lib.hid ho
  clear ho
  go_enter Try.func36, Try.ntmps36
  go_wp2
  go_loopw [1, 5] (fun t i wr => ∃ j kk : Nat, j ≤ n ∧ kk ≤ k + j ∧ i = .int .i64 j ∧ t = .int .i64 kk ∧ Mk lo hi w wr) (fun _ i _ => n - (intOf i).toNat)
  case atStart => exact ⟨0, k, Nat.zero_le _, by omega, rfl, rfl, Mk.refl _ _ _⟩
  case round =>
    obtain ⟨j, kk, hj, hkk, rfl, rfl, hm⟩ := hrel
    by_cases hlt : j < n
    · obtain ⟨g, rfl, hg1, hg2, _, hc⟩ := (HO.out.mk hm).blk (by omega)
      obtain ⟨⟨o0, e0⟩, f0⟩ := hc j (by omega)
      have HM := Lib.hid (fun v0 => hm.setCell (p := ⟨g, j, none⟩) v0 hg1 hg2)
      clear hc hm
      go_wp2
      go_roundw
      case rel => exact ⟨j + 1, kk + 1, by omega, by omega, by go_num, by go_num, HM.out _⟩
      case measure => simp [intOf]; omega
    · obtain rfl : j = n := by omega
      have HM := Lib.hid hm
      clear hm
      go_wp2
      go_ret
      exact ⟨kk, hkk, rfl, HM.out⟩
theorem OwnL.of_own {w : World} {lo : Nat} {e : TypeId} {size n : Nat} {v : Value} {xs : List Value} (h : w.ownsRow lo e size v n xs) : OwnL w lo w.heap.size e size v n := ⟨⟨xs, h⟩, fun q hq => (h.lt q hq).2⟩
theorem OwnL.below {w w' : World} {lo hi : Nat} {e : TypeId} {size n : Nat} {v : Value} (h : OwnL w lo hi e size v n) (hb : Below w.heap.size w w') : OwnL w' lo hi e size v n := by
  obtain ⟨⟨xs, ho⟩, hq⟩ := h
  exact ⟨⟨xs, own_below ho hb⟩, hq⟩
/-- The rows of a model are the call's own, and lie below hi. -/
structure MOwnL (w : World) (lo hi : Nat) (az ax ar : Option Addr) (cz cs cr : Nat) (m : Mdl) (ds : List RuD) : Prop where
  z : OwnL w lo hi 2 1 (.slice az m.sz.length cz) m.sz.length
  s : OwnL w lo hi 2 1 (.slice ax m.st.length cs) m.st.length
  r : OwnL w lo hi 71 3 (.slice ar m.rs.length cr) m.rs.length
  c : Cts w ar ds
  l : ds.length = m.rs.length
  n : ∀ d ∈ ds, NestL w lo hi d
theorem MOwn.toL {w : World} {lo : Nat} {az ax ar : Option Addr} {cz cs cr : Nat} {m : Mdl} {ds : List RuD} (h : MOwn w lo az ax ar cz cs cr m ds) (hok : MdlOk m) : MOwnL w lo w.heap.size az ax ar cz cs cr m ds := by
  refine ⟨.of_own h.z, .of_own h.s, .of_own h.r, fun g hg j d hd => ?_, by rw [← h.e, List.length_map], fun d hd => ?_⟩
  · subst hg
    obtain ⟨_, u1, u2⟩ := rudCells_at hd
    have c1 := h.r.cells (g := g) rfl _ _ u1
    have c2 := h.r.cells (g := g) rfl _ _ u2
    have hadd : ∀ q, (⟨g, 0, none⟩ : Addr).add q = ⟨g, 0 + q, none⟩ := fun q => by unfold Addr.add; split <;> simp_all
    rw [hadd, Nat.zero_add] at c1 c2
    exact ⟨c1, c2⟩
  · have hm : d.r ∈ m.rs := by rw [← h.e]; exact List.mem_map.2 ⟨d, hd, rfl⟩
    exact ⟨.of_own (h.d d hd).1, .of_own (h.d d hd).2, (hok.2.2.2 _ hm).1, (hok.2.2.2 _ hm).2⟩
theorem MOwnL.below {w w' : World} {lo hi : Nat} {az ax ar : Option Addr} {cz cs cr : Nat} {m : Mdl} {ds : List RuD} (h : MOwnL w lo hi az ax ar cz cs cr m ds) (hb : Below w.heap.size w w') : MOwnL w' lo hi az ax ar cz cs cr m ds :=
  ⟨h.z.below hb, h.s.below hb, h.r.below hb, h.c.below hb, h.l, fun d hd => ⟨(h.n d hd).1.below hb, (h.n d hd).2.1.below hb, (h.n d hd).2.2⟩⟩
theorem Cts.typ2 {w w' : World} {A : Option Addr} {ds : List RuD} {lo hi : Nat} {n c : Nat} (h : Cts w A ds) (ho : OwnL w lo hi 71 3 (.slice A n c) n) (hl : ds.length = n) (ht : Typ 2 w w') : Cts w' A ds := by
  rcases Nat.eq_zero_or_pos n with h0 | h0
  · intro g _ j d hd
    have : ds = [] := List.eq_nil_of_length_eq_zero (by omega)
    subst this
    simp at hd
  · obtain ⟨g, rfl, _, _, ⟨cur, hcur⟩, _⟩ := ho.blk h0
    exact h.typ ht hcur (by decide)
set_option maxHeartbeats 1000000 in
set_option maxRecDepth 100000 in
theorem c_markIntsT (A : Option Addr) (c n lo hi k : Nat) (kz : Int) (w : World) (hz : kz = (k : Int)) (hk : k ≤ 100000000000000) (hn : n ≤ 1048576) (ho : OwnL w lo hi 2 1 (.slice A n c) n) :
    Calls Try.prog 36 #[.slice A n c, .int .i64 kz] w (RetMk 2 lo hi (k + n) w) := by
  subst hz
  have HO := Lib.hid ho
  clear ho
  go_enter Try.func36, Try.ntmps36
  go_wp2
  go_loopw [1, 5] (fun t i wr => ∃ j kk : Nat, j ≤ n ∧ kk ≤ k + j ∧ i = .int .i64 j ∧ t = .int .i64 kk ∧ Mk lo hi w wr ∧ Typ 2 w wr) (fun _ i _ => n - (intOf i).toNat)
  case atStart => exact ⟨0, k, Nat.zero_le _, by omega, rfl, rfl, Mk.refl _ _ _, Typ.refl _ _⟩
  case round =>
    obtain ⟨j, kk, hj, hkk, rfl, rfl, hm, ht⟩ := hrel
    by_cases hlt : j < n
    · obtain ⟨g, rfl, hg1, hg2, ⟨cur, hcur⟩, hc⟩ := (HO.out.mk hm).blk (by omega)
      obtain ⟨⟨o0, e0⟩, f0⟩ := hc j (by omega)
      have HM := Lib.hid (fun v0 => hm.setCell (p := ⟨g, j, none⟩) v0 hg1 hg2)
      have HT := Lib.hid (fun v0 => ht.set (off := j) (n := j) hcur v0 rfl)
      clear hc hm ht hcur
      go_wp2
      go_roundw
      case rel => exact ⟨j + 1, kk + 1, by omega, by omega, by go_num, by go_num, HM.out _, HT.out _⟩
      case measure => simp [intOf]; omega
    · obtain rfl : j = n := by omega
      have HM := Lib.hid hm
      have HT := Lib.hid ht
      clear hm ht
      go_wp2
      go_ret
      exact ⟨kk, hkk, rfl, HM.out, HT.out⟩
set_option maxHeartbeats 1000000 in
set_option maxRecDepth 100000 in
theorem c_markModel (m : Mdl) (az ax ar : Option Addr) (cz cs cr : Nat) (ds : List RuD) (lo hi : Nat) (w : World) (hok : MdlOk m) (ho : MOwnL w lo hi az ax ar cz cs cr m ds) (hhi : hi ≤ w.heap.size) :
    Calls Try.prog 34 #[mv m az ax ar cz cs cr, .int .i64 1] w (RetMo lo hi 10000000000000 w) := by
  have HO := Lib.hid ho
  have h1 := hok.1
  have h2 := hok.2.1
  have h3 := hok.2.2.1
  have HL := Lib.hid ho.l
  have hal : Hid (∀ o, MOwnL (w.alloc o) lo hi az ax ar cz cs cr m ds) := Lib.hid fun o => ho.below (below_alloc (Below.refl _ _) o)
  clear ho hok
  dsimp only [mv] at *
  have HMZ := Lib.hid (fun w' (h : OwnL w' lo hi 2 1 (.slice az m.sz.length cz) m.sz.length) => c_markIntsT az cz m.sz.length lo hi 1 1 w' rfl (by omega) h1 h)
  have HMS := Lib.hid (fun k (hk : k ≤ 2097152) w' (h : OwnL w' lo hi 2 1 (.slice ax m.st.length cs) m.st.length) => c_markIntsT ax cs m.st.length lo hi k k w' rfl (by omega) h2 h)
  have HMR := Lib.hid (fun k (hk : k ≤ 5000000) w' h hc hn => c_markRuleS ar cr m.rs.length lo hi k ds w' (by omega) h3 HL.out h hc hn)
  have HZ := Lib.hid (fun o => (hal.out o).z)
  have HS := Lib.hid (fun o => (hal.out o).s)
  have HR := Lib.hid (fun o => (hal.out o).r)
  have HC := Lib.hid (fun o => (hal.out o).c)
  have HN := Lib.hid (fun o => (hal.out o).n)
  clear HO hal
  generalize m.sz.length = sn at *
  generalize m.st.length = tn at *
  generalize m.rs.length = rn at *
  go_enter Try.func34, Try.ntmps34
  go_wp2_with (fail)
  refine (HMZ.out _ (HZ.out _)).mono ?_
  rintro e w1 ⟨k1, hk1, rfl, hm1, ht1⟩
  have a1 : w1.cell? ⟨w.heap.size, 1, none⟩ = some (.slice ax tn cs) := hm1.cell (by go_simp) (.inr hhi)
  have a2 : w1.cell? ⟨w.heap.size, 2, none⟩ = some (.slice ar rn cr) := hm1.cell (by go_simp) (.inr hhi)
  have S1 := Lib.hid ((HS.out _).mk hm1)
  have R1 := Lib.hid ((HR.out _).mk hm1)
  have C1 := Lib.hid ((HC.out _).typ2 (HR.out _) HL.out ht1)
  have N1 := Lib.hid (fun d hd => (HN.out _ d hd).mk hm1)
  have M1 := Lib.hid ((Mk.of_below (lo := lo) (hi := hi) (below_alloc (Below.refl w.heap.size w) _)).trans hm1)
  clear hm1 ht1
  go_wp2_with (fail)
  refine (HMS.out k1 (by omega) _ S1.out).mono ?_
  rintro e w2 ⟨k2, hk2, rfl, hm2, ht2⟩
  have b2 : w2.cell? ⟨w.heap.size, 2, none⟩ = some (.slice ar rn cr) := hm2.cell a2 (.inr hhi)
  have R2 := Lib.hid (R1.out.mk hm2)
  have C2 := Lib.hid (C1.out.typ2 R1.out HL.out ht2)
  have N2 := Lib.hid (fun d hd => (N1.out d hd).mk hm2)
  have M2 := Lib.hid (M1.out.trans hm2)
  clear hm2 ht2 a1 a2
  go_wp2_with (fail)
  refine (HMR.out k2 (by omega) _ R2.out C2.out N2.out).mono ?_
  rintro e w3 ⟨k3, hk3, rfl, hm3⟩
  have M3 := Lib.hid (M2.out.trans hm3)
  clear hm3
  go_wp2
  go_ret
  exact ⟨k3, by omega, rfl, M3.out⟩
end Go.Proofs.Ytdjehopcpjkgjaa

/- append of a list of numbers to a list of the call's own; slices.Clone, l01Own (the seats without layouts). No condition but the sizes. -/
namespace Go.Proofs.Ytdjehopcpjkgjaa
open Go.RowKit

theorem own_prefix {w : World} {base : Nat} {e : TypeId} {size g n cap : Nat} {xs : List Value} (h : w.ownsRow base e size (.slice (some ⟨g, 0, none⟩) n cap) n xs) {i : Nat} (hi : i ≤ n) :
    w.ownsRow base e size (.slice (some ⟨g, 0, none⟩) i cap) i (xs.take (i * size)) := by
  have hle := Nat.mul_le_mul_right size hi
  refine ⟨by rw [List.length_take, h.1]; omega, ?_⟩
  rcases h.2 with ⟨h', _⟩ | ⟨g', cap', cur, h', hb, hg, hnc, hcm, hcs, ht⟩
  · simp at h'
  · simp only [Value.slice.injEq, Option.some.injEq, Addr.mk.injEq, and_true, true_and] at h'
    obtain ⟨rfl, rfl⟩ := h'
    refine .inr ⟨g, cap, cur, rfl, hb, hg, by omega, hcm, hcs, ?_⟩
    rw [← ht, List.take_take, Nat.min_eq_left hle]
theorem own_has {w : World} {base : Nat} {e : TypeId} {size g n cap : Nat} {xs : List Value} (h : w.ownsRow base e size (.slice (some ⟨g, 0, none⟩) n cap) n xs) {j : Nat} (hj : j < cap * size) : (w.cell? ⟨g, j, none⟩).isSome = true := by
  rcases h.2 with ⟨h', _⟩ | ⟨g', cap', cur, h', hb, hg, hnc, hcm, hcs, ht⟩
  · simp at h'
  · simp only [Value.slice.injEq, Option.some.injEq, Addr.mk.injEq, and_true, true_and] at h'
    obtain ⟨rfl, rfl⟩ := h'
    rw [cell_of_row w g j cur e (0, 0) hg]
    rw [Array.getElem?_eq_getElem (by omega)]
    rfl
theorem news_of {w : World} {A : Option Addr} {ys : List Int} {ad : Addr} (hr : Rd w A (ints ys)) (hA : A = some ad) : ∀ j u, (ints ys)[j]? = some u → w.cell? (ad.add j) = some u := by
  intro j u hu
  rcases hr with h | ⟨b, off, e, _, hc⟩
  · rw [h] at hu; simp at hu
  · rw [hA] at e
    simp only [Option.some.injEq] at e
    subst e
    rw [Addr.add_lit]
    exact hc j u hu
theorem ints_cells (ys : List Int) : ∀ u ∈ ints ys, u.oneCell' = true := by
  intro u hu
  obtain ⟨x, _, rfl⟩ := List.mem_map.1 hu
  rfl
theorem ints_append (a b : List Int) : ints a ++ ints b = ints (a ++ b) := by simp [ints]
theorem wpList_append_ints (w : World) {ops : Array Oper} {rest : List Oper} {o : Oper} {a : Act} {Q : Exit → Act → World → Prop} (hgd : o.guard = none) (s x : Operand)
    (ho : o.op = .call { callee := .builtin .append, args := #[s, x], argTypes := #[22, 22] })
    (base : Nat) (v : Value) (n : Nat) (zs ys : List Int) (ad : Addr) (m c : Nat) (hs : a.eval s = v) (hown : w.ownsRow base 2 1 v n (ints zs))
    (hx : a.eval x = .slice (some ad) m c) (hr : Rd w (some ad) (ints ys)) (hm : m = ys.length) (hn : n + m ≤ 1000000000000) (hbase : base ≤ w.heap.size)
    (h : ∀ v' w', w'.ownsRow base 2 1 v' (n + m) (ints (zs ++ ys)) → w.grownBy w' v.ownBlock → (v' = .slice none 0 0 ↔ v = .slice none 0 0 ∧ m = 0) → wpList Try.prog ops Q rest (a.put o.dst v') w') : wpList Try.prog ops Q (o :: rest) a w := by
  obtain ⟨i0, hi, hz0, hz1, hz2⟩ := info_parts info_int64
  refine wpList_append_own w hgd s x 22 ho base 2 i0 (.int .i64 0) 1 8 Try.underlying22 hi hz0 hz1 hz2 rfl (by decide) v n (ints zs) hs hown ad m c (ints ys) hx (by rw [ints_length, hm, Nat.mul_one]) (news_of hr rfl) (ints_cells ys) (by unfold maxLen; omega) (by omega) hbase ?_
  intro v' w' h1 h2 h3
  exact h v' w' (by rw [← ints_append]; exact h1) h2 h3
theorem step_append_fits {ops : Array Oper} {o : Oper} {a : Act} {w : World} {K : Act → World → Prop} {Q : Exit → Act → World → Prop} {E : Prop}
    (hg : o.guard = none) (s x : Operand) (hop : o.op = Op.call { callee := Callee.builtin Builtin.append, args := #[s, x], argTypes := #[22, 22] })
    (base g n cap : Nat) (zs ys : List Int) (hs : a.eval s = .slice (some ⟨g, 0, none⟩) n cap) (hown : w.ownsRow base 2 1 (.slice (some ⟨g, 0, none⟩) n cap) n (ints zs))
    (ad : Addr) (m c : Nat) (hx : a.eval x = .slice (some ad) m c) (hr : Rd w (some ad) (ints ys)) (hm : m = ys.length) (hroom : n + m ≤ cap)
    (h : ∀ w', w'.ownsRow base 2 1 (.slice (some ⟨g, 0, none⟩) (n + m) cap) (n + m) (ints (zs ++ ys)) → w.grownBy w' (some g) → K (a.put o.dst (.slice (some ⟨g, 0, none⟩) (n + m) cap)) w') :
    if Region.wanted o (yielded ops a.tmps) = true then Oper.wp Try.prog o a w K Q else E := by
  obtain ⟨i0, hi, hz0, hz1, hz2⟩ := info_parts info_int64
  have hw : Region.wanted o (yielded ops a.tmps) = true := by simp [Region.wanted, hg]
  rw [if_pos hw]
  obtain ⟨w', hrun, h1, h2⟩ := run_append_fits (P := Try.prog) w base 22 o.type 2 i0 1 Try.underlying22 hi hz1 g n cap (ints zs) hown ad m c (ints ys) (by rw [ints_length, hm, Nat.mul_one]) (news_of hr rfl) (ints_cells ys) hroom
  unfold Oper.wp
  simp [execOp, hop, resolve, invoke, builtin, hs, hx, hrun, Result.andThen]
  exact h w' (by rw [← ints_append]; exact h1) h2
theorem step_append_ints (w : World) {ops : Array Oper} {o : Oper} {a : Act} {K : Act → World → Prop} {Q : Exit → Act → World → Prop} {E : Prop} (hgd : o.guard = none) (s x : Operand)
    (ho : o.op = .call { callee := .builtin .append, args := #[s, x], argTypes := #[22, 22] })
    (base : Nat) (v : Value) (n : Nat) (zs ys : List Int) (ad : Addr) (m c : Nat) (hs : a.eval s = v) (hown : w.ownsRow base 2 1 v n (ints zs))
    (hx : a.eval x = .slice (some ad) m c) (hr : Rd w (some ad) (ints ys)) (hm : m = ys.length) (hn : n + m ≤ 1000000000000) (hbase : base ≤ w.heap.size)
    (h : ∀ v' w', w'.ownsRow base 2 1 v' (n + m) (ints (zs ++ ys)) → w.grownBy w' v.ownBlock → (v' = .slice none 0 0 ↔ v = .slice none 0 0 ∧ m = 0) → K (a.put o.dst v') w') :
    if Region.wanted o (yielded ops a.tmps) = true then Oper.wp Try.prog o a w K Q else E := by
  obtain ⟨i0, hi, hz0, hz1, hz2⟩ := info_parts info_int64
  have hw : Region.wanted o (yielded ops a.tmps) = true := by simp [Region.wanted, hgd]
  rw [if_pos hw]
  refine wp_append_own w s x 22 ho base 2 i0 (.int .i64 0) 1 8 Try.underlying22 hi hz0 hz1 hz2 rfl (by decide) v n (ints zs) hs hown ad m c (ints ys) hx (by rw [ints_length, hm, Nat.mul_one]) (news_of hr rfl) (ints_cells ys) (by unfold maxLen; omega) (by omega) hbase ?_
  intro v' w' h1 h2 h3
  exact h v' w' (by rw [← ints_append]; exact h1) h2 h3
set_option maxRecDepth 100000 in
theorem c_l01Own (b off c n : Nat) (zs : List Int) (w : World) (hn : n = zs.length) (hs : n ≤ 100000000) (hr : Rd w (some ⟨b, off, none⟩) (ints zs)) :
    Calls Try.prog 79 #[.slice (some ⟨b, off, none⟩) n c] w fun e w' => ∃ g c', e = .returned (.slice (some ⟨g, 0, none⟩) n c') ∧ w'.ownsRow w.heap.size 2 1 (.slice (some ⟨g, 0, none⟩) n c') n (ints zs) ∧ Below w.heap.size w w' := by
  have HN := Lib.hid hn
  have HR := Lib.hid hr
  clear hn hr
  go_enter Try.func79, Try.ntmps79
  go_wp2_with (first
    | (at_builtin
       refine wpList_append_ints _ (by rfl) (.tmp 3) (.tmp 4) (by rfl) w.heap.size (.slice (some ⟨w.heap.size, 0, none⟩) 0 0) 0 [] zs ⟨b, off, none⟩ n c (by rfl) (World.ownsRow_made w #[] 0 (Nat.le_refl _) (Nat.zero_le _) rfl) (by rfl) (HR.out.alloc _) HN.out (by omega) (by simp) ?_
       intro v' w1 hown hgrow hnil
       have HO := Lib.hid hown
       have HB := Lib.hid (show Below w.heap.size w w1 from ((Below.refl _ w).alloc (Nat.le_refl _) _).grown hgrow (by simp) (by intro k hk; simp [Value.ownBlock] at hk; omega))
       have HV := Lib.hid (show ∃ g c', v' = .slice (some ⟨g, 0, none⟩) n c' by
         rcases hown.2 with ⟨h1, h2⟩ | ⟨g, cap, cur, h1, _⟩
         · rw [hnil] at h1; simp at h1
         · exact ⟨g, cap, by rw [h1, Nat.zero_add]⟩)
       clear hown hgrow hnil)
    )
  go_ret
  obtain ⟨g, c', rfl⟩ := HV.out
  refine ⟨g, c', rfl, by simpa using HO.out, HB.out⟩
set_option maxRecDepth 100000 in
theorem c_Clone (b off c n : Nat) (zs : List Int) (w : World) (hn : n = zs.length) (hs : n ≤ 100000000) (hr : Rd w (some ⟨b, off, none⟩) (ints zs)) :
    Calls Try.prog 90 #[.slice (some ⟨b, off, none⟩) n c] w fun e w' => ∃ g c', e = .returned (.slice (some ⟨g, 0, none⟩) n c') ∧ w'.ownsRow w.heap.size 2 1 (.slice (some ⟨g, 0, none⟩) n c') n (ints zs) ∧ Below w.heap.size w w' := by
  have HN := Lib.hid hn
  have HR := Lib.hid hr
  clear hn hr
  have q22 : ∀ (w : World) (a : Option Addr) (n c n' c' : Nat), (binOp .eql 22 (.slice a n c) (.slice none n' c')).run Try.prog w = .ok (.bool a.isNone) w := fun w a n c n' c' => Lib.run_eql_slice_nil w _ _ a n c n' c' Try.underlying22
  go_enter Try.func90, Try.ntmps90
  go_wp2_with (first
    | (at_builtin
       refine wpList_append_ints _ (by rfl) (.tmp 5) (.tmp 6) (by rfl) w.heap.size (.slice (some ⟨w.heap.size, 0, none⟩) 0 0) 0 [] zs ⟨b, off, none⟩ n c (by rfl) (World.ownsRow_made w #[] 0 (Nat.le_refl _) (Nat.zero_le _) rfl) (by rfl) (HR.out.alloc _) HN.out (by omega) (by simp) ?_
       intro v' w1 hown hgrow hnil
       have HO := Lib.hid hown
       have HB := Lib.hid (show Below w.heap.size w w1 from ((Below.refl _ w).alloc (Nat.le_refl _) _).grown hgrow (by simp) (by intro k hk; simp [Value.ownBlock] at hk; omega))
       have HV := Lib.hid (show ∃ g c', v' = .slice (some ⟨g, 0, none⟩) n c' by
         rcases hown.2 with ⟨h1, h2⟩ | ⟨g, cap, cur, h1, _⟩
         · rw [hnil] at h1; simp at h1
         · exact ⟨g, cap, by rw [h1, Nat.zero_add]⟩)
       clear hown hgrow hnil)
    )
  go_ret
  obtain ⟨g, c', rfl⟩ := HV.out
  refine ⟨g, c', rfl, by simpa using HO.out, HB.out⟩
end Go.Proofs.Ytdjehopcpjkgjaa

/- The state to which a rule leads: apply (program), l20Apply (reference). Condition: the effect's variables lie within the state. -/
namespace Go.Proofs.Ytdjehopcpjkgjaa
open Go.RowKit

def ap1 (vs : List Int) (a : Asg) : List Int := vs.set a.v.toNat a.x
def apL (vs : List Int) (es : List Asg) : List Int := es.foldl ap1 vs
theorem apL_snoc {vs : List Int} {es : List Asg} {k : Nat} {a : Asg} (h : es[k]? = some a) : apL vs (es.take (k + 1)) = (apL vs (es.take k)).set a.v.toNat a.x := by
  unfold apL
  rw [List.take_add_one, h, List.foldl_append]
  rfl
theorem apL_len : ∀ (es : List Asg) (vs : List Int), (apL vs es).length = vs.length
  | [], _ => rfl
  | a :: es, vs => by
    have := apL_len es (ap1 vs a)
    unfold apL at this ⊢
    rw [List.foldl_cons, this]
    simp [ap1]
/-- The effect's variables lie within the state. -/
def EsIn (n : Nat) (es : List Asg) : Prop := ∀ a ∈ es, 0 ≤ a.v ∧ a.v < n
theorem es_in {sz : List Int} {es : List Asg} (h : esK sz es es.length = true) : EsIn sz.length es := by
  intro a ha
  obtain ⟨k, hk, rfl⟩ := List.getElem_of_mem ha
  unfold esK at h
  rw [List.all_eq_true] at h
  have := h k (List.mem_range.2 hk)
  unfold esS at this
  rw [getDA (List.getElem?_eq_getElem hk)] at this
  simp [hasB, inB] at this
  omega
theorem ints_set (l : List Int) (j : Nat) (x : Int) : (ints l).set j (.int .i64 x) = ints (l.set j x) := by simp [ints, List.map_set]
/-- A list of the call's own of length n, in one block. -/
def RetI3 (n : Nat) (zs : List Int) (w : World) (e : Ending) (w' : World) : Prop :=
  ∃ g c, e = .returned (.slice (some ⟨g, 0, none⟩) n c) ∧ w'.ownsRow w.heap.size 2 1 (.slice (some ⟨g, 0, none⟩) n c) n (ints zs) ∧ Below w.heap.size w w'
set_option maxHeartbeats 1000000 in
set_option maxRecDepth 100000 in
theorem c_apply (nm : ByteArray) (ag ae : Option Addr) (gn cg en ce : Nat) (es : List Asg) (b off c vn : Nat) (vs : List Int) (w : World) (hvn : vn = vs.length) (hvl : vn ≤ 1048576) (hen : en = es.length) (hel : en ≤ 1048576) (hin : EsIn vn es) (hv : Rd w (some ⟨b, off, none⟩) (ints vs)) (he : Rd w ae (asgCells es)) :
    Calls Try.prog 91 #[.agg #[.string nm, .slice ag gn cg, .slice ae en ce], .slice (some ⟨b, off, none⟩) vn c] w (RetI3 vn (apL vs es) w) := by
  have HIN := Lib.hid hin
  have HE := Lib.hid he
  have HEN := Lib.hid hen
  have HVN := Lib.hid hvn
  have HCL := Lib.hid (fun w' h => c_Clone b off c vn vs w' hvn (by omega) h)
  have HV := Lib.hid hv
  clear hin he hen hvn hv
  go_enter Try.func91, Try.ntmps91
  go_wp2_with (fail)
  refine (HCL.out _ (HV.out.alloc _)).mono ?_
  rintro e w1 ⟨g, c', rfl, ho, hb⟩
  have k2 : w1.cell? ⟨w.heap.size, 2, none⟩ = some (.slice ae en ce) := cell_later hb (by go_simp)
  have HO0 := Lib.hid (own_mono ho (show w.heap.size + 1 ≤ _ by simp))
  have HB0 := Lib.hid (below_chain (by (repeat (first | exact Below.refl _ _ | assumption | refine below_alloc ?_ _ | refine below_drewN ?_ _ | refine below_set ?_ _ (by simp; try omega) | refine Below.drew ?_)) : Below w.heap.size w _) hb)
  have hg0 : w.heap.size + 1 ≤ g := by have := (ho.lt g rfl).1; simp at this; omega
  clear ho hb
  go_wp2
  clear k2
  go_loopw [13] (fun i wr => ∃ k : Nat, k ≤ en ∧ i = .int .i64 k ∧ Hid (wr.ownsRow (w.heap.size + 1) 2 1 (.slice (some ⟨g, 0, none⟩) vn c') vn (ints (apL vs (es.take k)))) ∧ Below w.heap.size w wr) (fun i _ => en - (intOf i).toNat)
  case atStart => exact ⟨0, Nat.zero_le _, rfl, HO0, HB0.out⟩
  case round =>
    clear HO0 HB0
    obtain ⟨k, hk, rfl, ho, hb⟩ := hrel
    by_cases hlt : k < en
    · obtain ⟨a, hz⟩ : ∃ z, es[k]? = some z := ⟨_, List.getElem?_eq_getElem (by have := HEN.out; omega)⟩
      obtain ⟨b2, off2, rfl, _, g0, g1⟩ := (HE.out.below hb).asg hz
      have hai := HIN.out a (List.mem_of_getElem? hz)
      have HS := Lib.hid (apL_snoc (vs := vs) hz)
      obtain ⟨av, ax⟩ := a
      dsimp only at *
      obtain ⟨j, rfl⟩ : ∃ j : Nat, av = j := ⟨av.toNat, by omega⟩
      have hj : j < vn := by omega
      have hj0 : (0 : Int) ≤ (j : Int) := by omega
      have hj1 : (j : Int) < (vn : Int) := by omega
      have HB := Lib.hid hb
      have ho1 := own_below ho.out (below_alloc (Below.refl wr.heap.size wr) (Obj.cells #[Value.int .i64 (j : Int), Value.int .i64 ax] 129))
      have f0 := ho1.frozenAt j
      obtain ⟨o0, e0⟩ := own_cell ho1 (j := j) (by omega)
      have hst := (ho1.stored j (.int .i64 ax)).1
      rw [ints_set] at hst
      have HST := Lib.hid hst
      clear hz hai hb ho ho1 hst
      go_wp2
      go_roundw
      case rel => exact ⟨k + 1, by omega, by go_num, Lib.hid (by rw [HS.out, Int.toNat_natCast]; exact HST.out), below_set (below_alloc HB.out _) _ (by dsimp only; omega)⟩
      case measure => simp [intOf]; omega
    · obtain rfl : k = en := by omega
      have hA := ho.out
      rw [List.take_of_length_le (by have := HEN.out; omega)] at hA
      have HA := Lib.hid hA
      have HB := Lib.hid hb
      clear hA ho hb
      go_wp2
      go_ret
      exact ⟨g, c', rfl, own_mono HA.out (by omega), HB.out⟩
set_option maxHeartbeats 1000000 in
set_option maxRecDepth 100000 in
theorem c_l20Apply (m : Mdl) (az ax ar : Option Addr) (cz cs cr : Nat) (k0 : Nat) (r : Rul) (b off c vn : Nat) (vs : List Int) (w : World) (hr : m.rs[k0]? = some r) (_hrl : m.rs.length ≤ 1048576) (hvn : vn = vs.length) (hvl : vn ≤ 1048576) (hel : r.es.length ≤ 1048576) (hin : EsIn vn r.es) (hv : Rd w (some ⟨b, off, none⟩) (ints vs)) (h : Rl w ar m.rs) :
    Calls Try.prog 101 #[mv m az ax ar cz cs cr, .slice (some ⟨b, off, none⟩) vn c, .int .i64 k0] w (RetI3 vn (apL vs r.es) w) := by
  have hk0 : k0 < m.rs.length := (List.getElem?_eq_some_iff.1 hr).1
  obtain ⟨bb, ob, ag, cg, ae, ce, rfl, hbb, g0, g1, g2, _, he⟩ := h.at hr
  have HIN := Lib.hid hin
  have HE := Lib.hid he
  have HVN := Lib.hid hvn
  have HCL := Lib.hid (fun w' h => c_l01Own b off c vn vs w' hvn (by omega) h)
  have HV := Lib.hid hv
  have HEN := Lib.hid (rfl : r.es.length = r.es.length)
  clear hin he hvn hv h hr
  dsimp only [mv] at *
  generalize m.sz.length = sn at *
  generalize m.st.length = tn at *
  generalize m.rs.length = rn at *
  generalize r.gs.length = gn at *
  generalize hen : r.es.length = en at *
  replace HEN := Lib.hid hen
  clear hen
  generalize r.es = es at *
  generalize r.nm = nm at *
  have hi0 : (0 : Int) ≤ (k0 : Int) := by omega
  have hi1 : (k0 : Int) < (rn : Int) := by omega
  go_enter Try.func101, Try.ntmps101
  go_wp2_with (fail)
  refine (HCL.out _ (HV.out.alloc _)).mono ?_
  rintro e w1 ⟨g, c', rfl, ho, hb⟩
  have k2 : w1.cell? ⟨w.heap.size, 2, none⟩ = some (.slice (some ⟨bb, ob, none⟩) rn cr) := cell_later hb (by go_simp)
  have HO0 := Lib.hid (own_mono ho (show w.heap.size + 1 ≤ _ by simp))
  have hst : Below w.heap.size w w1 := below_chain (by (repeat (first | exact Below.refl _ _ | assumption | refine below_alloc ?_ _ | refine below_drewN ?_ _ | refine below_set ?_ _ (by simp; try omega) | refine Below.drew ?_)) : Below w.heap.size w _) hb
  have HB0 := Lib.hid hst
  replace g2 := cell_later hst g2
  have hg0 : w.heap.size + 1 ≤ g := by have := (ho.lt g rfl).1; simp at this; omega
  clear ho hb hst g0 g1
  go_wp2
  clear k2 g2
  go_loopw [9] (fun i wr => ∃ k : Nat, k ≤ en ∧ i = .int .i64 k ∧ Hid (wr.ownsRow (w.heap.size + 1) 2 1 (.slice (some ⟨g, 0, none⟩) vn c') vn (ints (apL vs (es.take k)))) ∧ Below w.heap.size w wr) (fun i _ => en - (intOf i).toNat)
  case atStart => exact ⟨0, Nat.zero_le _, rfl, HO0, HB0.out⟩
  case round =>
    clear HO0 HB0
    obtain ⟨k, hk, rfl, ho, hb⟩ := hrel
    by_cases hlt : k < en
    · obtain ⟨a, hz⟩ : ∃ z, es[k]? = some z := ⟨_, List.getElem?_eq_getElem (by have := HEN.out; omega)⟩
      obtain ⟨b2, off2, hA2, hlt2, _, _⟩ := HE.out.asg hz
      obtain ⟨b3, off3, hA3, _, g0, g1⟩ := (HE.out.below hb).asg hz
      rw [hA2] at hA3
      simp only [Option.some.injEq, Addr.mk.injEq, and_true] at hA3
      obtain ⟨rfl, rfl⟩ := hA3
      subst hA2
      have hai := HIN.out a (List.mem_of_getElem? hz)
      have HS := Lib.hid (apL_snoc (vs := vs) hz)
      obtain ⟨av, ax⟩ := a
      dsimp only at *
      obtain ⟨j, rfl⟩ : ∃ j : Nat, av = j := ⟨av.toNat, by omega⟩
      have hj : j < vn := by omega
      have hj0 : (0 : Int) ≤ (j : Int) := by omega
      have hj1 : (j : Int) < (vn : Int) := by omega
      have hq0 : (0 : Int) ≤ (k : Int) := by omega
      have hq1 : (k : Int) < (en : Int) := by omega
      have HB := Lib.hid hb
      have f0 := ho.out.frozenAt j
      obtain ⟨o0, e0⟩ := own_cell ho.out (j := j) (by omega)
      have hst := (ho.out.stored j (.int .i64 ax)).1
      rw [ints_set] at hst
      have HST := Lib.hid hst
      clear hz hai hb ho hst
      go_wp2
      refine wp_region_held_drew (S := (fun w' => w'.cell? ⟨b2, off2 + k * 2, none⟩ = some (.int .i64 j) ∧ w'.cell? ⟨b2, off2 + k * 2 + 1, none⟩ = some (.int .i64 ax))) (by kernel_rfl) ?_ (fun hHeld => ?_)
      · exact ⟨g0, g1⟩
      refine rg_take (v := ?_) 0 rfl (by kernel_rfl) (by kernel_rfl) (by kernel_rfl) (fun _ _ _ h => h) (by kernel_rfl) ?_ (by assumption) ?_
      rotate_left
      · (intro w' hSw; (try dsimp only at hSw); go_simp; first | done | with_reducible rfl)
      simp only [Act.put, List.setIfInBounds_toArray, List.set_cons_zero, List.set_cons_succ]
      refine rg_take (v := ?_) 1 rfl (by kernel_rfl) (by kernel_rfl) (by kernel_rfl) (fun _ _ _ h => h) (by kernel_rfl) ?_ (by assumption) ?_
      rotate_left
      · (intro w' hSw; (try dsimp only at hSw); go_simp; first | done | with_reducible rfl)
      simp only [Act.put, List.setIfInBounds_toArray, List.set_cons_zero, List.set_cons_succ]
      refine rg_take (v := ?_) 2 rfl (by kernel_rfl) (by kernel_rfl) (by kernel_rfl) (fun _ _ _ h => h) (by kernel_rfl) ?_ (by assumption) ?_
      rotate_left
      · (intro w' hSw; (try dsimp only at hSw); go_simp; first | done | with_reducible rfl)
      simp only [Act.put, List.setIfInBounds_toArray, List.set_cons_zero, List.set_cons_succ]
      refine rg_take (v := ?_) 3 rfl (by kernel_rfl) (by kernel_rfl) (by kernel_rfl) (fun _ _ _ h => h) (by kernel_rfl) ?_ (by assumption) ?_
      rotate_left
      · (intro w' hSw; (try dsimp only at hSw); go_simp; first | done | with_reducible rfl)
      simp only [Act.put, List.setIfInBounds_toArray, List.set_cons_zero, List.set_cons_succ]
      refine rg_take (v := ?_) 4 rfl (by kernel_rfl) (by kernel_rfl) (by kernel_rfl) (fun _ _ _ h => h) (by kernel_rfl) ?_ (by assumption) ?_
      rotate_left
      · (intro w' hSw; (try dsimp only at hSw); go_simp; first | done | with_reducible rfl)
      simp only [Act.put, List.setIfInBounds_toArray, List.set_cons_zero, List.set_cons_succ]
      refine rg_take (v := ?_) 5 rfl (by kernel_rfl) (by kernel_rfl) (by kernel_rfl) (fun _ _ _ h => h) (by kernel_rfl) ?_ (by assumption) ?_
      rotate_left
      · (intro w' hSw; (try dsimp only at hSw); go_simp; first | done | with_reducible rfl)
      simp only [Act.put, List.setIfInBounds_toArray, List.set_cons_zero, List.set_cons_succ]
      refine rg_take (v := ?_) 6 rfl (by kernel_rfl) (by kernel_rfl) (by kernel_rfl) (fun _ _ _ h => h) (by kernel_rfl) ?_ (by assumption) ?_
      rotate_left
      · (intro w' hSw; (try dsimp only at hSw); go_simp; first | done | with_reducible rfl)
      simp only [Act.put, List.setIfInBounds_toArray, List.set_cons_zero, List.set_cons_succ]
      refine rg_take (v := ?_) 7 rfl (by kernel_rfl) (by kernel_rfl) (by kernel_rfl) (fun _ _ _ h => h) (by kernel_rfl) ?_ (by assumption) ?_
      rotate_left
      · (intro w' hSw; (try dsimp only at hSw); go_simp; first | done | with_reducible rfl)
      simp only [Act.put, List.setIfInBounds_toArray, List.set_cons_zero, List.set_cons_succ]
      refine rg_take (v := ?_) 8 rfl (by kernel_rfl) (by kernel_rfl) (by kernel_rfl) (fun _ _ _ h => h) (by kernel_rfl) ?_ (by assumption) ?_
      rotate_left
      · (intro w' hSw; (try dsimp only at hSw); go_simp; first | done | with_reducible rfl)
      simp only [Act.put, List.setIfInBounds_toArray, List.set_cons_zero, List.set_cons_succ]
      refine rg_take (v := ?_) 9 rfl (by kernel_rfl) (by kernel_rfl) (by kernel_rfl) (fun _ _ _ h => h) (by kernel_rfl) ?_ (by assumption) ?_
      rotate_left
      · (intro w' hSw; (try dsimp only at hSw); go_simp; first | done | with_reducible rfl)
      simp only [Act.put, List.setIfInBounds_toArray, List.set_cons_zero, List.set_cons_succ]
      refine rg_take (v := ?_) 10 rfl (by kernel_rfl) (by kernel_rfl) (by kernel_rfl) (fun _ _ _ h => h) (by kernel_rfl) ?_ (by assumption) ?_
      rotate_left
      · (intro w' hSw; (try dsimp only at hSw); go_simp; first | done | with_reducible rfl)
      simp only [Act.put, List.setIfInBounds_toArray, List.set_cons_zero, List.set_cons_succ]
      refine rg_take (v := ?_) 11 rfl (by kernel_rfl) (by kernel_rfl) (by kernel_rfl) (fun _ _ _ h => h) (by kernel_rfl) ?_ (by assumption) ?_
      rotate_left
      · (intro w' hSw; (try dsimp only at hSw); go_simp; first | done | with_reducible rfl)
      simp only [Act.put, List.setIfInBounds_toArray, List.set_cons_zero, List.set_cons_succ]
      refine rg_run 12 rfl (by kernel_rfl) (by kernel_rfl) (fun K hK => ?_)
      go_simp
      clear hHeld
      refine hK.out _ _ ⟨(World.cell?_setCell_far _ ⟨g, j, none⟩ ⟨b2, off2 + k * 2, none⟩ _ (by dsimp only; omega)).trans (by exact g0), (World.cell?_setCell_far _ ⟨g, j, none⟩ ⟨b2, off2 + k * 2 + 1, none⟩ _ (by dsimp only; omega)).trans (by exact g1)⟩ (fun hHeld => ?_)
      clear hK K
      try simp only [Act.put, List.setIfInBounds_toArray, List.set_cons_zero, List.set_cons_succ]
      refine wpAnyH_done (by kernel_rfl) ?_ _
      clear hHeld
      go_wp2
      go_roundw
      case rel => exact ⟨k + 1, by omega, by go_num, Lib.hid (by rw [HS.out, Int.toNat_natCast]; exact HST.out), below_set HB.out.drew _ (by dsimp only; omega)⟩
      case measure => simp [intOf]; omega
    · obtain rfl : k = en := by omega
      have hA := ho.out
      rw [List.take_of_length_le (by have := HEN.out; omega)] at hA
      have HA := Lib.hid hA
      have HB := Lib.hid hb
      clear hA ho hb
      go_wp2
      go_ret
      exact ⟨g, c', rfl, own_mono HA.out (by omega), HB.out⟩
end Go.Proofs.Ytdjehopcpjkgjaa

/- ApplyRule, on both sides. Condition: the lengths are those that the laws let by. -/
namespace Go.Proofs.Ytdjehopcpjkgjaa
open Go.RowKit

theorem c_lengthR (A : Option Addr) (c n : Nat) (w : World) : Calls Try.prog 89 #[.slice A n c] w fun e w' => e = .returned (.int .i64 n) ∧ w = w' := by
  go_enter Try.func89, Try.ntmps89
  go_wp2
  go_ret
  exact ⟨rfl, rfl⟩
def arR (m : Mdl) (y : Int) : Rul := m.rs.getD y.toNat rul0
def arC (m : Mdl) (vs : List Int) (y : Int) : Int := if mdB m && stB m.sz vs then (if inB y 0 (m.rs.length - 1) then (if hlB vs (arR m y).gs then 0 else 5) else 4) else stC m vs
def arL (m : Mdl) (vs : List Int) (y : Int) : List Int := if mdB m && stB m.sz vs then (if inB y 0 (m.rs.length - 1) then (if hlB vs (arR m y).gs then apL vs (arR m y).es else []) else []) else []
theorem rl_of {m : Mdl} {r : Rul} (h : mdB m = true) (hr : r ∈ m.rs) : rlB m.sz r = true := by
  unfold mdB rsB at h
  simp only [Bool.and_eq_true, Bool.not_eq_true', List.any_eq_false] at h
  have h3 := h.2.2.2.2 r hr
  simpa using h3
theorem es_of {m : Mdl} {r : Rul} {vs : List Int} (h : mdB m = true) (h2 : stB m.sz vs = true) (hr : r ∈ m.rs) : EsIn vs.length r.es := by
  have h4 := rl_of h hr
  unfold rlB at h4
  simp only [Bool.and_eq_true] at h4
  rw [st_len h2]
  exact es_in h4.1
theorem vs_pos {m : Mdl} {vs : List Int} (h : mdB m = true) (h2 : stB m.sz vs = true) : 1 ≤ vs.length ∧ vs.length ≤ 16 := by
  rw [st_len h2]
  unfold mdB at h
  simp only [Bool.and_eq_true] at h
  have := h.2.1
  simp [inB] at this
  omega
set_option maxHeartbeats 2000000 in
set_option maxRecDepth 100000 in
theorem c_ApplyRule (m : Mdl) (az ax ar : Option Addr) (cz cs cr : Nat) (A : Option Addr) (c : Nat) (vs : List Int) (y : Int) (w : World) (hok : MOk m) (hl : vs.length ≤ 1048576) (h : Md w az ax ar m) (hv : Rd w A (ints vs)) :
    Calls Try.prog 49 #[mv m az ax ar cz cs cr, .slice A vs.length c, .int .i64 y] w (RetIC (arL m vs y).length (arL m vs y) (arC m vs y) w) := by
  have HC := Lib.hid (fun w' h hv => c_stateCode m az ax ar cz cs cr A c vs w' hok hl h hv)
  have HM := Lib.hid h
  have HV := Lib.hid hv
  have hrl := hok.1.2.2.1
  have hw : IntKind.i64.wrap ((m.rs.length : Int) - 1) = m.rs.length - 1 := IntWalk.i64_in _ (by omega)
  rcases h1 : (mdB m && stB m.sz vs) with _ | _
  · have hC0 : stC m vs = 1 ∨ stC m vs = 2 := by
      unfold stC
      rcases hm : mdB m with _ | _
      · left; rfl
      · rw [hm, Bool.true_and] at h1
        rw [h1]
        right; rfl
    have e1 : arC m vs y = stC m vs := by unfold arC; rw [h1]; rfl
    have e2 : arL m vs y = [] := by unfold arL; rw [h1]; rfl
    rw [e1, e2]
    clear e1 e2 h1 h hv hok
    generalize stC m vs = C at *
    dsimp only [mv] at *
    generalize m.sz.length = sn at *
    generalize m.st.length = tn at *
    generalize m.rs.length = rn at *
    generalize vs.length = vn at *
    rcases hC0 with rfl | rfl
    all_goals
      go_enter Try.func49, Try.ntmps49
      go_wp2_with (fail)
      refine (HC.out _ (HM.out.alloc _) (HV.out.alloc _)).mono ?_
      rintro e w1 ⟨rfl, hb⟩
      have HB := Lib.hid (below_chain (by (repeat (first | exact Below.refl _ _ | assumption | refine below_alloc ?_ _ | refine below_drewN ?_ _ | refine below_set ?_ _ (by simp; try omega) | refine Below.drew ?_)) : Below w.heap.size w _) hb)
      clear hb
      go_wp2
      go_ret2
      exact retIC_nil rfl rfl HB.out
  have h2 := h1
  rw [Bool.and_eq_true] at h2
  have e0 : stC m vs = 0 := by unfold stC; rw [h2.1, h2.2]; rfl
  rw [e0] at HC
  have HGS := Lib.hid (gs_of h2.1 h2.2 hok)
  have HMD := Lib.hid h2
  have HVP := Lib.hid (vs_pos h2.1 h2.2)
  rcases hin : inB y 0 (m.rs.length - 1) with _ | _
  · have e1 : arC m vs y = 4 := by unfold arC; rw [h1, hin]; rfl
    have e2 : arL m vs y = [] := by unfold arL; rw [h1, hin]; rfl
    rw [e1, e2]
    clear e1 e2 h1 h2 h hv hok HGS HVP HMD
    dsimp only [mv] at *
    generalize m.sz.length = sn at *
    generalize m.st.length = tn at *
    generalize m.rs.length = rn at *
    generalize vs.length = vn at *
    go_enter Try.func49, Try.ntmps49
    go_wp2_with (fail)
    refine (HC.out _ (HM.out.alloc _) (HV.out.alloc _)).mono ?_
    rintro e w1 ⟨rfl, hb⟩
    have k2 : w1.cell? ⟨w.heap.size, 2, none⟩ = some (.slice ar rn cr) := cell_later hb (by go_simp)
    have HB := Lib.hid (below_chain (by (repeat (first | exact Below.refl _ _ | assumption | refine below_alloc ?_ _ | refine below_drewN ?_ _ | refine below_set ?_ _ (by simp; try omega) | refine Below.drew ?_)) : Below w.heap.size w _) hb)
    clear hb
    go_wp2_with (first
      | (go_at_call 89
         refine (c_lengthR _ _ _ _).mono ?_
         rintro e w' ⟨rfl, rfl⟩)
      | (go_at_call 88
         refine (c_within _ _ _ _).mono ?_
         rintro e w' ⟨rfl, rfl⟩)
      )
    go_ret2
    exact retIC_nil rfl rfl HB.out
  have hyy : 0 ≤ y ∧ y < m.rs.length := by simp [inB] at hin; omega
  obtain ⟨k, rfl⟩ : ∃ k : Nat, y = k := ⟨y.toNat, by omega⟩
  have hk : k < m.rs.length := by omega
  obtain ⟨r, hz⟩ : ∃ z, m.rs[k]? = some z := ⟨_, List.getElem?_eq_getElem hk⟩
  have har : arR m k = r := by unfold arR; rw [Int.toNat_natCast]; exact getDR hz
  have hmem := List.mem_of_getElem? hz
  have HES := Lib.hid (es_of h2.1 h2.2 hmem)
  have HTS := Lib.hid (HGS.out r hmem)
  have hel := (hok.1.2.2.2 r hmem).2
  have hgl := (hok.1.2.2.2 r hmem).1
  have HZ := Lib.hid hz
  have hi0 : (0 : Int) ≤ (k : Int) := by omega
  have hi1 : (k : Int) < (m.rs.length : Int) := by omega
  have hHL := Lib.hid (fun ag cg w' hv hg => c_holds A c vs ag cg r.gs w' hl hgl HTS.out.1 hv hg)
  have e1 : arC m vs k = if hlB vs r.gs then 0 else 5 := by unfold arC; rw [h1, hin, har]; rfl
  have e2 : arL m vs k = if hlB vs r.gs then apL vs r.es else [] := by unfold arL; rw [h1, hin, har]; rfl
  rw [e1, e2]
  clear e1 e2 h1 h2 hv hok har hmem hz hyy HGS
  rcases hh : hlB vs r.gs with _ | _
  · rw [hh] at hHL
    rw [if_neg (by simp), if_neg (by simp)]
    obtain ⟨bb, ob, ag, cg, ae, ce, har, hbb, _, g1, _, hg, _⟩ := h.r.at HZ.out
    have HG := Lib.hid hg
    subst har
    clear h hg hh HZ HES HTS HVP HMD
    dsimp only [mv] at *
    generalize m.sz.length = sn at *
    generalize m.st.length = tn at *
    generalize m.rs.length = rn at *
    generalize vs.length = vn at *
    generalize r.gs.length = gn at *
    go_enter Try.func49, Try.ntmps49
    go_wp2_with (fail)
    refine (HC.out _ (HM.out.alloc _) (HV.out.alloc _)).mono ?_
    rintro e w1 ⟨rfl, hb⟩
    have k2 : w1.cell? ⟨w.heap.size, 2, none⟩ = some (.slice (some ⟨bb, ob, none⟩) rn cr) := cell_later hb (by go_simp)
    have hst : Below w.heap.size w w1 := below_chain (by (repeat (first | exact Below.refl _ _ | assumption | refine below_alloc ?_ _ | refine below_drewN ?_ _ | refine below_set ?_ _ (by simp; try omega) | refine Below.drew ?_)) : Below w.heap.size w _) hb
    replace g1 := cell_later hst g1
    have HB := Lib.hid hst
    clear hb hst
    go_wp2_with (first
      | (go_at_call 89
         refine (c_lengthR _ _ _ _).mono ?_
         rintro e w' ⟨rfl, rfl⟩)
      | (go_at_call 88
         refine (c_within _ _ _ _).mono ?_
         rintro e w' ⟨rfl, rfl⟩)
      )
    refine (hHL.out _ _ _ (HV.out.below HB.out) (HG.out.below HB.out)).mono ?_
    rintro e w2 ⟨rfl, hb⟩
    have HB2 := Lib.hid (below_chain HB.out hb)
    clear hb
    go_wp2
    go_ret2
    exact retIC_nil rfl rfl HB2.out
  · rw [hh] at hHL
    rw [if_pos rfl, if_pos rfl]
    obtain ⟨bb, ob, ag, cg, ae, ce, har, hbb, g0, g1, g2, hg, he⟩ := h.r.at HZ.out
    have HG := Lib.hid hg
    have HE := Lib.hid he
    obtain ⟨b, off, rfl, _, _⟩ := HV.out.some_ (by intro e; have := HVP.out.1; have h5 := ints_length vs; rw [e] at h5; simp at h5; omega)
    have HAP := Lib.hid (fun nm gn w' hv he => c_apply nm ag ae gn cg r.es.length ce r.es b off c vs.length vs w' rfl hl rfl hel HES.out hv he)
    have HAL := Lib.hid (apL_len r.es vs)
    subst har
    clear h hg he hh HZ HES HTS HVP HMD
    rw [HAL.out]
    dsimp only [mv] at *
    generalize m.sz.length = sn at *
    generalize m.st.length = tn at *
    generalize m.rs.length = rn at *
    generalize vs.length = vn at *
    generalize r.gs.length = gn at *
    generalize r.es.length = en at *
    go_enter Try.func49, Try.ntmps49
    go_wp2_with (fail)
    refine (HC.out _ (HM.out.alloc _) (HV.out.alloc _)).mono ?_
    rintro e w1 ⟨rfl, hb⟩
    have k2 : w1.cell? ⟨w.heap.size, 2, none⟩ = some (.slice (some ⟨bb, ob, none⟩) rn cr) := cell_later hb (by go_simp)
    have hst : Below w.heap.size w w1 := below_chain (by (repeat (first | exact Below.refl _ _ | assumption | refine below_alloc ?_ _ | refine below_drewN ?_ _ | refine below_set ?_ _ (by simp; try omega) | refine Below.drew ?_)) : Below w.heap.size w _) hb
    replace g0 := cell_later hst g0
    replace g1 := cell_later hst g1
    replace g2 := cell_later hst g2
    have HB := Lib.hid hst
    clear hb hst
    go_wp2_with (first
      | (go_at_call 89
         refine (c_lengthR _ _ _ _).mono ?_
         rintro e w' ⟨rfl, rfl⟩)
      | (go_at_call 88
         refine (c_within _ _ _ _).mono ?_
         rintro e w' ⟨rfl, rfl⟩)
      )
    refine (hHL.out _ _ _ (HV.out.below HB.out) (HG.out.below HB.out)).mono ?_
    rintro e w2 ⟨rfl, hb⟩
    have HB2 := Lib.hid (below_chain HB.out hb)
    replace k2 := cell_later hb k2
    replace g0 := cell_later hb g0
    replace g1 := cell_later hb g1
    replace g2 := cell_later hb g2
    clear hb
    go_wp2_with (fail)
    refine (HAP.out _ _ _ (HV.out.below HB2.out) (HE.out.below HB2.out)).mono ?_
    rintro e w3 ⟨g, c', rfl, ho, hb⟩
    have HO := Lib.hid (own_mono ho HB2.out.size)
    have HB3 := Lib.hid (below_chain HB2.out hb)
    clear ho hb
    go_wp2
    go_ret2
    exact ⟨_, c', rfl, HO.out, HB3.out⟩
end Go.Proofs.Ytdjehopcpjkgjaa

/- Lists of lists of numbers: how they read, how they are owned, how one is appended. No condition but the sizes. -/
namespace Go.Proofs.Ytdjehopcpjkgjaa
open Go.RowKit

/-- A list of numbers as it lies in memory. -/
structure IvD where
  l : List Int
  a : Option Addr
  c : Nat
def IvD.v (d : IvD) : Value := .slice d.a d.l.length d.c
def rowsC (ds : List IvD) : List Value := ds.map IvD.v
theorem rowsC_length (ds : List IvD) : (rowsC ds).length = ds.length := by simp [rowsC]
/-- The slice value `.slice A L.length c` holds the lists L. -/
def RdS (w : World) (A : Option Addr) (L : List (List Int)) : Prop :=
  ∃ ds : List IvD, ds.map IvD.l = L ∧ Rd w A (rowsC ds) ∧ ∀ d ∈ ds, Rd w d.a (ints d.l)
theorem RdS.below {w w1 : World} {A : Option Addr} {L : List (List Int)} (h : RdS w A L) (hb : Below w.heap.size w w1) : RdS w1 A L := by
  obtain ⟨ds, e, h1, h2⟩ := h
  exact ⟨ds, e, h1.below hb, fun d hd => (h2 d hd).below hb⟩
theorem RdS.at {w : World} {A : Option Addr} {L : List (List Int)} {k : Nat} {l : List Int} (h : RdS w A L) (hk : L[k]? = some l) : ∃ b off a c, A = some ⟨b, off, none⟩ ∧ b < w.heap.size ∧ w.cell? ⟨b, off + k, none⟩ = some (.slice a l.length c) ∧ Rd w a (ints l) := by
  obtain ⟨ds, rfl, h1, h2⟩ := h
  rw [List.getElem?_map, Option.map_eq_some_iff] at hk
  obtain ⟨d, hd, rfl⟩ := hk
  have u0 : (rowsC ds)[k]? = some d.v := by simp [rowsC, hd]
  obtain ⟨b, off, rfl, hb, hc⟩ := h1.some_ (by intro e; rw [e] at u0; simp at u0)
  exact ⟨b, off, d.a, d.c, rfl, hb, hc _ _ u0, h2 d (List.mem_of_getElem? hd)⟩
/-- The lists are the call's own, each in a block below hi, no two in one; and so is the row of their slices. -/
def OwnS (w : World) (base hi : Nat) (v : Value) (L : List (List Int)) : Prop :=
  ∃ ds : List IvD, ds.map IvD.l = L ∧ w.ownsRow base 22 1 v L.length (rowsC ds) ∧ (∀ d ∈ ds, w.ownsRow base 2 1 d.v d.l.length (ints d.l) ∧ ∀ q, d.v.ownBlock = some q → q < hi) ∧ ds.Pairwise fun a b => ∀ q, a.v.ownBlock = some q → b.v.ownBlock ≠ some q
theorem OwnS.below {w w1 : World} {base hi : Nat} {v : Value} {L : List (List Int)} (h : OwnS w base hi v L) (hb : Below w.heap.size w w1) : OwnS w1 base hi v L := by
  obtain ⟨ds, e, h1, h2, h3⟩ := h
  exact ⟨ds, e, own_below h1 hb, fun d hd => ⟨own_below (h2 d hd).1 hb, (h2 d hd).2⟩, h3⟩
theorem OwnS.mono {w : World} {base base' hi hi' : Nat} {v : Value} {L : List (List Int)} (h : OwnS w base hi v L) (hb : base' ≤ base) (hh : hi ≤ hi') : OwnS w base' hi' v L := by
  obtain ⟨ds, e, h1, h2, h3⟩ := h
  exact ⟨ds, e, own_mono h1 hb, fun d hd => ⟨own_mono (h2 d hd).1 hb, fun q hq => Nat.lt_of_lt_of_le ((h2 d hd).2 q hq) hh⟩, h3⟩
theorem OwnS.rd {w : World} {base hi n c : Nat} {A : Option Addr} {L : List (List Int)} (h : OwnS w base hi (.slice A n c) L) (hn : n = L.length) : RdS w A L := by
  obtain ⟨ds, e, h1, h2, _⟩ := h
  subst hn
  exact ⟨ds, e, Rd.own h1, fun d hd => Rd.own (h2 d hd).1⟩
theorem OwnS.form {w : World} {base hi : Nat} {v : Value} {L : List (List Int)} (h : OwnS w base hi v L) : ∃ A c, v = .slice A L.length c := by
  obtain ⟨ds, _, h1, _⟩ := h
  rcases h1.2 with ⟨e, e2⟩ | ⟨g, cap, cur, e, _⟩
  · exact ⟨none, 0, by rw [e, e2]⟩
  · exact ⟨_, _, e⟩
theorem OwnS.ge {w : World} {base hi : Nat} {v : Value} {L : List (List Int)} (h : OwnS w base hi v L) : ∀ q, v.ownBlock = some q → base ≤ q ∧ q < w.heap.size := by
  obtain ⟨ds, _, h1, _⟩ := h
  exact fun q hq => h1.lt q hq
theorem own_ne {w : World} {b1 b2 : Nat} {e1 e2 : TypeId} {s1 s2 n1 n2 : Nat} {v1 v2 : Value} {x1 x2 : List Value} (h1 : w.ownsRow b1 e1 s1 v1 n1 x1) (h2 : w.ownsRow b2 e2 s2 v2 n2 x2) (he : e1 ≠ e2) : ∀ q, v1.ownBlock = some q → v2.ownBlock = some q → False := by
  intro q hq1 hq2
  rcases h1.2 with ⟨rfl, _⟩ | ⟨g1, c1, cur1, rfl, _, hg1, _⟩
  · simp [Value.ownBlock] at hq1
  · rcases h2.2 with ⟨rfl, _⟩ | ⟨g2, c2, cur2, rfl, _, hg2, _⟩
    · simp [Value.ownBlock] at hq2
    · simp [Value.ownBlock] at hq1 hq2
      subst hq1
      subst hq2
      rw [hg1] at hg2
      simp only [Option.some.injEq, Obj.cells.injEq] at hg2
      exact he hg2.2.1
theorem own_keep {w w' : World} {b1 b2 : Nat} {e1 e2 : TypeId} {s1 s2 n1 n2 : Nat} {v1 v2 : Value} {x1 x2 : List Value} (h1 : w.ownsRow b1 e1 s1 v1 n1 x1) (h2 : w.ownsRow b2 e2 s2 v2 n2 x2) (he : e1 ≠ e2) (hg : w.grownBy w' v2.ownBlock) : w'.ownsRow b1 e1 s1 v1 n1 x1 := by
  refine h1.kept hg ?_
  rcases hv : v1.ownBlock with _ | q
  · exact .inl rfl
  · exact .inr fun h' => own_ne h1 h2 he q hv h'.symm
theorem info_intS : (Try.prog.info? 22).map (fun i => (i.zero, i.size, i.bytes)) = some (some (.slice none 0 0), 1, 24) := by kernel_rfl
/-- append of one list to a list of lists of the call's own. -/
theorem wpList_push_row (w : World) {ops : Array Oper} {rest : List Oper} {o : Oper} {a : Act} {Q : Exit → Act → World → Prop} (hgd : o.guard = none) (s x : Operand)
    (ho : o.op = .call { callee := .builtin .append, args := #[s, x], argTypes := #[53, 53] })
    (base hi hi' : Nat) (v : Value) (L : List (List Int)) (d : IvD) (g c : Nat) (hs : a.eval s = v) (hown : OwnS w base hi v L)
    (hx : a.eval x = .slice (some ⟨g, 0, none⟩) 1 c) (hc : w.cell? ⟨g, 0, none⟩ = some d.v) (hd : w.ownsRow base 2 1 d.v d.l.length (ints d.l)) (hfr : ∀ q, d.v.ownBlock = some q → hi ≤ q ∧ q < hi') (hle : hi ≤ hi') (hn : L.length ≤ 1048577) (hbase : base ≤ w.heap.size)
    (h : ∀ v' w', OwnS w' base hi' v' (L ++ [d.l]) → w.grownBy w' v.ownBlock → wpList Try.prog ops Q rest (a.put o.dst v') w') : wpList Try.prog ops Q (o :: rest) a w := by
  obtain ⟨i0, hi, hz0, hz1, hz2⟩ := info_parts info_intS
  obtain ⟨ds, rfl, h1, h2, h3⟩ := hown
  rw [List.length_map] at h1 hn
  refine wpList_push w hgd s x 53 ho base 22 i0 (.slice none 0 0) 1 24 Try.underlying53 hi hz0 hz1 hz2 rfl (by decide) v ds.length (rowsC ds) hs h1 ⟨g, 0, none⟩ c [d.v] hx rfl ?_ ?_ (by unfold maxLen; omega) (by omega) hbase ?_
  · intro j u hu
    match j, hu with
    | 0, hu =>
      simp only [List.getElem?_cons_zero, Option.some.injEq] at hu
      rw [← hu]
      simpa [Addr.add] using hc
  · intro u hu
    simp only [List.mem_singleton] at hu
    subst hu
    rfl
  · intro v' w' hown1 hgrow _ _
    refine h v' w' ⟨ds ++ [d], by simp, ?_, fun d' hd' => ?_, ?_⟩ hgrow
    · have e : rowsC (ds ++ [d]) = rowsC ds ++ [d.v] := by simp [rowsC]
      rw [e]
      simpa using hown1
    · rcases List.mem_append.1 hd' with hd' | hd'
      · exact ⟨own_keep (h2 d' hd').1 h1 (by decide) hgrow, fun q hq => Nat.lt_of_lt_of_le ((h2 d' hd').2 q hq) hle⟩
      · simp only [List.mem_singleton] at hd'
        subst hd'
        exact ⟨own_keep hd h1 (by decide) hgrow, fun q hq => (hfr q hq).2⟩
    · rw [List.pairwise_append]
      refine ⟨h3, List.pairwise_singleton _ _, fun a' ha' b' hb' q hq hq2 => ?_⟩
      simp only [List.mem_singleton] at hb'
      subst hb'
      have := (h2 a' ha').2 q hq
      have := (hfr q hq2).1
      omega
/-- The same, as one operation. -/
theorem wp_push_row (w : World) {o : Oper} {a : Act} {K : Act → World → Prop} {Q : Exit → Act → World → Prop} (s x : Operand)
    (ho : o.op = .call { callee := .builtin .append, args := #[s, x], argTypes := #[53, 53] })
    (base hi hi' : Nat) (v : Value) (L : List (List Int)) (d : IvD) (g c : Nat) (hs : a.eval s = v) (hown : OwnS w base hi v L)
    (hx : a.eval x = .slice (some ⟨g, 0, none⟩) 1 c) (hc : w.cell? ⟨g, 0, none⟩ = some d.v) (hd : w.ownsRow base 2 1 d.v d.l.length (ints d.l)) (hfr : ∀ q, d.v.ownBlock = some q → hi ≤ q ∧ q < hi') (hle : hi ≤ hi') (hn : L.length ≤ 1048577) (hbase : base ≤ w.heap.size)
    (h : ∀ v' w', OwnS w' base hi' v' (L ++ [d.l]) → w.grownBy w' v.ownBlock → (∀ g, v.ownBlock = some g → ∀ j, j < L.length → w'.cell? ⟨g, j, none⟩ = w.cell? ⟨g, j, none⟩) → K (a.put o.dst v') w') : o.wp Try.prog a w K Q := by
  obtain ⟨i0, hi, hz0, hz1, hz2⟩ := info_parts info_intS
  obtain ⟨ds, rfl, h1, h2, h3⟩ := hown
  rw [List.length_map] at h1 hn
  refine wp_push w s x 53 ho base 22 i0 (.slice none 0 0) 1 24 Try.underlying53 hi hz0 hz1 hz2 rfl (by decide) v ds.length (rowsC ds) hs h1 ⟨g, 0, none⟩ c [d.v] hx rfl ?_ ?_ (by unfold maxLen; omega) (by omega) hbase ?_
  · intro j u hu
    match j, hu with
    | 0, hu =>
      simp only [List.getElem?_cons_zero, Option.some.injEq] at hu
      rw [← hu]
      simpa [Addr.add] using hc
  · intro u hu
    simp only [List.mem_singleton] at hu
    subst hu
    rfl
  · intro v' w' hown1 hgrow hold _
    refine h v' w' ⟨ds ++ [d], by simp, ?_, fun d' hd' => ?_, ?_⟩ hgrow fun g hg j hj => hold g hg j (by rw [List.length_map] at hj; omega)
    · have e : rowsC (ds ++ [d]) = rowsC ds ++ [d.v] := by simp [rowsC]
      rw [e]
      simpa using hown1
    · rcases List.mem_append.1 hd' with hd' | hd'
      · exact ⟨own_keep (h2 d' hd').1 h1 (by decide) hgrow, fun q hq => Nat.lt_of_lt_of_le ((h2 d' hd').2 q hq) hle⟩
      · simp only [List.mem_singleton] at hd'
        subst hd'
        exact ⟨own_keep hd h1 (by decide) hgrow, fun q hq => (hfr q hq).2⟩
    · rw [List.pairwise_append]
      refine ⟨h3, List.pairwise_singleton _ _, fun a' ha' b' hb' q hq hq2 => ?_⟩
      simp only [List.mem_singleton] at hb'
      subst hb'
      have := (h2 a' ha').2 q hq
      have := (hfr q hq2).1
      omega
end Go.Proofs.Ytdjehopcpjkgjaa

/- FollowTrace (program). Condition: the lengths are those that the laws let by. -/
namespace Go.Proofs.Ytdjehopcpjkgjaa
open Go.RowKit

def trS (m : Mdl) (tr : List Int) : Nat → List Int
  | 0 => m.st
  | k + 1 => apL (trS m tr k) (arR m (tr.getD k 0)).es
def trOK (m : Mdl) (tr : List Int) (k : Nat) : Bool := (List.range k).all fun j => hlB (trS m tr j) (arR m (tr.getD j 0)).gs
def trL (m : Mdl) (tr : List Int) (k : Nat) : List (List Int) := (List.range (k + 1)).map (trS m tr)
theorem trL_succ (m : Mdl) (tr : List Int) (k : Nat) : trL m tr (k + 1) = trL m tr k ++ [trS m tr (k + 1)] := by
  unfold trL
  rw [List.range_succ, List.map_append]
  rfl
theorem trL_len (m : Mdl) (tr : List Int) (k : Nat) : (trL m tr k).length = k + 1 := by simp [trL]
theorem trL_at (m : Mdl) (tr : List Int) (k j : Nat) (h : j ≤ k) : (trL m tr k)[j]? = some (trS m tr j) := by
  unfold trL
  rw [List.getElem?_map, List.getElem?_range (by omega)]
  rfl
theorem trS_len (m : Mdl) (tr : List Int) : ∀ k, (trS m tr k).length = m.st.length
  | 0 => rfl
  | k + 1 => by rw [trS, apL_len, trS_len m tr k]
theorem trOK_succ (m : Mdl) (tr : List Int) (k : Nat) : trOK m tr (k + 1) = (trOK m tr k && hlB (trS m tr k) (arR m (tr.getD k 0)).gs) := by simp [trOK, List.range_succ]
theorem trOK_bad {m : Mdl} {tr : List Int} {k n : Nat} (h : hlB (trS m tr k) (arR m (tr.getD k 0)).gs = false) (hk : k < n) : trOK m tr n = false := by
  unfold trOK
  rw [List.all_eq_false]
  exact ⟨k, List.mem_range.2 hk, by show ¬ hlB (trS m tr k) (arR m (tr.getD k 0)).gs = true; rw [h]; simp⟩
def trBad (m : Mdl) (tr : List Int) : Bool := tr.any fun y => !inB y 0 (m.rs.length - 1)
def ftC (m : Mdl) (tr : List Int) : Int := if mdB m then (if 4000 < tr.length then 3 else if trBad m tr then 4 else if trOK m tr tr.length then 0 else 5) else 1
def ftL (m : Mdl) (tr : List Int) : List (List Int) := if mdB m then (if 4000 < tr.length then [] else if trBad m tr then [] else if trOK m tr tr.length then trL m tr tr.length else []) else []
/-- What FollowTrace hands back: lists of the call's own, and a code. -/
def RetSC (n : Nat) (L : List (List Int)) (c : Int) (w : World) (e : Ending) (w' : World) : Prop :=
  ∃ A cap, e = .returned (.tuple #[.slice A n cap, .int .i64 c]) ∧ OwnS w' w.heap.size w'.heap.size (.slice A n cap) L ∧ Below w.heap.size w w'
theorem ownS_nil (w : World) (base hi : Nat) : OwnS w base hi (.slice none 0 0) [] := ⟨[], rfl, World.ownsRow_nil _ _ _ _, by simp, List.Pairwise.nil⟩
theorem retSC_nil {n : Nat} {L : List (List Int)} {c : Int} {w w' : World} (h : L = []) (hn : n = L.length) (hb : Below w.heap.size w w') : RetSC n L c w (.returned (.tuple #[.slice none 0 0, .int .i64 c])) w' := by
  subst h
  subst hn
  exact ⟨none, 0, rfl, ownS_nil _ _ _, hb⟩
set_option maxRecDepth 100000 in
theorem c_FollowTrace1 (p : Nat) (ar : Option Addr) (rn cr : Nat) (y : Int) (w : World) (hrn : rn ≤ 1048576) (k2 : w.cell? ⟨p, 2, none⟩ = some (.slice ar rn cr)) :
    Calls Try.prog 87 #[.int .i64 y, .pointer (some ⟨p, 0, none⟩)] w fun e w' => e = .returned (.bool (!inB y 0 (rn - 1))) ∧ Below w.heap.size w w' := by
  have hw : IntKind.i64.wrap ((rn : Int) - 1) = rn - 1 := IntWalk.i64_in _ (by omega)
  go_enter Try.func87, Try.ntmps87
  go_wp2_with (first
    | (go_at_call 89
       refine (c_lengthR _ _ _ _).mono ?_
       rintro e w' ⟨rfl, rfl⟩)
    | (go_at_call 88
       refine (c_within _ _ _ _).mono ?_
       rintro e w' ⟨rfl, rfl⟩)
    )
  go_ret
  exact ⟨rfl, Below.refl _ _⟩
end Go.Proofs.Ytdjehopcpjkgjaa
