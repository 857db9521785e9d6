/- The source beside a growing world, as in the seats of models; append of one number. No condition but the sizes. -/
import Derived.Test.YthkghpmfbdojeaaDrawR
import Derived.Test.YthkghpmfbdojeaaFBlkO
import Derived.Test.YthkghpmfbdojeaaRgH
namespace Go.Proofs.Ythkghpmfbdojeaa
open Go.RowKit

/-- The source goes on, and nothing else of before has turned. -/
structure DW (B : Nat) (w wr : World) : Prop where
  s : Src wr B
  g : w.grownBy wr (some B)
theorem DW.start {B : Nat} {w : World} (h : Src w B) : DW B w w := ⟨h, grown_refl _ _⟩
theorem gb_far {w a b : World} {row r2 : Option Nat} (h : w.grownBy a row) (hg : a.grownBy b r2) (hr : ∀ q, r2 = some q → w.heap.size ≤ q) : w.grownBy b row :=
  ⟨hg.os.trans h.os, hg.tape.trans h.tape, hg.output.trans h.output, Nat.le_trans h.size hg.size, fun k hk hne => (hg.block k (Nat.lt_of_lt_of_le hk h.size) (fun e => by have := hr k e.symm; omega)).trans (h.block k hk hne)⟩
theorem DW.far {B : Nat} {w a b : World} {r2 : Option Nat} (h : DW B w a) (hB : B < w.heap.size) (hg : a.grownBy b r2) (hr : ∀ q, r2 = some q → w.heap.size ≤ q) : DW B w b :=
  ⟨h.s.far hg (fun q hq => Nat.lt_of_lt_of_le hB (hr q hq)), gb_far h.g hg hr⟩
theorem DW.below {B : Nat} {w a b : World} (h : DW B w a) (hB : B < w.heap.size) (hb : Below a.heap.size a b) : DW B w b := h.far hB (grown_of_below hb none) (by simp)
theorem DW.alloc {B : Nat} {w a : World} (h : DW B w a) (hB : B < w.heap.size) (o : Obj) : DW B w (a.alloc o) := h.below hB (below_alloc (Below.refl _ _) o)
theorem DW.drew {B : Nat} {w a : World} (h : DW B w a) (hB : B < w.heap.size) : DW B w a.drew := h.below hB (Below.refl _ _).drew
theorem DW.then_ {B : Nat} {w a b : World} (h : DW B w a) (h2 : DW B a b) : DW B w b := ⟨h2.s, grown_trans h.g h2.g⟩
theorem DW.set {B : Nat} {w a : World} (h : DW B w a) (hB : B < w.heap.size) {p : Addr} (v : Value) (hp : w.heap.size ≤ p.block) : DW B w (a.setCell p v) := by
  have hb : Below w.heap.size a (a.setCell p v) := (Below.refl _ _).setCell hp v
  refine ⟨h.s.far (row := some p.block) ⟨hb.os, hb.tape, hb.output, hb.size, fun k hk hne => ?_⟩ (by intro q hq; simp at hq; omega), ?_⟩
  · unfold World.setCell
    simp only
    rw [Array.getElem?_modify, if_neg (by intro e; exact hne (by rw [e]))]
  · exact ⟨hb.os.trans h.g.os, hb.tape.trans h.g.tape, hb.output.trans h.g.output, Nat.le_trans h.g.size hb.size, fun k hk hne => (hb.block k hk).trans (h.g.block k hk hne)⟩
theorem DW.own {B : Nat} {w wr : World} (h : DW B w wr) {base : Nat} {e : TypeId} {size n : Nat} {v : Value} {xs : List Value} (ho : w.ownsRow base e size v n xs) (hB : B < base) : wr.ownsRow base e size v n xs :=
  kept_far ho h.g (fun q hq => by simp at hq; omega)
theorem DW.cell {B : Nat} {w wr : World} (h : DW B w wr) {b j : Nat} {v : Value} (hc : w.cell? ⟨b, j, none⟩ = some v) (hB : B ≠ b) : wr.cell? ⟨b, j, none⟩ = some v :=
  cell_mark hc h.g (fun q hq => by simp at hq; simp; omega)
/-- One of some numbers, and the source goes on. -/
def PickP (B : Nat) (zs : List Int) (w : World) (e : Ending) (w' : World) : Prop := ∃ z : Int, z ∈ zs ∧ e = .returned (.int .i64 z) ∧ DW B w w'
set_option maxRecDepth 100000 in
theorem c_PickIn (B g c n : Nat) (zs : List Int) (w : World) (h : Src w B) (hg : g ≠ B) (hn : n = zs.length) (hn0 : 0 < n) (hn1 : n ≤ 100) (hr : Rd w (some ⟨g, 0, none⟩) (ints zs)) :
    Calls Try.prog 34 #[.pointer (some ⟨B, 0, none⟩), .slice (some ⟨g, 0, none⟩) n c] w (PickP B zs w) := by
  have HN := Lib.hid hn
  clear hn
  go_enter Try.func34, Try.ntmps34
  go_wp2_with (fail)
  refine (c_Next B n w h (by omega)).mono ?_
  rintro e w1 ⟨r, rfl, hr0, hr1, hr2, hs, hgr⟩
  have hrn : r < n := by
    rcases Int.lt_or_le 1 n with h1 | h1
    · exact hr1 h1
    · have := hr2 h1; omega
  obtain ⟨k, rfl⟩ : ∃ k : Nat, r = k := ⟨r.toNat, by omega⟩
  obtain ⟨z, hz⟩ : ∃ z, zs[k]? = some z := ⟨_, List.getElem?_eq_getElem (by have := HN.out; omega)⟩
  have HZ := Lib.hid (List.mem_of_getElem? hz)
  obtain ⟨b, off, e, hb, hc⟩ := hr.int hz
  simp only [Option.some.injEq, Addr.mk.injEq, and_true] at e
  obtain ⟨rfl, rfl⟩ := e
  have hc1 : w1.cell? ⟨g, 0 + k, none⟩ = some (.int .i64 z) := cell_mark hc hgr (fun q hq => by simp at hq; simp; omega)
  have HS := Lib.hid hs
  have HG := Lib.hid hgr
  clear hr hz hc hr1 hr2 hs hgr h
  simp only [Nat.zero_add] at hc1
  go_wp2_with (fail)
  go_ret
  exact ⟨z, HZ.out, rfl, HS.out, HG.out⟩
theorem c_NextD (B : Nat) (n : Int) (w : World) (h : Src w B) (hn : n ≤ 9223372036854775807) : Calls Try.prog 30 #[.pointer (some ⟨B, 0, none⟩), .int .i64 n] w fun e w' => ∃ r : Int, e = .returned (.int .i64 r) ∧ 0 ≤ r ∧ (1 ≤ n → r < n) ∧ (n ≤ 1 → r = 0) ∧ DW B w w' :=
  (c_Next B n w h hn).mono fun e w' ⟨r, he, h0, h1, h2, hs, hg⟩ => ⟨r, he, h0, fun hn1 => by
    rcases Int.lt_or_le 1 n with h3 | h3
    · exact h1 h3
    · have := h2 h3; omega, h2, hs, hg⟩
theorem own_shape {w : World} {base : Nat} {e : TypeId} {size n : Nat} {v : Value} {xs : List Value} (h : w.ownsRow base e size v n xs) : ∃ A c, v = .slice A n c := by
  rcases h.2 with ⟨h1, h2⟩ | ⟨g, cap, cur, hv, _⟩
  · exact ⟨none, 0, by rw [h1, h2]⟩
  · exact ⟨_, _, hv⟩
theorem made_int (n : Nat) : (madeCells (Value.int .i64 0).cells (n * 1)).toList = ints (List.replicate n 0) := by
  refine List.ext_getElem (by simp [size_madeCells, ints]) fun j h1 h2 => ?_
  simp [madeCells, ints, Value.cells, Nat.mod_one]
end Go.Proofs.Ythkghpmfbdojeaa
namespace Go.Proofs.Ythkghpmfbdojeaa
open Go.RowKit

/-- Some number, and the source goes on. -/
def SomeD (B : Nat) (w : World) (e : Ending) (w' : World) : Prop := ∃ z : Int, e = .returned (.int .i64 z) ∧ DW B w w'
theorem c_l05ModAny (a s : Int) (w : World) (hs : 1 ≤ s) (hs1 : s ≤ 9223372036854775807) : Calls Try.prog 36 #[.int .i64 a, .int .i64 s] w fun e w' => (∃ z : Int, e = .returned (.int .i64 z)) ∧ w = w' := by
  go_enter Try.func36, Try.ntmps36
  go_wp2
  go_ret
  exact ⟨⟨_, rfl⟩, rfl⟩
set_option maxRecDepth 100000 in
theorem c_l05DrawLength (B : Nat) (A : Option Addr) (c n : Nat) (l : List Seg) (w : World) (h : Src w B) (hn : n = l.length) (hs : n ≤ 1048576) (hB : ∀ w', DW B w w' → Rd w' A (segCells l)) :
    Calls Try.prog 15 #[.pointer (some ⟨B, 0, none⟩), .agg #[.slice A n c]] w (SomeD B w) := by
  have hBl := h.lt
  have HN := Lib.hid hn
  have HT := Lib.hid (fun w' h => c_TotalAny A c n l w' hn hs h)
  have HRD := Lib.hid hB
  have HD := Lib.hid ((DW.start h).alloc hBl (.cells #[.slice A n c] 26))
  clear h hn hB
  go_enter Try.func15, Try.ntmps15
  go_wp2_with (fail)
  refine (c_NextD B _ _ HD.out.s (by omega)).mono ?_
  rintro e w1 ⟨r, rfl, _, _, _, hd⟩
  have HD1 := Lib.hid (HD.out.then_ hd)
  have k0 : w1.cell? ⟨w.heap.size, 0, none⟩ = some (.slice A n c) := hd.cell (by go_simp) (by omega)
  have hw1 := World.block_lt_of_cell? _ _ k0
  dsimp only at hw1
  clear hd HD
  by_cases hr : r = 0
  · subst hr
    go_wp2_with (fail)
    refine wp_region_held_drew (S := (fun w' => w'.cell? ⟨w.heap.size, 0, none⟩ = some (.slice A n c))) (by kernel_rfl) ?_ (fun hHeld => ?_)
    · exact k0
    refine rg_take (v := ?_) 0 rfl (by kernel_rfl) (by kernel_rfl) (by kernel_rfl) (fun _ _ _ h => h) (by kernel_rfl) ?_ (by assumption) ?_
    rotate_left
    · (intro w' hSw; (try dsimp only at hSw); go_simp; first | done | with_reducible rfl)
    simp only [Act.put, List.setIfInBounds_toArray, List.set_cons_zero, List.set_cons_succ]
    refine rg_take (v := ?_) 1 rfl (by kernel_rfl) (by kernel_rfl) (by kernel_rfl) (fun _ _ _ h => h) (by kernel_rfl) ?_ (by assumption) ?_
    rotate_left
    · (intro w' hSw; (try dsimp only at hSw); go_simp; first | done | with_reducible rfl)
    simp only [Act.put, List.setIfInBounds_toArray, List.set_cons_zero, List.set_cons_succ]
    refine rg_take (v := ?_) 3 rfl (by kernel_rfl) (by kernel_rfl) (by kernel_rfl) (fun _ _ _ h => h) (by kernel_rfl) ?_ (by assumption) ?_
    rotate_left
    · (intro w' hSw; (try dsimp only at hSw); go_simp; first | done | with_reducible rfl)
    simp only [Act.put, List.setIfInBounds_toArray, List.set_cons_zero, List.set_cons_succ]
    refine rg_run 2 rfl (by kernel_rfl) (by kernel_rfl) (fun K hK => ?_)
    go_simp
    refine (HT.out _ (by exact HRD.out _ (HD1.out.drew hBl))).mono ?_
    rintro e w2 ⟨t1, rfl, ht1, ht2, hb⟩
    have HD2 := Lib.hid ((HD1.out.drew hBl).below hBl hb)
    replace k0 := cell_later hb (by exact k0)
    clear hb
    go_wp2
    clear hHeld
    refine hK.out _ _ k0 (fun hHeld => ?_)
    clear hK K
    try simp only [Act.put, List.setIfInBounds_toArray, List.set_cons_zero, List.set_cons_succ]
    refine rg_run 4 rfl (by kernel_rfl) (by kernel_rfl) (fun K hK => ?_)
    go_simp
    refine (HT.out _ (by exact HRD.out _ HD2.out)).mono ?_
    rintro e w3 ⟨t2, rfl, ht3, ht4, hb⟩
    have HD3 := Lib.hid (HD2.out.below hBl hb)
    replace k0 := cell_later hb (by exact k0)
    have hw3 := World.block_lt_of_cell? _ _ k0
    dsimp only at hw3
    clear hb
    go_wp2
    clear hHeld
    refine hK.out _ _ k0 (fun hHeld => ?_)
    clear hK K
    try simp only [Act.put, List.setIfInBounds_toArray, List.set_cons_zero, List.set_cons_succ]
    generalize hx : IntKind.i64.wrap (t2 + 1) = x at *
    refine rg_take (v := ?_) 5 rfl (by kernel_rfl) (by kernel_rfl) (by kernel_rfl) (fun _ _ _ h => h) (by kernel_rfl) ?_ (by assumption) ?_
    rotate_left
    · (intro w' hSw; (try dsimp only at hSw); go_simp; first | done | with_reducible rfl)
    simp only [Act.put, List.setIfInBounds_toArray, List.set_cons_zero, List.set_cons_succ]
    refine rg_run 6 rfl (by kernel_rfl) (by kernel_rfl) (fun K hK => ?_)
    go_simp
    have HD4 := Lib.hid (HD3.out.alloc hBl (.cells #[.int .i64 0, .int .i64 1, .int .i64 (-1), .int .i64 40000, .int .i64 40001, .int .i64 t1, .int .i64 x] 2))
    have hr7 := Lib.hid (rd_lit7 w3 0 1 (-1) 40000 40001 t1 x)
    go_wp2
    have k1 : (w3.alloc (.cells #[.int .i64 0, .int .i64 1, .int .i64 (-1), .int .i64 40000, .int .i64 40001, .int .i64 t1, .int .i64 x] 2)).cell? ⟨w.heap.size, 0, none⟩ = some (.slice A n c) := by rw [World.cell?_alloc_lt _ _ _ hw3]; exact k0
    clear hHeld
    refine hK.out _ _ (by exact k1) (fun hHeld => ?_)
    clear hK K
    try simp only [Act.put, List.setIfInBounds_toArray, List.set_cons_zero, List.set_cons_succ]
    clear k0
    refine rg_run 7 rfl (by kernel_rfl) (by kernel_rfl) (fun K hK => ?_)
    go_simp
    refine (c_PickIn B _ _ 7 [0, 1, -1, 40000, 40001, t1, x] _ (by exact HD4.out.s) (by simp; omega) rfl (by decide) (by decide) (by exact hr7.out)).mono ?_
    rintro e w4 ⟨z, _, rfl, hd⟩
    have HD5 := Lib.hid (HD4.out.then_ hd)
    replace k1 := hd.cell k1 (by omega)
    clear hd HD4 hr7
    go_wp2
    clear hHeld
    refine hK.out _ _ k1 (fun hHeld => ?_)
    clear hK K
    try simp only [Act.put, List.setIfInBounds_toArray, List.set_cons_zero, List.set_cons_succ]
    refine rg_take (v := ?_) 8 rfl (by kernel_rfl) (by kernel_rfl) (by kernel_rfl) (fun _ _ _ h => h) (by kernel_rfl) ?_ (by assumption) ?_
    rotate_left
    · (intro w' hSw; (try dsimp only at hSw); go_simp; first | done | with_reducible rfl)
    simp only [Act.put, List.setIfInBounds_toArray, List.set_cons_zero, List.set_cons_succ]
    refine wpAnyH_done (by kernel_rfl) ?_ _
    clear hHeld
    go_wp2_with (fail)
    go_ret
    exact ⟨_, rfl, HD5.out⟩
  · have hrb : (r == 0) = false := by simpa using hr
    go_wp2_with (fail)
    refine (c_NextD B _ _ HD1.out.s (by omega)).mono ?_
    rintro e w2 ⟨y, rfl, _, _, _, hd⟩
    have HD2 := Lib.hid (HD1.out.then_ hd)
    clear hd
    go_wp2_with (fail)
    go_ret
    exact ⟨_, rfl, HD2.out⟩
/-- A short list of numbers in an own row, and the source goes on. -/
def ListD (B : Nat) (w : World) (e : Ending) (w' : World) : Prop := ∃ A c zs, e = .returned (.slice A zs.length c) ∧ zs.length ≤ 6 ∧ w'.ownsRow w.heap.size 2 1 (.slice A zs.length c) zs.length (ints zs) ∧ DW B w w'
set_option maxRecDepth 100000 in
theorem c_l05DrawFronts (B : Nat) (A : Option Addr) (c n : Nat) (l : List Seg) (x : Int) (w : World) (h : Src w B) (hn : n = l.length) (hs : n ≤ 1048576) (hB : ∀ w', DW B w w' → Rd w' A (segCells l)) :
    Calls Try.prog 16 #[.pointer (some ⟨B, 0, none⟩), .agg #[.slice A n c], .int .i64 x] w (ListD B w) := by
  have hBl := h.lt
  have HN := Lib.hid hn
  have HT := Lib.hid (fun w' h => c_TotalAny A c n l w' hn hs h)
  have HRD := Lib.hid hB
  have HD := Lib.hid ((DW.start h).alloc hBl (.cells #[.slice A n c] 26))
  have k0 : (w.alloc (.cells #[.slice A n c] 26)).cell? ⟨w.heap.size, 0, none⟩ = some (.slice A n c) := by go_simp
  clear h hn hB
  go_enter Try.func16, Try.ntmps16
  go_wp2_with (fail)
  refine (HT.out _ (by exact HRD.out _ HD.out)).mono ?_
  rintro e w1 ⟨t1, rfl, ht1, ht2, hb⟩
  have HD1 := Lib.hid (HD.out.below hBl hb)
  replace k0 := cell_later hb k0
  clear hb HD
  have hor : (w1.alloc (.cells #[] 2)).ownsRow w1.heap.size 2 1 (.slice (some ⟨w1.heap.size, 0, none⟩) 0 0) 0 (ints []) := by
    have h := World.ownsRow_lit (e := 2) (size := 1) (base := w1.heap.size) w1 #[] 0 (by simp) (by decide) (by simp)
    simpa [ints] using h
  have hw1 := World.block_lt_of_cell? _ _ k0
  dsimp only at hw1
  have HO := Lib.hid (own_mono hor (Nat.le_of_lt hw1))
  clear hor
  go_upto_region 2 with (fail)
  go_cut [7, 8] from 11 (fun t t8 wx => ∃ T : Int, t = .int .i64 T ∧ t8 = .slice (some ⟨w1.heap.size, 0, none⟩) 0 0 ∧ 1 ≤ T ∧ T ≤ 9223372036854775807 ∧ wx = w1.alloc (.cells #[] 2))
  case first =>
    go_wp2_with (fail)
    all_goals go_meet
    all_goals exact ⟨_, rfl, rfl, by omega, by omega, rfl⟩
  case rest =>
    obtain ⟨T, rfl, rfl, hT1, hT2, rfl⟩ := hcut
    have HD2 := Lib.hid (HD1.out.alloc hBl (.cells #[] 2))
    have hsz : w.heap.size ≤ (w1.alloc (.cells #[] 2)).heap.size := by simp; omega
    clear HD1 k0
    generalize w1.alloc (.cells #[] 2) = W at *
    go_wp2_with (fail)
    refine (c_NextD B _ _ HD2.out.s hT2).mono ?_
    rintro e w2 ⟨a0, rfl, _, _, _, hd⟩
    have HD3 := Lib.hid (HD2.out.then_ hd)
    have HO3 := Lib.hid (hd.own HO.out (by omega))
    clear hd HD2 HO
    go_wp2_with (fail)
    refine (c_NextD B 5 _ HD3.out.s (by omega)).mono ?_
    rintro e w3 ⟨k0, rfl, hk0, hk1, _, hd⟩
    have HD4 := Lib.hid (HD3.out.then_ hd)
    have HO4 := Lib.hid (hd.own HO3.out (by omega))
    replace hk1 := hk1 (by omega)
    obtain ⟨k0, rfl⟩ : ∃ k : Nat, k0 = k := ⟨k0.toNat, by omega⟩
    clear hd HD3 HO3
    go_wp2_with (fail)
    go_loopw [8, 9, 10] (fun o a k wr => ∃ (j : Nat) (z : Int) (zs : List Int), j ≤ 4 ∧ k = .int .i64 j ∧ a = .int .i64 z ∧ zs.length + j ≤ 4 ∧ wr.ownsRow w.heap.size 2 1 o zs.length (ints zs) ∧ DW B w wr) (fun _ _ k _ => (intOf k).toNat)
    case atStart => exact ⟨k0, a0, [], by omega, rfl, rfl, by simp; omega, by simpa using HO4.out, HD4.out⟩
    case round =>
      obtain ⟨j, z, zs, hj, rfl, rfl, hl, ho, hd⟩ := hrel
      clear HD4 HO4
      have HD := Lib.hid hd
      have HO := Lib.hid ho
      have hszr := hd.g.size
      clear hd ho
      by_cases hj0 : 0 < j
      · go_wp2_with (first
          | (at_builtin
             refine wpList_push_int _ rfl (.tmp 24) (.tmp 26) rfl w.heap.size _ zs.length zs z wr.heap.size 1 rfl (own_below HO.out (below_alloc (Below.refl _ _) _)) rfl (by go_simp) (by omega) (by simp; omega) ?_
             intro v1 w4 hown1 hgrow _ _
             have HD4 := Lib.hid ((HD.out.alloc hBl _).far hBl hgrow (fun q hq => (HO.out.lt q hq).1))
             have HO4 := Lib.hid hown1
             have hsz4 := HD4.out.g.size
             clear hown1 hgrow)
          )
        all_goals clear HD HO
        all_goals refine (c_NextD B _ _ HD4.out.s (by omega)).mono ?_
        all_goals rintro e w5 ⟨q, rfl, _, _, _, hd⟩
        all_goals have HD5 := Lib.hid (HD4.out.then_ hd)
        all_goals have HO5 := Lib.hid (hd.own HO4.out (by omega))
        all_goals clear hd HD4 HO4
        all_goals go_wp2_with (fail)
        all_goals refine (c_NextD B _ _ HD5.out.s (by omega)).mono ?_
        all_goals rintro e w6 ⟨q2, rfl, _, _, _, hd⟩
        all_goals have HD6 := Lib.hid (HD5.out.then_ hd)
        all_goals have HO6 := Lib.hid (hd.own HO5.out (by omega))
        all_goals clear hd HD5 HO5
        all_goals go_wp2_with (fail)
        all_goals refine (c_l05ModAny _ T _ hT1 hT2).mono ?_
        all_goals rintro e w7 ⟨⟨z7, rfl⟩, rfl⟩
        all_goals go_wp2_with (fail)
        all_goals go_roundw
        all_goals first
          | exact ⟨j - 1, z7, zs ++ [z], by omega, by congr 1; omega, rfl, by simp; omega, by simpa using HO6.out, HD6.out⟩
          | (simp [intOf]; omega)
      · obtain rfl : j = 0 := by omega
        go_wp2_with (fail)
        refine (c_NextD B 40 _ HD.out.s (by omega)).mono ?_
        rintro e w5 ⟨r, rfl, hr0, hr1, _, hd⟩
        have HD5 := Lib.hid (HD.out.then_ hd)
        have HO5 := Lib.hid (hd.own HO.out (by omega))
        clear hd HD HO
        by_cases hr : r = 0
        · subst hr
          go_wp2_with (fail)
          refine (c_NextD B 2 _ HD5.out.s (by omega)).mono ?_
          rintro e w6 ⟨q, rfl, hq0, hq1, _, hd⟩
          replace hq1 := hq1 (by omega)
          have HD6 := Lib.hid (HD5.out.then_ hd)
          clear hd HD5 HO5
          obtain ⟨i0, hi, hz0, hz1, hz2⟩ := info_parts info_int64
          have hsz6 := HD6.out.g.size
          rcases (show q = 0 ∨ q = 1 by omega) with hq | hq
          · subst hq
            go_wp2_with (first
              | (at_make
                 refine wpList_make_full _ rfl (.tmp 50) (.tmp 50) _ rfl w6.heap.size 2 i0 _ 1 Try.underlying27 hi hz0 hz1 .i64 .i64 _ _ 4 rfl rfl rfl rfl (by rw [hz2]; omega) (by unfold maxLen; omega) (Nat.le_refl _) ?_
                 intro w7 hown hgrow
                 rw [made_int] at hown
                 have HD7 := Lib.hid (HD6.out.far hBl hgrow (by simp))
                 have HO7 := Lib.hid (own_mono hown hsz6)
                 clear hown hgrow)
              )
            go_ret
            exact ⟨_, _, List.replicate 4 0, rfl, by decide, HO7.out, HD7.out⟩
          · subst hq
            go_wp2_with (first
              | (at_make
                 refine wpList_make_full _ rfl (.tmp 50) (.tmp 50) _ rfl w6.heap.size 2 i0 _ 1 Try.underlying27 hi hz0 hz1 .i64 .i64 _ _ 5 rfl rfl rfl rfl (by rw [hz2]; omega) (by unfold maxLen; omega) (Nat.le_refl _) ?_
                 intro w7 hown hgrow
                 rw [made_int] at hown
                 have HD7 := Lib.hid (HD6.out.far hBl hgrow (by simp))
                 have HO7 := Lib.hid (own_mono hown hsz6)
                 clear hown hgrow)
              )
            go_ret
            exact ⟨_, _, List.replicate 5 0, rfl, by decide, HO7.out, HD7.out⟩
        · have hrb : (r == 0) = false := by simpa using hr
          by_cases hr2 : r = 1
          · subst hr2
            have hsz5 := HD5.out.g.size
            go_wp2_with (fail)
            refine (c_PickIn B _ _ 3 [_, _, _] _ (HD5.out.alloc hBl _).s (by omega) rfl (by decide) (by decide) (rd_lit3 _ _ _ _)).mono ?_
            rintro e w6 ⟨y, _, rfl, hd⟩
            have HD6 := Lib.hid ((HD5.out.alloc hBl _).then_ hd)
            have HO6 := Lib.hid (hd.own (own_below HO5.out (below_alloc (Below.refl _ _) _)) (by omega))
            clear hd HD5 HO5
            have hsz6 := HD6.out.g.size
            go_wp2_with (first
              | (at_builtin
                 refine wpList_push_int _ rfl (.tmp 54) (.tmp 61) rfl w.heap.size _ zs.length zs y w6.heap.size 1 rfl (own_below HO6.out (below_alloc (Below.refl _ _) _)) rfl (by go_simp) (by omega) (by simp; omega) ?_
                 intro v1 w7 hown1 hgrow _ _
                 have HD7 := Lib.hid ((HD6.out.alloc hBl _).far hBl hgrow (fun q hq => (HO6.out.lt q hq).1))
                 obtain ⟨A8, c8, rfl⟩ := own_shape hown1
                 have HO7 := Lib.hid hown1
                 clear hown1 hgrow)
              )
            go_ret
            exact ⟨A8, c8, zs ++ [y], by simp, by simp; omega, by simpa using HO7.out, HD7.out⟩
          · have hrb2 : (r == 1) = false := by simpa using hr2
            obtain ⟨A8, c8, rfl⟩ := own_shape HO5.out
            go_wp2_with (fail)
            go_ret
            exact ⟨_, _, zs, rfl, by omega, HO5.out, HD5.out⟩
end Go.Proofs.Ythkghpmfbdojeaa
