/- Contracts and helpers (joined texts, part 1). The conditions stand at each theorem. -/
import Derived.Test.YteengjcplmjakaaGreatDoorH0
import Derived.Lib.ItoaNum
import Derived.Laws.Concat
import Derived.Laws.BytesString
import Derived.Laws.IdiomStrings
import Derived.Test.YteengjcplmjakaaGreatDoorPFp
import Derived.Deep.RegionLaw
import Derived.Lib.SliceRun
import Derived.Laws.OwnMore
import Derived.Shelf.RegionOpenPlain
/- Numbers in decimal, on the reference's side. Condition: the number is not negative. -/
namespace Go.Proofs.YteengjcplmjakaaGreatDoor
open Go.RowKit

section
variable {P : Program} {l : List Oper} {Q : Exit → Act → World → Prop} {md : Region.Mode} {S : World → Prop} {fuel : Nat} {listed : Array Bool} {a : Act} {w : World}
theorem rg_twoT {oi oj : Oper} (i j : Nat) (hi : nthO l i = some oi) (hj : nthO l j = some oj) (hr : Region.ready md l.toArray listed = [i, j]) (hwi : Region.wanted oi (yielded l.toArray a.tmps) = true) (hwj : Region.wanted oj (yielded l.toArray a.tmps) = true)
    (h : ∀ K' : Act → World → Prop, Shut (∀ a w, S w → (S w → wpAnyH P md l.toArray Q S fuel (listed.setIfInBounds i true) a w) → K' a w) → Oper.wp P oi a w K' Q)
    (h' : ∀ K' : Act → World → Prop, Shut (∀ a w, S w → (S w → wpAnyH P md l.toArray Q S fuel (listed.setIfInBounds j true) a w) → K' a w) → Oper.wp P oj a w K' Q) : wpAnyH P md l.toArray Q S (fuel + 1) listed a w :=
  wpAnyH_ready hr (by simp) (AllReadyH.cons (nthO_get hi) (fun K hK => by rw [if_pos hwi]; exact h K hK) (AllReadyH.cons (nthO_get hj) (fun K hK => by rw [if_pos hwj]; exact h' K hK) AllReadyH.nil))
end
def RetStr (L : List UInt8) (w : World) (e : Ending) (w' : World) : Prop := ∃ s : ByteArray, e = .returned (.string s) ∧ s.data.toList = L ∧ Below w.heap.size w w'
theorem run_conv1 (w : World) (b : Nat) (x : UInt8) (hc : w.cell? ⟨b, 0, none⟩ = some (.int .u8 x.toNat)) : (convert 22 9 (.slice (some ⟨b, 0, none⟩) 1 1)).run Tryz.prog w = .ok (.string ⟨#[x]⟩) w :=
  run_convert_bytes_back w 22 9 5 ⟨b, 0, none⟩ 1 [x] Tryz.underlying22 Tryz.underlying5 Tryz.underlying9 (fun j hj => by
    obtain rfl : j = 0 := by simpa using hj
    simpa [Addr.add] using hc)
theorem dig_nat {n : Nat} (h : n < 10) : (UInt8.ofNat (48 + n)).toNat = 48 + n := by
  rw [UInt8.toNat_ofNat']
  exact Nat.mod_eq_of_lt (by omega)
theorem add_str (a b : ByteArray) (h : a.size + b.size ≤ 9223372036854775807) (w : World) : (Op.stringOp .add a b).run Tryz.prog w = .ok (.string (a ++ b)) w := run_string_add_sum w a b h
theorem app_list (a b : ByteArray) : (a ++ b).data.toList = a.data.toList ++ b.data.toList := by simp [ByteArray.data_append]
set_option maxRecDepth 100000 in
theorem c_l01Dec1 (n : Nat) (hn : n < 10) (w : World) : Calls Tryz.prog 132 #[.int .i64 n] w (RetStr (Lib.decDigits n) w) := by
  have h1 : ((n : Int) < 10) := by omega
  have hw : IntKind.i64.wrap (48 + (n : Int)) = 48 + n := IntWalk.i64_in _ (by omega)
  have hw2 : IntKind.u8.wrap (48 + (n : Int)) = 48 + n := by
    unfold IntKind.wrap; simp [IntKind.bits, IntKind.signed]; omega
  obtain ⟨x, hx, hxn⟩ : ∃ x : UInt8, UInt8.ofNat (48 + n) = x ∧ x.toNat = 48 + n := ⟨_, rfl, dig_nat hn⟩
  have hcv := run_conv1 (w.alloc (.cells #[.int .u8 (48 + (n : Int))] 5)) w.heap.size x (by rw [hxn]; go_simp)
  have HX := Lib.hid hx
  clear hx hxn
  go_enter Tryz.func132, Tryz.ntmps132
  go_wp2_with (fail)
  go_ret
  exact ⟨_, rfl, by rw [Lib.decDigits_one hn, HX.out], by (repeat (first | exact Below.refl _ _ | assumption | refine below_alloc ?_ _ | refine below_drewN ?_ _ | refine below_set ?_ _ (by simp; try omega) | refine Below.drew ?_))⟩
theorem dec_step {n q r : Nat} (hq : q = n / 10) (hr : r = n % 10) (hn : ¬ n < 10) : Lib.decDigits n = Lib.decDigits q ++ [UInt8.ofNat (48 + r)] := by
  subst hq hr
  rw [Lib.decDigits, dif_neg hn]
theorem dec_len : ∀ (k n : Nat), n < 10 ^ (k + 1) → (Lib.decDigits n).length ≤ k + 1
  | 0, n, h => by rw [Lib.decDigits_one (by omega)]; simp
  | k + 1, n, h => by
    by_cases hn : n < 10
    · rw [Lib.decDigits_one hn]; simp
    · rw [dec_step rfl rfl hn, List.length_append]
      have := dec_len k (n / 10) (by rw [Nat.pow_succ] at h; omega)
      simp
      omega
theorem size_list {s : ByteArray} {L : List UInt8} (h : s.data.toList = L) : s.size = L.length := by rw [Lib.size_eq, h]
set_option maxRecDepth 100000 in
theorem c_l01Dec : ∀ (n : Nat), n < 1000000000000000000 → ∀ w : World, Calls Tryz.prog 132 #[.int .i64 n] w (RetStr (Lib.decDigits n) w) := by
  intro n
  induction n using Nat.strongRecOn with
  | _ n ih =>
    intro hb w
    by_cases hn : n < 10
    · exact c_l01Dec1 n hn w
    obtain ⟨q, hq⟩ : ∃ q, q = n / 10 := ⟨_, rfl⟩
    obtain ⟨r, hr⟩ : ∃ r, r = n % 10 := ⟨_, rfl⟩
    have hD := dec_step hq hr hn
    rw [hD]
    have h1 : ¬ ((n : Int) < 10) := by omega
    have hlq := dec_len 17 q (by omega)
    have IH := Lib.hid (ih q (by omega) (by omega))
    have hr10 : r < 10 := by omega
    have hw1 : IntKind.i64.wrap ((n : Int) / 10) = (q : Int) := by rw [IntWalk.i64_in _ (by omega)]; omega
    have ht : (n : Int).tmod 10 = (r : Int) := by rw [Int.tmod_eq_emod_of_nonneg (by omega)]; omega
    clear ih hD hq hr
    have hw3 : IntKind.i64.wrap (48 + (r : Int)) = 48 + r := IntWalk.i64_in _ (by omega)
    have hw4 : IntKind.u8.wrap (48 + (r : Int)) = 48 + r := by
      unfold IntKind.wrap; simp [IntKind.bits, IntKind.signed]; omega
    obtain ⟨x, hx, hxn⟩ : ∃ x : UInt8, UInt8.ofNat (48 + r) = x ∧ x.toNat = 48 + r := ⟨_, rfl, dig_nat hr10⟩
    rw [hx]
    have hcv : ∀ (w' : World) (b : Nat), w'.cell? ⟨b, 0, none⟩ = some (.int .u8 (48 + (r : Int))) → (convert 22 9 (.slice (some ⟨b, 0, none⟩) 1 1)).run Tryz.prog w' = .ok (.string ⟨#[x]⟩) w' := fun w' b hc => run_conv1 w' b x (by rw [hxn]; exact hc)
    have HCV := Lib.hid hcv
    clear hcv hx hxn
    go_enter Tryz.func132, Tryz.ntmps132
    go_wp2_with (fail)
    refine wp_region_held_drew (S := (fun _ => True)) (by kernel_rfl) ?_ (fun hHeld => ?_)
    · exact trivial
    refine rg_take (v := ?_) 0 rfl (by kernel_rfl) (by kernel_rfl) (by kernel_rfl) (fun _ _ _ h => h) (by kernel_rfl) ?_ (by assumption) ?_
    rotate_left
    · (intro w' hSw; (try dsimp only at hSw); go_simp; first | done | with_reducible rfl)
    simp only [Act.put, List.setIfInBounds_toArray, List.set_cons_zero, List.set_cons_succ]
    refine rg_take (v := ?_) 1 rfl (by kernel_rfl) (by kernel_rfl) (by kernel_rfl) (fun _ _ _ h => h) (by kernel_rfl) ?_ (by assumption) ?_
    rotate_left
    · (intro w' hSw; (try dsimp only at hSw); go_simp; first | done | with_reducible rfl)
    simp only [Act.put, List.setIfInBounds_toArray, List.set_cons_zero, List.set_cons_succ]
    refine rg_take (v := ?_) 3 rfl (by kernel_rfl) (by kernel_rfl) (by kernel_rfl) (fun _ _ _ h => h) (by kernel_rfl) ?_ (by assumption) ?_
    rotate_left
    · (intro w' hSw; (try dsimp only at hSw); go_simp; first | done | with_reducible rfl)
    simp only [Act.put, List.setIfInBounds_toArray, List.set_cons_zero, List.set_cons_succ]
    refine rg_take (v := ?_) 4 rfl (by kernel_rfl) (by kernel_rfl) (by kernel_rfl) (fun _ _ _ h => h) (by kernel_rfl) ?_ (by assumption) ?_
    rotate_left
    · (intro w' hSw; (try dsimp only at hSw); go_simp; first | done | with_reducible rfl)
    simp only [Act.put, List.setIfInBounds_toArray, List.set_cons_zero, List.set_cons_succ]
    refine rg_take (v := ?_) 5 rfl (by kernel_rfl) (by kernel_rfl) (by kernel_rfl) (fun _ _ _ h => h) (by kernel_rfl) ?_ (by assumption) ?_
    rotate_left
    · (intro w' hSw; (try dsimp only at hSw); go_simp; first | done | with_reducible rfl)
    simp only [Act.put, List.setIfInBounds_toArray, List.set_cons_zero, List.set_cons_succ]
    refine rg_take (v := ?_) 6 rfl (by kernel_rfl) (by kernel_rfl) (by kernel_rfl) (fun _ _ _ h => h) (by kernel_rfl) ?_ (by assumption) ?_
    rotate_left
    · (intro w' hSw; (try dsimp only at hSw); go_simp; first | done | with_reducible rfl)
    simp only [Act.put, List.setIfInBounds_toArray, List.set_cons_zero, List.set_cons_succ]
    refine rg_twoT 2 7 rfl rfl (by kernel_rfl) (by kernel_rfl) (by kernel_rfl) (fun K hK => ?_) (fun K hK => ?_)
    · go_simp
      refine (IH.out _).mono ?_
      rintro e w2 ⟨s, rfl, hs, hb2⟩
      have HB2 := Lib.hid (below_chain (by exact (Below.refl w.heap.size w).drew) hb2)
      have hsz := size_list hs
      have HS := Lib.hid hs
      clear hb2 hs
      have hc8 := HCV.out (w2.alloc (.cells #[.int .u8 (48 + (r : Int))] 5)) w2.heap.size (by go_simp)
      have had := add_str s ⟨#[x]⟩ (by rw [hsz]; simp [ByteArray.size]; omega)
      go_wp2
      clear hHeld
      refine hK.out _ _ trivial (fun hHeld => ?_)
      clear hK K
      try simp only [Act.put, List.setIfInBounds_toArray, List.set_cons_zero, List.set_cons_succ]
      refine rg_run 7 rfl (by kernel_rfl) (by kernel_rfl) (fun K hK => ?_)
      go_simp
      clear hHeld
      refine hK.out _ _ trivial (fun hHeld => ?_)
      clear hK K
      try simp only [Act.put, List.setIfInBounds_toArray, List.set_cons_zero, List.set_cons_succ]
      refine rg_run 8 rfl (by kernel_rfl) (by kernel_rfl) (fun K hK => ?_)
      go_simp
      clear hHeld
      refine hK.out _ _ trivial (fun hHeld => ?_)
      clear hK K
      try simp only [Act.put, List.setIfInBounds_toArray, List.set_cons_zero, List.set_cons_succ]
      refine rg_take (v := ?_) 9 rfl (by kernel_rfl) (by kernel_rfl) (by kernel_rfl) (fun _ _ _ h => h) (by kernel_rfl) ?_ (by assumption) ?_
      rotate_left
      · (intro w' hSw; (try dsimp only at hSw); go_simp; first | done | with_reducible rfl)
      simp only [Act.put, List.setIfInBounds_toArray, List.set_cons_zero, List.set_cons_succ]
      refine rg_take (v := ?_) 10 rfl (by kernel_rfl) (by kernel_rfl) (by kernel_rfl) (fun _ _ _ h => h) (by kernel_rfl) ?_ (by assumption) ?_
      rotate_left
      · (intro w' hSw; (try dsimp only at hSw); go_simp; first | done | with_reducible rfl)
      simp only [Act.put, List.setIfInBounds_toArray, List.set_cons_zero, List.set_cons_succ]
      refine wpAnyH_done (by kernel_rfl) ?_ _
      clear hHeld
      go_wp2_with (fail)
      go_ret
      exact ⟨_, rfl, by rw [app_list, HS.out], by have HB := HB2.out; (repeat (first | exact Below.refl _ _ | assumption | refine below_alloc ?_ _ | refine below_drewN ?_ _ | refine below_set ?_ _ (by simp; try omega) | refine Below.drew ?_))⟩
    · go_simp
      clear hHeld
      refine hK.out _ _ trivial (fun hHeld => ?_)
      clear hK K
      try simp only [Act.put, List.setIfInBounds_toArray, List.set_cons_zero, List.set_cons_succ]
      obtain ⟨W1, hW1⟩ : ∃ W1, (w.alloc (.cells #[.int .u8 (48 + (r : Int))] 5)).drew = W1 := ⟨_, rfl⟩
      have hc1 : W1.cell? ⟨w.heap.size, 0, none⟩ = some (.int .u8 (48 + (r : Int))) := by subst hW1; go_simp
      have HB1 : Hid (Below w.heap.size w W1) := Lib.hid (by subst hW1; (repeat (first | exact Below.refl _ _ | assumption | refine below_alloc ?_ _ | refine below_drewN ?_ _ | refine below_set ?_ _ (by simp; try omega) | refine Below.drew ?_)))
      rw [hW1]
      clear hW1
      refine rg_twoT 2 8 rfl rfl (by kernel_rfl) (by kernel_rfl) (by kernel_rfl) (fun K hK => ?_) (fun K hK => ?_)
      · go_simp
        refine (IH.out _).mono ?_
        rintro e w2 ⟨s, rfl, hs, hb2⟩
        have hsz := size_list hs
        have HS := Lib.hid hs
        have HB2 := Lib.hid (below_chain HB1.out hb2)
        have hc8 := HCV.out w2 w.heap.size (cell_later hb2 hc1)
        have had := add_str s ⟨#[x]⟩ (by rw [hsz]; simp [ByteArray.size]; omega)
        clear hb2 hs hc1
        go_wp2
        clear hHeld
        refine hK.out _ _ trivial (fun hHeld => ?_)
        clear hK K
        try simp only [Act.put, List.setIfInBounds_toArray, List.set_cons_zero, List.set_cons_succ]
        refine rg_run 8 rfl (by kernel_rfl) (by kernel_rfl) (fun K hK => ?_)
        go_simp
        clear hHeld
        refine hK.out _ _ trivial (fun hHeld => ?_)
        clear hK K
        try simp only [Act.put, List.setIfInBounds_toArray, List.set_cons_zero, List.set_cons_succ]
        refine rg_take (v := ?_) 9 rfl (by kernel_rfl) (by kernel_rfl) (by kernel_rfl) (fun _ _ _ h => h) (by kernel_rfl) ?_ (by assumption) ?_
        rotate_left
        · (intro w' hSw; (try dsimp only at hSw); go_simp; first | done | with_reducible rfl)
        simp only [Act.put, List.setIfInBounds_toArray, List.set_cons_zero, List.set_cons_succ]
        refine rg_take (v := ?_) 10 rfl (by kernel_rfl) (by kernel_rfl) (by kernel_rfl) (fun _ _ _ h => h) (by kernel_rfl) ?_ (by assumption) ?_
        rotate_left
        · (intro w' hSw; (try dsimp only at hSw); go_simp; first | done | with_reducible rfl)
        simp only [Act.put, List.setIfInBounds_toArray, List.set_cons_zero, List.set_cons_succ]
        refine wpAnyH_done (by kernel_rfl) ?_ _
        clear hHeld
        go_wp2_with (fail)
        go_ret
        exact ⟨_, rfl, by rw [app_list, HS.out], HB2.out⟩
      · have hc8 := HCV.out W1 w.heap.size hc1
        go_simp
        clear hHeld
        refine hK.out _ _ trivial (fun hHeld => ?_)
        clear hK K
        try simp only [Act.put, List.setIfInBounds_toArray, List.set_cons_zero, List.set_cons_succ]
        refine rg_run 2 rfl (by kernel_rfl) (by kernel_rfl) (fun K hK => ?_)
        go_simp
        refine (IH.out _).mono ?_
        rintro e w2 ⟨s, rfl, hs, hb2⟩
        have hsz := size_list hs
        have HS := Lib.hid hs
        have HB2 := Lib.hid (below_chain HB1.out hb2)
        have had := add_str s ⟨#[x]⟩ (by rw [hsz]; simp [ByteArray.size]; omega)
        clear hb2 hs hc1 hc8
        go_wp2
        clear hHeld
        refine hK.out _ _ trivial (fun hHeld => ?_)
        clear hK K
        try simp only [Act.put, List.setIfInBounds_toArray, List.set_cons_zero, List.set_cons_succ]
        refine rg_take (v := ?_) 9 rfl (by kernel_rfl) (by kernel_rfl) (by kernel_rfl) (fun _ _ _ h => h) (by kernel_rfl) ?_ (by assumption) ?_
        rotate_left
        · (intro w' hSw; (try dsimp only at hSw); go_simp; first | done | with_reducible rfl)
        simp only [Act.put, List.setIfInBounds_toArray, List.set_cons_zero, List.set_cons_succ]
        refine rg_take (v := ?_) 10 rfl (by kernel_rfl) (by kernel_rfl) (by kernel_rfl) (fun _ _ _ h => h) (by kernel_rfl) ?_ (by assumption) ?_
        rotate_left
        · (intro w' hSw; (try dsimp only at hSw); go_simp; first | done | with_reducible rfl)
        simp only [Act.put, List.setIfInBounds_toArray, List.set_cons_zero, List.set_cons_succ]
        refine wpAnyH_done (by kernel_rfl) ?_ _
        clear hHeld
        go_wp2_with (fail)
        go_ret
        exact ⟨_, rfl, by rw [app_list, HS.out], HB2.out⟩
end Go.Proofs.YteengjcplmjakaaGreatDoor

/- Draws of programs, also of those that are not written (printed by DnQ.py). Condition: a source at hand. -/
namespace Go.Proofs.YteengjcplmjakaaGreatDoor
open Go.RowKit

theorem lid_set {i : Nat} (hi : i < 2) (u : Value) (d' : LiD) : ∀ (ds : List LiD) (k : Nat) (d : LiD), ds[k]? = some d → d.cells.set i u = d'.cells → (lidCells ds).set (k * 2 + i) u = lidCells (ds.set k d')
  | [], k, d, h, _ => by simp at h
  | a :: ds, 0, d, h, e => by
    simp only [List.getElem?_cons_zero, Option.some.injEq] at h
    subst h
    show (a.cells ++ lidCells ds).set (0 * 2 + i) u = d'.cells ++ lidCells ds
    rw [Nat.zero_mul, Nat.zero_add, List.set_append_left _ _ (by show i < 2; exact hi), e]
  | a :: ds, k + 1, d, h, e => by
    simp only [List.getElem?_cons_succ] at h
    have ih := lid_set hi u d' ds k d h e
    show (a.cells ++ lidCells ds).set ((k + 1) * 2 + i) u = a.cells ++ lidCells (ds.set k d')
    rw [List.set_append_right _ _ (by show 2 ≤ (k + 1) * 2 + i; omega), ← ih]
    congr 2
    show (k + 1) * 2 + i - 2 = _
    omega
theorem own_nil {w : World} {base : Nat} {e : TypeId} {s : Nat} : w.ownsRow base e s (.slice none 0 0) 0 [] := ⟨by simp, .inl ⟨rfl, rfl⟩⟩
theorem wpList_push_st2 (w : World) {ops : Array Oper} {rest : List Oper} {o : Oper} {a : Act} {Q : Exit → Act → World → Prop} (hgd : o.guard = none) (s x : Operand)
    (ho : o.op = .call { callee := .builtin .append, args := #[s, x], argTypes := #[24, 24] })
    (base : Nat) (v : Value) (n : Nat) (l : List ByteArray) (t : ByteArray) (g c : Nat) (hs : a.eval s = v) (hown : w.ownsRow base 9 1 v n (sts l))
    (hx : a.eval x = .slice (some ⟨g, 0, none⟩) 1 c) (h0 : w.cell? ⟨g, 0, none⟩ = some (.string t)) (hn : n ≤ 1048577) (hbase : base ≤ w.heap.size)
    (h : ∀ v' w', w'.ownsRow base 9 1 v' (n + 1) (sts (l ++ [t])) → w.grownBy w' v.ownBlock → (v'.ownBlock = v.ownBlock ∨ v'.ownBlock = some w.heap.size) → wpList Tryz.prog ops Q rest (a.put o.dst v') w') : wpList Tryz.prog ops Q (o :: rest) a w := by
  obtain ⟨i0, hi, hz0, hz1, hz2⟩ := info_parts info_string
  refine wpList_push w hgd s x 24 ho base 9 i0 _ 1 16 Tryz.underlying24 hi hz0 hz1 hz2 rfl (by decide) v n (sts l) hs hown ⟨g, 0, none⟩ c [.string t] hx rfl ?_ ?_ (by unfold maxLen; omega) (by omega) hbase ?_
  · intro j u hu
    match j, hu with
    | 0, hu => simp only [List.getElem?_cons_zero, Option.some.injEq] at hu; rw [← hu]; simpa [Addr.add] using h0
  · intro u hu
    simp only [List.mem_singleton] at hu
    subst hu; rfl
  · intro v' w' hown1 hgrow _ hbl
    refine h v' w' ?_ hgrow hbl
    have e : sts (l ++ [t]) = sts l ++ [.string t] := by simp [sts]
    rw [e]
    exact hown1
/-- A row of lines written: the rest stays. -/
theorem PRows.put {w w' : World} {base g cc : Nat} {a1 a2 a3 : Option Addr} {c1 c2 c3 n1 n2 n3 n4 : Nat} {ins vs os : List ByteArray} {ds : List LiD} (h : PRows w base a1 a2 a3 (some ⟨g, 0, none⟩) c1 c2 c3 cc n1 n2 n3 n4 ins vs os ds) (hg : w.grownBy w' (some g)) {A : Option Addr} {c n : Nat} {ds' : List LiD} (hn : w'.ownsRow base 80 2 (.slice A n c) n (lidCells ds')) (hd : ∀ d ∈ ds', NestT w base d) : PRows w' base a1 a2 a3 A c1 c2 c3 c n1 n2 n3 n ins vs os ds' :=
  ⟨own_keep h.i h.l (by decide) hg, own_keep h.v h.l (by decide) hg, own_keep h.o h.l (by decide) hg, hn, fun d hd2 => own_keep (hd d hd2) h.l (by decide) hg⟩
/-- A list of strings grown: the rest stays. -/
theorem PRows.grow {w w' : World} {base : Nat} {a2 a3 a4 A : Option Addr} {c n c2 c3 c4 n2 n3 n4 : Nat} {vs os L : List ByteArray} {ds : List LiD} (h : PRows w base none a2 a3 a4 0 c2 c3 c4 0 n2 n3 n4 [] vs os ds) (ho : w.ownsRow base 9 1 (.slice A n c) n (sts L)) (hg : w.grownBy w' (Value.slice A n c).ownBlock) (hs : SepI A a2 a3) : PRows w' base none a2 a3 a4 0 c2 c3 c4 0 n2 n3 n4 [] vs os ds :=
  ⟨own_nil, kept_sep h.v hg (fun b hb e => (hs b ((ob _ _ _).symm.trans hb)).1 ((ob _ _ _).symm.trans e)), kept_sep h.o hg (fun b hb e => (hs b ((ob _ _ _).symm.trans hb)).2 ((ob _ _ _).symm.trans e)), own_keep h.l ho (by decide) hg, fun d hd => own_keep (h.d d hd) ho (by decide) hg⟩
set_option maxHeartbeats 8000000 in
set_option maxRecDepth 100000 in
theorem c_l13DrawAny (B : Nat) (w : World) (h : Src w B) :
    Calls Tryz.prog 85 #[.pointer (some ⟨B, 0, none⟩)] w (ProgP (fun _ _ _ _ => True) B w) := by
  have hBl := h.lt
  have HS := Lib.hid (DW.start h)
  clear h
  have HX0 : Hid (PBox (w.alloc (.cells #[.string ⟨#[]⟩, .slice none 0 0, .slice none 0 0, .slice none 0 0, .string ⟨#[]⟩, .slice none 0 0] 27)) w.heap.size w.heap.size [.string ⟨#[]⟩, .slice none 0 0, .slice none 0 0, .slice none 0 0, .string ⟨#[]⟩, .slice none 0 0]) := Lib.hid (own_box w w.heap.size 27 [.string ⟨#[]⟩, .slice none 0 0, .slice none 0 0, .slice none 0 0, .string ⟨#[]⟩, .slice none 0 0] 6 rfl (Nat.le_refl _))
  have HS0 := Lib.hid (HS.out.alloc hBl (.cells #[.string ⟨#[]⟩, .slice none 0 0, .slice none 0 0, .slice none 0 0, .string ⟨#[]⟩, .slice none 0 0] 27))
  go_enter Tryz.func85, Tryz.ntmps85
  go_wp2_with (fail)
  refine (c_l13Draw B _ HS0.out.s).mono ?_
  rintro e w2 ⟨⟨nm, ins, vs, os, gd, ls⟩, a1, a2, a3, a4, c1, c2, c3, c4, ds, rfl, ho, hok, hF, hd2⟩
  have HZ := Lib.hid (hok.sizes ho.e)
  have HSEP := Lib.hid hF.1
  have hFv : vs.length ≤ 3 := hF.2.1.2.1
  have hF1 : 1 ≤ ls.length := hF.2.2.1
  have hF6 : ls.length ≤ 6 := hF.2.2.2.1
  have HX2 : Hid (PBox _ _ _ _) := Lib.hid (hd2.own2 HX0.out (fun q hq e => by simp only [Value.ownBlock, Option.some.injEq] at hq; omega))
  have HD2 := Lib.hid (HS0.out.then_ hd2)
  have HR2 : Hid (PRows w2 w.heap.size a1 a2 a3 a4 c1 c2 c3 c4 ins.length vs.length os.length ls.length ins vs os ds) := Lib.hid (ho.rows.mono (by simp))
  have hsz2 : w.heap.size < w2.heap.size := by have := hd2.g.size; simp at this; omega
  dsimp only [pv] at HZ ⊢
  clear ho hok hF hd2 HX0 HS0
  generalize ins.length = n1 at *
  generalize vs.length = n2 at *
  generalize os.length = n3 at *
  generalize ls.length = n4 at *
  have BA := below_alloc (Below.refl w2.heap.size w2) (.cells #[.string nm, .slice a1 n1 c1, .slice a2 n2 c2, .slice a3 n3 c3, .string gd, .slice a4 n4 c4] 27)
  have HR3 := Lib.hid (HR2.out.below BA)
  have HP3 : Hid (PBox (w2.alloc (.cells #[.string nm, .slice a1 n1 c1, .slice a2 n2 c2, .slice a3 n3 c3, .string gd, .slice a4 n4 c4] 27)) w.heap.size w2.heap.size [.string nm, .slice a1 n1 c1, .slice a2 n2 c2, .slice a3 n3 c3, .string gd, .slice a4 n4 c4]) := Lib.hid (own_box w2 w.heap.size 27 [.string nm, .slice a1 n1 c1, .slice a2 n2 c2, .slice a3 n3 c3, .string gd, .slice a4 n4 c4] 6 rfl (by omega))
  have HX3 : Hid (PBox _ _ _ _) := Lib.hid (own_below HX2.out BA)
  have HD3 := Lib.hid (HD2.out.below hBl BA)
  clear BA HR2 HX2 HD2
  go_upto_region 2 with (fail)
  generalize w2.alloc (.cells #[.string nm, .slice a1 n1 c1, .slice a2 n2 c2, .slice a3 n3 c3, .string gd, .slice a4 n4 c4] 27) = w3 at *
  generalize w2.heap.size = pb at *
  obtain ⟨⟨b0, b1, b2, b3, b4, b5⟩, _, hltb⟩ := PBox.c HP3.out
  go_wp2_with (fail)
  refine (c_NextD B n4 _ HD3.out.s (by omega)).mono ?_
  rintro e w4 ⟨r, rfl, hr0, hr1, _, hd4⟩
  have hrm : r < n4 := hr1 (by omega)
  obtain ⟨k, rfl⟩ : ∃ k : Nat, r = k := ⟨r.toNat, by omega⟩
  have HR4 := Lib.hid (HR3.out.dw hd4 hBl)
  have HP4 : Hid (PBox _ _ _ _) := Lib.hid (hd4.own HP3.out hBl)
  have HX4 : Hid (PBox _ _ _ _) := Lib.hid (hd4.own2 HX3.out (fun q hq e => by simp only [Value.ownBlock, Option.some.injEq] at hq; omega))
  have HD4 := Lib.hid (HD3.out.then_ hd4)
  clear HR3 HP3 HX3 HD3
  clear hd4 hr1 b0 b1 b2 b3 b4 b5 hltb
  go_wp2_with (fail)
  refine (c_NextD B 30 _ HD4.out.s (by omega)).mono ?_
  rintro e w5 ⟨r, rfl, hr0', hr1, _, hd5⟩
  have HR5 := Lib.hid (HR4.out.dw hd5 hBl)
  have HP5 : Hid (PBox _ _ _ _) := Lib.hid (hd5.own HP4.out hBl)
  have HX5 : Hid (PBox _ _ _ _) := Lib.hid (hd5.own2 HX4.out (fun q hq e => by simp only [Value.ownBlock, Option.some.injEq] at hq; omega))
  have HD5 := Lib.hid (HD4.out.then_ hd5)
  clear HR4 HP4 HX4 HD4
  clear hd5 hr1
  have HDs := Lib.hid (show B < w5.heap.size from Nat.lt_of_lt_of_le hBl HD5.out.g.size)
  have hltp := (PBox.c HP5.out).2.2
  by_cases hc0 : r = 0
  · subst hc0
    have HCL := Lib.hid (rd_litS w5 [⟨#[]⟩, ⟨#[101, 110, 100]⟩, ⟨#[82, 105, 100, 101]⟩] 9 (by decide))
    have BA := below_alloc (Below.refl w5.heap.size w5) (.cells (sts [⟨#[]⟩, ⟨#[101, 110, 100]⟩, ⟨#[82, 105, 100, 101]⟩]).toArray 9)
    have HRc := Lib.hid (HR5.out.below BA)
    have HPc : Hid (PBox _ _ _ _) := Lib.hid (own_below HP5.out BA)
    have HXc : Hid (PBox _ _ _ _) := Lib.hid (own_below HX5.out BA)
    have HDc := Lib.hid (HD5.out.below hBl BA)
    clear HR5 HP5 HX5 HD5
    go_wp2_with (fail)
    refine (c_NextD B 3 _ HDc.out.s (by omega)).mono ?_
    rintro e w6 ⟨r3, rfl, hq0, hq1, _, hd3⟩
    have hq2 := hq1 (by omega)
    obtain ⟨k3, rfl⟩ : ∃ k : Nat, r3 = k := ⟨r3.toNat, by omega⟩
    obtain ⟨x, hx⟩ : ∃ x, ([⟨#[]⟩, ⟨#[101, 110, 100]⟩, ⟨#[82, 105, 100, 101]⟩] : List ByteArray)[k3]? = some x := ⟨_, List.getElem?_eq_getElem (by show k3 < 3; omega)⟩
    have HXZ : Hid (x.size ≤ 1048576) := Lib.hid ((by decide : ∀ s ∈ ([⟨#[]⟩, ⟨#[101, 110, 100]⟩, ⟨#[82, 105, 100, 101]⟩] : List ByteArray), s.size ≤ 1048576) x (List.mem_of_getElem? hx))
    obtain ⟨b, off, e, _, g0⟩ := (HCL.out.dw hd3 (fun b off e => by cases e; have := HDs.out; omega)).st hx
    simp only [Option.some.injEq, Addr.mk.injEq, and_true] at e
    obtain ⟨rfl, rfl⟩ := e
    simp only [Nat.zero_add] at g0
    have HR6 := Lib.hid (HRc.out.dw hd3 hBl)
    have HP6 : Hid (PBox _ _ _ _) := Lib.hid (hd3.own HPc.out hBl)
    have HX6 : Hid (PBox _ _ _ _) := Lib.hid (hd3.own2 HXc.out (fun q hq e => by simp only [Value.ownBlock, Option.some.injEq] at hq; omega))
    have HD6 := Lib.hid (HDc.out.then_ hd3)
    clear HRc HPc HXc HDc
    clear hd3 hq1 hx HCL BA
    have hp := PBox.put HP6.out 0 (.string x)
    obtain ⟨⟨b0, b1, b2, b3, b4, b5⟩, ⟨f0, f1, f2, f3, f4, f5⟩, hltb⟩ := PBox.c HP6.out
    have HRt := Lib.hid (HR6.out.box HP6.out hp.2)
    have HPt : Hid (PBox (w6.setCell ⟨pb, 0, none⟩ (.string x)) w.heap.size pb [.string x, .slice a1 n1 c1, .slice a2 n2 c2, .slice a3 n3 c3, .string gd, .slice a4 n4 c4]) := Lib.hid hp.1
    have HXt := Lib.hid (HX6.out.keep hp.2 (by omega))
    have HDt := Lib.hid (HD6.out.far hBl hp.2 (fun q hq => by simp only [Option.some.injEq] at hq; omega))
    clear hp HR6 HP6 HX6 HD6
    go_upto_region 26 with (fail)
    generalize w6.setCell ⟨pb, 0, none⟩ (.string x) = w7 at *
    clear b0 b1 b2 b3 b4 b5 f0 f1 f2 f3 f4 f5 hltb
    obtain ⟨⟨b0, b1, b2, b3, b4, b5⟩, _, hltb⟩ := PBox.c HPt.out
    obtain ⟨⟨y0, y1, y2, y3, y4, y5⟩, ⟨f0, f1, f2, f3, f4, f5⟩, hlta⟩ := PBox.c HXt.out
    have hz := PBox.fill HXt.out (.string x) (.slice a1 n1 c1) (.slice a2 n2 c2) (.slice a3 n3 c3) (.string gd) (.slice a4 n4 c4)
    have YR := Lib.hid (HRt.out.box HXt.out hz.2)
    have YD := Lib.hid (HDt.out.far hBl hz.2 (fun q hq => by simp only [Option.some.injEq] at hq; omega))
    have YC := Lib.hid hz.1
    have YZ : Hid (PSizes x gd ins vs os ds) := Lib.hid ⟨HXZ.out, HZ.out.g, HZ.out.i, HZ.out.v, HZ.out.o, HZ.out.l, HZ.out.d⟩
    obtain ⟨WF, hWF⟩ : ∃ WF, WF = ((((((w7.setCell ⟨w.heap.size, 0, none⟩ (.string x)).setCell ⟨w.heap.size, 1, none⟩ (.slice a1 n1 c1)).setCell ⟨w.heap.size, 2, none⟩ (.slice a2 n2 c2)).setCell ⟨w.heap.size, 3, none⟩ (.slice a3 n3 c3)).setCell ⟨w.heap.size, 4, none⟩ (.string gd)).setCell ⟨w.heap.size, 5, none⟩ (.slice a4 n4 c4)) := ⟨_, rfl⟩
    rw [← hWF] at YR YD YC
    have HF := Lib.hid hWF
    clear hWF hz HRt HPt HXt HDt
    go_wp2_with (fail)
    rw [← HF.out]
    obtain ⟨⟨r0, r1, r2, r3, r4, r5⟩, _⟩ := PBox.c YC.out
    clear y0 y1 y2 y3 y4 y5 b0 b1 b2 b3 b4 b5 f0 f1 f2 f3 f4 f5
    refine bodyPost_ret (v := .agg #[.string x, .slice a1 n1 c1, .slice a2 n2 c2, .slice a3 n3 c3, .string gd, .slice a4 n4 c4]) (by simp [results, Tryz.results85, go_sem, r0, r1, r2, r3, r4, r5]) rfl (YR.out.prog YZ.out trivial YD.out)
  by_cases hc1 : r = 1
  · subst hc1
    have HRt : Hid (PRows w5 w.heap.size none a2 a3 a4 0 c2 c3 c4 0 n2 n3 n4 [] vs os ds) := Lib.hid ⟨own_nil, HR5.out.v, HR5.out.o, HR5.out.l, HR5.out.d⟩
    have HPt := HP5
    have HXt := HX5
    have HDt := HD5
    obtain ⟨⟨b0, b1, b2, b3, b4, b5⟩, _, hltb⟩ := PBox.c HPt.out
    obtain ⟨⟨y0, y1, y2, y3, y4, y5⟩, ⟨f0, f1, f2, f3, f4, f5⟩, hlta⟩ := PBox.c HXt.out
    have hz := PBox.fill HXt.out (.string nm) (.slice none 0 0) (.slice a2 n2 c2) (.slice a3 n3 c3) (.string ⟨#[]⟩) (.slice a4 n4 c4)
    have YR := Lib.hid (HRt.out.box HXt.out hz.2)
    have YD := Lib.hid (HDt.out.far hBl hz.2 (fun q hq => by simp only [Option.some.injEq] at hq; omega))
    have YC := Lib.hid hz.1
    have YZ : Hid (PSizes nm ⟨#[]⟩ [] vs os ds) := Lib.hid ⟨HZ.out.n, by decide, ⟨by decide, fun t h => by cases h⟩, HZ.out.v, HZ.out.o, HZ.out.l, HZ.out.d⟩
    obtain ⟨WF, hWF⟩ : ∃ WF, WF = ((((((w5.setCell ⟨w.heap.size, 0, none⟩ (.string nm)).setCell ⟨w.heap.size, 1, none⟩ (.slice none 0 0)).setCell ⟨w.heap.size, 2, none⟩ (.slice a2 n2 c2)).setCell ⟨w.heap.size, 3, none⟩ (.slice a3 n3 c3)).setCell ⟨w.heap.size, 4, none⟩ (.string ⟨#[]⟩)).setCell ⟨w.heap.size, 5, none⟩ (.slice a4 n4 c4)) := ⟨_, rfl⟩
    rw [← hWF] at YR YD YC
    have HF := Lib.hid hWF
    clear hWF hz HRt HPt HXt HDt
    go_wp2_with (fail)
    rw [← HF.out]
    obtain ⟨⟨r0, r1, r2, r3, r4, r5⟩, _⟩ := PBox.c YC.out
    clear y0 y1 y2 y3 y4 y5 b0 b1 b2 b3 b4 b5 f0 f1 f2 f3 f4 f5
    refine bodyPost_ret (v := .agg #[.string nm, .slice none 0 0, .slice a2 n2 c2, .slice a3 n3 c3, .string ⟨#[]⟩, .slice a4 n4 c4]) (by simp [results, Tryz.results85, go_sem, r0, r1, r2, r3, r4, r5]) rfl (YR.out.prog YZ.out trivial YD.out)
  by_cases hc2 : r = 2
  · subst hc2
    have HCL := Lib.hid (rd_litS w5 [⟨#[97, 110, 100]⟩, ⟨#[120]⟩, ⟨#[110, 111, 119, 104, 101, 114, 101]⟩] 9 (by decide))
    have BA := below_alloc (Below.refl w5.heap.size w5) (.cells (sts [⟨#[97, 110, 100]⟩, ⟨#[120]⟩, ⟨#[110, 111, 119, 104, 101, 114, 101]⟩]).toArray 9)
    have HRc := Lib.hid (HR5.out.below BA)
    have HPc : Hid (PBox _ _ _ _) := Lib.hid (own_below HP5.out BA)
    have HXc : Hid (PBox _ _ _ _) := Lib.hid (own_below HX5.out BA)
    have HDc := Lib.hid (HD5.out.below hBl BA)
    clear HR5 HP5 HX5 HD5
    go_wp2_with (fail)
    refine (c_NextD B 3 _ HDc.out.s (by omega)).mono ?_
    rintro e w6 ⟨r3, rfl, hq0, hq1, _, hd3⟩
    have hq2 := hq1 (by omega)
    obtain ⟨k3, rfl⟩ : ∃ k : Nat, r3 = k := ⟨r3.toNat, by omega⟩
    obtain ⟨x, hx⟩ : ∃ x, ([⟨#[97, 110, 100]⟩, ⟨#[120]⟩, ⟨#[110, 111, 119, 104, 101, 114, 101]⟩] : List ByteArray)[k3]? = some x := ⟨_, List.getElem?_eq_getElem (by show k3 < 3; omega)⟩
    have HXZ : Hid (x.size ≤ 1048576) := Lib.hid ((by decide : ∀ s ∈ ([⟨#[97, 110, 100]⟩, ⟨#[120]⟩, ⟨#[110, 111, 119, 104, 101, 114, 101]⟩] : List ByteArray), s.size ≤ 1048576) x (List.mem_of_getElem? hx))
    obtain ⟨b, off, e, _, g0⟩ := (HCL.out.dw hd3 (fun b off e => by cases e; have := HDs.out; omega)).st hx
    simp only [Option.some.injEq, Addr.mk.injEq, and_true] at e
    obtain ⟨rfl, rfl⟩ := e
    simp only [Nat.zero_add] at g0
    have HR6 := Lib.hid (HRc.out.dw hd3 hBl)
    have HP6 : Hid (PBox _ _ _ _) := Lib.hid (hd3.own HPc.out hBl)
    have HX6 : Hid (PBox _ _ _ _) := Lib.hid (hd3.own2 HXc.out (fun q hq e => by simp only [Value.ownBlock, Option.some.injEq] at hq; omega))
    have HD6 := Lib.hid (HDc.out.then_ hd3)
    clear HRc HPc HXc HDc
    clear hd3 hq1 hx HCL BA
    have hp := PBox.put HP6.out 4 (.string x)
    obtain ⟨⟨b0, b1, b2, b3, b4, b5⟩, ⟨f0, f1, f2, f3, f4, f5⟩, hltb⟩ := PBox.c HP6.out
    have HRt := Lib.hid (HR6.out.box HP6.out hp.2)
    have HPt : Hid (PBox (w6.setCell ⟨pb, 4, none⟩ (.string x)) w.heap.size pb [.string nm, .slice a1 n1 c1, .slice a2 n2 c2, .slice a3 n3 c3, .string x, .slice a4 n4 c4]) := Lib.hid hp.1
    have HXt := Lib.hid (HX6.out.keep hp.2 (by omega))
    have HDt := Lib.hid (HD6.out.far hBl hp.2 (fun q hq => by simp only [Option.some.injEq] at hq; omega))
    clear hp HR6 HP6 HX6 HD6
    go_upto_region 26 with (fail)
    generalize w6.setCell ⟨pb, 4, none⟩ (.string x) = w7 at *
    clear b0 b1 b2 b3 b4 b5 f0 f1 f2 f3 f4 f5 hltb
    obtain ⟨⟨b0, b1, b2, b3, b4, b5⟩, _, hltb⟩ := PBox.c HPt.out
    obtain ⟨⟨y0, y1, y2, y3, y4, y5⟩, ⟨f0, f1, f2, f3, f4, f5⟩, hlta⟩ := PBox.c HXt.out
    have hz := PBox.fill HXt.out (.string nm) (.slice a1 n1 c1) (.slice a2 n2 c2) (.slice a3 n3 c3) (.string x) (.slice a4 n4 c4)
    have YR := Lib.hid (HRt.out.box HXt.out hz.2)
    have YD := Lib.hid (HDt.out.far hBl hz.2 (fun q hq => by simp only [Option.some.injEq] at hq; omega))
    have YC := Lib.hid hz.1
    have YZ : Hid (PSizes nm x ins vs os ds) := Lib.hid ⟨HZ.out.n, HXZ.out, HZ.out.i, HZ.out.v, HZ.out.o, HZ.out.l, HZ.out.d⟩
    obtain ⟨WF, hWF⟩ : ∃ WF, WF = ((((((w7.setCell ⟨w.heap.size, 0, none⟩ (.string nm)).setCell ⟨w.heap.size, 1, none⟩ (.slice a1 n1 c1)).setCell ⟨w.heap.size, 2, none⟩ (.slice a2 n2 c2)).setCell ⟨w.heap.size, 3, none⟩ (.slice a3 n3 c3)).setCell ⟨w.heap.size, 4, none⟩ (.string x)).setCell ⟨w.heap.size, 5, none⟩ (.slice a4 n4 c4)) := ⟨_, rfl⟩
    rw [← hWF] at YR YD YC
    have HF := Lib.hid hWF
    clear hWF hz HRt HPt HXt HDt
    go_wp2_with (fail)
    rw [← HF.out]
    obtain ⟨⟨r0, r1, r2, r3, r4, r5⟩, _⟩ := PBox.c YC.out
    clear y0 y1 y2 y3 y4 y5 b0 b1 b2 b3 b4 b5 f0 f1 f2 f3 f4 f5
    refine bodyPost_ret (v := .agg #[.string nm, .slice a1 n1 c1, .slice a2 n2 c2, .slice a3 n3 c3, .string x, .slice a4 n4 c4]) (by simp [results, Tryz.results85, go_sem, r0, r1, r2, r3, r4, r5]) rfl (YR.out.prog YZ.out trivial YD.out)
  by_cases hc3 : r = 3
  · subst hc3
    obtain ⟨lb, lc, e9, _, _⟩ := HR5.out.l.form (by omega)
    simp only [Value.slice.injEq, true_and] at e9
    obtain ⟨rfl, rfl⟩ := e9
    obtain ⟨d, hd⟩ : ∃ d, ds[k]? = some d := ⟨_, List.getElem?_eq_getElem (by have := HR5.out.l.1; rw [lidCells_length] at this; omega)⟩
    have HDK := Lib.hid hd
    clear hd
    have hk0 : (0 : Int) ≤ (k : Int) := by omega
    obtain ⟨⟨_, _, _, _, _, b5⟩, _, _⟩ := PBox.c HP5.out
    go_upto_region 11 with (fail)
    refine wp_region_heldE 10 (S := (fun w' => w'.cell? ⟨pb, 5, none⟩ = some (.slice (some ⟨lb, 0, none⟩) n4 c4))) (by kernel_rfl) ?_ (fun hHeld => ?_)
    · exact b5
    refine rgE_take (v := ?_) 0 12 rfl (by kernel_rfl) (by kernel_rfl) (by kernel_rfl) (by kernel_rfl) (by kernel_rfl) (fun _ _ _ h => h) (by kernel_rfl) ?_ (by assumption) ?_
    rotate_left
    · (intro w' hSw; (try dsimp only at hSw); go_simp; first | done | with_reducible rfl)
    simp only [Act.put, List.setIfInBounds_toArray, List.set_cons_zero, List.set_cons_succ]
    refine rgE_take (v := ?_) 1 12 rfl (by kernel_rfl) (by kernel_rfl) (by kernel_rfl) (by kernel_rfl) (by kernel_rfl) (fun _ _ _ h => h) (by kernel_rfl) ?_ (by assumption) ?_
    rotate_left
    · (intro w' hSw; (try dsimp only at hSw); go_simp; first | done | with_reducible rfl)
    simp only [Act.put, List.setIfInBounds_toArray, List.set_cons_zero, List.set_cons_succ]
    refine rgE_take (v := ?_) 2 12 rfl (by kernel_rfl) (by kernel_rfl) (by kernel_rfl) (by kernel_rfl) (by kernel_rfl) (fun _ _ _ h => h) (by kernel_rfl) ?_ (by assumption) ?_
    rotate_left
    · (intro w' hSw; (try dsimp only at hSw); go_simp; first | done | with_reducible rfl)
    simp only [Act.put, List.setIfInBounds_toArray, List.set_cons_zero, List.set_cons_succ]
    refine rgE_take (v := ?_) 4 12 rfl (by kernel_rfl) (by kernel_rfl) (by kernel_rfl) (by kernel_rfl) (by kernel_rfl) (fun _ _ _ h => h) (by kernel_rfl) ?_ (by assumption) ?_
    rotate_left
    · (intro w' hSw; (try dsimp only at hSw); go_simp; first | done | with_reducible rfl)
    simp only [Act.put, List.setIfInBounds_toArray, List.set_cons_zero, List.set_cons_succ]
    refine rgE_two 3 5 rfl rfl (by kernel_rfl) (by kernel_rfl) (by kernel_rfl) (by decide) (by decide) (fun K hK => ?_) (fun K hK => ?_)
    · skip
      have HCL : Hid (Rd (w5.drew.alloc (.cells #[.string ⟨#[]⟩, .string ⟨#[111, 114]⟩, .string ⟨#[97]⟩, .string ⟨#[113]⟩] 9)) (some ⟨w5.heap.size, 0, none⟩) (sts [⟨#[]⟩, ⟨#[111, 114]⟩, ⟨#[97]⟩, ⟨#[113]⟩])) := Lib.hid (rd_litS w5.drew [⟨#[]⟩, ⟨#[111, 114]⟩, ⟨#[97]⟩, ⟨#[113]⟩] 9 (by decide))
      have BA := below_alloc (Below.refl w5.heap.size w5).drew (.cells #[.string ⟨#[]⟩, .string ⟨#[111, 114]⟩, .string ⟨#[97]⟩, .string ⟨#[113]⟩] 9)
      have HR6 := Lib.hid (HR5.out.below BA)
      have HP6 : Hid (PBox _ _ _ _) := Lib.hid (own_below HP5.out BA)
      have HX6 : Hid (PBox _ _ _ _) := Lib.hid (own_below HX5.out BA)
      have HD6 := Lib.hid (HD5.out.below hBl BA)
      clear HR5 HP5 HX5 HD5
      have hba := BA.size
      replace b5 := cell_later BA b5
      go_simp
      clear hHeld
      refine hK.out _ _ (.inr (by exact b5)) (fun hHeld => ?_)
      clear hK K
      try simp only [Act.put, List.setIfInBounds_toArray, List.set_cons_zero, List.set_cons_succ]
      refine rgE_run 5 rfl (by kernel_rfl) (by kernel_rfl) (by decide) (fun K hK => ?_)
      go_simp
      refine (c_NextD B 4 _ HD6.out.s (by omega)).mono ?_
      rintro e w7 ⟨r3, rfl, hq0, hq1, _, hd3⟩
      have hq2 := hq1 (by omega)
      obtain ⟨k3, rfl⟩ : ∃ k : Nat, r3 = k := ⟨r3.toNat, by omega⟩
      obtain ⟨x, hx⟩ : ∃ x, ([⟨#[]⟩, ⟨#[111, 114]⟩, ⟨#[97]⟩, ⟨#[113]⟩] : List ByteArray)[k3]? = some x := ⟨_, List.getElem?_eq_getElem (by show k3 < 4; omega)⟩
      have HXZ : Hid (x.size ≤ 1048576) := Lib.hid ((by decide : ∀ s ∈ ([⟨#[]⟩, ⟨#[111, 114]⟩, ⟨#[97]⟩, ⟨#[113]⟩] : List ByteArray), s.size ≤ 1048576) x (List.mem_of_getElem? hx))
      obtain ⟨b, off, e, _, g0⟩ := (HCL.out.dw hd3 (fun b off e => by cases e; have := HDs.out; simp; omega)).st hx
      simp only [Option.some.injEq, Addr.mk.injEq, and_true] at e
      obtain ⟨rfl, rfl⟩ := e
      simp only [Nat.zero_add] at g0
      replace b5 := hd3.cell b5 (by omega)
      have HR7 := Lib.hid (HR6.out.dw hd3 hBl)
      have HP7 : Hid (PBox _ _ _ _) := Lib.hid (hd3.own HP6.out hBl)
      have HX7 : Hid (PBox _ _ _ _) := Lib.hid (hd3.own2 HX6.out (fun q hq e => by simp only [Value.ownBlock, Option.some.injEq] at hq; omega))
      have HD7 := Lib.hid (HD6.out.then_ hd3)
      clear HR6 HP6 HX6 HD6
      clear hd3 hq1 hx HCL BA
      go_wp2
      clear hHeld
      refine hK.out _ _ (.inr (by exact b5)) (fun hHeld => ?_)
      clear hK K
      try simp only [Act.put, List.setIfInBounds_toArray, List.set_cons_zero, List.set_cons_succ]
      refine rgE_take (v := ?_) 6 12 rfl (by kernel_rfl) (by kernel_rfl) (by kernel_rfl) (by kernel_rfl) (by kernel_rfl) (fun _ _ _ h => h) (by kernel_rfl) ?_ (by assumption) ?_
      rotate_left
      · (intro w' hSw; (try dsimp only at hSw); go_simp; first | done | with_reducible rfl)
      simp only [Act.put, List.setIfInBounds_toArray, List.set_cons_zero, List.set_cons_succ]
      refine rgE_run 7 rfl (by kernel_rfl) (by kernel_rfl) (by decide) (fun K hK => ?_)
      go_simp
      clear hHeld
      refine hK.out _ _ (.inr (by exact b5)) (fun hHeld => ?_)
      clear hK K
      try simp only [Act.put, List.setIfInBounds_toArray, List.set_cons_zero, List.set_cons_succ]
      refine rgE_take (v := ?_) 8 12 rfl (by kernel_rfl) (by kernel_rfl) (by kernel_rfl) (by kernel_rfl) (by kernel_rfl) (fun _ _ _ h => h) (by kernel_rfl) ?_ (by assumption) ?_
      rotate_left
      · (intro w' hSw; (try dsimp only at hSw); go_simp; first | done | with_reducible rfl)
      simp only [Act.put, List.setIfInBounds_toArray, List.set_cons_zero, List.set_cons_succ]
      refine rgE_take (v := ?_) 9 12 rfl (by kernel_rfl) (by kernel_rfl) (by kernel_rfl) (by kernel_rfl) (by kernel_rfl) (fun _ _ _ h => h) (by kernel_rfl) ?_ (by assumption) ?_
      rotate_left
      · (intro w' hSw; (try dsimp only at hSw); go_simp; first | done | with_reducible rfl)
      simp only [Act.put, List.setIfInBounds_toArray, List.set_cons_zero, List.set_cons_succ]
      have HCE : Hid (d.cells.set 0 (.string x) = LiD.cells ⟨⟨x, d.l.ts⟩, d.a, d.c⟩) := Lib.hid rfl
      have HNE : Hid (NestT _ w.heap.size ⟨⟨x, d.l.ts⟩, d.a, d.c⟩) := Lib.hid (HR7.out.d d (List.mem_of_getElem? HDK.out))
      have HNZ : Hid ((x.size ≤ 1048576) ∧ TmOk d.l.ts) := Lib.hid ⟨HXZ.out, (HZ.out.d d (List.mem_of_getElem? HDK.out)).2⟩
      have hst := HR7.out.l.stored (k * 2 + 0) (.string x)
      rw [lid_set (i := 0) (by decide) (.string x) ⟨⟨x, d.l.ts⟩, d.a, d.c⟩ ds k d HDK.out HCE.out] at hst
      obtain ⟨o0, e0⟩ := own_cell HR7.out.l (j := k * 2) (by omega)
      have f0 := HR7.out.l.frozenAt (k * 2)
      have HRt : Hid (PRows (w7.setCell ⟨lb, k * 2, none⟩ (.string x)) w.heap.size a1 a2 a3 (some ⟨lb, 0, none⟩) c1 c2 c3 c4 n1 n2 n3 n4 ins vs os (ds.set k ⟨⟨x, d.l.ts⟩, d.a, d.c⟩)) := Lib.hid (HR7.out.put hst.2 hst.1 (fun d2 hd2 => (List.mem_or_eq_of_mem_set hd2).elim (HR7.out.d d2) (fun e => e ▸ HNE.out)))
      have HPt : Hid (PBox (w7.setCell ⟨lb, k * 2, none⟩ (.string x)) _ _ _) := Lib.hid (own_keep HP7.out HR7.out.l (by decide) hst.2)
      have HXt : Hid (PBox (w7.setCell ⟨lb, k * 2, none⟩ (.string x)) _ _ _) := Lib.hid (own_keep HX7.out HR7.out.l (by decide) hst.2)
      have HDt : Hid (DW B w (w7.setCell ⟨lb, k * 2, none⟩ (.string x))) := Lib.hid (HD7.out.far hBl hst.2 (fun q hq => by simp only [Option.some.injEq] at hq; have := (HR7.out.l.lt lb rfl).1; omega))
      clear hst HR7 HP7 HX7 HD7 b5
      refine rgE_last rfl (by kernel_rfl) (by kernel_rfl) (by kernel_rfl) (fun K hK => ?_)
      go_simp
      clear hHeld
      refine hK.out _ _ ?_
      clear hK K
      try simp only [Act.put, List.setIfInBounds_toArray, List.set_cons_zero, List.set_cons_succ]
      generalize w7.setCell ⟨lb, k * 2, none⟩ (.string x) = w8 at *
      clear o0 e0 f0
      go_upto_region 26 with (fail)
      obtain ⟨⟨b0, b1, b2, b3, b4, b5⟩, _, hltb⟩ := PBox.c HPt.out
      obtain ⟨⟨y0, y1, y2, y3, y4, y5⟩, ⟨f0, f1, f2, f3, f4, f5⟩, hlta⟩ := PBox.c HXt.out
      have hz := PBox.fill HXt.out (.string nm) (.slice a1 n1 c1) (.slice a2 n2 c2) (.slice a3 n3 c3) (.string gd) (.slice (some ⟨lb, 0, none⟩) n4 c4)
      have YR := Lib.hid (HRt.out.box HXt.out hz.2)
      have YD := Lib.hid (HDt.out.far hBl hz.2 (fun q hq => by simp only [Option.some.injEq] at hq; omega))
      have YC := Lib.hid hz.1
      have YZ : Hid (PSizes nm gd ins vs os (ds.set k ⟨⟨x, d.l.ts⟩, d.a, d.c⟩)) := Lib.hid ⟨HZ.out.n, HZ.out.g, HZ.out.i, HZ.out.v, HZ.out.o, by rw [List.length_set]; exact HZ.out.l, fun d2 hd2 => (List.mem_or_eq_of_mem_set hd2).elim (HZ.out.d d2) (fun e => e ▸ HNZ.out)⟩
      obtain ⟨WF, hWF⟩ : ∃ WF, WF = ((((((w8.setCell ⟨w.heap.size, 0, none⟩ (.string nm)).setCell ⟨w.heap.size, 1, none⟩ (.slice a1 n1 c1)).setCell ⟨w.heap.size, 2, none⟩ (.slice a2 n2 c2)).setCell ⟨w.heap.size, 3, none⟩ (.slice a3 n3 c3)).setCell ⟨w.heap.size, 4, none⟩ (.string gd)).setCell ⟨w.heap.size, 5, none⟩ (.slice (some ⟨lb, 0, none⟩) n4 c4)) := ⟨_, rfl⟩
      rw [← hWF] at YR YD YC
      have HF := Lib.hid hWF
      clear hWF hz HRt HPt HXt HDt
      go_wp2_with (fail)
      rw [← HF.out]
      obtain ⟨⟨r0, r1, r2, r3, r4, r5⟩, _⟩ := PBox.c YC.out
      clear y0 y1 y2 y3 y4 y5 b0 b1 b2 b3 b4 b5 f0 f1 f2 f3 f4 f5
      refine bodyPost_ret (v := .agg #[.string nm, .slice a1 n1 c1, .slice a2 n2 c2, .slice a3 n3 c3, .string gd, .slice (some ⟨lb, 0, none⟩) n4 c4]) (by simp [results, Tryz.results85, go_sem, r0, r1, r2, r3, r4, r5]) rfl (YR.out.prog YZ.out trivial YD.out)
    · skip
      go_simp
      refine (c_NextD B 4 _ HD5.out.s.drew (by omega)).mono ?_
      rintro e w6 ⟨r3, rfl, hq0, hq1, _, hd3⟩
      have hq2 := hq1 (by omega)
      obtain ⟨k3, rfl⟩ : ∃ k : Nat, r3 = k := ⟨r3.toNat, by omega⟩
      obtain ⟨x, hx⟩ : ∃ x, ([⟨#[]⟩, ⟨#[111, 114]⟩, ⟨#[97]⟩, ⟨#[113]⟩] : List ByteArray)[k3]? = some x := ⟨_, List.getElem?_eq_getElem (by show k3 < 4; omega)⟩
      have HXZ : Hid (x.size ≤ 1048576) := Lib.hid ((by decide : ∀ s ∈ ([⟨#[]⟩, ⟨#[111, 114]⟩, ⟨#[97]⟩, ⟨#[113]⟩] : List ByteArray), s.size ≤ 1048576) x (List.mem_of_getElem? hx))
      have hdd := ((DW.start HD5.out.s).drew HDs.out).then_ hd3
      have HCL : Hid (Rd (w6.alloc (.cells #[.string ⟨#[]⟩, .string ⟨#[111, 114]⟩, .string ⟨#[97]⟩, .string ⟨#[113]⟩] 9)) (some ⟨w6.heap.size, 0, none⟩) (sts [⟨#[]⟩, ⟨#[111, 114]⟩, ⟨#[97]⟩, ⟨#[113]⟩])) := Lib.hid (rd_litS w6 [⟨#[]⟩, ⟨#[111, 114]⟩, ⟨#[97]⟩, ⟨#[113]⟩] 9 (by decide))
      have BA := below_alloc (Below.refl w6.heap.size w6) (.cells #[.string ⟨#[]⟩, .string ⟨#[111, 114]⟩, .string ⟨#[97]⟩, .string ⟨#[113]⟩] 9)
      replace b5 := hdd.cell b5 (by omega)
      have HR6 := Lib.hid (HR5.out.dw hdd hBl)
      have HP6 : Hid (PBox _ _ _ _) := Lib.hid (hdd.own HP5.out hBl)
      have HX6 : Hid (PBox _ _ _ _) := Lib.hid (hdd.own2 HX5.out (fun q hq e => by simp only [Value.ownBlock, Option.some.injEq] at hq; omega))
      have HD6 := Lib.hid (HD5.out.then_ hdd)
      clear HR5 HP5 HX5 HD5
      go_wp2
      clear hHeld
      refine hK.out _ _ (.inr (by exact b5)) (fun hHeld => ?_)
      clear hK K
      try simp only [Act.put, List.setIfInBounds_toArray, List.set_cons_zero, List.set_cons_succ]
      refine rgE_run 3 rfl (by kernel_rfl) (by kernel_rfl) (by decide) (fun K hK => ?_)
      go_simp
      obtain ⟨b, off, e, _, g0⟩ := HCL.out.st hx
      simp only [Option.some.injEq, Addr.mk.injEq, and_true] at e
      obtain ⟨rfl, rfl⟩ := e
      simp only [Nat.zero_add] at g0
      replace b5 := cell_later BA b5
      have HR7 := Lib.hid (HR6.out.below BA)
      have HP7 : Hid (PBox _ _ _ _) := Lib.hid (own_below HP6.out BA)
      have HX7 : Hid (PBox _ _ _ _) := Lib.hid (own_below HX6.out BA)
      have HD7 := Lib.hid (HD6.out.below hBl BA)
      clear HR6 HP6 HX6 HD6
      clear hHeld
      refine hK.out _ _ (.inr (by exact b5)) (fun hHeld => ?_)
      clear hK K
      try simp only [Act.put, List.setIfInBounds_toArray, List.set_cons_zero, List.set_cons_succ]
      refine rgE_take (v := ?_) 6 12 rfl (by kernel_rfl) (by kernel_rfl) (by kernel_rfl) (by kernel_rfl) (by kernel_rfl) (fun _ _ _ h => h) (by kernel_rfl) ?_ (by assumption) ?_
      rotate_left
      · (intro w' hSw; (try dsimp only at hSw); go_simp; first | done | with_reducible rfl)
      simp only [Act.put, List.setIfInBounds_toArray, List.set_cons_zero, List.set_cons_succ]
      refine rgE_run 7 rfl (by kernel_rfl) (by kernel_rfl) (by decide) (fun K hK => ?_)
      go_simp
      clear hHeld
      refine hK.out _ _ (.inr (by exact b5)) (fun hHeld => ?_)
      clear hK K
      try simp only [Act.put, List.setIfInBounds_toArray, List.set_cons_zero, List.set_cons_succ]
      refine rgE_take (v := ?_) 8 12 rfl (by kernel_rfl) (by kernel_rfl) (by kernel_rfl) (by kernel_rfl) (by kernel_rfl) (fun _ _ _ h => h) (by kernel_rfl) ?_ (by assumption) ?_
      rotate_left
      · (intro w' hSw; (try dsimp only at hSw); go_simp; first | done | with_reducible rfl)
      simp only [Act.put, List.setIfInBounds_toArray, List.set_cons_zero, List.set_cons_succ]
      refine rgE_take (v := ?_) 9 12 rfl (by kernel_rfl) (by kernel_rfl) (by kernel_rfl) (by kernel_rfl) (by kernel_rfl) (fun _ _ _ h => h) (by kernel_rfl) ?_ (by assumption) ?_
      rotate_left
      · (intro w' hSw; (try dsimp only at hSw); go_simp; first | done | with_reducible rfl)
      simp only [Act.put, List.setIfInBounds_toArray, List.set_cons_zero, List.set_cons_succ]
      clear hd3 hdd hq1 hx HCL BA
      have HCE : Hid (d.cells.set 0 (.string x) = LiD.cells ⟨⟨x, d.l.ts⟩, d.a, d.c⟩) := Lib.hid rfl
      have HNE : Hid (NestT _ w.heap.size ⟨⟨x, d.l.ts⟩, d.a, d.c⟩) := Lib.hid (HR7.out.d d (List.mem_of_getElem? HDK.out))
      have HNZ : Hid ((x.size ≤ 1048576) ∧ TmOk d.l.ts) := Lib.hid ⟨HXZ.out, (HZ.out.d d (List.mem_of_getElem? HDK.out)).2⟩
      have hst := HR7.out.l.stored (k * 2 + 0) (.string x)
      rw [lid_set (i := 0) (by decide) (.string x) ⟨⟨x, d.l.ts⟩, d.a, d.c⟩ ds k d HDK.out HCE.out] at hst
      obtain ⟨o0, e0⟩ := own_cell HR7.out.l (j := k * 2) (by omega)
      have f0 := HR7.out.l.frozenAt (k * 2)
      have HRt : Hid (PRows ((w6.alloc (.cells #[.string ⟨#[]⟩, .string ⟨#[111, 114]⟩, .string ⟨#[97]⟩, .string ⟨#[113]⟩] 9)).setCell ⟨lb, k * 2, none⟩ (.string x)) w.heap.size a1 a2 a3 (some ⟨lb, 0, none⟩) c1 c2 c3 c4 n1 n2 n3 n4 ins vs os (ds.set k ⟨⟨x, d.l.ts⟩, d.a, d.c⟩)) := Lib.hid (HR7.out.put hst.2 hst.1 (fun d2 hd2 => (List.mem_or_eq_of_mem_set hd2).elim (HR7.out.d d2) (fun e => e ▸ HNE.out)))
      have HPt : Hid (PBox ((w6.alloc (.cells #[.string ⟨#[]⟩, .string ⟨#[111, 114]⟩, .string ⟨#[97]⟩, .string ⟨#[113]⟩] 9)).setCell ⟨lb, k * 2, none⟩ (.string x)) _ _ _) := Lib.hid (own_keep HP7.out HR7.out.l (by decide) hst.2)
      have HXt : Hid (PBox ((w6.alloc (.cells #[.string ⟨#[]⟩, .string ⟨#[111, 114]⟩, .string ⟨#[97]⟩, .string ⟨#[113]⟩] 9)).setCell ⟨lb, k * 2, none⟩ (.string x)) _ _ _) := Lib.hid (own_keep HX7.out HR7.out.l (by decide) hst.2)
      have HDt : Hid (DW B w ((w6.alloc (.cells #[.string ⟨#[]⟩, .string ⟨#[111, 114]⟩, .string ⟨#[97]⟩, .string ⟨#[113]⟩] 9)).setCell ⟨lb, k * 2, none⟩ (.string x))) := Lib.hid (HD7.out.far hBl hst.2 (fun q hq => by simp only [Option.some.injEq] at hq; have := (HR7.out.l.lt lb rfl).1; omega))
      clear hst HR7 HP7 HX7 HD7 b5
      refine rgE_last rfl (by kernel_rfl) (by kernel_rfl) (by kernel_rfl) (fun K hK => ?_)
      go_simp
      clear hHeld
      refine hK.out _ _ ?_
      clear hK K
      try simp only [Act.put, List.setIfInBounds_toArray, List.set_cons_zero, List.set_cons_succ]
      generalize (w6.alloc (.cells #[.string ⟨#[]⟩, .string ⟨#[111, 114]⟩, .string ⟨#[97]⟩, .string ⟨#[113]⟩] 9)).setCell ⟨lb, k * 2, none⟩ (.string x) = w8 at *
      clear o0 e0 f0
      go_upto_region 26 with (fail)
      obtain ⟨⟨b0, b1, b2, b3, b4, b5⟩, _, hltb⟩ := PBox.c HPt.out
      obtain ⟨⟨y0, y1, y2, y3, y4, y5⟩, ⟨f0, f1, f2, f3, f4, f5⟩, hlta⟩ := PBox.c HXt.out
      have hz := PBox.fill HXt.out (.string nm) (.slice a1 n1 c1) (.slice a2 n2 c2) (.slice a3 n3 c3) (.string gd) (.slice (some ⟨lb, 0, none⟩) n4 c4)
      have YR := Lib.hid (HRt.out.box HXt.out hz.2)
      have YD := Lib.hid (HDt.out.far hBl hz.2 (fun q hq => by simp only [Option.some.injEq] at hq; omega))
      have YC := Lib.hid hz.1
      have YZ : Hid (PSizes nm gd ins vs os (ds.set k ⟨⟨x, d.l.ts⟩, d.a, d.c⟩)) := Lib.hid ⟨HZ.out.n, HZ.out.g, HZ.out.i, HZ.out.v, HZ.out.o, by rw [List.length_set]; exact HZ.out.l, fun d2 hd2 => (List.mem_or_eq_of_mem_set hd2).elim (HZ.out.d d2) (fun e => e ▸ HNZ.out)⟩
      obtain ⟨WF, hWF⟩ : ∃ WF, WF = ((((((w8.setCell ⟨w.heap.size, 0, none⟩ (.string nm)).setCell ⟨w.heap.size, 1, none⟩ (.slice a1 n1 c1)).setCell ⟨w.heap.size, 2, none⟩ (.slice a2 n2 c2)).setCell ⟨w.heap.size, 3, none⟩ (.slice a3 n3 c3)).setCell ⟨w.heap.size, 4, none⟩ (.string gd)).setCell ⟨w.heap.size, 5, none⟩ (.slice (some ⟨lb, 0, none⟩) n4 c4)) := ⟨_, rfl⟩
      rw [← hWF] at YR YD YC
      have HF := Lib.hid hWF
      clear hWF hz HRt HPt HXt HDt
      go_wp2_with (fail)
      rw [← HF.out]
      obtain ⟨⟨r0, r1, r2, r3, r4, r5⟩, _⟩ := PBox.c YC.out
      clear y0 y1 y2 y3 y4 y5 b0 b1 b2 b3 b4 b5 f0 f1 f2 f3 f4 f5
      refine bodyPost_ret (v := .agg #[.string nm, .slice a1 n1 c1, .slice a2 n2 c2, .slice a3 n3 c3, .string gd, .slice (some ⟨lb, 0, none⟩) n4 c4]) (by simp [results, Tryz.results85, go_sem, r0, r1, r2, r3, r4, r5]) rfl (YR.out.prog YZ.out trivial YD.out)
  by_cases hc4 : r = 4
  · subst hc4
    obtain ⟨lb, lc, e9, _, _⟩ := HR5.out.l.form (by omega)
    simp only [Value.slice.injEq, true_and] at e9
    obtain ⟨rfl, rfl⟩ := e9
    obtain ⟨d, hd⟩ : ∃ d, ds[k]? = some d := ⟨_, List.getElem?_eq_getElem (by have := HR5.out.l.1; rw [lidCells_length] at this; omega)⟩
    have HDK := Lib.hid hd
    clear hd
    have hk0 : (0 : Int) ≤ (k : Int) := by omega
    obtain ⟨⟨_, _, _, _, _, b5⟩, _, _⟩ := PBox.c HP5.out
    go_upto_region 13 with (fail)
    refine wp_region_heldE 7 (S := (fun w' => w'.cell? ⟨pb, 5, none⟩ = some (.slice (some ⟨lb, 0, none⟩) n4 c4))) (by kernel_rfl) ?_ (fun hHeld => ?_)
    · exact b5
    refine rgE_take (v := ?_) 0 12 rfl (by kernel_rfl) (by kernel_rfl) (by kernel_rfl) (by kernel_rfl) (by kernel_rfl) (fun _ _ _ h => h) (by kernel_rfl) ?_ (by assumption) ?_
    rotate_left
    · (intro w' hSw; (try dsimp only at hSw); go_simp; first | done | with_reducible rfl)
    simp only [Act.put, List.setIfInBounds_toArray, List.set_cons_zero, List.set_cons_succ]
    refine rgE_take (v := ?_) 1 12 rfl (by kernel_rfl) (by kernel_rfl) (by kernel_rfl) (by kernel_rfl) (by kernel_rfl) (fun _ _ _ h => h) (by kernel_rfl) ?_ (by assumption) ?_
    rotate_left
    · (intro w' hSw; (try dsimp only at hSw); go_simp; first | done | with_reducible rfl)
    simp only [Act.put, List.setIfInBounds_toArray, List.set_cons_zero, List.set_cons_succ]
    refine rgE_take (v := ?_) 2 12 rfl (by kernel_rfl) (by kernel_rfl) (by kernel_rfl) (by kernel_rfl) (by kernel_rfl) (fun _ _ _ h => h) (by kernel_rfl) ?_ (by assumption) ?_
    rotate_left
    · (intro w' hSw; (try dsimp only at hSw); go_simp; first | done | with_reducible rfl)
    simp only [Act.put, List.setIfInBounds_toArray, List.set_cons_zero, List.set_cons_succ]
    refine rgE_take (v := ?_) 3 12 rfl (by kernel_rfl) (by kernel_rfl) (by kernel_rfl) (by kernel_rfl) (by kernel_rfl) (fun _ _ _ h => h) (by kernel_rfl) ?_ (by assumption) ?_
    rotate_left
    · (intro w' hSw; (try dsimp only at hSw); go_simp; first | done | with_reducible rfl)
    simp only [Act.put, List.setIfInBounds_toArray, List.set_cons_zero, List.set_cons_succ]
    refine rgE_run 4 rfl (by kernel_rfl) (by kernel_rfl) (by decide) (fun K hK => ?_)
    go_simp
    refine (c_DrawExpression B _ HD5.out.s.drew).mono ?_
    rintro e w7 ⟨g, n, ce, us, rfl, hnt, hn41, ho, hnm, hd3⟩
    have hdd := ((DW.start HD5.out.s).drew HDs.out).then_ hd3
    replace b5 := hdd.cell b5 (by omega)
    have HNT := Lib.hid hnt
    have HNE : Hid (NestT w7 w.heap.size ⟨⟨d.l.tg, us⟩, some ⟨g, 0, none⟩, ce⟩) := Lib.hid (by
      show w7.ownsRow _ _ 3 (Value.slice (some ⟨g, 0, none⟩) us.length ce) us.length _
      rw [← HNT.out]
      exact own_mono ho HD5.out.g.size)
    have HNZ : Hid ((d.l.tg.size ≤ 1048576) ∧ TmOk us) := Lib.hid ⟨(HZ.out.d d (List.mem_of_getElem? HDK.out)).1, by rw [← HNT.out]; omega, hnm⟩
    have HCE : Hid (d.cells.set 1 (.slice (some ⟨g, 0, none⟩) n ce) = LiD.cells ⟨⟨d.l.tg, us⟩, some ⟨g, 0, none⟩, ce⟩) := Lib.hid (by
      show [_, _] = [_, Value.slice (some ⟨g, 0, none⟩) us.length ce]
      rw [← HNT.out])
    have HR7 := Lib.hid (HR5.out.dw hdd hBl)
    have HP7 : Hid (PBox _ _ _ _) := Lib.hid (hdd.own HP5.out hBl)
    have HX7 : Hid (PBox _ _ _ _) := Lib.hid (hdd.own2 HX5.out (fun q hq e => by simp only [Value.ownBlock, Option.some.injEq] at hq; omega))
    have HD7 := Lib.hid (HD5.out.then_ hdd)
    clear HR5 HP5 HX5 HD5
    clear hd3 hdd hnt hnm ho
    go_wp2
    clear hHeld
    refine hK.out _ _ (.inr (by exact b5)) (fun hHeld => ?_)
    clear hK K
    try simp only [Act.put, List.setIfInBounds_toArray, List.set_cons_zero, List.set_cons_succ]
    refine rgE_take (v := ?_) 5 12 rfl (by kernel_rfl) (by kernel_rfl) (by kernel_rfl) (by kernel_rfl) (by kernel_rfl) (fun _ _ _ h => h) (by kernel_rfl) ?_ (by assumption) ?_
    rotate_left
    · (intro w' hSw; (try dsimp only at hSw); go_simp; first | done | with_reducible rfl)
    simp only [Act.put, List.setIfInBounds_toArray, List.set_cons_zero, List.set_cons_succ]
    refine rgE_take (v := ?_) 6 12 rfl (by kernel_rfl) (by kernel_rfl) (by kernel_rfl) (by kernel_rfl) (by kernel_rfl) (fun _ _ _ h => h) (by kernel_rfl) ?_ (by assumption) ?_
    rotate_left
    · (intro w' hSw; (try dsimp only at hSw); go_simp; first | done | with_reducible rfl)
    simp only [Act.put, List.setIfInBounds_toArray, List.set_cons_zero, List.set_cons_succ]
    have hst := HR7.out.l.stored (k * 2 + 1) (.slice (some ⟨g, 0, none⟩) n ce)
    rw [lid_set (i := 1) (by decide) (.slice (some ⟨g, 0, none⟩) n ce) ⟨⟨d.l.tg, us⟩, some ⟨g, 0, none⟩, ce⟩ ds k d HDK.out HCE.out] at hst
    obtain ⟨o0, e0⟩ := own_cell HR7.out.l (j := k * 2 + 1) (by omega)
    have f0 := HR7.out.l.frozenAt (k * 2 + 1)
    have HRt : Hid (PRows (w7.setCell ⟨lb, k * 2 + 1, none⟩ (.slice (some ⟨g, 0, none⟩) n ce)) w.heap.size a1 a2 a3 (some ⟨lb, 0, none⟩) c1 c2 c3 c4 n1 n2 n3 n4 ins vs os (ds.set k ⟨⟨d.l.tg, us⟩, some ⟨g, 0, none⟩, ce⟩)) := Lib.hid (HR7.out.put hst.2 hst.1 (fun d2 hd2 => (List.mem_or_eq_of_mem_set hd2).elim (HR7.out.d d2) (fun e => e ▸ HNE.out)))
    have HPt : Hid (PBox (w7.setCell ⟨lb, k * 2 + 1, none⟩ (.slice (some ⟨g, 0, none⟩) n ce)) _ _ _) := Lib.hid (own_keep HP7.out HR7.out.l (by decide) hst.2)
    have HXt : Hid (PBox (w7.setCell ⟨lb, k * 2 + 1, none⟩ (.slice (some ⟨g, 0, none⟩) n ce)) _ _ _) := Lib.hid (own_keep HX7.out HR7.out.l (by decide) hst.2)
    have HDt : Hid (DW B w (w7.setCell ⟨lb, k * 2 + 1, none⟩ (.slice (some ⟨g, 0, none⟩) n ce))) := Lib.hid (HD7.out.far hBl hst.2 (fun q hq => by simp only [Option.some.injEq] at hq; have := (HR7.out.l.lt lb rfl).1; omega))
    clear hst HR7 HP7 HX7 HD7 b5
    refine rgE_last rfl (by kernel_rfl) (by kernel_rfl) (by kernel_rfl) (fun K hK => ?_)
    go_simp
    clear hHeld
    refine hK.out _ _ ?_
    clear hK K
    try simp only [Act.put, List.setIfInBounds_toArray, List.set_cons_zero, List.set_cons_succ]
    generalize w7.setCell ⟨lb, k * 2 + 1, none⟩ (.slice (some ⟨g, 0, none⟩) n ce) = w8 at *
    clear o0 e0 f0
    go_upto_region 26 with (fail)
    obtain ⟨⟨b0, b1, b2, b3, b4, b5⟩, _, hltb⟩ := PBox.c HPt.out
    obtain ⟨⟨y0, y1, y2, y3, y4, y5⟩, ⟨f0, f1, f2, f3, f4, f5⟩, hlta⟩ := PBox.c HXt.out
    have hz := PBox.fill HXt.out (.string nm) (.slice a1 n1 c1) (.slice a2 n2 c2) (.slice a3 n3 c3) (.string gd) (.slice (some ⟨lb, 0, none⟩) n4 c4)
    have YR := Lib.hid (HRt.out.box HXt.out hz.2)
    have YD := Lib.hid (HDt.out.far hBl hz.2 (fun q hq => by simp only [Option.some.injEq] at hq; omega))
    have YC := Lib.hid hz.1
    have YZ : Hid (PSizes nm gd ins vs os (ds.set k ⟨⟨d.l.tg, us⟩, some ⟨g, 0, none⟩, ce⟩)) := Lib.hid ⟨HZ.out.n, HZ.out.g, HZ.out.i, HZ.out.v, HZ.out.o, by rw [List.length_set]; exact HZ.out.l, fun d2 hd2 => (List.mem_or_eq_of_mem_set hd2).elim (HZ.out.d d2) (fun e => e ▸ HNZ.out)⟩
    obtain ⟨WF, hWF⟩ : ∃ WF, WF = ((((((w8.setCell ⟨w.heap.size, 0, none⟩ (.string nm)).setCell ⟨w.heap.size, 1, none⟩ (.slice a1 n1 c1)).setCell ⟨w.heap.size, 2, none⟩ (.slice a2 n2 c2)).setCell ⟨w.heap.size, 3, none⟩ (.slice a3 n3 c3)).setCell ⟨w.heap.size, 4, none⟩ (.string gd)).setCell ⟨w.heap.size, 5, none⟩ (.slice (some ⟨lb, 0, none⟩) n4 c4)) := ⟨_, rfl⟩
    rw [← hWF] at YR YD YC
    have HF := Lib.hid hWF
    clear hWF hz HRt HPt HXt HDt
    go_wp2_with (fail)
    rw [← HF.out]
    obtain ⟨⟨r0, r1, r2, r3, r4, r5⟩, _⟩ := PBox.c YC.out
    clear y0 y1 y2 y3 y4 y5 b0 b1 b2 b3 b4 b5 f0 f1 f2 f3 f4 f5
    refine bodyPost_ret (v := .agg #[.string nm, .slice a1 n1 c1, .slice a2 n2 c2, .slice a3 n3 c3, .string gd, .slice (some ⟨lb, 0, none⟩) n4 c4]) (by simp [results, Tryz.results85, go_sem, r0, r1, r2, r3, r4, r5]) rfl (YR.out.prog YZ.out trivial YD.out)
  by_cases hc5 : r = 5
  · subst hc5
    obtain ⟨⟨_, b1, _, _, _, _⟩, _, _⟩ := PBox.c HP5.out
    go_wp2_with (fail)
    go_loopw [5] (fun u wr => ∃ (A : Option Addr) (n c : Nat) (L : List ByteArray), n ≤ 1048576 ∧ u = .slice A n c ∧ Hid (wr.ownsRow w.heap.size 9 1 (.slice A n c) n (sts L)) ∧ Hid (∀ s ∈ L, s.size ≤ 1048576) ∧ Hid (SepI A a2 a3) ∧ Hid (PRows wr w.heap.size none a2 a3 a4 0 c2 c3 c4 0 n2 n3 n4 [] vs os ds)
        ∧ Hid (PBox wr w.heap.size pb [.string nm, .slice a1 n1 c1, .slice a2 n2 c2, .slice a3 n3 c3, .string gd, .slice a4 n4 c4]) ∧ Hid (PBox wr w.heap.size w.heap.size [.string ⟨#[]⟩, .slice none 0 0, .slice none 0 0, .slice none 0 0, .string ⟨#[]⟩, .slice none 0 0]) ∧ Hid (DW B w wr)) (fun u _ => 22 - lenV u)
    case atStart => exact ⟨a1, n1, c1, ins, by have := HR5.out.i.1; rw [sts_length] at this; have := HZ.out.i.1; omega, rfl, Lib.hid HR5.out.i, Lib.hid HZ.out.i.2, HSEP, Lib.hid ⟨own_nil, HR5.out.v, HR5.out.o, HR5.out.l, HR5.out.d⟩, HP5, HX5, HD5⟩
    case round =>
      clear b1 HR5 HP5 HX5 HD5 HDs hltp
      obtain ⟨A, n, c, L, hnb, rfl, ho, hsz, hsep, hrr, hbp, hbx, hdw⟩ := hrel
      go_wp2_with (fail)
      refine (c_NextD B 2 _ hdw.out.s (by omega)).mono ?_
      rintro e w6 ⟨r5, rfl, hq0, hq1, _, hd3⟩
      have hq2 := hq1 (by omega)
      have HO6 := Lib.hid (hd3.own ho.out hBl)
      have HR6 := Lib.hid (hrr.out.dw hd3 hBl)
      have HP6 : Hid (PBox _ _ _ _) := Lib.hid (hd3.own hbp.out hBl)
      have HX6 : Hid (PBox _ _ _ _) := Lib.hid (hd3.own2 hbx.out (fun q hq e => by simp only [Value.ownBlock, Option.some.injEq] at hq; omega))
      have HD6 := Lib.hid (hdw.out.then_ hd3)
      clear hd3 hq1 ho hrr hbp hbx hdw
      have hw5 : IntKind.i64.wrap (20 + r5) = 20 + r5 := IntWalk.i64_in _ (by omega)
      by_cases hlt : (n : Int) < 20 + r5
      · go_wp2_with (fail)
        refine (c_l01Dec n (by omega) _).mono ?_
        rintro e w7 ⟨s, rfl, hs, hb7⟩
        have hss := size_list hs
        have hdl := dec_len 17 n (by omega)
        have hs18 : s.size ≤ 18 := by omega
        have had := add_str ⟨#[105]⟩ s (by have e1 : (⟨#[105]⟩ : ByteArray).size = 1 := rfl; omega)
        have HSS : Hid ((⟨#[105]⟩ ++ s : ByteArray).size ≤ 1048576) := Lib.hid (by rw [ByteArray.size_append]; have e1 : (⟨#[105]⟩ : ByteArray).size = 1 := rfl; omega)
        have HO7 := Lib.hid (own_below HO6.out hb7)
        have HR7 := Lib.hid (HR6.out.below hb7)
        have HP7 : Hid (PBox _ _ _ _) := Lib.hid (own_below HP6.out hb7)
        have HX7 : Hid (PBox _ _ _ _) := Lib.hid (own_below HX6.out hb7)
        have HD7 := Lib.hid (HD6.out.below hBl hb7)
        clear HR6 HP6 HX6 HD6
        clear hb7 hs hss hdl HO6
        generalize (⟨#[105]⟩ ++ s : ByteArray) = y at *
        have BA := below_alloc (Below.refl w7.heap.size w7) (.cells #[.string y] 9)
        go_wp2_with (first
          | (at_builtin
             refine wpList_push_st2 _ rfl (.tmp 74) (.tmp 79) rfl w.heap.size (.slice A n c) n L y w7.heap.size 1 rfl (own_below HO7.out BA) rfl (by go_simp) (by omega) (by have := HD7.out.g.size; simp; omega) ?_
             intro v8 w8 hown hgrow hbl
             obtain ⟨A8, c8, rfl⟩ := own_shape hown
             have HO8 := Lib.hid hown
             rw [ob, ob] at hbl
             have HS8 : Hid (SepI A8 a2 a3) := Lib.hid (fun b hb => ⟨sep_next hbl (fun b hb => (hsep.out b hb).1) (fun b hb => by have := (HR7.out.v.lt b ((ob _ _ _).trans hb)).2; simp; omega) b hb, sep_next hbl (fun b hb => (hsep.out b hb).2) (fun b hb => by have := (HR7.out.o.lt b ((ob _ _ _).trans hb)).2; simp; omega) b hb⟩)
             have HR8 := Lib.hid ((HR7.out.below BA).grow (own_below HO7.out BA) hgrow hsep.out)
             have HP8 : Hid (PBox w8 w.heap.size pb [.string nm, .slice a1 n1 c1, .slice a2 n2 c2, .slice a3 n3 c3, .string gd, .slice a4 n4 c4]) := Lib.hid (own_keep (own_below HP7.out BA) (own_below HO7.out BA) (by decide) hgrow)
             have HX8 : Hid (PBox w8 w.heap.size w.heap.size [.string ⟨#[]⟩, .slice none 0 0, .slice none 0 0, .slice none 0 0, .string ⟨#[]⟩, .slice none 0 0]) := Lib.hid (own_keep (own_below HX7.out BA) (own_below HO7.out BA) (by decide) hgrow)
             have HD8 := Lib.hid ((HD7.out.below hBl BA).far hBl hgrow (fun q hq => (HO7.out.lt q hq).1))
             clear hown hgrow hbl HO7 HR7 HP7 HX7 HD7)
          )
        go_roundw
        case rel => exact ⟨A8, n + 1, c8, L ++ [y], by omega, rfl, HO8, Lib.hid (fun t ht => (List.mem_append.1 ht).elim (hsz.out t) (fun e => by rw [List.mem_singleton] at e; subst e; exact HSS.out)), HS8, HR8, HP8, HX8, HD8⟩
        case measure => simp [lenV]; omega
      · have hp := PBox.put HP6.out 1 (.slice A n c)
        obtain ⟨⟨b0, b1, b2, b3, b4, b5⟩, ⟨f0, f1, f2, f3, f4, f5⟩, hltb⟩ := PBox.c HP6.out
        have hx1 : pb ≠ w.heap.size := by omega
        have HRt : Hid (PRows (w6.setCell ⟨pb, 1, none⟩ (.slice A n c)) w.heap.size A a2 a3 a4 c c2 c3 c4 n n2 n3 n4 L vs os ds) := Lib.hid (PRows.box ⟨HO6.out, HR6.out.v, HR6.out.o, HR6.out.l, HR6.out.d⟩ HP6.out hp.2)
        have HPt : Hid (PBox (w6.setCell ⟨pb, 1, none⟩ (.slice A n c)) w.heap.size pb [.string nm, .slice A n c, .slice a2 n2 c2, .slice a3 n3 c3, .string gd, .slice a4 n4 c4]) := Lib.hid hp.1
        have HXt := Lib.hid (HX6.out.keep hp.2 (by omega))
        have HDt := Lib.hid (HD6.out.far hBl hp.2 (fun q hq => by simp only [Option.some.injEq] at hq; omega))
        have hnl : L.length = n := by have := HO6.out.1; rw [sts_length] at this; omega
        have HLZ : Hid (L.length ≤ 1048576) := Lib.hid (by omega)
        clear hp HR6 HP6 HX6 HD6 HO6 hnl
        go_upto_region 26 with (fail)
        generalize w6.setCell ⟨pb, 1, none⟩ (.slice A n c) = w7 at *
        clear b0 b1 b2 b3 b4 b5 f0 f1 f2 f3 f4 f5 hltb
        obtain ⟨⟨b0, b1, b2, b3, b4, b5⟩, _, hltb⟩ := PBox.c HPt.out
        obtain ⟨⟨y0, y1, y2, y3, y4, y5⟩, ⟨f0, f1, f2, f3, f4, f5⟩, hlta⟩ := PBox.c HXt.out
        have hz := PBox.fill HXt.out (.string nm) (.slice A n c) (.slice a2 n2 c2) (.slice a3 n3 c3) (.string gd) (.slice a4 n4 c4)
        have YR := Lib.hid (HRt.out.box HXt.out hz.2)
        have YD := Lib.hid (HDt.out.far hBl hz.2 (fun q hq => by simp only [Option.some.injEq] at hq; omega))
        have YC := Lib.hid hz.1
        have YZ : Hid (PSizes nm gd L vs os ds) := Lib.hid ⟨HZ.out.n, HZ.out.g, ⟨HLZ.out, hsz.out⟩, HZ.out.v, HZ.out.o, HZ.out.l, HZ.out.d⟩
        obtain ⟨WF, hWF⟩ : ∃ WF, WF = ((((((w7.setCell ⟨w.heap.size, 0, none⟩ (.string nm)).setCell ⟨w.heap.size, 1, none⟩ (.slice A n c)).setCell ⟨w.heap.size, 2, none⟩ (.slice a2 n2 c2)).setCell ⟨w.heap.size, 3, none⟩ (.slice a3 n3 c3)).setCell ⟨w.heap.size, 4, none⟩ (.string gd)).setCell ⟨w.heap.size, 5, none⟩ (.slice a4 n4 c4)) := ⟨_, rfl⟩
        rw [← hWF] at YR YD YC
        have HF := Lib.hid hWF
        clear hWF hz HRt HPt HXt HDt
        go_wp2_with (fail)
        rw [← HF.out]
        obtain ⟨⟨r0, r1, r2, r3, r4, r5⟩, _⟩ := PBox.c YC.out
        clear y0 y1 y2 y3 y4 y5 b0 b1 b2 b3 b4 b5 f0 f1 f2 f3 f4 f5
        refine bodyPost_ret (v := .agg #[.string nm, .slice A n c, .slice a2 n2 c2, .slice a3 n3 c3, .string gd, .slice a4 n4 c4]) (by simp [results, Tryz.results85, go_sem, r0, r1, r2, r3, r4, r5]) rfl (YR.out.prog YZ.out trivial YD.out)
  by_cases hc6 : r = 6
  · subst hc6
    obtain ⟨lb0, lc0, e9, _, _⟩ := HR5.out.l.form (by omega)
    simp only [Value.slice.injEq, true_and] at e9
    obtain ⟨rfl, rfl⟩ := e9
    obtain ⟨⟨_, _, _, _, _, b5⟩, _, _⟩ := PBox.c HP5.out
    go_wp2_with (fail)
    go_loopw [6] (fun u wr => ∃ (lb n c : Nat) (us : List LiD), 1 ≤ n ∧ n ≤ 1048576 ∧ u = .slice (some ⟨lb, 0, none⟩) n c ∧ Hid (PRows wr w.heap.size a1 a2 a3 (some ⟨lb, 0, none⟩) c1 c2 c3 c n1 n2 n3 n ins vs os us) ∧ Hid (∀ d ∈ us, d.l.tg.size ≤ 1048576 ∧ TmOk d.l.ts)
        ∧ Hid (PBox wr w.heap.size pb [.string nm, .slice a1 n1 c1, .slice a2 n2 c2, .slice a3 n3 c3, .string gd, .slice (some ⟨lb0, 0, none⟩) n4 c4]) ∧ Hid (PBox wr w.heap.size w.heap.size [.string ⟨#[]⟩, .slice none 0 0, .slice none 0 0, .slice none 0 0, .string ⟨#[]⟩, .slice none 0 0]) ∧ Hid (DW B w wr)) (fun u _ => 42 - lenV u)
    case atStart => exact ⟨lb0, n4, c4, ds, hF1, by omega, rfl, HR5, Lib.hid HZ.out.d, HP5, HX5, HD5⟩
    case round =>
      clear b5 HR5 HP5 HX5 HD5 HDs hltp
      obtain ⟨lb, n, c, us, hn1, hnb, rfl, hrr, hsz, hbp, hbx, hdw⟩ := hrel
      go_wp2_with (fail)
      refine (c_NextD B 2 _ hdw.out.s (by omega)).mono ?_
      rintro e w6 ⟨r5, rfl, hq0, hq1, _, hd3⟩
      have hq2 := hq1 (by omega)
      have HR6 := Lib.hid (hrr.out.dw hd3 hBl)
      have HP6 : Hid (PBox _ _ _ _) := Lib.hid (hd3.own hbp.out hBl)
      have HX6 : Hid (PBox _ _ _ _) := Lib.hid (hd3.own2 hbx.out (fun q hq e => by simp only [Value.ownBlock, Option.some.injEq] at hq; omega))
      have HD6 := Lib.hid (hdw.out.then_ hd3)
      clear hd3 hq1 hrr hbp hbx hdw
      have hw5 : IntKind.i64.wrap (40 + r5) = 40 + r5 := IntWalk.i64_in _ (by omega)
      have hul : us.length = n := by have := HR6.out.l.1; rw [lidCells_length] at this; omega
      have HUL := Lib.hid hul
      clear hul
      by_cases hlt : (n : Int) < 40 + r5
      · obtain ⟨d, hd⟩ : ∃ d, us[0]? = some d := ⟨_, List.getElem?_eq_getElem (by have := HUL.out; omega)⟩
        have HDK := Lib.hid (List.mem_of_getElem? hd)
        obtain ⟨u0, u1⟩ := lidCells_at hd
        have g0 : w6.cell? ⟨lb, 0, none⟩ = some (.string d.l.tg) := (HR6.out.l.cellAt 0 (by omega)).trans u0
        have g1 : w6.cell? ⟨lb, 1, none⟩ = some d.v := (HR6.out.l.cellAt 1 (by omega)).trans u1
        have hn0 : (0 : Int) < (n : Int) := by omega
        clear hd u0 u1
        have HV : ∃ dv, Hid (d.v = dv) := ⟨d.v, Lib.hid rfl⟩
        obtain ⟨ad, nd, cd, hdv⟩ : ∃ ad nd cd, Hid (d.v = .slice ad nd cd) := ⟨d.a, d.l.ts.length, d.c, Lib.hid rfl⟩
        rw [hdv.out] at g1
        obtain ⟨tg, htg⟩ : ∃ tg, Hid (d.l.tg = tg) := ⟨_, Lib.hid rfl⟩
        rw [htg.out] at g0
        have BA := below_alloc (Below.refl w6.heap.size w6) (.cells #[.string tg, .slice ad nd cd] 80)
        clear HV
        go_wp2_with (first
          | (at_builtin
             refine wpList_push_ln _ rfl (.tmp 93) (.tmp 97) rfl w.heap.size (.slice (some ⟨lb, 0, none⟩) n c) n us d w6.heap.size 1 rfl (own_below HR6.out.l BA) rfl (by rw [htg.out]; go_simp) (by rw [hdv.out]; go_simp) (by omega) (by have := HD6.out.g.size; simp; omega) ?_
             intro v8 w8 hown hgrow hbl
             obtain ⟨lb8, c8, rfl, _, _⟩ := hown.form (by omega)
             have HR8 := Lib.hid ((HR6.out.below BA).put hgrow hown (fun d2 hd2 => (HR6.out.below BA).d d2 ((List.mem_append.1 hd2).elim id (fun e => by rw [List.mem_singleton] at e; subst e; exact HDK.out))))
             have HP8 : Hid (PBox w8 w.heap.size pb [.string nm, .slice a1 n1 c1, .slice a2 n2 c2, .slice a3 n3 c3, .string gd, .slice (some ⟨lb0, 0, none⟩) n4 c4]) := Lib.hid (own_keep (own_below HP6.out BA) (own_below HR6.out.l BA) (by decide) hgrow)
             have HX8 : Hid (PBox w8 w.heap.size w.heap.size [.string ⟨#[]⟩, .slice none 0 0, .slice none 0 0, .slice none 0 0, .string ⟨#[]⟩, .slice none 0 0]) := Lib.hid (own_keep (own_below HX6.out BA) (own_below HR6.out.l BA) (by decide) hgrow)
             have HD8 := Lib.hid ((HD6.out.below hBl BA).far hBl hgrow (fun q hq => (HR6.out.l.lt q hq).1))
             clear hown hgrow hbl HR6 HP6 HX6 HD6)
          )
        go_roundw
        case rel => exact ⟨lb8, n + 1, c8, us ++ [d], by omega, by omega, rfl, HR8, Lib.hid (fun t ht => (List.mem_append.1 ht).elim (hsz.out t) (fun e => by rw [List.mem_singleton] at e; subst e; exact hsz.out _ HDK.out)), HP8, HX8, HD8⟩
        case measure => simp [lenV]; omega
      · have hp := PBox.put HP6.out 5 (.slice (some ⟨lb, 0, none⟩) n c)
        obtain ⟨⟨b0, b1, b2, b3, b4, b5⟩, ⟨f0, f1, f2, f3, f4, f5⟩, hltb⟩ := PBox.c HP6.out
        have HRt := Lib.hid (HR6.out.box HP6.out hp.2)
        have HPt : Hid (PBox (w6.setCell ⟨pb, 5, none⟩ (.slice (some ⟨lb, 0, none⟩) n c)) w.heap.size pb [.string nm, .slice a1 n1 c1, .slice a2 n2 c2, .slice a3 n3 c3, .string gd, .slice (some ⟨lb, 0, none⟩) n c]) := Lib.hid hp.1
        have HXt := Lib.hid (HX6.out.keep hp.2 (by omega))
        have HDt := Lib.hid (HD6.out.far hBl hp.2 (fun q hq => by simp only [Option.some.injEq] at hq; omega))
        have HLZ : Hid (us.length ≤ 1048576) := Lib.hid (by have := HUL.out; omega)
        clear hp HR6 HP6 HX6 HD6
        go_upto_region 26 with (fail)
        generalize w6.setCell ⟨pb, 5, none⟩ (.slice (some ⟨lb, 0, none⟩) n c) = w7 at *
        clear b0 b1 b2 b3 b4 b5 f0 f1 f2 f3 f4 f5 hltb
        obtain ⟨⟨b0, b1, b2, b3, b4, b5⟩, _, hltb⟩ := PBox.c HPt.out
        obtain ⟨⟨y0, y1, y2, y3, y4, y5⟩, ⟨f0, f1, f2, f3, f4, f5⟩, hlta⟩ := PBox.c HXt.out
        have hz := PBox.fill HXt.out (.string nm) (.slice a1 n1 c1) (.slice a2 n2 c2) (.slice a3 n3 c3) (.string gd) (.slice (some ⟨lb, 0, none⟩) n c)
        have YR := Lib.hid (HRt.out.box HXt.out hz.2)
        have YD := Lib.hid (HDt.out.far hBl hz.2 (fun q hq => by simp only [Option.some.injEq] at hq; omega))
        have YC := Lib.hid hz.1
        have YZ : Hid (PSizes nm gd ins vs os us) := Lib.hid ⟨HZ.out.n, HZ.out.g, HZ.out.i, HZ.out.v, HZ.out.o, HLZ.out, hsz.out⟩
        obtain ⟨WF, hWF⟩ : ∃ WF, WF = ((((((w7.setCell ⟨w.heap.size, 0, none⟩ (.string nm)).setCell ⟨w.heap.size, 1, none⟩ (.slice a1 n1 c1)).setCell ⟨w.heap.size, 2, none⟩ (.slice a2 n2 c2)).setCell ⟨w.heap.size, 3, none⟩ (.slice a3 n3 c3)).setCell ⟨w.heap.size, 4, none⟩ (.string gd)).setCell ⟨w.heap.size, 5, none⟩ (.slice (some ⟨lb, 0, none⟩) n c)) := ⟨_, rfl⟩
        rw [← hWF] at YR YD YC
        have HF := Lib.hid hWF
        clear hWF hz HRt HPt HXt HDt
        go_wp2_with (fail)
        rw [← HF.out]
        obtain ⟨⟨r0, r1, r2, r3, r4, r5⟩, _⟩ := PBox.c YC.out
        clear y0 y1 y2 y3 y4 y5 b0 b1 b2 b3 b4 b5 f0 f1 f2 f3 f4 f5
        refine bodyPost_ret (v := .agg #[.string nm, .slice a1 n1 c1, .slice a2 n2 c2, .slice a3 n3 c3, .string gd, .slice (some ⟨lb, 0, none⟩) n c]) (by simp [results, Tryz.results85, go_sem, r0, r1, r2, r3, r4, r5]) rfl (YR.out.prog YZ.out trivial YD.out)
  by_cases hc7 : r = 7
  · subst hc7
    obtain ⟨⟨_, _, b2, _, _, _⟩, _, _⟩ := PBox.c HP5.out
    have hvl : n2 = vs.length := by have := HR5.out.v.1; rw [sts_length] at this; omega
    have HVL := Lib.hid hvl
    have hv2 : n2 ≤ 1048576 := by have := HZ.out.v.1; omega
    clear hvl
    have HI5 := Lib.hid (fun b (hb : (Value.slice a1 n1 c1).ownBlock = some b) => (HR5.out.i.lt b hb).2)
    have HO5 := Lib.hid (fun b (hb : (Value.slice a3 n3 c3).ownBlock = some b) => (HR5.out.o.lt b hb).2)
    have BA := below_alloc (Below.refl w5.heap.size w5) (.cells #[] 9)
    go_wp2_with (first
      | (at_builtin
         refine app_strs _ rfl (.tmp 103) (.tmp 105) rfl w5.heap.size _ 0 [] rfl (own_lit0 w5) a2 n2 c2 vs rfl HVL.out (Rd.own (own_below HR5.out.v BA)) (own_none HR5.out.v) (by omega) (by simp) ?_
         intro v6 w6 hown hgrow
         rw [Nat.zero_add, List.nil_append] at hown
         obtain ⟨A6, c6, rfl⟩ := own_shape hown
         have HB6 := Lib.hid (below_of_grown BA hgrow (fun q hq => by cases hq; exact Nat.le_refl _))
         have HO6 := Lib.hid hown
         have HCL := Lib.hid (rd_litS w6 [⟨#[97]⟩, ⟨#[113]⟩, ⟨#[119]⟩, ⟨#[111, 110]⟩] 9 (by decide))
         have BA6 := below_alloc (Below.refl w6.heap.size w6) (.cells (sts [⟨#[97]⟩, ⟨#[113]⟩, ⟨#[119]⟩, ⟨#[111, 110]⟩]).toArray 9)
         clear hown hgrow)
      )
    have hbb : Below w5.heap.size w5 (w6.alloc (.cells (sts [⟨#[97]⟩, ⟨#[113]⟩, ⟨#[119]⟩, ⟨#[111, 110]⟩]).toArray 9)) := below_alloc HB6.out _
    have hs56 := HB6.out.size
    have hs5 := HD5.out.g.size
    have HR6 := Lib.hid (HR5.out.below hbb)
    have HP6 : Hid (PBox _ _ _ _) := Lib.hid (own_below HP5.out hbb)
    have HX6 : Hid (PBox _ _ _ _) := Lib.hid (own_below HX5.out hbb)
    have HD6 := Lib.hid (HD5.out.below hBl hbb)
    clear HR5 HP5 HX5 HD5
    refine (c_NextD B 4 _ HD6.out.s (by omega)).mono ?_
    rintro e w7 ⟨r3, rfl, hq0, hq1, _, hd3⟩
    have hq2 := hq1 (by omega)
    obtain ⟨k3, rfl⟩ : ∃ k : Nat, r3 = k := ⟨r3.toNat, by omega⟩
    obtain ⟨x, hx⟩ : ∃ x, ([⟨#[97]⟩, ⟨#[113]⟩, ⟨#[119]⟩, ⟨#[111, 110]⟩] : List ByteArray)[k3]? = some x := ⟨_, List.getElem?_eq_getElem (by show k3 < 4; omega)⟩
    have HXZ : Hid (x.size ≤ 1048576) := Lib.hid ((by decide : ∀ s ∈ ([⟨#[97]⟩, ⟨#[113]⟩, ⟨#[119]⟩, ⟨#[111, 110]⟩] : List ByteArray), s.size ≤ 1048576) x (List.mem_of_getElem? hx))
    obtain ⟨b, off, e, _, g0⟩ := (HCL.out.dw hd3 (fun b off e => by cases e; omega)).st hx
    simp only [Option.some.injEq, Addr.mk.injEq, and_true] at e
    obtain ⟨rfl, rfl⟩ := e
    simp only [Nat.zero_add] at g0
    have HO7 := Lib.hid (hd3.own (own_below HO6.out BA6) (show B < w5.heap.size from HDs.out))
    have hs37 := hd3.g.size
    have HR7 := Lib.hid (HR6.out.dw hd3 hBl)
    have HP7 : Hid (PBox _ _ _ _) := Lib.hid (hd3.own HP6.out hBl)
    have HX7 : Hid (PBox _ _ _ _) := Lib.hid (hd3.own2 HX6.out (fun q hq e => by simp only [Value.ownBlock, Option.some.injEq] at hq; omega))
    have HD7 := Lib.hid (HD6.out.then_ hd3)
    clear HR6 HP6 HX6 HD6
    clear hd3 hq1 hx HCL BA BA6 b2 hbb HO6 HB6
    have hx1 : pb ≠ w.heap.size := by omega
    have BA7 := below_alloc (Below.refl w7.heap.size w7) (.cells #[.string x] 9)
    go_upto_region 26 with (first
      | (at_builtin
         refine wpList_push_st2 _ rfl (.tmp 106) (.tmp 112) rfl w5.heap.size (.slice A6 n2 c6) n2 vs x w7.heap.size 1 rfl (own_below HO7.out BA7) rfl (by go_simp) (by omega) (by simp at hs37 ⊢; omega) ?_
         intro v8 w8 hown hgrow hbl
         obtain ⟨A8, c8, rfl⟩ := own_shape hown
         have HR8 : Hid (PRows w8 w.heap.size a1 A8 a3 a4 c1 c8 c3 c4 n1 (n2 + 1) n3 n4 ins (vs ++ [x]) os ds) := Lib.hid ⟨kept_sep (own_below HR7.out.i BA7) hgrow (fun b hb e => by have h1 := HI5.out b e; have h2 := (HO7.out.lt b hb).1; omega), own_mono hown hs5, kept_sep (own_below HR7.out.o BA7) hgrow (fun b hb e => by have h1 := HO5.out b e; have h2 := (HO7.out.lt b hb).1; omega), own_keep (own_below HR7.out.l BA7) (own_below HO7.out BA7) (by decide) hgrow, fun d hd => own_keep (own_below (HR7.out.d d hd) BA7) (own_below HO7.out BA7) (by decide) hgrow⟩
         have HP8 : Hid (PBox w8 _ _ _) := Lib.hid (own_keep (own_below HP7.out BA7) (own_below HO7.out BA7) (by decide) hgrow)
         have HX8 : Hid (PBox w8 _ _ _) := Lib.hid (own_keep (own_below HX7.out BA7) (own_below HO7.out BA7) (by decide) hgrow)
         have HD8 := Lib.hid ((HD7.out.below hBl BA7).far hBl hgrow (fun q hq => by have := (HO7.out.lt q hq).1; omega))
         obtain ⟨⟨b0, b1, b2, b3, b4, b5⟩, ⟨f0, f1, f2, f3, f4, f5⟩, hltb⟩ := PBox.c HP8.out
         clear hown hgrow hbl HR7 HP7 HX7 HD7 HO7)
      )
    have hp := PBox.put HP8.out 2 (.slice A8 (n2 + 1) c8)
    have HRt := Lib.hid (HR8.out.box HP8.out hp.2)
    have HPt : Hid (PBox (w8.setCell ⟨pb, 2, none⟩ (.slice A8 (n2 + 1) c8)) w.heap.size pb [.string nm, .slice a1 n1 c1, .slice A8 (n2 + 1) c8, .slice a3 n3 c3, .string gd, .slice a4 n4 c4]) := Lib.hid hp.1
    have HXt : Hid (PBox _ _ _ _) := Lib.hid (HX8.out.keep hp.2 hx1)
    have HDt := Lib.hid (HD8.out.far hBl hp.2 (fun q hq => by simp only [Option.some.injEq] at hq; omega))
    have HLZ : Hid (StOk (vs ++ [x])) := Lib.hid ⟨by rw [List.length_append]; have := HVL.out; show vs.length + 1 ≤ _; omega, fun t ht => (List.mem_append.1 ht).elim (HZ.out.v.2 t) (fun e => by rw [List.mem_singleton] at e; subst e; exact HXZ.out)⟩
    clear hp HR8 HP8 HX8 HD8
    generalize w8.setCell ⟨pb, 2, none⟩ (.slice A8 (n2 + 1) c8) = w9 at *
    clear b0 b1 b2 b3 b4 b5 f0 f1 f2 f3 f4 f5 hltb
    obtain ⟨⟨b0, b1, b2, b3, b4, b5⟩, _, hltb⟩ := PBox.c HPt.out
    obtain ⟨⟨y0, y1, y2, y3, y4, y5⟩, ⟨f0, f1, f2, f3, f4, f5⟩, hlta⟩ := PBox.c HXt.out
    have hz := PBox.fill HXt.out (.string nm) (.slice a1 n1 c1) (.slice A8 (n2 + 1) c8) (.slice a3 n3 c3) (.string gd) (.slice a4 n4 c4)
    have YR := Lib.hid (HRt.out.box HXt.out hz.2)
    have YD := Lib.hid (HDt.out.far hBl hz.2 (fun q hq => by simp only [Option.some.injEq] at hq; omega))
    have YC := Lib.hid hz.1
    have YZ : Hid (PSizes nm gd ins (vs ++ [x]) os ds) := Lib.hid ⟨HZ.out.n, HZ.out.g, HZ.out.i, HLZ.out, HZ.out.o, HZ.out.l, HZ.out.d⟩
    obtain ⟨WF, hWF⟩ : ∃ WF, WF = ((((((w9.setCell ⟨w.heap.size, 0, none⟩ (.string nm)).setCell ⟨w.heap.size, 1, none⟩ (.slice a1 n1 c1)).setCell ⟨w.heap.size, 2, none⟩ (.slice A8 (n2 + 1) c8)).setCell ⟨w.heap.size, 3, none⟩ (.slice a3 n3 c3)).setCell ⟨w.heap.size, 4, none⟩ (.string gd)).setCell ⟨w.heap.size, 5, none⟩ (.slice a4 n4 c4)) := ⟨_, rfl⟩
    rw [← hWF] at YR YD YC
    have HF := Lib.hid hWF
    clear hWF hz HRt HPt HXt HDt
    go_wp2_with (fail)
    rw [← HF.out]
    obtain ⟨⟨r0, r1, r2, r3, r4, r5⟩, _⟩ := PBox.c YC.out
    clear y0 y1 y2 y3 y4 y5 b0 b1 b2 b3 b4 b5 f0 f1 f2 f3 f4 f5
    refine bodyPost_ret (v := .agg #[.string nm, .slice a1 n1 c1, .slice A8 (n2 + 1) c8, .slice a3 n3 c3, .string gd, .slice a4 n4 c4]) (by simp [results, Tryz.results85, go_sem, r0, r1, r2, r3, r4, r5]) rfl (YR.out.prog YZ.out trivial YD.out)
  have g0 : (r == 0) = false := by simpa using hc0
  have g1 : (r == 1) = false := by simpa using hc1
  have g2 : (r == 2) = false := by simpa using hc2
  have g3 : (r == 3) = false := by simpa using hc3
  have g4 : (r == 4) = false := by simpa using hc4
  have g5 : (r == 5) = false := by simpa using hc5
  have g6 : (r == 6) = false := by simpa using hc6
  have g7 : (r == 7) = false := by simpa using hc7
  clear hc0 hc1 hc2 hc3 hc4 hc5 hc6 hc7
  have HRt := HR5
  have HPt := HP5
  have HXt := HX5
  have HDt := HD5
  clear HR5 HP5 HX5 HD5
  go_upto_region 26 with (fail)
  obtain ⟨⟨b0, b1, b2, b3, b4, b5⟩, _, hltb⟩ := PBox.c HPt.out
  obtain ⟨⟨y0, y1, y2, y3, y4, y5⟩, ⟨f0, f1, f2, f3, f4, f5⟩, hlta⟩ := PBox.c HXt.out
  have hz := PBox.fill HXt.out (.string nm) (.slice a1 n1 c1) (.slice a2 n2 c2) (.slice a3 n3 c3) (.string gd) (.slice a4 n4 c4)
  have YR := Lib.hid (HRt.out.box HXt.out hz.2)
  have YD := Lib.hid (HDt.out.far hBl hz.2 (fun q hq => by simp only [Option.some.injEq] at hq; omega))
  have YC := Lib.hid hz.1
  have YZ : Hid (PSizes nm gd ins vs os ds) := Lib.hid HZ.out
  obtain ⟨WF, hWF⟩ : ∃ WF, WF = ((((((w5.setCell ⟨w.heap.size, 0, none⟩ (.string nm)).setCell ⟨w.heap.size, 1, none⟩ (.slice a1 n1 c1)).setCell ⟨w.heap.size, 2, none⟩ (.slice a2 n2 c2)).setCell ⟨w.heap.size, 3, none⟩ (.slice a3 n3 c3)).setCell ⟨w.heap.size, 4, none⟩ (.string gd)).setCell ⟨w.heap.size, 5, none⟩ (.slice a4 n4 c4)) := ⟨_, rfl⟩
  rw [← hWF] at YR YD YC
  have HF := Lib.hid hWF
  clear hWF hz HRt HPt HXt HDt
  go_wp2_with (fail)
  rw [← HF.out]
  obtain ⟨⟨r0, r1, r2, r3, r4, r5⟩, _⟩ := PBox.c YC.out
  clear y0 y1 y2 y3 y4 y5 b0 b1 b2 b3 b4 b5 f0 f1 f2 f3 f4 f5
  refine bodyPost_ret (v := .agg #[.string nm, .slice a1 n1 c1, .slice a2 n2 c2, .slice a3 n3 c3, .string gd, .slice a4 n4 c4]) (by simp [results, Tryz.results85, go_sem, r0, r1, r2, r3, r4, r5]) rfl (YR.out.prog YZ.out trivial YD.out)
end Go.Proofs.YteengjcplmjakaaGreatDoor

/- Draws of programs with names (printed by DnR.py). Condition: at most 4096 bytes of code. -/
namespace Go.Proofs.YteengjcplmjakaaGreatDoor
open Go.RowKit

theorem Bytes.later {w w' : World} {B B' n : Nat} {A : Option Addr} (h : Bytes w B A n) (hb : Below w.heap.size w w') (hle : B ≤ B') : Bytes w' B' A n := by
  intro j hj
  obtain ⟨b, off, u, e, h1, h2, h3⟩ := h j hj
  exact ⟨b, off, u, e, by omega, h2, cell_later hb h3⟩
theorem DW.bel {B base : Nat} {w a b : World} (h : Below base w a) (hd : DW B a b) (hB : base ≤ B) (hs : w.heap.size = base) : Below base w b := by
  subst hs
  exact below_of_grown h hd.g (fun q hq => by simp only [Option.some.injEq] at hq; omega)
set_option maxHeartbeats 2000000 in
set_option maxRecDepth 100000 in
theorem c_l14Draw (B : Nat) (w : World) (h : Src w B) :
    Calls Tryz.prog 38 #[.pointer (some ⟨B, 0, none⟩)] w (ProgP (fun _ _ _ _ => True) B w) := by
  have hBl := h.lt
  have HS := Lib.hid (DW.start h)
  clear h
  have HX0 : Hid (PBox (w.alloc (.cells #[.string ⟨#[]⟩, .slice none 0 0, .slice none 0 0, .slice none 0 0, .string ⟨#[]⟩, .slice none 0 0] 27)) w.heap.size w.heap.size [.string ⟨#[]⟩, .slice none 0 0, .slice none 0 0, .slice none 0 0, .string ⟨#[]⟩, .slice none 0 0]) := Lib.hid (own_box w w.heap.size 27 [.string ⟨#[]⟩, .slice none 0 0, .slice none 0 0, .slice none 0 0, .string ⟨#[]⟩, .slice none 0 0] 6 rfl (Nat.le_refl _))
  have HS0 := Lib.hid (HS.out.alloc hBl (.cells #[.string ⟨#[]⟩, .slice none 0 0, .slice none 0 0, .slice none 0 0, .string ⟨#[]⟩, .slice none 0 0] 27))
  go_enter Tryz.func38, Tryz.ntmps38
  go_wp2_with (fail)
  refine (c_NextD B 4 _ HS0.out.s (by omega)).mono ?_
  rintro e w1 ⟨r, rfl, hr0, hr1, _, hd1⟩
  have HX1 : Hid (PBox _ _ _ _) := Lib.hid (hd1.own2 HX0.out (fun q hq e => by simp only [Value.ownBlock, Option.some.injEq] at hq; omega))
  have HS1 := Lib.hid (HS0.out.then_ hd1)
  have hsz1 : w.heap.size < w1.heap.size := by have := hd1.g.size; simp at this; omega
  clear hd1 hr1 HX0 HS0
  by_cases hr : r = 0
  · skip
    subst hr
    go_wp2_with (fail)
    refine (c_l13DrawAny B _ HS1.out.s).mono ?_
    rintro e w2 ⟨⟨nm, ins, vs, os, gd, ls⟩, a1, a2, a3, a4, c1, c2, c3, c4, ds, rfl, ho, hok, _, hd2⟩
    have HZ := Lib.hid (hok.sizes ho.e)
    have HX2 : Hid (PBox _ _ _ _) := Lib.hid (hd2.own2 HX1.out (fun q hq e => by simp only [Value.ownBlock, Option.some.injEq] at hq; omega))
    have HD2 := Lib.hid (HS1.out.then_ hd2)
    have HR2 : Hid (PRows w2 w.heap.size a1 a2 a3 a4 c1 c2 c3 c4 ins.length vs.length os.length ls.length ins vs os ds) := Lib.hid (ho.rows.mono (by show w.heap.size ≤ w1.heap.size; omega))
    dsimp only [pv] at HZ ⊢
    clear ho hok hd2 HX1 HS1
    generalize ins.length = n1 at *
    generalize vs.length = n2 at *
    generalize os.length = n3 at *
    generalize ls.length = n4 at *
    obtain ⟨⟨y0, y1, y2, y3, y4, y5⟩, ⟨f0, f1, f2, f3, f4, f5⟩, hlta⟩ := PBox.c HX2.out
    have hz := PBox.fill HX2.out (.string nm) (.slice a1 n1 c1) (.slice a2 n2 c2) (.slice a3 n3 c3) (.string gd) (.slice a4 n4 c4)
    have YR := Lib.hid (HR2.out.box HX2.out hz.2)
    have YD := Lib.hid (HD2.out.far hBl hz.2 (fun q hq => by simp only [Option.some.injEq] at hq; omega))
    have YC := Lib.hid hz.1
    obtain ⟨WF, hWF⟩ : ∃ WF, WF = ((((((w2.setCell ⟨w.heap.size, 0, none⟩ (.string nm)).setCell ⟨w.heap.size, 1, none⟩ (.slice a1 n1 c1)).setCell ⟨w.heap.size, 2, none⟩ (.slice a2 n2 c2)).setCell ⟨w.heap.size, 3, none⟩ (.slice a3 n3 c3)).setCell ⟨w.heap.size, 4, none⟩ (.string gd)).setCell ⟨w.heap.size, 5, none⟩ (.slice a4 n4 c4)) := ⟨_, rfl⟩
    rw [← hWF] at YR YD YC
    have HF := Lib.hid hWF
    clear hWF hz HR2 HX2 HD2
    go_wp2_with (fail)
    rw [← HF.out]
    obtain ⟨⟨r0, r1, r2, r3, r4, r5⟩, _⟩ := PBox.c YC.out
    clear y0 y1 y2 y3 y4 y5 f0 f1 f2 f3 f4 f5
    refine bodyPost_ret (v := .agg #[.string nm, .slice a1 n1 c1, .slice a2 n2 c2, .slice a3 n3 c3, .string gd, .slice a4 n4 c4]) (by simp [results, Tryz.results38, go_sem, r0, r1, r2, r3, r4, r5]) rfl (YR.out.prog HZ.out trivial YD.out)
  · skip
    have hr0 : (r == 0) = false := by simpa using hr
    go_wp2_with (fail)
    refine (c_l13Draw B _ HS1.out.s).mono ?_
    rintro e w2 ⟨⟨nm, ins, vs, os, gd, ls⟩, a1, a2, a3, a4, c1, c2, c3, c4, ds, rfl, ho, hok, _, hd2⟩
    have HZ := Lib.hid (hok.sizes ho.e)
    have HX2 : Hid (PBox _ _ _ _) := Lib.hid (hd2.own2 HX1.out (fun q hq e => by simp only [Value.ownBlock, Option.some.injEq] at hq; omega))
    have HD2 := Lib.hid (HS1.out.then_ hd2)
    have HR2 : Hid (PRows w2 w.heap.size a1 a2 a3 a4 c1 c2 c3 c4 ins.length vs.length os.length ls.length ins vs os ds) := Lib.hid (ho.rows.mono (by show w.heap.size ≤ w1.heap.size; omega))
    dsimp only [pv] at HZ ⊢
    clear ho hok hd2 HX1 HS1
    generalize ins.length = n1 at *
    generalize vs.length = n2 at *
    generalize os.length = n3 at *
    generalize ls.length = n4 at *
    obtain ⟨⟨y0, y1, y2, y3, y4, y5⟩, ⟨f0, f1, f2, f3, f4, f5⟩, hlta⟩ := PBox.c HX2.out
    have hz := PBox.fill HX2.out (.string nm) (.slice a1 n1 c1) (.slice a2 n2 c2) (.slice a3 n3 c3) (.string gd) (.slice a4 n4 c4)
    have YR := Lib.hid (HR2.out.box HX2.out hz.2)
    have YD := Lib.hid (HD2.out.far hBl hz.2 (fun q hq => by simp only [Option.some.injEq] at hq; omega))
    have YC := Lib.hid hz.1
    obtain ⟨WF, hWF⟩ : ∃ WF, WF = ((((((w2.setCell ⟨w.heap.size, 0, none⟩ (.string nm)).setCell ⟨w.heap.size, 1, none⟩ (.slice a1 n1 c1)).setCell ⟨w.heap.size, 2, none⟩ (.slice a2 n2 c2)).setCell ⟨w.heap.size, 3, none⟩ (.slice a3 n3 c3)).setCell ⟨w.heap.size, 4, none⟩ (.string gd)).setCell ⟨w.heap.size, 5, none⟩ (.slice a4 n4 c4)) := ⟨_, rfl⟩
    rw [← hWF] at YR YD YC
    have HF := Lib.hid hWF
    clear hWF hz HR2 HX2 HD2
    go_wp2_with (fail)
    rw [← HF.out]
    obtain ⟨⟨r0, r1, r2, r3, r4, r5⟩, _⟩ := PBox.c YC.out
    clear y0 y1 y2 y3 y4 y5 f0 f1 f2 f3 f4 f5
    refine bodyPost_ret (v := .agg #[.string nm, .slice a1 n1 c1, .slice a2 n2 c2, .slice a3 n3 c3, .string gd, .slice a4 n4 c4]) (by simp [results, Tryz.results38, go_sem, r0, r1, r2, r3, r4, r5]) rfl (YR.out.prog HZ.out trivial YD.out)
/-- A program of the call's own, with some values behind it. -/
def ProgX (F : Value → List Value → Value) (X : List Value → Prop) (w : World) (e : Ending) (w' : World) : Prop :=
  ∃ p a1 a2 a3 a4 c1 c2 c3 c4 ds xs, e = .returned (F (pv p a1 a2 a3 a4 c1 c2 c3 c4) xs) ∧ POwn w' w.heap.size a1 a2 a3 a4 c1 c2 c3 c4 p ds ∧ PgOk p ∧ X xs ∧ Below w.heap.size w w'
theorem PRows.progX {F : Value → List Value → Value} {X : List Value → Prop} {w w' : World} {a1 a2 a3 a4 : Option Addr} {c1 c2 c3 c4 n1 n2 n3 n4 : Nat} {ins vs os : List ByteArray} {ds : List LiD} {nm gd : ByteArray} {xs : List Value} (h : PRows w' w.heap.size a1 a2 a3 a4 c1 c2 c3 c4 n1 n2 n3 n4 ins vs os ds) (hz : PSizes nm gd ins vs os ds) (hX : X xs) (hb : Below w.heap.size w w') :
    ProgX F X w (.returned (F (.agg #[.string nm, .slice a1 n1 c1, .slice a2 n2 c2, .slice a3 n3 c3, .string gd, .slice a4 n4 c4]) xs)) w' := by
  obtain rfl : n1 = ins.length := by have := h.i.1; rw [sts_length] at this; omega
  obtain rfl : n2 = vs.length := by have := h.v.1; rw [sts_length] at this; omega
  obtain rfl : n3 = os.length := by have := h.o.1; rw [sts_length] at this; omega
  obtain rfl : n4 = ds.length := by have := h.l.1; rw [lidCells_length] at this; omega
  refine ⟨⟨nm, ins, vs, os, gd, ds.map LiD.l⟩, a1, a2, a3, a4, c1, c2, c3, c4, ds, xs, ?_, ⟨h.i, h.v, h.o, ?_, rfl, h.d⟩, ⟨hz.n, hz.i, hz.v, hz.o, hz.g, ?_, ?_⟩, hX, hb⟩
  · simp [pv]
  · simpa using h.l
  · simpa using hz.l
  · intro r hr
    obtain ⟨d, hd, rfl⟩ := List.mem_map.1 hr
    exact hz.d d hd
def F1 (p : Value) (_ : List Value) : Value := p
set_option maxHeartbeats 4000000 in
set_option maxRecDepth 100000 in
theorem c_DrawLineTimes (A : Option Addr) (c n : Nat) (w : World) (hn : n ≤ 4096) (hb : Bytes w w.heap.size A n) :
    Calls Tryz.prog 7 #[.slice A n c] w (ProgX F1 (fun _ => True) w) := by
  have HX0 : Hid (PBox (w.alloc (.cells #[.string ⟨#[]⟩, .slice none 0 0, .slice none 0 0, .slice none 0 0, .string ⟨#[]⟩, .slice none 0 0] 27)) w.heap.size w.heap.size [.string ⟨#[]⟩, .slice none 0 0, .slice none 0 0, .slice none 0 0, .string ⟨#[]⟩, .slice none 0 0]) := Lib.hid (own_box w w.heap.size 27 [.string ⟨#[]⟩, .slice none 0 0, .slice none 0 0, .slice none 0 0, .string ⟨#[]⟩, .slice none 0 0] 6 rfl (Nat.le_refl _))
  have B0 := Lib.hid (below_alloc (Below.refl w.heap.size w) (.cells #[.string ⟨#[]⟩, .slice none 0 0, .slice none 0 0, .slice none 0 0, .string ⟨#[]⟩, .slice none 0 0] 27))
  have HY := Lib.hid (hb.later B0.out (show w.heap.size ≤ (w.alloc (.cells #[.string ⟨#[]⟩, .slice none 0 0, .slice none 0 0, .slice none 0 0, .string ⟨#[]⟩, .slice none 0 0] 27)).heap.size by simp))
  have HYW := Lib.hid (fun w' (h' : Below w.heap.size w w') => hb.later h' h'.size)
  have hsA : (w.alloc (.cells #[.string ⟨#[]⟩, .slice none 0 0, .slice none 0 0, .slice none 0 0, .string ⟨#[]⟩, .slice none 0 0] 27)).heap.size = w.heap.size + 1 := by simp
  go_enter Tryz.func7, Tryz.ntmps7
  go_wp2_with (fail)
  refine (c_From A c n _ hn HY.out).mono ?_
  rintro e w1 ⟨rfl, hs1, hb1⟩
  rw [hsA] at hs1
  have HB1 := Lib.hid (below_chain B0.out hb1)
  have HX1 : Hid (PBox _ _ _ _) := Lib.hid (own_below HX0.out hb1)
  have HS1 := Lib.hid (DW.start hs1)
  have hlt1 := hs1.lt
  clear hs1 hb1 HX0 B0 hsA
  go_wp2_with (fail)
  refine (c_l14Draw (w.heap.size + 1) _ HS1.out.s).mono ?_
  rintro e w2 ⟨⟨nm, ins, vs, os, gd, ls⟩, a1, a2, a3, a4, c1, c2, c3, c4, ds, rfl, ho, hok, _, hd2⟩
  have HZ := Lib.hid (hok.sizes ho.e)
  have HX2 : Hid (PBox _ _ _ _) := Lib.hid (hd2.own2 HX1.out (fun q hq e => by simp only [Value.ownBlock, Option.some.injEq] at hq; omega))
  have HD2 := Lib.hid (HS1.out.then_ hd2)
  have hsw2 := HD2.out.g.size
  have HR2 : Hid (PRows w2 w1.heap.size a1 a2 a3 a4 c1 c2 c3 c4 ins.length vs.length os.length ls.length ins vs os ds) := Lib.hid ho.rows
  have HSI : Hid (ins.length ≤ 1048576) := Lib.hid hok.i.1
  have HSO : Hid (os.length ≤ 1048576) := Lib.hid hok.o.1
  dsimp only [pv] at HZ ⊢
  clear ho hok hd2 HX1 HS1
  generalize ins.length = n1 at *
  generalize vs.length = n2 at *
  generalize os.length = n3 at *
  generalize ls.length = n4 at *
  have HRt := Lib.hid (HR2.out.mono (show w.heap.size ≤ w1.heap.size by omega))
  have HXt := HX2
  have HBt := Lib.hid (DW.bel HB1.out HD2.out (by omega) rfl)
  clear HR2 HX2
  obtain ⟨⟨y0, y1, y2, y3, y4, y5⟩, ⟨f0, f1, f2, f3, f4, f5⟩, hlta⟩ := PBox.c HXt.out
  have hz := PBox.fill HXt.out (.string nm) (.slice a1 n1 c1) (.slice a2 n2 c2) (.slice a3 n3 c3) (.string gd) (.slice a4 n4 c4)
  have YR := Lib.hid (HRt.out.box HXt.out hz.2)
  have YB := Lib.hid (below_of_grown HBt.out hz.2 (fun q hq => by simp only [Option.some.injEq] at hq; omega))
  have YC := Lib.hid hz.1
  obtain ⟨WF, hWF⟩ : ∃ WF, WF = ((((((w2.setCell ⟨w.heap.size, 0, none⟩ (.string nm)).setCell ⟨w.heap.size, 1, none⟩ (.slice a1 n1 c1)).setCell ⟨w.heap.size, 2, none⟩ (.slice a2 n2 c2)).setCell ⟨w.heap.size, 3, none⟩ (.slice a3 n3 c3)).setCell ⟨w.heap.size, 4, none⟩ (.string gd)).setCell ⟨w.heap.size, 5, none⟩ (.slice a4 n4 c4)) := ⟨_, rfl⟩
  rw [← hWF] at YR YB YC
  have HF := Lib.hid hWF
  clear hWF hz HRt HXt HBt
  go_wp2_with (fail)
  rw [← HF.out]
  obtain ⟨⟨r0, r1, r2, r3, r4, r5⟩, _⟩ := PBox.c YC.out
  clear y0 y1 y2 y3 y4 y5 f0 f1 f2 f3 f4 f5
  refine bodyPost_ret (v := .agg #[.string nm, .slice a1 n1 c1, .slice a2 n2 c2, .slice a3 n3 c3, .string gd, .slice a4 n4 c4]) (by simp [results, Tryz.results7, go_sem, r0, r1, r2, r3, r4, r5]) rfl (YR.out.progX (xs := []) HZ.out trivial YB.out)
set_option maxHeartbeats 4000000 in
set_option maxRecDepth 100000 in
theorem c_DrawFirstMemory (A : Option Addr) (c n : Nat) (w : World) (hn : n ≤ 4096) (hb : Bytes w w.heap.size A n) :
    Calls Tryz.prog 23 #[.slice A n c] w (ProgX F1 (fun _ => True) w) := by
  have HX0 : Hid (PBox (w.alloc (.cells #[.string ⟨#[]⟩, .slice none 0 0, .slice none 0 0, .slice none 0 0, .string ⟨#[]⟩, .slice none 0 0] 27)) w.heap.size w.heap.size [.string ⟨#[]⟩, .slice none 0 0, .slice none 0 0, .slice none 0 0, .string ⟨#[]⟩, .slice none 0 0]) := Lib.hid (own_box w w.heap.size 27 [.string ⟨#[]⟩, .slice none 0 0, .slice none 0 0, .slice none 0 0, .string ⟨#[]⟩, .slice none 0 0] 6 rfl (Nat.le_refl _))
  have B0 := Lib.hid (below_alloc (Below.refl w.heap.size w) (.cells #[.string ⟨#[]⟩, .slice none 0 0, .slice none 0 0, .slice none 0 0, .string ⟨#[]⟩, .slice none 0 0] 27))
  have HY := Lib.hid (hb.later B0.out (show w.heap.size ≤ (w.alloc (.cells #[.string ⟨#[]⟩, .slice none 0 0, .slice none 0 0, .slice none 0 0, .string ⟨#[]⟩, .slice none 0 0] 27)).heap.size by simp))
  have HYW := Lib.hid (fun w' (h' : Below w.heap.size w w') => hb.later h' h'.size)
  have hsA : (w.alloc (.cells #[.string ⟨#[]⟩, .slice none 0 0, .slice none 0 0, .slice none 0 0, .string ⟨#[]⟩, .slice none 0 0] 27)).heap.size = w.heap.size + 1 := by simp
  go_enter Tryz.func23, Tryz.ntmps23
  go_wp2_with (fail)
  refine (c_From A c n _ hn HY.out).mono ?_
  rintro e w1 ⟨rfl, hs1, hb1⟩
  rw [hsA] at hs1
  have HB1 := Lib.hid (below_chain B0.out hb1)
  have HX1 : Hid (PBox _ _ _ _) := Lib.hid (own_below HX0.out hb1)
  have HS1 := Lib.hid (DW.start hs1)
  have hlt1 := hs1.lt
  clear hs1 hb1 HX0 B0 hsA
  go_wp2_with (fail)
  refine (c_l14Draw (w.heap.size + 1) _ HS1.out.s).mono ?_
  rintro e w2 ⟨⟨nm, ins, vs, os, gd, ls⟩, a1, a2, a3, a4, c1, c2, c3, c4, ds, rfl, ho, hok, _, hd2⟩
  have HZ := Lib.hid (hok.sizes ho.e)
  have HX2 : Hid (PBox _ _ _ _) := Lib.hid (hd2.own2 HX1.out (fun q hq e => by simp only [Value.ownBlock, Option.some.injEq] at hq; omega))
  have HD2 := Lib.hid (HS1.out.then_ hd2)
  have hsw2 := HD2.out.g.size
  have HR2 : Hid (PRows w2 w1.heap.size a1 a2 a3 a4 c1 c2 c3 c4 ins.length vs.length os.length ls.length ins vs os ds) := Lib.hid ho.rows
  have HSI : Hid (ins.length ≤ 1048576) := Lib.hid hok.i.1
  have HSO : Hid (os.length ≤ 1048576) := Lib.hid hok.o.1
  dsimp only [pv] at HZ ⊢
  clear ho hok hd2 HX1 HS1
  generalize ins.length = n1 at *
  generalize vs.length = n2 at *
  generalize os.length = n3 at *
  generalize ls.length = n4 at *
  have HRt := Lib.hid (HR2.out.mono (show w.heap.size ≤ w1.heap.size by omega))
  have HXt := HX2
  have HBt := Lib.hid (DW.bel HB1.out HD2.out (by omega) rfl)
  clear HR2 HX2
  obtain ⟨⟨y0, y1, y2, y3, y4, y5⟩, ⟨f0, f1, f2, f3, f4, f5⟩, hlta⟩ := PBox.c HXt.out
  have hz := PBox.fill HXt.out (.string nm) (.slice a1 n1 c1) (.slice a2 n2 c2) (.slice a3 n3 c3) (.string gd) (.slice a4 n4 c4)
  have YR := Lib.hid (HRt.out.box HXt.out hz.2)
  have YB := Lib.hid (below_of_grown HBt.out hz.2 (fun q hq => by simp only [Option.some.injEq] at hq; omega))
  have YC := Lib.hid hz.1
  obtain ⟨WF, hWF⟩ : ∃ WF, WF = ((((((w2.setCell ⟨w.heap.size, 0, none⟩ (.string nm)).setCell ⟨w.heap.size, 1, none⟩ (.slice a1 n1 c1)).setCell ⟨w.heap.size, 2, none⟩ (.slice a2 n2 c2)).setCell ⟨w.heap.size, 3, none⟩ (.slice a3 n3 c3)).setCell ⟨w.heap.size, 4, none⟩ (.string gd)).setCell ⟨w.heap.size, 5, none⟩ (.slice a4 n4 c4)) := ⟨_, rfl⟩
  rw [← hWF] at YR YB YC
  have HF := Lib.hid hWF
  clear hWF hz HRt HXt HBt
  go_wp2_with (fail)
  rw [← HF.out]
  obtain ⟨⟨r0, r1, r2, r3, r4, r5⟩, _⟩ := PBox.c YC.out
  clear y0 y1 y2 y3 y4 y5 f0 f1 f2 f3 f4 f5
  refine bodyPost_ret (v := .agg #[.string nm, .slice a1 n1 c1, .slice a2 n2 c2, .slice a3 n3 c3, .string gd, .slice a4 n4 c4]) (by simp [results, Tryz.results23, go_sem, r0, r1, r2, r3, r4, r5]) rfl (YR.out.progX (xs := []) HZ.out trivial YB.out)
end Go.Proofs.YteengjcplmjakaaGreatDoor

/- append of a list of numbers to a list of the call's own; l01Own; rows of lists. No condition but the sizes. -/
namespace Go.Proofs.YteengjcplmjakaaGreatDoor
open Go.RowKit

theorem news_of {w : World} {A : Option Addr} {ys : List Int} {ad : Addr} (hr : Rd w A (ints ys)) (hA : A = some ad) : ∀ j u, (ints ys)[j]? = some u → w.cell? (ad.add j) = some u := by
  intro j u hu
  rcases hr with h | ⟨b, off, e, _, hc⟩
  · rw [h] at hu; simp at hu
  · rw [hA] at e
    simp only [Option.some.injEq] at e
    subst e
    rw [Addr.add_lit]
    exact hc j u hu
theorem ints_cells (ys : List Int) : ∀ u ∈ ints ys, u.oneCell' = true := by
  intro u hu
  obtain ⟨x, _, rfl⟩ := List.mem_map.1 hu
  rfl
theorem ints_append (a b : List Int) : ints a ++ ints b = ints (a ++ b) := by simp [ints]
theorem wpList_append_ints (w : World) {ops : Array Oper} {rest : List Oper} {o : Oper} {a : Act} {Q : Exit → Act → World → Prop} (hgd : o.guard = none) (s x : Operand)
    (ho : o.op = .call { callee := .builtin .append, args := #[s, x], argTypes := #[29, 29] })
    (base : Nat) (v : Value) (n : Nat) (zs ys : List Int) (ad : Addr) (m c : Nat) (hs : a.eval s = v) (hown : w.ownsRow base 2 1 v n (ints zs))
    (hx : a.eval x = .slice (some ad) m c) (hr : Rd w (some ad) (ints ys)) (hm : m = ys.length) (hn : n + m ≤ 1000000000000) (hbase : base ≤ w.heap.size)
    (h : ∀ v' w', w'.ownsRow base 2 1 v' (n + m) (ints (zs ++ ys)) → w.grownBy w' v.ownBlock → (v' = .slice none 0 0 ↔ v = .slice none 0 0 ∧ m = 0) → wpList Tryz.prog ops Q rest (a.put o.dst v') w') : wpList Tryz.prog ops Q (o :: rest) a w := by
  obtain ⟨i0, hi, hz0, hz1, hz2⟩ := info_parts info_int64
  refine wpList_append_own w hgd s x 29 ho base 2 i0 (.int .i64 0) 1 8 Tryz.underlying29 hi hz0 hz1 hz2 rfl (by decide) v n (ints zs) hs hown ad m c (ints ys) hx (by rw [ints_length, hm, Nat.mul_one]) (news_of hr rfl) (ints_cells ys) (by unfold maxLen; omega) (by omega) hbase ?_
  intro v' w' h1 h2 h3
  exact h v' w' (by rw [← ints_append]; exact h1) h2 h3
set_option maxRecDepth 100000 in
theorem c_l01Own (b off c n : Nat) (zs : List Int) (w : World) (hn : n = zs.length) (hs : n ≤ 100000000) (hr : Rd w (some ⟨b, off, none⟩) (ints zs)) :
    Calls Tryz.prog 159 #[.slice (some ⟨b, off, none⟩) n c] w fun e w' => ∃ g c', e = .returned (.slice (some ⟨g, 0, none⟩) n c') ∧ w'.ownsRow w.heap.size 2 1 (.slice (some ⟨g, 0, none⟩) n c') n (ints zs) ∧ Below w.heap.size w w' := by
  have HN := Lib.hid hn
  have HR := Lib.hid hr
  clear hn hr
  go_enter Tryz.func159, Tryz.ntmps159
  go_wp2_with (first
    | (at_builtin
       refine wpList_append_ints _ (by rfl) (.tmp 3) (.tmp 4) (by rfl) w.heap.size (.slice (some ⟨w.heap.size, 0, none⟩) 0 0) 0 [] zs ⟨b, off, none⟩ n c (by rfl) (World.ownsRow_made w #[] 0 (Nat.le_refl _) (Nat.zero_le _) rfl) (by rfl) (HR.out.alloc _) HN.out (by omega) (by simp) ?_
       intro v' w1 hown hgrow hnil
       have HO := Lib.hid hown
       have HB := Lib.hid (show Below w.heap.size w w1 from ((Below.refl _ w).alloc (Nat.le_refl _) _).grown hgrow (by simp) (by intro k hk; simp [Value.ownBlock] at hk; omega))
       have HV := Lib.hid (show ∃ g c', v' = .slice (some ⟨g, 0, none⟩) n c' by
         rcases hown.2 with ⟨h1, h2⟩ | ⟨g, cap, cur, h1, _⟩
         · rw [hnil] at h1; simp at h1
         · exact ⟨g, cap, by rw [h1, Nat.zero_add]⟩)
       clear hown hgrow hnil)
    )
  go_ret
  obtain ⟨g, c', rfl⟩ := HV.out
  refine ⟨g, c', rfl, by simpa using HO.out, HB.out⟩
theorem wpList_append_int_none (w : World) {ops : Array Oper} {rest : List Oper} {o : Oper} {a : Act} {Q : Exit → Act → World → Prop} (hgd : o.guard = none) (s x : Operand)
    (ho : o.op = .call { callee := .builtin .append, args := #[s, x], argTypes := #[29, 29] })
    (base : Nat) (v : Value) (n : Nat) (xs : List Value) (hs : a.eval s = v) (hown : w.ownsRow base 2 1 v n xs) (hx : a.eval x = .slice none 0 0)
    (h : wpList Tryz.prog ops Q rest (a.put o.dst v) w) : wpList Tryz.prog ops Q (o :: rest) a w := by
  obtain ⟨i0, hi, hz0, hz1, hz2⟩ := info_parts info_int64
  exact wpList_append_own_none hgd s x 29 ho base 2 i0 1 Tryz.underlying29 hi v n xs hs hown hx h
set_option maxRecDepth 100000 in
theorem c_l01OwnN (w : World) : Calls Tryz.prog 159 #[.slice none 0 0] w fun e w' => ∃ g c', e = .returned (.slice (some ⟨g, 0, none⟩) 0 c') ∧ w'.ownsRow w.heap.size 2 1 (.slice (some ⟨g, 0, none⟩) 0 c') 0 (ints []) ∧ Below w.heap.size w w' := by
  go_enter Tryz.func159, Tryz.ntmps159
  go_wp2_with (first
    | (at_builtin
       refine wpList_append_int_none _ (by rfl) (.tmp 3) (.tmp 4) (by rfl) w.heap.size (.slice (some ⟨w.heap.size, 0, none⟩) 0 0) 0 [] (by rfl) (World.ownsRow_made w #[] 0 (Nat.le_refl _) (Nat.zero_le _) rfl) (by rfl) ?_)
    )
  go_ret
  exact ⟨_, _, rfl, World.ownsRow_made w #[] 0 (Nat.le_refl _) (Nat.zero_le _) rfl, below_alloc (Below.refl _ _) _⟩
theorem c_l01OwnQ (base n c : Nat) (A : Option Addr) (zs : List Int) (w : World) (hn : n = zs.length) (hs : n ≤ 100000000) (hr : w.ownsRow base 2 1 (.slice A n c) n (ints zs)) :
    Calls Tryz.prog 159 #[.slice A n c] w fun e w' => ∃ g c', e = .returned (.slice (some ⟨g, 0, none⟩) n c') ∧ w'.ownsRow w.heap.size 2 1 (.slice (some ⟨g, 0, none⟩) n c') n (ints zs) ∧ Below w.heap.size w w' := by
  rcases hr.2 with ⟨h1, h2⟩ | ⟨g, cap, cur, h1, _⟩
  · simp only [Value.slice.injEq] at h1
    obtain ⟨rfl, rfl, rfl⟩ := h1
    obtain rfl : zs = [] := List.eq_nil_of_length_eq_zero hn.symm
    exact c_l01OwnN w
  · simp only [Value.slice.injEq, true_and] at h1
    obtain ⟨rfl, rfl⟩ := h1
    exact c_l01Own g 0 c n zs w hn hs (Rd.own hr)
/-- A list of numbers as it lies in memory. -/
structure IvD where
  l : List Int
  a : Option Addr
  c : Nat
def IvD.v (d : IvD) : Value := .slice d.a d.l.length d.c
def rowsC (ds : List IvD) : List Value := ds.map IvD.v
/-- The slice value `.slice A L.length c` holds the lists L. -/
def RdS (w : World) (A : Option Addr) (L : List (List Int)) : Prop :=
  ∃ ds : List IvD, ds.map IvD.l = L ∧ Rd w A (rowsC ds) ∧ ∀ d ∈ ds, Rd w d.a (ints d.l)
theorem RdS.below {w w1 : World} {A : Option Addr} {L : List (List Int)} (h : RdS w A L) (hb : Below w.heap.size w w1) : RdS w1 A L := by
  obtain ⟨ds, e, h1, h2⟩ := h
  exact ⟨ds, e, h1.below hb, fun d hd => (h2 d hd).below hb⟩
theorem RdS.at {w : World} {A : Option Addr} {L : List (List Int)} {k : Nat} {l : List Int} (h : RdS w A L) (hk : L[k]? = some l) : ∃ b off a c, A = some ⟨b, off, none⟩ ∧ b < w.heap.size ∧ w.cell? ⟨b, off + k, none⟩ = some (.slice a l.length c) ∧ Rd w a (ints l) := by
  obtain ⟨ds, rfl, h1, h2⟩ := h
  rw [List.getElem?_map, Option.map_eq_some_iff] at hk
  obtain ⟨d, hd, rfl⟩ := hk
  have u0 : (rowsC ds)[k]? = some d.v := by simp [rowsC, hd]
  obtain ⟨b, off, rfl, hb, hc⟩ := h1.some_ (by intro e; rw [e] at u0; simp at u0)
  exact ⟨b, off, d.a, d.c, rfl, hb, hc _ _ u0, h2 d (List.mem_of_getElem? hd)⟩
theorem info_intS : (Tryz.prog.info? 29).map (fun i => (i.zero, i.size, i.bytes)) = some (some (.slice none 0 0), 1, 24) := by kernel_rfl
/-- The lists are the call's own, and so is the row of their slices. -/
def LsOwn (w : World) (base : Nat) (v : Value) (L : List (List Int)) : Prop :=
  ∃ ds : List IvD, ds.map IvD.l = L ∧ w.ownsRow base 29 1 v L.length (rowsC ds) ∧ ∀ d ∈ ds, w.ownsRow base 2 1 d.v d.l.length (ints d.l)
theorem LsOwn.below {w w1 : World} {base : Nat} {v : Value} {L : List (List Int)} (h : LsOwn w base v L) (hb : Below w.heap.size w w1) : LsOwn w1 base v L := by
  obtain ⟨ds, e, h1, h2⟩ := h
  exact ⟨ds, e, own_below h1 hb, fun d hd => own_below (h2 d hd) hb⟩
theorem LsOwn.far {w w1 : World} {base : Nat} {v : Value} {L : List (List Int)} {row : Option Nat} (h : LsOwn w base v L) (hg : w.grownBy w1 row) (hlt : ∀ q, row = some q → q < base) : LsOwn w1 base v L := by
  obtain ⟨ds, e, h1, h2⟩ := h
  exact ⟨ds, e, kept_far h1 hg hlt, fun d hd => kept_far (h2 d hd) hg hlt⟩
theorem LsOwn.dw {B : Nat} {w w1 : World} {base : Nat} {v : Value} {L : List (List Int)} (h : LsOwn w base v L) (hd : DW B w w1) (hB : B < base) : LsOwn w1 base v L := h.far hd.g (fun q hq => by simp at hq; omega)
theorem LsOwn.rd {w : World} {base n c : Nat} {A : Option Addr} {L : List (List Int)} (h : LsOwn w base (.slice A n c) L) : RdS w A L := by
  obtain ⟨ds, e, h1, h2⟩ := h
  obtain rfl : n = L.length := by
    rcases h1.2 with ⟨e, e2⟩ | ⟨g, cap, cur, e, _⟩
    · simp only [Value.slice.injEq] at e; omega
    · simp only [Value.slice.injEq] at e; omega
  exact ⟨ds, e, Rd.own h1, fun d hd => Rd.own (h2 d hd)⟩
theorem LsOwn.form {w : World} {base : Nat} {v : Value} {L : List (List Int)} (h : LsOwn w base v L) : ∃ A c, v = .slice A L.length c := by
  obtain ⟨ds, _, h1, _⟩ := h
  rcases h1.2 with ⟨e, e2⟩ | ⟨g, cap, cur, e, _⟩
  · exact ⟨none, 0, by rw [e, e2]⟩
  · exact ⟨_, _, e⟩
theorem LsOwn.ge {w : World} {base : Nat} {v : Value} {L : List (List Int)} (h : LsOwn w base v L) : ∀ q, v.ownBlock = some q → base ≤ q ∧ q < w.heap.size := by
  obtain ⟨ds, _, h1, _⟩ := h
  exact fun q hq => h1.lt q hq
theorem lsOwn_start (w : World) (base : Nat) (hb : base ≤ w.heap.size) : LsOwn (w.alloc (.cells #[] 29)) base (.slice (some ⟨w.heap.size, 0, none⟩) 0 0) [] := by
  refine ⟨[], rfl, ?_, by simp⟩
  have h := World.ownsRow_lit (e := 29) (size := 1) (base := base) w #[] 0 hb (by decide) (by simp)
  simpa [rowsC] using h
/-- append of one list to a list of lists of the call's own. -/
theorem wpList_push_row (w : World) {ops : Array Oper} {rest : List Oper} {o : Oper} {a : Act} {Q : Exit → Act → World → Prop} (hgd : o.guard = none) (s x : Operand)
    (ho : o.op = .call { callee := .builtin .append, args := #[s, x], argTypes := #[141, 141] })
    (base : Nat) (v : Value) (L : List (List Int)) (d : IvD) (g c : Nat) (hs : a.eval s = v) (hown : LsOwn w base v L)
    (hx : a.eval x = .slice (some ⟨g, 0, none⟩) 1 c) (hc : w.cell? ⟨g, 0, none⟩ = some d.v) (hd : w.ownsRow base 2 1 d.v d.l.length (ints d.l)) (hn : L.length ≤ 1048577) (hbase : base ≤ w.heap.size)
    (h : ∀ v' w', LsOwn w' base v' (L ++ [d.l]) → w.grownBy w' v.ownBlock → wpList Tryz.prog ops Q rest (a.put o.dst v') w') : wpList Tryz.prog ops Q (o :: rest) a w := by
  obtain ⟨i0, hi, hz0, hz1, hz2⟩ := info_parts info_intS
  obtain ⟨ds, rfl, h1, h2⟩ := hown
  rw [List.length_map] at h1 hn
  refine wpList_push w hgd s x 141 ho base 29 i0 (.slice none 0 0) 1 24 Tryz.underlying141 hi hz0 hz1 hz2 rfl (by decide) v ds.length (rowsC ds) hs h1 ⟨g, 0, none⟩ c [d.v] hx rfl ?_ ?_ (by unfold maxLen; omega) (by omega) hbase ?_
  · intro j u hu
    match j, hu with
    | 0, hu =>
      simp only [List.getElem?_cons_zero, Option.some.injEq] at hu
      rw [← hu]
      simpa [Addr.add] using hc
  · intro u hu
    simp only [List.mem_singleton] at hu
    subst hu
    rfl
  · intro v' w' hown1 hgrow _ _
    refine h v' w' ⟨ds ++ [d], by simp, ?_, fun d' hd' => ?_⟩ hgrow
    · have e : rowsC (ds ++ [d]) = rowsC ds ++ [d.v] := by simp [rowsC]
      rw [e]
      simpa using hown1
    · rcases List.mem_append.1 hd' with hd' | hd'
      · exact own_keep (h2 d' hd') h1 (by decide) hgrow
      · simp only [List.mem_singleton] at hd'
        subst hd'
        exact own_keep hd h1 (by decide) hgrow
def memB (zs : List Int) (x : Int) : Bool := decide (x ∈ zs)
theorem memB_yes {zs : List Int} {k : Nat} {z : Int} (hz : zs[k]? = some z) : memB zs z = true := by
  unfold memB
  exact decide_eq_true (List.mem_of_getElem? hz)
theorem memB_no {zs : List Int} {x : Int} {n : Nat} (h : ¬ x ∈ zs.take n) (hn : zs.length ≤ n) : memB zs x = false := by
  unfold memB
  rw [List.take_of_length_le hn] at h
  exact decide_eq_false h
theorem not_take {zs : List Int} {k : Nat} {x z : Int} (h : ¬ x ∈ zs.take k) (hz : zs[k]? = some z) (e : ¬ z = x) : ¬ x ∈ zs.take (k + 1) := by
  rw [List.take_add_one, hz]
  intro hm
  rcases List.mem_append.1 hm with hm | hm
  · exact h hm
  · simp at hm
    exact e hm.symm
set_option maxRecDepth 100000 in
theorem c_hasInt (A : Option Addr) (c n : Nat) (zs : List Int) (x : Int) (w : World) (hn : n = zs.length) (hs : n ≤ 1048576) (hr : Rd w A (ints zs)) :
    Calls Tryz.prog 29 #[.slice A n c, .int .i64 x] w fun e w' => e = .returned (.bool (memB zs x)) ∧ w = w' := by
  have HN := Lib.hid hn
  clear hn
  go_enter Tryz.func29, Tryz.ntmps29
  go_wp2
  go_loop [5] (fun v => ∃ k : Nat, k ≤ n ∧ v = .int .i64 k ∧ Hid (¬ x ∈ zs.take k)) (fun v => n - (intOf v).toNat)
  case atStart => exact ⟨0, Nat.zero_le _, rfl, Lib.hid (by simp)⟩
  case round =>
    obtain ⟨k, hk, rfl, ht⟩ := hrel
    by_cases hlt : k < n
    · obtain ⟨z, hz⟩ : ∃ z, zs[k]? = some z := ⟨_, List.getElem?_eq_getElem (by have := HN.out; omega)⟩
      obtain ⟨b1, o1, rfl, _, g1⟩ := hr.int hz
      have HZ := Lib.hid hz
      have hk0 : (0 : Int) ≤ (k : Int) := by omega
      have hk1 : (k : Int) < n := by omega
      clear hz hr
      by_cases hzy : z = x
      · subst hzy
        have HL := Lib.hid (memB_yes HZ.out)
        go_wp2
        go_ret
        exact ⟨by rw [HL.out]; rfl, rfl⟩
      · have hne : (z == x) = false := by simpa using hzy
        go_wp2
        go_round
        case rel => exact ⟨k + 1, by omega, by go_num, Lib.hid (not_take ht.out HZ.out hzy)⟩
        case measure => simp [intOf]; omega
    · obtain rfl : k = n := by omega
      have HL := Lib.hid (memB_no ht.out (by have := HN.out; omega))
      go_wp2
      go_ret
      exact ⟨by rw [HL.out]; rfl, rfl⟩
end Go.Proofs.YteengjcplmjakaaGreatDoor
