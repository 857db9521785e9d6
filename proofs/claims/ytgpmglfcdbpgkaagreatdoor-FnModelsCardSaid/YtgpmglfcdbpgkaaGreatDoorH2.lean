/- Contracts and helpers (joined texts, part 2). The conditions stand at each theorem. -/
import Derived.Test.YtgpmglfcdbpgkaaGreatDoorH1
import Derived.Test.YtgpmglfcdbpgkaaGreatDoorPshM
import Derived.Test.YtgpmglfcdbpgkaaGreatDoorRgH
/- Numbers read from texts, on the reference's side. Condition: the text's length. -/
namespace Go.Proofs.YtgpmglfcdbpgkaaGreatDoor
open Go.RowKit

/-- A number and whether it is one. -/
def RetOI (o : Option Int) (w : World) (e : Ending) (w' : World) : Prop := ∃ (n : Int) (b : Bool), e = .returned (.tuple #[.int .i64 n, .bool b]) ∧ o = (if b then some n else none) ∧ -1000000000000 ≤ n ∧ n ≤ 1000000000000 ∧ Below w.heap.size w w'
theorem valF_snoc (l : List UInt8) (c : UInt8) : valF (l ++ [c]) 0 = 10 * valF l 0 + (c.toNat - 48 : Int) := by unfold valF; rw [List.foldl_append]; rfl
theorem str_eq (s t : ByteArray) : (s.toList == t.toList) = decide (s.data.toList = t.data.toList) := by
  rw [Lib.toList_data, Lib.toList_data]
  by_cases h : s.data.toList = t.data.toList
  · rw [h]; simp
  · rw [decide_eq_false h]; simpa using h
set_option maxHeartbeats 2000000 in
set_option maxRecDepth 100000 in
theorem c_l01Value (s : ByteArray) (w : World) (hs : s.size ≤ 1048576) : Calls Tryz.prog 93 #[.string s] w (RetOI (valS s.data.toList) w) := by
  have hL : s.data.toList.length = s.size := by simp
  have HAT : Hid (∀ k (h : k < s.size), s.data.toList[k]? = some s[k]) := Lib.hid (fun k h => by rw [List.getElem?_eq_getElem (by simpa using h)]; rfl)
  have HV := Lib.hid (show valS s.data.toList = if 1 ≤ s.data.toList.length ∧ s.data.toList.length ≤ 12 ∧ s.data.toList.all digB = true ∧ Lib.itoa (valF s.data.toList 0) = s.data.toList then some (valF s.data.toList 0) else none from rfl)
  have HEQ := Lib.hid (fun t : ByteArray => str_eq t s)
  generalize s.data.toList = L at *
  generalize valS L = V at *
  have HLL := Lib.hid hL
  clear hL
  by_cases h1 : s.size < 1
  · have h10 : (s.size : Int) < 1 := by omega
    have HN : Hid (V = none) := Lib.hid (by rw [HV.out, if_neg (by rintro ⟨h, _⟩; have := HLL.out; omega)])
    go_enter Tryz.func93, Tryz.ntmps93
    go_wp2_with (fail)
    go_ret2
    exact ⟨0, false, rfl, HN.out, by omega, by omega, Below.refl _ _⟩
  have h10 : ¬ ((s.size : Int) < 1) := by omega
  by_cases h2 : 12 < s.size
  · have h20 : (12 : Int) < (s.size : Int) := by omega
    have HN : Hid (V = none) := Lib.hid (by rw [HV.out, if_neg (by rintro ⟨_, h, _⟩; have := HLL.out; omega)])
    go_enter Tryz.func93, Tryz.ntmps93
    go_wp2_with (fail)
    go_ret2
    exact ⟨0, false, rfl, HN.out, by omega, by omega, Below.refl _ _⟩
  have h20 : ¬ ((12 : Int) < (s.size : Int)) := by omega
  go_enter Tryz.func93, Tryz.ntmps93
  go_wp2_with (fail)
  go_loopw [4, 5] (fun v i wr => ∃ (k N : Nat), i = .int .i64 k ∧ v = .int .i64 N ∧ k ≤ s.size ∧ N < 10 ^ k ∧ Hid (valF (L.take k) 0 = N) ∧ Hid ((L.take k).all digB = true) ∧ wr = w) (fun _ i _ => s.size - (intOf i).toNat)
  case atStart => exact ⟨0, 0, rfl, rfl, Nat.zero_le _, by decide, Lib.hid rfl, Lib.hid rfl, rfl⟩
  case round =>
    obtain ⟨k, N, rfl, rfl, hk, hN, hv, hd, rfl⟩ := hrel
    have hpw : N < 10 ^ 12 := Nat.lt_of_lt_of_le hN (Nat.pow_le_pow_right (by decide) (by omega))
    by_cases hlt : k < s.size
    · have hk0 : (0 : Int) ≤ (k : Int) := by omega
      have hk1 : (k : Int) < (s.size : Int) := by omega
      have hat := HAT.out k hlt
      by_cases hdg : digB s[k] = true
      · have hb : 48 ≤ s[k].toNat ∧ s[k].toNat ≤ 57 := by unfold digB at hdg; simpa using hdg
        obtain ⟨d, hd48⟩ : ∃ d : Nat, s[k].toNat = 48 + d := ⟨s[k].toNat - 48, by omega⟩
        have hx : (s[k].toNat : Int) = 48 + (d : Int) := by omega
        have hd9 : d ≤ 9 := by omega
        have HVN : Hid (valF (L.take (k + 1)) 0 = ((10 * N + d : Nat) : Int)) := Lib.hid (by
          rw [List.take_add_one, hat]
          show valF (L.take k ++ [s[k]]) 0 = _
          rw [valF_snoc, hv.out]
          omega)
        have HDN : Hid ((L.take (k + 1)).all digB = true) := Lib.hid (by rw [List.take_add_one, hat, List.all_append, hd.out]; simp [hdg])
        have hP : 10 * N + d < 10 ^ (k + 1) := by rw [Nat.pow_succ]; omega
        have hw1 : IntKind.i64.wrap (10 * (N : Int)) = 10 * N := IntWalk.i64_in _ (by omega)
        have hw2 : IntKind.u8.wrap (d : Int) = d := by unfold IntKind.wrap; simp [IntKind.bits, IntKind.signed]; omega
        have hw3 : IntKind.i64.wrap (d : Int) = d := IntWalk.i64_in _ (by omega)
        have hw4 : IntKind.i64.wrap (10 * (N : Int) + d) = 10 * N + d := IntWalk.i64_in _ (by omega)
        have c1 : ¬ ((s[k].toNat : Int) < 48) := by omega
        have c2 : ¬ ((57 : Int) < (s[k].toNat : Int)) := by omega
        have HP := Lib.hid hP
        clear hat hdg hb hd48 hP hv hd
        go_wp2_with (fail)
        go_roundw
        case rel => exact ⟨k + 1, 10 * N + d, by go_num, by congr 1; omega, by omega, HP.out, HVN, HDN, trivial⟩
        case measure => simp [intOf]; omega
      · have HN : Hid (V = none) := Lib.hid (by
          rw [HV.out, if_neg]
          rintro ⟨_, _, h, _⟩
          exact hdg (List.all_eq_true.1 h _ (List.mem_of_getElem? hat)))
        have hb : s[k].toNat < 48 ∨ 57 < s[k].toNat := by unfold digB at hdg; simp at hdg; omega
        clear hat hdg
        rcases hb with hb | hb
        · have c1 : ((s[k].toNat : Int) < 48) := by omega
          go_wp2_with (fail)
          go_ret2
          exact ⟨0, false, rfl, HN.out, by omega, by omega, Below.refl _ _⟩
        · have c1 : ¬ ((s[k].toNat : Int) < 48) := by omega
          have c2 : ((57 : Int) < (s[k].toNat : Int)) := by omega
          go_wp2_with (fail)
          go_ret2
          exact ⟨0, false, rfl, HN.out, by omega, by omega, Below.refl _ _⟩
    · have hke : k = s.size := by omega
      have HT : Hid (L.take k = L) := Lib.hid (List.take_of_length_le (by have := HLL.out; omega))
      have HV2 : Hid (V = if Lib.decDigits N = L then some (N : Int) else none) := Lib.hid (by
        have e1 := hv.out
        have e2 := hd.out
        rw [HT.out] at e1 e2
        rw [HV.out, e1, itoa_nat]
        have hl := HLL.out
        by_cases h : Lib.decDigits N = L
        · rw [if_pos ⟨by omega, by omega, e2, h⟩, if_pos h]
        · rw [if_neg (fun h' => h h'.2.2.2), if_neg h])
      have hkn : ¬ ((k : Int) < (s.size : Int)) := by omega
      have hpow : (10 : Nat) ^ 12 = 1000000000000 := by decide
      clear hke hlt hv hd
      go_wp2_with (fail)
      refine (c_l01Dec N (by omega) _).mono ?_
      rintro e w2 ⟨t, rfl, ht, hb2⟩
      have HB2 := Lib.hid hb2
      have hq := HEQ.out t
      rw [ht] at hq
      have HQ := Lib.hid hq
      clear hb2 ht hq
      go_wp2_with (fail)
      go_ret2
      refine ⟨(N : Int), _, rfl, ?_, by omega, by omega, HB2.out⟩
      rw [HV2.out, HQ.out]
      by_cases h : Lib.decDigits N = L
      · rw [if_pos h, decide_eq_true h]; rfl
      · rw [if_neg h, decide_eq_false h]; rfl
end Go.Proofs.YtgpmglfcdbpgkaaGreatDoor

/- Signed numbers and lists of numbers read from texts, on the reference's side. Condition: the texts' lengths. -/
namespace Go.Proofs.YtgpmglfcdbpgkaaGreatDoor
open Go.RowKit

theorem sgnS_ne {c : UInt8} {r : List UInt8} (h : c ≠ 45) : sgnS (c :: r) = valS (c :: r) := by
  unfold sgnS
  split
  · next e => injection e with e1 _; exact absurd e1 h
  · rfl
theorem sgnS_nil : sgnS [] = valS [] := rfl
set_option maxHeartbeats 1000000 in
set_option maxRecDepth 100000 in
theorem c_l01Signed (s : ByteArray) (w : World) (hs : s.size ≤ 1048576) : Calls Tryz.prog 64 #[.string s] w (RetOI (sgnS s.data.toList) w) := by
  have hL : s.data.toList.length = s.size := by simp
  have HVS := Lib.hid (c_l01Value s w hs)
  by_cases h0 : s.size = 0
  · have he : s.data.toList = [] := List.eq_nil_of_length_eq_zero (by omega)
    rw [he] at HVS ⊢
    rw [sgnS_nil]
    have h00 : ¬ ((0 : Int) < (s.size : Int)) := by omega
    clear h0 hL he
    go_enter Tryz.func64, Tryz.ntmps64
    go_wp2_with (fail)
    refine HVS.out.mono ?_
    rintro e w2 ⟨n, b, rfl, hn, h1, h2, hb2⟩
    have HN := Lib.hid hn
    have HB2 := Lib.hid hb2
    clear hn hb2
    go_wp2_with (fail)
    go_ret2
    exact ⟨n, b, rfl, HN.out, h1, h2, HB2.out⟩
  have hp : 0 < s.size := by omega
  have hat : s.data.toList[0]? = some s[0] := by rw [List.getElem?_eq_getElem (by simpa using hp)]; rfl
  have h00 : ((0 : Int) < (s.size : Int)) := by omega
  by_cases h45 : s[0] = 45
  · have hq : (s[0].toNat : Int) = 45 := by rw [h45]; rfl
    have hex : s.extract 1 s.size = bsT (s.data.toList.drop 1) := by
      rw [extract_bsT]
      congr 1
      exact List.take_of_length_le (by rw [List.length_drop]; omega)
    have hcons : s.data.toList = 45 :: s.data.toList.drop 1 := by
      have h1 : s.data.toList.drop 0 = s.data.toList[0]'(by omega) :: s.data.toList.drop 1 := List.drop_eq_getElem_cons (by omega)
      have h2 := (List.getElem?_eq_some_iff.1 hat).2
      rw [List.drop_zero] at h1
      rw [h2, h45] at h1
      exact h1
    have HVT := Lib.hid (fun w' => c_l01Value (bsT (s.data.toList.drop 1)) w' (by rw [bsT_size, List.length_drop]; omega))
    rw [bsT_list] at HVT
    have HSG : Hid (sgnS s.data.toList = match valS (s.data.toList.drop 1) with | some n => if 0 < n then some (-n) else none | none => none) := Lib.hid (by rw [hcons]; rfl)
    generalize sgnS s.data.toList = V at *
    generalize s.data.toList.drop 1 = r at *
    generalize valS r = U at *
    clear hcons hat h45 hL h0 HVS
    go_enter Tryz.func64, Tryz.ntmps64
    go_wp2_with (fail)
    refine (HVT.out _).mono ?_
    rintro e w2 ⟨n, b, rfl, hn, h1, h2, hb2⟩
    have HB2 := Lib.hid hb2
    have hw : IntKind.i64.wrap (-n) = -n := IntWalk.i64_in _ (by omega)
    have HN := Lib.hid hn
    clear hn hb2
    cases b
    · have HV : Hid (V = none) := Lib.hid (by rw [HSG.out, HN.out]; rfl)
      go_wp2_with (fail)
      go_ret2
      exact ⟨-n, false, rfl, HV.out, by omega, by omega, HB2.out⟩
    · by_cases hn0 : 0 < n
      · have HV : Hid (V = some (-n)) := Lib.hid (by rw [HSG.out, HN.out]; simp only [if_true]; rw [if_pos hn0])
        go_wp2_with (fail)
        go_ret2
        exact ⟨-n, true, rfl, HV.out, by omega, by omega, HB2.out⟩
      · have HV : Hid (V = none) := Lib.hid (by rw [HSG.out, HN.out]; simp only [if_true]; rw [if_neg hn0])
        have hd0 : decide (0 < n) = false := decide_eq_false hn0
        go_wp2_with (fail)
        go_ret2
        exact ⟨-n, false, rfl, HV.out, by omega, by omega, HB2.out⟩
  · have hq : ((s[0].toNat : Int) == 45) = false := by
      rw [beq_eq_false_iff_ne]
      intro e
      exact h45 (UInt8.toNat_inj.1 (by simpa using (by omega : s[0].toNat = 45)))
    have hcons : ∃ r, s.data.toList = s[0] :: r := by
      have h1 : s.data.toList.drop 0 = s.data.toList[0]'(by omega) :: s.data.toList.drop 1 := List.drop_eq_getElem_cons (by omega)
      have h2 := (List.getElem?_eq_some_iff.1 hat).2
      rw [List.drop_zero, h2] at h1
      exact ⟨_, h1⟩
    have HSG : Hid (sgnS s.data.toList = valS s.data.toList) := Lib.hid (by
      obtain ⟨r, hr⟩ := hcons
      rw [hr]
      exact sgnS_ne h45)
    rw [HSG.out]
    clear hcons hat h45 hL h0 HSG
    go_enter Tryz.func64, Tryz.ntmps64
    go_wp2_with (fail)
    refine HVS.out.mono ?_
    rintro e w2 ⟨n, b, rfl, hn, h1, h2, hb2⟩
    have HN := Lib.hid hn
    have HB2 := Lib.hid hb2
    clear hn hb2
    go_wp2_with (fail)
    go_ret2
    exact ⟨n, b, rfl, HN.out, h1, h2, HB2.out⟩
theorem Rd.str {w : World} {A : Option Addr} {ws : List (List UInt8)} {k : Nat} {x : List UInt8} (h : Rd w A (strs ws)) (hk : ws[k]? = some x) : ∃ b off, A = some ⟨b, off, none⟩ ∧ b < w.heap.size ∧ w.cell? ⟨b, off + k, none⟩ = some (.string (bsT x)) := by
  have u0 : (strs ws)[k]? = some (.string (bsT x)) := by unfold strs; rw [List.getElem?_map, hk]; rfl
  obtain ⟨b, off, rfl, hb, hc⟩ := h.some_ (by intro e; rw [e] at u0; simp at u0)
  exact ⟨b, off, rfl, hb, hc _ _ u0⟩
theorem spl_len {c : UInt8} : ∀ {L : List UInt8}, ∀ x ∈ spl c L, x.length ≤ L.length
  | [], x, h => by simp [spl] at h; subst h; simp
  | b :: l, x, h => by
    have ih := fun y hy => spl_len (c := c) (L := l) y hy
    unfold spl at h
    split at h
    · rcases List.mem_cons.1 h with rfl | h
      · simp
      · have := ih x h; simp; omega
    · rcases List.mem_cons.1 h with rfl | h
      · cases hs : spl c l with
        | nil => exact absurd hs (spl_ne c l)
        | cons y t =>
          have := ih y (by rw [hs]; exact List.mem_cons_self ..)
          simp; omega
      · have := ih x (List.mem_of_mem_tail h); simp; omega
/-- A list of numbers and whether they all are. -/
def RetNO (o : Option (List Int)) (w : World) (e : Ending) (w' : World) : Prop := match o with
  | some zs => ∃ A cp, e = .returned (.tuple #[.slice A zs.length cp, .bool true]) ∧ w'.ownsRow w.heap.size 2 1 (.slice A zs.length cp) zs.length (ints zs) ∧ Below w.heap.size w w'
  | none => e = .returned (.tuple #[.slice none 0 0, .bool false]) ∧ Below w.heap.size w w'
theorem retNO_none {o : Option (List Int)} {w w' : World} (h : o = none) (hb : Below w.heap.size w w') : RetNO o w (.returned (.tuple #[.slice none 0 0, .bool false])) w' := by subst h; exact ⟨rfl, hb⟩
theorem retNO_some {o : Option (List Int)} {zs : List Int} {n : Nat} {A : Option Addr} {cp : Nat} {w w' : World} (h : o = some zs) (hn : n = zs.length) (ho : w'.ownsRow w.heap.size 2 1 (.slice A n cp) n (ints zs)) (hb : Below w.heap.size w w') : RetNO o w (.returned (.tuple #[.slice A n cp, .bool true])) w' := by subst h; subst hn; exact ⟨A, cp, rfl, ho, hb⟩
theorem wpList_push_intT (w : World) {ops : Array Oper} {rest : List Oper} {o : Oper} {a : Act} {Q : Exit → Act → World → Prop} (hgd : o.guard = none) (s x : Operand)
    (ho : o.op = .call { callee := .builtin .append, args := #[s, x], argTypes := #[22, 22] })
    (base : Nat) (v : Value) (n : Nat) (zs : List Int) (z : Int) (g c : Nat) (hs : a.eval s = v) (hown : w.ownsRow base 2 1 v n (ints zs))
    (hx : a.eval x = .slice (some ⟨g, 0, none⟩) 1 c) (hc : w.cell? ⟨g, 0, none⟩ = some (.int .i64 z)) (hn : n ≤ 1099511627776) (hbase : base ≤ w.heap.size)
    (h : ∀ v' w', w'.ownsRow base 2 1 v' (n + 1) (ints (zs ++ [z])) → w.grownBy w' v.ownBlock → wpList Tryz.prog ops Q rest (a.put o.dst v') w') : wpList Tryz.prog ops Q (o :: rest) a w := by
  obtain ⟨i0, hi, hz0, hz1, hz2⟩ := info_parts info_int64
  refine wpList_push w hgd s x 22 ho base 2 i0 (.int .i64 0) 1 8 Tryz.underlying22 hi hz0 hz1 hz2 rfl (by decide) v n (ints zs) hs hown ⟨g, 0, none⟩ c [.int .i64 z] hx rfl ?_ ?_ (by unfold maxLen; omega) (by omega) hbase ?_
  · intro j u hu
    match j, hu with
    | 0, hu =>
      simp only [List.getElem?_cons_zero, Option.some.injEq] at hu
      rw [← hu]
      simpa [Addr.add] using hc
  · intro u hu
    simp only [List.mem_singleton] at hu
    subst hu; rfl
  · intro v' w' h1 h2 h3 h4
    exact h v' w' (by simpa [ints] using h1) h2
set_option maxHeartbeats 1000000 in
set_option maxRecDepth 100000 in
theorem c_l01Numbers (A : Option Addr) (c n : Nat) (ws : List (List UInt8)) (w : World) (hn : n = ws.length) (hs : n ≤ 2000000) (hl : ∀ x ∈ ws, x.length ≤ 1048576) (hr : Rd w A (strs ws)) :
    Calls Tryz.prog 22 #[.slice A n c] w (RetNO (seqO sgnS ws) w) := by
  have HN := Lib.hid hn
  have HL := Lib.hid hl
  have HR := Lib.hid hr
  have HB0 := Lib.hid (below_alloc (Below.refl w.heap.size w) (.cells #[] 2))
  have HO : Hid ((w.alloc (.cells #[] 2)).ownsRow w.heap.size 2 1 (.slice (some ⟨w.heap.size, 0, none⟩) 0 0) 0 (ints [])) := Lib.hid (by
    have h := World.ownsRow_lit (e := 2) (size := 1) (base := w.heap.size) w #[] 0 (Nat.le_refl _) (by decide) (by simp)
    simpa [ints] using h)
  clear hn hl hr
  go_enter Tryz.func22, Tryz.ntmps22
  go_wp2_with (fail)
  generalize w.alloc (.cells #[] 2) = W at *
  go_loopw [4, 5, 6, 7] (fun v i _ _ wr => ∃ (k : Nat) (A3 : Option Addr) (c3 : Nat) (zs : List Int), k ≤ n ∧ i = .int .i64 k ∧ v = .slice A3 k c3 ∧ Hid (seqO sgnS (ws.take k) = some zs) ∧ Hid (wr.ownsRow w.heap.size 2 1 (.slice A3 k c3) k (ints zs)) ∧ Hid (Below w.heap.size w wr)) (fun _ i _ _ _ => n - (intOf i).toNat)
  case atStart => exact ⟨0, _, _, [], Nat.zero_le _, rfl, rfl, Lib.hid rfl, HO, HB0⟩
  case round =>
    obtain ⟨k, A3, c3, zs, hk, rfl, rfl, hz, ho, hb⟩ := hrel
    clear HO HB0
    by_cases hlt : k < n
    · obtain ⟨x, hx⟩ : ∃ z, ws[k]? = some z := ⟨_, List.getElem?_eq_getElem (by have := HN.out; omega)⟩
      have hxl := HL.out x (List.mem_of_getElem? hx)
      obtain ⟨b, off, rfl, _, g0⟩ := (HR.out.below hb.out).str hx
      have hk0 : (0 : Int) ≤ (k : Int) := by omega
      have hk1 : (k : Int) < (n : Int) := by omega
      have HX := Lib.hid hx
      have HC := Lib.hid (fun w' => c_l01Signed (bsT x) w' (by rw [bsT_size]; exact hxl))
      rw [bsT_list] at HC
      clear hx
      go_wp2_with (fail)
      refine (HC.out _).mono ?_
      rintro e w2 ⟨m, q, rfl, hm, _, _, hb2⟩
      have HM := Lib.hid hm
      have HO2 := Lib.hid (own_below ho.out hb2)
      have HB2 := Lib.hid (below_chain hb.out hb2)
      clear hm hb2 ho hb g0
      cases q
      · have HV : Hid (seqO sgnS ws = none) := Lib.hid (seqO_bad (List.mem_of_getElem? HX.out) HM.out)
        go_wp2_with (fail)
        go_ret2
        exact retNO_none HV.out HB2.out
      · have HZ2 : Hid (seqO sgnS (ws.take (k + 1)) = some (zs ++ [m])) := Lib.hid (by
          rw [List.take_add_one, HX.out]
          exact seqO_snoc hz.out HM.out)
        have HA1 := Lib.hid (below_alloc (Below.refl w2.heap.size w2) (.cells #[.int .i64 m] 2))
        go_wp2_with (first
          | (at_builtin
             refine wpList_push_intT _ rfl (.tmp 25) (.tmp 27) rfl w.heap.size (.slice A3 k c3) k zs m w2.heap.size 1 rfl (own_below HO2.out HA1.out) rfl (by go_simp) (by omega) (Nat.le_trans HB2.out.size HA1.out.size) ?_
             intro v5 w5 hown hgrow
             obtain ⟨A9, c9, rfl⟩ := own_shape hown
             have HO5 := Lib.hid hown
             have HB5 := Lib.hid (below_of_grown (below_chain HB2.out HA1.out) hgrow (fun p hp => (HO2.out.lt p hp).1))
             clear hown hgrow HA1 HO2 HB2)
          )
        go_roundw
        case rel => exact ⟨k + 1, A9, c9, zs ++ [m], by omega, by go_num, rfl, HZ2, HO5, HB5⟩
        case measure => simp [intOf]; omega
    · obtain rfl : k = n := by omega
      have HT : Hid (seqO sgnS ws = some zs) := Lib.hid (by rw [← hz.out, List.take_of_length_le (by have := HN.out; omega)])
      have HNL : Hid (k = zs.length) := Lib.hid (by rw [seqO_length HT.out]; exact HN.out)
      go_wp2_with (fail)
      go_ret2
      exact retNO_some HT.out HNL.out ho.out hb.out
end Go.Proofs.YtgpmglfcdbpgkaaGreatDoor

/- Pairs of numbers read from texts, on the reference's side. Condition: the text's length. -/
namespace Go.Proofs.YtgpmglfcdbpgkaaGreatDoor
open Go.RowKit

abbrev Pr3 := Int × Int × UInt8
def pInts (ps : List Pr3) : List Int := ps.flatMap fun p => [p.1, p.2.1]
def pSigns (ps : List Pr3) : List UInt8 := ps.map fun p => p.2.2
def u8s (l : List UInt8) : List Value := l.map fun c => .int .u8 (c.toNat : Int)
theorem pInts_len (ps : List Pr3) : (pInts ps).length = 2 * ps.length := by
  induction ps with
  | nil => rfl
  | cons p t ih => simp only [pInts, List.flatMap_cons, List.length_append, List.length_cons, List.length_nil] at ih ⊢; rw [ih]; omega
def RetPS (o : Option (List Pr3)) (w : World) (e : Ending) (w' : World) : Prop := match o with
  | some ps => ∃ A c1 B c2, e = .returned (.tuple #[.slice A (2 * ps.length) c1, .slice B ps.length c2, .bool true]) ∧ w'.ownsRow w.heap.size 2 1 (.slice A (2 * ps.length) c1) (2 * ps.length) (ints (pInts ps)) ∧ w'.ownsRow w.heap.size 5 1 (.slice B ps.length c2) ps.length (u8s (pSigns ps)) ∧ Below w.heap.size w w'
  | none => e = .returned (.tuple #[.slice none 0 0, .slice none 0 0, .bool false]) ∧ Below w.heap.size w w'
theorem retPS_none {o : Option (List Pr3)} {w w' : World} (h : o = none) (hb : Below w.heap.size w w') : RetPS o w (.returned (.tuple #[.slice none 0 0, .slice none 0 0, .bool false])) w' := by subst h; exact ⟨rfl, hb⟩
theorem retPS_some {o : Option (List Pr3)} {ps : List Pr3} {n m : Nat} {A B : Option Addr} {c1 c2 : Nat} {w w' : World} (h : o = some ps) (hn : n = ps.length) (hm : m = 2 * ps.length) (h1 : w'.ownsRow w.heap.size 2 1 (.slice A m c1) m (ints (pInts ps))) (h2 : w'.ownsRow w.heap.size 5 1 (.slice B n c2) n (u8s (pSigns ps))) (hb : Below w.heap.size w w') : RetPS o w (.returned (.tuple #[.slice A m c1, .slice B n c2, .bool true])) w' := by subst h; subst hn; subst hm; exact ⟨A, c1, B, c2, rfl, h1, h2, hb⟩
theorem info_uint8 : (Tryz.prog.info? 5).map (fun i => (i.zero, i.size, i.bytes)) = some (some (.int .u8 0), 1, 1) := by kernel_rfl
theorem wp_append_int2 (w : World) {o : Oper} {a : Act} {K : Act → World → Prop} {Q : Exit → Act → World → Prop} (s x : Operand)
    (ho : o.op = .call { callee := .builtin .append, args := #[s, x], argTypes := #[22, 22] })
    (base : Nat) (v : Value) (n : Nat) (zs : List Int) (z1 z2 : Int) (g c : Nat) (hs : a.eval s = v) (hown : w.ownsRow base 2 1 v n (ints zs))
    (hx : a.eval x = .slice (some ⟨g, 0, none⟩) 2 c) (hc1 : w.cell? ⟨g, 0, none⟩ = some (.int .i64 z1)) (hc2 : w.cell? ⟨g, 1, none⟩ = some (.int .i64 z2)) (hn : n ≤ 1099511627776) (hbase : base ≤ w.heap.size)
    (h : ∀ v' w', w'.ownsRow base 2 1 v' (n + 2) (ints (zs ++ [z1, z2])) → w.grownBy w' v.ownBlock → K (a.put o.dst v') w') : o.wp Tryz.prog a w K Q := by
  obtain ⟨i0, hi, hz0, hz1, hz2⟩ := info_parts info_int64
  obtain ⟨v', w', hr, h2, h3, _⟩ := run_append_own (P := Tryz.prog) w base 22 o.type 2 i0 (.int .i64 0) 1 8 Tryz.underlying22 hi hz0 hz1 hz2 rfl (by decide) v n (ints zs) hown ⟨g, 0, none⟩ 2 c [.int .i64 z1, .int .i64 z2] rfl (by
    intro j u hu
    match j, hu with
    | 0, hu =>
      simp only [List.getElem?_cons_zero, Option.some.injEq] at hu
      rw [← hu]
      simpa [Addr.add] using hc1
    | 1, hu =>
      simp only [List.getElem?_cons_succ, List.getElem?_cons_zero, Option.some.injEq] at hu
      rw [← hu]
      simpa [Addr.add] using hc2) (by
    intro u hu
    simp only [List.mem_cons, List.not_mem_nil, or_false] at hu
    rcases hu with rfl | rfl <;> rfl) (by unfold maxLen; omega) (by omega) hbase
  unfold Oper.wp execOp
  simp only [ho, resolve, invoke, builtin, Sem.run_bind, Sem.run_pure, Result.andThen_ok, List.map_toArray, List.map_cons, List.map_nil, hs, hx, hr]
  exact h v' w' (by simpa [ints] using h2) h3
theorem wpList_append_int2 (w : World) {ops : Array Oper} {rest : List Oper} {o : Oper} {a : Act} {Q : Exit → Act → World → Prop} (hgd : o.guard = none) (s x : Operand)
    (ho : o.op = .call { callee := .builtin .append, args := #[s, x], argTypes := #[22, 22] })
    (base : Nat) (v : Value) (n : Nat) (zs : List Int) (z1 z2 : Int) (g c : Nat) (hs : a.eval s = v) (hown : w.ownsRow base 2 1 v n (ints zs))
    (hx : a.eval x = .slice (some ⟨g, 0, none⟩) 2 c) (hc1 : w.cell? ⟨g, 0, none⟩ = some (.int .i64 z1)) (hc2 : w.cell? ⟨g, 1, none⟩ = some (.int .i64 z2)) (hn : n ≤ 1099511627776) (hbase : base ≤ w.heap.size)
    (h : ∀ v' w', w'.ownsRow base 2 1 v' (n + 2) (ints (zs ++ [z1, z2])) → w.grownBy w' v.ownBlock → wpList Tryz.prog ops Q rest (a.put o.dst v') w') : wpList Tryz.prog ops Q (o :: rest) a w :=
  wpList_plain hgd fun _ hK => wp_append_int2 w s x ho base v n zs z1 z2 g c hs hown hx hc1 hc2 hn hbase fun v' w' h2 h3 => hK _ _ (h v' w' h2 h3)
theorem wpList_push_u8 (w : World) {ops : Array Oper} {rest : List Oper} {o : Oper} {a : Act} {Q : Exit → Act → World → Prop} (hgd : o.guard = none) (s x : Operand)
    (ho : o.op = .call { callee := .builtin .append, args := #[s, x], argTypes := #[31, 31] })
    (base : Nat) (v : Value) (n : Nat) (l : List UInt8) (z : UInt8) (g c : Nat) (hs : a.eval s = v) (hown : w.ownsRow base 5 1 v n (u8s l))
    (hx : a.eval x = .slice (some ⟨g, 0, none⟩) 1 c) (hc : w.cell? ⟨g, 0, none⟩ = some (.int .u8 (z.toNat : Int))) (hn : n ≤ 1099511627776) (hbase : base ≤ w.heap.size)
    (h : ∀ v' w', w'.ownsRow base 5 1 v' (n + 1) (u8s (l ++ [z])) → w.grownBy w' v.ownBlock → wpList Tryz.prog ops Q rest (a.put o.dst v') w') : wpList Tryz.prog ops Q (o :: rest) a w := by
  obtain ⟨i0, hi, hz0, hz1, hz2⟩ := info_parts info_uint8
  refine wpList_push w hgd s x 31 ho base 5 i0 (.int .u8 0) 1 1 Tryz.underlying31 hi hz0 hz1 hz2 rfl (by decide) v n (u8s l) hs hown ⟨g, 0, none⟩ c [.int .u8 (z.toNat : Int)] hx rfl ?_ ?_ (by unfold maxLen; omega) (by omega) hbase ?_
  · intro j u hu
    match j, hu with
    | 0, hu =>
      simp only [List.getElem?_cons_zero, Option.some.injEq] at hu
      rw [← hu]
      simpa [Addr.add] using hc
  · intro u hu
    simp only [List.mem_singleton] at hu
    subst hu; rfl
  · intro v' w' h1 h2 h3 h4
    exact h v' w' (by simpa [u8s] using h1) h2
theorem own_neT {w : World} {b1 b2 : Nat} {e1 e2 : TypeId} {s1 s2 n1 n2 : Nat} {v1 v2 : Value} {x1 x2 : List Value} (h1 : w.ownsRow b1 e1 s1 v1 n1 x1) (h2 : w.ownsRow b2 e2 s2 v2 n2 x2) (he : e1 ≠ e2) : ∀ q, v1.ownBlock = some q → v2.ownBlock = some q → False := by
  intro q hq1 hq2
  rcases h1.2 with ⟨rfl, _⟩ | ⟨g1, c1, cur1, rfl, _, hg1, _⟩
  · simp [Value.ownBlock] at hq1
  · rcases h2.2 with ⟨rfl, _⟩ | ⟨g2, c2, cur2, rfl, _, hg2, _⟩
    · simp [Value.ownBlock] at hq2
    · simp [Value.ownBlock] at hq1 hq2
      subst hq1
      subst hq2
      rw [hg1] at hg2
      simp only [Option.some.injEq, Obj.cells.injEq] at hg2
      exact he hg2.2.1
theorem own_aside {w w' : World} {b1 b2 : Nat} {e1 e2 : TypeId} {s1 s2 n1 n2 : Nat} {v1 v2 : Value} {x1 x2 : List Value} (h1 : w.ownsRow b1 e1 s1 v1 n1 x1) (h2 : w.ownsRow b2 e2 s2 v2 n2 x2) (he : e1 ≠ e2) (hg : w.grownBy w' v2.ownBlock) : w'.ownsRow b1 e1 s1 v1 n1 x1 := by
  refine h1.kept hg ?_
  rcases hb : v1.ownBlock with _ | q
  · exact .inl rfl
  · exact .inr (fun e => own_neT h1 h2 he q hb e.symm)
theorem contains_take {l : List UInt8} {j : Nat} {z c : UInt8} (hz : l[j]? = some z) : (l.take (j + 1)).contains c = ((l.take j).contains c || c == z) := by
  rw [List.take_add_one, hz]
  by_cases h : c = z
  · subst h; simp
  · have : (c == z) = false := by simpa using h
    rw [this]
    simp [h]
theorem fold_take {f : UInt8 → UInt8 → UInt8} {l : List UInt8} {k : Nat} {c s : UInt8} (hz : l[k]? = some c) : (l.take (k + 1)).foldl f s = f ((l.take k).foldl f s) c := by
  rw [List.take_add_one, hz, List.foldl_append]
  rfl
end Go.Proofs.YtgpmglfcdbpgkaaGreatDoor

/- l20Pairs: pairs of numbers with a sign between them, on the reference's side. Condition: the text's length. -/
namespace Go.Proofs.YtgpmglfcdbpgkaaGreatDoor
open Go.RowKit

def sgF (signs : List UInt8) (s c : UInt8) : UInt8 := if signs.contains c then c else s
theorem signS_eq (signs w : List UInt8) : signS signs w = w.foldl (sgF signs) 0 := rfl
set_option maxHeartbeats 4000000 in
set_option maxRecDepth 100000 in
theorem c_l20Pairs (s sg : ByteArray) (w : World) (hs : s.size ≤ 1048576) (hg : sg.size ≤ 2) :
    Calls Tryz.prog 65 #[.string s, .string sg] w (RetPS (pairsS sg.data.toList s.data.toList) w) := by
  have hSL : s.data.toList.length = s.size := by simp
  obtain ⟨SG, hSGe⟩ : ∃ SG, SG = sg.data.toList := ⟨_, rfl⟩
  have hSGL : SG.length = sg.size := by rw [hSGe]; simp
  have HSGA : Hid (∀ j (h : j < sg.size), SG[j]? = some sg[j]) := Lib.hid (fun k h => by rw [hSGe, List.getElem?_eq_getElem (by simpa using h)]; rfl)
  rw [← hSGe]
  have HB0 := Lib.hid (below_alloc (below_alloc (Below.refl w.heap.size w) (.cells #[] 2)) (.cells #[] 5))
  have HO1 : Hid (((w.alloc (.cells #[] 2)).alloc (.cells #[] 5)).ownsRow w.heap.size 2 1 (.slice (some ⟨w.heap.size, 0, none⟩) 0 0) 0 (ints [])) := Lib.hid (by
    have h := World.ownsRow_lit (e := 2) (size := 1) (base := w.heap.size) w #[] 0 (Nat.le_refl _) (by decide) (by simp)
    have h2 := own_below h (below_alloc (Below.refl _ _) (.cells #[] 5))
    simpa [ints] using h2)
  have HO2 : Hid (((w.alloc (.cells #[] 2)).alloc (.cells #[] 5)).ownsRow w.heap.size 5 1 (.slice (some ⟨w.heap.size + 1, 0, none⟩) 0 0) 0 (u8s [])) := Lib.hid (by
    have h := World.ownsRow_lit (e := 5) (size := 1) (base := w.heap.size) (w.alloc (.cells #[] 2)) #[] 0 (by simp) (by decide) (by simp)
    simpa [u8s] using h)
  have HSP := Lib.hid (fun w' => c_l01Split s 38 w' hs)
  have HPV := Lib.hid (show pairsS SG s.data.toList = if s.data.toList = [45] then some [] else seqO (pairS SG) (spl 38 s.data.toList) from rfl)
  have HWL := Lib.hid (fun x (h : x ∈ spl 38 s.data.toList) => spl_len x h)
  have HWC := Lib.hid (spl_count 38 s.data.toList)
  rw [hSL] at HWL HWC
  generalize spl 38 s.data.toList = ws at *
  generalize pairsS SG s.data.toList = V at *
  by_cases hm : s.data.toList = [45]
  · have HV : Hid (V = some []) := Lib.hid (by rw [HPV.out, if_pos hm])
    have hq : (s.toList == [45]) = true := by rw [Lib.toList_data, hm]; rfl
    clear hm HPV HSP HWL HWC hSL hSGe
    go_enter Tryz.func65, Tryz.ntmps65
    go_upto_region 2 with (fail)
    generalize (w.alloc (.cells #[] 2)).alloc (.cells #[] 5) = W at *
    go_wp2_with (fail)
    go_ret3
    exact retPS_some HV.out rfl rfl HO1.out HO2.out HB0.out
  have HV : Hid (V = seqO (pairS SG) ws) := Lib.hid (by rw [HPV.out, if_neg hm])
  have hq : (s.toList == [45]) = false := by rw [Lib.toList_data]; simpa using hm
  clear hm HPV hSL
  have HGE := Lib.hid hSGe
  have HGL := Lib.hid hSGL
  clear hSGe hSGL
  go_enter Tryz.func65, Tryz.ntmps65
  go_upto_region 2 with (fail)
  generalize (w.alloc (.cells #[] 2)).alloc (.cells #[] 5) = W at *
  go_wp2_with (fail)
  refine (HSP.out _).mono ?_
  rintro e w1 ⟨Aw, cw, rfl, how, hb⟩
  have HB1 := Lib.hid (below_chain HB0.out hb)
  have HP1 := Lib.hid (own_below HO1.out hb)
  have HP2 := Lib.hid (own_below HO2.out hb)
  obtain ⟨wn, hwn⟩ : ∃ wn, wn = ws.length := ⟨_, rfl⟩
  rw [← hwn]
  have HWN := Lib.hid hwn
  rw [← hwn] at how
  have HRW := Lib.hid (own_mono how HB0.out.size)
  clear how hb HB0 HO1 HO2 HSP hwn
  go_wp2_with (fail)
  go_loopw [7, 8, 10, 11, 12, 13, 14, 15, 16, 17, 18] (fun nv fv i _ _ _ _ _ _ _ _ wr => ∃ (k m : Nat) (A1 : Option Addr) (c1 : Nat) (A2 : Option Addr) (c2 : Nat) (ps : List Pr3), k ≤ wn ∧ i = .int .i64 k ∧ nv = .slice A1 m c1 ∧ fv = .slice A2 k c2 ∧ Hid (m = 2 * k) ∧ Hid (seqO (pairS SG) (ws.take k) = some ps) ∧ Hid (wr.ownsRow w.heap.size 2 1 (.slice A1 m c1) m (ints (pInts ps))) ∧ Hid (wr.ownsRow w.heap.size 5 1 (.slice A2 k c2) k (u8s (pSigns ps))) ∧ Hid (wr.ownsRow w.heap.size 9 1 (.slice Aw wn cw) wn (strs ws)) ∧ Hid (Below w.heap.size w wr)) (fun _ _ i _ _ _ _ _ _ _ _ _ => wn - (intOf i).toNat)
  case atStart => exact ⟨0, 0, _, _, _, _, [], Nat.zero_le _, rfl, rfl, rfl, Lib.hid rfl, Lib.hid rfl, HP1, HP2, HRW, HB1⟩
  case round =>
    obtain ⟨k, m, A1, c1, A2, c2, ps, hk, rfl, rfl, rfl, hm2, hz, ho1, ho2, hos, hb⟩ := hrel
    clear HP1 HP2 HB1 HRW
    by_cases hlt : k < wn
    · obtain ⟨x, hx⟩ : ∃ z, ws[k]? = some z := ⟨_, List.getElem?_eq_getElem (by have := HWN.out; omega)⟩
      have hxl := HWL.out x (List.mem_of_getElem? hx)
      obtain ⟨b, off, rfl, _, g0⟩ := (Rd.own hos.out).str hx
      have hk0 : (0 : Int) ≤ (k : Int) := by omega
      have hk1 : (k : Int) < (wn : Int) := by omega
      have HX := Lib.hid hx
      obtain ⟨X, hXe⟩ : ∃ X, X = bsT x := ⟨_, rfl⟩
      have hXL : X.data.toList = x := by rw [hXe, bsT_list]
      have hXs : X.size ≤ 1048576 := by rw [hXe, bsT_size]; omega
      have HXL := Lib.hid hXL
      have HXA : Hid (∀ j (h : j < X.size), x[j]? = some X[j]) := Lib.hid (fun k h => by rw [← hXL, List.getElem?_eq_getElem (by simpa using h)]; rfl)
      have hXN : x.length = X.size := by rw [hXe, bsT_size]
      have HXN := Lib.hid hXN
      rw [← hXe] at g0
      have HG0 := Lib.hid g0
      clear hx hXe hXL hXN
      go_wp2_with (fail)
      clear g0
      obtain ⟨wo, rfl⟩ : ∃ wo, wo = wr := ⟨_, rfl⟩
      go_loopw [11, 12, 13] (fun g q _ wr => ∃ (j : Nat) (σ : UInt8), j ≤ X.size ∧ q = .int .i64 j ∧ g = .int .u8 (σ.toNat : Int) ∧ Hid (σ = (x.take j).foldl (sgF SG) 0) ∧ Hid (Below wo.heap.size wo wr)) (fun _ q _ _ => X.size - (intOf q).toNat)
      case atStart => exact ⟨0, 0, Nat.zero_le _, rfl, rfl, Lib.hid rfl, Lib.hid (Below.refl _ _)⟩
      case round =>
        obtain ⟨j, σ, hj, rfl, rfl, hσ, hbm⟩ := hrel
        have g0 := cell_later hbm.out HG0.out
        by_cases hjl : j < X.size
        · have hj0 : (0 : Int) ≤ (j : Int) := by omega
          have hj1 : (j : Int) < (X.size : Int) := by omega
          have HXJ := Lib.hid (HXA.out j hjl)
          have HFT := Lib.hid (fold_take (f := sgF SG) (s := 0) (HXA.out j hjl))
          go_wp2_with (fail)
          clear g0
          obtain ⟨wm, rfl⟩ : ∃ wm, wm = wr := ⟨_, rfl⟩
          go_loopw [11, 13] (fun g q wr => ∃ (l : Nat) (τ : UInt8), l ≤ sg.size ∧ q = .int .i64 l ∧ g = .int .u8 (τ.toNat : Int) ∧ Hid (τ = if (SG.take l).contains X[j] then X[j] else σ) ∧ Hid (Below wm.heap.size wm wr)) (fun _ q _ => sg.size - (intOf q).toNat)
          case atStart => exact ⟨0, σ, Nat.zero_le _, rfl, rfl, Lib.hid (by simp), Lib.hid (Below.refl _ _)⟩
          case round =>
            obtain ⟨l, τ, hl, rfl, rfl, hτ, hbi⟩ := hrel
            have g0 := cell_later hbi.out (cell_later hbm.out HG0.out)
            by_cases hll : l < sg.size
            · have hl0 : (0 : Int) ≤ (l : Int) := by omega
              have hl1 : (l : Int) < (sg.size : Int) := by omega
              have HCT := Lib.hid (contains_take (c := X[j]) (HSGA.out l hll))
              go_wp2_with (fail)
              refine wp_region_held_drew (S := (fun w' => w'.cell? ⟨b, off + k, none⟩ = some (.string X))) (by kernel_rfl) ?_ (fun hHeld => ?_)
              · exact g0
              refine rg_take (v := ?_) 0 rfl (by kernel_rfl) (by kernel_rfl) (by kernel_rfl) (fun _ _ _ h => h) (by kernel_rfl) ?_ (by assumption) ?_
              rotate_left
              · (intro w' hSw; (try dsimp only at hSw); go_simp; first | done | with_reducible rfl)
              simp only [Act.put, List.setIfInBounds_toArray, List.set_cons_zero, List.set_cons_succ]
              refine rg_take (v := ?_) 1 rfl (by kernel_rfl) (by kernel_rfl) (by kernel_rfl) (fun _ _ _ h => h) (by kernel_rfl) ?_ (by assumption) ?_
              rotate_left
              · (intro w' hSw; (try dsimp only at hSw); go_simp; first | done | with_reducible rfl)
              simp only [Act.put, List.setIfInBounds_toArray, List.set_cons_zero, List.set_cons_succ]
              refine rg_take (v := ?_) 2 rfl (by kernel_rfl) (by kernel_rfl) (by kernel_rfl) (fun _ _ _ h => h) (by kernel_rfl) ?_ (by assumption) ?_
              rotate_left
              · (intro w' hSw; (try dsimp only at hSw); go_simp; first | done | with_reducible rfl)
              simp only [Act.put, List.setIfInBounds_toArray, List.set_cons_zero, List.set_cons_succ]
              refine rg_take (v := ?_) 3 rfl (by kernel_rfl) (by kernel_rfl) (by kernel_rfl) (fun _ _ _ h => h) (by kernel_rfl) ?_ (by assumption) ?_
              rotate_left
              · (intro w' hSw; (try dsimp only at hSw); go_simp; first | done | with_reducible rfl)
              simp only [Act.put, List.setIfInBounds_toArray, List.set_cons_zero, List.set_cons_succ]
              refine rg_take (v := ?_) 4 rfl (by kernel_rfl) (by kernel_rfl) (by kernel_rfl) (fun _ _ _ h => h) (by kernel_rfl) ?_ (by assumption) ?_
              rotate_left
              · (intro w' hSw; (try dsimp only at hSw); go_simp; first | done | with_reducible rfl)
              simp only [Act.put, List.setIfInBounds_toArray, List.set_cons_zero, List.set_cons_succ]
              refine rg_take (v := ?_) 5 rfl (by kernel_rfl) (by kernel_rfl) (by kernel_rfl) (fun _ _ _ h => h) (by kernel_rfl) ?_ (by assumption) ?_
              rotate_left
              · (intro w' hSw; (try dsimp only at hSw); go_simp; first | done | with_reducible rfl)
              simp only [Act.put, List.setIfInBounds_toArray, List.set_cons_zero, List.set_cons_succ]
              refine rg_take (v := ?_) 6 rfl (by kernel_rfl) (by kernel_rfl) (by kernel_rfl) (fun _ _ _ h => h) (by kernel_rfl) ?_ (by assumption) ?_
              rotate_left
              · (intro w' hSw; (try dsimp only at hSw); go_simp; first | done | with_reducible rfl)
              simp only [Act.put, List.setIfInBounds_toArray, List.set_cons_zero, List.set_cons_succ]
              refine rg_take (v := ?_) 7 rfl (by kernel_rfl) (by kernel_rfl) (by kernel_rfl) (fun _ _ _ h => h) (by kernel_rfl) ?_ (by assumption) ?_
              rotate_left
              · (intro w' hSw; (try dsimp only at hSw); go_simp; first | done | with_reducible rfl)
              simp only [Act.put, List.setIfInBounds_toArray, List.set_cons_zero, List.set_cons_succ]
              refine rg_take (v := ?_) 8 rfl (by kernel_rfl) (by kernel_rfl) (by kernel_rfl) (fun _ _ _ h => h) (by kernel_rfl) ?_ (by assumption) ?_
              rotate_left
              · (intro w' hSw; (try dsimp only at hSw); go_simp; first | done | with_reducible rfl)
              simp only [Act.put, List.setIfInBounds_toArray, List.set_cons_zero, List.set_cons_succ]
              refine rg_take (v := ?_) 9 rfl (by kernel_rfl) (by kernel_rfl) (by kernel_rfl) (fun _ _ _ h => h) (by kernel_rfl) ?_ (by assumption) ?_
              rotate_left
              · (intro w' hSw; (try dsimp only at hSw); go_simp; first | done | with_reducible rfl)
              simp only [Act.put, List.setIfInBounds_toArray, List.set_cons_zero, List.set_cons_succ]
              refine wpAnyH_done (by kernel_rfl) ?_ _
              clear hHeld
              clear g0
              by_cases he : X[j] = sg[l]
              · have hq2 : ((X[j].toNat : Int) == (sg[l].toNat : Int)) = true := by rw [he]; simp
                have HT : Hid (sg[l] = if (SG.take (l + 1)).contains X[j] then X[j] else σ) := Lib.hid (by
                  rw [HCT.out, show (X[j] == sg[l]) = true by rw [he]; simp]
                  simp [he])
                go_wp2_with (fail)
                go_roundw
                case rel => exact ⟨l + 1, sg[l], by omega, by go_num, rfl, HT, Lib.hid hbi.out.drew⟩
                case measure => simp [intOf]; omega
              · have hq2 : ((X[j].toNat : Int) == (sg[l].toNat : Int)) = false := by
                  rw [beq_eq_false_iff_ne]
                  intro e
                  exact he (UInt8.toNat_inj.1 (by omega))
                have HT : Hid (τ = if (SG.take (l + 1)).contains X[j] then X[j] else σ) := Lib.hid (by
                  rw [HCT.out, show (X[j] == sg[l]) = false by simpa using he, Bool.or_false]
                  exact hτ.out)
                go_wp2_with (fail)
                go_roundw
                case rel => exact ⟨l + 1, τ, by omega, by go_num, rfl, HT, Lib.hid hbi.out.drew⟩
                case measure => simp [intOf]; omega
            · have hle : l = sg.size := by omega
              have HT : Hid (τ = (x.take (j + 1)).foldl (sgF SG) 0) := Lib.hid (by
                rw [HFT.out, ← hσ.out, hτ.out, show SG.take l = SG from List.take_of_length_le (by have := HGL.out; omega)]
                rfl)
              have hln : ¬ ((l : Int) < (sg.size : Int)) := by omega
              clear hle hll g0
              go_wp2_with (fail)
              go_roundw
              case rel => exact ⟨j + 1, τ, by omega, by go_num, rfl, HT, Lib.hid (below_chain hbm.out hbi.out)⟩
              case measure => simp [intOf]; omega
        · have hje : j = X.size := by omega
          have HSI : Hid (signS SG x = σ) := Lib.hid (by
            rw [signS_eq, hσ.out, List.take_of_length_le (by have := HXN.out; omega)])
          have hjn : ¬ ((j : Int) < (X.size : Int)) := by omega
          have HSPX := Lib.hid (fun w' => c_l01Split X σ w' hXs)
          rw [HXL.out] at HSPX
          have HBM := Lib.hid (below_chain hb.out hbm.out)
          have HOS := Lib.hid (own_below hos.out hbm.out)
          have HO1 := Lib.hid (own_below ho1.out hbm.out)
          have HO2 := Lib.hid (own_below ho2.out hbm.out)
          have HPX : Hid (pairS SG x = if σ = 0 then none else match spl σ x with
            | [y, z] => match valS y with | none => none | some a => match valS z with | none => none | some b => some (a, b, σ)
            | _ => none) := Lib.hid (by unfold pairS; rw [HSI.out]; rfl)
          have HPL := Lib.hid (fun y (h : y ∈ spl σ x) => spl_len y h)
          have hxl2 : x.length ≤ 1048576 := by omega
          clear hje hjl hσ hbm ho1 ho2 hos hb HSI
          go_wp2_with (fail)
          refine (HSPX.out _).mono ?_
          rintro e w4 ⟨A4, c4, rfl, ho4, hb4⟩
          have HR4 := Lib.hid (Rd.own ho4)
          have HB4 := Lib.hid (below_chain HBM.out hb4)
          have HOS4 := Lib.hid (own_below HOS.out hb4)
          have HO14 := Lib.hid (own_below HO1.out hb4)
          have HO24 := Lib.hid (own_below HO2.out hb4)
          clear ho4 hb4 HBM HO1 HO2 HOS HSPX g0
          generalize spl σ x = yz at *
          by_cases h0 : σ = 0
          · have hq0 : ((σ.toNat : Int) == 0) = true := by rw [h0]; rfl
            have HN : Hid (V = none) := Lib.hid (by rw [HV.out]; exact seqO_bad (List.mem_of_getElem? HX.out) (by rw [HPX.out, if_pos h0]))
            clear h0
            go_wp2_with (fail)
            go_ret3
            exact retPS_none HN.out HB4.out
          have hq0 : ((σ.toNat : Int) == 0) = false := by
            rw [beq_eq_false_iff_ne]
            intro e
            exact h0 (UInt8.toNat_inj.1 (by simpa using (by omega : σ.toNat = 0)))
          have HP2 := HPX.out
          rw [if_neg h0] at HP2
          have HPX2 := Lib.hid HP2
          clear HP2 h0
          by_cases h2 : yz.length = 2
          · obtain ⟨y, z, rfl⟩ : ∃ y z, yz = [y, z] := by
              match yz, h2 with
              | [y, z], _ => exact ⟨y, z, rfl⟩
            obtain ⟨b4, o4, rfl, _, y0⟩ := HR4.out.str (k := 0) rfl
            obtain ⟨b4', o4', e4, _, y1⟩ := HR4.out.str (k := 1) rfl
            simp only [Option.some.injEq, Addr.mk.injEq, and_true] at e4
            obtain ⟨rfl, rfl⟩ := e4
            simp only [Nat.add_zero] at y0
            have hyl := HPL.out y (by simp)
            have hzl := HPL.out z (by simp)
            have HCY := Lib.hid (fun w' => c_l01Value (bsT y) w' (by rw [bsT_size]; omega))
            have HCZ := Lib.hid (fun w' => c_l01Value (bsT z) w' (by rw [bsT_size]; omega))
            rw [bsT_list] at HCY HCZ
            simp only [List.length_cons, List.length_nil, Nat.zero_add, Nat.reduceAdd] at h2 ⊢
            clear h2
            go_wp2_with (fail)
            refine (HCY.out _).mono ?_
            rintro e w5 ⟨ya, yb, rfl, hya, _, _, hb5⟩
            have HYA := Lib.hid hya
            have HB5 := Lib.hid (below_chain HB4.out hb5)
            have HOS5 := Lib.hid (own_below HOS4.out hb5)
            have HO15 := Lib.hid (own_below HO14.out hb5)
            have HO25 := Lib.hid (own_below HO24.out hb5)
            replace y1 := cell_later hb5 y1
            clear hya hb5 HB4 HO14 HO24 HOS4 y0
            go_wp2_with (fail)
            refine (HCZ.out _).mono ?_
            rintro e w6 ⟨za, zb, rfl, hza, _, _, hb6⟩
            have HZA := Lib.hid hza
            have HB6 := Lib.hid (below_chain HB5.out hb6)
            have HOS6 := Lib.hid (own_below HOS5.out hb6)
            have HO16 := Lib.hid (own_below HO15.out hb6)
            have HO26 := Lib.hid (own_below HO25.out hb6)
            clear hza hb6 HB5 HO15 HO25 HOS5 y1
            by_cases hbad : yb = false ∨ zb = false
            · have HN : Hid (V = none) := Lib.hid (by
                rw [HV.out]
                refine seqO_bad (List.mem_of_getElem? HX.out) ?_
                rw [HPX2.out, HYA.out, HZA.out]
                rcases hbad with rfl | rfl
                · rfl
                · cases yb <;> rfl)
              rcases hbad with rfl | rfl
              · go_wp2_with (fail)
                go_ret3
                exact retPS_none HN.out HB6.out
              · cases yb
                · go_wp2_with (fail)
                  go_ret3
                  exact retPS_none HN.out HB6.out
                · go_wp2_with (fail)
                  go_ret3
                  exact retPS_none HN.out HB6.out
            · obtain ⟨rfl, rfl⟩ : yb = true ∧ zb = true := by
                constructor
                · cases yb with | true => rfl | false => exact absurd (.inl rfl) hbad
                · cases zb with | true => rfl | false => exact absurd (.inr rfl) hbad
              have HZ2 : Hid (seqO (pairS SG) (ws.take (k + 1)) = some (ps ++ [(ya, za, σ)])) := Lib.hid (by
                rw [List.take_add_one, HX.out]
                refine seqO_snoc hz.out ?_
                rw [HPX2.out, HYA.out, HZA.out]
                rfl)
              have HA1 := Lib.hid (below_alloc (Below.refl w6.heap.size w6) (.cells #[.int .i64 ya, .int .i64 za] 2))
              have hkb : k ≤ 1048577 := by have := HWC.out; have := HWN.out; omega
              clear hbad
              go_upto_region 25 with (first
                | (at_builtin
                   refine wpList_append_int2 _ rfl (.tmp 94) (.tmp 97) rfl w.heap.size (.slice A1 m c1) m (pInts ps) ya za w6.heap.size 2 rfl (own_below HO16.out HA1.out) rfl (by go_simp) (by go_simp) (by have := hm2.out; omega) (Nat.le_trans HB6.out.size HA1.out.size) ?_
                   intro v7 w7 hown hgrow
                   obtain ⟨A7, c7, rfl⟩ := own_shape hown
                   have HO17 := Lib.hid hown
                   have hlo : ∀ p, (Value.slice A1 m c1).ownBlock = some p → w.heap.size ≤ p := fun p hp => (HO16.out.lt p hp).1
                   have HO27 := Lib.hid (own_aside (own_below HO26.out HA1.out) (own_below HO16.out HA1.out) (by decide) hgrow)
                   have HOS7 := Lib.hid (own_aside (own_below HOS6.out HA1.out) (own_below HO16.out HA1.out) (by decide) hgrow)
                   have HB7 := Lib.hid (below_of_grown (below_chain HB6.out HA1.out) hgrow (fun p hp => hlo p hp))
                   clear hown hgrow HA1 HO16 HO26 HOS6 HB6)
                )
              have HA2 := Lib.hid (below_alloc (Below.refl w7.heap.size w7) (.cells #[.int .u8 (σ.toNat : Int)] 5))
              go_wp2_with (first
                | (at_builtin
                   refine wpList_push_u8 _ rfl (.tmp 99) (.tmp 101) rfl w.heap.size (.slice A2 k c2) k (pSigns ps) σ w7.heap.size 1 rfl (own_below HO27.out HA2.out) rfl (by go_simp) (by omega) (Nat.le_trans HB7.out.size HA2.out.size) ?_
                   intro v8 w8 hown hgrow
                   obtain ⟨A8, c8, rfl⟩ := own_shape hown
                   have HO28 := Lib.hid hown
                   have hlo : ∀ p, (Value.slice A2 k c2).ownBlock = some p → w.heap.size ≤ p := fun p hp => (HO27.out.lt p hp).1
                   have HO18 := Lib.hid (own_aside (own_below HO17.out HA2.out) (own_below HO27.out HA2.out) (by decide) hgrow)
                   have HOS8 := Lib.hid (own_aside (own_below HOS7.out HA2.out) (own_below HO27.out HA2.out) (by decide) hgrow)
                   have HB8 := Lib.hid (below_of_grown (below_chain HB7.out HA2.out) hgrow (fun p hp => hlo p hp))
                   clear hown hgrow HA2 HO17 HO27 HOS7 HB7)
                )
              have HPI : pInts (ps ++ [(ya, za, σ)]) = pInts ps ++ [ya, za] := by simp [pInts]
              have HPS : pSigns (ps ++ [(ya, za, σ)]) = pSigns ps ++ [σ] := by simp [pSigns]
              rw [← HPI] at HO18
              rw [← HPS] at HO28
              go_roundw
              case rel => exact ⟨k + 1, m + 2, A7, c7, A8, c8, ps ++ [(ya, za, σ)], by omega, by go_num, rfl, rfl, Lib.hid (by have := hm2.out; omega), HZ2, HO18, HO28, HOS8, HB8⟩
              case measure => simp [intOf]; omega
          · have hq2 : ((yz.length : Int) != 2) = true := by simp; omega
            have HN : Hid (V = none) := Lib.hid (by
              rw [HV.out]
              refine seqO_bad (List.mem_of_getElem? HX.out) ?_
              rw [HPX2.out]
              match yz, h2 with
              | [], _ => rfl
              | [_], _ => rfl
              | [_, _], h => exact absurd rfl h
              | _ :: _ :: _ :: _, _ => rfl)
            clear h2
            go_wp2_with (fail)
            go_ret3
            exact retPS_none HN.out HB4.out
    · obtain rfl : k = wn := by omega
      have HT : Hid (V = some ps) := Lib.hid (by rw [HV.out, ← hz.out, List.take_of_length_le (by have := HWN.out; omega)])
      have HNL : Hid (k = ps.length) := Lib.hid (by
        have h1 := seqO_length hz.out
        rw [List.length_take] at h1
        have := HWN.out
        omega)
      go_wp2_with (fail)
      go_ret3
      exact retPS_some HT.out HNL.out (by rw [hm2.out, HNL.out]) ho1.out ho2.out hb.out
end Go.Proofs.YtgpmglfcdbpgkaaGreatDoor

/- Rows of tests, assigns and rules that grow, boxes of three cells: for the reading of a model on the reference's side. No condition. -/
namespace Go.Proofs.YtgpmglfcdbpgkaaGreatDoor
open Go.RowKit

/-- A box of three cells, as a row of them. -/
def Box3 (t : TypeId) (w : World) (base p : Nat) (x y z : Value) : Prop := w.ownsRow base t 1 (.slice (some ⟨p, 0, none⟩) 3 3) 3 [x, y, z]
theorem box3_new {t : TypeId} {w : World} (x y z : Value) : Box3 t (w.alloc (.cells #[x, y, z] t)) w.heap.size w.heap.size x y z := by
  have h := World.ownsRow_lit (e := t) (size := 1) (base := w.heap.size) w #[x, y, z] 3 (by simp) (by decide) (by simp)
  simpa [Box3] using h
theorem own_ge3 {w : World} {base g cap : Nat} {e : TypeId} {n size : Nat} {xs : List Value} (h : w.ownsRow base e size (.slice (some ⟨g, 0, none⟩) n cap) n xs) : base ≤ g ∧ g < w.heap.size := by
  have := h.lt g (by simp [Value.ownBlock])
  exact this
theorem Box3.c {t : TypeId} {w : World} {base p : Nat} {x y z : Value} (h : Box3 t w base p x y z) : w.cell? ⟨p, 0, none⟩ = some x ∧ w.cell? ⟨p, 1, none⟩ = some y ∧ w.cell? ⟨p, 2, none⟩ = some z ∧ w.frozen? ⟨p, 0, none⟩ = false ∧ w.frozen? ⟨p, 1, none⟩ = false ∧ w.frozen? ⟨p, 2, none⟩ = false ∧ base ≤ p ∧ p < w.heap.size :=
  ⟨h.cellAt 0 (by decide), h.cellAt 1 (by decide), h.cellAt 2 (by decide), h.frozenAt 0, h.frozenAt 1, h.frozenAt 2, own_ge3 h⟩
theorem Box3.set3 {t : TypeId} {w : World} {base p : Nat} {x y z : Value} (h : Box3 t w base p x y z) (x' y' z' : Value) : Box3 t (set3 w p x' y' z') base p x' y' z' ∧ w.grownBy (Go.Proofs.YtgpmglfcdbpgkaaGreatDoor.set3 w p x' y' z') (some p) := by
  have h0 := World.ownsRow.stored h 0 x'
  have h1 := h0.1.stored 1 y'
  have h2 := h1.1.stored 2 z'
  exact ⟨by simpa [Go.Proofs.YtgpmglfcdbpgkaaGreatDoor.set3, Box3] using h2.1, grown_trans (grown_trans h0.2 h1.2) h2.2⟩
theorem Box3.below {t : TypeId} {w w1 : World} {base p : Nat} {x y z : Value} (h : Box3 t w base p x y z) (hb : Below w.heap.size w w1) : Box3 t w1 base p x y z := own_below h hb
/-- What a rule's reading hands back. -/
def RetRulO (o : Option Rul) (w : World) (e : Ending) (w' : World) : Prop := match o with
  | some r => ∃ ag cg ae ce, e = .returned (.tuple #[.agg #[.string r.nm, .slice ag r.gs.length cg, .slice ae r.es.length ce], .bool true]) ∧ Nest w' w.heap.size ⟨r, ag, cg, ae, ce⟩ ∧ Below w.heap.size w w'
  | none => e = .returned (.tuple #[.agg #[.string ⟨#[]⟩, .slice none 0 0, .slice none 0 0], .bool false]) ∧ Below w.heap.size w w'
theorem retRulO_none {o : Option Rul} {w w' : World} (h : o = none) (hb : Below w.heap.size w w') : RetRulO o w (.returned (.tuple #[.agg #[.string ⟨#[]⟩, .slice none 0 0, .slice none 0 0], .bool false])) w' := by subst h; exact ⟨rfl, hb⟩
theorem retRulO_some {o : Option Rul} {r : Rul} {x : ByteArray} {n m : Nat} {ag ae : Option Addr} {cg ce : Nat} {w w' : World} (h : o = some r) (hx : x = r.nm) (hn : n = r.gs.length) (hm : m = r.es.length) (h1 : w'.ownsRow w.heap.size 90 3 (.slice ag n cg) n (tstCells r.gs)) (h2 : w'.ownsRow w.heap.size 47 2 (.slice ae m ce) m (asgCells r.es)) (hb : Below w.heap.size w w') :
    RetRulO o w (.returned (.tuple #[.agg #[.string x, .slice ag n cg, .slice ae m ce], .bool true])) w' := by subst h; subst hx; subst hn; subst hm; exact ⟨ag, cg, ae, ce, rfl, ⟨h1, h2⟩, hb⟩
/-- The pairs read, both ways at once. -/
theorem RetPS.both {o : Option (List Pr3)} {w w' : World} {e : Ending} (h : RetPS o w e w') : ∃ A na c1 B nb c2 q, e = .returned (.tuple #[.slice A na c1, .slice B nb c2, .bool q]) ∧ (q = false → o = none) ∧ (q = true → ∃ ps, o = some ps ∧ nb = ps.length ∧ na = 2 * ps.length) ∧ (∀ ps, o = some ps → Rd w' A (ints (pInts ps)) ∧ Rd w' B (u8s (pSigns ps))) ∧ Below w.heap.size w w' := by
  match o, h with
  | none, ⟨h1, h2⟩ => exact ⟨_, _, _, _, _, _, _, h1, fun _ => rfl, (fun h => nomatch h), (fun _ h => nomatch h), h2⟩
  | some ps, ⟨A, c1, B, c2, h1, h2, h3, h4⟩ => exact ⟨_, _, _, _, _, _, _, h1, (fun h => nomatch h), (fun _ => ⟨ps, rfl, rfl, rfl⟩), (fun ps' e => by injection e with e; subst e; exact ⟨Rd.own h2, Rd.own h3⟩), h4⟩
theorem pInts_at {p : Pr3} : ∀ {ps : List Pr3} {k : Nat}, ps[k]? = some p → (pInts ps)[2 * k]? = some p.1 ∧ (pInts ps)[2 * k + 1]? = some p.2.1
  | [], k, h => by simp at h
  | x :: t, 0, h => by
    simp only [List.getElem?_cons_zero, Option.some.injEq] at h
    subst h
    exact ⟨rfl, rfl⟩
  | x :: t, k + 1, h => by
    simp only [List.getElem?_cons_succ] at h
    have ih := pInts_at h
    have e : pInts (x :: t) = x.1 :: x.2.1 :: pInts t := rfl
    rw [e, show 2 * (k + 1) = 2 * k + 1 + 1 by omega]
    simpa using ih
theorem Rd.pair {w : World} {A : Option Addr} {ps : List Pr3} {k j j1 : Nat} {p : Pr3} (h : Rd w A (ints (pInts ps))) (hp : ps[k]? = some p) (hj : j = 2 * k) (hj1 : j1 = 2 * k + 1) : ∃ b off, A = some ⟨b, off, none⟩ ∧ w.cell? ⟨b, off + j, none⟩ = some (.int .i64 p.1) ∧ w.cell? ⟨b, off + j1, none⟩ = some (.int .i64 p.2.1) := by
  obtain ⟨h1, h2⟩ := pInts_at hp
  have u0 : (ints (pInts ps))[j]? = some (.int .i64 p.1) := by rw [hj]; simp [ints, h1]
  have u1 : (ints (pInts ps))[j1]? = some (.int .i64 p.2.1) := by rw [hj1]; simp [ints, h2]
  obtain ⟨b, off, rfl, hb, hc⟩ := h.some_ (by intro e; rw [e] at u0; simp at u0)
  exact ⟨b, off, rfl, hc _ _ u0, hc _ _ u1⟩
theorem Rd.sign {w : World} {A : Option Addr} {ps : List Pr3} {k : Nat} {p : Pr3} (h : Rd w A (u8s (pSigns ps))) (hp : ps[k]? = some p) : ∃ b off, A = some ⟨b, off, none⟩ ∧ w.cell? ⟨b, off + k, none⟩ = some (.int .u8 (p.2.2.toNat : Int)) := by
  have u0 : (u8s (pSigns ps))[k]? = some (.int .u8 (p.2.2.toNat : Int)) := by simp [u8s, pSigns, hp]
  obtain ⟨b, off, rfl, hb, hc⟩ := h.some_ (by intro e; rw [e] at u0; simp at u0)
  exact ⟨b, off, rfl, hc _ _ u0⟩
def toTst (p : Pr3) : Tst := ⟨p.1, p.2.1, p.2.2 == 61⟩
def toAsg (p : Pr3) : Asg := ⟨p.1, p.2.1⟩
theorem ruleS_three (a b c : List UInt8) {line : List UInt8} (h : spl 32 line = [a, b, c]) : ruleS line = match pairsS [61, 33] b with
    | none => none
    | some g => match pairsS [58] c with
      | none => none
      | some e => some ⟨⟨a.toArray⟩, g.map toTst, e.map toAsg⟩ := by unfold ruleS; rw [h]; rfl
theorem ruleS_not {line : List UInt8} (h : (spl 32 line).length ≠ 3) : ruleS line = none := by
  unfold ruleS
  split
  · next e => rw [e] at h; exact absurd rfl h
  · rfl
theorem pairsS_len {signs s : List UInt8} {ps : List Pr3} (h : pairsS signs s = some ps) : ps.length ≤ s.length + 1 := by
  unfold pairsS at h
  split at h
  · injection h with h; subst h; simp
  · have h1 := seqO_length h
    have h2 := spl_count 38 s
    omega
end Go.Proofs.YtgpmglfcdbpgkaaGreatDoor

/- l20ReadRule: a line as a rule, on the reference's side. Condition: the line's length. -/
namespace Go.Proofs.YtgpmglfcdbpgkaaGreatDoor
open Go.RowKit

set_option maxHeartbeats 4000000 in
set_option maxRecDepth 100000 in
theorem c_l20ReadRule (s : ByteArray) (w : World) (hs : s.size ≤ 1048576) : Calls Tryz.prog 23 #[.string s] w (RetRulO (ruleS s.data.toList) w) := by
  have hSL : s.data.toList.length = s.size := by simp
  have HBX : Hid (Box3 45 (w.alloc (.cells #[.string ⟨#[]⟩, .slice none 0 0, .slice none 0 0] 45)) w.heap.size w.heap.size (.string ⟨#[]⟩) (.slice none 0 0) (.slice none 0 0)) := Lib.hid (box3_new _ _ _)
  have HB0 := Lib.hid (below_alloc (Below.refl w.heap.size w) (.cells #[.string ⟨#[]⟩, .slice none 0 0, .slice none 0 0] 45))
  have HSP := Lib.hid (fun w' => c_l01Split s 32 w' hs)
  have HNT := Lib.hid (fun h => ruleS_not (line := s.data.toList) h)
  have HTH := Lib.hid (fun a b c h => ruleS_three a b c (line := s.data.toList) h)
  have HWL := Lib.hid (fun x (h : x ∈ spl 32 s.data.toList) => spl_len x h)
  rw [hSL] at HWL
  generalize ruleS s.data.toList = V at *
  generalize spl 32 s.data.toList = ws at *
  clear hSL
  go_enter Tryz.func23, Tryz.ntmps23
  go_upto_region 1 with (fail)
  generalize w.alloc (.cells #[.string ⟨#[]⟩, .slice none 0 0, .slice none 0 0] 45) = W at *
  go_wp2_with (fail)
  refine (HSP.out _).mono ?_
  rintro e w1 ⟨Aw, cw, rfl, how, hb⟩
  have HRW := Lib.hid (Rd.own how)
  have HB1 := Lib.hid (below_chain HB0.out hb)
  have HX1 := Lib.hid (HBX.out.below hb)
  obtain ⟨wn, hwn⟩ : ∃ wn, wn = ws.length := ⟨_, rfl⟩
  rw [← hwn]
  clear how hb HB0 HBX HSP
  by_cases h3 : ¬ ws.length = 3
  · have HN : Hid (V = none) := Lib.hid (HNT.out h3)
    have hq : ((wn : Int) != 3) = true := by simp; omega
    have HF := Lib.hid (Box3.set3 HX1.out (.string ⟨#[]⟩) (.slice none 0 0) (.slice none 0 0))
    have HBF := Lib.hid (below_put HB1.out (.string ⟨#[]⟩) (.slice none 0 0) (.slice none 0 0) (Nat.le_refl _))
    obtain ⟨v0, v1, v2, f0, f1, f2, _, _⟩ := HX1.out.c
    clear h3 hwn HNT HTH HWL HB1 HRW
    go_wp2_with (fail)
    change bodyPost _ _ _ _ _ (set3 w1 w.heap.size (.string ⟨#[]⟩) (.slice none 0 0) (.slice none 0 0))
    generalize set3 w1 w.heap.size (.string ⟨#[]⟩) (.slice none 0 0) (.slice none 0 0) = WF at HF HBF ⊢
    obtain ⟨r0, r1, r2, _⟩ := Box3.c HF.out.1
    clear f0 f1 f2 v0 v1 v2
    refine bodyPost_ret (v := .tuple #[.agg #[.string ⟨#[]⟩, .slice none 0 0, .slice none 0 0], .bool false]) (by simp [results, Tryz.results23, go_sem, r0, r1, r2]) rfl (retRulO_none HN.out HBF.out)
  replace h3 := Decidable.not_not.1 h3
  obtain ⟨x, y, z, rfl⟩ : ∃ x y z, ws = [x, y, z] := by
    match ws, h3 with
    | [x, y, z], _ => exact ⟨x, y, z, rfl⟩
  have HVV := Lib.hid (HTH.out x y z rfl)
  obtain ⟨b1, o1, rfl, _, y0⟩ := HRW.out.str (k := 0) rfl
  obtain ⟨_, _, e1, _, y1⟩ := HRW.out.str (k := 1) rfl
  obtain ⟨_, _, e2, _, y2⟩ := HRW.out.str (k := 2) rfl
  simp only [Option.some.injEq, Addr.mk.injEq, and_true] at e1 e2
  obtain ⟨rfl, rfl⟩ := e1
  obtain ⟨rfl, rfl⟩ := e2
  simp only [Nat.add_zero] at y0
  have hxl := HWL.out x (by simp)
  have hyl := HWL.out y (by simp)
  have hzl := HWL.out z (by simp)
  have HCY := Lib.hid (fun w' => c_l20Pairs (bsT y) ⟨#[61, 33]⟩ w' (by rw [bsT_size]; omega) (by decide))
  have HCZ := Lib.hid (fun w' => c_l20Pairs (bsT z) ⟨#[58]⟩ w' (by rw [bsT_size]; omega) (by decide))
  rw [bsT_list] at HCY HCZ
  have HLY := Lib.hid (fun ps h => pairsS_len (signs := [61, 33]) (s := y) (ps := ps) h)
  have HLZ := Lib.hid (fun ps h => pairsS_len (signs := [58]) (s := z) (ps := ps) h)
  have HVW : Hid (V = match pairsS [61, 33] y with
    | none => none
    | some g => match pairsS [58] z with
      | none => none
      | some e => some ⟨⟨x.toArray⟩, g.map toTst, e.map toAsg⟩) := HVV
  have HCY2 : Hid (∀ w', Calls Tryz.prog 65 #[.string (bsT y), .string ⟨#[61, 33]⟩] w' (RetPS (pairsS [61, 33] y) w')) := HCY
  have HCZ2 : Hid (∀ w', Calls Tryz.prog 65 #[.string (bsT z), .string ⟨#[58]⟩] w' (RetPS (pairsS [58] z) w')) := HCZ
  clear HVV HTH HNT HWL HRW h3 HCY HCZ
  generalize pairsS [61, 33] y = oy at *
  generalize pairsS [58] z = oz at *
  simp only [List.length_cons, List.length_nil, Nat.zero_add, Nat.reduceAdd] at hwn
  subst hwn
  go_wp2_with (fail)
  refine (HCY2.out _).mono ?_
  rintro e w2 hret
  obtain ⟨A1, na, c1, A2, nb, c2, qy, rfl, hy0, hy1, hy2, hb2⟩ := hret.both
  clear hret
  have HB2 := Lib.hid (below_chain HB1.out hb2)
  have HX2 := Lib.hid (HX1.out.below hb2)
  have HY0 := Lib.hid hy0
  have HY1 := Lib.hid hy1
  have HY2 := Lib.hid hy2
  replace y0 := cell_later hb2 y0
  replace y2 := cell_later hb2 y2
  clear hb2 HB1 HX1 hy0 hy1 hy2 y1 HCY2
  go_wp2_with (fail)
  refine (HCZ2.out _).mono ?_
  rintro e w3 hret
  obtain ⟨A3, nc, c3, A4, nd, c4, qz, rfl, hz0, hz1, hz2, hb3⟩ := hret.both
  clear hret
  have HB3 := Lib.hid (below_chain HB2.out hb3)
  have HX3 := Lib.hid (HX2.out.below hb3)
  have HZ0 := Lib.hid hz0
  have HZ1 := Lib.hid hz1
  have HZ2 := Lib.hid (fun ps e => (hz2 ps e).1)
  have HY3 := Lib.hid (fun ps e => And.intro ((HY2.out ps e).1.below hb3) ((HY2.out ps e).2.below hb3))
  replace y0 := cell_later hb3 y0
  clear hb3 HB2 HX2 hz0 hz1 hz2 y2 HCZ2 HY2
  by_cases hbad : qy = false ∨ qz = false
  · have HN : Hid (V = none) := Lib.hid (by
      rw [HVW.out]
      rcases hbad with h | h
      · rw [HY0.out h]
      · rw [HZ0.out h]
        cases oy <;> rfl)
    have HF := Lib.hid (Box3.set3 HX3.out (.string ⟨#[]⟩) (.slice none 0 0) (.slice none 0 0))
    have HBF := Lib.hid (below_put HB3.out (.string ⟨#[]⟩) (.slice none 0 0) (.slice none 0 0) (Nat.le_refl _))
    obtain ⟨v0, v1, v2, f0, f1, f2, _, _⟩ := HX3.out.c
    clear HVW HY0 HY1 HZ0 HZ1 HZ2 HY3 HLY HLZ HB3 HX3 y0
    cases qy
    · clear hbad
      go_wp2_with (fail)
      change bodyPost _ _ _ _ _ (set3 w3 w.heap.size (.string ⟨#[]⟩) (.slice none 0 0) (.slice none 0 0))
      generalize set3 w3 w.heap.size (.string ⟨#[]⟩) (.slice none 0 0) (.slice none 0 0) = WF at HF HBF ⊢
      obtain ⟨r0, r1, r2, _⟩ := Box3.c HF.out.1
      clear f0 f1 f2 v0 v1 v2
      refine bodyPost_ret (v := .tuple #[.agg #[.string ⟨#[]⟩, .slice none 0 0, .slice none 0 0], .bool false]) (by simp [results, Tryz.results23, go_sem, r0, r1, r2]) rfl (retRulO_none HN.out HBF.out)
    · obtain rfl : qz = false := by
        rcases hbad with h | h
        · cases h
        · exact h
      clear hbad
      go_wp2_with (fail)
      change bodyPost _ _ _ _ _ (set3 w3 w.heap.size (.string ⟨#[]⟩) (.slice none 0 0) (.slice none 0 0))
      generalize set3 w3 w.heap.size (.string ⟨#[]⟩) (.slice none 0 0) (.slice none 0 0) = WF at HF HBF ⊢
      obtain ⟨r0, r1, r2, _⟩ := Box3.c HF.out.1
      clear f0 f1 f2 v0 v1 v2
      refine bodyPost_ret (v := .tuple #[.agg #[.string ⟨#[]⟩, .slice none 0 0, .slice none 0 0], .bool false]) (by simp [results, Tryz.results23, go_sem, r0, r1, r2]) rfl (retRulO_none HN.out HBF.out)
  obtain ⟨rfl, rfl⟩ : qy = true ∧ qz = true := by
    constructor
    · cases qy with | true => rfl | false => exact absurd (.inl rfl) hbad
    · cases qz with | true => rfl | false => exact absurd (.inr rfl) hbad
  obtain ⟨py, rfl, rfl, hna⟩ := HY1.out rfl
  obtain ⟨pz, rfl, hnd, hnc⟩ := HZ1.out rfl
  have HVX : Hid (V = some ⟨⟨x.toArray⟩, py.map toTst, pz.map toAsg⟩) := HVW
  obtain ⟨HN1, HS1⟩ := HY3.out py rfl
  have HP1 := Lib.hid HN1
  have HP2 := Lib.hid HS1
  have HP3 := Lib.hid (HZ2.out pz rfl)
  have HLP : Hid (py.length ≤ 1048577 ∧ pz.length ≤ 1048577) := Lib.hid ⟨by have := HLY.out py rfl; omega, by have := HLZ.out pz rfl; omega⟩
  have HNA := Lib.hid hna
  have HB3s : Hid (w.heap.size ≤ w3.heap.size) := Lib.hid HB3.out.size
  have HNC := Lib.hid hnc
  clear hbad HVW HY0 HY1 HZ0 HZ1 HZ2 HY3 HLY HLZ HN1 HS1 hna hnc hnd hxl hyl hzl
  have HBa := Lib.hid (below_alloc (Below.refl w3.heap.size w3) (.cells #[] 90))
  have HOT : Hid ((w3.alloc (.cells #[] 90)).ownsRow w3.heap.size 90 3 (.slice (some ⟨w3.heap.size, 0, none⟩) 0 0) 0 (tstCells [])) := Lib.hid (by
    have h := World.ownsRow_made (e := 90) (size := 3) (base := w3.heap.size) w3 #[] 0 (Nat.le_refl _) (Nat.zero_le _) rfl
    simpa [tstCells] using h)
  obtain ⟨pl, hpl⟩ : ∃ pl, pl = py.length := ⟨_, rfl⟩
  rw [← hpl]
  have HPL := Lib.hid hpl
  clear hpl
  go_upto_region 9 with (fail)
  generalize w3.alloc (.cells #[] 90) = W3 at *
  go_wp2_with (fail)
  go_loopw [11, 12] (fun v i wr => ∃ (k : Nat) (A5 : Option Addr) (c5 : Nat), k ≤ pl ∧ i = .int .i64 k ∧ v = .slice A5 k c5 ∧ Hid (wr.ownsRow w3.heap.size 90 3 (.slice A5 k c5) k (tstCells ((py.take k).map toTst))) ∧ Hid (Below w3.heap.size w3 wr)) (fun _ i _ => pl - (intOf i).toNat)
  case atStart => exact ⟨0, _, _, Nat.zero_le _, rfl, rfl, HOT, HBa⟩
  case round =>
    obtain ⟨k, A5, c5, hk, rfl, rfl, ho, hb⟩ := hrel
    clear HOT HBa
    by_cases hlt : k < pl
    · obtain ⟨q, hq⟩ : ∃ z, py[k]? = some z := ⟨_, List.getElem?_eq_getElem (by have := HPL.out; omega)⟩
      obtain ⟨j, hj⟩ : ∃ j, j = 2 * k := ⟨_, rfl⟩
      obtain ⟨j1, hj1⟩ : ∃ j1, j1 = 2 * k + 1 := ⟨_, rfl⟩
      obtain ⟨p1, u1, rfl, g0, g1⟩ := HP1.out.pair hq hj hj1
      obtain ⟨p2, u2, rfl, g2⟩ := HP2.out.sign hq
      have hp1 : p1 < w3.heap.size := World.block_lt_of_cell? _ _ g0
      have hp2 : p2 < w3.heap.size := World.block_lt_of_cell? _ _ g2
      replace g0 := cell_later hb.out g0
      replace g1 := cell_later hb.out g1
      replace g2 := cell_later hb.out g2
      have hk0 : (0 : Int) ≤ (k : Int) := by omega
      have hk1 : (k : Int) < (pl : Int) := by omega
      have hm : pl ≤ 1048577 := by have := HLP.out.1; have := HPL.out; omega
      have hw1 : IntKind.i64.wrap (2 * (k : Int)) = (j : Int) := by rw [IntWalk.i64_in _ (by omega)]; omega
      have hw2 : IntKind.i64.wrap ((j : Int) + 1) = (j1 : Int) := by rw [IntWalk.i64_in _ (by omega)]; omega
      have hjj : (0 : Int) ≤ (j : Int) ∧ (j : Int) < (na : Int) := by have := HNA.out; have := HPL.out; omega
      have hj11 : (0 : Int) ≤ (j1 : Int) ∧ (j1 : Int) < (na : Int) := by have := HNA.out; have := HPL.out; omega
      obtain ⟨hj0, hjn⟩ := hjj
      obtain ⟨hj10, hj1n⟩ := hj11
      have HT1 : Hid ((py.take (k + 1)).map toTst = (py.take k).map toTst ++ [⟨q.1, q.2.1, q.2.2 == 61⟩]) := Lib.hid (by rw [List.take_add_one, hq]; simp [toTst])
      obtain ⟨e, hee⟩ : ∃ e, e = (q.2.2 == 61) := ⟨_, rfl⟩
      have hq6 : ((q.2.2.toNat : Int) == 61) = e := by
        rw [hee]
        by_cases h : q.2.2 = 61
        · rw [h]; rfl
        · rw [show (q.2.2 == 61) = false by simpa using h, beq_eq_false_iff_ne]
          intro e
          exact h (UInt8.toNat_inj.1 (by simpa using (by omega : q.2.2.toNat = 61)))
      rw [← hee] at HT1
      obtain ⟨z1, z2, z3⟩ := q
      dsimp only at g0 g1 g2 hq6 HT1
      clear hq hj hj1 hee
      go_wp2_with (fail)
      refine wp_region_held_drew (S := (fun w' => w'.cell? ⟨p1, u1 + j, none⟩ = some (.int .i64 z1) ∧ w'.cell? ⟨p1, u1 + j1, none⟩ = some (.int .i64 z2) ∧ w'.cell? ⟨p2, u2 + k, none⟩ = some (.int .u8 (z3.toNat : Int)))) (by kernel_rfl) ?_ (fun hHeld => ?_)
      · exact ⟨g0, g1, g2⟩
      refine rg_take (v := ?_) 0 rfl (by kernel_rfl) (by kernel_rfl) (by kernel_rfl) (fun _ _ _ h => h) (by kernel_rfl) ?_ (by assumption) ?_
      rotate_left
      · (intro w' hSw; (try dsimp only at hSw); go_simp; first | done | with_reducible rfl)
      simp only [Act.put, List.setIfInBounds_toArray, List.set_cons_zero, List.set_cons_succ]
      refine rg_take (v := ?_) 1 rfl (by kernel_rfl) (by kernel_rfl) (by kernel_rfl) (fun _ _ _ h => h) (by kernel_rfl) ?_ (by assumption) ?_
      rotate_left
      · (intro w' hSw; (try dsimp only at hSw); go_simp; first | done | with_reducible rfl)
      simp only [Act.put, List.setIfInBounds_toArray, List.set_cons_zero, List.set_cons_succ]
      refine rg_take (v := ?_) 2 rfl (by kernel_rfl) (by kernel_rfl) (by kernel_rfl) (fun _ _ _ h => h) (by kernel_rfl) ?_ (by assumption) ?_
      rotate_left
      · (intro w' hSw; (try dsimp only at hSw); go_simp; first | done | with_reducible rfl)
      simp only [Act.put, List.setIfInBounds_toArray, List.set_cons_zero, List.set_cons_succ]
      refine rg_take (v := ?_) 3 rfl (by kernel_rfl) (by kernel_rfl) (by kernel_rfl) (fun _ _ _ h => h) (by kernel_rfl) ?_ (by assumption) ?_
      rotate_left
      · (intro w' hSw; (try dsimp only at hSw); go_simp; first | done | with_reducible rfl)
      simp only [Act.put, List.setIfInBounds_toArray, List.set_cons_zero, List.set_cons_succ]
      refine rg_take (v := ?_) 4 rfl (by kernel_rfl) (by kernel_rfl) (by kernel_rfl) (fun _ _ _ h => h) (by kernel_rfl) ?_ (by assumption) ?_
      rotate_left
      · (intro w' hSw; (try dsimp only at hSw); go_simp; first | done | with_reducible rfl)
      simp only [Act.put, List.setIfInBounds_toArray, List.set_cons_zero, List.set_cons_succ]
      refine rg_take (v := ?_) 5 rfl (by kernel_rfl) (by kernel_rfl) (by kernel_rfl) (fun _ _ _ h => h) (by kernel_rfl) ?_ (by assumption) ?_
      rotate_left
      · (intro w' hSw; (try dsimp only at hSw); go_simp; first | done | with_reducible rfl)
      simp only [Act.put, List.setIfInBounds_toArray, List.set_cons_zero, List.set_cons_succ]
      refine rg_take (v := ?_) 6 rfl (by kernel_rfl) (by kernel_rfl) (by kernel_rfl) (fun _ _ _ h => h) (by kernel_rfl) ?_ (by assumption) ?_
      rotate_left
      · (intro w' hSw; (try dsimp only at hSw); go_simp; first | done | with_reducible rfl)
      simp only [Act.put, List.setIfInBounds_toArray, List.set_cons_zero, List.set_cons_succ]
      refine rg_take (v := ?_) 7 rfl (by kernel_rfl) (by kernel_rfl) (by kernel_rfl) (fun _ _ _ h => h) (by kernel_rfl) ?_ (by assumption) ?_
      rotate_left
      · (intro w' hSw; (try dsimp only at hSw); go_simp; first | done | with_reducible rfl)
      simp only [Act.put, List.setIfInBounds_toArray, List.set_cons_zero, List.set_cons_succ]
      refine rg_take (v := ?_) 8 rfl (by kernel_rfl) (by kernel_rfl) (by kernel_rfl) (fun _ _ _ h => h) (by kernel_rfl) ?_ (by assumption) ?_
      rotate_left
      · (intro w' hSw; (try dsimp only at hSw); go_simp; first | done | with_reducible rfl)
      simp only [Act.put, List.setIfInBounds_toArray, List.set_cons_zero, List.set_cons_succ]
      refine rg_take (v := ?_) 9 rfl (by kernel_rfl) (by kernel_rfl) (by kernel_rfl) (fun _ _ _ h => h) (by kernel_rfl) ?_ (by assumption) ?_
      rotate_left
      · (intro w' hSw; (try dsimp only at hSw); go_simp; first | done | with_reducible rfl)
      simp only [Act.put, List.setIfInBounds_toArray, List.set_cons_zero, List.set_cons_succ]
      refine rg_take (v := ?_) 10 rfl (by kernel_rfl) (by kernel_rfl) (by kernel_rfl) (fun _ _ _ h => h) (by kernel_rfl) ?_ (by assumption) ?_
      rotate_left
      · (intro w' hSw; (try dsimp only at hSw); go_simp; first | done | with_reducible rfl)
      simp only [Act.put, List.setIfInBounds_toArray, List.set_cons_zero, List.set_cons_succ]
      refine rg_take (v := ?_) 11 rfl (by kernel_rfl) (by kernel_rfl) (by kernel_rfl) (fun _ _ _ h => h) (by kernel_rfl) ?_ (by assumption) ?_
      rotate_left
      · (intro w' hSw; (try dsimp only at hSw); go_simp; first | done | with_reducible rfl)
      simp only [Act.put, List.setIfInBounds_toArray, List.set_cons_zero, List.set_cons_succ]
      refine rg_take (v := ?_) 12 rfl (by kernel_rfl) (by kernel_rfl) (by kernel_rfl) (fun _ _ _ h => h) (by kernel_rfl) ?_ (by assumption) ?_
      rotate_left
      · (intro w' hSw; (try dsimp only at hSw); go_simp; first | done | with_reducible rfl)
      simp only [Act.put, List.setIfInBounds_toArray, List.set_cons_zero, List.set_cons_succ]
      refine rg_take (v := ?_) 13 rfl (by kernel_rfl) (by kernel_rfl) (by kernel_rfl) (fun _ _ _ h => h) (by kernel_rfl) ?_ (by assumption) ?_
      rotate_left
      · (intro w' hSw; (try dsimp only at hSw); go_simp; first | done | with_reducible rfl)
      simp only [Act.put, List.setIfInBounds_toArray, List.set_cons_zero, List.set_cons_succ]
      refine rg_take (v := ?_) 14 rfl (by kernel_rfl) (by kernel_rfl) (by kernel_rfl) (fun _ _ _ h => h) (by kernel_rfl) ?_ (by assumption) ?_
      rotate_left
      · (intro w' hSw; (try dsimp only at hSw); go_simp; first | done | with_reducible rfl)
      simp only [Act.put, List.setIfInBounds_toArray, List.set_cons_zero, List.set_cons_succ]
      refine rg_take (v := ?_) 15 rfl (by kernel_rfl) (by kernel_rfl) (by kernel_rfl) (fun _ _ _ h => h) (by kernel_rfl) ?_ (by assumption) ?_
      rotate_left
      · (intro w' hSw; (try dsimp only at hSw); go_simp; first | done | with_reducible rfl)
      simp only [Act.put, List.setIfInBounds_toArray, List.set_cons_zero, List.set_cons_succ]
      refine rg_take (v := ?_) 16 rfl (by kernel_rfl) (by kernel_rfl) (by kernel_rfl) (fun _ _ _ h => h) (by kernel_rfl) ?_ (by assumption) ?_
      rotate_left
      · (intro w' hSw; (try dsimp only at hSw); go_simp; first | done | with_reducible rfl)
      simp only [Act.put, List.setIfInBounds_toArray, List.set_cons_zero, List.set_cons_succ]
      refine rg_take (v := ?_) 17 rfl (by kernel_rfl) (by kernel_rfl) (by kernel_rfl) (fun _ _ _ h => h) (by kernel_rfl) ?_ (by assumption) ?_
      rotate_left
      · (intro w' hSw; (try dsimp only at hSw); go_simp; first | done | with_reducible rfl)
      simp only [Act.put, List.setIfInBounds_toArray, List.set_cons_zero, List.set_cons_succ]
      refine rg_run 18 rfl (by kernel_rfl) (by kernel_rfl) (fun K hK => ?_)
      go_simp
      replace g0 := cell_later (below_alloc (Below.refl _ wr) (Obj.cells #[.int .i64 z1, .int .i64 z2, .bool e] 90)) (by exact g0)
      replace g1 := cell_later (below_alloc (Below.refl _ wr) (Obj.cells #[.int .i64 z1, .int .i64 z2, .bool e] 90)) (by exact g1)
      replace g2 := cell_later (below_alloc (Below.refl _ wr) (Obj.cells #[.int .i64 z1, .int .i64 z2, .bool e] 90)) (by exact g2)
      clear hHeld
      refine hK.out _ _ (by exact ⟨g0, g1, g2⟩) (fun hHeld => ?_)
      clear hK K
      try simp only [Act.put, List.setIfInBounds_toArray, List.set_cons_zero, List.set_cons_succ]
      refine rg_run 19 rfl (by kernel_rfl) (by kernel_rfl) (fun K hK => ?_)
      refine wp_push_tst _ (.tmp 51) (.tmp 69) rfl w3.heap.size (.slice A5 k c5) k ((py.take k).map toTst) ⟨z1, z2, e⟩ wr.heap.size 1 rfl (own_below ho.out (Below.drew (below_alloc (Below.refl _ wr) (Obj.cells #[.int .i64 z1, .int .i64 z2, .bool e] 90)))) rfl (by go_simp) (by go_simp) (by go_simp) (by omega) (Nat.le_trans hb.out.size (by simp)) ?_
      intro v5 w5 hown hgrow
      simp only [Act.put, List.setIfInBounds_toArray, List.set_cons_zero, List.set_cons_succ]
      obtain ⟨A6, c6, rfl⟩ := own_shape hown
      rw [← HT1.out] at hown
      have HO5 := Lib.hid hown
      replace g0 := hgrow.cell (by exact g0) (fun e => by have := (ho.out.lt _ e.symm).1; dsimp only at this; omega)
      replace g1 := hgrow.cell (by exact g1) (fun e => by have := (ho.out.lt _ e.symm).1; dsimp only at this; omega)
      replace g2 := hgrow.cell (by exact g2) (fun e => by have := (ho.out.lt _ e.symm).1; dsimp only at this; omega)
      have HB5 := Lib.hid (below_of_grown (below_chain hb.out (Below.drew (below_alloc (Below.refl _ wr) (Obj.cells #[.int .i64 z1, .int .i64 z2, .bool e] 90)))) hgrow (fun p hp => (ho.out.lt p hp).1))
      clear hown hgrow ho hb
      clear hHeld
      refine hK.out _ _ (by exact ⟨g0, g1, g2⟩) (fun hHeld => ?_)
      clear hK K
      try simp only [Act.put, List.setIfInBounds_toArray, List.set_cons_zero, List.set_cons_succ]
      refine rg_take (v := ?_) 20 rfl (by kernel_rfl) (by kernel_rfl) (by kernel_rfl) (fun _ _ _ h => h) (by kernel_rfl) ?_ (by assumption) ?_
      rotate_left
      · (intro w' hSw; (try dsimp only at hSw); go_simp; first | done | with_reducible rfl)
      simp only [Act.put, List.setIfInBounds_toArray, List.set_cons_zero, List.set_cons_succ]
      refine wpAnyH_done (by kernel_rfl) ?_ _
      clear hHeld
      go_wp2_with (fail)
      go_roundw
      case rel => exact ⟨k + 1, A6, c6, by omega, by go_num, rfl, HO5, HB5⟩
      case measure => simp [intOf]; omega
    · obtain rfl : k = pl := by omega
      have HT1 : Hid (wr.ownsRow w3.heap.size 90 3 (.slice A5 k c5) k (tstCells (py.map toTst))) := Lib.hid (by have := ho.out; rwa [List.take_of_length_le (by have := HPL.out; omega)] at this)
      have HP3' := Lib.hid (HP3.out.below hb.out)
      have HX4 := Lib.hid (HX3.out.below hb.out)
      have HB4 := Lib.hid (below_chain HB3.out hb.out)
      replace y0 := cell_later hb.out y0
      have hw3 := hb.out.size
      clear HP1 HP2 HP3 HX3 HB3 hb ho HNA hlt
      have HW3 := Lib.hid hw3
      clear hw3
      obtain ⟨w4, rfl⟩ : ∃ w4, w4 = wr := ⟨_, rfl⟩
      have HBa := Lib.hid (below_alloc (Below.refl w4.heap.size w4) (.cells #[] 47))
      have HOA : Hid ((w4.alloc (.cells #[] 47)).ownsRow w4.heap.size 47 2 (.slice (some ⟨w4.heap.size, 0, none⟩) 0 0) 0 (asgCells [])) := Lib.hid (by
        have h := World.ownsRow_made (e := 47) (size := 2) (base := w4.heap.size) w4 #[] 0 (Nat.le_refl _) (Nat.zero_le _) rfl
        simpa [asgCells] using h)
      obtain ⟨ql, hql⟩ : ∃ ql, ql = pz.length := ⟨_, rfl⟩
      have HQL := Lib.hid hql
      have HN2 : Hid (nc = 2 * ql) := Lib.hid (by rw [HNC.out, hql])
      clear hql HNC
      go_upto_region 14 with (fail)
      generalize w4.alloc (.cells #[] 47) = W4 at *
      go_wp2_with (fail)
      go_loopw [13, 14] (fun v i wr => ∃ (m j : Nat) (A5 : Option Addr) (c5 : Nat), m ≤ ql ∧ i = .int .i64 j ∧ Hid (j = 2 * m) ∧ v = .slice A5 m c5 ∧ Hid (wr.ownsRow w4.heap.size 47 2 (.slice A5 m c5) m (asgCells ((pz.take m).map toAsg))) ∧ Hid (Below w4.heap.size w4 wr)) (fun _ i _ => nc - (intOf i).toNat)
      case atStart => exact ⟨0, 0, _, _, Nat.zero_le _, rfl, Lib.hid rfl, rfl, HOA, HBa⟩
      case round =>
        obtain ⟨m, j, A7, c7, hk, rfl, hj, rfl, ho, hb⟩ := hrel
        clear HOA HBa
        have hm : ql ≤ 1048577 := by have := HLP.out.2; have := HQL.out; omega
        obtain ⟨j1, hj1⟩ : ∃ j1, j1 = 2 * m + 1 := ⟨_, rfl⟩
        have hw2 : IntKind.i64.wrap ((j : Int) + 1) = (j1 : Int) := by have := hj.out; rw [IntWalk.i64_in _ (by omega)]; omega
        by_cases hlt : m < ql
        · obtain ⟨q, hq⟩ : ∃ z, pz[m]? = some z := ⟨_, List.getElem?_eq_getElem (by have := HQL.out; omega)⟩
          obtain ⟨p1, u1, rfl, g0, g1⟩ := HP3'.out.pair hq hj.out hj1
          have hp1 : p1 < w4.heap.size := World.block_lt_of_cell? _ _ g0
          replace g0 := cell_later hb.out g0
          replace g1 := cell_later hb.out g1
          have hj0 : (0 : Int) ≤ (j : Int) := by omega
          have hjn : (j : Int) < (nc : Int) := by have := hj.out; have := HN2.out; omega
          have hj10 : (0 : Int) ≤ (j1 : Int) := by omega
          have hj1n : (j1 : Int) < (nc : Int) := by have := HN2.out; omega
          obtain ⟨j2, hj2⟩ : ∃ j2, j2 = j + 2 := ⟨_, rfl⟩
          have hw3 : IntKind.i64.wrap ((j : Int) + 2) = (j2 : Int) := by have := hj.out; rw [IntWalk.i64_in _ (by omega)]; omega
          have HJ2 : Hid (j2 = 2 * (m + 1)) := Lib.hid (by have := hj.out; omega)
          have hmz : j < nc ∧ j2 = j + 2 := by omega
          have HMZ := Lib.hid hmz
          have HT1 : Hid ((pz.take (m + 1)).map toAsg = (pz.take m).map toAsg ++ [⟨q.1, q.2.1⟩]) := Lib.hid (by rw [List.take_add_one, hq]; simp [toAsg])
          obtain ⟨z1, z2, z3⟩ := q
          dsimp only at g0 g1 HT1
          clear hq hj hj1 hj2 hmz
          go_wp2_with (fail)
          refine wp_region_held_drew (S := (fun w' => w'.cell? ⟨p1, u1 + j, none⟩ = some (.int .i64 z1) ∧ w'.cell? ⟨p1, u1 + j1, none⟩ = some (.int .i64 z2))) (by kernel_rfl) ?_ (fun hHeld => ?_)
          · exact ⟨g0, g1⟩
          refine rg_take (v := ?_) 0 rfl (by kernel_rfl) (by kernel_rfl) (by kernel_rfl) (fun _ _ _ h => h) (by kernel_rfl) ?_ (by assumption) ?_
          rotate_left
          · (intro w' hSw; (try dsimp only at hSw); go_simp; first | done | with_reducible rfl)
          simp only [Act.put, List.setIfInBounds_toArray, List.set_cons_zero, List.set_cons_succ]
          refine rg_take (v := ?_) 1 rfl (by kernel_rfl) (by kernel_rfl) (by kernel_rfl) (fun _ _ _ h => h) (by kernel_rfl) ?_ (by assumption) ?_
          rotate_left
          · (intro w' hSw; (try dsimp only at hSw); go_simp; first | done | with_reducible rfl)
          simp only [Act.put, List.setIfInBounds_toArray, List.set_cons_zero, List.set_cons_succ]
          refine rg_take (v := ?_) 2 rfl (by kernel_rfl) (by kernel_rfl) (by kernel_rfl) (fun _ _ _ h => h) (by kernel_rfl) ?_ (by assumption) ?_
          rotate_left
          · (intro w' hSw; (try dsimp only at hSw); go_simp; first | done | with_reducible rfl)
          simp only [Act.put, List.setIfInBounds_toArray, List.set_cons_zero, List.set_cons_succ]
          refine rg_take (v := ?_) 3 rfl (by kernel_rfl) (by kernel_rfl) (by kernel_rfl) (fun _ _ _ h => h) (by kernel_rfl) ?_ (by assumption) ?_
          rotate_left
          · (intro w' hSw; (try dsimp only at hSw); go_simp; first | done | with_reducible rfl)
          simp only [Act.put, List.setIfInBounds_toArray, List.set_cons_zero, List.set_cons_succ]
          refine rg_take (v := ?_) 4 rfl (by kernel_rfl) (by kernel_rfl) (by kernel_rfl) (fun _ _ _ h => h) (by kernel_rfl) ?_ (by assumption) ?_
          rotate_left
          · (intro w' hSw; (try dsimp only at hSw); go_simp; first | done | with_reducible rfl)
          simp only [Act.put, List.setIfInBounds_toArray, List.set_cons_zero, List.set_cons_succ]
          refine rg_take (v := ?_) 5 rfl (by kernel_rfl) (by kernel_rfl) (by kernel_rfl) (fun _ _ _ h => h) (by kernel_rfl) ?_ (by assumption) ?_
          rotate_left
          · (intro w' hSw; (try dsimp only at hSw); go_simp; first | done | with_reducible rfl)
          simp only [Act.put, List.setIfInBounds_toArray, List.set_cons_zero, List.set_cons_succ]
          refine rg_take (v := ?_) 6 rfl (by kernel_rfl) (by kernel_rfl) (by kernel_rfl) (fun _ _ _ h => h) (by kernel_rfl) ?_ (by assumption) ?_
          rotate_left
          · (intro w' hSw; (try dsimp only at hSw); go_simp; first | done | with_reducible rfl)
          simp only [Act.put, List.setIfInBounds_toArray, List.set_cons_zero, List.set_cons_succ]
          refine rg_take (v := ?_) 7 rfl (by kernel_rfl) (by kernel_rfl) (by kernel_rfl) (fun _ _ _ h => h) (by kernel_rfl) ?_ (by assumption) ?_
          rotate_left
          · (intro w' hSw; (try dsimp only at hSw); go_simp; first | done | with_reducible rfl)
          simp only [Act.put, List.setIfInBounds_toArray, List.set_cons_zero, List.set_cons_succ]
          refine rg_take (v := ?_) 8 rfl (by kernel_rfl) (by kernel_rfl) (by kernel_rfl) (fun _ _ _ h => h) (by kernel_rfl) ?_ (by assumption) ?_
          rotate_left
          · (intro w' hSw; (try dsimp only at hSw); go_simp; first | done | with_reducible rfl)
          simp only [Act.put, List.setIfInBounds_toArray, List.set_cons_zero, List.set_cons_succ]
          refine rg_take (v := ?_) 9 rfl (by kernel_rfl) (by kernel_rfl) (by kernel_rfl) (fun _ _ _ h => h) (by kernel_rfl) ?_ (by assumption) ?_
          rotate_left
          · (intro w' hSw; (try dsimp only at hSw); go_simp; first | done | with_reducible rfl)
          simp only [Act.put, List.setIfInBounds_toArray, List.set_cons_zero, List.set_cons_succ]
          refine rg_take (v := ?_) 10 rfl (by kernel_rfl) (by kernel_rfl) (by kernel_rfl) (fun _ _ _ h => h) (by kernel_rfl) ?_ (by assumption) ?_
          rotate_left
          · (intro w' hSw; (try dsimp only at hSw); go_simp; first | done | with_reducible rfl)
          simp only [Act.put, List.setIfInBounds_toArray, List.set_cons_zero, List.set_cons_succ]
          refine rg_run 11 rfl (by kernel_rfl) (by kernel_rfl) (fun K hK => ?_)
          go_simp
          replace g0 := cell_later (below_alloc (Below.refl _ wr) (Obj.cells #[.int .i64 z1, .int .i64 z2] 47)) (by exact g0)
          replace g1 := cell_later (below_alloc (Below.refl _ wr) (Obj.cells #[.int .i64 z1, .int .i64 z2] 47)) (by exact g1)
          clear hHeld
          refine hK.out _ _ (by exact ⟨g0, g1⟩) (fun hHeld => ?_)
          clear hK K
          try simp only [Act.put, List.setIfInBounds_toArray, List.set_cons_zero, List.set_cons_succ]
          refine rg_run 12 rfl (by kernel_rfl) (by kernel_rfl) (fun K hK => ?_)
          refine wp_push_asg _ (.tmp 79) (.tmp 90) rfl w4.heap.size (.slice A7 m c7) m ((pz.take m).map toAsg) ⟨z1, z2⟩ wr.heap.size 1 rfl (own_below ho.out (Below.drew (below_alloc (Below.refl _ wr) (Obj.cells #[.int .i64 z1, .int .i64 z2] 47)))) rfl (by go_simp) (by go_simp) (by omega) (Nat.le_trans hb.out.size (by simp)) ?_
          intro v5 w5 hown hgrow
          simp only [Act.put, List.setIfInBounds_toArray, List.set_cons_zero, List.set_cons_succ]
          obtain ⟨A6, c6, rfl⟩ := own_shape hown
          rw [← HT1.out] at hown
          have HO5 := Lib.hid hown
          replace g0 := hgrow.cell (by exact g0) (fun e => by have := (ho.out.lt _ e.symm).1; dsimp only at this; omega)
          replace g1 := hgrow.cell (by exact g1) (fun e => by have := (ho.out.lt _ e.symm).1; dsimp only at this; omega)
          have HB5 := Lib.hid (below_of_grown (below_chain hb.out (Below.drew (below_alloc (Below.refl _ wr) (Obj.cells #[.int .i64 z1, .int .i64 z2] 47)))) hgrow (fun p hp => (ho.out.lt p hp).1))
          clear hown hgrow ho hb
          clear hHeld
          refine hK.out _ _ (by exact ⟨g0, g1⟩) (fun hHeld => ?_)
          clear hK K
          try simp only [Act.put, List.setIfInBounds_toArray, List.set_cons_zero, List.set_cons_succ]
          refine rg_take (v := ?_) 13 rfl (by kernel_rfl) (by kernel_rfl) (by kernel_rfl) (fun _ _ _ h => h) (by kernel_rfl) ?_ (by assumption) ?_
          rotate_left
          · (intro w' hSw; (try dsimp only at hSw); go_simp; first | done | with_reducible rfl)
          simp only [Act.put, List.setIfInBounds_toArray, List.set_cons_zero, List.set_cons_succ]
          refine wpAnyH_done (by kernel_rfl) ?_ _
          clear hHeld
          go_wp2_with (fail)
          go_roundw
          case rel => exact ⟨m + 1, j2, A6, c6, by omega, by go_num, HJ2, rfl, HO5, HB5⟩
          case measure => have := HMZ.out; simp [intOf]; omega
        · obtain rfl : m = ql := by omega
          have hjn : ¬ ((j1 : Int) < (nc : Int)) := by have := HN2.out; omega
          have HT2 : Hid (wr.ownsRow w4.heap.size 47 2 (.slice A7 m c7) m (asgCells (pz.map toAsg))) := Lib.hid (by have := ho.out; rwa [List.take_of_length_le (by have := HQL.out; omega)] at this)
          have HT3 := Lib.hid (own_below HT1.out hb.out)
          have HX5 := Lib.hid (HX4.out.below hb.out)
          have HB5 := Lib.hid (below_chain HB4.out hb.out)
          replace y0 := cell_later hb.out y0
          have HF := Lib.hid (Box3.set3 HX5.out (.string (bsT x)) (.slice A5 k c5) (.slice A7 m c7))
          have HBF := Lib.hid (below_put HB5.out (.string (bsT x)) (.slice A5 k c5) (.slice A7 m c7) (Nat.le_refl _))
          have HTF := Lib.hid (own_mono (own_aside HT3.out HX5.out (by decide) HF.out.2) (Nat.le_trans HB3s.out (Nat.le_refl _)))
          have HAF := Lib.hid (own_mono (own_aside HT2.out HX5.out (by decide) HF.out.2) HB4.out.size)
          obtain ⟨v0, v1, v2, f0, f1, f2, _, _⟩ := HX5.out.c
          clear ho hb HX4 HB4 HT1 HT2 HT3 HP3'
          go_wp2_with (fail)
          change bodyPost _ _ _ _ _ (set3 wr w.heap.size (.string (bsT x)) (.slice A5 k c5) (.slice A7 m c7))
          generalize set3 wr w.heap.size (.string (bsT x)) (.slice A5 k c5) (.slice A7 m c7) = WF at HF HBF HTF HAF ⊢
          obtain ⟨r0, r1, r2, _⟩ := Box3.c HF.out.1
          clear f0 f1 f2 v0 v1 v2
          refine bodyPost_ret (v := .tuple #[.agg #[.string (bsT x), .slice A5 k c5, .slice A7 m c7], .bool true]) (by simp [results, Tryz.results23, go_sem, r0, r1, r2]) rfl (retRulO_some HVX.out rfl (by rw [List.length_map]; exact HPL.out) (by rw [List.length_map]; exact HQL.out) HTF.out HAF.out HBF.out)
end Go.Proofs.YtgpmglfcdbpgkaaGreatDoor

/- What the reading of a model hands back, and bounds of what it reads: plain facts. No condition. -/
namespace Go.Proofs.YtgpmglfcdbpgkaaGreatDoor
open Go.RowKit

theorem spl_mem_sum {c : UInt8} : ∀ {L : List UInt8} {x : List UInt8}, x ∈ spl c L → x.length + (spl c L).length ≤ L.length + 1
  | [], x, h => by simp [spl] at h; subst h; simp [spl]
  | b :: l, x, h => by
    have hc := spl_count c l
    have ih := fun y hy => spl_mem_sum (c := c) (L := l) (x := y) hy
    unfold spl at h ⊢
    split at h
    · next hb =>
      rw [if_pos hb]
      rcases List.mem_cons.1 h with rfl | h
      · simp; omega
      · have := ih x h; simp; omega
    · next hb =>
      rw [if_neg hb]
      cases hs : spl c l with
      | nil => exact absurd hs (spl_ne c l)
      | cons y t =>
        rw [hs] at h ih
        rcases List.mem_cons.1 h with rfl | h
        · have := ih y (List.mem_cons_self ..)
          simp at this ⊢; omega
        · have := ih x (List.mem_cons_of_mem _ (by simpa using h))
          simp at this ⊢; omega
theorem modelS_not {s : List UInt8} (h : (spl 32 ((spl 10 s).headD [])).length ≠ 2) : modelS s = none := by
  unfold modelS
  split
  · next e => rw [e] at h; exact absurd rfl h
  · rfl
theorem modelS_two {s x y : List UInt8} (h : spl 32 ((spl 10 s).headD []) = [x, y]) : modelS s = match seqO sgnS (spl 44 x) with
    | none => none
    | some a => match seqO sgnS (spl 44 y) with
      | none => none
      | some b => match seqO ruleS ((spl 10 s).tail.dropLast) with
        | none => none
        | some rs => some ⟨a, b, rs⟩ := by
  unfold modelS
  rw [h]
  dsimp only
  cases seqO sgnS (spl 44 x) with
  | none => rfl
  | some a =>
    cases seqO sgnS (spl 44 y) with
    | none => rfl
    | some b =>
      cases seqO ruleS ((spl 10 s).tail.dropLast) with
      | none => rfl
      | some rs => rfl
theorem ruleS_bd {line : List UInt8} {r : Rul} (h : ruleS line = some r) (hl : line.length ≤ 1048576) : r.gs.length ≤ 1048576 ∧ r.es.length ≤ 1048576 ∧ r.nm.size ≤ 1048576 := by
  by_cases h3 : (spl 32 line).length = 3
  · have hm := fun x (hx : x ∈ spl 32 line) => spl_mem_sum hx
    obtain ⟨x, y, z, e⟩ : ∃ x y z, spl 32 line = [x, y, z] := by
      match spl 32 line, h3 with
      | [x, y, z], _ => exact ⟨x, y, z, rfl⟩
    rw [ruleS_three x y z e] at h
    rw [h3, e] at hm
    have m0 := hm x (by simp)
    have m1 := hm y (by simp)
    have m2 := hm z (by simp)
    cases hy : pairsS [61, 33] y with
    | none => rw [hy] at h; cases h
    | some g =>
      cases hz : pairsS [58] z with
      | none => rw [hy, hz] at h; cases h
      | some e =>
        rw [hy, hz] at h
        simp only [Option.some.injEq] at h
        subst h
        have k1 := pairsS_len hy
        have k2 := pairsS_len hz
        refine ⟨by simp; omega, by simp; omega, ?_⟩
        show (⟨x.toArray⟩ : ByteArray).size ≤ _
        have : (⟨x.toArray⟩ : ByteArray).size = x.length := by simp [ByteArray.size]
        omega
  · rw [ruleS_not h3] at h; cases h
theorem seqO_all {α β : Type} {f : α → Option β} : ∀ {l : List α} {t : List β}, seqO f l = some t → ∀ b ∈ t, ∃ a ∈ l, f a = some b
  | [], t, h, b, hb => by simp only [seqO, Option.some.injEq] at h; subst h; cases hb
  | x :: l, t, h, b, hb => by
    rw [seqO] at h
    cases hx : f x with
    | none => rw [hx] at h; cases h
    | some y =>
      cases hs : seqO f l with
      | none => rw [hx, hs] at h; cases h
      | some u =>
        rw [hx, hs] at h
        simp only [Option.some.injEq] at h
        subst h
        rcases List.mem_cons.1 hb with rfl | hb
        · exact ⟨x, List.mem_cons_self .., hx⟩
        · obtain ⟨a, ha, e⟩ := seqO_all hs b hb
          exact ⟨a, List.mem_cons_of_mem _ ha, e⟩
/-- The model read lies within the bounds. -/
theorem read_ok {s x y : List UInt8} {a b : List Int} {rs : List Rul} (hs : s.length ≤ 1048576) (h : spl 32 ((spl 10 s).headD []) = [x, y]) (ha : seqO sgnS (spl 44 x) = some a) (hb : seqO sgnS (spl 44 y) = some b) (hr : seqO ruleS ((spl 10 s).tail.dropLast) = some rs) : MOk ⟨a, b, rs⟩ := by
  have h0 : ((spl 10 s).headD []).length ≤ 1048576 := by
    cases hl : spl 10 s with
    | nil => simp
    | cons l t =>
      have := spl_len (c := 10) (L := s) l (by rw [hl]; simp)
      simpa using Nat.le_trans this hs
  have hx := spl_mem_sum (c := 32) (L := (spl 10 s).headD []) (x := x) (by rw [h]; simp)
  have hy := spl_mem_sum (c := 32) (L := (spl 10 s).headD []) (x := y) (by rw [h]; simp)
  rw [h] at hx hy
  simp only [List.length_cons, List.length_nil] at hx hy
  have ka := seqO_length ha
  have kb := seqO_length hb
  have kr := seqO_length hr
  have c1 := spl_count 44 x
  have c2 := spl_count 44 y
  have c3 := spl_count 10 s
  rw [List.length_dropLast, List.length_tail] at kr
  have hall : ∀ r ∈ rs, r.gs.length ≤ 1048576 ∧ r.es.length ≤ 1048576 ∧ r.nm.size ≤ 1048576 := by
    intro r hr'
    obtain ⟨l, hl, e⟩ := seqO_all hr r hr'
    have hl2 : l ∈ spl 10 s := List.mem_of_mem_tail (List.dropLast_sublist _ |>.subset hl)
    exact ruleS_bd e (Nat.le_trans (spl_len l hl2) hs)
  exact ⟨⟨by show a.length ≤ _; omega, by show b.length ≤ _; omega, by show rs.length ≤ _; omega, fun r hr' => ⟨(hall r hr').1, (hall r hr').2.1⟩⟩, fun r hr' => Nat.le_trans (hall r hr').2.2 (by omega)⟩
theorem readM_none {s : List UInt8} (h : modelS s = none) : readM s = none := by rw [readM_S, h]
theorem readM_some {s : List UInt8} {m : Mdl} (h : modelS s = some m) (hne : s ≠ []) : readM s = if outT m = s then some m else none := by
  rw [readM_S, h]
  dsimp only
  unfold outT
  cases hm : mdB m with
  | false =>
    rw [if_neg (by simp)]
    rw [if_neg (by simpa using hne)]
  | true => simp
theorem spl_nil_head {s x y : List UInt8} (h : spl 32 ((spl 10 s).headD []) = [x, y]) : s ≠ [] := by
  rintro rfl
  simp [spl] at h
/-- What a model's reading hands back. -/
def RetMO (o : Option Mdl) (w : World) (e : Ending) (w' : World) : Prop := match o with
  | some m => ∃ az ax ar cz cs cr ds, e = .returned (.tuple #[mv m az ax ar cz cs cr, .bool true]) ∧ MOwn w' w.heap.size az ax ar cz cs cr m ds ∧ Below w.heap.size w w'
  | none => e = .returned (.tuple #[.agg #[.slice none 0 0, .slice none 0 0, .slice none 0 0], .bool false]) ∧ Below w.heap.size w w'
theorem retMO_none {o : Option Mdl} {w w' : World} (h : o = none) (hb : Below w.heap.size w w') : RetMO o w (.returned (.tuple #[.agg #[.slice none 0 0, .slice none 0 0, .slice none 0 0], .bool false])) w' := by subst h; exact ⟨rfl, hb⟩
theorem retMO_some {o : Option Mdl} {m : Mdl} {az ax ar : Option Addr} {cz cs cr : Nat} {ds : List RuD} {w w' : World} (h : o = some m) (h1 : MOwn w' w.heap.size az ax ar cz cs cr m ds) (hb : Below w.heap.size w w') : RetMO o w (.returned (.tuple #[mv m az ax ar cz cs cr, .bool true])) w' := by subst h; exact ⟨_, _, _, _, _, _, ds, rfl, h1, hb⟩
/-- The numbers read, both ways at once. -/
theorem RetNO.both {o : Option (List Int)} {w w' : World} {e : Ending} (h : RetNO o w e w') : ∃ A n c q, e = .returned (.tuple #[.slice A n c, .bool q]) ∧ (q = false → o = none) ∧ (q = true → ∃ zs, o = some zs ∧ n = zs.length) ∧ (∀ zs, o = some zs → w'.ownsRow w.heap.size 2 1 (.slice A n c) n (ints zs)) ∧ Below w.heap.size w w' := by
  match o, h with
  | none, ⟨h1, h2⟩ => exact ⟨_, _, _, _, h1, fun _ => rfl, (fun h => nomatch h), (fun _ h => nomatch h), h2⟩
  | some zs, ⟨A, c, h1, h2, h3⟩ => exact ⟨_, _, _, _, h1, (fun h => nomatch h), (fun _ => ⟨zs, rfl, rfl⟩), (fun zs' e => by injection e with e; subst e; exact h2), h3⟩
/-- The rule read, both ways at once. -/
theorem RetRulO.both {o : Option Rul} {w w' : World} {e : Ending} (h : RetRulO o w e w') : ∃ x A n c B m k q, e = .returned (.tuple #[.agg #[.string x, .slice A n c, .slice B m k], .bool q]) ∧ (q = false → o = none) ∧ (q = true → ∃ r, o = some r ∧ x = r.nm ∧ n = r.gs.length ∧ m = r.es.length) ∧ (∀ r, o = some r → Nest w' w.heap.size ⟨r, A, c, B, k⟩) ∧ Below w.heap.size w w' := by
  match o, h with
  | none, ⟨h1, h2⟩ => exact ⟨_, _, _, _, _, _, _, _, h1, fun _ => rfl, (fun h => nomatch h), (fun _ h => nomatch h), h2⟩
  | some r, ⟨A, c, B, k, h1, h2, h3⟩ => exact ⟨_, _, _, _, _, _, _, _, h1, (fun h => nomatch h), (fun _ => ⟨r, rfl, rfl, rfl, rfl⟩), (fun r' e => by injection e with e; subst e; exact h2), h3⟩
theorem Nest.aside {w w' : World} {b1 b2 : Nat} {d : RuD} {e2 : TypeId} {s2 n2 : Nat} {v2 : Value} {x2 : List Value} (h : Nest w b1 d) (h2 : w.ownsRow b2 e2 s2 v2 n2 x2) (he : 90 ≠ e2) (he2 : 47 ≠ e2) (hg : w.grownBy w' v2.ownBlock) : Nest w' b1 d := ⟨own_aside h.1 h2 he hg, own_aside h.2 h2 he2 hg⟩
/-- A box of another kind written: the model stays. -/
theorem MOwn.boxed {w : World} {base b2 p : Nat} {az ax ar : Option Addr} {cz cs cr : Nat} {m : Mdl} {ds : List RuD} {x y z x' y' z' : Value} (h : MOwn w base az ax ar cz cs cr m ds) (h2 : Box3 25 w b2 p x y z) : MOwn (set3 w p x' y' z') base az ax ar cz cs cr m ds :=
  have hg : w.grownBy (set3 w p x' y' z') (Value.slice (some ⟨p, 0, none⟩) 3 3).ownBlock := (h2.set3 x' y' z').2
  have h3 : w.ownsRow b2 25 1 (.slice (some ⟨p, 0, none⟩) 3 3) 3 [x, y, z] := h2
  ⟨own_aside h.z h3 (by decide) hg, own_aside h.s h3 (by decide) hg, own_aside h.r h3 (by decide) hg, h.e, fun d hd => (h.d d hd).aside h3 (by decide) (by decide) hg⟩
end Go.Proofs.YtgpmglfcdbpgkaaGreatDoor
