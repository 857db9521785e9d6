/- Contracts and helpers (joined texts, part 0). The conditions stand at each theorem. -/
import Derived.Test.YtgpmglfcdbpgkaaGreatDoorMIsP
import Derived.Lib.Split
import Derived.Lib.Join
import Derived.Lib.ItoaNum
import Derived.Lib.ParseIntB
import Derived.Lib.CountLaws
import Derived.Laws.Concat
import Derived.Laws.BytesString
import Derived.Laws.IdiomStrings
import Derived.Deep.CutRange
/- The texts of models, plain: the pieces between bytes; numbers; the text of a model; what is read from a text; that a valid model is read from its text. No condition. -/
namespace Go.Proofs.YtgpmglfcdbpgkaaGreatDoor
open Go.RowKit

/-- The pieces between the bytes c. -/
def spl (c : UInt8) : List UInt8 → List (List UInt8)
  | [] => [[]]
  | b :: l => if b = c then [] :: spl c l else (b :: (spl c l).headD []) :: (spl c l).tail
theorem spl_ne (c : UInt8) (l : List UInt8) : spl c l ≠ [] := by
  cases l with
  | nil => simp [spl]
  | cons b l => unfold spl; split <;> simp
theorem spl_out {c : UInt8} : ∀ {l : List UInt8}, c ∉ l → spl c l = [l]
  | [], _ => rfl
  | b :: l, h => by
    have hb : b ≠ c := fun e => h (by rw [e]; exact List.mem_cons_self ..)
    unfold spl
    rw [if_neg hb, spl_out (fun e => h (List.mem_cons_of_mem _ e))]
    rfl
theorem spl_cut {c : UInt8} : ∀ {x : List UInt8} (l : List UInt8), c ∉ x → spl c (x ++ c :: l) = x :: spl c l
  | [], l, _ => by rw [List.nil_append, spl, if_pos rfl]
  | b :: x, l, h => by
    have hb : b ≠ c := fun e => h (by rw [e]; exact List.mem_cons_self ..)
    rw [List.cons_append, spl, if_neg hb, spl_cut l (fun e => h (List.mem_cons_of_mem _ e))]
    rfl
theorem joinTail_cons (sep y : List UInt8) (r : List (List UInt8)) : Lib.joinTail sep (y :: r) = sep ++ y ++ Lib.joinTail sep r := by simp [Lib.joinTail]
theorem spl_tail {c : UInt8} : ∀ (r : List (List UInt8)) (x : List UInt8), c ∉ x → (∀ w ∈ r, c ∉ w) → spl c (x ++ Lib.joinTail [c] r) = x :: r
  | [], x, h, _ => by simp [Lib.joinTail, spl_out h]
  | y :: r, x, h, hr => by
    rw [joinTail_cons, show x ++ ([c] ++ y ++ Lib.joinTail [c] r) = x ++ c :: (y ++ Lib.joinTail [c] r) by simp, spl_cut _ h, spl_tail r y (hr y (List.mem_cons_self ..)) (fun w hw => hr w (List.mem_cons_of_mem _ hw))]
theorem spl_join {c : UInt8} {ws : List (List UInt8)} (hne : ws ≠ []) (h : ∀ w ∈ ws, c ∉ w) : spl c (Lib.join ws [c]) = ws := by
  match ws, hne with
  | x :: r, _ =>
    rw [Lib.join_cons]
    exact spl_tail r x (h x (List.mem_cons_self ..)) (fun w hw => h w (List.mem_cons_of_mem _ hw))
theorem spl_lines {c : UInt8} : ∀ {ws : List (List UInt8)}, (∀ w ∈ ws, c ∉ w) → spl c (ws.flatMap (· ++ [c])) = ws ++ [[]]
  | [], _ => rfl
  | w :: ws, h => by
    rw [List.flatMap_cons, show w ++ [c] ++ ws.flatMap (· ++ [c]) = w ++ c :: ws.flatMap (· ++ [c]) by simp, spl_cut _ (h w (List.mem_cons_self ..)), spl_lines (fun v hv => h v (List.mem_cons_of_mem _ hv))]
    rfl
theorem lines_join {c : UInt8} (x : List UInt8) (r : List (List UInt8)) : (x :: r).flatMap (· ++ [c]) = Lib.join (x :: r) [c] ++ [c] := by
  rw [Lib.join_cons]
  induction r generalizing x with
  | nil => simp [Lib.joinTail]
  | cons y r ih =>
    rw [List.flatMap_cons, ih y, joinTail_cons]
    simp
/-! ### The library's words -/
theorem index_out {c : UInt8} : ∀ {s : List UInt8}, c ∉ s → Lib.index s [c] = -1
  | [], _ => rfl
  | b :: l, h => by
    have hb : ¬ c = b := fun e => h (by rw [e]; exact List.mem_cons_self ..)
    unfold Lib.index
    rw [index_out (fun e => h (List.mem_cons_of_mem _ e))]
    simp [hb]
theorem index_cut {c : UInt8} : ∀ {x : List UInt8} (l : List UInt8), c ∉ x → Lib.index (x ++ c :: l) [c] = x.length
  | [], l, _ => by simp [Lib.index]
  | b :: x, l, h => by
    have hb : ¬ c = b := fun e => h (by rw [e]; exact List.mem_cons_self ..)
    have ih := index_cut l (fun e => h (List.mem_cons_of_mem _ e))
    rw [List.cons_append, Lib.index, ih]
    have : ((x.length : Int) == -1) = false := by rw [beq_eq_false_iff_ne]; omega
    simp [hb, this]
theorem split_spl (c : UInt8) : ∀ (n : Nat) (s : List UInt8), s.length ≤ n → Lib.splitK [c] 0 (Lib.count s [c]) s = spl c s := by
  intro n
  induction n with
  | zero =>
    intro s hs
    have : s = [] := List.eq_nil_of_length_eq_zero (by omega)
    subst this
    rw [Lib.count_miss (index_out (by simp))]
    rfl
  | succ n ih =>
    intro s hs
    by_cases hc : c ∈ s
    · obtain ⟨x, l, rfl, hx⟩ := List.eq_append_cons_of_mem hc
      have hi := index_cut l hx
      have hd : (x ++ c :: l).drop (x.length + 1) = l := by
        rw [show x ++ c :: l = (x ++ [c]) ++ l by simp, List.drop_left' (by simp)]
      have hb : ((x.length : Int) == -1) = false := by rw [beq_eq_false_iff_ne]; omega
      rw [Lib.count_hit (by simp) hi, Nat.add_comm, Lib.splitK, hi, if_neg (by rw [hb]; simp), Int.toNat_natCast]
      simp only [List.length_cons, List.length_nil, Nat.add_zero, Nat.zero_add]
      rw [hd, ih l (by simp at hs; omega), spl_cut _ hx, List.take_left]
    · rw [Lib.count_miss (index_out hc), spl_out hc]
      rfl
theorem lib_split (c : UInt8) (s : List UInt8) : Lib.split s [c] = spl c s := split_spl c _ s (Nat.le_refl _)
theorem cut_out {c : UInt8} {s : List UInt8} (h : c ∉ s) : Lib.cut s [c] = (s, [], false) := by
  unfold Lib.cut
  rw [index_out h]
  rfl
theorem cut_cut {c : UInt8} {x : List UInt8} (l : List UInt8) (h : c ∉ x) : Lib.cut (x ++ c :: l) [c] = (x, l, true) := by
  unfold Lib.cut
  rw [index_cut l h, if_pos (by omega), Int.toNat_natCast, List.take_left, show x ++ c :: l = (x ++ [c]) ++ l by simp, List.drop_left' (by simp)]
theorem trim_end (l : List UInt8) (c : UInt8) : Lib.trimSuffix (l ++ [c]) [c] = l := by
  unfold Lib.trimSuffix Lib.hasSuffix
  have : ([c].isSuffixOf (l ++ [c])) = true := by rw [List.isSuffixOf_iff_suffix]; exact ⟨l, rfl⟩
  rw [if_pos this]
  simp
/-! ### Numbers -/
def smallT (n : Nat) : List UInt8 := if n < 10 then [UInt8.ofNat (48 + n)] else [UInt8.ofNat (48 + n / 10), UInt8.ofNat (48 + n % 10)]
theorem itoa_small {n : Nat} (h : n < 100) : Lib.itoa n = smallT n := by
  unfold Lib.itoa
  rw [if_neg (by omega), Int.toNat_natCast]
  unfold smallT
  split
  · next h1 => exact Lib.decDigits_one h1
  · next h1 => exact Lib.decDigits_two h1 h
def rdI (s : List UInt8) : Option Int := match Lib.parseIntB 64 s with | .ok n => if Lib.itoa n = s then some n else none | _ => none
theorem parse_small : ∀ n : Fin 33, (match Lib.parseIntB 64 (smallT n.val) with | .ok v => decide (v = (n.val : Int)) | _ => false) = true := by decide +kernel
theorem rdI_itoa {n : Nat} (h : n < 33) : rdI (Lib.itoa n) = some (n : Int) := by
  have := parse_small ⟨n, h⟩
  dsimp only at this
  unfold rdI
  rw [itoa_small (by omega)]
  revert this
  cases Lib.parseIntB 64 (smallT n) with
  | ok v =>
    intro h2
    have e : v = (n : Int) := of_decide_eq_true h2
    subst e
    dsimp only
    rw [itoa_small (by omega), if_pos rfl]
  | _ => intro h2; simp at h2
def digB (c : UInt8) : Bool := 48 ≤ c.toNat && c.toNat ≤ 57
def valF (s : List UInt8) (n : Int) : Int := s.foldl (fun n c => 10 * n + (c.toNat - 48 : Int)) n
def valS (s : List UInt8) : Option Int := if 1 ≤ s.length ∧ s.length ≤ 12 ∧ s.all digB = true ∧ Lib.itoa (valF s 0) = s then some (valF s 0) else none
theorem val_small : ∀ n : Fin 33, (decide (1 ≤ (smallT n.val).length) && decide ((smallT n.val).length ≤ 12) && (smallT n.val).all digB && decide (valF (smallT n.val) 0 = (n.val : Int))) = true := by decide +kernel
theorem valS_itoa {n : Nat} (h : n < 33) : valS (Lib.itoa n) = some (n : Int) := by
  have := val_small ⟨n, h⟩
  simp only [Bool.and_eq_true, decide_eq_true_eq] at this
  obtain ⟨⟨⟨h1, h2⟩, h3⟩, h4⟩ := this
  unfold valS
  rw [itoa_small (by omega), h4, itoa_small (by omega), if_pos ⟨h1, h2, h3, rfl⟩]
def sgnS (s : List UInt8) : Option Int := match s with
  | 45 :: r => match valS r with | some n => if 0 < n then some (-n) else none | none => none
  | _ => valS s
theorem small_dig : ∀ n : Fin 33, (smallT n.val).all digB = true := by decide +kernel
theorem small_nn : ∀ n : Fin 33, (smallT n.val).isEmpty = false := by decide +kernel
theorem itoa_dig {n : Nat} (h : n < 33) : ∀ c ∈ Lib.itoa n, digB c = true := by
  rw [itoa_small (by omega)]
  exact List.all_eq_true.1 (small_dig ⟨n, h⟩)
theorem itoa_nn {n : Nat} (h : n < 33) : Lib.itoa n ≠ [] := by
  rw [itoa_small (by omega)]
  have := small_nn ⟨n, h⟩
  intro e
  rw [e] at this
  cases this
theorem sgnS_itoa {n : Nat} (h : n < 33) : sgnS (Lib.itoa n) = some (n : Int) := by
  have hv := valS_itoa h
  have hd := itoa_dig h
  revert hv hd
  generalize Lib.itoa n = s
  intro hv hd
  unfold sgnS
  split
  · have := hd 45 (List.mem_cons_self ..)
    simp [digB] at this
  · exact hv
/-! ### Lists that are read one by one -/
def seqO {α β : Type} (f : α → Option β) : List α → Option (List β)
  | [] => some []
  | a :: l => match f a with | none => none | some b => match seqO f l with | none => none | some t => some (b :: t)
theorem seqO_map {α β : Type} {f : α → Option β} {g : β → α} : ∀ {bs : List β}, (∀ b ∈ bs, f (g b) = some b) → seqO f (bs.map g) = some bs
  | [], _ => rfl
  | b :: bs, h => by
    rw [List.map_cons, seqO, h b (List.mem_cons_self ..), seqO_map (fun x hx => h x (List.mem_cons_of_mem _ hx))]
theorem seqO_snoc {α β : Type} {f : α → Option β} : ∀ {l : List α} {t : List β} {a : α} {b : β}, seqO f l = some t → f a = some b → seqO f (l ++ [a]) = some (t ++ [b])
  | [], t, a, b, h, h2 => by
    simp only [seqO, Option.some.injEq] at h
    subst h
    simp [seqO, h2]
  | x :: l, t, a, b, h, h2 => by
    rw [seqO] at h
    cases hx : f x with
    | none => rw [hx] at h; cases h
    | some y =>
      rw [hx] at h
      cases hl : seqO f l with
      | none => rw [hl] at h; cases h
      | some u =>
        rw [hl] at h
        simp only [Option.some.injEq] at h
        subst h
        rw [List.cons_append, seqO, hx, seqO_snoc hl h2]
        rfl
theorem seqO_bad {α β : Type} {f : α → Option β} : ∀ {l : List α} {a : α}, a ∈ l → f a = none → seqO f l = none
  | x :: l, a, h, h2 => by
    rcases List.mem_cons.1 h with rfl | h
    · rw [seqO, h2]
    · rw [seqO, seqO_bad h h2]
      cases f x <;> rfl
theorem seqO_length {α β : Type} {f : α → Option β} : ∀ {l : List α} {t : List β}, seqO f l = some t → t.length = l.length
  | [], t, h => by simp only [seqO, Option.some.injEq] at h; subst h; rfl
  | x :: l, t, h => by
    rw [seqO] at h
    cases hx : f x with
    | none => rw [hx] at h; cases h
    | some y =>
      rw [hx] at h
      cases hl : seqO f l with
      | none => rw [hl] at h; cases h
      | some u =>
        rw [hl] at h
        simp only [Option.some.injEq] at h
        subst h
        simp [seqO_length hl]
/-! ### The text of a model -/
def txNums (l : List Int) : List UInt8 := Lib.join (l.map Lib.itoa) [44]
def txTest (t : Tst) : List UInt8 := Lib.itoa t.v ++ (if t.q then 61 else 33) :: Lib.itoa t.x
def txAsg (a : Asg) : List UInt8 := Lib.itoa a.v ++ 58 :: Lib.itoa a.x
def txList (ws : List (List UInt8)) : List UInt8 := if ws = [] then [45] else Lib.join ws [38]
def txRule (r : Rul) : List UInt8 := r.nm.data.toList ++ 32 :: (txList (r.gs.map txTest) ++ 32 :: txList (r.es.map txAsg))
def txHead (m : Mdl) : List UInt8 := txNums m.sz ++ 32 :: txNums m.st
def txModel (m : Mdl) : List UInt8 := (txHead m :: m.rs.map txRule).flatMap (· ++ [10])
/-! ### What the program reads -/
def aroundI (c : UInt8) (w : List UInt8) : Option (Int × Int) := match seqO rdI (spl c w) with | some [a, b] => some (a, b) | _ => none
def testI (w : List UInt8) : Option Tst := match aroundI (if w.contains 61 then 61 else 33) w with | some (a, b) => some ⟨a, b, w.contains 61⟩ | none => none
def asgI (w : List UInt8) : Option Asg := match aroundI 58 w with | some (a, b) => some ⟨a, b⟩ | none => none
def listI (w : List UInt8) : List (List UInt8) := if w = [45] then [] else spl 38 w
def ruleI (line : List UInt8) : Option Rul := match spl 32 line with
  | [a, b, c] => match seqO testI (listI b) with
    | none => none
    | some gs => match seqO asgI (listI c) with
      | none => none
      | some es => some ⟨⟨a.toArray⟩, gs, es⟩
  | _ => none
def linesI (s : List UInt8) : List (List UInt8) := spl 10 (Lib.trimSuffix s [10])
def modelI (s : List UInt8) : Option Mdl := match seqO rdI (spl 44 (Lib.cut ((linesI s).headD []) [32]).1), seqO rdI (spl 44 (Lib.cut ((linesI s).headD []) [32]).2.1), seqO ruleI (linesI s).tail with
  | some a, some b, some rs => some ⟨a, b, rs⟩
  | _, _, _ => none
/-! ### What the reference reads -/
def signS (signs w : List UInt8) : UInt8 := w.foldl (fun s c => if signs.contains c then c else s) 0
def pairS (signs w : List UInt8) : Option (Int × Int × UInt8) := if signS signs w = 0 then none else match spl (signS signs w) w with
  | [x, y] => match valS x with | none => none | some a => match valS y with | none => none | some b => some (a, b, signS signs w)
  | _ => none
def pairsS (signs s : List UInt8) : Option (List (Int × Int × UInt8)) := if s = [45] then some [] else seqO (pairS signs) (spl 38 s)
def ruleS (line : List UInt8) : Option Rul := match spl 32 line with
  | [a, b, c] => match pairsS [61, 33] b with
    | none => none
    | some g => match pairsS [58] c with
      | none => none
      | some e => some ⟨⟨a.toArray⟩, g.map fun p => ⟨p.1, p.2.1, p.2.2 == 61⟩, e.map fun p => ⟨p.1, p.2.1⟩⟩
  | _ => none
def modelS (s : List UInt8) : Option Mdl := match spl 32 ((spl 10 s).headD []) with
  | [x, y] => match seqO sgnS (spl 44 x), seqO sgnS (spl 44 y), seqO ruleS ((spl 10 s).tail.dropLast) with
    | some a, some b, some rs => some ⟨a, b, rs⟩
    | _, _, _ => none
  | _ => none
end Go.Proofs.YtgpmglfcdbpgkaaGreatDoor

/- A valid model is read from its text, by the program's reader and by the reference's. No condition. -/
namespace Go.Proofs.YtgpmglfcdbpgkaaGreatDoor
open Go.RowKit

def SmI (z : Int) : Prop := 0 ≤ z ∧ z ≤ 32
theorem sm_nat {z : Int} (h : SmI z) : ∃ n : Nat, z = n ∧ n < 33 := ⟨z.toNat, by have := h.1; omega, by have := h.1; have := h.2; omega⟩
theorem rdI_sm {z : Int} (h : SmI z) : rdI (Lib.itoa z) = some z := by obtain ⟨n, rfl, hn⟩ := sm_nat h; exact rdI_itoa hn
theorem valS_sm {z : Int} (h : SmI z) : valS (Lib.itoa z) = some z := by obtain ⟨n, rfl, hn⟩ := sm_nat h; exact valS_itoa hn
theorem sgnS_sm {z : Int} (h : SmI z) : sgnS (Lib.itoa z) = some z := by obtain ⟨n, rfl, hn⟩ := sm_nat h; exact sgnS_itoa hn
theorem dig_sm {z : Int} (h : SmI z) : ∀ c ∈ Lib.itoa z, digB c = true := by obtain ⟨n, rfl, hn⟩ := sm_nat h; exact itoa_dig hn
theorem nn_sm {z : Int} (h : SmI z) : Lib.itoa z ≠ [] := by obtain ⟨n, rfl, hn⟩ := sm_nat h; exact itoa_nn hn
theorem not_dig {z : Int} (h : SmI z) {c : UInt8} (hc : digB c = false) : c ∉ Lib.itoa z := fun hm => by
  rw [dig_sm h c hm] at hc
  cases hc
theorem join_all {p : UInt8 → Bool} {sep : List UInt8} (hs : ∀ c ∈ sep, p c = true) : ∀ {ws : List (List UInt8)}, (∀ w ∈ ws, ∀ c ∈ w, p c = true) → ∀ c ∈ Lib.join ws sep, p c = true
  | [], _, c, hc => by rw [Lib.join_nil] at hc; cases hc
  | x :: r, hw, c, hc => by
    rw [Lib.join_cons, List.mem_append] at hc
    rcases hc with hc | hc
    · exact hw x (List.mem_cons_self ..) c hc
    · unfold Lib.joinTail at hc
      obtain ⟨l, hl, hcl⟩ := List.mem_flatten.1 hc
      obtain ⟨y, hy, rfl⟩ := List.mem_map.1 hl
      rcases List.mem_append.1 hcl with hcl | hcl
      · exact hs c hcl
      · exact hw y (List.mem_cons_of_mem _ hy) c hcl
theorem nums_all {p : UInt8 → Bool} (hp : ∀ c, digB c = true → p c = true) (h44 : p 44 = true) {l : List Int} (h : ∀ z ∈ l, SmI z) : ∀ c ∈ txNums l, p c = true := by
  refine join_all (by simpa using h44) fun w hw c hc => ?_
  obtain ⟨z, hz, rfl⟩ := List.mem_map.1 hw
  exact hp c (dig_sm (h z hz) c hc)
theorem nums_spl {l : List Int} (hne : l ≠ []) (h : ∀ z ∈ l, SmI z) : spl 44 (txNums l) = l.map Lib.itoa := by
  refine spl_join (by simpa using hne) fun w hw => ?_
  obtain ⟨z, hz, rfl⟩ := List.mem_map.1 hw
  exact not_dig (h z hz) (by decide)
/-- A test, an assignment as they are written: in range. -/
def TstS (t : Tst) : Prop := SmI t.v ∧ SmI t.x
def AsgS (a : Asg) : Prop := SmI a.v ∧ SmI a.x
theorem pair_spl {c : UInt8} {a b : Int} (ha : SmI a) (hb : SmI b) (hc : digB c = false) : spl c (Lib.itoa a ++ c :: Lib.itoa b) = [Lib.itoa a, Lib.itoa b] := by
  rw [spl_cut _ (not_dig ha hc), spl_out (not_dig hb hc)]
theorem aroundI_pair {c : UInt8} {a b : Int} (ha : SmI a) (hb : SmI b) (hc : digB c = false) : aroundI c (Lib.itoa a ++ c :: Lib.itoa b) = some (a, b) := by
  unfold aroundI
  rw [pair_spl ha hb hc]
  simp [seqO, rdI_sm ha, rdI_sm hb]
theorem test_has {t : Tst} (h : TstS t) : (txTest t).contains 61 = t.q := by
  obtain ⟨v, x, q⟩ := t
  have h1 := not_dig h.1 (c := 61) (by decide)
  have h2 := not_dig h.2 (c := 61) (by decide)
  dsimp only at h1 h2
  unfold txTest
  cases q <;> simp [h1, h2]
theorem testI_tx {t : Tst} (h : TstS t) : testI (txTest t) = some t := by
  have hq := test_has h
  unfold testI
  rw [hq]
  obtain ⟨v, x, q⟩ := t
  have : aroundI (if q = true then 61 else 33) (txTest ⟨v, x, q⟩) = some (v, x) := aroundI_pair h.1 h.2 (by cases q <;> decide)
  dsimp only
  rw [this]
theorem asgI_tx {a : Asg} (h : AsgS a) : asgI (txAsg a) = some a := by
  unfold asgI
  have : aroundI 58 (txAsg a) = some (a.v, a.x) := aroundI_pair h.1 h.2 (by decide)
  rw [this]
/-- A word of a list: it begins with a digit, and no & stands in it. -/
def WordL (w : List UInt8) : Prop := (∃ c t, w = c :: t ∧ digB c = true) ∧ (38 : UInt8) ∉ w
theorem word_tst {t : Tst} (h : TstS t) : WordL (txTest t) := by
  obtain ⟨v, x, q⟩ := t
  have hn := nn_sm h.1
  have hd := dig_sm h.1
  have h1 := not_dig h.1 (c := 38) (by decide)
  have h2 := not_dig h.2 (c := 38) (by decide)
  dsimp only at hn hd h1 h2
  unfold txTest WordL
  dsimp only
  refine ⟨?_, ?_⟩
  · cases hv : Lib.itoa v with
    | nil => exact absurd hv hn
    | cons c t => exact ⟨c, _, rfl, hd c (by rw [hv]; exact List.mem_cons_self ..)⟩
  · cases q <;> simp [h1, h2]
theorem word_asg {t : Asg} (h : AsgS t) : WordL (txAsg t) := by
  obtain ⟨v, x⟩ := t
  have hn := nn_sm h.1
  have hd := dig_sm h.1
  have h1 := not_dig h.1 (c := 38) (by decide)
  have h2 := not_dig h.2 (c := 38) (by decide)
  dsimp only at hn hd h1 h2
  unfold txAsg WordL
  dsimp only
  refine ⟨?_, ?_⟩
  · cases hv : Lib.itoa v with
    | nil => exact absurd hv hn
    | cons c t => exact ⟨c, _, rfl, hd c (by rw [hv]; exact List.mem_cons_self ..)⟩
  · simp [h1, h2]
theorem list_ne {ws : List (List UInt8)} (hne : ws ≠ []) (h : ∀ w ∈ ws, WordL w) : Lib.join ws [38] ≠ [45] := by
  match ws, hne with
  | x :: r, _ =>
    obtain ⟨⟨c, t, rfl, hc⟩, _⟩ := h x (List.mem_cons_self ..)
    rw [Lib.join_cons, List.cons_append]
    intro e
    have : c = 45 := by injection e
    subst this
    exact absurd hc (by decide)
theorem txList_ne {ws : List (List UInt8)} (hne : ws ≠ []) (h : ∀ w ∈ ws, WordL w) : txList ws ≠ [45] ∧ spl 38 (txList ws) = ws := by
  unfold txList
  rw [if_neg hne]
  exact ⟨list_ne hne h, spl_join hne fun w hw => (h w hw).2⟩
theorem listI_tx {ws : List (List UInt8)} (h : ∀ w ∈ ws, WordL w) : listI (txList ws) = ws := by
  by_cases hne : ws = []
  · subst hne; rfl
  · have := txList_ne hne h
    unfold listI
    rw [if_neg this.1, this.2]
/-- The bytes of a list of tests or assignments: no space, no end of line. -/
def midB (c : UInt8) : Bool := digB c || c == 61 || c == 33 || c == 58 || c == 38 || c == 45
theorem mid_dig {c : UInt8} (h : digB c = true) : midB c = true := by unfold midB; rw [h]; rfl
theorem txList_all {ws : List (List UInt8)} (h : ∀ w ∈ ws, ∀ c ∈ w, midB c = true) : ∀ c ∈ txList ws, midB c = true := by
  unfold txList
  split
  · intro c hc; simp at hc; subst hc; decide
  · exact join_all (by intro c hc; simp at hc; subst hc; decide) h
theorem test_all {t : Tst} (h : TstS t) : ∀ c ∈ txTest t, midB c = true := by
  intro c hc
  unfold txTest at hc
  rcases List.mem_append.1 hc with hc | hc
  · exact mid_dig (dig_sm h.1 c hc)
  · rcases List.mem_cons.1 hc with rfl | hc
    · split <;> decide
    · exact mid_dig (dig_sm h.2 c hc)
theorem asg_all {t : Asg} (h : AsgS t) : ∀ c ∈ txAsg t, midB c = true := by
  intro c hc
  unfold txAsg at hc
  rcases List.mem_append.1 hc with hc | hc
  · exact mid_dig (dig_sm h.1 c hc)
  · rcases List.mem_cons.1 hc with rfl | hc
    · decide
    · exact mid_dig (dig_sm h.2 c hc)
/-- A rule as it is written: in range. -/
structure RulS (r : Rul) : Prop where
  nm : ∀ c ∈ r.nm.data.toList, wb c = true
  gs : ∀ t ∈ r.gs, TstS t
  es : ∀ a ∈ r.es, AsgS a
theorem wb_no {s : List UInt8} (h : ∀ c ∈ s, wb c = true) {c : UInt8} (hc : wb c = false) : c ∉ s := fun hm => by rw [h c hm] at hc; cases hc
theorem mid_no {s : List UInt8} (h : ∀ c ∈ s, midB c = true) {c : UInt8} (hc : midB c = false) : c ∉ s := fun hm => by rw [h c hm] at hc; cases hc
theorem gs_all {r : Rul} (h : RulS r) : ∀ c ∈ txList (r.gs.map txTest), midB c = true := txList_all fun w hw => by
  obtain ⟨t, ht, rfl⟩ := List.mem_map.1 hw
  exact test_all (h.gs t ht)
theorem es_all {r : Rul} (h : RulS r) : ∀ c ∈ txList (r.es.map txAsg), midB c = true := txList_all fun w hw => by
  obtain ⟨t, ht, rfl⟩ := List.mem_map.1 hw
  exact asg_all (h.es t ht)
theorem rule_spl {r : Rul} (h : RulS r) : spl 32 (txRule r) = [r.nm.data.toList, txList (r.gs.map txTest), txList (r.es.map txAsg)] := by
  unfold txRule
  rw [spl_cut _ (wb_no h.nm (by decide)), spl_cut _ (mid_no (gs_all h) (by decide)), spl_out (mid_no (es_all h) (by decide))]
theorem name_back (s : ByteArray) : (⟨s.data.toList.toArray⟩ : ByteArray) = s := by
  cases s; simp
theorem ruleI_tx {r : Rul} (h : RulS r) : ruleI (txRule r) = some r := by
  have h1 : listI (txList (r.gs.map txTest)) = r.gs.map txTest := listI_tx fun w hw => by
    obtain ⟨t, ht, rfl⟩ := List.mem_map.1 hw
    exact word_tst (h.gs t ht)
  have h2 : listI (txList (r.es.map txAsg)) = r.es.map txAsg := listI_tx fun w hw => by
    obtain ⟨t, ht, rfl⟩ := List.mem_map.1 hw
    exact word_asg (h.es t ht)
  have h3 : seqO testI (r.gs.map txTest) = some r.gs := seqO_map fun t ht => testI_tx (h.gs t ht)
  have h4 : seqO asgI (r.es.map txAsg) = some r.es := seqO_map fun t ht => asgI_tx (h.es t ht)
  unfold ruleI
  rw [rule_spl h]
  dsimp only
  rw [h1, h3]
  dsimp only
  rw [h2, h4]
theorem rule_no10 {r : Rul} (h : RulS r) : (10 : UInt8) ∉ txRule r := by
  intro hm
  unfold txRule at hm
  rcases List.mem_append.1 hm with hm | hm
  · exact wb_no h.nm (by decide) hm
  · rcases List.mem_cons.1 hm with hm | hm
    · exact absurd hm (by decide)
    · rcases List.mem_append.1 hm with hm | hm
      · exact mid_no (gs_all h) (by decide) hm
      · rcases List.mem_cons.1 hm with hm | hm
        · exact absurd hm (by decide)
        · exact mid_no (es_all h) (by decide) hm
/-- A model as it is written: in range. -/
structure MdlS (m : Mdl) : Prop where
  sz : ∀ z ∈ m.sz, SmI z
  st : ∀ z ∈ m.st, SmI z
  szn : m.sz ≠ []
  stn : m.st ≠ []
  rs : ∀ r ∈ m.rs, RulS r
def numB (c : UInt8) : Bool := digB c || c == 44
theorem nums_numB {l : List Int} (h : ∀ z ∈ l, SmI z) : ∀ c ∈ txNums l, numB c = true := nums_all (fun c hc => by unfold numB; rw [hc]; rfl) (by decide) h
theorem num_no {s : List UInt8} (h : ∀ c ∈ s, numB c = true) {c : UInt8} (hc : numB c = false) : c ∉ s := fun hm => by rw [h c hm] at hc; cases hc
theorem head_no10 {m : Mdl} (h : MdlS m) : (10 : UInt8) ∉ txHead m := by
  intro hm
  unfold txHead at hm
  rcases List.mem_append.1 hm with hm | hm
  · exact num_no (nums_numB h.sz) (by decide) hm
  · rcases List.mem_cons.1 hm with hm | hm
    · exact absurd hm (by decide)
    · exact num_no (nums_numB h.st) (by decide) hm
theorem lines_no10 {m : Mdl} (h : MdlS m) : ∀ w ∈ txHead m :: m.rs.map txRule, (10 : UInt8) ∉ w := by
  intro w hw
  rcases List.mem_cons.1 hw with rfl | hw
  · exact head_no10 h
  · obtain ⟨r, hr, rfl⟩ := List.mem_map.1 hw
    exact rule_no10 (h.rs r hr)
theorem modelI_tx {m : Mdl} (h : MdlS m) : modelI (txModel m) = some m := by
  have hl : linesI (txModel m) = txHead m :: m.rs.map txRule := by
    unfold linesI txModel
    rw [lines_join, trim_end, spl_join (by simp) (lines_no10 h)]
  have h1 : seqO rdI (spl 44 (txNums m.sz)) = some m.sz := by rw [nums_spl h.szn h.sz]; exact seqO_map fun z hz => rdI_sm (h.sz z hz)
  have h2 : seqO rdI (spl 44 (txNums m.st)) = some m.st := by rw [nums_spl h.stn h.st]; exact seqO_map fun z hz => rdI_sm (h.st z hz)
  have h3 : seqO ruleI (m.rs.map txRule) = some m.rs := seqO_map fun r hr => ruleI_tx (h.rs r hr)
  unfold modelI
  rw [hl, List.headD_cons, List.tail_cons, show txHead m = txNums m.sz ++ 32 :: txNums m.st from rfl, cut_cut _ (num_no (nums_numB h.sz) (by decide))]
  dsimp only
  rw [h1, h2, h3]
/-! ### The reference's reader -/
theorem fold_out {signs : List UInt8} : ∀ {w : List UInt8} (s : UInt8), (∀ c ∈ w, signs.contains c = false) → w.foldl (fun s c => if signs.contains c then c else s) s = s
  | [], _, _ => rfl
  | c :: w, s, h => by
    rw [List.foldl_cons, h c (List.mem_cons_self ..), if_neg (by decide)]
    exact fold_out s fun d hd => h d (List.mem_cons_of_mem _ hd)
theorem sign_pair {signs : List UInt8} {c : UInt8} {a b : Int} (ha : SmI a) (hb : SmI b) (hd : ∀ d, digB d = true → signs.contains d = false) (hc : signs.contains c = true) : signS signs (Lib.itoa a ++ c :: Lib.itoa b) = c := by
  unfold signS
  rw [List.foldl_append, fold_out 0 (fun d h => hd d (dig_sm ha d h)), List.foldl_cons, if_pos hc, fold_out c (fun d h => hd d (dig_sm hb d h))]
theorem pairS_pair {signs : List UInt8} {c : UInt8} {a b : Int} (ha : SmI a) (hb : SmI b) (hd : ∀ d, digB d = true → signs.contains d = false) (hc : signs.contains c = true) (h0 : c ≠ 0) (hcd : digB c = false) : pairS signs (Lib.itoa a ++ c :: Lib.itoa b) = some (a, b, c) := by
  unfold pairS
  rw [sign_pair ha hb hd hc, if_neg h0, pair_spl ha hb hcd]
  dsimp only
  rw [valS_sm ha]
  dsimp only
  rw [valS_sm hb]
theorem dig_signs : ∀ n : Fin 256, digB (UInt8.ofNat n.val) = true → ([61, 33] : List UInt8).contains (UInt8.ofNat n.val) = false ∧ ([58] : List UInt8).contains (UInt8.ofNat n.val) = false := by decide +kernel
theorem dig_s1 (d : UInt8) (h : digB d = true) : ([61, 33] : List UInt8).contains d = false := by
  have := dig_signs ⟨d.toNat, d.toNat_lt⟩
  simp only [UInt8.ofNat_toNat] at this
  exact (this h).1
theorem dig_s2 (d : UInt8) (h : digB d = true) : ([58] : List UInt8).contains d = false := by
  have := dig_signs ⟨d.toNat, d.toNat_lt⟩
  simp only [UInt8.ofNat_toNat] at this
  exact (this h).2
theorem seqO_map2 {α β γ : Type} {f : α → Option γ} {g : β → α} {k : β → γ} : ∀ {bs : List β}, (∀ b ∈ bs, f (g b) = some (k b)) → seqO f (bs.map g) = some (bs.map k)
  | [], _ => rfl
  | b :: bs, h => by
    rw [List.map_cons, seqO, h b (List.mem_cons_self ..), seqO_map2 (fun x hx => h x (List.mem_cons_of_mem _ hx))]
    rfl
theorem pairsS_tx {signs : List UInt8} {ws : List (List UInt8)} {ps : List (Int × Int × UInt8)} (h : ∀ w ∈ ws, WordL w) (hp : seqO (pairS signs) ws = some ps) : pairsS signs (txList ws) = some ps := by
  by_cases hne : ws = []
  · subst hne
    simp only [seqO, Option.some.injEq] at hp
    subst hp
    rfl
  · have := txList_ne hne h
    unfold pairsS
    rw [if_neg this.1, this.2, hp]
theorem ruleS_tx {r : Rul} (h : RulS r) : ruleS (txRule r) = some r := by
  have h1 : pairsS [61, 33] (txList (r.gs.map txTest)) = some (r.gs.map fun t => (t.v, t.x, if t.q then (61 : UInt8) else 33)) := by
    refine pairsS_tx (fun w hw => ?_) (seqO_map2 fun t ht => ?_)
    · obtain ⟨t, ht, rfl⟩ := List.mem_map.1 hw
      exact word_tst (h.gs t ht)
    · exact pairS_pair (h.gs t ht).1 (h.gs t ht).2 dig_s1 (by split <;> decide) (by split <;> decide) (by split <;> decide)
  have h2 : pairsS [58] (txList (r.es.map txAsg)) = some (r.es.map fun t => (t.v, t.x, (58 : UInt8))) := by
    refine pairsS_tx (fun w hw => ?_) (seqO_map2 fun t ht => ?_)
    · obtain ⟨t, ht, rfl⟩ := List.mem_map.1 hw
      exact word_asg (h.es t ht)
    · exact pairS_pair (h.es t ht).1 (h.es t ht).2 dig_s2 (by decide) (by decide) (by decide)
  unfold ruleS
  rw [rule_spl h]
  dsimp only
  rw [h1]
  dsimp only
  rw [h2]
  dsimp only
  rw [name_back]
  have e1 : (r.gs.map fun t => (t.v, t.x, if t.q then (61 : UInt8) else 33)).map (fun p => (⟨p.1, p.2.1, p.2.2 == 61⟩ : Tst)) = r.gs := by
    rw [List.map_map]
    refine (List.map_congr_left fun t _ => ?_).trans (List.map_id _)
    obtain ⟨v, x, q⟩ := t
    cases q <;> rfl
  have e2 : (r.es.map fun t => (t.v, t.x, (58 : UInt8))).map (fun p => (⟨p.1, p.2.1⟩ : Asg)) = r.es := by
    rw [List.map_map]
    exact (List.map_congr_left fun t _ => rfl).trans (List.map_id _)
  rw [e1, e2]
theorem modelS_tx {m : Mdl} (h : MdlS m) : modelS (txModel m) = some m := by
  have hl : spl 10 (txModel m) = (txHead m :: m.rs.map txRule) ++ [[]] := spl_lines (lines_no10 h)
  have h1 : seqO sgnS (spl 44 (txNums m.sz)) = some m.sz := by rw [nums_spl h.szn h.sz]; exact seqO_map fun z hz => sgnS_sm (h.sz z hz)
  have h2 : seqO sgnS (spl 44 (txNums m.st)) = some m.st := by rw [nums_spl h.stn h.st]; exact seqO_map fun z hz => sgnS_sm (h.st z hz)
  have h3 : seqO ruleS (m.rs.map txRule) = some m.rs := seqO_map fun r hr => ruleS_tx (h.rs r hr)
  unfold modelS
  rw [hl, List.cons_append, List.headD_cons, List.tail_cons, List.dropLast_concat, show txHead m = txNums m.sz ++ 32 :: txNums m.st from rfl, spl_cut _ (num_no (nums_numB h.sz) (by decide)), spl_out (num_no (nums_numB h.st) (by decide))]
  dsimp only
  rw [h1, h2, h3]
/-! ### A valid model is in range -/
theorem has_sm {sz : List Int} {v x : Int} (hn : sz.length ≤ 16) (hz : ∀ z ∈ sz, z ≤ 32) (h : hasB sz v x = true) : SmI v ∧ SmI x := by
  unfold hasB inB at h
  simp only [Bool.and_eq_true, decide_eq_true_eq] at h
  obtain ⟨⟨h1, h2⟩, h3, h4⟩ := h
  have hlt : v.toNat < sz.length := by omega
  have := hz _ (List.getElem_mem hlt)
  rw [List.getD_eq_getElem?_getD, List.getElem?_eq_getElem hlt, Option.getD_some] at h4
  exact ⟨⟨h1, by omega⟩, ⟨h3, by omega⟩⟩
theorem valid_S {m : Mdl} (h : mdB m = true) : MdlS m := by
  unfold mdB at h
  simp only [Bool.and_eq_true, decide_eq_true_eq] at h
  obtain ⟨h1, h2, h3, h4, h5⟩ := h
  have hz : ∀ z ∈ m.sz, 1 ≤ z ∧ z ≤ 32 := by
    intro z hz
    unfold szB at h1
    rw [Bool.not_eq_true', List.any_eq_false] at h1
    have := h1 z hz
    simp only [Bool.not_eq_true, Bool.not_eq_false'] at this
    exact of_decide_eq_true this
  have hl := of_decide_eq_true h2
  have hs : m.st.length = m.sz.length ∧ ∀ i, i < m.st.length → inB (m.st.getD i 0) 0 (m.sz.getD i 0 - 1) = true := by
    unfold stB stK at h3
    simp only [Bool.and_eq_true, decide_eq_true_eq, List.all_eq_true, List.mem_range] at h3
    exact h3
  refine ⟨fun z h => ⟨by have := (hz z h).1; omega, (hz z h).2⟩, fun z h => ?_, fun e => by rw [e] at hl; simp at hl, fun e => by have := hs.1; rw [e] at this; simp at this; omega, fun r hr => ?_⟩
  · obtain ⟨i, hi, rfl⟩ := List.getElem_of_mem h
    have := of_decide_eq_true (hs.2 i hi)
    have hi2 : i < m.sz.length := by omega
    have hb := (hz _ (List.getElem_mem hi2)).2
    rw [List.getD_eq_getElem?_getD, List.getElem?_eq_getElem hi, Option.getD_some, List.getD_eq_getElem?_getD, List.getElem?_eq_getElem hi2, Option.getD_some] at this
    exact ⟨this.1, by omega⟩
  · have hr1 : rlB m.sz r = true := by
      unfold rsB at h5
      rw [Bool.not_eq_true', List.any_eq_false] at h5
      have := h5 r hr
      simpa using this
    unfold rlB at hr1
    simp only [Bool.and_eq_true, decide_eq_true_eq] at hr1
    obtain ⟨k1, k2, k3, k4⟩ := hr1
    have hn16 : m.sz.length ≤ 16 := by omega
    refine ⟨?_, fun t ht => ?_, fun a ha => ?_⟩
    · unfold nmB at k2
      simp only [Bool.and_eq_true] at k2
      exact List.all_eq_true.1 k2.2
    · unfold tsB tsK at k3
      simp only [Bool.and_eq_true] at k3
      exact has_sm hn16 (fun z h => (hz z h).2) (List.all_eq_true.1 k3.1 t ht)
    · obtain ⟨i, hi, rfl⟩ := List.getElem_of_mem ha
      unfold esK at k1
      have := List.all_eq_true.1 k1 i (List.mem_range.2 hi)
      unfold esS at this
      simp only [Bool.and_eq_true] at this
      have h1 := has_sm hn16 (fun z h => (hz z h).2) this.1
      rw [List.getD_eq_getElem?_getD, List.getElem?_eq_getElem hi, Option.getD_some] at h1
      exact h1
/-- Both readers agree on the texts of valid models, and what they read else is no such text. -/
theorem readers {s : List UInt8} {m : Mdl} (h : mdB m = true) (ht : txModel m = s) : modelI s = some m ∧ modelS s = some m := by
  subst ht
  exact ⟨modelI_tx (valid_S h), modelS_tx (valid_S h)⟩
def readM (s : List UInt8) : Option Mdl := match modelI s with | some m => if mdB m = true ∧ txModel m = s then some m else none | none => none
theorem readM_S (s : List UInt8) : readM s = match modelS s with | some m => if mdB m = true ∧ txModel m = s then some m else none | none => none := by
  unfold readM
  cases hI : modelI s with
  | none =>
    cases hS : modelS s with
    | none => rfl
    | some m =>
      dsimp only
      rw [if_neg]
      rintro ⟨h1, h2⟩
      rw [(readers h1 h2).1] at hI
      cases hI
  | some m =>
    dsimp only
    by_cases h : mdB m = true ∧ txModel m = s
    · rw [if_pos h, (readers h.1 h.2).2]
      dsimp only
      rw [if_pos h]
    · rw [if_neg h]
      cases hS : modelS s with
      | none => rfl
      | some m' =>
        dsimp only
        rw [if_neg]
        rintro ⟨h1, h2⟩
        have := (readers h1 h2).1
        rw [hI] at this
        simp only [Option.some.injEq] at this
        subst this
        exact h ⟨h1, h2⟩
theorem txModel_ne (m : Mdl) : txModel m ≠ [] := by
  unfold txModel
  simp
end Go.Proofs.YtgpmglfcdbpgkaaGreatDoor

/- Numbers in decimal, on the reference's side. Condition: the number is not negative. -/
namespace Go.Proofs.YtgpmglfcdbpgkaaGreatDoor
open Go.RowKit

section
variable {P : Program} {l : List Oper} {Q : Exit → Act → World → Prop} {md : Region.Mode} {S : World → Prop} {fuel : Nat} {listed : Array Bool} {a : Act} {w : World}
theorem rg_twoT {oi oj : Oper} (i j : Nat) (hi : nthO l i = some oi) (hj : nthO l j = some oj) (hr : Region.ready md l.toArray listed = [i, j]) (hwi : Region.wanted oi (yielded l.toArray a.tmps) = true) (hwj : Region.wanted oj (yielded l.toArray a.tmps) = true)
    (h : ∀ K' : Act → World → Prop, Shut (∀ a w, S w → (S w → wpAnyH P md l.toArray Q S fuel (listed.setIfInBounds i true) a w) → K' a w) → Oper.wp P oi a w K' Q)
    (h' : ∀ K' : Act → World → Prop, Shut (∀ a w, S w → (S w → wpAnyH P md l.toArray Q S fuel (listed.setIfInBounds j true) a w) → K' a w) → Oper.wp P oj a w K' Q) : wpAnyH P md l.toArray Q S (fuel + 1) listed a w :=
  wpAnyH_ready hr (by simp) (AllReadyH.cons (nthO_get hi) (fun K hK => by rw [if_pos hwi]; exact h K hK) (AllReadyH.cons (nthO_get hj) (fun K hK => by rw [if_pos hwj]; exact h' K hK) AllReadyH.nil))
end
def RetStr (L : List UInt8) (w : World) (e : Ending) (w' : World) : Prop := ∃ s : ByteArray, e = .returned (.string s) ∧ s.data.toList = L ∧ Below w.heap.size w w'
theorem run_conv1 (w : World) (b : Nat) (x : UInt8) (hc : w.cell? ⟨b, 0, none⟩ = some (.int .u8 x.toNat)) : (convert 31 9 (.slice (some ⟨b, 0, none⟩) 1 1)).run Tryz.prog w = .ok (.string ⟨#[x]⟩) w :=
  run_convert_bytes_back w 31 9 5 ⟨b, 0, none⟩ 1 [x] Tryz.underlying31 Tryz.underlying5 Tryz.underlying9 (fun j hj => by
    obtain rfl : j = 0 := by simpa using hj
    simpa [Addr.add] using hc)
theorem dig_nat {n : Nat} (h : n < 10) : (UInt8.ofNat (48 + n)).toNat = 48 + n := by
  rw [UInt8.toNat_ofNat']
  exact Nat.mod_eq_of_lt (by omega)
theorem add_str (a b : ByteArray) (h : a.size + b.size ≤ 9223372036854775807) (w : World) : (Op.stringOp .add a b).run Tryz.prog w = .ok (.string (a ++ b)) w := run_string_add_sum w a b h
theorem app_list (a b : ByteArray) : (a ++ b).data.toList = a.data.toList ++ b.data.toList := by simp [ByteArray.data_append]
set_option maxRecDepth 100000 in
theorem c_l01Dec1 (n : Nat) (hn : n < 10) (w : World) : Calls Tryz.prog 54 #[.int .i64 n] w (RetStr (Lib.decDigits n) w) := by
  have h1 : ((n : Int) < 10) := by omega
  have hw : IntKind.i64.wrap (48 + (n : Int)) = 48 + n := IntWalk.i64_in _ (by omega)
  have hw2 : IntKind.u8.wrap (48 + (n : Int)) = 48 + n := by
    unfold IntKind.wrap; simp [IntKind.bits, IntKind.signed]; omega
  obtain ⟨x, hx, hxn⟩ : ∃ x : UInt8, UInt8.ofNat (48 + n) = x ∧ x.toNat = 48 + n := ⟨_, rfl, dig_nat hn⟩
  have hcv := run_conv1 (w.alloc (.cells #[.int .u8 (48 + (n : Int))] 5)) w.heap.size x (by rw [hxn]; go_simp)
  have HX := Lib.hid hx
  clear hx hxn
  go_enter Tryz.func54, Tryz.ntmps54
  go_wp2_with (fail)
  go_ret
  exact ⟨_, rfl, by rw [Lib.decDigits_one hn, HX.out], by (repeat (first | exact Below.refl _ _ | assumption | refine below_alloc ?_ _ | refine below_drewN ?_ _ | refine below_set ?_ _ (by simp; try omega) | refine Below.drew ?_))⟩
theorem dec_step {n q r : Nat} (hq : q = n / 10) (hr : r = n % 10) (hn : ¬ n < 10) : Lib.decDigits n = Lib.decDigits q ++ [UInt8.ofNat (48 + r)] := by
  subst hq hr
  rw [Lib.decDigits, dif_neg hn]
theorem dec_len : ∀ (k n : Nat), n < 10 ^ (k + 1) → (Lib.decDigits n).length ≤ k + 1
  | 0, n, h => by rw [Lib.decDigits_one (by omega)]; simp
  | k + 1, n, h => by
    by_cases hn : n < 10
    · rw [Lib.decDigits_one hn]; simp
    · rw [dec_step rfl rfl hn, List.length_append]
      have := dec_len k (n / 10) (by rw [Nat.pow_succ] at h; omega)
      simp
      omega
theorem size_list {s : ByteArray} {L : List UInt8} (h : s.data.toList = L) : s.size = L.length := by rw [Lib.size_eq, h]
set_option maxRecDepth 100000 in
theorem c_l01Dec : ∀ (n : Nat), n < 1000000000000000000 → ∀ w : World, Calls Tryz.prog 54 #[.int .i64 n] w (RetStr (Lib.decDigits n) w) := by
  intro n
  induction n using Nat.strongRecOn with
  | _ n ih =>
    intro hb w
    by_cases hn : n < 10
    · exact c_l01Dec1 n hn w
    obtain ⟨q, hq⟩ : ∃ q, q = n / 10 := ⟨_, rfl⟩
    obtain ⟨r, hr⟩ : ∃ r, r = n % 10 := ⟨_, rfl⟩
    have hD := dec_step hq hr hn
    rw [hD]
    have h1 : ¬ ((n : Int) < 10) := by omega
    have hlq := dec_len 17 q (by omega)
    have IH := Lib.hid (ih q (by omega) (by omega))
    have hr10 : r < 10 := by omega
    have hw1 : IntKind.i64.wrap ((n : Int) / 10) = (q : Int) := by rw [IntWalk.i64_in _ (by omega)]; omega
    have ht : (n : Int).tmod 10 = (r : Int) := by rw [Int.tmod_eq_emod_of_nonneg (by omega)]; omega
    clear ih hD hq hr
    have hw3 : IntKind.i64.wrap (48 + (r : Int)) = 48 + r := IntWalk.i64_in _ (by omega)
    have hw4 : IntKind.u8.wrap (48 + (r : Int)) = 48 + r := by
      unfold IntKind.wrap; simp [IntKind.bits, IntKind.signed]; omega
    obtain ⟨x, hx, hxn⟩ : ∃ x : UInt8, UInt8.ofNat (48 + r) = x ∧ x.toNat = 48 + r := ⟨_, rfl, dig_nat hr10⟩
    rw [hx]
    have hcv : ∀ (w' : World) (b : Nat), w'.cell? ⟨b, 0, none⟩ = some (.int .u8 (48 + (r : Int))) → (convert 31 9 (.slice (some ⟨b, 0, none⟩) 1 1)).run Tryz.prog w' = .ok (.string ⟨#[x]⟩) w' := fun w' b hc => run_conv1 w' b x (by rw [hxn]; exact hc)
    have HCV := Lib.hid hcv
    clear hcv hx hxn
    go_enter Tryz.func54, Tryz.ntmps54
    go_wp2_with (fail)
    refine wp_region_held_drew (S := (fun _ => True)) (by kernel_rfl) ?_ (fun hHeld => ?_)
    · exact trivial
    refine rg_take (v := ?_) 0 rfl (by kernel_rfl) (by kernel_rfl) (by kernel_rfl) (fun _ _ _ h => h) (by kernel_rfl) ?_ (by assumption) ?_
    rotate_left
    · (intro w' hSw; (try dsimp only at hSw); go_simp; first | done | with_reducible rfl)
    simp only [Act.put, List.setIfInBounds_toArray, List.set_cons_zero, List.set_cons_succ]
    refine rg_take (v := ?_) 1 rfl (by kernel_rfl) (by kernel_rfl) (by kernel_rfl) (fun _ _ _ h => h) (by kernel_rfl) ?_ (by assumption) ?_
    rotate_left
    · (intro w' hSw; (try dsimp only at hSw); go_simp; first | done | with_reducible rfl)
    simp only [Act.put, List.setIfInBounds_toArray, List.set_cons_zero, List.set_cons_succ]
    refine rg_take (v := ?_) 3 rfl (by kernel_rfl) (by kernel_rfl) (by kernel_rfl) (fun _ _ _ h => h) (by kernel_rfl) ?_ (by assumption) ?_
    rotate_left
    · (intro w' hSw; (try dsimp only at hSw); go_simp; first | done | with_reducible rfl)
    simp only [Act.put, List.setIfInBounds_toArray, List.set_cons_zero, List.set_cons_succ]
    refine rg_take (v := ?_) 4 rfl (by kernel_rfl) (by kernel_rfl) (by kernel_rfl) (fun _ _ _ h => h) (by kernel_rfl) ?_ (by assumption) ?_
    rotate_left
    · (intro w' hSw; (try dsimp only at hSw); go_simp; first | done | with_reducible rfl)
    simp only [Act.put, List.setIfInBounds_toArray, List.set_cons_zero, List.set_cons_succ]
    refine rg_take (v := ?_) 5 rfl (by kernel_rfl) (by kernel_rfl) (by kernel_rfl) (fun _ _ _ h => h) (by kernel_rfl) ?_ (by assumption) ?_
    rotate_left
    · (intro w' hSw; (try dsimp only at hSw); go_simp; first | done | with_reducible rfl)
    simp only [Act.put, List.setIfInBounds_toArray, List.set_cons_zero, List.set_cons_succ]
    refine rg_take (v := ?_) 6 rfl (by kernel_rfl) (by kernel_rfl) (by kernel_rfl) (fun _ _ _ h => h) (by kernel_rfl) ?_ (by assumption) ?_
    rotate_left
    · (intro w' hSw; (try dsimp only at hSw); go_simp; first | done | with_reducible rfl)
    simp only [Act.put, List.setIfInBounds_toArray, List.set_cons_zero, List.set_cons_succ]
    refine rg_twoT 2 7 rfl rfl (by kernel_rfl) (by kernel_rfl) (by kernel_rfl) (fun K hK => ?_) (fun K hK => ?_)
    · go_simp
      refine (IH.out _).mono ?_
      rintro e w2 ⟨s, rfl, hs, hb2⟩
      have HB2 := Lib.hid (below_chain (by exact (Below.refl w.heap.size w).drew) hb2)
      have hsz := size_list hs
      have HS := Lib.hid hs
      clear hb2 hs
      have hc8 := HCV.out (w2.alloc (.cells #[.int .u8 (48 + (r : Int))] 5)) w2.heap.size (by go_simp)
      have had := add_str s ⟨#[x]⟩ (by rw [hsz]; simp [ByteArray.size]; omega)
      go_wp2
      clear hHeld
      refine hK.out _ _ trivial (fun hHeld => ?_)
      clear hK K
      try simp only [Act.put, List.setIfInBounds_toArray, List.set_cons_zero, List.set_cons_succ]
      refine rg_run 7 rfl (by kernel_rfl) (by kernel_rfl) (fun K hK => ?_)
      go_simp
      clear hHeld
      refine hK.out _ _ trivial (fun hHeld => ?_)
      clear hK K
      try simp only [Act.put, List.setIfInBounds_toArray, List.set_cons_zero, List.set_cons_succ]
      refine rg_run 8 rfl (by kernel_rfl) (by kernel_rfl) (fun K hK => ?_)
      go_simp
      clear hHeld
      refine hK.out _ _ trivial (fun hHeld => ?_)
      clear hK K
      try simp only [Act.put, List.setIfInBounds_toArray, List.set_cons_zero, List.set_cons_succ]
      refine rg_take (v := ?_) 9 rfl (by kernel_rfl) (by kernel_rfl) (by kernel_rfl) (fun _ _ _ h => h) (by kernel_rfl) ?_ (by assumption) ?_
      rotate_left
      · (intro w' hSw; (try dsimp only at hSw); go_simp; first | done | with_reducible rfl)
      simp only [Act.put, List.setIfInBounds_toArray, List.set_cons_zero, List.set_cons_succ]
      refine rg_take (v := ?_) 10 rfl (by kernel_rfl) (by kernel_rfl) (by kernel_rfl) (fun _ _ _ h => h) (by kernel_rfl) ?_ (by assumption) ?_
      rotate_left
      · (intro w' hSw; (try dsimp only at hSw); go_simp; first | done | with_reducible rfl)
      simp only [Act.put, List.setIfInBounds_toArray, List.set_cons_zero, List.set_cons_succ]
      refine wpAnyH_done (by kernel_rfl) ?_ _
      clear hHeld
      go_wp2_with (fail)
      go_ret
      exact ⟨_, rfl, by rw [app_list, HS.out], by have HB := HB2.out; (repeat (first | exact Below.refl _ _ | assumption | refine below_alloc ?_ _ | refine below_drewN ?_ _ | refine below_set ?_ _ (by simp; try omega) | refine Below.drew ?_))⟩
    · go_simp
      clear hHeld
      refine hK.out _ _ trivial (fun hHeld => ?_)
      clear hK K
      try simp only [Act.put, List.setIfInBounds_toArray, List.set_cons_zero, List.set_cons_succ]
      obtain ⟨W1, hW1⟩ : ∃ W1, (w.alloc (.cells #[.int .u8 (48 + (r : Int))] 5)).drew = W1 := ⟨_, rfl⟩
      have hc1 : W1.cell? ⟨w.heap.size, 0, none⟩ = some (.int .u8 (48 + (r : Int))) := by subst hW1; go_simp
      have HB1 : Hid (Below w.heap.size w W1) := Lib.hid (by subst hW1; (repeat (first | exact Below.refl _ _ | assumption | refine below_alloc ?_ _ | refine below_drewN ?_ _ | refine below_set ?_ _ (by simp; try omega) | refine Below.drew ?_)))
      rw [hW1]
      clear hW1
      refine rg_twoT 2 8 rfl rfl (by kernel_rfl) (by kernel_rfl) (by kernel_rfl) (fun K hK => ?_) (fun K hK => ?_)
      · go_simp
        refine (IH.out _).mono ?_
        rintro e w2 ⟨s, rfl, hs, hb2⟩
        have hsz := size_list hs
        have HS := Lib.hid hs
        have HB2 := Lib.hid (below_chain HB1.out hb2)
        have hc8 := HCV.out w2 w.heap.size (cell_later hb2 hc1)
        have had := add_str s ⟨#[x]⟩ (by rw [hsz]; simp [ByteArray.size]; omega)
        clear hb2 hs hc1
        go_wp2
        clear hHeld
        refine hK.out _ _ trivial (fun hHeld => ?_)
        clear hK K
        try simp only [Act.put, List.setIfInBounds_toArray, List.set_cons_zero, List.set_cons_succ]
        refine rg_run 8 rfl (by kernel_rfl) (by kernel_rfl) (fun K hK => ?_)
        go_simp
        clear hHeld
        refine hK.out _ _ trivial (fun hHeld => ?_)
        clear hK K
        try simp only [Act.put, List.setIfInBounds_toArray, List.set_cons_zero, List.set_cons_succ]
        refine rg_take (v := ?_) 9 rfl (by kernel_rfl) (by kernel_rfl) (by kernel_rfl) (fun _ _ _ h => h) (by kernel_rfl) ?_ (by assumption) ?_
        rotate_left
        · (intro w' hSw; (try dsimp only at hSw); go_simp; first | done | with_reducible rfl)
        simp only [Act.put, List.setIfInBounds_toArray, List.set_cons_zero, List.set_cons_succ]
        refine rg_take (v := ?_) 10 rfl (by kernel_rfl) (by kernel_rfl) (by kernel_rfl) (fun _ _ _ h => h) (by kernel_rfl) ?_ (by assumption) ?_
        rotate_left
        · (intro w' hSw; (try dsimp only at hSw); go_simp; first | done | with_reducible rfl)
        simp only [Act.put, List.setIfInBounds_toArray, List.set_cons_zero, List.set_cons_succ]
        refine wpAnyH_done (by kernel_rfl) ?_ _
        clear hHeld
        go_wp2_with (fail)
        go_ret
        exact ⟨_, rfl, by rw [app_list, HS.out], HB2.out⟩
      · have hc8 := HCV.out W1 w.heap.size hc1
        go_simp
        clear hHeld
        refine hK.out _ _ trivial (fun hHeld => ?_)
        clear hK K
        try simp only [Act.put, List.setIfInBounds_toArray, List.set_cons_zero, List.set_cons_succ]
        refine rg_run 2 rfl (by kernel_rfl) (by kernel_rfl) (fun K hK => ?_)
        go_simp
        refine (IH.out _).mono ?_
        rintro e w2 ⟨s, rfl, hs, hb2⟩
        have hsz := size_list hs
        have HS := Lib.hid hs
        have HB2 := Lib.hid (below_chain HB1.out hb2)
        have had := add_str s ⟨#[x]⟩ (by rw [hsz]; simp [ByteArray.size]; omega)
        clear hb2 hs hc1 hc8
        go_wp2
        clear hHeld
        refine hK.out _ _ trivial (fun hHeld => ?_)
        clear hK K
        try simp only [Act.put, List.setIfInBounds_toArray, List.set_cons_zero, List.set_cons_succ]
        refine rg_take (v := ?_) 9 rfl (by kernel_rfl) (by kernel_rfl) (by kernel_rfl) (fun _ _ _ h => h) (by kernel_rfl) ?_ (by assumption) ?_
        rotate_left
        · (intro w' hSw; (try dsimp only at hSw); go_simp; first | done | with_reducible rfl)
        simp only [Act.put, List.setIfInBounds_toArray, List.set_cons_zero, List.set_cons_succ]
        refine rg_take (v := ?_) 10 rfl (by kernel_rfl) (by kernel_rfl) (by kernel_rfl) (fun _ _ _ h => h) (by kernel_rfl) ?_ (by assumption) ?_
        rotate_left
        · (intro w' hSw; (try dsimp only at hSw); go_simp; first | done | with_reducible rfl)
        simp only [Act.put, List.setIfInBounds_toArray, List.set_cons_zero, List.set_cons_succ]
        refine wpAnyH_done (by kernel_rfl) ?_ _
        clear hHeld
        go_wp2_with (fail)
        go_ret
        exact ⟨_, rfl, by rw [app_list, HS.out], HB2.out⟩
end Go.Proofs.YtgpmglfcdbpgkaaGreatDoor

/- Lists of numbers and of tests as texts, on the reference's side. Condition: the numbers are those of a valid model. -/
namespace Go.Proofs.YtgpmglfcdbpgkaaGreatDoor
open Go.RowKit

theorem itoa_nat (n : Nat) : Lib.itoa n = Lib.decDigits n := by
  unfold Lib.itoa
  rw [if_neg (by omega), Int.toNat_natCast]
theorem c_l01DecS (z : Int) (hz : SmI z) (w : World) : Calls Tryz.prog 54 #[.int .i64 z] w (RetStr (Lib.itoa z) w) := by
  obtain ⟨n, rfl, hn⟩ := sm_nat hz
  rw [itoa_nat]
  exact c_l01Dec n (by omega) w
theorem itoa_len {z : Int} (hz : SmI z) : (Lib.itoa z).length ≤ 2 := by
  obtain ⟨n, rfl, hn⟩ := sm_nat hz
  rw [itoa_nat]
  exact dec_len 1 n (by omega)
/-- One more word. -/
theorem join_snoc (sep x : List UInt8) : ∀ {ws : List (List UInt8)}, ws ≠ [] → Lib.join (ws ++ [x]) sep = Lib.join ws sep ++ sep ++ x
  | w :: ws, _ => by
    rw [List.cons_append, Lib.join_cons, Lib.join_cons]
    simp [Lib.joinTail]
theorem join_len {sep : List UInt8} {m : Nat} : ∀ {ws : List (List UInt8)}, (∀ w ∈ ws, w.length ≤ m) → (Lib.join ws sep).length ≤ (m + sep.length) * ws.length
  | [], _ => by simp [Lib.join_nil]
  | w :: ws, h => by
    rw [Lib.join_cons, List.length_append]
    have h1 := h w (List.mem_cons_self ..)
    have h2 : (Lib.joinTail sep ws).length ≤ (m + sep.length) * ws.length := by
      rw [Lib.joinTail_length]
      have : Lib.lens ws ≤ m * ws.length := by
        clear h1
        induction ws with
        | nil => simp [Lib.lens]
        | cons y r ih =>
          have h1 := h y (List.mem_cons_of_mem _ (List.mem_cons_self ..))
          have h2 := ih (fun v hv => h v (by rcases List.mem_cons.1 hv with rfl | hv; exact List.mem_cons_self ..; exact List.mem_cons_of_mem _ (List.mem_cons_of_mem _ hv)))
          simp only [Lib.lens, List.map_cons, List.sum_cons, List.length_cons, Nat.mul_succ] at h2 ⊢
          omega
      rw [Nat.add_mul]
      omega
    rw [List.length_cons, Nat.mul_succ]
    omega
theorem nums_step {l : List Int} {k : Nat} {z : Int} (hz : l[k]? = some z) : txNums (l.take (k + 1)) = if k = 0 then Lib.itoa z else txNums (l.take k) ++ [44] ++ Lib.itoa z := by
  unfold txNums
  have hk := (List.getElem?_eq_some_iff.1 hz).1
  rw [List.take_add_one, hz]
  simp only [Option.toList_some, List.map_append, List.map_cons, List.map_nil]
  by_cases h0 : k = 0
  · subst h0
    rw [if_pos rfl]
    simp [Lib.join_one]
  · rw [if_neg h0, join_snoc]
    intro e
    have : (List.map Lib.itoa (l.take k)).length = 0 := by rw [e]; rfl
    rw [List.length_map, List.length_take] at this
    omega
theorem nums_len {l : List Int} (h : ∀ z ∈ l, SmI z) (k : Nat) : (txNums (l.take k)).length ≤ 3 * k := by
  have := join_len (sep := [44]) (m := 2) (ws := (l.take k).map Lib.itoa) (fun w hw => by
    obtain ⟨z, hz, rfl⟩ := List.mem_map.1 hw
    exact itoa_len (h z (List.mem_of_mem_take hz)))
  simp only [List.length_map, List.length_take, List.length_cons, List.length_nil] at this
  unfold txNums
  exact Nat.le_trans this (Nat.mul_le_mul (by decide) (Nat.min_le_left ..))
set_option maxHeartbeats 1000000 in
set_option maxRecDepth 100000 in
theorem c_l20List (A : Option Addr) (c n : Nat) (l : List Int) (w : World) (hn : n = l.length) (hs : n ≤ 1048576) (hl : ∀ z ∈ l, SmI z) (hr : Rd w A (ints l)) :
    Calls Tryz.prog 53 #[.slice A n c] w (RetStr (txNums l) w) := by
  have HN := Lib.hid hn
  have HL := Lib.hid hl
  have HR := Lib.hid hr
  clear hn hl hr
  go_enter Tryz.func53, Tryz.ntmps53
  go_wp2_with (fail)
  go_loopw [3, 4] (fun o i wr => ∃ (k : Nat) (s : ByteArray), k ≤ n ∧ i = .int .i64 k ∧ o = .string s ∧ Hid (s.data.toList = txNums (l.take k)) ∧ s.size ≤ 3 * k ∧ Hid (Below w.heap.size w wr)) (fun _ i _ => n - (intOf i).toNat)
  case atStart => exact ⟨0, ⟨#[]⟩, Nat.zero_le _, rfl, rfl, Lib.hid rfl, Nat.le_refl _, Lib.hid (Below.refl _ _)⟩
  case round =>
    obtain ⟨k, s, hk, rfl, rfl, hS, hsz, hb⟩ := hrel
    by_cases hlt : k < n
    · obtain ⟨z, hz⟩ : ∃ z, l[k]? = some z := ⟨_, List.getElem?_eq_getElem (by have := HN.out; omega)⟩
      have HSM := Lib.hid (HL.out z (List.mem_of_getElem? hz))
      have HST := Lib.hid (nums_step hz)
      have HLN := Lib.hid (nums_len HL.out (k + 1))
      obtain ⟨b, off, rfl, _, g0⟩ := (HR.out.below hb.out).int hz
      have hk0 : (0 : Int) ≤ (k : Int) := by omega
      have hk1 : (k : Int) < (n : Int) := by omega
      clear hz
      by_cases h0 : k = 0
      · subst h0
        simp only [Nat.add_zero] at g0
        have hs0 : s = ⟨#[]⟩ := by
          have := hS.out
          apply ByteArray.ext
          apply Array.ext'
          rw [this]; rfl
        subst hs0
        go_wp2_with (fail)
        refine (c_l01DecS z HSM.out _).mono ?_
        rintro e w2 ⟨s2, rfl, hs2, hb2⟩
        have HB2 := Lib.hid (below_chain hb.out hb2)
        have HZ2 := Lib.hid (size_list hs2)
        have HS2 := Lib.hid hs2
        have had := add_str ⟨#[]⟩ s2 (by rw [HZ2.out]; have := itoa_len HSM.out; have : (⟨#[]⟩ : ByteArray).size = 0 := rfl; omega)
        clear hb2 hs2 hb
        go_wp2_with (fail)
        go_roundw
        case rel =>
          refine ⟨1, _, by omega, by go_num, rfl, Lib.hid ?_, ?_, HB2⟩
          · rw [app_list, HS2.out, HST.out]; rfl
          · have := itoa_len HSM.out
            rw [Lib.size_eq, app_list, HS2.out]; simp; omega
        case measure => simp [intOf]; omega
      · have hkp : (0 : Int) < (k : Int) := by omega
        have had1 := add_str s ⟨#[44]⟩ (by have : (⟨#[44]⟩ : ByteArray).size = 1 := rfl; omega)
        go_wp2_with (fail)
        refine (c_l01DecS z HSM.out _).mono ?_
        rintro e w2 ⟨s2, rfl, hs2, hb2⟩
        have HB2 := Lib.hid (below_chain hb.out hb2)
        have HZ2 := Lib.hid (size_list hs2)
        have HS2 := Lib.hid hs2
        have had := add_str (s ++ ⟨#[44]⟩) s2 (by rw [HZ2.out, ByteArray.size_append']; have := itoa_len HSM.out; have : (⟨#[44]⟩ : ByteArray).size = 1 := rfl; omega)
        clear hb2 hs2 hb
        go_wp2_with (fail)
        go_roundw
        case rel =>
          refine ⟨k + 1, _, by omega, by go_num, rfl, Lib.hid ?_, ?_, HB2⟩
          · rw [app_list, app_list, HS2.out, HST.out, if_neg h0, hS.out]
          · have := itoa_len HSM.out
            rw [ByteArray.size_append', ByteArray.size_append', HZ2.out]
            have : (⟨#[44]⟩ : ByteArray).size = 1 := rfl
            omega
        case measure => simp [intOf]; omega
    · obtain rfl : k = n := by omega
      go_wp2_with (fail)
      go_ret
      exact ⟨_, rfl, by rw [hS.out, List.take_of_length_le (by have := HN.out; omega)], hb.out⟩
end Go.Proofs.YtgpmglfcdbpgkaaGreatDoor

/- Tests as texts, on the reference's side. Condition: the numbers are those of a valid model. -/
namespace Go.Proofs.YtgpmglfcdbpgkaaGreatDoor
open Go.RowKit

theorem joinm_step {α : Type} (f : α → List UInt8) (sep : List UInt8) {l : List α} {k : Nat} {z : α} (hz : l[k]? = some z) : Lib.join ((l.take (k + 1)).map f) sep = if k = 0 then f z else Lib.join ((l.take k).map f) sep ++ sep ++ f z := by
  have hk := (List.getElem?_eq_some_iff.1 hz).1
  rw [List.take_add_one, hz]
  simp only [Option.toList_some, List.map_append, List.map_cons, List.map_nil]
  by_cases h0 : k = 0
  · subst h0
    rw [if_pos rfl]
    simp [Lib.join_one]
  · rw [if_neg h0, join_snoc]
    intro e
    have : (List.map f (l.take k)).length = 0 := by rw [e]; rfl
    rw [List.length_map, List.length_take] at this
    omega
theorem test_len {t : Tst} (h : TstS t) : (txTest t).length ≤ 5 := by
  have h1 := itoa_len h.1
  have h2 := itoa_len h.2
  unfold txTest
  simp
  omega
theorem asg_len {t : Asg} (h : AsgS t) : (txAsg t).length ≤ 5 := by
  have h1 := itoa_len h.1
  have h2 := itoa_len h.2
  unfold txAsg
  simp
  omega
theorem nil_list {s : ByteArray} (h : s.data.toList = []) : s = ⟨#[]⟩ := by
  apply ByteArray.ext
  apply Array.ext'
  rw [h]
theorem isE {s : ByteArray} {c : UInt8} {t : List UInt8} (h : s.data.toList = c :: t) : s.toList.isEmpty = false := by
  rw [Lib.toList_data, h]
  rfl
theorem join_head {ws : List (List UInt8)} (hne : ws ≠ []) (h : ∀ w ∈ ws, WordL w) (sep : List UInt8) : ∃ c t, Lib.join ws sep = c :: t := by
  match ws, hne with
  | x :: r, _ =>
    obtain ⟨⟨c, t, rfl, _⟩, _⟩ := h x (List.mem_cons_self ..)
    rw [Lib.join_cons, List.cons_append]
    exact ⟨_, _, rfl⟩
def sgB (q : Bool) : ByteArray := if q then ⟨#[61]⟩ else ⟨#[33]⟩
theorem sgB_size (q : Bool) : (sgB q).size = 1 := by cases q <;> rfl
theorem sgB_list (q : Bool) : (sgB q).data.toList = [if q then 61 else 33] := by cases q <;> rfl
set_option maxHeartbeats 2000000 in
set_option maxRecDepth 100000 in
theorem c_l20TestsText (A : Option Addr) (c n : Nat) (l : List Tst) (w : World) (hn : n = l.length) (hs : n ≤ 1048576) (hl : ∀ t ∈ l, TstS t) (hr : Rd w A (tstCells l)) :
    Calls Tryz.prog 55 #[.slice A n c] w (RetStr (txList (l.map txTest)) w) := by
  have HN := Lib.hid hn
  have HL := Lib.hid hl
  have HR := Lib.hid hr
  clear hn hl hr
  go_enter Tryz.func55, Tryz.ntmps55
  go_wp2_with (fail)
  go_loopw [3, 4, 5] (fun o i _ wr => ∃ (k : Nat) (s : ByteArray), k ≤ n ∧ i = .int .i64 k ∧ o = .string s ∧ Hid (s.data.toList = Lib.join ((l.take k).map txTest) [38]) ∧ s.size ≤ 6 * k ∧ Hid (Below w.heap.size w wr)) (fun _ i _ _ => n - (intOf i).toNat)
  case atStart => exact ⟨0, ⟨#[]⟩, Nat.zero_le _, rfl, rfl, Lib.hid rfl, Nat.le_refl _, Lib.hid (Below.refl _ _)⟩
  case round =>
    obtain ⟨k, s, hk, rfl, rfl, hS, hsz, HB⟩ := hrel
    by_cases hlt : k < n
    · obtain ⟨z, hz⟩ : ∃ z, l[k]? = some z := ⟨_, List.getElem?_eq_getElem (by have := HN.out; omega)⟩
      have HSM := Lib.hid (HL.out z (List.mem_of_getElem? hz))
      have HST := Lib.hid (joinm_step txTest [38] hz)
      obtain ⟨b, off, rfl, _, g0, g1, g2⟩ := (HR.out.below HB.out).tst hz
      have hl1 := itoa_len HSM.out.1
      have hl2 := itoa_len HSM.out.2
      have hk0 : (0 : Int) ≤ (k : Int) := by omega
      have hk1 : (k : Int) < (n : Int) := by omega
      clear hz
      obtain ⟨v, x, q⟩ := z
      dsimp only at g0 g1 g2 hl1 hl2
      have hq1 := sgB_size q
      -- what is there behind the sign between words
      obtain ⟨s0, hs0, hs0z, hs0l⟩ : ∃ s0 : ByteArray, s0 = (if k = 0 then s else s ++ ⟨#[38]⟩) ∧ s0.size ≤ 6 * k + 1 ∧ s0.data.toList ++ txTest ⟨v, x, q⟩ = Lib.join ((l.take (k + 1)).map txTest) [38] := by
        refine ⟨_, rfl, ?_, ?_⟩
        · split
          · omega
          · rw [ByteArray.size_append']
            have : (⟨#[38]⟩ : ByteArray).size = 1 := rfl
            omega
        · rw [HST.out]
          split
          · next h0 =>
            subst h0
            rw [hS.out]
            rfl
          · rw [app_list, hS.out]
      have HS0 := Lib.hid hs0l
      have had0 := add_str s ⟨#[38]⟩ (by have : (⟨#[38]⟩ : ByteArray).size = 1 := rfl; omega)
      clear hs0l HST
      go_upto_if 13 with (fail)
      go_cut [3] from 13 to 15 (fun v wx => v = .string s0 ∧ wx = wr)
      case first =>
        by_cases h0 : k = 0
        · subst h0
          rw [if_pos rfl] at hs0
          subst hs0
          go_wp2_with (fail)
          go_meet
          case rel => exact ⟨rfl, rfl⟩
        · have hkp : (0 : Int) < (k : Int) := by omega
          rw [if_neg h0] at hs0
          subst hs0
          go_wp2_with (fail)
          go_meet
          case rel => exact ⟨rfl, rfl⟩
      case rest =>
        obtain ⟨rfl, hwc⟩ := hcut
        obtain rfl : wr = wc := hwc.symm
        clear had0 hs0 hS hsz
        go_upto_if 20 with (fail)
        go_cut [5] from 20 to 20 (fun v wx => v = .string (sgB q) ∧ wx = wr)
        case first =>
          cases q
          · go_wp2_with (fail)
            go_meet
            case rel => exact ⟨rfl, rfl⟩
          · go_wp2_with (fail)
            go_meet
            case rel => exact ⟨rfl, rfl⟩
        case rest =>
          obtain ⟨rfl, hwc⟩ := hcut
          obtain rfl : wr = wc := hwc.symm
          have HSG := Lib.hid (sgB_list q)
          generalize sgB q = sg at *
          go_wp2_with (fail)
          refine wp_region_held_drew (S := (fun w' => w'.cell? ⟨b, off + k * 3, none⟩ = some (.int .i64 v) ∧ w'.cell? ⟨b, off + k * 3 + 1, none⟩ = some (.int .i64 x))) (by kernel_rfl) ?_ (fun hHeld => ?_)
          · exact ⟨g0, g1⟩
          refine rg_take (v := ?_) 0 rfl (by kernel_rfl) (by kernel_rfl) (by kernel_rfl) (fun _ _ _ h => h) (by kernel_rfl) ?_ (by assumption) ?_
          rotate_left
          · (intro w' hSw; (try dsimp only at hSw); go_simp; first | done | with_reducible rfl)
          simp only [Act.put, List.setIfInBounds_toArray, List.set_cons_zero, List.set_cons_succ]
          refine rg_take (v := ?_) 1 rfl (by kernel_rfl) (by kernel_rfl) (by kernel_rfl) (fun _ _ _ h => h) (by kernel_rfl) ?_ (by assumption) ?_
          rotate_left
          · (intro w' hSw; (try dsimp only at hSw); go_simp; first | done | with_reducible rfl)
          simp only [Act.put, List.setIfInBounds_toArray, List.set_cons_zero, List.set_cons_succ]
          refine rg_take (v := ?_) 2 rfl (by kernel_rfl) (by kernel_rfl) (by kernel_rfl) (fun _ _ _ h => h) (by kernel_rfl) ?_ (by assumption) ?_
          rotate_left
          · (intro w' hSw; (try dsimp only at hSw); go_simp; first | done | with_reducible rfl)
          simp only [Act.put, List.setIfInBounds_toArray, List.set_cons_zero, List.set_cons_succ]
          refine rg_take (v := ?_) 3 rfl (by kernel_rfl) (by kernel_rfl) (by kernel_rfl) (fun _ _ _ h => h) (by kernel_rfl) ?_ (by assumption) ?_
          rotate_left
          · (intro w' hSw; (try dsimp only at hSw); go_simp; first | done | with_reducible rfl)
          simp only [Act.put, List.setIfInBounds_toArray, List.set_cons_zero, List.set_cons_succ]
          refine rg_take (v := ?_) 4 rfl (by kernel_rfl) (by kernel_rfl) (by kernel_rfl) (fun _ _ _ h => h) (by kernel_rfl) ?_ (by assumption) ?_
          rotate_left
          · (intro w' hSw; (try dsimp only at hSw); go_simp; first | done | with_reducible rfl)
          simp only [Act.put, List.setIfInBounds_toArray, List.set_cons_zero, List.set_cons_succ]
          refine rg_take (v := ?_) 5 rfl (by kernel_rfl) (by kernel_rfl) (by kernel_rfl) (fun _ _ _ h => h) (by kernel_rfl) ?_ (by assumption) ?_
          rotate_left
          · (intro w' hSw; (try dsimp only at hSw); go_simp; first | done | with_reducible rfl)
          simp only [Act.put, List.setIfInBounds_toArray, List.set_cons_zero, List.set_cons_succ]
          refine rg_take (v := ?_) 8 rfl (by kernel_rfl) (by kernel_rfl) (by kernel_rfl) (fun _ _ _ h => h) (by kernel_rfl) ?_ (by assumption) ?_
          rotate_left
          · (intro w' hSw; (try dsimp only at hSw); go_simp; first | done | with_reducible rfl)
          simp only [Act.put, List.setIfInBounds_toArray, List.set_cons_zero, List.set_cons_succ]
          refine rg_take (v := ?_) 10 rfl (by kernel_rfl) (by kernel_rfl) (by kernel_rfl) (fun _ _ _ h => h) (by kernel_rfl) ?_ (by assumption) ?_
          rotate_left
          · (intro w' hSw; (try dsimp only at hSw); go_simp; first | done | with_reducible rfl)
          simp only [Act.put, List.setIfInBounds_toArray, List.set_cons_zero, List.set_cons_succ]
          refine rg_take (v := ?_) 11 rfl (by kernel_rfl) (by kernel_rfl) (by kernel_rfl) (fun _ _ _ h => h) (by kernel_rfl) ?_ (by assumption) ?_
          rotate_left
          · (intro w' hSw; (try dsimp only at hSw); go_simp; first | done | with_reducible rfl)
          simp only [Act.put, List.setIfInBounds_toArray, List.set_cons_zero, List.set_cons_succ]
          refine rg_take (v := ?_) 12 rfl (by kernel_rfl) (by kernel_rfl) (by kernel_rfl) (fun _ _ _ h => h) (by kernel_rfl) ?_ (by assumption) ?_
          rotate_left
          · (intro w' hSw; (try dsimp only at hSw); go_simp; first | done | with_reducible rfl)
          simp only [Act.put, List.setIfInBounds_toArray, List.set_cons_zero, List.set_cons_succ]
          refine rg_take (v := ?_) 13 rfl (by kernel_rfl) (by kernel_rfl) (by kernel_rfl) (fun _ _ _ h => h) (by kernel_rfl) ?_ (by assumption) ?_
          rotate_left
          · (intro w' hSw; (try dsimp only at hSw); go_simp; first | done | with_reducible rfl)
          simp only [Act.put, List.setIfInBounds_toArray, List.set_cons_zero, List.set_cons_succ]
          refine rg_take (v := ?_) 14 rfl (by kernel_rfl) (by kernel_rfl) (by kernel_rfl) (fun _ _ _ h => h) (by kernel_rfl) ?_ (by assumption) ?_
          rotate_left
          · (intro w' hSw; (try dsimp only at hSw); go_simp; first | done | with_reducible rfl)
          simp only [Act.put, List.setIfInBounds_toArray, List.set_cons_zero, List.set_cons_succ]
          refine rg_run 6 rfl (by kernel_rfl) (by kernel_rfl) (fun K hK => ?_)
          go_simp
          refine (c_l01DecS v HSM.out.1 _).mono ?_
          rintro e wA ⟨sI, rfl, hsI, hb⟩
          replace g0 := cell_later hb (by exact g0)
          replace g1 := cell_later hb (by exact g1)
          have HB1 := Lib.hid (below_chain (by exact HB.out.drew) hb)
          have hzI := size_list hsI
          have HSI := Lib.hid hsI
          clear hb hsI
          have had1 := add_str s0 sI (by rw [hzI]; omega)
          have hz1 : (s0 ++ sI).size ≤ 6 * k + 3 := by rw [ByteArray.size_append', hzI]; omega
          have had2 := add_str (s0 ++ sI) sg (by omega)
          have hz2 : (s0 ++ sI ++ sg).size ≤ 6 * k + 4 := by rw [ByteArray.size_append']; omega
          go_wp2
          clear hHeld
          refine hK.out _ _ (by exact ⟨g0, g1⟩) (fun hHeld => ?_)
          clear hK K
          try simp only [Act.put, List.setIfInBounds_toArray, List.set_cons_zero, List.set_cons_succ]
          refine rg_take (v := ?_) 7 rfl (by kernel_rfl) (by kernel_rfl) (by kernel_rfl) (fun _ _ _ h => h) (by kernel_rfl) ?_ (by assumption) ?_
          rotate_left
          · (intro w' hSw; (try dsimp only at hSw); go_simp; first | done | with_reducible rfl)
          simp only [Act.put, List.setIfInBounds_toArray, List.set_cons_zero, List.set_cons_succ]
          refine rg_take (v := ?_) 9 rfl (by kernel_rfl) (by kernel_rfl) (by kernel_rfl) (fun _ _ _ h => h) (by kernel_rfl) ?_ (by assumption) ?_
          rotate_left
          · (intro w' hSw; (try dsimp only at hSw); go_simp; first | done | with_reducible rfl)
          simp only [Act.put, List.setIfInBounds_toArray, List.set_cons_zero, List.set_cons_succ]
          refine rg_run 15 rfl (by kernel_rfl) (by kernel_rfl) (fun K hK => ?_)
          go_simp
          refine (c_l01DecS x HSM.out.2 _).mono ?_
          rintro e wB ⟨sJ, rfl, hsJ, hb⟩
          replace g0 := cell_later hb (by exact g0)
          replace g1 := cell_later hb (by exact g1)
          have HB2 := Lib.hid (below_chain HB1.out hb)
          have hzJ := size_list hsJ
          have HSJ := Lib.hid hsJ
          clear hb hsJ
          have had3 := add_str (s0 ++ sI ++ sg) sJ (by rw [hzJ]; omega)
          have HZ3 : Hid ((s0 ++ sI ++ sg ++ sJ).size ≤ 6 * (k + 1)) := Lib.hid (by rw [ByteArray.size_append', hzJ]; omega)
          have HL3 : Hid ((s0 ++ sI ++ sg ++ sJ).data.toList = Lib.join ((l.take (k + 1)).map txTest) [38]) := Lib.hid (by rw [app_list, app_list, app_list, HSI.out, HSG.out, HSJ.out, ← HS0.out]; unfold txTest; simp)
          go_wp2
          clear hHeld
          refine hK.out _ _ (by exact ⟨g0, g1⟩) (fun hHeld => ?_)
          clear hK K
          try simp only [Act.put, List.setIfInBounds_toArray, List.set_cons_zero, List.set_cons_succ]
          refine rg_take (v := ?_) 16 rfl (by kernel_rfl) (by kernel_rfl) (by kernel_rfl) (fun _ _ _ h => h) (by kernel_rfl) ?_ (by assumption) ?_
          rotate_left
          · (intro w' hSw; (try dsimp only at hSw); go_simp; first | done | with_reducible rfl)
          simp only [Act.put, List.setIfInBounds_toArray, List.set_cons_zero, List.set_cons_succ]
          refine rg_take (v := ?_) 17 rfl (by kernel_rfl) (by kernel_rfl) (by kernel_rfl) (fun _ _ _ h => h) (by kernel_rfl) ?_ (by assumption) ?_
          rotate_left
          · (intro w' hSw; (try dsimp only at hSw); go_simp; first | done | with_reducible rfl)
          simp only [Act.put, List.setIfInBounds_toArray, List.set_cons_zero, List.set_cons_succ]
          refine wpAnyH_done (by kernel_rfl) ?_ _
          clear hHeld
          clear had1 had2 had3 hz1 hz2
          go_wp2_with (fail)
          go_roundw
          case rel => exact ⟨k + 1, _, by omega, by go_num, rfl, HL3, HZ3.out, HB2⟩
          case measure => simp [intOf]; omega
    · obtain rfl : k = n := by omega
      have hE : l.take k = l := List.take_of_length_le (by have := HN.out; omega)
      rw [hE] at hS
      by_cases h0 : k = 0
      · have hl0 : l = [] := List.eq_nil_of_length_eq_zero (by have := HN.out; omega)
        have hs0 : s = ⟨#[]⟩ := nil_list (by rw [hS.out, hl0]; rfl)
        subst hs0
        have HV : Hid (txList (l.map txTest) = [45]) := Lib.hid (by rw [hl0]; rfl)
        clear hE hl0
        go_wp2_with (fail)
        go_ret
        exact ⟨_, rfl, by rw [HV.out], HB.out⟩
      · have hl0 : l.map txTest ≠ [] := by
          intro e
          have : (l.map txTest).length = 0 := by rw [e]; rfl
          rw [List.length_map, ← HN.out] at this
          exact h0 this
        obtain ⟨c0, t0, hj⟩ := join_head hl0 (fun w hw => by obtain ⟨t, ht, rfl⟩ := List.mem_map.1 hw; exact word_tst (HL.out t ht)) [38]
        have hem := isE (hS.out.trans hj)
        have HV : Hid (txList (l.map txTest) = Lib.join (l.map txTest) [38]) := Lib.hid (by unfold txList; rw [if_neg hl0])
        clear hE hj hl0
        go_wp2_with (fail)
        go_ret
        exact ⟨_, rfl, by rw [HV.out, hS.out], HB.out⟩
end Go.Proofs.YtgpmglfcdbpgkaaGreatDoor
