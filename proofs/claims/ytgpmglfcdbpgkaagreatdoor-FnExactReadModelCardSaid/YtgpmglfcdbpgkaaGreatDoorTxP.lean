/- The texts of models, plain: the pieces between bytes; numbers; the text of a model; what is read from a text; that a valid model is read from its text. No condition. -/
import Derived.Test.YtgpmglfcdbpgkaaGreatDoorMIsP
import Derived.Lib.Split
import Derived.Lib.Join
import Derived.Lib.ItoaNum
import Derived.Lib.ParseIntB
import Derived.Lib.CountLaws
namespace Go.Proofs.YtgpmglfcdbpgkaaGreatDoor
open Go.RowKit

/-- The pieces between the bytes c. -/
def spl (c : UInt8) : List UInt8 → List (List UInt8)
  | [] => [[]]
  | b :: l => if b = c then [] :: spl c l else (b :: (spl c l).headD []) :: (spl c l).tail
theorem spl_ne (c : UInt8) (l : List UInt8) : spl c l ≠ [] := by
  cases l with
  | nil => simp [spl]
  | cons b l => unfold spl; split <;> simp
theorem spl_out {c : UInt8} : ∀ {l : List UInt8}, c ∉ l → spl c l = [l]
  | [], _ => rfl
  | b :: l, h => by
    have hb : b ≠ c := fun e => h (by rw [e]; exact List.mem_cons_self ..)
    unfold spl
    rw [if_neg hb, spl_out (fun e => h (List.mem_cons_of_mem _ e))]
    rfl
theorem spl_cut {c : UInt8} : ∀ {x : List UInt8} (l : List UInt8), c ∉ x → spl c (x ++ c :: l) = x :: spl c l
  | [], l, _ => by rw [List.nil_append, spl, if_pos rfl]
  | b :: x, l, h => by
    have hb : b ≠ c := fun e => h (by rw [e]; exact List.mem_cons_self ..)
    rw [List.cons_append, spl, if_neg hb, spl_cut l (fun e => h (List.mem_cons_of_mem _ e))]
    rfl
theorem joinTail_cons (sep y : List UInt8) (r : List (List UInt8)) : Lib.joinTail sep (y :: r) = sep ++ y ++ Lib.joinTail sep r := by simp [Lib.joinTail]
theorem spl_tail {c : UInt8} : ∀ (r : List (List UInt8)) (x : List UInt8), c ∉ x → (∀ w ∈ r, c ∉ w) → spl c (x ++ Lib.joinTail [c] r) = x :: r
  | [], x, h, _ => by simp [Lib.joinTail, spl_out h]
  | y :: r, x, h, hr => by
    rw [joinTail_cons, show x ++ ([c] ++ y ++ Lib.joinTail [c] r) = x ++ c :: (y ++ Lib.joinTail [c] r) by simp, spl_cut _ h, spl_tail r y (hr y (List.mem_cons_self ..)) (fun w hw => hr w (List.mem_cons_of_mem _ hw))]
theorem spl_join {c : UInt8} {ws : List (List UInt8)} (hne : ws ≠ []) (h : ∀ w ∈ ws, c ∉ w) : spl c (Lib.join ws [c]) = ws := by
  match ws, hne with
  | x :: r, _ =>
    rw [Lib.join_cons]
    exact spl_tail r x (h x (List.mem_cons_self ..)) (fun w hw => h w (List.mem_cons_of_mem _ hw))
theorem spl_lines {c : UInt8} : ∀ {ws : List (List UInt8)}, (∀ w ∈ ws, c ∉ w) → spl c (ws.flatMap (· ++ [c])) = ws ++ [[]]
  | [], _ => rfl
  | w :: ws, h => by
    rw [List.flatMap_cons, show w ++ [c] ++ ws.flatMap (· ++ [c]) = w ++ c :: ws.flatMap (· ++ [c]) by simp, spl_cut _ (h w (List.mem_cons_self ..)), spl_lines (fun v hv => h v (List.mem_cons_of_mem _ hv))]
    rfl
theorem lines_join {c : UInt8} (x : List UInt8) (r : List (List UInt8)) : (x :: r).flatMap (· ++ [c]) = Lib.join (x :: r) [c] ++ [c] := by
  rw [Lib.join_cons]
  induction r generalizing x with
  | nil => simp [Lib.joinTail]
  | cons y r ih =>
    rw [List.flatMap_cons, ih y, joinTail_cons]
    simp
/-! ### The library's words -/
theorem index_out {c : UInt8} : ∀ {s : List UInt8}, c ∉ s → Lib.index s [c] = -1
  | [], _ => rfl
  | b :: l, h => by
    have hb : ¬ c = b := fun e => h (by rw [e]; exact List.mem_cons_self ..)
    unfold Lib.index
    rw [index_out (fun e => h (List.mem_cons_of_mem _ e))]
    simp [hb]
theorem index_cut {c : UInt8} : ∀ {x : List UInt8} (l : List UInt8), c ∉ x → Lib.index (x ++ c :: l) [c] = x.length
  | [], l, _ => by simp [Lib.index]
  | b :: x, l, h => by
    have hb : ¬ c = b := fun e => h (by rw [e]; exact List.mem_cons_self ..)
    have ih := index_cut l (fun e => h (List.mem_cons_of_mem _ e))
    rw [List.cons_append, Lib.index, ih]
    have : ((x.length : Int) == -1) = false := by rw [beq_eq_false_iff_ne]; omega
    simp [hb, this]
theorem split_spl (c : UInt8) : ∀ (n : Nat) (s : List UInt8), s.length ≤ n → Lib.splitK [c] 0 (Lib.count s [c]) s = spl c s := by
  intro n
  induction n with
  | zero =>
    intro s hs
    have : s = [] := List.eq_nil_of_length_eq_zero (by omega)
    subst this
    rw [Lib.count_miss (index_out (by simp))]
    rfl
  | succ n ih =>
    intro s hs
    by_cases hc : c ∈ s
    · obtain ⟨x, l, rfl, hx⟩ := List.eq_append_cons_of_mem hc
      have hi := index_cut l hx
      have hd : (x ++ c :: l).drop (x.length + 1) = l := by
        rw [show x ++ c :: l = (x ++ [c]) ++ l by simp, List.drop_left' (by simp)]
      have hb : ((x.length : Int) == -1) = false := by rw [beq_eq_false_iff_ne]; omega
      rw [Lib.count_hit (by simp) hi, Nat.add_comm, Lib.splitK, hi, if_neg (by rw [hb]; simp), Int.toNat_natCast]
      simp only [List.length_cons, List.length_nil, Nat.add_zero, Nat.zero_add]
      rw [hd, ih l (by simp at hs; omega), spl_cut _ hx, List.take_left]
    · rw [Lib.count_miss (index_out hc), spl_out hc]
      rfl
theorem lib_split (c : UInt8) (s : List UInt8) : Lib.split s [c] = spl c s := split_spl c _ s (Nat.le_refl _)
theorem cut_out {c : UInt8} {s : List UInt8} (h : c ∉ s) : Lib.cut s [c] = (s, [], false) := by
  unfold Lib.cut
  rw [index_out h]
  rfl
theorem cut_cut {c : UInt8} {x : List UInt8} (l : List UInt8) (h : c ∉ x) : Lib.cut (x ++ c :: l) [c] = (x, l, true) := by
  unfold Lib.cut
  rw [index_cut l h, if_pos (by omega), Int.toNat_natCast, List.take_left, show x ++ c :: l = (x ++ [c]) ++ l by simp, List.drop_left' (by simp)]
theorem trim_end (l : List UInt8) (c : UInt8) : Lib.trimSuffix (l ++ [c]) [c] = l := by
  unfold Lib.trimSuffix Lib.hasSuffix
  have : ([c].isSuffixOf (l ++ [c])) = true := by rw [List.isSuffixOf_iff_suffix]; exact ⟨l, rfl⟩
  rw [if_pos this]
  simp
/-! ### Numbers -/
def smallT (n : Nat) : List UInt8 := if n < 10 then [UInt8.ofNat (48 + n)] else [UInt8.ofNat (48 + n / 10), UInt8.ofNat (48 + n % 10)]
theorem itoa_small {n : Nat} (h : n < 100) : Lib.itoa n = smallT n := by
  unfold Lib.itoa
  rw [if_neg (by omega), Int.toNat_natCast]
  unfold smallT
  split
  · next h1 => exact Lib.decDigits_one h1
  · next h1 => exact Lib.decDigits_two h1 h
def rdI (s : List UInt8) : Option Int := match Lib.parseIntB 64 s with | .ok n => if Lib.itoa n = s then some n else none | _ => none
theorem parse_small : ∀ n : Fin 33, (match Lib.parseIntB 64 (smallT n.val) with | .ok v => decide (v = (n.val : Int)) | _ => false) = true := by decide +kernel
theorem rdI_itoa {n : Nat} (h : n < 33) : rdI (Lib.itoa n) = some (n : Int) := by
  have := parse_small ⟨n, h⟩
  dsimp only at this
  unfold rdI
  rw [itoa_small (by omega)]
  revert this
  cases Lib.parseIntB 64 (smallT n) with
  | ok v =>
    intro h2
    have e : v = (n : Int) := of_decide_eq_true h2
    subst e
    dsimp only
    rw [itoa_small (by omega), if_pos rfl]
  | _ => intro h2; simp at h2
def digB (c : UInt8) : Bool := 48 ≤ c.toNat && c.toNat ≤ 57
def valF (s : List UInt8) (n : Int) : Int := s.foldl (fun n c => 10 * n + (c.toNat - 48 : Int)) n
def valS (s : List UInt8) : Option Int := if 1 ≤ s.length ∧ s.length ≤ 12 ∧ s.all digB = true ∧ Lib.itoa (valF s 0) = s then some (valF s 0) else none
theorem val_small : ∀ n : Fin 33, (decide (1 ≤ (smallT n.val).length) && decide ((smallT n.val).length ≤ 12) && (smallT n.val).all digB && decide (valF (smallT n.val) 0 = (n.val : Int))) = true := by decide +kernel
theorem valS_itoa {n : Nat} (h : n < 33) : valS (Lib.itoa n) = some (n : Int) := by
  have := val_small ⟨n, h⟩
  simp only [Bool.and_eq_true, decide_eq_true_eq] at this
  obtain ⟨⟨⟨h1, h2⟩, h3⟩, h4⟩ := this
  unfold valS
  rw [itoa_small (by omega), h4, itoa_small (by omega), if_pos ⟨h1, h2, h3, rfl⟩]
def sgnS (s : List UInt8) : Option Int := match s with
  | 45 :: r => match valS r with | some n => if 0 < n then some (-n) else none | none => none
  | _ => valS s
theorem small_dig : ∀ n : Fin 33, (smallT n.val).all digB = true := by decide +kernel
theorem small_nn : ∀ n : Fin 33, (smallT n.val).isEmpty = false := by decide +kernel
theorem itoa_dig {n : Nat} (h : n < 33) : ∀ c ∈ Lib.itoa n, digB c = true := by
  rw [itoa_small (by omega)]
  exact List.all_eq_true.1 (small_dig ⟨n, h⟩)
theorem itoa_nn {n : Nat} (h : n < 33) : Lib.itoa n ≠ [] := by
  rw [itoa_small (by omega)]
  have := small_nn ⟨n, h⟩
  intro e
  rw [e] at this
  cases this
theorem sgnS_itoa {n : Nat} (h : n < 33) : sgnS (Lib.itoa n) = some (n : Int) := by
  have hv := valS_itoa h
  have hd := itoa_dig h
  revert hv hd
  generalize Lib.itoa n = s
  intro hv hd
  unfold sgnS
  split
  · have := hd 45 (List.mem_cons_self ..)
    simp [digB] at this
  · exact hv
/-! ### Lists that are read one by one -/
def seqO {α β : Type} (f : α → Option β) : List α → Option (List β)
  | [] => some []
  | a :: l => match f a with | none => none | some b => match seqO f l with | none => none | some t => some (b :: t)
theorem seqO_map {α β : Type} {f : α → Option β} {g : β → α} : ∀ {bs : List β}, (∀ b ∈ bs, f (g b) = some b) → seqO f (bs.map g) = some bs
  | [], _ => rfl
  | b :: bs, h => by
    rw [List.map_cons, seqO, h b (List.mem_cons_self ..), seqO_map (fun x hx => h x (List.mem_cons_of_mem _ hx))]
theorem seqO_snoc {α β : Type} {f : α → Option β} : ∀ {l : List α} {t : List β} {a : α} {b : β}, seqO f l = some t → f a = some b → seqO f (l ++ [a]) = some (t ++ [b])
  | [], t, a, b, h, h2 => by
    simp only [seqO, Option.some.injEq] at h
    subst h
    simp [seqO, h2]
  | x :: l, t, a, b, h, h2 => by
    rw [seqO] at h
    cases hx : f x with
    | none => rw [hx] at h; cases h
    | some y =>
      rw [hx] at h
      cases hl : seqO f l with
      | none => rw [hl] at h; cases h
      | some u =>
        rw [hl] at h
        simp only [Option.some.injEq] at h
        subst h
        rw [List.cons_append, seqO, hx, seqO_snoc hl h2]
        rfl
theorem seqO_bad {α β : Type} {f : α → Option β} : ∀ {l : List α} {a : α}, a ∈ l → f a = none → seqO f l = none
  | x :: l, a, h, h2 => by
    rcases List.mem_cons.1 h with rfl | h
    · rw [seqO, h2]
    · rw [seqO, seqO_bad h h2]
      cases f x <;> rfl
theorem seqO_length {α β : Type} {f : α → Option β} : ∀ {l : List α} {t : List β}, seqO f l = some t → t.length = l.length
  | [], t, h => by simp only [seqO, Option.some.injEq] at h; subst h; rfl
  | x :: l, t, h => by
    rw [seqO] at h
    cases hx : f x with
    | none => rw [hx] at h; cases h
    | some y =>
      rw [hx] at h
      cases hl : seqO f l with
      | none => rw [hl] at h; cases h
      | some u =>
        rw [hl] at h
        simp only [Option.some.injEq] at h
        subst h
        simp [seqO_length hl]
/-! ### The text of a model -/
def txNums (l : List Int) : List UInt8 := Lib.join (l.map Lib.itoa) [44]
def txTest (t : Tst) : List UInt8 := Lib.itoa t.v ++ (if t.q then 61 else 33) :: Lib.itoa t.x
def txAsg (a : Asg) : List UInt8 := Lib.itoa a.v ++ 58 :: Lib.itoa a.x
def txList (ws : List (List UInt8)) : List UInt8 := if ws = [] then [45] else Lib.join ws [38]
def txRule (r : Rul) : List UInt8 := r.nm.data.toList ++ 32 :: (txList (r.gs.map txTest) ++ 32 :: txList (r.es.map txAsg))
def txHead (m : Mdl) : List UInt8 := txNums m.sz ++ 32 :: txNums m.st
def txModel (m : Mdl) : List UInt8 := (txHead m :: m.rs.map txRule).flatMap (· ++ [10])
/-! ### What the program reads -/
def aroundI (c : UInt8) (w : List UInt8) : Option (Int × Int) := match seqO rdI (spl c w) with | some [a, b] => some (a, b) | _ => none
def testI (w : List UInt8) : Option Tst := match aroundI (if w.contains 61 then 61 else 33) w with | some (a, b) => some ⟨a, b, w.contains 61⟩ | none => none
def asgI (w : List UInt8) : Option Asg := match aroundI 58 w with | some (a, b) => some ⟨a, b⟩ | none => none
def listI (w : List UInt8) : List (List UInt8) := if w = [45] then [] else spl 38 w
def ruleI (line : List UInt8) : Option Rul := match spl 32 line with
  | [a, b, c] => match seqO testI (listI b) with
    | none => none
    | some gs => match seqO asgI (listI c) with
      | none => none
      | some es => some ⟨⟨a.toArray⟩, gs, es⟩
  | _ => none
def linesI (s : List UInt8) : List (List UInt8) := spl 10 (Lib.trimSuffix s [10])
def modelI (s : List UInt8) : Option Mdl := match seqO rdI (spl 44 (Lib.cut ((linesI s).headD []) [32]).1), seqO rdI (spl 44 (Lib.cut ((linesI s).headD []) [32]).2.1), seqO ruleI (linesI s).tail with
  | some a, some b, some rs => some ⟨a, b, rs⟩
  | _, _, _ => none
/-! ### What the reference reads -/
def signS (signs w : List UInt8) : UInt8 := w.foldl (fun s c => if signs.contains c then c else s) 0
def pairS (signs w : List UInt8) : Option (Int × Int × UInt8) := if signS signs w = 0 then none else match spl (signS signs w) w with
  | [x, y] => match valS x with | none => none | some a => match valS y with | none => none | some b => some (a, b, signS signs w)
  | _ => none
def pairsS (signs s : List UInt8) : Option (List (Int × Int × UInt8)) := if s = [45] then some [] else seqO (pairS signs) (spl 38 s)
def ruleS (line : List UInt8) : Option Rul := match spl 32 line with
  | [a, b, c] => match pairsS [61, 33] b with
    | none => none
    | some g => match pairsS [58] c with
      | none => none
      | some e => some ⟨⟨a.toArray⟩, g.map fun p => ⟨p.1, p.2.1, p.2.2 == 61⟩, e.map fun p => ⟨p.1, p.2.1⟩⟩
  | _ => none
def modelS (s : List UInt8) : Option Mdl := match spl 32 ((spl 10 s).headD []) with
  | [x, y] => match seqO sgnS (spl 44 x), seqO sgnS (spl 44 y), seqO ruleS ((spl 10 s).tail.dropLast) with
    | some a, some b, some rs => some ⟨a, b, rs⟩
    | _, _, _ => none
  | _ => none
end Go.Proofs.YtgpmglfcdbpgkaaGreatDoor
