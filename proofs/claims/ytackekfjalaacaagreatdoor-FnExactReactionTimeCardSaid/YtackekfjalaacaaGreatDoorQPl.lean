/- The code of a sound program, plainly: its steps, its head, its times. No condition but that the program is sound. -/
import Derived.Test.YtackekfjalaacaaGreatDoorQIt
import Derived.Test.YtackekfjalaacaaGreatDoorQSn
namespace Go.Proofs.YtackekfjalaacaaGreatDoor
open Go.RowKit

def nmI (p : Prg) (s : ByteArray) (a b : Int) : Ins := if 0 ≤ ixS p.ins s then ⟨a, ixS p.ins s⟩ else ⟨b, ixS p.vs s⟩
def insT (p : Prg) (b : Nat) (t : Tm) : Ins := if t.k = 1 then nmI p t.nm 2 3 else if t.k = 2 then ⟨1, 1⟩ else if t.k = 3 then ⟨1, 0⟩ else if t.k = 4 ∨ t.k = 5 ∨ t.k = 6 then ⟨t.k, 0⟩ else ⟨7, b⟩
def tgI (p : Prg) (s : ByteArray) : Ins := if 0 ≤ ixS p.vs s then ⟨8, ixS p.vs s⟩ else ⟨9, ixS p.os s⟩
def nbT (l : List Tm) : Nat := (l.filter isB).length
/-- The steps of terms; b blocks are before them. -/
def csT (p : Prg) : Nat → List Tm → List Ins
  | _, [] => []
  | b, t :: l => insT p b t :: csT p (b + nbT [t]) l
theorem nbT_cons (t : Tm) (l : List Tm) : nbT (t :: l) = nbT [t] + nbT l := by
  unfold nbT
  rw [show t :: l = [t] ++ l from rfl, List.filter_append, List.length_append]
theorem nbT_snoc (t : Tm) (l : List Tm) : nbT (l ++ [t]) = nbT l + nbT [t] := by
  unfold nbT
  rw [List.filter_append, List.length_append]
theorem nbT_one (t : Tm) : nbT [t] = if isB t then 1 else 0 := by
  unfold nbT
  rw [List.filter_cons]
  cases isB t <;> rfl
theorem csT_snoc (p : Prg) : ∀ (l : List Tm) (b : Nat) (t : Tm), csT p b (l ++ [t]) = csT p b l ++ [insT p (b + nbT l) t]
  | [], b, t => by simp [csT, nbT]
  | x :: l, b, t => by
    show insT p b x :: csT p (b + nbT [x]) (l ++ [t]) = insT p b x :: csT p (b + nbT [x]) l ++ _
    rw [csT_snoc p l, nbT_cons x l, ← Nat.add_assoc]
    rfl
theorem csT_len (p : Prg) : ∀ (l : List Tm) (b : Nat), (csT p b l).length = l.length
  | [], _ => rfl
  | x :: l, b => by
    show (csT p (b + nbT [x]) l).length + 1 = l.length + 1
    rw [csT_len p l]
/-- The steps of a line, of lines. -/
def csL (p : Prg) (b : Nat) (l : Lin) : List Ins := csT p b l.ts ++ [tgI p l.tg]
def csP (p : Prg) : Nat → List Lin → List Ins
  | _, [] => []
  | b, l :: r => csL p b l ++ csP p (b + nbT l.ts) r
def nbL (ls : List Lin) : Nat := (ls.flatMap blkL).length
theorem nbL_cons (l : Lin) (ls : List Lin) : nbL (l :: ls) = nbT l.ts + nbL ls := by
  unfold nbL nbT
  rw [List.flatMap_cons, List.length_append]
  rfl
theorem nbL_snoc (l : Lin) (ls : List Lin) : nbL (ls ++ [l]) = nbL ls + nbT l.ts := by
  unfold nbL nbT
  rw [List.flatMap_append, List.length_append]
  simp [blkL]
theorem csP_snoc (p : Prg) : ∀ (r : List Lin) (b : Nat) (l : Lin), csP p b (r ++ [l]) = csP p b r ++ csL p (b + nbL r) l
  | [], b, l => by simp [csP, nbL]
  | x :: r, b, l => by
    show csL p b x ++ csP p (b + nbT x.ts) (r ++ [l]) = csL p b x ++ csP p (b + nbT x.ts) r ++ _
    rw [csP_snoc p r, nbL_cons, ← Nat.add_assoc, List.append_assoc]
theorem csP_len (p : Prg) : ∀ (r : List Lin) (b : Nat), (∀ l ∈ r, l.ts.length ≤ 40) → (csP p b r).length ≤ 41 * r.length
  | [], _, _ => by simp [csP]
  | x :: r, b, h => by
    show (csL p b x ++ csP p (b + nbT x.ts) r).length ≤ 41 * (r.length + 1)
    have h1 := csP_len p r (b + nbT x.ts) (fun l hl => h l (List.mem_cons_of_mem _ hl))
    have h2 := h x List.mem_cons_self
    unfold csL
    rw [List.length_append, List.length_append, csT_len, List.length_singleton]
    omega
def gdI (p : Prg) : List Ins := if p.gd.toList.isEmpty then [] else [nmI p p.gd 10 11]
/-- The code of a program. -/
def cmp (p : Prg) : Cd := ⟨p.ins.length, p.vs.length, p.os.length, blk p, csP p 0 p.ls ++ gdI p⟩
theorem gdI_len (p : Prg) : (gdI p).length ≤ 1 := by unfold gdI; split <;> simp
theorem ins_nm {p : Prg} {s : ByteArray} {a b : Int} (h : s ∈ p.ins ∨ s ∈ p.vs) (ha : a = 2 ∧ b = 3 ∨ a = 10 ∧ b = 11) (bs : List Tm) (ss : List Ins) : fitB ⟨p.ins.length, p.vs.length, p.os.length, bs, ss⟩ (nmI p s a b) = true := by
  have b1 := ixS_bd s p.ins
  have b2 := ixS_bd s p.vs
  unfold nmI
  by_cases h0 : 0 ≤ ixS p.ins s
  · rw [if_pos h0]
    refine decide_eq_true ⟨h0, ?_⟩
    rcases ha with ⟨rfl, rfl⟩ | ⟨rfl, rfl⟩
    · exact b1.2
    · exact b1.2
  · rw [if_neg h0]
    have h2 : 0 ≤ ixS p.vs s := h.elim (fun e => absurd (ix_mem e) h0) ix_mem
    refine decide_eq_true ⟨h2, ?_⟩
    rcases ha with ⟨rfl, rfl⟩ | ⟨rfl, rfl⟩
    · exact b2.2
    · exact b2.2
theorem fit_T {p : Prg} (ss : List Ins) (bs : List Tm) : ∀ {l : List Tm} {b : Nat}, (∀ t ∈ l, trmT t.k t.nm t.n = true) → (∀ t ∈ l, t.k = 1 → t.nm ∈ p.ins ∨ t.nm ∈ p.vs) → b + nbT l ≤ bs.length → ∀ x ∈ csT p b l, fitB ⟨p.ins.length, p.vs.length, p.os.length, bs, ss⟩ x = true
  | [], _, _, _, _, x, hx => absurd hx (by simp [csT])
  | t :: l, b, hk, hr, hb, x, hx => by
    rw [nbT_cons] at hb
    rcases List.mem_cons.1 hx with rfl | hx
    · have hkk := trm_k (hk t List.mem_cons_self)
      unfold insT
      by_cases h1 : t.k = 1
      · rw [if_pos h1]
        exact ins_nm (hr t List.mem_cons_self h1) (.inl ⟨rfl, rfl⟩) _ _
      rw [if_neg h1]
      by_cases h2 : t.k = 2
      · rw [if_pos h2]; rfl
      rw [if_neg h2]
      by_cases h3 : t.k = 3
      · rw [if_pos h3]; rfl
      rw [if_neg h3]
      by_cases h4 : t.k = 4 ∨ t.k = 5 ∨ t.k = 6
      · rw [if_pos h4]
        rcases h4 with h4 | h4 | h4 <;> rw [h4] <;> rfl
      rw [if_neg h4]
      have hB : isB t = true := decide_eq_true (by omega)
      rw [nbT_one, if_pos hB] at hb
      refine decide_eq_true ⟨Int.natCast_nonneg _, ?_⟩
      show (b : Int) < (bs.length : Int)
      omega
    · exact fit_T ss bs (fun u hu => hk u (List.mem_cons_of_mem _ hu)) (fun u hu => hr u (List.mem_cons_of_mem _ hu)) (by omega) x hx
theorem fit_P {p : Prg} (ss : List Ins) (bs : List Tm) : ∀ {r : List Lin} {b : Nat}, (∀ l ∈ r, ∀ t ∈ l.ts, trmT t.k t.nm t.n = true) → (∀ l ∈ r, ∀ t ∈ l.ts, t.k = 1 → t.nm ∈ p.ins ∨ t.nm ∈ p.vs) → (∀ l ∈ r, l.tg ∈ p.vs ∨ l.tg ∈ p.os) → b + nbL r ≤ bs.length → ∀ x ∈ csP p b r, fitB ⟨p.ins.length, p.vs.length, p.os.length, bs, ss⟩ x = true
  | [], _, _, _, _, _, x, hx => absurd hx (by simp [csP])
  | l :: r, b, hk, hr, ht, hb, x, hx => by
    rw [nbL_cons] at hb
    rcases List.mem_append.1 hx with hx | hx
    · rcases List.mem_append.1 hx with hx | hx
      · exact fit_T ss bs (hk l List.mem_cons_self) (hr l List.mem_cons_self) (by omega) x hx
      · rw [List.mem_singleton] at hx
        subst hx
        have b1 := ixS_bd l.tg p.vs
        have b2 := ixS_bd l.tg p.os
        unfold tgI
        by_cases h0 : 0 ≤ ixS p.vs l.tg
        · rw [if_pos h0]; exact decide_eq_true ⟨h0, b1.2⟩
        · rw [if_neg h0]
          exact decide_eq_true ⟨(ht l List.mem_cons_self).elim (fun e => absurd (ix_mem e) h0) ix_mem, b2.2⟩
    · exact fit_P ss bs (fun u hu => hk u (List.mem_cons_of_mem _ hu)) (fun u hu => hr u (List.mem_cons_of_mem _ hu)) (fun u hu => ht u (List.mem_cons_of_mem _ hu)) (by omega) x hx
/-- All steps of a sound program's code fit. -/
theorem fit_cmp {p : Prg} (h : Snd p) : ∀ x ∈ (cmp p).ss, fitB (cmp p) x = true := by
  intro x hx
  rcases List.mem_append.1 (show x ∈ csP p 0 p.ls ++ gdI p from hx) with hx | hx
  · exact fit_P _ _ h.k h.r h.t (by rw [Nat.zero_add]; exact Nat.le_refl _) x hx
  · unfold gdI at hx
    split at hx
    · cases hx
    · rename_i he
      rw [List.mem_singleton] at hx
      subst hx
      exact ins_nm (h.g.elim (fun e => absurd e he) id) (.inr ⟨rfl, rfl⟩) _ _
theorem blk_cmp {p : Prg} (h : Snd p) : ∀ t ∈ (cmp p).bs, blkB t = true := by
  intro t ht
  obtain ⟨l, hl, ht⟩ := List.mem_flatMap.1 (show t ∈ p.ls.flatMap blkL from ht)
  obtain ⟨ht, h7⟩ := List.mem_filter.1 (show t ∈ l.ts.filter isB from ht)
  unfold blkB
  rw [h.k l hl t ht]
  exact h7
theorem blk_le {p : Prg} (h : PgB p) : (blk p).length ≤ 1600 := by
  have hl := h.l
  have ht := h.t
  unfold blk
  have : ∀ l : List Lin, (∀ x ∈ l, x.ts.length ≤ 40) → (l.flatMap blkL).length ≤ 40 * l.length := by
    intro l
    induction l with
    | nil => intro _; simp
    | cons x l ih =>
      intro hx
      rw [List.flatMap_cons, List.length_append, List.length_cons]
      have h1 := ih (fun y hy => hx y (List.mem_cons_of_mem _ hy))
      have h2 := hx x List.mem_cons_self
      have h3 : (blkL x).length ≤ x.ts.length := List.length_filter_le _ _
      omega
  have := this p.ls ht
  omega
theorem hd_cmp {p : Prg} (h : Snd p) : Hd (cmp p) := by
  have h1 := h.b.i
  have h2 := h.b.v
  have h3 := h.b.o
  have h4 := h.b.l
  have h5 := csP_len p p.ls 0 h.b.t
  have h6 := gdI_len p
  refine ⟨Int.natCast_nonneg _, ?_, Int.natCast_nonneg _, ?_, Int.natCast_nonneg _, ?_, ?_, ?_⟩
  · show (p.ins.length : Int) ≤ 20; omega
  · show (p.vs.length : Int) ≤ 20; omega
  · show (p.os.length : Int) ≤ 20; omega
  · exact Nat.le_trans (blk_le h.b) (by decide)
  · show (csP p 0 p.ls ++ gdI p).length ≤ 2000
    rw [List.length_append]
    omega
/-- The time of a term, of a line. -/
def tT (t : Tm) : Int := if t.k = 1 ∨ t.k = 5 ∨ t.k = 6 then 2 else if t.k = 2 ∨ t.k = 3 ∨ t.k = 4 then 1 else tabI t.k
def tTs : List Tm → Int
  | [] => 0
  | t :: l => tT t + tTs l
def tL (l : Lin) : Int := tTs l.ts + 3
theorem tab_bd (k : Int) : 4 ≤ tabI k ∧ tabI k ≤ 9 := by
  unfold tabI
  repeat' split
  all_goals omega
theorem tT_bd (t : Tm) : 1 ≤ tT t ∧ tT t ≤ 9 := by
  have := tab_bd t.k
  unfold tT
  repeat' split
  all_goals omega
theorem tTs_bd : ∀ l : List Tm, 0 ≤ tTs l ∧ tTs l ≤ 9 * l.length
  | [] => by simp [tTs]
  | t :: l => by
    have h1 := tT_bd t
    have h2 := tTs_bd l
    show 0 ≤ tT t + tTs l ∧ tT t + tTs l ≤ 9 * ((l.length + 1 : Nat) : Int)
    omega
theorem tim_nm (p : Prg) (c : Cd) (s : ByteArray) : timI c (nmI p s 2 3) = 2 := by
  unfold nmI
  split <;> rfl
theorem tim_T {p : Prg} {c : Cd} {b : Nat} {t : Tm} (hk : trmT t.k t.nm t.n = true) (hb : isB t = true → c.bs[b]? = some t) : timI c (insT p b t) = tT t := by
  have hkk := trm_k hk
  unfold insT tT
  by_cases h1 : t.k = 1
  · rw [if_pos h1, if_pos (.inl h1)]; exact tim_nm _ _ _
  rw [if_neg h1]
  by_cases h2 : t.k = 2
  · rw [if_pos h2, if_neg (by omega), if_pos (.inl h2)]; rfl
  rw [if_neg h2]
  by_cases h3 : t.k = 3
  · rw [if_pos h3, if_neg (by omega), if_pos (by omega)]; rfl
  rw [if_neg h3]
  by_cases h4 : t.k = 4 ∨ t.k = 5 ∨ t.k = 6
  · rw [if_pos h4]
    rcases h4 with h4 | h4 | h4 <;> rw [h4] <;> rfl
  rw [if_neg h4, if_neg (by omega), if_neg (by omega)]
  have hB : isB t = true := decide_eq_true (by omega)
  show tabI (kindA c (b : Int)) = _
  unfold kindA
  rw [Int.toNat_natCast, List.getD_eq_getElem?_getD, hb hB]
  rfl
theorem sum_T {p : Prg} {c : Cd} : ∀ {l : List Tm} {b : Nat} {pre post : List Tm}, (∀ t ∈ l, trmT t.k t.nm t.n = true) → c.bs = pre ++ (l.filter isB ++ post) → pre.length = b → sumT c (csT p b l) = tTs l
  | [], _, _, _, _, _, _ => rfl
  | t :: l, b, pre, post, hk, hc, hp => by
    show timI c (insT p b t) + sumT c (csT p (b + nbT [t]) l) = tT t + tTs l
    have e1 : timI c (insT p b t) = tT t := by
      refine tim_T (hk t List.mem_cons_self) (fun hB => ?_)
      rw [hc, List.getElem?_append_right (by omega), hp, Nat.sub_self, List.filter_cons, if_pos hB]
      rfl
    rw [e1]
    congr 1
    refine sum_T (pre := pre ++ [t].filter isB) (post := post) (fun u hu => hk u (List.mem_cons_of_mem _ hu)) ?_ ?_
    · rw [hc, show t :: l = [t] ++ l from rfl, List.filter_append]
      simp
    · rw [List.length_append, hp]
      rfl
theorem sumT_app2 (c : Cd) : ∀ (l r : List Ins), sumT c (l ++ r) = sumT c l + sumT c r
  | [], r => by simp [sumT]
  | y :: t, r => by
    show timI c y + sumT c (t ++ r) = timI c y + sumT c t + sumT c r
    rw [sumT_app2 c t r]
    omega
theorem tim_tg (p : Prg) (c : Cd) (s : ByteArray) : timI c (tgI p s) = 3 := by
  unfold tgI
  split <;> rfl
theorem sum_L {p : Prg} {c : Cd} {l : Lin} {b : Nat} {pre post : List Tm} (hk : ∀ t ∈ l.ts, trmT t.k t.nm t.n = true) (hc : c.bs = pre ++ (blkL l ++ post)) (hp : pre.length = b) : sumT c (csL p b l) = tL l := by
  unfold csL tL
  rw [sumT_app2, sum_T hk hc hp]
  show tTs l.ts + (timI c (tgI p l.tg) + 0) = _
  rw [tim_tg]
  omega
/-- The blocks before a line, its own, and those behind it. -/
theorem blk_split {p : Prg} {k : Nat} {l : Lin} (h : p.ls[k]? = some l) : blk p = (p.ls.take k).flatMap blkL ++ (blkL l ++ (p.ls.drop (k + 1)).flatMap blkL) := by
  obtain ⟨hk, e⟩ := List.getElem?_eq_some_iff.1 h
  unfold blk
  conv => lhs; rw [← List.take_append_drop k p.ls, List.drop_eq_getElem_cons hk, e]
  rw [List.flatMap_append, List.flatMap_cons]
/-- The time of a line's steps is the line's time. -/
theorem sum_line {p : Prg} (h : Snd p) {k : Nat} {l : Lin} (hl : p.ls[k]? = some l) : sumT (cmp p) (csL p (nbL (p.ls.take k)) l) = tL l :=
  sum_L (pre := (p.ls.take k).flatMap blkL) (post := (p.ls.drop (k + 1)).flatMap blkL) (h.k l (List.mem_of_getElem? hl)) (blk_split hl) rfl
/-- The times of lines, read off the steps. -/
def ltS (c : Cd) : List Ins → Int → List Int
  | [], _ => []
  | x :: r, n => if x.o = 8 ∨ x.o = 9 then (n + timI c x) :: ltS c r 0 else ltS c r (n + timI c x)
theorem op_T (p : Prg) : ∀ {l : List Tm} {b : Nat}, (∀ t ∈ l, trmT t.k t.nm t.n = true) → ∀ x ∈ csT p b l, ¬ (x.o = 8 ∨ x.o = 9)
  | [], _, _, x, hx => absurd hx (by simp [csT])
  | t :: l, b, hk, x, hx => by
    rcases List.mem_cons.1 hx with rfl | hx
    · unfold insT nmI
      repeat' split
      all_goals (dsimp only; omega)
    · exact op_T p (fun u hu => hk u (List.mem_cons_of_mem _ hu)) x hx
theorem ltS_run (c : Cd) : ∀ {l : List Ins} (r : List Ins) (n : Int), (∀ x ∈ l, ¬ (x.o = 8 ∨ x.o = 9)) → ltS c (l ++ r) n = ltS c r (n + sumT c l)
  | [], r, n, _ => by simp [sumT]
  | y :: t, r, n, h => by
    show (if y.o = 8 ∨ y.o = 9 then (n + timI c y) :: ltS c (t ++ r) 0 else ltS c (t ++ r) (n + timI c y)) = ltS c r (n + (timI c y + sumT c t))
    rw [if_neg (h y List.mem_cons_self), ltS_run c r _ (fun x hx => h x (List.mem_cons_of_mem _ hx)), Int.add_assoc]
theorem ltS_L (p : Prg) (c : Cd) {l : Lin} {b : Nat} (hk : ∀ t ∈ l.ts, trmT t.k t.nm t.n = true) (r : List Ins) : ltS c (csL p b l ++ r) 0 = sumT c (csL p b l) :: ltS c r 0 := by
  unfold csL
  rw [List.append_assoc, ltS_run c _ _ (op_T p hk), sumT_app2]
  have ho : (tgI p l.tg).o = 8 ∨ (tgI p l.tg).o = 9 := by unfold tgI; split <;> simp
  show (if (tgI p l.tg).o = 8 ∨ (tgI p l.tg).o = 9 then (0 + sumT c (csT p b l.ts) + timI c (tgI p l.tg)) :: ltS c r 0 else _) = _
  rw [if_pos ho]
  congr 1
  show _ = sumT c (csT p b l.ts) + (timI c (tgI p l.tg) + 0)
  omega
theorem ltS_P {p : Prg} (h : Snd p) : ∀ (k : Nat) (pre r : List Lin), p.ls = pre ++ r → r.length = k → ltS (cmp p) (csP p (nbL pre) r ++ gdI p) 0 = r.map tL
  | 0, pre, r, _, hr => by
    obtain rfl : r = [] := List.eq_nil_of_length_eq_zero hr
    show ltS (cmp p) (gdI p) 0 = []
    unfold gdI nmI
    repeat' split
    all_goals rfl
  | k + 1, pre, r, e, hr => by
    match r, hr with
    | l :: r, hr =>
      have hz : p.ls[pre.length]? = some l := by rw [e, List.getElem?_append_right (Nat.le_refl _), Nat.sub_self]; rfl
      have htk : p.ls.take pre.length = pre := by rw [e]; simp
      show ltS (cmp p) (csL p (nbL pre) l ++ csP p (nbL pre + nbT l.ts) r ++ gdI p) 0 = tL l :: r.map tL
      have h1 := sum_line h hz
      rw [htk] at h1
      rw [List.append_assoc, ltS_L p _ (h.k l (List.mem_of_getElem? hz)), h1]
      congr 1
      rw [← nbL_snoc]
      exact ltS_P h k (pre ++ [l]) r (by rw [e]; simp) (by simpa using hr)
/-- The times of lines, read off the steps of a sound program's code, are the lines' times. -/
theorem ltS_cmp {p : Prg} (h : Snd p) : ltS (cmp p) (cmp p).ss 0 = p.ls.map tL := ltS_P h p.ls.length [] p.ls rfl rfl
end Go.Proofs.YtackekfjalaacaaGreatDoor
