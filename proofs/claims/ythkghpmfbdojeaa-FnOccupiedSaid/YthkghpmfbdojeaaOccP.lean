/- The plain law of trains around the circuit: remainders, and which block a position lies in. No program in sight. -/
import Derived.Test.YthkghpmfbdojeaaAtW
namespace Go.Proofs.Ythkghpmfbdojeaa
open Go.RowKit

theorem mod_go (a s : Int) : (a.tmod s + s) % s = a % s := by
  rw [Int.tmod_def]
  have : a - s * a.tdiv s + s = a + s * (1 - a.tdiv s) := by rw [Int.mul_sub]; omega
  rw [this, Int.add_mul_emod_self_left]
theorem tmod_bd {a s : Int} (hs : 0 < s) : -s < a.tmod s ∧ a.tmod s < s := by
  constructor
  · exact Int.lt_tmod_of_pos a hs
  · exact Int.tmod_lt_of_pos a hs
theorem emod_in {a T : Int} (h0 : 0 ≤ a) (h1 : a < T) : a % T = a := Int.emod_eq_of_lt h0 h1
theorem emod_neg {a T : Int} (h0 : a < 0) (h1 : -T ≤ a) : a % T = a + T := by
  rw [← Int.add_emod_right]
  exact Int.emod_eq_of_lt (by omega) (by omega)
theorem emod_cases {a T : Int} (h0 : -T ≤ a) (h1 : a < T) : (0 ≤ a ∧ a % T = a) ∨ (a < 0 ∧ a % T = a + T) := by
  rcases Int.lt_or_le a 0 with h | h
  · exact .inr ⟨h, emod_neg h h0⟩
  · exact .inl ⟨h, emod_in h h1⟩
theorem occ_one {T n p q : Int} (hn : 1 ≤ n) (hT : n ≤ T) (hp0 : 0 ≤ p) (hp1 : p < T) (hq0 : 0 ≤ q) (hq1 : q < T) : ((q - (p - n + 1) % T) % T < n) ↔ ((p - q) % T < n) := by
  rcases emod_cases (a := p - n + 1) (T := T) (by omega) (by omega) with ⟨_, h1⟩ | ⟨_, h1⟩
  all_goals
    rw [h1]
    rcases emod_cases (a := p - q) (T := T) (by omega) (by omega) with ⟨_, h2⟩ | ⟨_, h2⟩
    all_goals
      rw [h2]
      first
        | (rcases emod_cases (a := q - (p - n + 1)) (T := T) (by omega) (by omega) with ⟨_, h3⟩ | ⟨_, h3⟩ <;> (rw [h3]; omega))
        | (rcases emod_cases (a := q - (p - n + 1 + T)) (T := T) (by omega) (by omega) with ⟨_, h3⟩ | ⟨_, h3⟩ <;> (rw [h3]; omega))
theorem occ_two {T r a b : Int} (hr0 : 0 ≤ r) (hr1 : r < T) (ha : 0 ≤ a) (hab : a < b) (hb : b ≤ T) : ((r - a) % T < b - a) ↔ (a ≤ r ∧ r < b) := by
  rcases emod_cases (a := r - a) (T := T) (by omega) (by omega) with ⟨_, h1⟩ | ⟨_, h1⟩
  all_goals (rw [h1]; omega)
theorem rr_bd {T n p : Int} (hn : 1 ≤ n) (hT : n ≤ T) (hp0 : 0 ≤ p) (hp1 : p < T) : 0 ≤ (p - n + 1) % T ∧ (p - n + 1) % T < T :=
  ⟨Int.emod_nonneg _ (by omega), Int.emod_lt_of_pos _ (by omega)⟩
theorem last_blk {l : List Seg} {fs : List Int} (hok : okB l fs = true) {k q : Nat} (hk : k < l.length) (hq : q < fs.length) : (q = lastN fs (k : Int)) ↔ (fstN fs q ≤ k ∧ k < endN l fs q) := by
  have hris := blkB_ris hok
  have hL := lastN_spec (t := (k : Int)) (okB_zero hok) (by omega)
  have hf := (fst_at hok hq).1
  have he := end_at hok q
  generalize lastN fs (k : Int) = r at hL ⊢
  constructor
  · rintro rfl
    have h1 := hL.le _ hf
    refine ⟨by omega, ?_⟩
    rcases Nat.lt_or_ge (q + 1) fs.length with h | h
    · obtain ⟨z, hz⟩ : ∃ z, fs[q + 1]? = some z := ⟨_, List.getElem?_eq_getElem h⟩
      have h2 := hL.next _ hz
      have h3 : endB l fs q = z := by unfold endB; rw [if_pos h]; simp [hz]
      omega
    · have h3 : endB l fs q = l.length := by unfold endB; rw [if_neg (by omega)]
      omega
  · rintro ⟨h1, h2⟩
    have hrl := hL.lt
    rcases Nat.lt_trichotomy q r with h | h | h
    · exfalso
      obtain ⟨z, hz⟩ : ∃ z, fs[q + 1]? = some z := ⟨_, List.getElem?_eq_getElem (by omega)⟩
      have h3 : endB l fs q = z := by unfold endB; rw [if_pos (by omega)]; simp [hz]
      obtain ⟨y, hy⟩ : ∃ y, fs[r]? = some y := ⟨_, List.getElem?_eq_getElem (by omega)⟩
      have h4 := hL.le _ hy
      rcases Nat.lt_or_ge (q + 1) r with h5 | h5
      · have := ris_mono hris h5 hz hy
        omega
      · obtain rfl : r = q + 1 := by omega
        rw [hz] at hy
        simp only [Option.some.injEq] at hy
        omega
    · exact h
    · exfalso
      obtain ⟨z, hz⟩ : ∃ z, fs[r + 1]? = some z := ⟨_, List.getElem?_eq_getElem (by omega)⟩
      have h4 := hL.next _ hz
      rcases Nat.lt_or_ge (r + 1) q with h5 | h5
      · have := ris_mono hris h5 hz hf
        omega
      · obtain rfl : q = r + 1 := by omega
        rw [hz] at hf
        simp only [Option.some.injEq] at hf
        omega
/-- Whether a train occupies a block. -/
def occT (l : List Seg) (fs : List Int) (p n : Int) (q : Nat) : Bool :=
  decide ((pos l (fstN fs q) - (p - n + 1) % pos l l.length) % pos l l.length < n) || decide (((p - n + 1) % pos l l.length - pos l (fstN fs q)) % pos l l.length < pos l (endN l fs q) - pos l (fstN fs q))
theorem occ_agree {l : List Seg} {fs : List Int} (hok : okB l fs = true) {p n : Int} (hn : 1 ≤ n) (hT : n ≤ pos l l.length) (hp0 : 0 ≤ p) (hp1 : p < pos l l.length) {q : Nat} (hq : q < fs.length) :
    occT l fs p n q = (decide (q = lastN fs (atN l ((p - n + 1) % pos l l.length))) || decide ((p - pos l (fstN fs q)) % pos l l.length < n)) := by
  have hl := okB_lay hok
  have hr := rr_bd hn hT hp0 hp1
  have hf := fst_at hok hq
  have he := end_at hok q
  have hfe := fst_end hok hq
  have h1 := pos_small hl (k := fstN fs q) (by omega)
  have h2 := pos_lt hl (i := fstN fs q) (j := l.length) (by omega) (Nat.le_refl _)
  have h3 := pos_lt hl hfe he.2.2
  have h4 := pos_le hl he.2.2 (Nat.le_refl _)
  unfold occT
  have e1 := occ_one hn hT hp0 hp1 h1.1 h2
  generalize (p - n + 1) % pos l l.length = r at hr e1 ⊢
  have e2 := occ_two hr.1 hr.2 h1.1 h3 h4
  obtain ⟨_, a2, a3, a4⟩ := at_spec hl hr.1 hr.2
  generalize atN l r = k at a2 a3 a4 ⊢
  have e3 := last_blk hok a2 hq
  have e4 : (pos l (fstN fs q) ≤ r ∧ r < pos l (endN l fs q)) ↔ (fstN fs q ≤ k ∧ k < endN l fs q) := by
    constructor
    · rintro ⟨b1, b2⟩
      refine ⟨?_, ?_⟩
      · rcases Nat.lt_or_ge k (fstN fs q) with h | h
        · have := pos_le hl (i := k + 1) (j := fstN fs q) h (by omega)
          omega
        · exact h
      · rcases Nat.lt_or_ge k (endN l fs q) with h | h
        · exact h
        · have := pos_le hl (i := endN l fs q) (j := k) h (by omega)
          omega
    · rintro ⟨b1, b2⟩
      have c1 := pos_le hl b1 (by omega)
      have c2 := pos_le hl (i := k + 1) (j := endN l fs q) b2 he.2.2
      omega
  rw [Bool.or_comm]
  congr 1
  · rw [decide_eq_decide]
    exact e2.trans (e4.trans e3.symm)
  · rw [decide_eq_decide]
    exact e1
def occL (l : List Seg) (fs : List Int) (p n : Int) : Nat → List Int
  | 0 => []
  | k + 1 => if occT l fs p n k then occL l fs p n k ++ [(k : Int)] else occL l fs p n k
theorem occL_len (l : List Seg) (fs : List Int) (p n : Int) : ∀ k, (occL l fs p n k).length ≤ k
  | 0 => by simp [occL]
  | k + 1 => by
    have := occL_len l fs p n k
    unfold occL
    split
    · simp; omega
    · omega
theorem occL_mem {l : List Seg} {fs : List Int} {p n : Int} {z : Int} : ∀ {k : Nat}, z ∈ occL l fs p n k → ∃ j : Nat, z = j ∧ j < k ∧ occT l fs p n j = true
  | 0, h => by simp [occL] at h
  | k + 1, h => by
    unfold occL at h
    split at h
    · rename_i ht
      rcases List.mem_append.1 h with h1 | h1
      · obtain ⟨j, e, hj, h2⟩ := occL_mem h1
        exact ⟨j, e, by omega, h2⟩
      · simp at h1
        exact ⟨k, h1, by omega, ht⟩
    · obtain ⟨j, e, hj, h2⟩ := occL_mem h
      exact ⟨j, e, by omega, h2⟩
theorem occL_yes {l : List Seg} {fs : List Int} {p n : Int} {k : Nat} (h : occT l fs p n k = true) : occL l fs p n (k + 1) = occL l fs p n k ++ [(k : Int)] := by rw [occL, if_pos h]
theorem occL_no {l : List Seg} {fs : List Int} {p n : Int} {k : Nat} (h : occT l fs p n k = false) : occL l fs p n (k + 1) = occL l fs p n k := by rw [occL, h]; rfl
/-- The code of the length of a train and of fronts. -/
def trnC (l : List Seg) (n : Int) (ps : List Int) : Int := if layB l then (if ps.all (fun p => inB p 0 (pos l l.length - 1)) && inB n 1 (min 40000 (pos l l.length)) then 0 else 2) else 1
end Go.Proofs.Ythkghpmfbdojeaa
