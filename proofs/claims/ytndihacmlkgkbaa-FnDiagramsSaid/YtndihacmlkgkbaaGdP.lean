/- Joined and negated diagrams: the plain laws. Condition: few nodes. -/
import Derived.Test.YtndihacmlkgkbaaDgJp
import Derived.Test.YtndihacmlkgkbaaDgX
import Derived.Test.YtndihacmlkgkbaaDgJi
import Derived.Test.YtndihacmlkgkbaaDgA
/-! Joined diagrams, exchanged and negated: plain. No condition. -/
namespace Go.Proofs.Ytndihacmlkgkbaa
open Go.RowKit

def swP (p : Jp) : Jp := ⟨p.lo, p.i, p.hi⟩
def swS (st : Js) : Js := (st.1.map swP, st.2)
theorem lk_sw (ps : List Jp) (x y : Nat) : lk (ps.map swP) y x = lk ps x y := by
  unfold lk
  rw [List.find?_map, Option.map_map]
  have e : ((fun p => jb p y x) ∘ swP) = fun p => jb p x y := by
    funext p
    show decide (p.lo = y ∧ p.i = x) = decide (p.i = x ∧ p.lo = y)
    rw [Bool.eq_iff_iff, decide_eq_true_eq, decide_eq_true_eq]
    exact And.comm
  rw [e]
  rfl
theorem jn_sw (j : Int) (x y : Nat) : jn j y x = jn j x y := by
  unfold jn
  simp only [and_comm (a := y = 1), or_comm (a := y = 1), eq_comm (a := y) (b := x)]
theorem jlv_sw (X : Int) (la lb : List Nd) (x y : Nat) : jlv X lb la y x = jlv X la lb x y := Int.min_comm _ _
theorem jwk_sw (j X : Int) (la lb : List Nd) : ∀ (f : Nat) (st : Js) (x y : Nat), jwk j X lb la f (swS st) y x = (swS (jwk j X la lb f st x y).1, (jwk j X la lb f st x y).2)
  | 0, _, _, _ => rfl
  | f + 1, st, x, y => by
    unfold jwk
    by_cases h2 : x < 2 ∧ y < 2
    · rw [if_pos h2, if_pos h2.symm, jn_sw]
    · rw [if_neg h2, if_neg (fun h => h2 h.symm)]
      have e : lk (swS st).1 y x = lk st.1 x y := lk_sw _ _ _
      rw [e]
      rcases lk st.1 x y with _ | r
      · dsimp only
        rw [jlv_sw, jwk_sw j X la lb f st, jwk_sw j X la lb f]
        dsimp only
        refine Prod.ext ?_ rfl
        refine Prod.ext ?_ rfl
        show List.map swP _ ++ [_] = List.map swP (_ ++ [_])
        rw [List.map_append]
        rfl
      · rfl
theorem joinD_sw (j X : Int) (la lb : List Nd) (ra rb : Nat) : joinD j X lb la rb ra = joinD j X la lb ra rb := by
  unfold joinD joinS
  have e := jwk_sw j X la lb (ra + rb + 1) ([], []) ra rb
  rw [show rb + ra + 1 = ra + rb + 1 by omega]
  have e2 : swS ([], []) = ([], []) := rfl
  rw [e2] at e
  rw [e]
  rfl

/-- A negated reference. -/
def fx (r : Nat) : Nat := if r < 2 then 1 - r else r
def flP (p : Jp) : Jp := ⟨flipI p.i, flipI p.lo, flipI p.hi⟩
theorem flipI_nat (r : Nat) : flipI (r : Int) = (fx r : Nat) := by unfold flipI fx; split <;> split <;> omega
theorem fx_lo (r : Nat) : fx r < 2 ↔ r < 2 := by unfold fx; split <;> omega
theorem fx_inj {a b : Nat} : fx a = fx b ↔ a = b := by unfold fx; split <;> split <;> omega
theorem fx_fx (r : Nat) : fx (fx r) = r := by
  unfold fx
  by_cases h : r < 2
  · rw [if_pos h, if_pos (by omega)]; omega
  · rw [if_neg h, if_neg h]
theorem flipI_inj {a b : Int} (ha : 0 ≤ a) (hb : 0 ≤ b) : flipI a = flipI b ↔ a = b := by unfold flipI; split <;> split <;> omega
theorem flipI_nn {a : Int} (ha : 0 ≤ a) : 0 ≤ flipI a := by unfold flipI; split <;> omega
theorem flipI_toNat {a : Int} (ha : 0 ≤ a) : (flipI a).toNat = fx a.toNat := by unfold flipI fx; split <;> split <;> omega
theorem flipI_flipI {a : Int} (ha : 0 ≤ a) : flipI (flipI a) = a := by
  unfold flipI
  by_cases h : a < 2
  · rw [if_pos h, if_pos (by omega)]; omega
  · rw [if_neg h, if_neg h]
theorem flipI_hi {a : Int} (ha : 2 ≤ a) : flipI a = a := by unfold flipI; rw [if_neg (by omega)]
theorem flipI_lt {a : Int} {n : Int} (h0 : 0 ≤ n) (ha : a < n + 2) (ha0 : 0 ≤ a) : flipI a < n + 2 := by unfold flipI; split <;> omega
theorem flipN_inj {x y : Nd} (hx : 0 ≤ x.lo ∧ 0 ≤ x.hi) (hy : 0 ≤ y.lo ∧ 0 ≤ y.hi) : flipN x = flipN y ↔ x = y := by
  constructor
  · intro h
    cases x; cases y
    simp only [flipN, Nd.mk.injEq] at *
    exact ⟨h.1, (flipI_inj hx.1 hy.1).1 h.2.1, (flipI_inj hx.2 hy.2).1 h.2.2⟩
  · rintro rfl; rfl
/-- No reference is negative. -/
def NN (l : List Nd) : Prop := ∀ x ∈ l, 0 ≤ x.lo ∧ 0 ≤ x.hi
theorem Good.nn {l : List Nd} (h : Good l) : NN l := by
  intro x hx
  obtain ⟨k, hk, rfl⟩ := List.getElem_of_mem hx
  have := h k _ (List.getElem?_eq_getElem hk)
  exact ⟨this.1, this.2.2.1⟩
theorem idxN_fl {l : List Nd} (h : NN l) {x : Nd} (hx : 0 ≤ x.lo ∧ 0 ≤ x.hi) : idxN (l.map flipN) (flipN x) = idxN l x := by
  unfold idxN
  rw [List.findIdx?_map]
  induction l with
  | nil => rfl
  | cons y t ih =>
    have hy := h y (by simp)
    rw [List.findIdx?_cons, List.findIdx?_cons, ih (fun z hz => h z (by simp [hz]))]
    have e : ((fun z => decide (z = flipN x)) ∘ flipN) y = decide (y = x) := by
      show decide (flipN y = flipN x) = _
      rw [Bool.eq_iff_iff, decide_eq_true_eq, decide_eq_true_eq]
      exact flipN_inj hy hx
    rw [e]
theorem mkN_fl {l : List Nd} (h : NN l) {i a b : Int} (ha : 0 ≤ a) (hb : 0 ≤ b) : mkN (l.map flipN) ⟨i, flipI a, flipI b⟩ = ((mkN l ⟨i, a, b⟩).1.map flipN, flipI (mkN l ⟨i, a, b⟩).2) := by
  have e := idxN_fl h (x := ⟨i, a, b⟩) ⟨ha, hb⟩
  have e2 : flipN (⟨i, a, b⟩ : Nd) = ⟨i, flipI a, flipI b⟩ := rfl
  rw [e2] at e
  unfold mkN
  dsimp only
  by_cases hab : a = b
  · rw [if_pos hab, if_pos (by rw [hab])]
  · rw [if_neg hab, if_neg (fun h => hab ((flipI_inj ha hb).1 h)), e]
    rcases idxN l ⟨i, a, b⟩ with _ | k
    · dsimp only
      rw [List.map_append, List.length_map, flipI_hi (a := (l.length : Int) + 2) (by omega)]
      rfl
    · dsimp only
      rw [flipI_hi (a := (k : Int) + 2) (by omega)]
theorem lvl_fl (X : Int) (l : List Nd) (r : Nat) : lvl X (l.map flipN) (fx r) = lvl X l r := by
  unfold lvl
  by_cases h : r < 2
  · rw [if_pos h, if_pos ((fx_lo r).2 h)]
  · rw [if_neg h, if_neg (fun h2 => h ((fx_lo r).1 h2))]
    have : fx r = r := by unfold fx; rw [if_neg h]
    rw [this, List.getD_eq_getElem?_getD, List.getD_eq_getElem?_getD, List.getElem?_map]
    rcases l[r - 2]? with _ | x
    · rfl
    · rfl
theorem brn_fl {X : Int} {l : List Nd} {r : Nat} (hr : r < l.length + 2) (i bit : Int) : brn X (l.map flipN) (fx r) i bit = flipI (brn X l r i bit) := by
  by_cases h : r < 2
  · rw [brn_lo h, brn_lo ((fx_lo r).2 h), flipI_nat]
  · have e : fx r = r := by unfold fx; rw [if_neg h]
    by_cases hl : lvl X l r = i
    · obtain ⟨k, x, rfl, hx⟩ := nd_at h hr
      have hm : (l.map flipN)[k]? = some (flipN x) := by rw [List.getElem?_map, hx]; rfl
      have hxi : x.i = i := by rw [← hl]; unfold lvl; rw [if_neg (by omega), Nat.add_sub_cancel, getD_nd hx]
      rw [e, brn_at hx hxi, brn_at hm hxi]
      by_cases hb : bit = 0
      · rw [if_pos hb, if_pos hb]; rfl
      · rw [if_neg hb, if_neg hb]; rfl
    · rw [brn_ne hl, brn_ne (by rw [lvl_fl]; exact hl), flipI_nat]
theorem jlv_fl (X : Int) (la lb : List Nd) (x y : Nat) : jlv X (la.map flipN) (lb.map flipN) (fx x) (fx y) = jlv X la lb x y := by
  unfold jlv
  rw [lvl_fl, lvl_fl]
theorem jn_fl {x y : Nat} (hx : x < 2) (hy : y < 2) : jn 1 (fx x) (fx y) = flipI (jn 0 x y) := by
  unfold jn flipI fx
  rw [if_pos hx, if_pos hy]
  match x, y, hx, hy with
  | 0, 0, _, _ => rfl
  | 0, 1, _, _ => rfl
  | 1, 0, _, _ => rfl
  | 1, 1, _, _ => rfl
def flS (st : Js) : Js := (st.1.map flP, st.2.map flipN)
/-- No number in the pairs is negative. -/
def PN (ps : List Jp) : Prop := ∀ p ∈ ps, 0 ≤ p.i ∧ 0 ≤ p.lo
theorem lk_fl {ps : List Jp} (h : PN ps) (x y : Nat) : lk (ps.map flP) (fx x) (fx y) = (lk ps x y).map flipI := by
  unfold lk
  induction ps with
  | nil => rfl
  | cons p t ih =>
    have hp := h p (by simp)
    have e : jb (flP p) (fx x) (fx y) = jb p x y := by
      unfold jb flP
      rw [Bool.eq_iff_iff, decide_eq_true_eq, decide_eq_true_eq, ← flipI_nat, ← flipI_nat, flipI_inj hp.1 (by omega), flipI_inj hp.2 (by omega)]
    rw [List.map_cons, List.find?_cons, List.find?_cons, e]
    cases jb p x y
    · exact ih fun q hq => h q (by simp [hq])
    · rfl
theorem jwk_pn (j X : Int) (la lb : List Nd) : ∀ (f : Nat) (st : Js) (x y : Nat), PN st.1 → PN (jwk j X la lb f st x y).1.1
  | 0, _, _, _, h => h
  | f + 1, st, x, y, h => by
    unfold jwk
    split
    · exact h
    · rcases lk st.1 x y with _ | r
      · dsimp only
        intro p hp
        rw [List.mem_append, List.mem_singleton] at hp
        rcases hp with hp | rfl
        · exact jwk_pn j X la lb f _ _ _ (jwk_pn j X la lb f _ _ _ h) p hp
        · exact ⟨by dsimp only; omega, by dsimp only; omega⟩
      · exact h
theorem jwk_fl {X : Int} {la lb : List Nd} (ha : VN X la) (hb : VN X lb) : ∀ (f : Nat) (st : Js) (x y : Nat), x + y < f → x < la.length + 2 → y < lb.length + 2 → JInv la.length lb.length st → PN st.1 →
    jwk 1 X (la.map flipN) (lb.map flipN) f (flS st) (fx x) (fx y) = (flS (jwk 0 X la lb f st x y).1, flipI (jwk 0 X la lb f st x y).2)
  | 0, _, _, _, h, _, _, _, _ => by omega
  | f + 1, st, x, y, hf, hx, hy, hI, hP => by
    unfold jwk
    by_cases h2 : x < 2 ∧ y < 2
    · rw [if_pos h2, if_pos ⟨(fx_lo x).2 h2.1, (fx_lo y).2 h2.2⟩, jn_fl h2.1 h2.2]
    · rw [if_neg h2, if_neg (fun h => h2 ⟨(fx_lo x).1 h.1, (fx_lo y).1 h.2⟩)]
      have e : lk (flS st).1 (fx x) (fx y) = (lk st.1 x y).map flipI := lk_fl hP x y
      rw [e]
      rcases hl : lk st.1 x y with _ | r
      · have d0 := jdec ha hb h2 hx hy 0
        have d1 := jdec ha hb h2 hx hy 1
        have oa := jwk_out (j := 0) ha hb f st _ _ (by omega) d0.2.1 d0.2.2 hI
        have pa := jwk_pn 0 X la lb f st (brn X la x (jlv X la lb x y) 0).toNat (brn X lb y (jlv X la lb x y) 0).toNat hP
        have ob := jwk_out (j := 0) ha hb f (jwk 0 X la lb f st (brn X la x (jlv X la lb x y) 0).toNat (brn X lb y (jlv X la lb x y) 0).toNat).1 _ _ (by omega) d1.2.1 d1.2.2 oa.inv
        have fa := jwk_fl ha hb f st _ _ (by omega) d0.2.1 d0.2.2 hI hP
        have fb := jwk_fl ha hb f (jwk 0 X la lb f st (brn X la x (jlv X la lb x y) 0).toNat (brn X lb y (jlv X la lb x y) 0).toNat).1 _ _ (by omega) d1.2.1 d1.2.2 oa.inv pa
        have b0 := fun bit => (brn_bd (X := X) ha.good hx (jlv X la lb x y) bit).1
        have b1 := fun bit => (brn_bd (X := X) hb.good hy (jlv X la lb x y) bit).1
        dsimp only [Option.map_none]
        rw [jlv_fl, brn_fl hx, brn_fl hy, brn_fl hx, brn_fl hy, flipI_toNat (b0 0), flipI_toNat (b1 0), flipI_toNat (b0 1), flipI_toNat (b1 1), fa]
        dsimp only
        rw [fb]
        generalize jwk 0 X la lb f st (brn X la x (jlv X la lb x y) 0).toNat (brn X lb y (jlv X la lb x y) 0).toNat = Aq at *
        generalize jwk 0 X la lb f Aq.1 (brn X la x (jlv X la lb x y) 1).toNat (brn X lb y (jlv X la lb x y) 1).toNat = Bq at *
        dsimp only
        have hm := mkN_fl ob.inv.good.nn (i := jlv X la lb x y) oa.v0 ob.v0
        have e2 : (flS Bq.1).2 = Bq.1.2.map flipN := rfl
        rw [e2, hm]
        refine Prod.ext ?_ rfl
        refine Prod.ext ?_ rfl
        show List.map flP _ ++ [_] = List.map flP (_ ++ [_])
        rw [List.map_append]
        show _ = List.map flP _ ++ [flP _]
        unfold flP
        dsimp only
        rw [flipI_nat, flipI_nat]
      · rfl
theorem jwk_fuel {j X : Int} {la lb : List Nd} (ha : VN X la) (hb : VN X lb) : ∀ (f g : Nat) (st : Js) (x y : Nat), x + y < f → x + y < g → x < la.length + 2 → y < lb.length + 2 → jwk j X la lb f st x y = jwk j X la lb g st x y
  | 0, _, _, _, _, h, _, _, _ => by omega
  | _, 0, _, _, _, _, h, _, _ => by omega
  | f + 1, g + 1, st, x, y, hf, hg, hx, hy => by
    unfold jwk
    by_cases h2 : x < 2 ∧ y < 2
    · rw [if_pos h2, if_pos h2]
    · rw [if_neg h2, if_neg h2]
      rcases lk st.1 x y with _ | r
      · have d0 := jdec ha hb h2 hx hy 0
        have d1 := jdec ha hb h2 hx hy 1
        dsimp only
        rw [jwk_fuel ha hb f g st _ _ (by omega) (by omega) d0.2.1 d0.2.2, jwk_fuel ha hb f g _ _ _ (by omega) (by omega) d1.2.1 d1.2.2]
      · rfl
theorem joinS_fl {X : Int} {la lb : List Nd} (ha : VN X la) (hb : VN X lb) {x y : Nat} (hx : x < la.length + 2) (hy : y < lb.length + 2) :
    jwk 1 X (la.map flipN) (lb.map flipN) (x + y + 3) ([], []) (fx x) (fx y) = (flS (joinS 0 X la lb x y).1, flipI (joinS 0 X la lb x y).2) := by
  have h := jwk_fl ha hb (x + y + 3) ([], []) x y (by omega) hx hy (jinv0 _ _) (fun p h => by simp at h)
  rw [jwk_fuel ha hb (x + y + 3) (x + y + 1) ([], []) x y (by omega) (by omega) hx hy] at h
  exact h
end Go.Proofs.Ytndihacmlkgkbaa

/-! Canonical diagrams stay so; joined diagrams are diagrams: plain. No condition. -/
namespace Go.Proofs.Ytndihacmlkgkbaa
open Go.RowKit

theorem wlk_good {l : List Nd} (hg : Good l) : ∀ (f : Nat) (st : Cs) (r : Nat), r < f → r < l.length + 2 → Good st.2 → (∀ q, 0 ≤ st.1.getD q 0 ∧ st.1.getD q 0 < (st.2.length : Int) + 2) →
    Good (wlk l f st r).1.2 ∧ (∀ q, 0 ≤ (wlk l f st r).1.1.getD q 0 ∧ (wlk l f st r).1.1.getD q 0 < ((wlk l f st r).1.2.length : Int) + 2) ∧ 0 ≤ (wlk l f st r).2 ∧ (wlk l f st r).2 < ((wlk l f st r).1.2.length : Int) + 2 ∧ st.2.length ≤ (wlk l f st r).1.2.length
  | 0, _, _, h, _, _, _ => by omega
  | f + 1, st, r, hf, hr, hG, hb => by
    unfold wlk
    by_cases h2 : r < 2
    · rw [if_pos h2]
      exact ⟨hG, hb, by show (0 : Int) ≤ r; omega, by show (r : Int) < _; omega, Nat.le_refl _⟩
    · rw [if_neg h2]
      by_cases h3 : 0 < st.1.getD r 0
      · rw [if_pos h3]
        exact ⟨hG, hb, (hb r).1, (hb r).2, Nat.le_refl _⟩
      · rw [if_neg h3]
        obtain ⟨k, x, rfl, hx⟩ := nd_at h2 hr
        rw [Nat.add_sub_cancel, getD_nd hx]
        obtain ⟨g1, g2, g3, g4, _⟩ := hg k x hx
        have pa := wlk_good hg f st x.lo.toNat (by omega) (by omega) hG hb
        have pb := wlk_good hg f (wlk l f st x.lo.toNat).1 x.hi.toNat (by omega) (by omega) pa.1 pa.2.1
        dsimp only
        generalize wlk l f st x.lo.toNat = A at *
        generalize wlk l f A.1 x.hi.toNat = Bq at *
        have hm := mkN_good (i := x.i) pb.1 (a := A.2) (b := Bq.2) pa.2.2.1 (by omega) pb.2.2.1 pb.2.2.2.1
        have hl := mkN_len Bq.1.2 ⟨x.i, A.2, Bq.2⟩
        refine ⟨hm.1, fun q => ?_, hm.2.1, hm.2.2, by omega⟩
        by_cases e : k + 2 = q
        · subst e
          rcases Nat.lt_or_ge (k + 2) Bq.1.1.length with h | h
          · rw [getD_set_eq h]
            exact hm.2
          · rw [List.set_eq_of_length_le h]
            have := pb.2.1 (k + 2)
            omega
        · rw [getD_set_ne2 e]
          have := pb.2.1 q
          omega
theorem canS_good {l : List Nd} (hg : Good l) {r : Nat} (hr : r < l.length + 2) : Good (canS l r).1 := by
  have hz : ∀ q, (List.replicate (l.length + 2) (0 : Int)).getD q 0 = 0 := fun q => by simp [List.getD_eq_getElem?_getD, List.getElem?_replicate]; split <;> simp
  exact (wlk_good hg (l.length + 2) (List.replicate (l.length + 2) 0, []) r hr hr (fun k x h => by simp at h) (fun q => by show 0 ≤ (List.replicate (l.length + 2) (0 : Int)).getD q 0 ∧ (List.replicate (l.length + 2) (0 : Int)).getD q 0 < _; rw [hz]; exact ⟨Int.le_refl 0, by simp⟩)).1
def canI (l : List Nd) (r : Nat) : Cs × Int := wlkI l (l.length + 2) (List.replicate (l.length + 2) 0, []) r
theorem canS_I {l : List Nd} (hg : Good l) (hn : l.Nodup) {r : Nat} (hr : r < l.length + 2) : canS l r = ((canI l r).1.2, (canI l r).2) ∧ Went l (List.replicate (l.length + 2) 0, []) r (canI l r) := by
  have h := wlk_same hg hn (l.length + 2) (List.replicate (l.length + 2) 0, []) r hr hr cinv0
  unfold canI canS
  rw [h.1]
  exact ⟨rfl, h.2⟩
theorem pl_bd {l : List Nd} {st : Cs} (h : CInv l st) {r : Nat} (hv : vs st.1 r) : 0 ≤ pl st.1 r ∧ pl st.1 r < (st.2.length : Int) + 2 := by
  unfold pl
  split
  · omega
  · rcases h.bd r (by omega) with h1 | h1
    · rcases hv with hv | hv
      · omega
      · exact absurd h1 hv
    · omega
theorem lvl_img {X : Int} {l : List Nd} {st : Cs} (h : CInv l st) {r : Nat} (hv : vs st.1 r) : lvl X st.2 (pl st.1 r).toNat = lvl X l r := by
  by_cases h2 : r < 2
  · have e : pl st.1 r = r := by unfold pl; rw [if_pos h2]
    rw [e, lvl_lo X l h2, lvl_lo X st.2 (by omega)]
  · have e : pl st.1 r = st.1.getD r 0 := by unfold pl; rw [if_neg h2]
    have hnz : st.1.getD r 0 ≠ 0 := by
      rcases hv with hv | hv
      · omega
      · exact hv
    have hb : 2 ≤ st.1.getD r 0 ∧ st.1.getD r 0 < (st.2.length : Int) + 2 := by
      rcases h.bd r (by omega) with h1 | h1
      · exact absurd h1 hnz
      · exact h1
    obtain ⟨j, hj⟩ : ∃ j : Nat, st.1.getD r 0 = (j : Int) + 2 := ⟨(st.1.getD r 0 - 2).toNat, by omega⟩
    obtain ⟨y, hy⟩ : ∃ y, st.2[j]? = some y := ⟨_, List.getElem?_eq_getElem (by omega)⟩
    obtain ⟨k, x, hx, hk, ey⟩ := h.own j y hy
    have er : r = k + 2 := h.inj r (k + 2) (by omega) (by omega) hnz (by rw [hj, hk])
    subst er
    rw [e, hj]
    unfold lvl
    rw [if_neg (by omega), if_neg (by omega), show ((j : Int) + 2).toNat - 2 = j by omega, Nat.add_sub_cancel, getD_nd hy, getD_nd hx, ey]
/-- The levels of nodes: in range, and below those of both references. -/
def LV (X : Int) (l : List Nd) : Prop := ∀ (k : Nat) (x : Nd), l[k]? = some x → 0 ≤ x.i ∧ x.i ≤ X - 1 ∧ x.i < lvl X l x.lo.toNat ∧ x.i < lvl X l x.hi.toNat
theorem LV_img {X : Int} {l : List Nd} {st : Cs} (hl : LV X l) (h : CInv l st) : LV X st.2 := by
  intro j y hy
  obtain ⟨k, x, hx, hk, ey⟩ := h.own j y hy
  have hv := h.vis k x hx (by omega)
  have := hl k x hx
  rw [ey]
  dsimp only
  rw [lvl_img h hv.1, lvl_img h hv.2]
  exact this
/-- The names of nodes that keep their places. -/
def idn (n N : Nat) : List Int := (List.range N).map fun q => if 2 ≤ q ∧ q < n + 2 then (q : Int) else 0
theorem idn_at {n N q : Nat} (h : q < N) : (idn n N).getD q 0 = if 2 ≤ q ∧ q < n + 2 then (q : Int) else 0 := by
  unfold idn
  rw [List.getD_eq_getElem?_getD, List.getElem?_map, List.getElem?_range h]
  rfl
theorem idn_zero (N : Nat) : idn 0 N = List.replicate N 0 := by
  unfold idn
  apply List.ext_getElem
  · simp
  · intro k h1 h2
    simp only [List.getElem_map, List.getElem_range, List.getElem_replicate]
    rw [if_neg (by omega)]
theorem idn_set (n N : Nat) : (idn n N).set (n + 2) ((n : Int) + 2) = idn (n + 1) N := by
  unfold idn
  apply List.ext_getElem
  · simp
  · intro k h1 h2
    rw [List.getElem_set]
    simp only [List.getElem_map, List.getElem_range]
    by_cases e : n + 2 = k
    · subst e
      rw [if_pos rfl, if_pos (by omega)]
      omega
    · rw [if_neg e]
      by_cases h3 : 2 ≤ k ∧ k < n + 2
      · rw [if_pos h3, if_pos (by omega)]
      · rw [if_neg h3, if_neg (by omega)]
structure Pre (st : Cs) (R : Cs × Int) : Prop where
  pre : ∃ t, R.1.2 = st.2 ++ t
  bd : ∀ q, R.1.1.getD q 0 = 0 ∨ (2 ≤ R.1.1.getD q 0 ∧ R.1.1.getD q 0 < (R.1.2.length : Int) + 2)
  v0 : 0 ≤ R.2
  v1 : R.2 < (R.1.2.length : Int) + 2
theorem wlkI_pre (l : List Nd) : ∀ (f : Nat) (st : Cs) (r : Nat), r < f → Good l → r < l.length + 2 → (∀ q, st.1.getD q 0 = 0 ∨ (2 ≤ st.1.getD q 0 ∧ st.1.getD q 0 < (st.2.length : Int) + 2)) → Pre st (wlkI l f st r)
  | 0, _, _, h, _, _, _ => by omega
  | f + 1, st, r, hf, hg, hr, hb => by
    unfold wlkI
    by_cases h2 : r < 2
    · rw [if_pos h2]
      exact ⟨⟨[], by simp⟩, hb, by show (0 : Int) ≤ r; omega, by show (r : Int) < _; omega⟩
    · rw [if_neg h2]
      by_cases h3 : 0 < st.1.getD r 0
      · rw [if_pos h3]
        refine ⟨⟨[], by simp⟩, hb, by show (0 : Int) ≤ st.1.getD r 0; omega, ?_⟩
        show st.1.getD r 0 < _
        rcases hb r with h | h
        · omega
        · exact h.2
      · rw [if_neg h3]
        obtain ⟨k, x, rfl, hx⟩ := nd_at h2 hr
        rw [Nat.add_sub_cancel, getD_nd hx]
        obtain ⟨g1, g2, g3, g4, _⟩ := hg k x hx
        have pa := wlkI_pre l f st x.lo.toNat (by omega) hg (by omega) hb
        have pb := wlkI_pre l f (wlkI l f st x.lo.toNat).1 x.hi.toNat (by omega) hg (by omega) pa.bd
        dsimp only
        generalize wlkI l f st x.lo.toNat = A at *
        generalize wlkI l f A.1 x.hi.toNat = Bq at *
        obtain ⟨t, ht⟩ := pa.pre
        obtain ⟨u, hu⟩ := pb.pre
        refine ⟨⟨t ++ (u ++ [⟨x.i, A.2, Bq.2⟩]), ?_⟩, fun q => ?_, ?_, ?_⟩
        · dsimp only
          rw [hu, ht]
          simp only [List.append_assoc]
        · dsimp only
          rw [List.length_append, List.length_singleton]
          by_cases e : k + 2 = q
          · subst e
            rcases Nat.lt_or_ge (k + 2) Bq.1.1.length with h | h
            · rw [getD_set_eq h]
              right
              omega
            · rw [List.set_eq_of_length_le h]
              rcases pb.bd (k + 2) with h | h
              · exact .inl h
              · exact .inr (by omega)
          · rw [getD_set_ne2 e]
            rcases pb.bd q with h | h
            · exact .inl h
            · exact .inr (by omega)
        · show (0 : Int) ≤ Bq.1.2.length + 2
          omega
        · show (Bq.1.2.length : Int) + 2 < ((Bq.1.2 ++ [_]).length : Int) + 2
          rw [List.length_append, List.length_singleton]
          omega
theorem wlkI_lo {l : List Nd} {f : Nat} {st : Cs} {r : Nat} (h : r < 2) : wlkI l (f + 1) st r = (st, (r : Int)) := by
  unfold wlkI
  rw [if_pos h]
theorem wlkI_old {l : List Nd} {f : Nat} {st : Cs} {r : Nat} (h : ¬ r < 2) (h2 : 0 < st.1.getD r 0) : wlkI l (f + 1) st r = (st, st.1.getD r 0) := by
  unfold wlkI
  rw [if_neg h, if_pos h2]
theorem wlkI_new {l : List Nd} {f : Nat} {st : Cs} {k : Nat} {x : Nd} (hx : l[k]? = some x) (h2 : ¬ 0 < st.1.getD (k + 2) 0) {A Bq : Cs × Int} (ha : wlkI l f st x.lo.toNat = A) (hb : wlkI l f A.1 x.hi.toNat = Bq) :
    wlkI l (f + 1) st (k + 2) = ((Bq.1.1.set (k + 2) ((Bq.1.2.length : Int) + 2), Bq.1.2 ++ [⟨x.i, A.2, Bq.2⟩]), (Bq.1.2.length : Int) + 2) := by
  subst ha hb
  conv => lhs; unfold wlkI
  rw [if_neg (by omega), if_neg h2, Nat.add_sub_cancel, getD_nd hx]
theorem wlkI_id {l m : List Nd} (hg : Good l) : ∀ (f g : Nat) (st : Cs) (r : Nat) (R : Cs × Int), r < f → r < l.length + 2 → (∀ q, st.1.getD q 0 = 0 ∨ (2 ≤ st.1.getD q 0 ∧ st.1.getD q 0 < (st.2.length : Int) + 2)) → wlkI l f st r = R → (∃ t, m = R.1.2 ++ t) → R.2.toNat < g →
    wlkI m g (idn st.2.length (m.length + 2), st.2) R.2.toNat = ((idn R.1.2.length (m.length + 2), R.1.2), R.2)
  | 0, _, _, _, _, h, _, _, _, _, _ => by omega
  | _, 0, _, _, _, _, _, _, _, _, h => by omega
  | f + 1, g + 1, st, r, R, hf, hr, hb, he, hm, hv => by
    by_cases h2 : r < 2
    · rw [wlkI_lo h2] at he
      subst he
      dsimp only
      rw [Int.toNat_natCast, wlkI_lo h2]
    · by_cases h3 : 0 < st.1.getD r 0
      · rw [wlkI_old h2 h3] at he
        subst he
        dsimp only
        obtain ⟨t, ht⟩ := hm
        have h4 := hb r
        have h5 : m.length = st.2.length + t.length := by rw [ht, List.length_append]
        have h6 : (idn st.2.length (m.length + 2)).getD (st.1.getD r 0).toNat 0 = st.1.getD r 0 := by
          rw [idn_at (by omega), if_pos (by omega)]
          omega
        rw [wlkI_old (by omega) (by show 0 < (idn st.2.length (m.length + 2)).getD _ 0; rw [h6]; exact h3)]
        show (_, (idn st.2.length (m.length + 2)).getD _ 0) = _
        rw [h6]
      · obtain ⟨k, x, rfl, hx⟩ := nd_at h2 hr
        obtain ⟨g1, g2, g3, g4, _⟩ := hg k x hx
        have pa := wlkI_pre l f st x.lo.toNat (by omega) hg (by omega) hb
        have pb := wlkI_pre l f (wlkI l f st x.lo.toNat).1 x.hi.toNat (by omega) hg (by omega) pa.bd
        have hA := wlkI_id (m := m) hg f g st x.lo.toNat _ (by omega) (by omega) hb rfl
        have hB := wlkI_id (m := m) hg f g (wlkI l f st x.lo.toNat).1 x.hi.toNat _ (by omega) (by omega) pa.bd rfl
        rw [wlkI_new hx h3 rfl rfl] at he
        generalize wlkI l f st x.lo.toNat = A at *
        generalize wlkI l f A.1 x.hi.toNat = Bq at *
        subst he
        dsimp only at hm hv ⊢
        obtain ⟨t, ht⟩ := hm
        obtain ⟨u, hu⟩ := pb.pre
        obtain ⟨s, hs⟩ := pa.pre
        have a0 := pa.v0
        have a1 := pa.v1
        have b0 := pb.v0
        have b1 := pb.v1
        have hlu : Bq.1.2.length = A.1.2.length + u.length := by rw [hu, List.length_append]
        have hls : A.1.2.length = st.2.length + s.length := by rw [hs, List.length_append]
        have e1 := hA ⟨u ++ ([⟨x.i, A.2, Bq.2⟩] ++ t), by rw [ht, hu]; simp only [List.append_assoc]⟩ (by omega)
        have e2 := hB ⟨[⟨x.i, A.2, Bq.2⟩] ++ t, by rw [ht]; simp only [List.append_assoc]⟩ (by omega)
        have hlm : m.length = Bq.1.2.length + 1 + t.length := by rw [ht, List.length_append, List.length_append, List.length_singleton]
        have hmx : m[Bq.1.2.length]? = some ⟨x.i, A.2, Bq.2⟩ := by
          rw [ht, List.getElem?_append_left (by rw [List.length_append, List.length_singleton]; omega), List.getElem?_append_right (Nat.le_refl _), Nat.sub_self]
          rfl
        rw [show ((Bq.1.2.length : Int) + 2).toNat = Bq.1.2.length + 2 by omega]
        have hz : ¬ 0 < (idn st.2.length (m.length + 2)).getD (Bq.1.2.length + 2) 0 := by
          rw [idn_at (by omega), if_neg (by omega)]
          omega
        rw [wlkI_new (st := (idn st.2.length (m.length + 2), st.2)) hmx hz e1 e2]
        dsimp only
        rw [idn_set, List.length_append, List.length_singleton]
/-- A canonical diagram is canonical. -/
theorem canS_idem {l : List Nd} (hg : Good l) (hn : l.Nodup) {r : Nat} (hr : r < l.length + 2) : canS (canS l r).1 (canS l r).2.toNat = canS l r ∧ Good (canS l r).1 ∧ 0 ≤ (canS l r).2 ∧ (canS l r).2 < ((canS l r).1.length : Int) + 2 := by
  have hI := canS_I hg hn hr
  have hz : ∀ q, (List.replicate (l.length + 2) (0 : Int)).getD q 0 = 0 := fun q => by simp [List.getD_eq_getElem?_getD, List.getElem?_replicate]; split <;> simp
  have hp := wlkI_pre l (l.length + 2) (List.replicate (l.length + 2) 0, []) r hr hg hr (fun q => .inl (hz q))
  have hgd := canS_good hg hr
  have hnd := canS_nodup l r
  have hid := wlkI_id (m := (canI l r).1.2) hg (l.length + 2) ((canI l r).1.2.length + 2) (List.replicate (l.length + 2) 0, []) r (canI l r) hr hr (fun q => .inl (hz q)) rfl ⟨[], by simp⟩ (by have := hp.v1; have := hp.v0; show (canI l r).2.toNat < _; unfold canI; omega)
  rw [hI.1] at hgd hnd ⊢
  have v0 := hp.v0
  have v1 := hp.v1
  have hI2 := canS_I (l := (canI l r).1.2) hgd hnd (r := (canI l r).2.toNat) (by show (canI l r).2.toNat < _; unfold canI; omega)
  refine ⟨?_, hgd, v0, v1⟩
  dsimp only
  rw [hI2.1]
  have e : canI (canI l r).1.2 (canI l r).2.toNat = ((idn (canI l r).1.2.length ((canI l r).1.2.length + 2), (canI l r).1.2), (canI l r).2) := by
    rw [← hid]
    show wlkI _ _ _ _ = wlkI _ _ (idn 0 _, []) _
    rw [idn_zero]
  rw [e]
theorem canS_idem' {l : List Nd} (hg : Good l) {r : Nat} (hr : r < l.length + 2) : 0 ≤ (canS l r).2 ∧ (canS l r).2 < ((canS l r).1.length : Int) + 2 ∧ (canS l r).1.length ≤ l.length := by
  have hz : ∀ q, (List.replicate (l.length + 2) (0 : Int)).getD q 0 = 0 := fun q => by simp [List.getD_eq_getElem?_getD, List.getElem?_replicate]; split <;> simp
  have h := (wlk_good hg (l.length + 2) (List.replicate (l.length + 2) 0, []) r hr hr (fun k x h => by simp at h) (fun q => by show 0 ≤ (List.replicate (l.length + 2) (0 : Int)).getD q 0 ∧ (List.replicate (l.length + 2) (0 : Int)).getD q 0 < _; rw [hz]; exact ⟨Int.le_refl 0, by simp⟩)).2.2
  exact ⟨h.1, h.2.1, canS_le hg hr⟩
end Go.Proofs.Ytndihacmlkgkbaa

/-! Joined and negated diagrams are diagrams; the laws of FnDiagrams: plain. No condition. -/
namespace Go.Proofs.Ytndihacmlkgkbaa
open Go.RowKit

theorem lvl_app {X : Int} {l t : List Nd} {r : Nat} (h : r < l.length + 2) : lvl X (l ++ t) r = lvl X l r := by
  unfold lvl
  by_cases h2 : r < 2
  · rw [if_pos h2, if_pos h2]
  · rw [if_neg h2, if_neg h2, List.getD_eq_getElem?_getD, List.getD_eq_getElem?_getD, List.getElem?_append_left (by omega)]
theorem LV_snoc {X : Int} {out : List Nd} (h : LV X out) (hg : Good out) {i a b : Int} (h0 : 0 ≤ i) (h1 : i ≤ X - 1) (ha : a < (out.length : Int) + 2) (hb : b < (out.length : Int) + 2) (la : i < lvl X out a.toNat) (lb : i < lvl X out b.toNat) : LV X (out ++ [⟨i, a, b⟩]) := by
  intro k x hx
  by_cases hk : k < out.length
  · rw [List.getElem?_append_left hk] at hx
    obtain ⟨g1, g2, g3, g4, _⟩ := hg k x hx
    rw [lvl_app (by omega), lvl_app (by omega)]
    exact h k x hx
  · have hl := (List.getElem?_eq_some_iff.1 hx).1
    rw [List.length_append, List.length_singleton] at hl
    obtain rfl : k = out.length := by omega
    rw [List.getElem?_append_right (Nat.le_refl _), Nat.sub_self, List.getElem?_cons_zero, Option.some.injEq] at hx
    subst hx
    dsimp only
    rw [lvl_app (by omega), lvl_app (by omega)]
    exact ⟨h0, h1, la, lb⟩
theorem mkN_lv {X : Int} {out : List Nd} (h : LV X out) (hg : Good out) {i a b : Int} (h0 : 0 ≤ i) (h1 : i ≤ X - 1) (ha : a < (out.length : Int) + 2) (hb : b < (out.length : Int) + 2) (la : i < lvl X out a.toNat) (lb : i < lvl X out b.toNat) :
    LV X (mkN out ⟨i, a, b⟩).1 ∧ i ≤ lvl X (mkN out ⟨i, a, b⟩).1 (mkN out ⟨i, a, b⟩).2.toNat ∧ ∃ t, (mkN out ⟨i, a, b⟩).1 = out ++ t := by
  unfold mkN
  dsimp only
  by_cases hab : a = b
  · rw [if_pos hab]
    exact ⟨h, Int.le_of_lt la, [], by simp⟩
  · rw [if_neg hab]
    rcases he : idxN out ⟨i, a, b⟩ with _ | k
    · dsimp only
      refine ⟨LV_snoc h hg h0 h1 ha hb la lb, ?_, [_], rfl⟩
      unfold lvl
      rw [if_neg (by omega), show ((out.length : Int) + 2).toNat - 2 = out.length by omega, List.getD_eq_getElem?_getD, List.getElem?_append_right (Nat.le_refl _), Nat.sub_self]
      exact Int.le_refl _
    · dsimp only
      refine ⟨h, ?_, [], by simp⟩
      unfold lvl
      rw [if_neg (by omega), show ((k : Int) + 2).toNat - 2 = k by omega, getD_nd (idxN_some he)]
      exact Int.le_refl _
theorem brn_lv {X : Int} {l : List Nd} (h : VN X l) {r : Nat} (hr : r < l.length + 2) {L : Int} (hL : L < X) (hl : L ≤ lvl X l r) (bit : Int) : L < lvl X l (brn X l r L bit).toNat := by
  by_cases h2 : r < 2
  · rw [brn_lo h2, Int.toNat_natCast, lvl_lo X l h2]; exact hL
  · by_cases he : lvl X l r = L
    · obtain ⟨k, x, rfl, hx⟩ := nd_at h2 hr
      have hxi : x.i = L := by rw [← he]; unfold lvl; rw [if_neg (by omega), Nat.add_sub_cancel, getD_nd hx]
      have := h.lv k x hx
      rw [brn_at hx hxi]
      split <;> omega
    · rw [brn_ne he, Int.toNat_natCast]
      omega
theorem lk_at {ps : List Jp} {x y : Nat} {r : Int} (h : lk ps x y = some r) : ∃ p ∈ ps, p.hi = r ∧ p.i = x ∧ p.lo = y := by
  unfold lk at h
  rw [Option.map_eq_some_iff] at h
  obtain ⟨p, hp, rfl⟩ := h
  have := List.find?_some hp
  have h2 : p.i = x ∧ p.lo = y := of_decide_eq_true this
  exact ⟨p, List.mem_of_find?_eq_some hp, rfl, h2⟩
structure JL (X : Int) (la lb : List Nd) (st : Js) : Prop where
  lv : LV X st.2
  pr : ∀ p ∈ st.1, jlv X la lb p.i.toNat p.lo.toNat ≤ lvl X st.2 p.hi.toNat
structure JLo (X : Int) (la lb : List Nd) (st : Js) (x y : Nat) (R : Js × Int) : Prop where
  jl : JL X la lb R.1
  v : jlv X la lb x y ≤ lvl X R.1.2 R.2.toNat
  pre : ∃ t, R.1.2 = st.2 ++ t
theorem jwk_lv {j X : Int} {la lb : List Nd} (ha : VN X la) (hb : VN X lb) : ∀ (f : Nat) (st : Js) (x y : Nat), x + y < f → x < la.length + 2 → y < lb.length + 2 → JInv la.length lb.length st → JL X la lb st → JLo X la lb st x y (jwk j X la lb f st x y)
  | 0, _, _, _, h, _, _, _, _ => by omega
  | f + 1, st, x, y, hf, hx, hy, hI, hJ => by
    unfold jwk
    by_cases h2 : x < 2 ∧ y < 2
    · rw [if_pos h2]
      have := jn_bd j x y
      refine ⟨hJ, ?_, [], by simp⟩
      show _ ≤ lvl X st.2 (jn j x y).toNat
      rw [lvl_lo X st.2 (by omega)]
      unfold jlv
      rw [lvl_lo X la h2.1, lvl_lo X lb h2.2]
      omega
    · rw [if_neg h2]
      rcases hl : lk st.1 x y with _ | r
      · have d0 := jdec ha hb h2 hx hy 0
        have d1 := jdec ha hb h2 hx hy 1
        have oa := jwk_out (j := j) ha hb f st _ _ (by omega) d0.2.1 d0.2.2 hI
        have la' := jwk_lv (j := j) ha hb f st _ _ (by omega) d0.2.1 d0.2.2 hI hJ
        have ob := jwk_out (j := j) ha hb f (jwk j X la lb f st (brn X la x (jlv X la lb x y) 0).toNat (brn X lb y (jlv X la lb x y) 0).toNat).1 _ _ (by omega) d1.2.1 d1.2.2 oa.inv
        have lb' := jwk_lv (j := j) ha hb f (jwk j X la lb f st (brn X la x (jlv X la lb x y) 0).toNat (brn X lb y (jlv X la lb x y) 0).toNat).1 _ _ (by omega) d1.2.1 d1.2.2 oa.inv la'.jl
        have hlx := VN.lvl ha hx
        have hly := VN.lvl hb hy
        have hL : 0 ≤ jlv X la lb x y ∧ jlv X la lb x y ≤ lvl X la x ∧ jlv X la lb x y ≤ lvl X lb y ∧ jlv X la lb x y < X := by
          unfold jlv
          by_cases hx2 : x < 2
          · have := lvl_hi hb (fun h => h2 ⟨hx2, h⟩) hy
            omega
          · have := lvl_hi ha hx2 hx
            omega
        have c00 := brn_lv ha hx hL.2.2.2 hL.2.1 0
        have c01 := brn_lv hb hy hL.2.2.2 hL.2.2.1 0
        have c10 := brn_lv ha hx hL.2.2.2 hL.2.1 1
        have c11 := brn_lv hb hy hL.2.2.2 hL.2.2.1 1
        have j0 : jlv X la lb x y < jlv X la lb (brn X la x (jlv X la lb x y) 0).toNat (brn X lb y (jlv X la lb x y) 0).toNat := by
          show _ < min _ _
          omega
        have j1 : jlv X la lb x y < jlv X la lb (brn X la x (jlv X la lb x y) 1).toNat (brn X lb y (jlv X la lb x y) 1).toNat := by
          show _ < min _ _
          omega
        have va := la'.v
        have vb := lb'.v
        dsimp only
        generalize jwk j X la lb f st (brn X la x (jlv X la lb x y) 0).toNat (brn X lb y (jlv X la lb x y) 0).toNat = Aq at *
        generalize jwk j X la lb f Aq.1 (brn X la x (jlv X la lb x y) 1).toNat (brn X lb y (jlv X la lb x y) 1).toNat = Bq at *
        obtain ⟨t, ht⟩ := la'.pre
        obtain ⟨u, hu⟩ := lb'.pre
        have a0 := oa.v0
        have a1 := oa.v1
        have hlen := ob.len
        have hva : lvl X Bq.1.2 Aq.2.toNat = lvl X Aq.1.2 Aq.2.toNat := by rw [hu]; exact lvl_app (by omega)
        have hm := mkN_lv lb'.jl.lv ob.inv.good (i := jlv X la lb x y) (a := Aq.2) (b := Bq.2) hL.1 (by omega) (by omega) ob.v1 (by rw [hva]; omega) (by omega)
        obtain ⟨s, hs⟩ := hm.2.2
        refine ⟨⟨hm.1, fun p hp => ?_⟩, hm.2.1, t ++ (u ++ s), ?_⟩
        · dsimp only at hp ⊢
          rw [List.mem_append, List.mem_singleton] at hp
          rcases hp with hp | rfl
          · have h5 := lb'.jl.pr p hp
            have h6 := ob.inv.refs p hp
            rw [hs, lvl_app (by omega)]
            exact h5
          · dsimp only
            rw [Int.toNat_natCast, Int.toNat_natCast]
            exact hm.2.1
        · dsimp only
          rw [hs, hu, ht]
          simp only [List.append_assoc]
      · obtain ⟨p, hp, rfl, e1, e2⟩ := lk_at hl
        refine ⟨hJ, ?_, [], by simp⟩
        have := hJ.pr p hp
        rw [e1, e2, Int.toNat_natCast, Int.toNat_natCast] at this
        exact this
theorem isD_mk {X R : Int} {l : List Nd} (hx0 : 0 ≤ X) (hx1 : X ≤ 20) (hn : l.length ≤ 2000) (hr0 : 0 ≤ R) (hr : R < (l.length : Int) + 2) (hg : Good l) (hl : LV X l) (hc : canS l R.toNat = (l, R)) : isD X l R = true := by
  unfold isD headB sameB nodesB
  simp only [Bool.and_eq_true, decide_eq_true_eq, List.all_eq_true, List.mem_range]
  refine ⟨⟨⟨⟨?_, hn⟩, ?_⟩, fun k hk => ?_⟩, trivial, by rw [hc], by rw [hc]⟩
  · unfold inB; simp only [decide_eq_true_eq]; omega
  · unfold inB; simp only [decide_eq_true_eq]; omega
  · obtain ⟨x, hx⟩ : ∃ x, l[k]? = some x := ⟨_, List.getElem?_eq_getElem hk⟩
    rw [getD_nd hx]
    obtain ⟨g1, g2, g3, g4, g5⟩ := hg k x hx
    obtain ⟨m1, m2, m3, m4⟩ := hl k x hx
    unfold okN inB
    simp only [Bool.and_eq_true, decide_eq_true_eq, Bool.not_eq_true', decide_eq_false_iff_not]
    omega
structure JD (X : Int) (la lb : List Nd) (d : List Nd × Int) : Prop where
  good : Good d.1
  lv : LV X d.1
  v0 : 0 ≤ d.2
  v1 : d.2 < (d.1.length : Int) + 2
  idem : canS d.1 d.2.toNat = d
  len : d.1.length ≤ (lb.length + 2) * (la.length + 2)
theorem joinD_ok (j : Int) {X : Int} {la lb : List Nd} (ha : VN X la) (hb : VN X lb) {ra rb : Nat} (hra : ra < la.length + 2) (hrb : rb < lb.length + 2) : JD X la lb (joinD j X la lb ra rb) := by
  have o : JOut la.length lb.length ([], []) (ra + rb) (joinS j X la lb ra rb) := jwk_out (j := j) ha hb (ra + rb + 1) ([], []) ra rb (by omega) hra hrb (jinv0 _ _)
  have q : JLo X la lb ([], []) ra rb (joinS j X la lb ra rb) := jwk_lv (j := j) ha hb (ra + rb + 1) ([], []) ra rb (by omega) hra hrb (jinv0 _ _) ⟨fun k x h => by simp at h, fun p h => by simp at h⟩
  have o1 := o.v0
  have o2 := o.v1
  have hr : (joinS j X la lb ra rb).2.toNat < (joinS j X la lb ra rb).1.2.length + 2 := by omega
  have hi := canS_idem o.inv.good o.inv.nodup hr
  have hI := canS_I o.inv.good o.inv.nodup hr
  have hle := canS_le o.inv.good hr
  refine ⟨hi.2.1, ?_, hi.2.2.1, hi.2.2.2, hi.1, ?_⟩
  · show LV X (canS _ _).1
    rw [hI.1]
    exact LV_img q.jl.lv hI.2.inv
  · exact Nat.le_trans hle o.inv.lt.1
theorem Good_fl {l : List Nd} (h : Good l) : Good (l.map flipN) := by
  intro k x hx
  rw [List.getElem?_map, Option.map_eq_some_iff] at hx
  obtain ⟨y, hy, rfl⟩ := hx
  obtain ⟨g1, g2, g3, g4, g5⟩ := h k y hy
  exact ⟨flipI_nn g1, flipI_lt (by omega) g2 g1, flipI_nn g3, flipI_lt (by omega) g4 g3, fun e => g5 ((flipI_inj g1 g3).1 e)⟩
theorem fl_fl {l : List Nd} (h : NN l) : (l.map flipN).map flipN = l := by
  rw [List.map_map]
  conv => rhs; rw [← List.map_id l]
  apply List.map_congr_left
  intro x hx
  have := h x hx
  show flipN (flipN x) = x
  cases x
  simp only [flipN, Nd.mk.injEq, true_and] at *
  exact ⟨flipI_flipI this.1, flipI_flipI this.2⟩
theorem nodup_fl {l : List Nd} (h : NN l) (hn : l.Nodup) : (l.map flipN).Nodup := by
  rw [List.Nodup, List.pairwise_map]
  refine List.Pairwise.imp_of_mem ?_ hn
  intro a b ha hb hne e
  exact hne ((flipN_inj (h a ha) (h b hb)).1 e)
theorem LV_fl {X : Int} {l : List Nd} (hg : Good l) (h : LV X l) : LV X (l.map flipN) := by
  intro k x hx
  rw [List.getElem?_map, Option.map_eq_some_iff] at hx
  obtain ⟨y, hy, rfl⟩ := hx
  obtain ⟨g1, g2, g3, g4, g5⟩ := hg k y hy
  have h1 := h k y hy
  have e1 : (flipN y).lo = flipI y.lo := rfl
  have e2 : (flipN y).hi = flipI y.hi := rfl
  have e3 : (flipN y).i = y.i := rfl
  rw [e1, e2, e3, flipI_toNat g1, flipI_toNat g3, lvl_fl, lvl_fl]
  exact h1
theorem fx_lt {r n : Nat} (h : r < n + 2) : fx r < n + 2 := by unfold fx; split <;> omega
theorem wlkI_fl {l : List Nd} (hg : Good l) : ∀ (f : Nat) (st : Cs) (r : Nat), r < f → r < l.length + 2 → (∀ q, st.1.getD q 0 = 0 ∨ (2 ≤ st.1.getD q 0 ∧ st.1.getD q 0 < (st.2.length : Int) + 2)) →
    wlkI (l.map flipN) f (st.1, st.2.map flipN) (fx r) = (((wlkI l f st r).1.1, (wlkI l f st r).1.2.map flipN), flipI (wlkI l f st r).2)
  | 0, _, _, h, _, _ => by omega
  | f + 1, st, r, hf, hr, hb => by
    by_cases h2 : r < 2
    · rw [wlkI_lo h2, wlkI_lo ((fx_lo r).2 h2), flipI_nat]
    · have e : fx r = r := by unfold fx; rw [if_neg h2]
      rw [e]
      by_cases h3 : 0 < st.1.getD r 0
      · rw [wlkI_old h2 h3, wlkI_old (st := (st.1, st.2.map flipN)) h2 h3]
        have := hb r
        dsimp only
        rw [flipI_hi (by omega)]
      · obtain ⟨k, x, rfl, hx⟩ := nd_at h2 hr
        obtain ⟨g1, g2, g3, g4, _⟩ := hg k x hx
        have hm : (l.map flipN)[k]? = some (flipN x) := by rw [List.getElem?_map, hx]; rfl
        have pa := wlkI_pre l f st x.lo.toNat (by omega) hg (by omega) hb
        have hA := wlkI_fl hg f st x.lo.toNat (by omega) (by omega) hb
        have hB := wlkI_fl hg f (wlkI l f st x.lo.toNat).1 x.hi.toNat (by omega) (by omega) pa.bd
        rw [← flipI_toNat g1] at hA
        rw [← flipI_toNat g3] at hB
        rw [wlkI_new hx h3 rfl rfl, wlkI_new (st := (st.1, st.2.map flipN)) hm h3 hA hB]
        dsimp only
        rw [List.length_map, List.map_append, flipI_hi (a := ((wlkI l f (wlkI l f st x.lo.toNat).1 x.hi.toNat).1.2.length : Int) + 2) (by omega)]
        rfl
theorem canS_fl {l : List Nd} (hg : Good l) (hn : l.Nodup) {r : Nat} (hr : r < l.length + 2) : canS (l.map flipN) (fx r) = ((canS l r).1.map flipN, flipI (canS l r).2) := by
  have hz : ∀ q, (List.replicate (l.length + 2) (0 : Int)).getD q 0 = 0 := fun q => by simp [List.getD_eq_getElem?_getD, List.getElem?_replicate]; split <;> simp
  rw [(canS_I hg hn hr).1, (canS_I (Good_fl hg) (nodup_fl hg.nn hn) (by rw [List.length_map]; exact fx_lt hr)).1]
  have h := wlkI_fl hg (l.length + 2) (List.replicate (l.length + 2) 0, []) r hr hr (fun q => .inl (hz q))
  have e : canI (l.map flipN) (fx r) = (((canI l r).1.1, (canI l r).1.2.map flipN), flipI (canI l r).2) := by
    rw [← show _ = canI l r from rfl]
    unfold canI
    rw [List.length_map]
    exact h
  rw [e]
/-- A negated diagram is one. -/
theorem isD_fl {X R : Int} {l : List Nd} (h : isD X l R = true) : isD X (l.map flipN) (flipI R) = true := by
  obtain ⟨hv, h0, h1, hn, hc⟩ := isD_VN h
  have hf := canS_fl hv.good hn (r := R.toNat) (by omega)
  rw [hc] at hf
  refine isD_mk hv.x0 hv.x1 (by rw [List.length_map]; exact hv.n) (flipI_nn h0) (by rw [List.length_map]; exact flipI_lt (by omega) h1 h0) (Good_fl hv.good) (LV_fl hv.good hv.lv) ?_
  rw [flipI_toNat h0]
  exact hf
/-- De Morgan. -/
theorem joinD_fl {X : Int} {la lb : List Nd} (ha : VN X la) (hb : VN X lb) {x y : Nat} (hx : x < la.length + 2) (hy : y < lb.length + 2) :
    joinD 1 X (la.map flipN) (lb.map flipN) (fx x) (fx y) = ((joinD 0 X la lb x y).1.map flipN, flipI (joinD 0 X la lb x y).2) := by
  have o : JOut la.length lb.length ([], []) (x + y) (joinS 0 X la lb x y) := jwk_out (j := 0) ha hb (x + y + 1) ([], []) x y (by omega) hx hy (jinv0 _ _)
  have o1 := o.v0
  have o2 := o.v1
  have hr : (joinS 0 X la lb x y).2.toNat < (joinS 0 X la lb x y).1.2.length + 2 := by omega
  have e := joinS_fl ha hb hx hy
  have hva : VN X (la.map flipN) := ⟨ha.x0, ha.x1, by rw [List.length_map]; exact ha.n, Good_fl ha.good, LV_fl ha.good ha.lv⟩
  have hvb : VN X (lb.map flipN) := ⟨hb.x0, hb.x1, by rw [List.length_map]; exact hb.n, Good_fl hb.good, LV_fl hb.good hb.lv⟩
  have e2 : joinS 1 X (la.map flipN) (lb.map flipN) (fx x) (fx y) = (flS (joinS 0 X la lb x y).1, flipI (joinS 0 X la lb x y).2) := by
    rw [← e]
    have hq : fx x + fx y ≤ x + y + 2 := by unfold fx; split <;> split <;> omega
    have hx' : fx x < (la.map flipN).length + 2 := by rw [List.length_map]; exact fx_lt hx
    have hy' : fx y < (lb.map flipN).length + 2 := by rw [List.length_map]; exact fx_lt hy
    exact jwk_fuel hva hvb _ _ _ _ _ (by omega) (by omega) hx' hy'
  unfold joinD
  rw [e2]
  dsimp only
  rw [flipI_toNat o1]
  exact canS_fl o.inv.good o.inv.nodup hr
end Go.Proofs.Ytndihacmlkgkbaa

/-! What FnDiagrams computes behind a join that is well: plain. Condition: few nodes. -/
namespace Go.Proofs.Ytndihacmlkgkbaa
open Go.RowKit

theorem join_C {j X RA RB : Int} {la lb : List Nd} (ha : isD X la RA = true) (hb : isD X lb RB = true) (hj : inB j 0 2 = true) (h1 : la.length ≤ 13) (h2 : lb.length ≤ 13) : joinC j X la RA X lb RB = 0 := by
  obtain ⟨va, a0, a1, _, _⟩ := isD_VN ha
  obtain ⟨vb, b0, b1, _, _⟩ := isD_VN hb
  have hd := joinD_ok j va vb (ra := RA.toNat) (rb := RB.toNat) (by omega) (by omega)
  have hl := hd.len
  have hm : (lb.length + 2) * (la.length + 2) ≤ 15 * 15 := Nat.mul_le_mul (by omega) (by omega)
  unfold joinC
  rw [if_pos ⟨ha, hb⟩, if_pos hj, if_pos rfl]
  unfold limC
  rw [if_neg (by omega)]
theorem join_D {j X RA RB : Int} {la lb : List Nd} (ha : isD X la RA = true) (hb : isD X lb RB = true) (h1 : la.length ≤ 13) (h2 : lb.length ≤ 13) : isD X (joinD j X la lb RA.toNat RB.toNat).1 (joinD j X la lb RA.toNat RB.toNat).2 = true := by
  obtain ⟨va, a0, a1, _, _⟩ := isD_VN ha
  obtain ⟨vb, b0, b1, _, _⟩ := isD_VN hb
  have hd := joinD_ok j va vb (ra := RA.toNat) (rb := RB.toNat) (by omega) (by omega)
  have hl := hd.len
  have hm : (lb.length + 2) * (la.length + 2) ≤ 15 * 15 := Nat.mul_le_mul (by omega) (by omega)
  exact isD_mk va.x0 va.x1 (by omega) hd.v0 hd.v1 hd.good hd.lv hd.idem
/-- The negated diagram, as the contracts tell it. -/
structure NotIs (X : Int) (l : List Nd) (R : Int) (l' : List Nd) (R' : Int) : Prop where
  ex : notX X l R = X
  el : notL X l R = l'
  er : notR X l R = R'
  ec : errD X l R = 0
theorem NotIs.len {X R R' : Int} {l l' : List Nd} (h : NotIs X l R l' R') : l.length ≤ 2000 := by
  have hc := h.ec
  unfold errD at hc
  by_cases hd : isD X l R = true
  · exact (isD_VN hd).1.n
  · rw [if_neg hd] at hc
    omega
theorem not_is {X R : Int} {l : List Nd} (h : isD X l R = true) : NotIs X l R (l.map flipN) (flipI R) := by
  refine ⟨?_, ?_, ?_, ?_⟩
  · unfold notX; rw [if_pos h]
  · unfold notL; rw [if_pos h]
  · unfold notR; rw [if_pos h]
  · unfold errD; rw [if_pos h]
theorem not_not {X R : Int} {l : List Nd} (h : isD X l R = true) : NotIs X (l.map flipN) (flipI R) l R := by
  have hf := not_is (isD_fl h)
  obtain ⟨va, a0, _, _, _⟩ := isD_VN h
  rw [fl_fl va.good.nn, flipI_flipI a0] at hf
  exact hf
structure JoinIs (j X : Int) (la : List Nd) (RA : Int) (lb : List Nd) (RB : Int) (l : List Nd) (R : Int) : Prop where
  ex : joinX j X la RA X lb RB = X
  el : joinL j X la RA X lb RB = l
  er : joinR j X la RA X lb RB = R
  ec : joinC j X la RA X lb RB = 0
theorem join_is {j X RA RB : Int} {la lb : List Nd} (h : joinC j X la RA X lb RB = 0) : JoinIs j X la RA lb RB (joinD j X la lb RA.toNat RB.toNat).1 (joinD j X la lb RA.toNat RB.toNat).2 := by
  refine ⟨?_, ?_, ?_, h⟩
  · unfold joinX resX; rw [if_pos h]
  · unfold joinL resL; rw [if_pos h]
  · unfold joinR resR; rw [if_pos h]
structure FD (j X : Int) (la : List Nd) (RA : Int) (lb : List Nd) (RB : Int) (x : List Nd) (Rx : Int) (all : List Nd) (Rall : Int) : Prop where
  p_x : JoinIs j X la RA lb RB x Rx
  p_n : NotIs X la RA (la.map flipN) (flipI RA)
  p_back : NotIs X (la.map flipN) (flipI RA) la RA
  p_m : NotIs X lb RB (lb.map flipN) (flipI RB)
  p_all : JoinIs 0 X la RA lb RB all Rall
  p_some : JoinIs 1 X (la.map flipN) (flipI RA) (lb.map flipN) (flipI RB) (all.map flipN) (flipI Rall)
  p_not : NotIs X all Rall (all.map flipN) (flipI Rall)
  p_swap : JoinIs j X lb RB la RA x Rx
  p_isx : isD X x Rx = true
set_option maxHeartbeats 1000000 in
theorem fd_of {j X Y RA RB : Int} {la lb : List Nd} (h : joinC j X la RA Y lb RB = 0) (h1 : la.length ≤ 13) (h2 : lb.length ≤ 13) : Y = X ∧ FD j X la RA lb RB (joinD j X la lb RA.toNat RB.toNat).1 (joinD j X la lb RA.toNat RB.toNat).2 (joinD 0 X la lb RA.toNat RB.toNat).1 (joinD 0 X la lb RA.toNat RB.toNat).2 := by
  have hp : (isD X la RA = true ∧ isD Y lb RB = true) ∧ inB j 0 2 = true ∧ X = Y := by
    unfold joinC at h
    by_cases c1 : isD X la RA = true ∧ isD Y lb RB = true
    · rw [if_pos c1] at h
      by_cases c2 : inB j 0 2 = true
      · rw [if_pos c2] at h
        by_cases c3 : X = Y
        · exact ⟨c1, c2, c3⟩
        · rw [if_neg c3] at h; omega
      · rw [if_neg c2] at h; omega
    · rw [if_neg c1] at h; omega
  obtain ⟨⟨ha, hb⟩, hj, rfl⟩ := hp
  obtain ⟨va, a0, a1, _, _⟩ := isD_VN ha
  obtain ⟨vb, b0, b1, _, _⟩ := isD_VN hb
  refine ⟨rfl, ⟨join_is h, not_is ha, not_not ha, not_is hb, join_is (join_C (j := 0) ha hb (by decide) h1 h2), ?_, not_is (join_D ha hb h1 h2), ?_, join_D ha hb h1 h2⟩⟩
  · have e := joinD_fl va vb (x := RA.toNat) (y := RB.toNat) (by omega) (by omega)
    have hc := join_C (j := 1) (isD_fl ha) (isD_fl hb) (by decide) (by rw [List.length_map]; exact h1) (by rw [List.length_map]; exact h2)
    have hi := join_is hc
    rw [flipI_toNat a0, flipI_toNat b0, e] at hi
    exact hi
  · have hc := join_C (j := j) hb ha hj h2 h1
    have hi := join_is hc
    rw [joinD_sw] at hi
    exact hi
theorem same_refl (X : Int) (l : List Nd) (R : Int) : sameB X l R X l R = true := by unfold sameB; simp
end Go.Proofs.Ytndihacmlkgkbaa
