/- What the search of delays keeps of memory; its measure. No condition. -/
import Derived.Test.YtackekfjalaacaaDoorDlU
namespace Go.Proofs.YtackekfjalaacaaDoor
open Go.RowKit

def decE (e : MapEntry) : En := ⟨(match e.key with | .string s => s | _ => ⟨#[]⟩), (match e.val with | .int _ v => v | _ => 0), e.born⟩
theorem decE_e (x : En) : decE x.e = x := rfl
/-- The measure of the search, read off memory. -/
def phiW (p : Prg) (inp : ByteArray) (w : World) (bm : Nat) : Nat := match w.heap[bm]? with | some (.map es _) => phi p inp (es.toList.map decE) | _ => 0
theorem phiW_eq {p : Prg} {inp : ByteArray} {w : World} {bm : Nat} {l : List En} {c : Nat} (h : MpA w bm l c) : phiW p inp w bm = phi p inp l := by
  unfold phiW
  rw [h.1]
  show phi p inp ((ents l).toList.map decE) = _
  rw [ents_list, List.map_map]
  congr 1
  exact (List.map_congr_left (fun x _ => decE_e x)).trans (List.map_id l)
/-- The search's memory: the program's box, the variable's box, the map. -/
structure DS (w wr : World) (b0 bf bm : Nat) (p : Prg) (a1 a2 a3 a4 : Option Addr) (c1 c2 c3 c4 : Nat) (l : List En) (c : Nat) : Prop where
  pb : PB wr b0 p a1 a2 a3 a4 c1 c2 c3 c4
  kf : wr.cell? ⟨bf, 0, none⟩ = some (.map (some bm))
  mp : MpA wr bm l c
  bel : Below w.heap.size w wr
  n1 : b0 ≠ bm
  n2 : bf ≠ bm
  n3 : w.heap.size ≤ bm
section
variable {w wr w' : World} {b0 bf bm : Nat} {p : Prg} {a1 a2 a3 a4 : Option Addr} {c1 c2 c3 c4 : Nat} {l l' : List En} {c c' : Nat}
theorem DS.below (h : DS w wr b0 bf bm p a1 a2 a3 a4 c1 c2 c3 c4 l c) (hb : Below wr.heap.size wr w') : DS w w' b0 bf bm p a1 a2 a3 a4 c1 c2 c3 c4 l c :=
  ⟨h.pb.below hb, cell_later hb h.kf, h.mp.below hb, below_chain h.bel hb, h.n1, h.n2, h.n3⟩
theorem cell_g {row : Option Nat} {a : Addr} {v : Value} (h : wr.cell? a = some v) (hg : wr.grownBy w' row) (hne : ∀ q, row = some q → a.block ≠ q) : w'.cell? a = some v :=
  (hg.cell_far a (World.block_lt_of_cell? wr a h) (fun h' => hne _ h'.symm rfl)).trans h
theorem PB.far {row : Option Nat} (h : PB wr b0 p a1 a2 a3 a4 c1 c2 c3 c4) (hg : wr.grownBy w' row) (hne : ∀ q, row = some q → b0 ≠ q) : PB w' b0 p a1 a2 a3 a4 c1 c2 c3 c4 :=
  ⟨cell_g h.1 hg hne, cell_g h.2.1 hg hne, cell_g h.2.2.1 hg hne, cell_g h.2.2.2.1 hg hne, cell_g h.2.2.2.2.1 hg hne, cell_g h.2.2.2.2.2 hg hne⟩
theorem DS.put (h : DS w wr b0 bf bm p a1 a2 a3 a4 c1 c2 c3 c4 l c) (hm : MpA w' bm l' c') (hg : wr.grownBy w' (some bm)) : DS w w' b0 bf bm p a1 a2 a3 a4 c1 c2 c3 c4 l' c' :=
  ⟨h.pb.far hg (fun q hq => by cases hq; exact h.n1), cell_g h.kf hg (fun q hq => by cases hq; exact h.n2), hm, below_of_grown h.bel hg (fun q hq => by cases hq; exact h.n3), h.n1, h.n2, h.n3⟩
theorem DS.other {row : Option Nat} (h : DS w wr b0 bf bm p a1 a2 a3 a4 c1 c2 c3 c4 l c) (hm : MpA w' bm l c) (hg : wr.grownBy w' row) (hr : ∀ q, row = some q → b0 ≠ q ∧ bf ≠ q ∧ w.heap.size ≤ q) : DS w w' b0 bf bm p a1 a2 a3 a4 c1 c2 c3 c4 l c :=
  ⟨h.pb.far hg (fun q hq => (hr q hq).1), cell_g h.kf hg (fun q hq => (hr q hq).2.1), hm, below_of_grown h.bel hg (fun q hq => (hr q hq).2.2), h.n1, h.n2, h.n3⟩
end
/-- The memory within the range over the map: the iterator and the line's box too. -/
structure DI (w wr : World) (b0 bf bm r bl : Nat) (p : Prg) (a1 a2 a3 a4 : Option Addr) (c1 c2 c3 c4 : Nat) (tg : ByteArray) (la : Option Addr) (n lc : Nat) (l : List En) (c since : Nat) (seen : List Nat) : Prop where
  ds : DS w wr b0 bf bm p a1 a2 a3 a4 c1 c2 c3 c4 l c
  it : Itr wr bm r l since seen
  x0 : wr.cell? ⟨bl, 0, none⟩ = some (.string tg)
  x1 : wr.cell? ⟨bl, 1, none⟩ = some (.slice la n lc)
  m1 : bl ≠ bm
  m2 : r ≠ b0 ∧ r ≠ bf ∧ r ≠ bl ∧ r ≠ bm ∧ w.heap.size ≤ r
section
variable {w wr w' : World} {b0 bf bm r bl : Nat} {p : Prg} {a1 a2 a3 a4 : Option Addr} {c1 c2 c3 c4 : Nat} {tg : ByteArray} {la : Option Addr} {n lc : Nat} {l l' : List En} {c c' since : Nat} {seen seen' : List Nat}
theorem DI.below (h : DI w wr b0 bf bm r bl p a1 a2 a3 a4 c1 c2 c3 c4 tg la n lc l c since seen) (hb : Below wr.heap.size wr w') : DI w w' b0 bf bm r bl p a1 a2 a3 a4 c1 c2 c3 c4 tg la n lc l c since seen :=
  ⟨h.ds.below hb, h.it.below hb, cell_later hb h.x0, cell_later hb h.x1, h.m1, h.m2⟩
theorem DI.step (h : DI w wr b0 bf bm r bl p a1 a2 a3 a4 c1 c2 c3 c4 tg la n lc l c since seen) (hm : MpA w' bm l c) (hi : Itr w' bm r l since seen') (hg : wr.grownBy w' (some r)) : DI w w' b0 bf bm r bl p a1 a2 a3 a4 c1 c2 c3 c4 tg la n lc l c since seen' :=
  ⟨h.ds.other hm hg (fun q hq => by cases hq; exact ⟨fun e => h.m2.1 e.symm, fun e => h.m2.2.1 e.symm, h.m2.2.2.2.2⟩), hi, cell_g h.x0 hg (fun q hq => by cases hq; exact fun e => h.m2.2.2.1 e.symm), cell_g h.x1 hg (fun q hq => by cases hq; exact fun e => h.m2.2.2.1 e.symm), h.m1, h.m2⟩
theorem DI.put (h : DI w wr b0 bf bm r bl p a1 a2 a3 a4 c1 c2 c3 c4 tg la n lc l c since seen) {s : ByteArray} {v : Int} (hm : MpA w' bm (rL l c s v) (rC l c s v)) (hg : wr.grownBy w' (some bm)) : DI w w' b0 bf bm r bl p a1 a2 a3 a4 c1 c2 c3 c4 tg la n lc (rL l c s v) (rC l c s v) since seen := by
  have hr : w'.heap[r]? = wr.heap[r]? := hg.block r h.it.lt (fun e => h.m2.2.2.2.1 (by simpa using e))
  refine ⟨h.ds.put hm hg, ?_, cell_g h.x0 hg (fun q hq => by cases hq; exact h.m1), cell_g h.x1 hg (fun q hq => by cases hq; exact h.m1), h.m1, h.m2⟩
  unfold rL
  split
  · exact h.it.put s v hr
  · obtain ⟨⟨c0, h1, h2⟩, h3, h4⟩ := h.it
    exact ⟨⟨c0, hr.trans h1, h2⟩, h3, h4⟩
end
/-- How far a sweep has come: something has changed and the search is nearer its end, or nothing has. -/
def SwP (p : Prg) (inp : ByteArray) (l0 : List En) (i : Nat) (ch : Bool) (l : List En) : Prop :=
  (ch = true ∧ phi p inp l < phi p inp l0) ∨ (ch = false ∧ l = l0 ∧ ∀ (j : Nat) (ln : Lin), j < i → p.ls[j]? = some ln → ∀ x ∈ l0, Cl p inp l0 j ln x)
/-- .. within a line's range. -/
def SwI (p : Prg) (inp : ByteArray) (l0 : List En) (i : Nat) (ln : Lin) (since : Nat) (seen : List Nat) (ch : Bool) (l : List En) : Prop :=
  (ch = true ∧ phi p inp l < phi p inp l0) ∨ (ch = false ∧ l = l0 ∧ (∀ (j : Nat) (ln : Lin), j < i → p.ls[j]? = some ln → ∀ x ∈ l0, Cl p inp l0 j ln x) ∧ (∀ x ∈ l0, x.b < since) ∧ ∀ x ∈ l0, x.b ∈ seen → Cl p inp l0 i ln x)
theorem SwP.enter {p : Prg} {inp : ByteArray} {l0 l : List En} {i : Nat} {ch : Bool} {c : Nat} (h : SwP p inp l0 i ch l) (ln : Lin) (hm : MOk l c) : SwI p inp l0 i ln c [] ch l := by
  rcases h with h | ⟨h1, h2, h3⟩
  · exact .inl h
  · subst h2
    exact .inr ⟨h1, rfl, h3, hm.old, fun x _ hb => by cases hb⟩
theorem SwI.leave {p : Prg} {inp : ByteArray} {l0 l : List En} {i : Nat} {ln : Lin} {ch : Bool} {since : Nat} {seen : List Nat} (h : SwI p inp l0 i ln since seen ch l) (hl : p.ls[i]? = some ln) (hd : ∀ x ∈ l, x.b < since → x.b ∈ seen) : SwP p inp l0 (i + 1) ch l := by
  rcases h with h | ⟨h1, h2, h3, h4, h5⟩
  · exact .inl h
  · refine .inr ⟨h1, h2, fun j lj hj hlj x hx => ?_⟩
    rcases Nat.lt_or_ge j i with hlt | hge
    · exact h3 j lj hlt hlj x hx
    · have : j = i := by omega
      subst this
      rw [hl] at hlj
      simp only [Option.some.injEq] at hlj
      subst hlj
      exact h5 x hx (hd x (h2 ▸ hx) (h4 x hx))
theorem born_one {l : List En} {c : Nat} (hm : MOk l c) {x y : En} (hx : x ∈ l) (hy : y ∈ l) (e : x.b = y.b) : x = y := by
  obtain ⟨i, hi, ei⟩ := List.getElem_of_mem hx
  obtain ⟨j, hj, ej⟩ := List.getElem_of_mem hy
  have hp := hm.brn
  rw [List.pairwise_iff_getElem] at hp
  rcases Nat.lt_trichotomy i j with h | h | h
  · exact absurd (by rw [ei, ej]; exact e) (hp i j hi hj h)
  · subst h; exact ei.symm.trans ej
  · exact absurd (by rw [ei, ej]; exact e.symm) (hp j i hj hi h)
/-- An entry that is not used in the line. -/
theorem SwI.pass {p : Prg} {inp : ByteArray} {l0 l : List En} {i : Nat} {ln : Lin} {ch : Bool} {since c : Nat} {seen : List Nat} {x : En} (h : SwI p inp l0 i ln since seen ch l) (hm : MOk l c) (hx : x ∈ l) (hc : Cl p inp l i ln x) : SwI p inp l0 i ln since (seen ++ [x.b]) ch l := by
  rcases h with h | ⟨h1, h2, h3, h4, h5⟩
  · exact .inl h
  · subst h2
    refine .inr ⟨h1, rfl, h3, h4, fun y hy hb => ?_⟩
    rcases List.mem_append.1 hb with hb | hb
    · exact h5 y hy hb
    · rw [List.mem_singleton] at hb
      have := born_one hm hy hx hb
      subst this
      exact hc
/-- An entry that is used in the line. -/
theorem SwI.use {p : Prg} {inp : ByteArray} {l0 l : List En} {i : Nat} {ln : Lin} {ch : Bool} {since c : Nat} {seen : List Nat} {x : En} (h : SwI p inp l0 i ln since seen ch l) (hv : Inv p inp l) (hm : MOk l c) (hl : p.ls[i]? = some ln) (hx : x ∈ l) :
    SwI p inp l0 i ln since (seen ++ [x.b]) (rB l ln.tg (x.v + wN p inp i x.s) || ch) (rL l c ln.tg (x.v + wN p inp i x.s)) := by
  cases hb : rB l ln.tg (x.v + wN p inp i x.s) with
  | true =>
    have e : rL l c ln.tg (x.v + wN p inp i x.s) = putE l c ln.tg (x.v + wN p inp i x.s) := by unfold rL; rw [hb]; rfl
    rw [e]
    have hlt := phi_store hv hm hl hx hb
    refine .inl ⟨rfl, ?_⟩
    rcases h with ⟨_, h⟩ | ⟨_, h, _⟩
    · omega
    · rw [h] at hlt ⊢; exact hlt
  | false =>
    have e : rL l c ln.tg (x.v + wN p inp i x.s) = l := by unfold rL; rw [hb]; rfl
    rw [e, Bool.false_or]
    exact h.pass hm hx (cl_of hb)
theorem Inv.r {p : Prg} {inp : ByteArray} {l : List En} {c : Nat} (hn : Nmd p) (hi : inp ∈ p.ins) (h : Inv p inp l) (hm : MOk l c) {i : Nat} {ln : Lin} {x : En} (hl : p.ls[i]? = some ln) (hx : x ∈ l) (hu : usB x.s ln = true) : Inv p inp (rL l c ln.tg (x.v + wN p inp i x.s)) := by
  unfold rL
  cases hb : rB l ln.tg (x.v + wN p inp i x.s) with
  | true => rw [if_pos rfl]; exact h.store hn hi hm hl hx hu hb
  | false => rw [if_neg (by decide)]; exact h
theorem gL_snoc (g : Int) (s : ByteArray) : ∀ (r : List ByteArray) (l : List En) (c : Nat), gL l c g (r ++ [s]) = (rL (gL l c g r).1 (gL l c g r).2 s g, rC (gL l c g r).1 (gL l c g r).2 s g)
  | [], _, _ => rfl
  | t :: r, l, c => gL_snoc g s r (rL l c t g) (rC l c t g)
end Go.Proofs.YtackekfjalaacaaDoor
