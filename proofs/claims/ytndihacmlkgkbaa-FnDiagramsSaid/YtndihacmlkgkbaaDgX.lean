/- Contract of the forest's canonical. Condition: the nodes are different and lead to earlier ones; the sizes. -/
import Derived.Test.YtndihacmlkgkbaaDgV
namespace Go.Proofs.Ytndihacmlkgkbaa
open Go.RowKit Go.Maps Go.WideMaps

theorem own_box (w : World) (base : Nat) (t : TypeId) (xs : List Value) (s : Nat) (h : xs.length = s) (hb : base ≤ w.heap.size) : (w.alloc (.cells xs.toArray t)).ownsRow base t s (.slice (some ⟨w.heap.size, 0, none⟩) 1 1) 1 xs := by
  subst h
  have h := World.ownsRow_lit (e := t) (size := xs.length) (base := base) w xs.toArray 1 hb (by decide) (by simp)
  simpa using h
theorem made_VB (bf : Nat) (X : Int) (N : Nat) (w w5 w6 : World) (hg1 : ((((w.alloc (.cells #[.pointer (some ⟨bf, 0, none⟩)] 62)).alloc (.cells #[.int .i64 0, .slice none 0 0, .int .i64 0] 29)).alloc (.cells #[.int .i64 X, .slice none 0 0, .int .i64 0] 29)).alloc (.map #[] 0)).grownBy w5 (some (w.heap.size + 1 + 1 + 1))) (hg2 : w5.grownBy w6 (some (w.heap.size + 1 + 1 + 1))) (hm : MapI 2 w6 (w.heap.size + 1 + 1 + 1) 2 (plF (List.replicate N 0))) :
    VB w.heap.size ((w6.alloc (.cells #[.map (some (w.heap.size + 1 + 1 + 1))] 96)).alloc (.cells #[visF w6.heap.size w.heap.size (w6.heap.size + 1) (w.heap.size + 1 + 1)] 64)) w6.heap.size w.heap.size (w6.heap.size + 1) (w.heap.size + 1 + 1) (w.heap.size + 1 + 1 + 1) bf X (.slice none 0 0) (List.replicate N 0, []) ∧ ((w6.alloc (.cells #[.map (some (w.heap.size + 1 + 1 + 1))] 96)).alloc (.cells #[visF w6.heap.size w.heap.size (w6.heap.size + 1) (w.heap.size + 1 + 1)] 64)).ownsRow w.heap.size 29 3 (.slice (some ⟨w.heap.size + 1, 0, none⟩) 1 1) 1 [.int .i64 0, .slice none 0 0, .int .i64 0] ∧ Below w.heap.size w ((w6.alloc (.cells #[.map (some (w.heap.size + 1 + 1 + 1))] 96)).alloc (.cells #[visF w6.heap.size w.heap.size (w6.heap.size + 1) (w.heap.size + 1 + 1)] 64)) := by
  have s1 : (w.alloc (.cells #[.pointer (some ⟨bf, 0, none⟩)] 62)).heap.size = w.heap.size + 1 := by simp
  have s2 : ((w.alloc (.cells #[.pointer (some ⟨bf, 0, none⟩)] 62)).alloc (.cells #[.int .i64 0, .slice none 0 0, .int .i64 0] 29)).heap.size = w.heap.size + 1 + 1 := by simp
  have s3 : (((w.alloc (.cells #[.pointer (some ⟨bf, 0, none⟩)] 62)).alloc (.cells #[.int .i64 0, .slice none 0 0, .int .i64 0] 29)).alloc (.cells #[.int .i64 X, .slice none 0 0, .int .i64 0] 29)).heap.size = w.heap.size + 1 + 1 + 1 := by simp
  have s4 : ((((w.alloc (.cells #[.pointer (some ⟨bf, 0, none⟩)] 62)).alloc (.cells #[.int .i64 0, .slice none 0 0, .int .i64 0] 29)).alloc (.cells #[.int .i64 X, .slice none 0 0, .int .i64 0] 29)).alloc (.map #[] 0)).heap.size = w.heap.size + 1 + 1 + 1 + 1 := by simp
  have a1 := own_box w w.heap.size 62 [.pointer (some ⟨bf, 0, none⟩)] 1 rfl (Nat.le_refl _)
  have a2 := own_box (w.alloc (.cells #[.pointer (some ⟨bf, 0, none⟩)] 62)) w.heap.size 29 [.int .i64 0, .slice none 0 0, .int .i64 0] 3 rfl (by omega)
  have a3 := own_box ((w.alloc (.cells #[.pointer (some ⟨bf, 0, none⟩)] 62)).alloc (.cells #[.int .i64 0, .slice none 0 0, .int .i64 0] 29)) w.heap.size 29 [.int .i64 X, .slice none 0 0, .int .i64 0] 3 rfl (by omega)
  rw [s1] at a2
  rw [s2] at a3
  have c1 := own_below (own_below (own_below a1 (below_alloc (Below.refl _ _) _)) (below_alloc (Below.refl _ _) _)) (below_alloc (Below.refl (((w.alloc (.cells #[.pointer (some ⟨bf, 0, none⟩)] 62)).alloc (.cells #[.int .i64 0, .slice none 0 0, .int .i64 0] 29)).alloc (.cells #[.int .i64 X, .slice none 0 0, .int .i64 0] 29)).heap.size (((w.alloc (.cells #[.pointer (some ⟨bf, 0, none⟩)] 62)).alloc (.cells #[.int .i64 0, .slice none 0 0, .int .i64 0] 29)).alloc (.cells #[.int .i64 X, .slice none 0 0, .int .i64 0] 29))) (.map #[] 0))
  have c2 := own_below (own_below a2 (below_alloc (Below.refl _ _) _)) (below_alloc (Below.refl (((w.alloc (.cells #[.pointer (some ⟨bf, 0, none⟩)] 62)).alloc (.cells #[.int .i64 0, .slice none 0 0, .int .i64 0] 29)).alloc (.cells #[.int .i64 X, .slice none 0 0, .int .i64 0] 29)).heap.size (((w.alloc (.cells #[.pointer (some ⟨bf, 0, none⟩)] 62)).alloc (.cells #[.int .i64 0, .slice none 0 0, .int .i64 0] 29)).alloc (.cells #[.int .i64 X, .slice none 0 0, .int .i64 0] 29))) (.map #[] 0))
  have c3 := own_below a3 (below_alloc (Below.refl (((w.alloc (.cells #[.pointer (some ⟨bf, 0, none⟩)] 62)).alloc (.cells #[.int .i64 0, .slice none 0 0, .int .i64 0] 29)).alloc (.cells #[.int .i64 X, .slice none 0 0, .int .i64 0] 29)).heap.size (((w.alloc (.cells #[.pointer (some ⟨bf, 0, none⟩)] 62)).alloc (.cells #[.int .i64 0, .slice none 0 0, .int .i64 0] 29)).alloc (.cells #[.int .i64 X, .slice none 0 0, .int .i64 0] 29))) (.map #[] 0))
  have ne : ∀ k, k < w.heap.size + 1 + 1 + 1 → (Value.slice (some ⟨k, 0, none⟩) 1 1).ownBlock ≠ some (w.heap.size + 1 + 1 + 1) := fun k hk e => by
    simp [Value.ownBlock] at e
    omega
  have d1 := (c1.kept hg1 (.inr (ne _ (by omega)))).kept hg2 (.inr (ne _ (by omega)))
  have d2 := (c2.kept hg1 (.inr (ne _ (by omega)))).kept hg2 (.inr (ne _ (by omega)))
  have d3 := (c3.kept hg1 (.inr (ne _ (by omega)))).kept hg2 (.inr (ne _ (by omega)))
  have hz1 := hg1.size
  have hz2 := hg2.size
  rw [s4] at hz1
  have f1 := own_box w6 w.heap.size 96 [.map (some (w.heap.size + 1 + 1 + 1))] 1 rfl (by omega)
  have f2 := own_box (w6.alloc (.cells #[.map (some (w.heap.size + 1 + 1 + 1))] 96)) w.heap.size 64 [visF w6.heap.size w.heap.size (w6.heap.size + 1) (w.heap.size + 1 + 1)] 1 rfl (by simp; omega)
  rw [show (w6.alloc (.cells #[.map (some (w.heap.size + 1 + 1 + 1))] 96)).heap.size = w6.heap.size + 1 by simp] at f2
  have hb67 : Below w6.heap.size w6 ((w6.alloc (.cells #[.map (some (w.heap.size + 1 + 1 + 1))] 96)).alloc (.cells #[visF w6.heap.size w.heap.size (w6.heap.size + 1) (w.heap.size + 1 + 1)] 64)) := below_alloc (below_alloc (Below.refl _ _) _) _
  refine ⟨⟨own_below f1 (below_alloc (Below.refl _ _) _), own_below d1 hb67, f2, own_below d3 hb67, own_nil _ _ _ _, hm.below hb67, by omega⟩, own_below d2 hb67, ?_⟩
  have hB4 : Below w.heap.size w ((((w.alloc (.cells #[.pointer (some ⟨bf, 0, none⟩)] 62)).alloc (.cells #[.int .i64 0, .slice none 0 0, .int .i64 0] 29)).alloc (.cells #[.int .i64 X, .slice none 0 0, .int .i64 0] 29)).alloc (.map #[] 0)) := below_alloc (below_alloc (below_alloc (below_alloc (Below.refl _ _) _) _) _) _
  exact below_chain (below_of_grown (below_of_grown hB4 hg1 (by intro q hq; simp at hq; omega)) hg2 (by intro q hq; simp at hq; omega)) hb67
theorem cinv0 {nodes : List Nd} : CInv nodes (List.replicate (nodes.length + 2) 0, []) := by
  have hz : ∀ q, (List.replicate (nodes.length + 2) (0 : Int)).getD q 0 = 0 := fun q => by simp [List.getD_eq_getElem?_getD, List.getElem?_replicate]; split <;> simp
  exact ⟨by simp, fun q _ => .inl (hz q), fun k x _ h => absurd (hz _) h, fun j y h => by simp at h, fun q q' _ _ h => absurd (hz _) h⟩
set_option maxHeartbeats 1000000 in
set_option maxRecDepth 100000 in
theorem c_canonical (bf : Nat) (X : Int) (A : Option Addr) (c n : Nat) (nodes : List Nd) (r : Nat) (w : World) (hn : n = nodes.length) (hs : n ≤ 1099511627000) (hg : Good nodes) (hnd : nodes.Nodup) (hr : r < n + 2) (e0 : w.cell? ⟨bf, 0, none⟩ = some (.int .i64 X)) (e1 : w.cell? ⟨bf, 1, none⟩ = some (.slice A n c)) (hrd : Rd w A (ndCells nodes)) :
    Calls Try.prog 48 #[.pointer (some ⟨bf, 0, none⟩), .int .i64 r] w (RetDg X (canS nodes r).1 (canS nodes r).2 w) := by
  have hmm := @run_makeMap Try.prog
  have hmf : ∀ (fn : Fn) (first cap : Array Value) (w : World), (Instr.makeFunc fn first cap).run Try.prog w = .ok (.func fn first cap) w := fun _ _ _ _ => rfl
  have hsf : ∀ (w : World) (a : Addr) (m : Mode) (fn : Fn) (first cap : Array Value), (store a (.func fn first cap) m).run Try.prog w = stored Try.prog w a (.func fn first cap) m := fun w a m _ _ _ => run_store Try.prog w a _ m rfl
  have lb := World.block_lt_of_cell? _ _ e0
  dsimp only at lb
  have HRD := Lib.hid hrd
  have HN := Lib.hid hn
  have HG := Lib.hid hg
  have HD := Lib.hid hnd
  clear hrd hn hg hnd
  have hm0 := MapI.made 2 (((w.alloc (.cells #[.pointer (some ⟨bf, 0, none⟩)] 62)).alloc (.cells #[.int .i64 0, .slice none 0 0, .int .i64 0] 29)).alloc (.cells #[.int .i64 X, .slice none 0 0, .int .i64 0] 29))
  have hs3 : (((w.alloc (.cells #[.pointer (some ⟨bf, 0, none⟩)] 62)).alloc (.cells #[.int .i64 0, .slice none 0 0, .int .i64 0] 29)).alloc (.cells #[.int .i64 X, .slice none 0 0, .int .i64 0] 29)).heap.size = w.heap.size + 1 + 1 + 1 := by simp
  rw [hs3] at hm0
  obtain ⟨w5, hz1, hm1, hg1⟩ := hm0.put lawInt Try.underlying96 (keyInt (z := 0) (by unfold wfI; decide)) (z := 0) (by decide) (by decide) (plF_zero (nodes.length + 2)).1
  obtain ⟨w6, hz2, hm2, hg2⟩ := hm1.put lawInt Try.underlying96 (keyInt (z := 1) (by unfold wfI; decide)) (z := 1) (by decide) (by decide) (plF_zero (nodes.length + 2)).2
  have HM2 := Lib.hid hm2
  have HG1 := Lib.hid hg1
  have HG2 := Lib.hid hg2
  clear hm0 hm1 hm2 hg1 hg2
  have hs6 : w.heap.size + 1 + 1 + 1 < w6.heap.size := HM2.out.lt
  clear hs3
  go_enter Try.func48, Try.ntmps48
  go_wp2_with (fail)
  obtain ⟨hV, hR, hB⟩ := made_VB bf X (nodes.length + 2) w w5 w6 HG1.out HG2.out HM2.out
  unfold visF at hV hR hB
  generalize ((w6.alloc (.cells #[.map (some (w.heap.size + 1 + 1 + 1))] 96)).alloc (.cells #[.func (.func 71) #[] #[.pointer (some ⟨w6.heap.size, 0, none⟩), .pointer (some ⟨w.heap.size, 0, none⟩), .pointer (some ⟨w6.heap.size + 1, 0, none⟩), .pointer (some ⟨w.heap.size + 1 + 1, 0, none⟩)]] 64)) = W7 at *
  have hp0 : ∀ q, 0 ≤ (List.replicate (nodes.length + 2) (0 : Int)).getD q 0 := fun q => by simp [List.getD_eq_getElem?_getD, List.getElem?_replicate]; split <;> simp
  refine (c_visit w.heap.size w6.heap.size w.heap.size (w6.heap.size + 1) (w.heap.size + 1 + 1) (w.heap.size + 1 + 1 + 1) bf X A c n nodes w HN.out hs HG.out HD.out e1 HRD.out (Nat.le_refl _) (nodes.length + 2) (List.replicate (nodes.length + 2) 0, []) r (.slice none 0 0) W7 (by have := HN.out; omega) hr cinv0 hp0 (by rw [cnt_zero]; exact Nat.le_refl 0) hB hB.size hV).mono ?_
  rintro e w8 ⟨rfl, v8, hV8, hF8, hR8⟩
  have HCV : Hid (canS nodes r = ((wlk nodes (nodes.length + 2) (List.replicate (nodes.length + 2) 0, []) r).1.2, (wlk nodes (nodes.length + 2) (List.replicate (nodes.length + 2) 0, []) r).2)) := Lib.hid rfl
  generalize wlk nodes (nodes.length + 2) (List.replicate (nodes.length + 2) 0, []) r = R at *
  obtain ⟨A8, c8, rfl⟩ := own_shape hV8.r
  have HR8 := Lib.hid (PR.own hF8 hR (by
    rintro g cur fz hg (⟨h, _⟩ | ⟨_, es, c, h⟩)
    · simp [Value.ownBlock] at hg
      omega
    · simp at h) (fun q hq => by simp [Value.ownBlock]))
  have hB8 := hB.trans (PR.below hF8 hB.size)
  have hst := hV8.d.stored 2 (.int .i64 R.2)
  simp only [List.set_cons_zero, List.set_cons_succ] at hst
  have HD9 := Lib.hid hst.1
  have HR9 := Lib.hid (HR8.out.kept hst.2 (.inr (by simp [Value.ownBlock])))
  have HN9 := Lib.hid (own_other hV8.r hV8.d (by decide) hst.2)
  have HB9 := Lib.hid (show Below w.heap.size w (w8.setCell ⟨w.heap.size + 1 + 1, 2, none⟩ (.int .i64 R.2)) from below_set hB8 _ (by simp; omega))
  have g2 := hV8.d.cellAt 2 (by decide)
  have f2 := hV8.d.frozenAt 2
  simp only [List.getElem?_cons_zero, List.getElem?_cons_succ] at g2
  have p0 := HD9.out.cellAt 0 (by decide)
  have p1 := HD9.out.cellAt 1 (by decide)
  have p2 := HD9.out.cellAt 2 (by decide)
  simp only [List.getElem?_cons_zero, List.getElem?_cons_succ] at p0 p1 p2
  have q0 := HR9.out.cellAt 0 (by decide)
  have q1 := HR9.out.cellAt 1 (by decide)
  have q2 := HR9.out.cellAt 2 (by decide)
  simp only [List.getElem?_cons_zero, List.getElem?_cons_succ] at q0 q1 q2
  have t0 := HR9.out.frozenAt 0
  have t1 := HR9.out.frozenAt 1
  have t2 := HR9.out.frozenAt 2
  clear hV hR hB hV8 hF8 hR8 hst hB8 hp0 hz1 hz2 HM2 HG1 HG2
  go_wp2_with (fail)
  rw [HCV.out]
  obtain ⟨r0, r1, r2, r3, r4⟩ := dg_box HR9.out HN9.out HB9.out (.int .i64 X) (.slice A8 R.1.2.length c8) (.int .i64 R.2)
  clear HR9 HN9 HB9 HD9 p0 p1 p2 q0 q1 q2 t0 t1 t2 g2 f2 hmm hmf hsf
  generalize (((w8.setCell ⟨w.heap.size + 1 + 1, 2, none⟩ (.int .i64 R.2)).setCell ⟨w.heap.size + 1, 0, none⟩ (.int .i64 X)).setCell ⟨w.heap.size + 1, 1, none⟩ (.slice A8 R.1.2.length c8)).setCell ⟨w.heap.size + 1, 2, none⟩ (.int .i64 R.2) = WF at *
  refine bodyPost_ret (v := .agg #[.int .i64 X, .slice A8 R.1.2.length c8, .int .i64 R.2]) (by simp [results, Try.results48, go_sem, r0, r1, r2]) rfl ⟨A8, c8, rfl, r3, r4⟩
end Go.Proofs.Ytndihacmlkgkbaa
