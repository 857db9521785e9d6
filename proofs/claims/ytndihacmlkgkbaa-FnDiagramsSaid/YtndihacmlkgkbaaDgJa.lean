/- Contract of joinAll. Condition: the nodes are valid; the sizes. -/
import Derived.Test.YtndihacmlkgkbaaDgJv
namespace Go.Proofs.Ytndihacmlkgkbaa
open Go.RowKit Go.Maps Go.WideMaps

theorem FO.mono {lo lo' bf bm : Nat} {X : Int} {v : Value} {w : World} {out : List Nd} (h : FO lo w bf bm X v out) (hl : lo' ≤ lo) : FO lo' w bf bm X v out :=
  ⟨own_mono h.1 hl, own_mono h.2.1 hl, h.2.2.1, Nat.le_trans hl h.2.2.2⟩
theorem made_JB (j X RA RB : Int) (A : Option Addr) (c n : Nat) (A' : Option Addr) (c' n' : Nat) (w w5 : World) (hb : Below (w.heap.size + 1 + 1 + 1) (((w.alloc (.cells #[.int .i64 j] 2)).alloc (.cells #[.int .i64 X, .slice A n c, .int .i64 RA] 29)).alloc (.cells #[.int .i64 X, .slice A' n' c', .int .i64 RB] 29)) w5) (hfo : FO (w.heap.size + 1 + 1 + 1) w5 (w.heap.size + 1 + 1 + 1 + 1) (w.heap.size + 1 + 1 + 1) X (.slice none 0 0) []) :
    JB w.heap.size w.heap.size (w5.heap.size + 1 + 1) (w.heap.size + 1) (w.heap.size + 1 + 1) w5.heap.size (w5.heap.size + 1 + 1 + 1) (w5.heap.size + 1) (w.heap.size + 1 + 1 + 1 + 1) (w.heap.size + 1 + 1 + 1) j X [.int .i64 X, .slice A n c, .int .i64 RA] [.int .i64 X, .slice A' n' c', .int .i64 RB] ((((w5.alloc (.cells #[.pointer (some ⟨w.heap.size + 1 + 1 + 1 + 1, 0, none⟩)] 62)).alloc (.map #[] 0)).alloc (.cells #[.map (some (w5.heap.size + 1))] 104)).alloc (.cells #[(jvF w.heap.size (w5.heap.size + 1 + 1) (w.heap.size + 1) (w.heap.size + 1 + 1) w5.heap.size (w5.heap.size + 1 + 1 + 1))] 99)) (.slice none 0 0) ([], []) ∧ Below w.heap.size w ((((w5.alloc (.cells #[.pointer (some ⟨w.heap.size + 1 + 1 + 1 + 1, 0, none⟩)] 62)).alloc (.map #[] 0)).alloc (.cells #[.map (some (w5.heap.size + 1))] 104)).alloc (.cells #[(jvF w.heap.size (w5.heap.size + 1 + 1) (w.heap.size + 1) (w.heap.size + 1 + 1) w5.heap.size (w5.heap.size + 1 + 1 + 1))] 99)) := by
  have s1 : (w.alloc (.cells #[.int .i64 j] 2)).heap.size = w.heap.size + 1 := by simp
  have s2 : ((w.alloc (.cells #[.int .i64 j] 2)).alloc (.cells #[.int .i64 X, .slice A n c, .int .i64 RA] 29)).heap.size = w.heap.size + 1 + 1 := by simp
  have s3 : (((w.alloc (.cells #[.int .i64 j] 2)).alloc (.cells #[.int .i64 X, .slice A n c, .int .i64 RA] 29)).alloc (.cells #[.int .i64 X, .slice A' n' c', .int .i64 RB] 29)).heap.size = w.heap.size + 1 + 1 + 1 := by simp
  have t1 : (w5.alloc (.cells #[.pointer (some ⟨w.heap.size + 1 + 1 + 1 + 1, 0, none⟩)] 62)).heap.size = w5.heap.size + 1 := by simp
  have t2 : ((w5.alloc (.cells #[.pointer (some ⟨w.heap.size + 1 + 1 + 1 + 1, 0, none⟩)] 62)).alloc (.map #[] 0)).heap.size = w5.heap.size + 1 + 1 := by simp
  have t3 : (((w5.alloc (.cells #[.pointer (some ⟨w.heap.size + 1 + 1 + 1 + 1, 0, none⟩)] 62)).alloc (.map #[] 0)).alloc (.cells #[.map (some (w5.heap.size + 1))] 104)).heap.size = w5.heap.size + 1 + 1 + 1 := by simp
  rw [← s3] at hb
  have hz5 : w.heap.size + 1 + 1 + 1 + 1 < w5.heap.size := (own_ge hfo.1).2
  have b57 : Below w5.heap.size w5 ((((w5.alloc (.cells #[.pointer (some ⟨w.heap.size + 1 + 1 + 1 + 1, 0, none⟩)] 62)).alloc (.map #[] 0)).alloc (.cells #[.map (some (w5.heap.size + 1))] 104)).alloc (.cells #[(jvF w.heap.size (w5.heap.size + 1 + 1) (w.heap.size + 1) (w.heap.size + 1 + 1) w5.heap.size (w5.heap.size + 1 + 1 + 1))] 99)) := below_alloc (below_alloc (below_alloc (below_alloc (Below.refl _ _) _) _) _) _
  have b13 : Below (w.alloc (.cells #[.int .i64 j] 2)).heap.size (w.alloc (.cells #[.int .i64 j] 2)) (((w.alloc (.cells #[.int .i64 j] 2)).alloc (.cells #[.int .i64 X, .slice A n c, .int .i64 RA] 29)).alloc (.cells #[.int .i64 X, .slice A' n' c', .int .i64 RB] 29)) := below_alloc (below_alloc (Below.refl _ _) _) _
  have b23 : Below ((w.alloc (.cells #[.int .i64 j] 2)).alloc (.cells #[.int .i64 X, .slice A n c, .int .i64 RA] 29)).heap.size ((w.alloc (.cells #[.int .i64 j] 2)).alloc (.cells #[.int .i64 X, .slice A n c, .int .i64 RA] 29)) (((w.alloc (.cells #[.int .i64 j] 2)).alloc (.cells #[.int .i64 X, .slice A n c, .int .i64 RA] 29)).alloc (.cells #[.int .i64 X, .slice A' n' c', .int .i64 RB] 29)) := below_alloc (Below.refl _ _) _
  have hB : Below w.heap.size w ((((w5.alloc (.cells #[.pointer (some ⟨w.heap.size + 1 + 1 + 1 + 1, 0, none⟩)] 62)).alloc (.map #[] 0)).alloc (.cells #[.map (some (w5.heap.size + 1))] 104)).alloc (.cells #[(jvF w.heap.size (w5.heap.size + 1 + 1) (w.heap.size + 1) (w.heap.size + 1 + 1) w5.heap.size (w5.heap.size + 1 + 1 + 1))] 99)) := below_chain (below_chain (below_alloc (below_alloc (below_alloc (Below.refl _ _) _) _) _) hb) b57
  have j1 := own_box w w.heap.size 2 [.int .i64 j] 1 rfl (Nat.le_refl _)
  have a1 := own_box (w.alloc (.cells #[.int .i64 j] 2)) w.heap.size 29 [.int .i64 X, .slice A n c, .int .i64 RA] 3 rfl (by omega)
  have d1 := own_box ((w.alloc (.cells #[.int .i64 j] 2)).alloc (.cells #[.int .i64 X, .slice A n c, .int .i64 RA] 29)) w.heap.size 29 [.int .i64 X, .slice A' n' c', .int .i64 RB] 3 rfl (by omega)
  rw [s1] at a1
  rw [s2] at d1
  have p1 := own_box w5 w.heap.size 62 [.pointer (some ⟨w.heap.size + 1 + 1 + 1 + 1, 0, none⟩)] 1 rfl (by omega)
  have m1 := own_box ((w5.alloc (.cells #[.pointer (some ⟨w.heap.size + 1 + 1 + 1 + 1, 0, none⟩)] 62)).alloc (.map #[] 0)) w.heap.size 104 [.map (some (w5.heap.size + 1))] 1 rfl (by omega)
  have f1 := own_box (((w5.alloc (.cells #[.pointer (some ⟨w.heap.size + 1 + 1 + 1 + 1, 0, none⟩)] 62)).alloc (.map #[] 0)).alloc (.cells #[.map (some (w5.heap.size + 1))] 104)) w.heap.size 99 [(jvF w.heap.size (w5.heap.size + 1 + 1) (w.heap.size + 1) (w.heap.size + 1 + 1) w5.heap.size (w5.heap.size + 1 + 1 + 1))] 1 rfl (by omega)
  rw [t2] at m1
  rw [t3] at f1
  have k1 := MapI.made 105 (w5.alloc (.cells #[.pointer (some ⟨w.heap.size + 1 + 1 + 1 + 1, 0, none⟩)] 62))
  rw [t1] at k1
  refine ⟨⟨own_below (own_below (own_below j1 b13) hb) b57, own_below m1 (below_alloc (Below.refl _ _) _), own_below (own_below (own_below a1 b23) hb) b57, own_below (own_below d1 hb) b57, own_below p1 (below_alloc (below_alloc (below_alloc (Below.refl _ _) _) _) _), f1, (hfo.mono (by omega)).below b57, ?_, by omega, by omega⟩, hB⟩
  show MapI _ _ _ 0 (prF [])
  rw [prF_nil]
  exact k1.below (below_alloc (below_alloc (Below.refl _ _) _) _)
set_option maxHeartbeats 1000000 in
set_option maxRecDepth 100000 in
theorem c_joinAll (j X : Int) (ra rb : Nat) (A : Option Addr) (c n : Nat) (la : List Nd) (A' : Option Addr) (c' n' : Nat) (lb : List Nd) (w : World) (hn : n = la.length) (hn' : n' = lb.length) (ha : VN X la) (hb : VN X lb) (hra : Rd w A (ndCells la)) (hrb : Rd w A' (ndCells lb)) (hr : ra < n + 2) (hr' : rb < n' + 2) :
    Calls Try.prog 65 #[.int .i64 j, .agg #[.int .i64 X, .slice A n c, .int .i64 ra], .agg #[.int .i64 X, .slice A' n' c', .int .i64 rb]] w fun e w' => ∃ bf bmf v, e = .returned (.tuple #[.pointer (some ⟨bf, 0, none⟩), .int .i64 (joinS j X la lb ra rb).2]) ∧ FO w.heap.size w' bf bmf X v (joinS j X la lb ra rb).1.2 ∧ Below w.heap.size w w' := by
  have hmm := @run_makeMap Try.prog
  have hmf : ∀ (fn : Fn) (first cap : Array Value) (w : World), (Instr.makeFunc fn first cap).run Try.prog w = .ok (.func fn first cap) w := fun _ _ _ _ => rfl
  have hsf : ∀ (w : World) (a : Addr) (m : Mode) (fn : Fn) (first cap : Array Value), (store a (.func fn first cap) m).run Try.prog w = stored Try.prog w a (.func fn first cap) m := fun w a m _ _ _ => run_store Try.prog w a _ m rfl
  have HJV := Lib.hid (fun bJ bM bA bB bF bV bm bf bmf w1 h1 h2 h3 => c_jvisit w.heap.size bJ bM bA bB bF bV bm bf bmf j X ra rb A c n la A' c' n' lb w hn hn' ha hb hra hrb (Nat.le_refl _) (ra + rb + 1) ([], []) ra rb (.slice none 0 0) w1 (by omega) hr hr' (jinv0 _ _) h1 h2 h3)
  have HS : Hid (jwk j X la lb (ra + rb + 1) ([], []) ra rb = joinS j X la lb ra rb) := Lib.hid rfl
  rw [HS.out] at HJV
  generalize joinS j X la lb ra rb = JS at *
  clear hn hn' ha hb hra hrb HS
  go_enter Try.func65, Try.ntmps65
  go_wp2_with (fail)
  refine (c_newForest X _).mono ?_
  rintro e w5 ⟨rfl, hfo, hb5⟩
  have s3 : (((w.alloc (.cells #[.int .i64 j] 2)).alloc (.cells #[.int .i64 X, .slice A n c, .int .i64 ra] 29)).alloc (.cells #[.int .i64 X, .slice A' n' c', .int .i64 rb] 29)).heap.size = w.heap.size + 1 + 1 + 1 := by simp
  rw [s3] at hfo hb5
  obtain ⟨hJ, hB⟩ := made_JB j X ra rb A c n A' c' n' w w5 hb5 hfo
  obtain ⟨d0, d1, d2⟩ := hJ.cA
  obtain ⟨e0, e1, e2⟩ := hJ.cB
  have HCall := Lib.hid (HJV.out _ _ _ _ _ _ _ _ _ _ hB hB.size hJ)
  have HB := Lib.hid hB
  unfold jvF at d0 d1 d2 e0 e1 e2 HCall HB
  clear hJ hB hfo hb5 s3 HJV
  go_wp2_with (fail)
  refine HCall.out.mono ?_
  rintro e w8 ⟨rfl, v8, hJ8, hF8, _⟩
  have HB8 := Lib.hid (HB.out.trans (PR.below hF8 HB.out.size))
  obtain ⟨s0, s1, s2, s3⟩ := hJ8.cS
  have p8 := hJ8.q.cellAt 0 (by decide)
  simp only [List.getElem?_cons_zero] at p8
  have HFO := Lib.hid hJ8.fo
  clear hJ8 hF8 HB HCall d0 d1 d2 e0 e1 e2 s0 s1 s2 s3
  go_wp2_with (fail)
  go_ret2
  exact ⟨_, _, v8, rfl, HFO.out, HB8.out⟩
end Go.Proofs.Ytndihacmlkgkbaa
