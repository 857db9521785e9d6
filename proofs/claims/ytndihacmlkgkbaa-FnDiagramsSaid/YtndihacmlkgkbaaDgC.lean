/- Contracts of l22Canonical, l22Same. Condition: the nodes lead to earlier ones; the sizes. -/
import Derived.Test.YtndihacmlkgkbaaDgW
import Derived.Test.YtndihacmlkgkbaaDCop2
namespace Go.Proofs.Ytndihacmlkgkbaa
open Go.RowKit

def canS (nodes : List Nd) (r : Nat) : List Nd × Int := let W := wlk nodes (nodes.length + 2) (List.replicate (nodes.length + 2) 0, []) r; (W.1.2, W.2)
theorem own_nil (w : World) (base : Nat) (e : TypeId) (size : Nat) : w.ownsRow base e size (.slice none 0 0) 0 [] := ⟨by simp, .inl ⟨rfl, rfl⟩⟩
theorem dg_box {w W : World} {lo bd n : Nat} {xs ys : List Value} {v : Value} (hD : W.ownsRow w.heap.size 29 3 (.slice (some ⟨bd, 0, none⟩) 1 1) 1 xs) (hR : W.ownsRow lo 57 3 v n ys) (hB : Below w.heap.size w W) (v0 v1 v2 : Value) :
    (((W.setCell ⟨bd, 0, none⟩ v0).setCell ⟨bd, 1, none⟩ v1).setCell ⟨bd, 2, none⟩ v2).cell? ⟨bd, 0, none⟩ = some v0 ∧ (((W.setCell ⟨bd, 0, none⟩ v0).setCell ⟨bd, 1, none⟩ v1).setCell ⟨bd, 2, none⟩ v2).cell? ⟨bd, 1, none⟩ = some v1 ∧ (((W.setCell ⟨bd, 0, none⟩ v0).setCell ⟨bd, 1, none⟩ v1).setCell ⟨bd, 2, none⟩ v2).cell? ⟨bd, 2, none⟩ = some v2 ∧
    (((W.setCell ⟨bd, 0, none⟩ v0).setCell ⟨bd, 1, none⟩ v1).setCell ⟨bd, 2, none⟩ v2).ownsRow lo 57 3 v n ys ∧ Below w.heap.size w (((W.setCell ⟨bd, 0, none⟩ v0).setCell ⟨bd, 1, none⟩ v1).setCell ⟨bd, 2, none⟩ v2) := by
  have h0 := hD.stored 0 v0
  have h1 := h0.1.stored 1 v1
  have h2 := h1.1.stored 2 v2
  have hl : xs.length = 3 := hD.1
  have hb := (own_ge hD).1
  have k0 := h2.1.cellAt 0 (by decide)
  have k1 := h2.1.cellAt 1 (by decide)
  have k2 := h2.1.cellAt 2 (by decide)
  have r0 := hR.kept h0.2 (.inr (fun e => own_ne hD hR (by decide) bd rfl e))
  have r1 := r0.kept h1.2 (.inr (fun e => own_ne h0.1 r0 (by decide) bd rfl e))
  have r2 := r1.kept h2.2 (.inr (fun e => own_ne h1.1 r1 (by decide) bd rfl e))
  match xs, hl with
  | [a, b, c], _ =>
    exact ⟨k0.trans rfl, k1.trans rfl, k2.trans rfl, r2, below_set (below_set (below_set hB _ hb) _ hb) _ hb⟩
theorem cnt_zero (n : Nat) : cnt (List.replicate n (0 : Int)) = 0 := by simp [cnt, List.countP_replicate]
theorem made_int (n : Nat) : (madeCells (Value.int .i64 0).cells (n * 1)).toList = ints (List.replicate n 0) := by
  refine List.ext_getElem (by simp [size_madeCells, ints]) fun j h1 h2 => ?_
  simp [madeCells, ints, Value.cells, Nat.mod_one]
set_option maxRecDepth 100000 in
theorem c_l22Canonical (X : Int) (A : Option Addr) (c n : Nat) (nodes : List Nd) (r : Nat) (w : World) (hn : n = nodes.length) (hs : n ≤ 1099511627000) (hg : Good nodes) (hr : r < n + 2) (hrd : Rd w A (ndCells nodes)) :
    Calls Try.prog 41 #[.int .i64 X, .slice A n c, .int .i64 r] w (RetDg X (canS nodes r).1 (canS nodes r).2 w) := by
  obtain ⟨i0, hi, hz0, hz1, hz2⟩ := info_parts info_int64
  have HN := Lib.hid hn
  have hp0 : ∀ q, 0 ≤ (List.replicate (nodes.length + 2) (0 : Int)).getD q 0 := fun q => by simp [List.getD_eq_getElem?_getD, List.getElem?_replicate]; split <;> simp
  have HW := Lib.hid (fun w1 bo bn => c_l22Walk w.heap.size bo bn A c n (n + 2) nodes w hn rfl hs hg hrd (Nat.le_refl _) (nodes.length + 2) (List.replicate (nodes.length + 2) 0, []) r w1 (by omega) hr (by simp; omega) hp0 (by rw [cnt_zero]; exact Nat.le_refl 0))
  have HV : Hid (canS nodes r = ((wlk nodes (nodes.length + 2) (List.replicate (nodes.length + 2) 0, []) r).1.2, (wlk nodes (nodes.length + 2) (List.replicate (nodes.length + 2) 0, []) r).2)) := Lib.hid rfl
  rw [HV.out]
  clear HV
  generalize wlk nodes (nodes.length + 2) (List.replicate (nodes.length + 2) 0, []) r = R at *
  have hor : ((w.alloc (.cells #[.int .i64 0, .slice none 0 0, .int .i64 0] 29)).alloc (.cells #[.slice none 0 0] 77)).ownsRow w.heap.size 77 1 (.slice (some ⟨w.heap.size + 1, 0, none⟩) 1 1) 1 [.slice none 0 0] := by
    have h := World.ownsRow_lit (e := 77) (size := 1) (base := w.heap.size) (w.alloc (.cells #[.int .i64 0, .slice none 0 0, .int .i64 0] 29)) #[.slice none 0 0] 1 (by simp) (by decide) (by simp)
    simpa using h
  have hod : ((w.alloc (.cells #[.int .i64 0, .slice none 0 0, .int .i64 0] 29)).alloc (.cells #[.slice none 0 0] 77)).ownsRow w.heap.size 29 3 (.slice (some ⟨w.heap.size, 0, none⟩) 1 1) 1 [.int .i64 0, .slice none 0 0, .int .i64 0] := by
    have h := World.ownsRow_lit (e := 29) (size := 3) (base := w.heap.size) w #[.int .i64 0, .slice none 0 0, .int .i64 0] 1 (by simp) (by decide) (by simp)
    exact own_below (by simpa using h) (below_alloc (Below.refl _ _) _)
  have hB2 : Below w.heap.size w ((w.alloc (.cells #[.int .i64 0, .slice none 0 0, .int .i64 0] 29)).alloc (.cells #[.slice none 0 0] 77)) := below_alloc (below_alloc (Below.refl _ _) _) _
  have hsz2 : ((w.alloc (.cells #[.int .i64 0, .slice none 0 0, .int .i64 0] 29)).alloc (.cells #[.slice none 0 0] 77)).heap.size = w.heap.size + 1 + 1 := by simp
  have HOR := Lib.hid hor
  have HOD := Lib.hid hod
  have HB2 := Lib.hid hB2
  have HR := Lib.hid hr
  clear hn hg hrd hp0 hor hod hB2
  go_enter Try.func41, Try.ntmps41
  go_wp2_with (first
    | (at_make
       refine wpList_make_full _ rfl (.tmp 14) (.tmp 14) _ rfl ((w.alloc (.cells #[.int .i64 0, .slice none 0 0, .int .i64 0] 29)).alloc (.cells #[.slice none 0 0] 77)).heap.size 2 i0 _ 1 Try.underlying35 hi hz0 hz1 .i64 .i64 _ _ (n + 2) rfl rfl rfl rfl (by rw [hz2]; omega) (by unfold maxLen; omega) (Nat.le_refl _) ?_
       intro w1 hown hgrow)
    )
  rw [made_int, hsz2] at hown
  have HG := Lib.hid hgrow
  have HOD1 := Lib.hid (HOD.out.kept hgrow (.inr (by simp [Value.ownBlock])))
  have HSB1 : Hid (SB w.heap.size w1 (w.heap.size + 1) []) := Lib.hid ⟨_, HOR.out.kept hgrow (.inr (by simp [Value.ownBlock])), own_nil _ _ _ _⟩
  have HB1 := Lib.hid (below_of_grown HB2.out hgrow (by simp))
  have HOW := Lib.hid hown
  clear hown hgrow HOR HOD HB2 HG
  refine (HW.out w1 _ _ HB1.out HB1.out.size HSB1.out (by rw [← HN.out]; exact own_mono HOW.out (by omega))).mono ?_
  rintro e w2 ⟨rfl, hS2, hM2, hF2⟩
  have HOD2 := Lib.hid (hF2.own HOD1.out (fun g cur fz _ hg hp => by
    simp [Value.ownBlock] at hg
    rcases hp with ⟨_, c', fz', h | h⟩ | ⟨_, h⟩
    · simp at h
    · simp at h
    · omega))
  have HB3 := Lib.hid (HB1.out.trans (PW.below hF2 HB1.out.size))
  obtain ⟨v, hbx, hrw⟩ := hS2
  obtain ⟨A2, c2, rfl⟩ := own_shape hrw
  have HRW := Lib.hid hrw
  have k0 := hbx.cellAt 0 (by decide)
  simp only [List.getElem?_cons_zero] at k0
  have p0 := HOD2.out.cellAt 0 (by decide)
  have p1 := HOD2.out.cellAt 1 (by decide)
  have p2 := HOD2.out.cellAt 2 (by decide)
  simp only [List.getElem?_cons_zero, List.getElem?_cons_succ] at p0 p1 p2
  have f0 := HOD2.out.frozenAt 0
  have f1 := HOD2.out.frozenAt 1
  have f2 := HOD2.out.frozenAt 2
  clear hM2 hF2 hbx hrw HOD1 HSB1 HB1 HOW
  go_wp2_with (fail)
  obtain ⟨r0, r1, r2, r3, r4⟩ := dg_box HOD2.out HRW.out HB3.out (.int .i64 X) (.slice A2 R.1.2.length c2) (.int .i64 R.2)
  clear HOD2 HRW HB3 k0 p0 p1 p2 f0 f1 f2
  generalize ((w2.setCell ⟨w.heap.size, 0, none⟩ (.int .i64 X)).setCell ⟨w.heap.size, 1, none⟩ (.slice A2 R.1.2.length c2)).setCell ⟨w.heap.size, 2, none⟩ (.int .i64 R.2) = WF at *
  refine bodyPost_ret (v := .agg #[.int .i64 X, .slice A2 R.1.2.length c2, .int .i64 R.2]) (by simp [results, Try.results41, go_sem, r0, r1, r2]) rfl ⟨A2, c2, rfl, r3, r4⟩
end Go.Proofs.Ytndihacmlkgkbaa
