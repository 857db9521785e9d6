/- FnEntryBounds: for every code the law returns true, and nothing that was in memory before the call is changed. No condition. (The law's walk, FEntL, lies in the same text: the claim's limit of 60 files.) -/
import Derived.Test.YthhedpdldjmfpaaMayF
import Derived.Test.YthhedpdldjmfpaaDrawT
namespace Go.Proofs.Ythhedpdldjmfpaa
open Go.RowKit

theorem LB_ofe {w : World} {base base2 : Nat} {A : Option Addr} {c : Nat} {l : List Seg} {A' : Option Addr} {c' : Nat} {fs : List Int} (ho : w.ownsRow base 29 7 (.slice A l.length c) l.length (segCells l)) (hof : w.ownsRow base2 2 1 (.slice A' fs.length c') fs.length (ints fs)) (hl : l.length ≤ 1000) (hf : fs.length ≤ 1000) : LB w A l.length l A' c' fs.length fs := by
  have h1 := own_cap hof
  unfold maxLen at h1
  exact ⟨rfl, by omega, Rd.own ho, rfl, by omega, h1.1, by omega, Rd.own hof⟩
/-- What is known where a block has bounds. -/
structure EbF (l : List Seg) (fs : List Int) (b lo hi : Int) : Prop where
  elo : ebLo l fs b = lo
  ehi : ebHi l fs b = hi
  l0 : 0 ≤ lo
  lh : lo ≤ hi
  h1 : hi ≤ 10000000000
  c1 : ecC l fs b lo hi = 0
  m1 : mbB l fs b lo hi = true
  c2 : 0 < lo → ecC l fs b (lo - 1) hi = 0
  m2 : 0 < lo → mbB l fs b (lo - 1) hi = false
  c3 : hi < 10000000000 → ecC l fs b lo (hi + 1) = 0
  m3 : hi < 10000000000 → mbB l fs b lo (hi + 1) = false
theorem enB_of {x y : Int} (h0 : 0 ≤ x) (h1 : x ≤ y) (h2 : y ≤ 10000000000) : enB x y = true := by
  rw [enB_eq]
  simp [ivB, wiB, leB, valB, inB]
  omega
theorem mxN_nonneg (l : List Seg) : ∀ m : Nat, 0 ≤ mxN l m
  | 0 => by simp [mxN]
  | m + 1 => by have := mxN_nonneg l m; rw [mxN]; omega
theorem mxP_nonneg (l : List Seg) : ∀ m : Nat, 0 ≤ mxP l m
  | 0 => by simp [mxP]
  | m + 1 => by have := mxP_nonneg l m; rw [mxP]; omega
theorem eb_facts {l : List Seg} {fs : List Int} {b : Int} (h : ebC l fs b = 0) : ∃ lo hi, EbF l fs b lo hi := by
  have hlo : ebLo l fs b = (entL l fs b.toNat).1 := by unfold ebLo; rw [if_pos h]
  have hhi : ebHi l fs b = (entL l fs b.toNat).2.1 := by unfold ebHi; rw [if_pos h]
  unfold ebC at h
  rcases codeB_cases l fs b with ⟨hc, hok, h0, h1⟩ | ⟨hc, _⟩
  · rw [if_pos hc] at h
    rcases hen : (entL l fs b.toNat).2.2 with _ | _
    · rw [hen] at h; simp at h
    · have hme : ∀ x y, meB l fs b.toNat x y = wiB x y (entL l fs b.toNat).1 (entL l fs b.toNat).2.1 := fun x y => by unfold meB; rw [hen]; rfl
      have hbd : 0 ≤ (entL l fs b.toNat).1 ∧ (entL l fs b.toNat).1 ≤ (entL l fs b.toNat).2.1 ∧ (entL l fs b.toNat).2.1 ≤ 10000000000 := by
        unfold entL at hen ⊢
        generalize l.drop (fstN fs b.toNat) = xs at hen ⊢
        generalize endN l fs b.toNat - 1 - fstN fs b.toNat = m at hen ⊢
        generalize segN l (endN l fs b.toNat - 1) = s at hen ⊢
        unfold entT at hen ⊢
        rcases hsb : slowBad s with _ | _
        · rw [hsb] at hen
          simp at hen
          have e1 := mxN_nonneg xs m
          have e2 := mxP_nonneg xs m
          have e3 : eHi xs m s ≤ 10000000000 - mxP xs m := by unfold eHi; split <;> omega
          simp only [Bool.false_eq_true, if_false]
          omega
        · rw [hsb] at hen; simp at hen
      have hcd : ∀ {x y : Int}, 0 ≤ x → x ≤ y → y ≤ 10000000000 → ecC l fs b x y = 0 := fun {x y} a1 a2 a3 => by
        unfold ecC
        rw [hok, enB_of a1 a2 a3]
        exact hc
      refine ⟨_, _, hlo, hhi, hbd.1, hbd.2.1, hbd.2.2, hcd hbd.1 hbd.2.1 hbd.2.2, ?_, fun h => hcd (by omega) (by omega) (by omega), fun h => ?_, fun h => hcd (by omega) (by omega) (by omega), fun h => ?_⟩
      · unfold mbB
        rw [if_pos (hcd hbd.1 hbd.2.1 hbd.2.2), hme]
        simp [wiB]
      · unfold mbB
        rw [if_pos (hcd (by omega) (by omega) (by omega)), hme]
        simp [wiB]; omega
      · unfold mbB
        rw [if_pos (hcd (by omega) (by omega) (by omega)), hme]
        simp [wiB]; omega
  · rw [if_neg hc] at h
    exact absurd h hc
set_option maxHeartbeats 1000000 in
set_option maxRecDepth 100000 in
theorem law_FnEntryBounds (A : Option Addr) (c n : Nat) (w : World) (hb : Bytes w w.heap.size A n) :
    Calls Try.prog 17 #[.slice A n c] w fun e w' => e = .returned (.bool true) ∧ Below w.heap.size w w' := by
  rcases Nat.lt_or_ge 4096 n with hbig | hbig
  · have hd : decide (4096 < n) = true := by simp; omega
    go_enter Try.func17, Try.ntmps17
    go_wp2_with (first
      | (go_at_call 39
         refine (c_big _ _ _ _).mono ?_
         rintro e w' ⟨rfl, rfl⟩)
      )
    go_ret
    exact ⟨rfl, by (repeat (first | exact Below.refl _ _ | assumption | refine below_alloc ?_ _ | refine below_drewN ?_ _ | refine below_set ?_ _ (by simp; try omega) | refine Below.drew ?_))⟩
  have hd : decide (4096 < n) = false := by simp; omega
  go_enter Try.func17, Try.ntmps17
  go_wp2_with (first
    | (go_at_call 39
       refine (c_big _ _ _ _).mono ?_
       rintro e w' ⟨rfl, rfl⟩)
    )
  refine (c_DrawEntryBounds A c n w hbig hb).mono ?_
  rintro e w1 ⟨A1, c1, l, A2, c2, fs, b, rfl, hl100, hf20, ho, hof, B⟩
  have lb := LB_ofe ho hof (by omega) (by omega)
  have hcn := (own_cap ho).1
  clear ho hof hb
  go_wp2_with (fail)
  have k0 : (w1.alloc (.cells #[.slice A1 l.length c1] 40)).cell? ⟨w1.heap.size, 0, none⟩ = some (.slice A1 l.length c1) := by go_simp
  replace lb := lb.alloc (.cells #[.slice A1 l.length c1] 40)
  replace B := below_alloc B (.cells #[.slice A1 l.length c1] 40)
  generalize w1.alloc (.cells #[.slice A1 l.length c1] 40) = W at k0 lb B ⊢
  generalize hn1 : l.length = n1 at *
  clear hn1
  generalize hn2 : fs.length = n2 at *
  clear hn2
  generalize w1.heap.size = b0 at *
  go_wp2_with (fail)
  refine (c_EntryBounds c1 b hcn lb).mono ?_
  rintro e w2 ⟨rfl, hb⟩
  have hstep : Below W.heap.size W w2 := below_chain (by (repeat (first | exact Below.refl _ _ | assumption | refine below_alloc ?_ _ | refine below_drewN ?_ _ | refine below_set ?_ _ (by simp; try omega) | refine Below.drew ?_))) hb
  replace lb := lb.below hstep
  replace k0 := cell_later hstep k0
  replace B := below_chain B hstep
  have hz0 := World.block_lt_of_cell? _ _ k0
  clear hb hstep
  have HM := Lib.hid (fun (w : World) (h : LB w A1 n1 l A2 c2 n2 fs) (x y : Int) => c_MayEnter c1 b x y hcn h)
  have HF := Lib.hid (fun (h : ebC l fs b = 0) => eb_facts h)
  have HSE := Lib.hid (fun (w : World) (h : LB w A1 n1 l A2 c2 n2 fs) => c_sEntryBounds c1 b h)
  generalize hC : ebC l fs b = C at HF HSE ⊢
  generalize hlo : ebLo l fs b = lo at HSE ⊢
  generalize hhi : ebHi l fs b = hi at HSE ⊢
  have HLO := Lib.hid hlo
  have HHI := Lib.hid hhi
  clear hC hlo hhi
  go_wp2_with (fail)
  refine (HSE.out _ (lb.alloc _)).mono ?_
  rintro e w3 ⟨rfl, hb⟩
  have hstep : Below w2.heap.size w2 w3 := below_chain (by (repeat (first | exact Below.refl _ _ | assumption | refine below_alloc ?_ _ | refine below_drewN ?_ _ | refine below_set ?_ _ (by simp; try omega) | refine Below.drew ?_))) hb
  replace lb := lb.below hstep
  replace k0 := cell_later hstep k0
  replace B := below_chain B hstep
  have e0 : w3.cell? ⟨w2.heap.size, 0, none⟩ = some (.int .i64 lo) := cell_later hb (by go_simp)
  have e1 : w3.cell? ⟨w2.heap.size, 1, none⟩ = some (.int .i64 hi) := cell_later hb (by go_simp)
  clear hb hstep
  have hz0 := World.block_lt_of_cell? _ _ k0
  have hz1 := World.block_lt_of_cell? _ _ e0
  have hd1 : (C != C) = false := by simp
  rcases Decidable.em (C = 0) with hc | hc
  · obtain ⟨lo', hi', F⟩ := HF.out hc
    have q1 := F.elo
    have q2 := F.ehi
    rw [HLO.out] at q1
    rw [HHI.out] at q2
    subst q1
    subst q2
    have h1 := fun w h => HM.out w h lo hi
    have h2 := fun w h => HM.out w h (lo - 1) hi
    have h3 := fun w h => HM.out w h lo (hi + 1)
    have m0 := F.l0
    have m1 := F.lh
    have m2 := F.h1
    rw [F.c1, F.m1] at h1
    have M1 := Lib.hid h1
    have M2 := Lib.hid h2
    have M3 := Lib.hid h3
    have FF := Lib.hid F
    clear h1 h2 h3 F HF HM HSE HLO HHI
    subst hc
    go_wp2_with (fail)
    refine (M1.out _ (lb.alloc _)).mono ?_
    rintro e w4 ⟨rfl, hb⟩
    have hstep : Below w3.heap.size w3 w4 := below_chain (by (repeat (first | exact Below.refl _ _ | assumption | refine below_alloc ?_ _ | refine below_drewN ?_ _ | refine below_set ?_ _ (by simp; try omega) | refine Below.drew ?_))) hb
    replace lb := lb.below hstep
    replace k0 := cell_later hstep k0
    replace e0 := cell_later hstep e0
    replace e1 := cell_later hstep e1
    replace B := below_chain B hstep
    clear hb hstep
    rcases Int.lt_or_le 0 lo with hlo | hlo
    · have h2 := M2.out
      rw [FF.out.c2 hlo, FF.out.m2 hlo] at h2
      have N2 := Lib.hid h2
      clear h2 M2
      go_wp2_with (fail)
      refine (N2.out _ lb).mono ?_
      rintro e w5 ⟨rfl, hb⟩
      have hstep : Below w4.heap.size w4 w5 := below_chain (by (repeat (first | exact Below.refl _ _ | assumption | refine below_alloc ?_ _ | refine below_drewN ?_ _ | refine below_set ?_ _ (by simp; try omega) | refine Below.drew ?_))) hb
      replace lb := lb.below hstep
      replace k0 := cell_later hstep k0
      replace e0 := cell_later hstep e0
      replace e1 := cell_later hstep e1
      replace B := below_chain B hstep
      clear hb hstep
      rcases Int.lt_or_le hi 10000000000 with hhi | hhi
      · have h3 := M3.out
        rw [FF.out.c3 hhi, FF.out.m3 hhi] at h3
        have N3 := Lib.hid h3
        have hd2 : (hi == 10000000000) = false := by simp; omega
        clear h3 M3 FF
        go_wp2_with (fail)
        refine (N3.out _ lb).mono ?_
        rintro e w6 ⟨rfl, hb⟩
        have hstep : Below w5.heap.size w5 w6 := below_chain (by (repeat (first | exact Below.refl _ _ | assumption | refine below_alloc ?_ _ | refine below_drewN ?_ _ | refine below_set ?_ _ (by simp; try omega) | refine Below.drew ?_))) hb
        replace lb := lb.below hstep
        replace k0 := cell_later hstep k0
        replace e0 := cell_later hstep e0
        replace e1 := cell_later hstep e1
        replace B := below_chain B hstep
        clear hb hstep
        go_wp2_with (fail)
        go_ret
        exact ⟨ret_bool (by simp), B⟩
      · have hhj := Lib.hid hhi
        clear FF hhi
        go_wp2_with (fail)
        refine (M3.out _ lb).mono ?_
        rintro e w6 ⟨rfl, hb⟩
        have hstep : Below w5.heap.size w5 w6 := below_chain (by (repeat (first | exact Below.refl _ _ | assumption | refine below_alloc ?_ _ | refine below_drewN ?_ _ | refine below_set ?_ _ (by simp; try omega) | refine Below.drew ?_))) hb
        replace lb := lb.below hstep
        replace k0 := cell_later hstep k0
        replace e0 := cell_later hstep e0
        replace e1 := cell_later hstep e1
        replace B := below_chain B hstep
        clear hb hstep
        have hhi := hhj.out
        have hd2 : (hi == 10000000000) = true := by simp; omega
        clear hhi
        go_wp2_with (fail)
        go_ret
        exact ⟨ret_bool (by simp), B⟩
    ·
      rcases Int.lt_or_le hi 10000000000 with hhi | hhi
      · have h3 := M3.out
        rw [FF.out.c3 hhi, FF.out.m3 hhi] at h3
        have N3 := Lib.hid h3
        have hd2 : (hi == 10000000000) = false := by simp; omega
        clear h3 M3 FF
        go_wp2_with (fail)
        refine (N3.out _ lb).mono ?_
        rintro e w6 ⟨rfl, hb⟩
        have hstep : Below w4.heap.size w4 w6 := below_chain (by (repeat (first | exact Below.refl _ _ | assumption | refine below_alloc ?_ _ | refine below_drewN ?_ _ | refine below_set ?_ _ (by simp; try omega) | refine Below.drew ?_))) hb
        replace lb := lb.below hstep
        replace k0 := cell_later hstep k0
        replace e0 := cell_later hstep e0
        replace e1 := cell_later hstep e1
        replace B := below_chain B hstep
        clear hb hstep
        go_wp2_with (fail)
        go_ret
        exact ⟨ret_bool (by simp), B⟩
      · have hhj := Lib.hid hhi
        clear FF hhi
        go_wp2_with (fail)
        refine (M3.out _ lb).mono ?_
        rintro e w6 ⟨rfl, hb⟩
        have hstep : Below w4.heap.size w4 w6 := below_chain (by (repeat (first | exact Below.refl _ _ | assumption | refine below_alloc ?_ _ | refine below_drewN ?_ _ | refine below_set ?_ _ (by simp; try omega) | refine Below.drew ?_))) hb
        replace lb := lb.below hstep
        replace k0 := cell_later hstep k0
        replace e0 := cell_later hstep e0
        replace e1 := cell_later hstep e1
        replace B := below_chain B hstep
        clear hb hstep
        have hhi := hhj.out
        have hd2 : (hi == 10000000000) = true := by simp; omega
        clear hhi
        go_wp2_with (fail)
        go_ret
        exact ⟨ret_bool (by simp), B⟩
  · have hc2 : (C != 0) = true := by simp [hc]
    clear hc
    go_wp2_with (fail)
    go_ret
    exact ⟨rfl, by (repeat (first | exact Below.refl _ _ | assumption | refine below_alloc ?_ _ | refine below_drewN ?_ _ | refine below_set ?_ _ (by simp; try omega) | refine Below.drew ?_))⟩
end Go.Proofs.Ythhedpdldjmfpaa
namespace Go.Proofs.Ythhedpdldjmfpaa
open Go.ChangeShapes Go.WideShapes Go.ChangeAt Go.RowKit

set_option maxRecDepth 100000 in
theorem FnEntryBounds_lifted (os : Os) (started : os.Started) (H : Type) (enc : TypeId × Value → H) :
    ReturnsInHanded {} Try.checked os 17 .any (Rows.fnEntryBoundsSpec.pre6 enc Try.prog Try.f17 Rows.fnEntryBoundsRow.domain false) (Rows.fnEntryBoundsSpec.post enc Try.prog Try.f17 false true false false) := by
  refine returnsInHanded_of_change (C := Try.checked) own started (by kernel_rfl) Try.func17
    (ChangeSpec.witness6 (enc := enc) (C := Try.checked) false ⟨#[], #[.slice none 0 0], []⟩ 8 (by kernel_rfl) (by kernel_rfl) (by kernel_rfl) (by kernel_rfl)) ?_
  intro W base args ds gs before hval0 hW hcnd _
  have hval : ∀ (j : Nat) t v, Try.f17.params[j]? = some t → args[j]? = some v → Value.okWide Try.prog W .any base t v := hval0
  have hW' := hW
  obtain ⟨p, q, hA0, hV, rfl, hfz, hnd⟩ := hW
  have hA : DataW.TrodAll enc Try.prog W 0 (fun _ => true) true Try.f17.params.toList args.toList ds p := hA0
  rw [Try.params17] at hA hval
  obtain ⟨v0, vs0, d0, ds0, p0, q0, hargs, rfl, rfl, h0, r0⟩ := trodAll_cons hA
  obtain ⟨rfl, rfl, rfl⟩ := trodAll_nil r0
  obtain rfl : args = #[v0] := by cases args; simp_all
  obtain ⟨rfl, rfl⟩ := trodVars_none hV
  have kk0 := h0
  have lt0 : ∀ x ∈ p0, x.block < W.heap.size := by obtain ⟨m, hm⟩ := kk0; exact DataW.trod_lt m _ _ _ hm
  obtain ⟨A, n, c, rfl, _, hb⟩ := open_byteS (hval 0 54 v0 rfl rfl) h0
  clear hA0 hval0
  refine (law_FnEntryBounds A c n W hb).mono fun e W' ⟨he, bel⟩ => ?_
  subst he
  exact ⟨_, rfl, _, _, _, [], _, [], hW', trodAll_mk1 (shut_bool Try.underlying4 _), (trodAll_cons_mk (Below.trod laidOut (by kernel_rfl) (of_decide_eq_true (by kernel_rfl)) kk0 bel lt0) trodAll_mk0), rfl, bel.frame _, fun h => by cases h⟩
theorem FnEntryBounds_facts : joinedFacts Try.pinned.checked.prog 17 Try.f17 Rows.fnEntryBoundsSpec Rows.fnEntryBoundsRow = true := by
  show joinedFacts Try.prog 17 Try.f17 Rows.fnEntryBoundsSpec Rows.fnEntryBoundsRow = true
  unfold joinedFacts
  rw [may_enter, lifts_final, make_cut]
  kernel_rfl
theorem FnEntryBounds_proved : Rows.FnEntryBoundsSaid :=
  OpenClaim.holds_of_wide 17 Try.f17 rfl rfl rfl rfl rfl rfl rfl ⟨rfl, rfl, rfl, rfl, rfl⟩ rfl rfl rfl rfl rfl (by kernel_rfl) Try.func17 FnEntryBounds_facts
    (of_decide_eq_true (by kernel_rfl)) (by unfold Func.isWrapper; first | (rw [if_pos (by decide +kernel)]; kernel_rfl) | (rw [if_neg (by decide +kernel)]; exact ⟨rfl, rfl⟩))
    (fun os started H enc _ => FnEntryBounds_lifted os started H enc)
end Go.Proofs.Ythhedpdldjmfpaa
