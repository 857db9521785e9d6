/- The walk of the law FnDiagrams. No condition but the bytes. Printed by lawfdg.py. -/
import Derived.Test.YtndihacmlkgkbaaGdP
import Derived.Test.YtndihacmlkgkbaaDLik
import Derived.Test.YtndihacmlkgkbaaDgAi
import Derived.Test.YtndihacmlkgkbaaDgJs
namespace Go.Proofs.Ytndihacmlkgkbaa
open Go.RowKit

/-- A diagram in a box. -/
structure DB (w : World) (b : Nat) (X : Int) (A : Option Addr) (c : Nat) (l : List Nd) (R : Int) : Prop where
  pc : w.cell? ⟨b, 0, none⟩ = some (.int .i64 X) ∧ w.cell? ⟨b, 1, none⟩ = some (.slice A l.length c) ∧ w.cell? ⟨b, 2, none⟩ = some (.int .i64 R)
  pr : Rd w A (ndCells l)
  pn : A = none → l.length = 0 ∧ c = 0
theorem DB.below {w w' : World} {b : Nat} {X : Int} {A : Option Addr} {c : Nat} {l : List Nd} {R : Int} (h : DB w b X A c l R) (hb : Below w.heap.size w w') : DB w' b X A c l R :=
  ⟨⟨cell_later hb h.pc.1, cell_later hb h.pc.2.1, cell_later hb h.pc.2.2⟩, h.pr.below hb, h.pn⟩
theorem own_room {w : World} {base n c : Nat} {e : TypeId} {size : Nat} {A : Option Addr} {xs : List Value} (h : w.ownsRow base e size (.slice A n c) n xs) (hA : A = none) : n = 0 ∧ c = 0 := by
  subst hA
  rcases h.2 with ⟨h1, h2⟩ | ⟨g, cap, cur, hv, _⟩
  · simp only [Value.slice.injEq, true_and] at h1
    exact ⟨h2, h1.2⟩
  · cases hv
theorem DB.new {w : World} {base : Nat} {A : Option Addr} {c : Nat} {l : List Nd} (h : w.ownsRow base 57 3 (.slice A l.length c) l.length (ndCells l)) (X R : Int) :
    DB (w.alloc (.cells #[.int .i64 X, .slice A l.length c, .int .i64 R] 29)) w.heap.size X A c l R :=
  ⟨⟨by go_simp, by go_simp, by go_simp⟩, (Rd.own h).alloc _, own_room h⟩
set_option maxHeartbeats 8000000 in
set_option maxRecDepth 100000 in
theorem law_FnDiagrams (A : Option Addr) (c n : Nat) (w : World) (hb : Bytes w w.heap.size A n) :
    Calls Try.prog 10 #[.slice A n c] w fun e w' => e = .returned (.bool true) ∧ Below w.heap.size w w' := by
  rcases Nat.lt_or_ge 4096 n with hbig | hbig
  · have hd : decide (4096 < n) = true := by simp; omega
    go_enter Try.func10, Try.ntmps10
    go_wp2_with (first
      | (go_at_call 34
         refine (c_big _ _ _ _).mono ?_
         rintro e w' ⟨rfl, rfl⟩)
      )
    go_ret
    exact ⟨rfl, by (repeat (first | exact Below.refl _ _ | assumption | refine below_alloc ?_ _ | refine below_drewN ?_ _ | refine below_set ?_ _ (by simp; try omega) | refine Below.drew ?_))⟩
  have hd : decide (4096 < n) = false := by simp; omega
  go_enter Try.func10, Try.ntmps10
  go_wp2_with (first
    | (go_at_call 34
       refine (c_big _ _ _ _).mono ?_
       rintro e w' ⟨rfl, rfl⟩)
    )
  refine (c_DrawJoin A c n w hbig hb).mono ?_
  rintro e w1 ⟨j, Xa, la, ra, Aa, ca, Xb, lb, rb, Ab, cb, rfl, hla, hlb, hoa, hob, hB⟩
  have H4 := Lib.hid (DB.below (DB.new hoa Xa ra) (below_alloc (Below.refl _ _) (.cells #[.int .i64 Xb, .slice Ab lb.length cb, .int .i64 rb] 29)))
  have H5 := Lib.hid (DB.new (own_below hob (below_alloc (Below.refl _ _) (.cells #[.int .i64 Xa, .slice Aa la.length ca, .int .i64 ra] 29))) Xb rb)
  have HB := Lib.hid (below_alloc (below_alloc hB (.cells #[.int .i64 Xa, .slice Aa la.length ca, .int .i64 ra] 29)) (.cells #[.int .i64 Xb, .slice Ab lb.length cb, .int .i64 rb] 29))
  have hs1 : (w1.alloc (.cells #[.int .i64 Xa, .slice Aa la.length ca, .int .i64 ra] 29)).heap.size = w1.heap.size + 1 := by simp
  rw [hs1] at H5
  clear hoa hob hB hs1 hb
  go_upto_region 4 with (fail)
  generalize (w1.alloc (.cells #[.int .i64 Xa, .slice Aa la.length ca, .int .i64 ra] 29)).alloc (.cells #[.int .i64 Xb, .slice Ab lb.length cb, .int .i64 rb] 29) = W5 at *
  generalize hg5 : w1.heap.size + 1 = g5 at *
  clear hg5
  generalize w1.heap.size = g4 at *

  obtain ⟨a4, b4, c4⟩ := H4.out.pc
  obtain ⟨a5, b5, c5⟩ := H5.out.pc
  go_wp2_with (fail)
  refine (c_JoinDiagrams j Xa ra Aa ca la.length la Xb rb Ab cb lb.length lb _ rfl (by omega) H4.out.pr rfl (by omega) H5.out.pr).mono ?_
  rintro e w6 ⟨A6, c6_, rfl, ho, hb⟩
  have hal := below_alloc hb (.cells #[.int .i64 (joinX j Xa la ra Xb lb rb), .slice A6 (joinL j Xa la ra Xb lb rb).length c6_, .int .i64 (joinR j Xa la ra Xb lb rb)] 29)
  have H4' := Lib.hid (H4.out.below hal)
  have H5' := Lib.hid (H5.out.below hal)
  have H6 := Lib.hid (DB.new ho (joinX j Xa la ra Xb lb rb) (joinR j Xa la ra Xb lb rb))
  have HB' := Lib.hid (below_chain HB.out hal)
  clear hal ho hb HB H4 H5 a4 b4 c4 a5 b5 c5
  go_upto_region 5 with (fail)
  generalize w6.alloc (.cells #[.int .i64 (joinX j Xa la ra Xb lb rb), .slice A6 (joinL j Xa la ra Xb lb rb).length c6_, .int .i64 (joinR j Xa la ra Xb lb rb)] 29) = W6 at *
  generalize w6.heap.size = g6 at *
  have H4 := Lib.hid H4'.out
  have H5 := Lib.hid H5'.out
  have HB := Lib.hid HB'.out
  clear HB' H4' H5'

  obtain ⟨a4, b4, c4⟩ := H4.out.pc
  obtain ⟨a5, b5, c5⟩ := H5.out.pc
  go_wp2_with (fail)
  refine (c_sJoinDiagrams j Xa ra Aa ca la.length la Xb rb Ab cb lb.length lb _ rfl (by omega) H4.out.pr rfl (by omega) H5.out.pr).mono ?_
  rintro e w8 ⟨A8, c8_, rfl, ho, hb⟩
  have hal := below_alloc hb (.cells #[.int .i64 (joinX j Xa la ra Xb lb rb), .slice A8 (joinL j Xa la ra Xb lb rb).length c8_, .int .i64 (joinR j Xa la ra Xb lb rb)] 29)
  have H4' := Lib.hid (H4.out.below hal)
  have H5' := Lib.hid (H5.out.below hal)
  have H6' := Lib.hid (H6.out.below hal)
  have H8 := Lib.hid (DB.new ho (joinX j Xa la ra Xb lb rb) (joinR j Xa la ra Xb lb rb))
  have HB' := Lib.hid (below_chain HB.out hal)
  clear hal ho hb HB H4 H5 H6 a4 b4 c4 a5 b5 c5
  go_upto_region 6 with (fail)
  generalize w8.alloc (.cells #[.int .i64 (joinX j Xa la ra Xb lb rb), .slice A8 (joinL j Xa la ra Xb lb rb).length c8_, .int .i64 (joinR j Xa la ra Xb lb rb)] 29) = W8 at *
  generalize w8.heap.size = g8 at *
  have H4 := Lib.hid H4'.out
  have H5 := Lib.hid H5'.out
  have H6 := Lib.hid H6'.out
  have HB := Lib.hid HB'.out
  clear HB' H4' H5' H6'

  obtain ⟨a4, b4, c4⟩ := H4.out.pc
  go_wp2_with (fail)
  refine (c_NotDiagram Xa ra Aa ca la.length la _ rfl (by omega) H4.out.pr H4.out.pn).mono ?_
  rintro e w10 ⟨A10, c10_, rfl, ho, hb⟩
  have hal := below_alloc hb (.cells #[.int .i64 (notX Xa la ra), .slice A10 (notL Xa la ra).length c10_, .int .i64 (notR Xa la ra)] 29)
  have H4' := Lib.hid (H4.out.below hal)
  have H5' := Lib.hid (H5.out.below hal)
  have H6' := Lib.hid (H6.out.below hal)
  have H8' := Lib.hid (H8.out.below hal)
  have H10 := Lib.hid (DB.new ho (notX Xa la ra) (notR Xa la ra))
  have HB' := Lib.hid (below_chain HB.out hal)
  clear hal ho hb HB H4 H5 H6 H8 a4 b4 c4
  go_upto_region 7 with (fail)
  generalize w10.alloc (.cells #[.int .i64 (notX Xa la ra), .slice A10 (notL Xa la ra).length c10_, .int .i64 (notR Xa la ra)] 29) = W10 at *
  generalize w10.heap.size = g10 at *
  have H4 := Lib.hid H4'.out
  have H5 := Lib.hid H5'.out
  have H6 := Lib.hid H6'.out
  have H8 := Lib.hid H8'.out
  have HB := Lib.hid HB'.out
  clear HB' H4' H5' H6' H8'

  obtain ⟨a4, b4, c4⟩ := H4.out.pc
  go_wp2_with (fail)
  refine (c_sNotDiagram Xa ra Aa ca la.length la _ rfl (by omega) H4.out.pr).mono ?_
  rintro e w12 ⟨A12, c12_, rfl, ho, hb⟩
  have hal := below_alloc hb (.cells #[.int .i64 (notX Xa la ra), .slice A12 (notL Xa la ra).length c12_, .int .i64 (notR Xa la ra)] 29)
  have H4' := Lib.hid (H4.out.below hal)
  have H5' := Lib.hid (H5.out.below hal)
  have H6' := Lib.hid (H6.out.below hal)
  have H8' := Lib.hid (H8.out.below hal)
  have H10' := Lib.hid (H10.out.below hal)
  have H12 := Lib.hid (DB.new ho (notX Xa la ra) (notR Xa la ra))
  have HB' := Lib.hid (below_chain HB.out hal)
  clear hal ho hb HB H4 H5 H6 H8 H10 a4 b4 c4
  go_upto_region 8 with (fail)
  generalize w12.alloc (.cells #[.int .i64 (notX Xa la ra), .slice A12 (notL Xa la ra).length c12_, .int .i64 (notR Xa la ra)] 29) = W12 at *
  generalize w12.heap.size = g12 at *
  have H4 := Lib.hid H4'.out
  have H5 := Lib.hid H5'.out
  have H6 := Lib.hid H6'.out
  have H8 := Lib.hid H8'.out
  have H10 := Lib.hid H10'.out
  have HB := Lib.hid HB'.out
  clear HB' H4' H5' H6' H8' H10'

  have hcc : (joinC j Xa la ra Xb lb rb != joinC j Xa la ra Xb lb rb) = false := by simp
  have hee : (errD Xa la ra != errD Xa la ra) = false := by simp
  have hln : (notL Xa la ra).length ≤ 13 := by
    unfold notL
    split
    · rw [List.length_map]; exact hla
    · exact Nat.zero_le _
  have hlj : (joinL j Xa la ra Xb lb rb).length ≤ 2000 := by
    unfold joinL resL
    split
    · rename_i hc
      have h := fd_of hc hla hlb
      obtain ⟨rfl, F⟩ := h
      exact (isD_VN F.p_isx).1.n
    · exact Nat.zero_le _
  have HL1 := Lib.hid (fun w' h h' => c_like (joinX j Xa la ra Xb lb rb) (joinR j Xa la ra Xb lb rb) (joinX j Xa la ra Xb lb rb) (joinR j Xa la ra Xb lb rb) A6 A8 c6_ c8_ _ _ (joinL j Xa la ra Xb lb rb) (joinL j Xa la ra Xb lb rb) w' rfl rfl (by omega) (by omega) h h')
  have HL2 := Lib.hid (fun w' h h' => c_like (notX Xa la ra) (notR Xa la ra) (notX Xa la ra) (notR Xa la ra) A10 A12 c10_ c12_ _ _ (notL Xa la ra) (notL Xa la ra) w' rfl rfl (by omega) (by omega) h h')
  have HI1 := Lib.hid (fun w' h => c_IsDiagram Xa ra Aa ca la.length la w' rfl (by omega) h)
  have HI2 := Lib.hid (fun w' h => c_sIsDiagram Xa ra Aa ca la.length la w' rfl (by omega) h)
  rw [same_refl] at HL1 HL2
  have hii : (isD Xa la ra != isD Xa la ra) = false := by simp

  refine wp_region_held_drew (S := (fun w' => (w'.cell? ⟨g4, 0, none⟩ = some (.int .i64 Xa) ∧ w'.cell? ⟨g4, 1, none⟩ = some (.slice Aa la.length ca) ∧ w'.cell? ⟨g4, 2, none⟩ = some (.int .i64 ra)) ∧ (w'.cell? ⟨g6, 0, none⟩ = some (.int .i64 (joinX j Xa la ra Xb lb rb)) ∧ w'.cell? ⟨g6, 1, none⟩ = some (.slice A6 (joinL j Xa la ra Xb lb rb).length c6_) ∧ w'.cell? ⟨g6, 2, none⟩ = some (.int .i64 (joinR j Xa la ra Xb lb rb))) ∧ (w'.cell? ⟨g8, 0, none⟩ = some (.int .i64 (joinX j Xa la ra Xb lb rb)) ∧ w'.cell? ⟨g8, 1, none⟩ = some (.slice A8 (joinL j Xa la ra Xb lb rb).length c8_) ∧ w'.cell? ⟨g8, 2, none⟩ = some (.int .i64 (joinR j Xa la ra Xb lb rb))) ∧ (w'.cell? ⟨g10, 0, none⟩ = some (.int .i64 (notX Xa la ra)) ∧ w'.cell? ⟨g10, 1, none⟩ = some (.slice A10 (notL Xa la ra).length c10_) ∧ w'.cell? ⟨g10, 2, none⟩ = some (.int .i64 (notR Xa la ra))) ∧ (w'.cell? ⟨g12, 0, none⟩ = some (.int .i64 (notX Xa la ra)) ∧ w'.cell? ⟨g12, 1, none⟩ = some (.slice A12 (notL Xa la ra).length c12_) ∧ w'.cell? ⟨g12, 2, none⟩ = some (.int .i64 (notR Xa la ra))))) (by kernel_rfl) ?_ (fun hHeld => ?_)
  · exact ⟨H4.out.pc, H6.out.pc, H8.out.pc, H10.out.pc, H12.out.pc⟩
  have hdr := (Below.refl W12.heap.size W12).drew
  have H4' := Lib.hid (H4.out.below hdr)
  have H5' := Lib.hid (H5.out.below hdr)
  have H6' := Lib.hid (H6.out.below hdr)
  have H8' := Lib.hid (H8.out.below hdr)
  have H10' := Lib.hid (H10.out.below hdr)
  have H12' := Lib.hid (H12.out.below hdr)
  have HB' := Lib.hid (below_chain HB.out hdr)
  clear HB H4 H5 H6 H8 H10 H12
  have H4 := Lib.hid H4'.out
  have H5 := Lib.hid H5'.out
  have H6 := Lib.hid H6'.out
  have H8 := Lib.hid H8'.out
  have H10 := Lib.hid H10'.out
  have H12 := Lib.hid H12'.out
  have HB := Lib.hid HB'.out
  clear HB' H4' H5' H6' H8' H10' H12'
  clear hdr
  refine rg_take (v := ?_) 0 rfl (by kernel_rfl) (by kernel_rfl) (by kernel_rfl) (fun _ _ _ h => h) (by kernel_rfl) ?_ (by assumption) ?_
  rotate_left
  · (intro w' hSw; (try dsimp only at hSw); go_simp; first | done | with_reducible rfl)
  simp only [Act.put, List.setIfInBounds_toArray, List.set_cons_zero, List.set_cons_succ]
  refine rg_take (v := ?_) 1 rfl (by kernel_rfl) (by kernel_rfl) (by kernel_rfl) (fun _ _ _ h => h) (by kernel_rfl) ?_ (by assumption) ?_
  rotate_left
  · (intro w' hSw; (try dsimp only at hSw); go_simp; first | done | with_reducible rfl)
  simp only [Act.put, List.setIfInBounds_toArray, List.set_cons_zero, List.set_cons_succ]
  refine rg_take (v := ?_) 2 rfl (by kernel_rfl) (by kernel_rfl) (by kernel_rfl) (fun _ _ _ h => h) (by kernel_rfl) ?_ (by assumption) ?_
  rotate_left
  · (intro w' hSw; (try dsimp only at hSw); go_simp; first | done | with_reducible rfl)
  simp only [Act.put, List.setIfInBounds_toArray, List.set_cons_zero, List.set_cons_succ]
  refine rg_take (v := ?_) 3 rfl (by kernel_rfl) (by kernel_rfl) (by kernel_rfl) (fun _ _ _ h => h) (by kernel_rfl) ?_ (by assumption) ?_
  rotate_left
  · (intro w' hSw; (try dsimp only at hSw); go_simp; first | done | with_reducible rfl)
  simp only [Act.put, List.setIfInBounds_toArray, List.set_cons_zero, List.set_cons_succ]
  refine rg_take (v := ?_) 4 rfl (by kernel_rfl) (by kernel_rfl) (by kernel_rfl) (fun _ _ _ h => h) (by kernel_rfl) ?_ (by assumption) ?_
  rotate_left
  · (intro w' hSw; (try dsimp only at hSw); go_simp; first | done | with_reducible rfl)
  simp only [Act.put, List.setIfInBounds_toArray, List.set_cons_zero, List.set_cons_succ]
  refine rg_take (v := ?_) 5 rfl (by kernel_rfl) (by kernel_rfl) (by kernel_rfl) (fun _ _ _ h => h) (by kernel_rfl) ?_ (by assumption) ?_
  rotate_left
  · (intro w' hSw; (try dsimp only at hSw); go_simp; first | done | with_reducible rfl)
  simp only [Act.put, List.setIfInBounds_toArray, List.set_cons_zero, List.set_cons_succ]
  refine rg_run 6 rfl (by kernel_rfl) (by kernel_rfl) (fun K hK => ?_)
  go_simp
  refine (HL1.out _ (by exact H6.out.pr) (by exact H8.out.pr)).mono ?_
  rintro e y1 ⟨rfl, hb⟩
  have H4' := Lib.hid (H4.out.below hb)
  have H5' := Lib.hid (H5.out.below hb)
  have H6' := Lib.hid (H6.out.below hb)
  have H8' := Lib.hid (H8.out.below hb)
  have H10' := Lib.hid (H10.out.below hb)
  have H12' := Lib.hid (H12.out.below hb)
  have HB' := Lib.hid (below_chain HB.out hb)
  clear HB H4 H5 H6 H8 H10 H12
  have H4 := Lib.hid H4'.out
  have H5 := Lib.hid H5'.out
  have H6 := Lib.hid H6'.out
  have H8 := Lib.hid H8'.out
  have H10 := Lib.hid H10'.out
  have H12 := Lib.hid H12'.out
  have HB := Lib.hid HB'.out
  clear HB' H4' H5' H6' H8' H10' H12'
  clear hb
  go_wp2
  clear hHeld
  refine hK.out _ _ (by exact ⟨H4.out.pc, H6.out.pc, H8.out.pc, H10.out.pc, H12.out.pc⟩) (fun hHeld => ?_)
  clear hK K
  try simp only [Act.put, List.setIfInBounds_toArray, List.set_cons_zero, List.set_cons_succ]
  refine rg_take (v := ?_) 7 rfl (by kernel_rfl) (by kernel_rfl) (by kernel_rfl) (fun _ _ _ h => h) (by kernel_rfl) ?_ (by assumption) ?_
  rotate_left
  · (intro w' hSw; (try dsimp only at hSw); go_simp; first | done | with_reducible rfl)
  simp only [Act.put, List.setIfInBounds_toArray, List.set_cons_zero, List.set_cons_succ]
  refine rg_take (v := ?_) 8 rfl (by kernel_rfl) (by kernel_rfl) (by kernel_rfl) (fun _ _ _ h => h) (by kernel_rfl) ?_ (by assumption) ?_
  rotate_left
  · (intro w' hSw; (try dsimp only at hSw); go_simp; first | done | with_reducible rfl)
  simp only [Act.put, List.setIfInBounds_toArray, List.set_cons_zero, List.set_cons_succ]
  refine rg_take (v := ?_) 9 rfl (by kernel_rfl) (by kernel_rfl) (by kernel_rfl) (fun _ _ _ h => h) (by kernel_rfl) ?_ (by assumption) ?_
  rotate_left
  · (intro w' hSw; (try dsimp only at hSw); go_simp; first | done | with_reducible rfl)
  simp only [Act.put, List.setIfInBounds_toArray, List.set_cons_zero, List.set_cons_succ]
  refine rg_take (v := ?_) 10 rfl (by kernel_rfl) (by kernel_rfl) (by kernel_rfl) (fun _ _ _ h => h) (by kernel_rfl) ?_ (by assumption) ?_
  rotate_left
  · (intro w' hSw; (try dsimp only at hSw); go_simp; first | done | with_reducible rfl)
  simp only [Act.put, List.setIfInBounds_toArray, List.set_cons_zero, List.set_cons_succ]
  refine rg_take (v := ?_) 11 rfl (by kernel_rfl) (by kernel_rfl) (by kernel_rfl) (fun _ _ _ h => h) (by kernel_rfl) ?_ (by assumption) ?_
  rotate_left
  · (intro w' hSw; (try dsimp only at hSw); go_simp; first | done | with_reducible rfl)
  simp only [Act.put, List.setIfInBounds_toArray, List.set_cons_zero, List.set_cons_succ]
  refine rg_take (v := ?_) 12 rfl (by kernel_rfl) (by kernel_rfl) (by kernel_rfl) (fun _ _ _ h => h) (by kernel_rfl) ?_ (by assumption) ?_
  rotate_left
  · (intro w' hSw; (try dsimp only at hSw); go_simp; first | done | with_reducible rfl)
  simp only [Act.put, List.setIfInBounds_toArray, List.set_cons_zero, List.set_cons_succ]
  refine rg_take (v := ?_) 13 rfl (by kernel_rfl) (by kernel_rfl) (by kernel_rfl) (fun _ _ _ h => h) (by kernel_rfl) ?_ (by assumption) ?_
  rotate_left
  · (intro w' hSw; (try dsimp only at hSw); go_simp; first | done | with_reducible rfl)
  simp only [Act.put, List.setIfInBounds_toArray, List.set_cons_zero, List.set_cons_succ]
  refine rg_take (v := ?_) 14 rfl (by kernel_rfl) (by kernel_rfl) (by kernel_rfl) (fun _ _ _ h => h) (by kernel_rfl) ?_ (by assumption) ?_
  rotate_left
  · (intro w' hSw; (try dsimp only at hSw); go_simp; first | done | with_reducible rfl)
  simp only [Act.put, List.setIfInBounds_toArray, List.set_cons_zero, List.set_cons_succ]
  refine rg_take (v := ?_) 15 rfl (by kernel_rfl) (by kernel_rfl) (by kernel_rfl) (fun _ _ _ h => h) (by kernel_rfl) ?_ (by assumption) ?_
  rotate_left
  · (intro w' hSw; (try dsimp only at hSw); go_simp; first | done | with_reducible rfl)
  simp only [Act.put, List.setIfInBounds_toArray, List.set_cons_zero, List.set_cons_succ]
  refine rg_take (v := ?_) 16 rfl (by kernel_rfl) (by kernel_rfl) (by kernel_rfl) (fun _ _ _ h => h) (by kernel_rfl) ?_ (by assumption) ?_
  rotate_left
  · (intro w' hSw; (try dsimp only at hSw); go_simp; first | done | with_reducible rfl)
  simp only [Act.put, List.setIfInBounds_toArray, List.set_cons_zero, List.set_cons_succ]
  refine rg_run 17 rfl (by kernel_rfl) (by kernel_rfl) (fun K hK => ?_)
  go_simp
  refine (HL2.out _ (by exact H10.out.pr) (by exact H12.out.pr)).mono ?_
  rintro e y2 ⟨rfl, hb⟩
  have H4' := Lib.hid (H4.out.below hb)
  have H5' := Lib.hid (H5.out.below hb)
  have H6' := Lib.hid (H6.out.below hb)
  have H8' := Lib.hid (H8.out.below hb)
  have H10' := Lib.hid (H10.out.below hb)
  have H12' := Lib.hid (H12.out.below hb)
  have HB' := Lib.hid (below_chain HB.out hb)
  clear HB H4 H5 H6 H8 H10 H12
  have H4 := Lib.hid H4'.out
  have H5 := Lib.hid H5'.out
  have H6 := Lib.hid H6'.out
  have H8 := Lib.hid H8'.out
  have H10 := Lib.hid H10'.out
  have H12 := Lib.hid H12'.out
  have HB := Lib.hid HB'.out
  clear HB' H4' H5' H6' H8' H10' H12'
  clear hb
  go_wp2
  clear hHeld
  refine hK.out _ _ (by exact ⟨H4.out.pc, H6.out.pc, H8.out.pc, H10.out.pc, H12.out.pc⟩) (fun hHeld => ?_)
  clear hK K
  try simp only [Act.put, List.setIfInBounds_toArray, List.set_cons_zero, List.set_cons_succ]
  refine rg_take (v := ?_) 18 rfl (by kernel_rfl) (by kernel_rfl) (by kernel_rfl) (fun _ _ _ h => h) (by kernel_rfl) ?_ (by assumption) ?_
  rotate_left
  · (intro w' hSw; (try dsimp only at hSw); go_simp; first | done | with_reducible rfl)
  simp only [Act.put, List.setIfInBounds_toArray, List.set_cons_zero, List.set_cons_succ]
  refine rg_take (v := ?_) 19 rfl (by kernel_rfl) (by kernel_rfl) (by kernel_rfl) (fun _ _ _ h => h) (by kernel_rfl) ?_ (by assumption) ?_
  rotate_left
  · (intro w' hSw; (try dsimp only at hSw); go_simp; first | done | with_reducible rfl)
  simp only [Act.put, List.setIfInBounds_toArray, List.set_cons_zero, List.set_cons_succ]
  refine rg_take (v := ?_) 20 rfl (by kernel_rfl) (by kernel_rfl) (by kernel_rfl) (fun _ _ _ h => h) (by kernel_rfl) ?_ (by assumption) ?_
  rotate_left
  · (intro w' hSw; (try dsimp only at hSw); go_simp; first | done | with_reducible rfl)
  simp only [Act.put, List.setIfInBounds_toArray, List.set_cons_zero, List.set_cons_succ]
  refine rg_take (v := ?_) 21 rfl (by kernel_rfl) (by kernel_rfl) (by kernel_rfl) (fun _ _ _ h => h) (by kernel_rfl) ?_ (by assumption) ?_
  rotate_left
  · (intro w' hSw; (try dsimp only at hSw); go_simp; first | done | with_reducible rfl)
  simp only [Act.put, List.setIfInBounds_toArray, List.set_cons_zero, List.set_cons_succ]
  refine rg_take (v := ?_) 23 rfl (by kernel_rfl) (by kernel_rfl) (by kernel_rfl) (fun _ _ _ h => h) (by kernel_rfl) ?_ (by assumption) ?_
  rotate_left
  · (intro w' hSw; (try dsimp only at hSw); go_simp; first | done | with_reducible rfl)
  simp only [Act.put, List.setIfInBounds_toArray, List.set_cons_zero, List.set_cons_succ]
  refine rg_run 22 rfl (by kernel_rfl) (by kernel_rfl) (fun K hK => ?_)
  go_simp
  refine (HI1.out _ (by exact H4.out.pr)).mono ?_
  rintro e y3 ⟨rfl, hb⟩
  have H4' := Lib.hid (H4.out.below hb)
  have H5' := Lib.hid (H5.out.below hb)
  have H6' := Lib.hid (H6.out.below hb)
  have H8' := Lib.hid (H8.out.below hb)
  have H10' := Lib.hid (H10.out.below hb)
  have H12' := Lib.hid (H12.out.below hb)
  have HB' := Lib.hid (below_chain HB.out hb)
  clear HB H4 H5 H6 H8 H10 H12
  have H4 := Lib.hid H4'.out
  have H5 := Lib.hid H5'.out
  have H6 := Lib.hid H6'.out
  have H8 := Lib.hid H8'.out
  have H10 := Lib.hid H10'.out
  have H12 := Lib.hid H12'.out
  have HB := Lib.hid HB'.out
  clear HB' H4' H5' H6' H8' H10' H12'
  clear hb
  go_wp2
  clear hHeld
  refine hK.out _ _ (by exact ⟨H4.out.pc, H6.out.pc, H8.out.pc, H10.out.pc, H12.out.pc⟩) (fun hHeld => ?_)
  clear hK K
  try simp only [Act.put, List.setIfInBounds_toArray, List.set_cons_zero, List.set_cons_succ]
  refine rg_run 24 rfl (by kernel_rfl) (by kernel_rfl) (fun K hK => ?_)
  go_simp
  refine (HI2.out _ (by exact H4.out.pr)).mono ?_
  rintro e y4 ⟨rfl, hb⟩
  have H4' := Lib.hid (H4.out.below hb)
  have H5' := Lib.hid (H5.out.below hb)
  have H6' := Lib.hid (H6.out.below hb)
  have H8' := Lib.hid (H8.out.below hb)
  have H10' := Lib.hid (H10.out.below hb)
  have H12' := Lib.hid (H12.out.below hb)
  have HB' := Lib.hid (below_chain HB.out hb)
  clear HB H4 H5 H6 H8 H10 H12
  have H4 := Lib.hid H4'.out
  have H5 := Lib.hid H5'.out
  have H6 := Lib.hid H6'.out
  have H8 := Lib.hid H8'.out
  have H10 := Lib.hid H10'.out
  have H12 := Lib.hid H12'.out
  have HB := Lib.hid HB'.out
  clear HB' H4' H5' H6' H8' H10' H12'
  clear hb
  go_wp2
  clear hHeld
  refine hK.out _ _ (by exact ⟨H4.out.pc, H6.out.pc, H8.out.pc, H10.out.pc, H12.out.pc⟩) (fun hHeld => ?_)
  clear hK K
  try simp only [Act.put, List.setIfInBounds_toArray, List.set_cons_zero, List.set_cons_succ]
  refine rg_take (v := ?_) 25 rfl (by kernel_rfl) (by kernel_rfl) (by kernel_rfl) (fun _ _ _ h => h) (by kernel_rfl) ?_ (by assumption) ?_
  rotate_left
  · (intro w' hSw; (try dsimp only at hSw); go_simp; first | done | with_reducible rfl)
  simp only [Act.put, List.setIfInBounds_toArray, List.set_cons_zero, List.set_cons_succ]
  refine rg_take (v := ?_) 26 rfl (by kernel_rfl) (by kernel_rfl) (by kernel_rfl) (fun _ _ _ h => h) (by kernel_rfl) ?_ (by assumption) ?_
  rotate_left
  · (intro w' hSw; (try dsimp only at hSw); go_simp; first | done | with_reducible rfl)
  simp only [Act.put, List.setIfInBounds_toArray, List.set_cons_zero, List.set_cons_succ]
  refine wpAnyH_done (by kernel_rfl) ?_ _
  clear hHeld
  clear HL1 HL2 HI1 HI2 hcc hee hii

  rcases Decidable.em (joinC j Xa la ra Xb lb rb = 0) with hc | hc
  rotate_left
  · have hcb : (joinC j Xa la ra Xb lb rb != 0) = true := by simpa using hc
    go_wp2_with (fail)
    go_ret
    exact ⟨rfl, HB.out⟩
  obtain ⟨hxy, F⟩ := fd_of hc hla hlb
  subst hxy
  obtain ⟨Fx, Fn, Fback, Fm, Fall, Fsome, Fnot, Fswap, Fisx⟩ := F
  generalize (joinD j Xb la lb ra.toNat rb.toNat).1 = lx at *
  generalize (joinD j Xb la lb ra.toNat rb.toNat).2 = rx at *
  generalize (joinD 0 Xb la lb ra.toNat rb.toNat).1 = l0 at *
  generalize (joinD 0 Xb la lb ra.toNat rb.toNat).2 = r0 at *
  have hl0 := Fnot.len
  have hlx := (isD_VN Fisx).1.n
  have hnb : (lb.map flipN).length ≤ 13 := by rw [List.length_map]; exact hlb
  have hna : (la.map flipN).length ≤ 13 := by rw [List.length_map]; exact hla
  have hn0 : (l0.map flipN).length ≤ 2000 := by rw [List.length_map]; exact hl0
  generalize la.map flipN = na at *
  generalize lb.map flipN = nb at *
  generalize l0.map flipN = n0 at *
  generalize flipI ra = nra at *
  generalize flipI rb = nrb at *
  generalize flipI r0 = nr0 at *
  have h6 := H6.out
  rw [Fx.ex, Fx.el, Fx.er] at h6
  have h10 := H10.out
  rw [Fn.ex, Fn.el, Fn.er] at h10
  rw [hc]
  clear H6 H8 H10 H12 hc hln hlj
  have H6 := Lib.hid h6
  have H10 := Lib.hid h10
  clear h6 h10
  have HC14 : Hid (∀ (A : Option Addr) (c : Nat) (w' : World), Rd w' A (ndCells na) → (A = none → na.length = 0 ∧ c = 0) → Calls Try.prog 25 #[.agg #[.int .i64 Xb, .slice A na.length c, .int .i64 nra]] w' (RetDC Xb la ra 0 w')) := Lib.hid (fun A c w' h hA => by
    have h := c_NotDiagram Xb nra A c na.length na w' rfl (by omega) h hA
    rw [Fback.ex, Fback.el, Fback.er, Fback.ec] at h
    exact h)
  have HC16 : Hid (∀ (A : Option Addr) (c : Nat) (w' : World), Rd w' A (ndCells lb) → (A = none → lb.length = 0 ∧ c = 0) → Calls Try.prog 25 #[.agg #[.int .i64 Xb, .slice A lb.length c, .int .i64 rb]] w' (RetDC Xb nb nrb 0 w')) := Lib.hid (fun A c w' h hA => by
    have h := c_NotDiagram Xb rb A c lb.length lb w' rfl (by omega) h hA
    rw [Fm.ex, Fm.el, Fm.er, Fm.ec] at h
    exact h)
  have HC18 : Hid (∀ (A : Option Addr) (c : Nat) (A' : Option Addr) (c' : Nat) (w' : World), Rd w' A (ndCells la) → Rd w' A' (ndCells lb) → Calls Try.prog 33 #[.int .i64 0, .agg #[.int .i64 Xb, .slice A la.length c, .int .i64 ra], .agg #[.int .i64 Xb, .slice A' lb.length c', .int .i64 rb]] w' (RetDC Xb l0 r0 0 w')) := Lib.hid (fun A c A' c' w' h h' => by
    have h := c_JoinDiagrams 0 Xb ra A c la.length la Xb rb A' c' lb.length lb w' rfl (by omega) h rfl (by omega) h'
    rw [Fall.ex, Fall.el, Fall.er, Fall.ec] at h
    exact h)
  have HC20 : Hid (∀ (A : Option Addr) (c : Nat) (A' : Option Addr) (c' : Nat) (w' : World), Rd w' A (ndCells na) → Rd w' A' (ndCells nb) → Calls Try.prog 33 #[.int .i64 1, .agg #[.int .i64 Xb, .slice A na.length c, .int .i64 nra], .agg #[.int .i64 Xb, .slice A' nb.length c', .int .i64 nrb]] w' (RetDC Xb n0 nr0 0 w')) := Lib.hid (fun A c A' c' w' h h' => by
    have h := c_JoinDiagrams 1 Xb nra A c na.length na Xb nrb A' c' nb.length nb w' rfl (by omega) h rfl (by omega) h'
    rw [Fsome.ex, Fsome.el, Fsome.er, Fsome.ec] at h
    exact h)
  have HC22 : Hid (∀ (A : Option Addr) (c : Nat) (w' : World), Rd w' A (ndCells l0) → (A = none → l0.length = 0 ∧ c = 0) → Calls Try.prog 25 #[.agg #[.int .i64 Xb, .slice A l0.length c, .int .i64 r0]] w' (RetDC Xb n0 nr0 0 w')) := Lib.hid (fun A c w' h hA => by
    have h := c_NotDiagram Xb r0 A c l0.length l0 w' rfl (by omega) h hA
    rw [Fnot.ex, Fnot.el, Fnot.er, Fnot.ec] at h
    exact h)
  have HC24 : Hid (∀ (A : Option Addr) (c : Nat) (A' : Option Addr) (c' : Nat) (w' : World), Rd w' A (ndCells lb) → Rd w' A' (ndCells la) → Calls Try.prog 33 #[.int .i64 j, .agg #[.int .i64 Xb, .slice A lb.length c, .int .i64 rb], .agg #[.int .i64 Xb, .slice A' la.length c', .int .i64 ra]] w' (RetDC Xb lx rx 0 w')) := Lib.hid (fun A c A' c' w' h h' => by
    have h := c_JoinDiagrams j Xb rb A c lb.length lb Xb ra A' c' la.length la w' rfl (by omega) h rfl (by omega) h'
    rw [Fswap.ex, Fswap.el, Fswap.er, Fswap.ec] at h
    exact h)
  have HLK : Hid (∀ (R : Int) (A A' : Option Addr) (c c' : Nat) (l : List Nd) (w' : World), l.length ≤ 2000 → Rd w' A (ndCells l) → Rd w' A' (ndCells l) → Calls Try.prog 36 #[.agg #[.int .i64 Xb, .slice A l.length c, .int .i64 R], .agg #[.int .i64 Xb, .slice A' l.length c', .int .i64 R]] w' fun e w'' => e = .returned (.bool true) ∧ Below w'.heap.size w' w'') := Lib.hid (fun R A A' c c' l w' hl h h' => by
    have h := c_like Xb R Xb R A A' c c' l.length l.length l l w' rfl rfl (by omega) (by omega) h h'
    rw [same_refl] at h
    exact h)
  have HIX : Hid (∀ (A : Option Addr) (c : Nat) (w' : World), Rd w' A (ndCells lx) → Calls Try.prog 14 #[.agg #[.int .i64 Xb, .slice A lx.length c, .int .i64 rx]] w' fun e w'' => e = .returned (.bool true) ∧ Below w'.heap.size w' w'') := Lib.hid (fun A c w' h => by
    have h := c_IsDiagram Xb rx A c lx.length lx w' rfl (by omega) h
    rw [Fisx] at h
    exact h)
  clear Fx Fn Fback Fm Fall Fsome Fnot Fswap Fisx

  obtain ⟨a10, b10, c10⟩ := H10.out.pc
  go_wp2_with (fail)
  refine (HC14.out _ _ _ H10.out.pr H10.out.pn).mono ?_
  rintro e w14 ⟨A14, c14_, rfl, ho, hb⟩
  have hal := below_alloc hb (.cells #[.int .i64 (Xb), .slice A14 (la).length c14_, .int .i64 (ra)] 29)
  have H4' := Lib.hid (H4.out.below hal)
  have H5' := Lib.hid (H5.out.below hal)
  have H6' := Lib.hid (H6.out.below hal)
  have H10' := Lib.hid (H10.out.below hal)
  have H14 := Lib.hid (DB.new ho (Xb) (ra))
  have HB' := Lib.hid (below_chain HB.out hal)
  clear hal ho hb HB H4 H5 H6 H10 a10 b10 c10
  go_upto_region 13 with (fail)
  generalize w14.alloc (.cells #[.int .i64 (Xb), .slice A14 (la).length c14_, .int .i64 (ra)] 29) = W14 at *
  generalize w14.heap.size = g14 at *
  have H4 := Lib.hid H4'.out
  have H5 := Lib.hid H5'.out
  have H6 := Lib.hid H6'.out
  have H10 := Lib.hid H10'.out
  have HB := Lib.hid HB'.out
  clear HB' H4' H5' H6' H10'

  obtain ⟨a5, b5, c5⟩ := H5.out.pc
  go_wp2_with (fail)
  refine (HC16.out _ _ _ H5.out.pr H5.out.pn).mono ?_
  rintro e w16 ⟨A16, c16_, rfl, ho, hb⟩
  have hal := below_alloc hb (.cells #[.int .i64 (Xb), .slice A16 (nb).length c16_, .int .i64 (nrb)] 29)
  have H4' := Lib.hid (H4.out.below hal)
  have H5' := Lib.hid (H5.out.below hal)
  have H6' := Lib.hid (H6.out.below hal)
  have H10' := Lib.hid (H10.out.below hal)
  have H14' := Lib.hid (H14.out.below hal)
  have H16 := Lib.hid (DB.new ho (Xb) (nrb))
  have HB' := Lib.hid (below_chain HB.out hal)
  clear hal ho hb HB H4 H5 H6 H10 H14 a5 b5 c5
  go_upto_region 14 with (fail)
  generalize w16.alloc (.cells #[.int .i64 (Xb), .slice A16 (nb).length c16_, .int .i64 (nrb)] 29) = W16 at *
  generalize w16.heap.size = g16 at *
  have H4 := Lib.hid H4'.out
  have H5 := Lib.hid H5'.out
  have H6 := Lib.hid H6'.out
  have H10 := Lib.hid H10'.out
  have H14 := Lib.hid H14'.out
  have HB := Lib.hid HB'.out
  clear HB' H4' H5' H6' H10' H14'

  obtain ⟨a4, b4, c4⟩ := H4.out.pc
  obtain ⟨a5, b5, c5⟩ := H5.out.pc
  go_wp2_with (fail)
  refine (HC18.out _ _ _ _ _ H4.out.pr H5.out.pr).mono ?_
  rintro e w18 ⟨A18, c18_, rfl, ho, hb⟩
  have hal := below_alloc hb (.cells #[.int .i64 (Xb), .slice A18 (l0).length c18_, .int .i64 (r0)] 29)
  have H4' := Lib.hid (H4.out.below hal)
  have H5' := Lib.hid (H5.out.below hal)
  have H6' := Lib.hid (H6.out.below hal)
  have H10' := Lib.hid (H10.out.below hal)
  have H14' := Lib.hid (H14.out.below hal)
  have H16' := Lib.hid (H16.out.below hal)
  have H18 := Lib.hid (DB.new ho (Xb) (r0))
  have HB' := Lib.hid (below_chain HB.out hal)
  clear hal ho hb HB H4 H5 H6 H10 H14 H16 a4 b4 c4 a5 b5 c5
  go_upto_region 15 with (fail)
  generalize w18.alloc (.cells #[.int .i64 (Xb), .slice A18 (l0).length c18_, .int .i64 (r0)] 29) = W18 at *
  generalize w18.heap.size = g18 at *
  have H4 := Lib.hid H4'.out
  have H5 := Lib.hid H5'.out
  have H6 := Lib.hid H6'.out
  have H10 := Lib.hid H10'.out
  have H14 := Lib.hid H14'.out
  have H16 := Lib.hid H16'.out
  have HB := Lib.hid HB'.out
  clear HB' H4' H5' H6' H10' H14' H16'

  obtain ⟨a10, b10, c10⟩ := H10.out.pc
  obtain ⟨a16, b16, c16⟩ := H16.out.pc
  go_wp2_with (fail)
  refine (HC20.out _ _ _ _ _ H10.out.pr H16.out.pr).mono ?_
  rintro e w20 ⟨A20, c20_, rfl, ho, hb⟩
  have hal := below_alloc hb (.cells #[.int .i64 (Xb), .slice A20 (n0).length c20_, .int .i64 (nr0)] 29)
  have H4' := Lib.hid (H4.out.below hal)
  have H5' := Lib.hid (H5.out.below hal)
  have H6' := Lib.hid (H6.out.below hal)
  have H10' := Lib.hid (H10.out.below hal)
  have H14' := Lib.hid (H14.out.below hal)
  have H16' := Lib.hid (H16.out.below hal)
  have H18' := Lib.hid (H18.out.below hal)
  have H20 := Lib.hid (DB.new ho (Xb) (nr0))
  have HB' := Lib.hid (below_chain HB.out hal)
  clear hal ho hb HB H4 H5 H6 H10 H14 H16 H18 a10 b10 c10 a16 b16 c16
  go_upto_region 16 with (fail)
  generalize w20.alloc (.cells #[.int .i64 (Xb), .slice A20 (n0).length c20_, .int .i64 (nr0)] 29) = W20 at *
  generalize w20.heap.size = g20 at *
  have H4 := Lib.hid H4'.out
  have H5 := Lib.hid H5'.out
  have H6 := Lib.hid H6'.out
  have H10 := Lib.hid H10'.out
  have H14 := Lib.hid H14'.out
  have H16 := Lib.hid H16'.out
  have H18 := Lib.hid H18'.out
  have HB := Lib.hid HB'.out
  clear HB' H4' H5' H6' H10' H14' H16' H18'

  obtain ⟨a18, b18, c18⟩ := H18.out.pc
  go_wp2_with (fail)
  refine (HC22.out _ _ _ H18.out.pr H18.out.pn).mono ?_
  rintro e w22 ⟨A22, c22_, rfl, ho, hb⟩
  have hal := below_alloc hb (.cells #[.int .i64 (Xb), .slice A22 (n0).length c22_, .int .i64 (nr0)] 29)
  have H4' := Lib.hid (H4.out.below hal)
  have H5' := Lib.hid (H5.out.below hal)
  have H6' := Lib.hid (H6.out.below hal)
  have H10' := Lib.hid (H10.out.below hal)
  have H14' := Lib.hid (H14.out.below hal)
  have H16' := Lib.hid (H16.out.below hal)
  have H18' := Lib.hid (H18.out.below hal)
  have H20' := Lib.hid (H20.out.below hal)
  have H22 := Lib.hid (DB.new ho (Xb) (nr0))
  have HB' := Lib.hid (below_chain HB.out hal)
  clear hal ho hb HB H4 H5 H6 H10 H14 H16 H18 H20 a18 b18 c18
  go_upto_region 17 with (fail)
  generalize w22.alloc (.cells #[.int .i64 (Xb), .slice A22 (n0).length c22_, .int .i64 (nr0)] 29) = W22 at *
  generalize w22.heap.size = g22 at *
  have H4 := Lib.hid H4'.out
  have H5 := Lib.hid H5'.out
  have H6 := Lib.hid H6'.out
  have H10 := Lib.hid H10'.out
  have H14 := Lib.hid H14'.out
  have H16 := Lib.hid H16'.out
  have H18 := Lib.hid H18'.out
  have H20 := Lib.hid H20'.out
  have HB := Lib.hid HB'.out
  clear HB' H4' H5' H6' H10' H14' H16' H18' H20'

  obtain ⟨a5, b5, c5⟩ := H5.out.pc
  obtain ⟨a4, b4, c4⟩ := H4.out.pc
  go_wp2_with (fail)
  refine (HC24.out _ _ _ _ _ H5.out.pr H4.out.pr).mono ?_
  rintro e w24 ⟨A24, c24_, rfl, ho, hb⟩
  have hal := below_alloc hb (.cells #[.int .i64 (Xb), .slice A24 (lx).length c24_, .int .i64 (rx)] 29)
  have H4' := Lib.hid (H4.out.below hal)
  have H5' := Lib.hid (H5.out.below hal)
  have H6' := Lib.hid (H6.out.below hal)
  have H10' := Lib.hid (H10.out.below hal)
  have H14' := Lib.hid (H14.out.below hal)
  have H16' := Lib.hid (H16.out.below hal)
  have H18' := Lib.hid (H18.out.below hal)
  have H20' := Lib.hid (H20.out.below hal)
  have H22' := Lib.hid (H22.out.below hal)
  have H24 := Lib.hid (DB.new ho (Xb) (rx))
  have HB' := Lib.hid (below_chain HB.out hal)
  clear hal ho hb HB H4 H5 H6 H10 H14 H16 H18 H20 H22 a5 b5 c5 a4 b4 c4
  go_upto_region 18 with (fail)
  generalize w24.alloc (.cells #[.int .i64 (Xb), .slice A24 (lx).length c24_, .int .i64 (rx)] 29) = W24 at *
  generalize w24.heap.size = g24 at *
  have H4 := Lib.hid H4'.out
  have H5 := Lib.hid H5'.out
  have H6 := Lib.hid H6'.out
  have H10 := Lib.hid H10'.out
  have H14 := Lib.hid H14'.out
  have H16 := Lib.hid H16'.out
  have H18 := Lib.hid H18'.out
  have H20 := Lib.hid H20'.out
  have H22 := Lib.hid H22'.out
  have HB := Lib.hid HB'.out
  clear HB' H4' H5' H6' H10' H14' H16' H18' H20' H22'

  obtain ⟨a14, b14, c14⟩ := H14.out.pc
  obtain ⟨a4, b4, c4⟩ := H4.out.pc
  go_wp2_with (fail)
  refine (HLK.out _ _ _ _ _ _ _ (by omega) H14.out.pr H4.out.pr).mono ?_
  rintro e z1 ⟨rfl, hb⟩
  clear a14 b14 c14 a4 b4 c4
  have H4' := Lib.hid (H4.out.below hb)
  have H5' := Lib.hid (H5.out.below hb)
  have H6' := Lib.hid (H6.out.below hb)
  have H10' := Lib.hid (H10.out.below hb)
  have H14' := Lib.hid (H14.out.below hb)
  have H16' := Lib.hid (H16.out.below hb)
  have H18' := Lib.hid (H18.out.below hb)
  have H20' := Lib.hid (H20.out.below hb)
  have H22' := Lib.hid (H22.out.below hb)
  have H24' := Lib.hid (H24.out.below hb)
  have HB' := Lib.hid (below_chain HB.out hb)
  clear HB H4 H5 H6 H10 H14 H16 H18 H20 H22 H24
  have H4 := Lib.hid H4'.out
  have H5 := Lib.hid H5'.out
  have H6 := Lib.hid H6'.out
  have H10 := Lib.hid H10'.out
  have H14 := Lib.hid H14'.out
  have H16 := Lib.hid H16'.out
  have H18 := Lib.hid H18'.out
  have H20 := Lib.hid H20'.out
  have H22 := Lib.hid H22'.out
  have H24 := Lib.hid H24'.out
  have HB := Lib.hid HB'.out
  clear HB' H4' H5' H6' H10' H14' H16' H18' H20' H22' H24'
  clear hb

  obtain ⟨a20, b20, c20⟩ := H20.out.pc
  obtain ⟨a22, b22, c22⟩ := H22.out.pc
  go_wp2_with (fail)
  refine (HLK.out _ _ _ _ _ _ _ (by omega) H20.out.pr H22.out.pr).mono ?_
  rintro e z2 ⟨rfl, hb⟩
  clear a20 b20 c20 a22 b22 c22
  have H4' := Lib.hid (H4.out.below hb)
  have H5' := Lib.hid (H5.out.below hb)
  have H6' := Lib.hid (H6.out.below hb)
  have H10' := Lib.hid (H10.out.below hb)
  have H14' := Lib.hid (H14.out.below hb)
  have H16' := Lib.hid (H16.out.below hb)
  have H18' := Lib.hid (H18.out.below hb)
  have H20' := Lib.hid (H20.out.below hb)
  have H22' := Lib.hid (H22.out.below hb)
  have H24' := Lib.hid (H24.out.below hb)
  have HB' := Lib.hid (below_chain HB.out hb)
  clear HB H4 H5 H6 H10 H14 H16 H18 H20 H22 H24
  have H4 := Lib.hid H4'.out
  have H5 := Lib.hid H5'.out
  have H6 := Lib.hid H6'.out
  have H10 := Lib.hid H10'.out
  have H14 := Lib.hid H14'.out
  have H16 := Lib.hid H16'.out
  have H18 := Lib.hid H18'.out
  have H20 := Lib.hid H20'.out
  have H22 := Lib.hid H22'.out
  have H24 := Lib.hid H24'.out
  have HB := Lib.hid HB'.out
  clear HB' H4' H5' H6' H10' H14' H16' H18' H20' H22' H24'
  clear hb

  obtain ⟨a24, b24, c24⟩ := H24.out.pc
  obtain ⟨a6, b6, c6⟩ := H6.out.pc
  go_wp2_with (fail)
  refine (HLK.out _ _ _ _ _ _ _ (by omega) H24.out.pr H6.out.pr).mono ?_
  rintro e z3 ⟨rfl, hb⟩
  clear a24 b24 c24 a6 b6 c6
  have H4' := Lib.hid (H4.out.below hb)
  have H5' := Lib.hid (H5.out.below hb)
  have H6' := Lib.hid (H6.out.below hb)
  have H10' := Lib.hid (H10.out.below hb)
  have H14' := Lib.hid (H14.out.below hb)
  have H16' := Lib.hid (H16.out.below hb)
  have H18' := Lib.hid (H18.out.below hb)
  have H20' := Lib.hid (H20.out.below hb)
  have H22' := Lib.hid (H22.out.below hb)
  have H24' := Lib.hid (H24.out.below hb)
  have HB' := Lib.hid (below_chain HB.out hb)
  clear HB H4 H5 H6 H10 H14 H16 H18 H20 H22 H24
  have H4 := Lib.hid H4'.out
  have H5 := Lib.hid H5'.out
  have H6 := Lib.hid H6'.out
  have H10 := Lib.hid H10'.out
  have H14 := Lib.hid H14'.out
  have H16 := Lib.hid H16'.out
  have H18 := Lib.hid H18'.out
  have H20 := Lib.hid H20'.out
  have H22 := Lib.hid H22'.out
  have H24 := Lib.hid H24'.out
  have HB := Lib.hid HB'.out
  clear HB' H4' H5' H6' H10' H14' H16' H18' H20' H22' H24'
  clear hb

  obtain ⟨a6, b6, c6⟩ := H6.out.pc
  go_wp2_with (fail)
  refine (HIX.out _ _ _ H6.out.pr).mono ?_
  rintro e z4 ⟨rfl, hb⟩
  clear a6 b6 c6
  have H4' := Lib.hid (H4.out.below hb)
  have H5' := Lib.hid (H5.out.below hb)
  have H6' := Lib.hid (H6.out.below hb)
  have H10' := Lib.hid (H10.out.below hb)
  have H14' := Lib.hid (H14.out.below hb)
  have H16' := Lib.hid (H16.out.below hb)
  have H18' := Lib.hid (H18.out.below hb)
  have H20' := Lib.hid (H20.out.below hb)
  have H22' := Lib.hid (H22.out.below hb)
  have H24' := Lib.hid (H24.out.below hb)
  have HB' := Lib.hid (below_chain HB.out hb)
  clear HB H4 H5 H6 H10 H14 H16 H18 H20 H22 H24
  have H4 := Lib.hid H4'.out
  have H5 := Lib.hid H5'.out
  have H6 := Lib.hid H6'.out
  have H10 := Lib.hid H10'.out
  have H14 := Lib.hid H14'.out
  have H16 := Lib.hid H16'.out
  have H18 := Lib.hid H18'.out
  have H20 := Lib.hid H20'.out
  have H22 := Lib.hid H22'.out
  have H24 := Lib.hid H24'.out
  have HB := Lib.hid HB'.out
  clear HB' H4' H5' H6' H10' H14' H16' H18' H20' H22' H24'
  clear hb

  go_wp2_with (fail)
  go_ret
  exact ⟨rfl, HB.out⟩

end Go.Proofs.Ytndihacmlkgkbaa
