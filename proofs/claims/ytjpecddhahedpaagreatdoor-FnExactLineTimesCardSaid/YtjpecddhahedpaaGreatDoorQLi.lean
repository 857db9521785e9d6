/- LineTimes on the program's side. Condition: the lengths; the keywords. -/
import Derived.Test.YtjpecddhahedpaaGreatDoorQTi
import Derived.Test.YtjpecddhahedpaaGreatDoorQCk
import Derived.Test.YtjpecddhahedpaaGreatDoorQLs
namespace Go.Proofs.YtjpecddhahedpaaGreatDoor
open Go.RowKit

theorem insCells_drop : ∀ (l : List Ins) (m : Nat), insCells (l.drop m) = (insCells l).drop (m * 2)
  | [], m => by simp [insCells]
  | x :: t, 0 => rfl
  | x :: t, m + 1 => by
    rw [show (m + 1) * 2 = m * 2 + 2 from by omega]
    show insCells (t.drop m) = List.drop (m * 2 + 2) (.int .i64 x.o :: .int .i64 x.a :: insCells t)
    rw [insCells_drop t m, List.drop_succ_cons, List.drop_succ_cons]
theorem Rd.insDrop {w : World} {g : Nat} {l : List Ins} {m : Nat} (h : Rd w (some ⟨g, 0, none⟩) (insCells l)) : Rd w (some ⟨g, m * 2, none⟩) (insCells (l.drop m)) := by
  rcases h with h | ⟨b, off, e, hlt, hc⟩
  · left
    rw [insCells_drop, h]
    simp
  · simp only [Option.some.injEq, Addr.mk.injEq, and_true] at e
    obtain ⟨rfl, rfl⟩ := e
    right
    refine ⟨g, m * 2, rfl, hlt, fun j u hu => ?_⟩
    rw [insCells_drop, List.getElem?_drop] at hu
    have := hc (m * 2 + j) u hu
    rwa [Nat.zero_add] at this
theorem sumT_ss (i v o : Int) (bs : List Tm) (s1 s2 : List Ins) : ∀ l : List Ins, sumT ⟨i, v, o, bs, s1⟩ l = sumT ⟨i, v, o, bs, s2⟩ l
  | [] => rfl
  | x :: t => by
    show timI ⟨i, v, o, bs, s1⟩ x + sumT _ t = timI ⟨i, v, o, bs, s2⟩ x + sumT _ t
    rw [sumT_ss i v o bs s1 s2 t]
    rfl
theorem fitB_ss {i v o : Int} {bs : List Tm} {s1 : List Ins} (s2 : List Ins) {x : Ins} (h : fitB ⟨i, v, o, bs, s1⟩ x = true) : fitB ⟨i, v, o, bs, s2⟩ x = true := h
theorem csP_fit {p : Prg} (h : Snd p) {k : Nat} {l : Lin} (hl : p.ls[k]? = some l) (s2 : List Ins) : ∀ x ∈ csL p (nbL (p.ls.take k)) l, fitB ⟨p.ins.length, p.vs.length, p.os.length, blk p, s2⟩ x = true := by
  intro x hx
  refine fitB_ss s2 (fit_cmp h x ?_)
  show x ∈ csP p 0 p.ls ++ gdI p
  refine List.mem_append_left _ ?_
  have : p.ls = p.ls.take (k + 1) ++ p.ls.drop (k + 1) := (List.take_append_drop _ _).symm
  have h2 : ∀ (a b : List Lin) (n : Nat), csP p n (a ++ b) = csP p n a ++ csP p (n + nbL a) b := by
    intro a
    induction a with
    | nil => intro b n; simp [csP, nbL]
    | cons y a ih =>
      intro b n
      show csL p n y ++ csP p (n + nbT y.ts) (a ++ b) = csL p n y ++ csP p (n + nbT y.ts) a ++ _
      rw [ih, nbL_cons, ← Nat.add_assoc, List.append_assoc]
  rw [this, h2, csP_step hl]
  exact List.mem_append_left _ (List.mem_append_right _ hx)
theorem hd_ss {p : Prg} (h : Snd p) {s2 : List Ins} (hl : s2.length ≤ 2000) : Hd ⟨p.ins.length, p.vs.length, p.os.length, blk p, s2⟩ := by
  have := hd_cmp h
  exact ⟨this.i0, this.i1, this.v0, this.v1, this.o0, this.o1, this.b, hl⟩
theorem map_step {p : Prg} {k : Nat} {l : Lin} (h : p.ls[k]? = some l) : (p.ls.take (k + 1)).map tL = (p.ls.take k).map tL ++ [tL l] := by
  rw [List.take_add_one, h]
  simp
theorem own_some {w : World} {base : Nat} {e : TypeId} {size n c : Nat} {A : Option Addr} {xs : List Value} (h : w.ownsRow base e size (.slice A n c) n xs) (hn : 0 < n) : ∃ g, A = some ⟨g, 0, none⟩ := by
  obtain ⟨m, rfl⟩ : ∃ m, n = m + 1 := ⟨n - 1, by omega⟩
  obtain ⟨g, cap, e⟩ := own_form h
  simp only [Value.slice.injEq] at e
  exact ⟨g, e.1⟩
theorem wp_push_intQ (w : World) {o : Oper} {a : Act} {K : Act → World → Prop} {Q : Exit → Act → World → Prop} (s x : Operand)
    (ho : o.op = .call { callee := .builtin .append, args := #[s, x], argTypes := #[27, 27] })
    (base : Nat) (v : Value) (n : Nat) (l : List Int) (z : Int) (g c : Nat) (hs : a.eval s = v) (hown : w.ownsRow base 2 1 v n (ints l))
    (hx : a.eval x = .slice (some ⟨g, 0, none⟩) 1 c) (h0 : w.cell? ⟨g, 0, none⟩ = some (.int .i64 z)) (hn : n ≤ 1099511627776) (hbase : base ≤ w.heap.size)
    (h : ∀ v' w', w'.ownsRow base 2 1 v' (n + 1) (ints (l ++ [z])) → w.grownBy w' v.ownBlock → K (a.put o.dst v') w') : o.wp Tryz.prog a w K Q := by
  obtain ⟨i0, hi, hz0, hz1, hz2⟩ := info_parts info_int64
  refine wp_push w s x 27 ho base 2 i0 (.int .i64 0) 1 8 Tryz.underlying27 hi hz0 hz1 hz2 rfl (by decide) v n (ints l) hs hown ⟨g, 0, none⟩ c [.int .i64 z] hx rfl ?_ ?_ (by unfold maxLen; omega) (by omega) hbase ?_
  · intro j u hu
    match j, hu with
    | 0, hu =>
      simp only [List.getElem?_cons_zero, Option.some.injEq] at hu
      rw [← hu]
      simpa [Addr.add] using h0
  · intro u hu
    simp only [List.mem_singleton] at hu
    subst hu; rfl
  · intro v' w' h1 h2 h3 _
    exact h v' w' (by simpa [ints] using h1) h2
theorem kept_ne {w w' : World} {b1 b2 : Nat} {e1 e2 : TypeId} {s1 s2 n1 n2 : Nat} {v1 v2 : Value} {x1 x2 : List Value} (h1 : w.ownsRow b1 e1 s1 v1 n1 x1) (h2 : w.ownsRow b2 e2 s2 v2 n2 x2) (he : e1 ≠ e2) (hg : w.grownBy w' v2.ownBlock) : w'.ownsRow b1 e1 s1 v1 n1 x1 :=
  h1.kept hg (by
    rcases hv : v1.ownBlock with _ | q
    · exact .inl rfl
    · exact .inr (fun e => own_ne h1 h2 he q hv e.symm))
theorem XS.kept {w0 w w' : World} {b : Nat} {p : Prg} {a1 a2 a3 a4 ab : Option Addr} {c1 c2 c3 c4 cb : Nat} {A : Option Addr} {c : Nat} {S : List Ins} {nb : Nat} (h : XS w0 w b p a1 a2 a3 a4 ab c1 c2 c3 c4 cb A c S nb)
    {v : Value} {n : Nat} {xs : List Value} (ho : w.ownsRow w0.heap.size 2 1 v n xs) (hg : w.grownBy w' v.ownBlock) : XS w0 w' b p a1 a2 a3 a4 ab c1 c2 c3 c4 cb A c S nb :=
  ⟨kept_ne h.box ho (by decide) hg, kept_ne h.row ho (by decide) hg, kept_ne h.blk ho (by decide) hg, below_of_grown h.bel hg (fun q hq => (ho.lt q hq).1)⟩
set_option maxHeartbeats 2000000 in
set_option maxRecDepth 100000 in
theorem c_LineTimes (p : Prg) (a1 a2 a3 a4 : Option Addr) (c1 c2 c3 c4 : Nat) (w : World) (hs : PgOk p) (hz : PgZ a1 a2 a3 c1 c2 c3) (h : PgR w a1 a2 a3 a4 p) (hk : KwR w) :
    Calls Tryz.prog 9 #[pv p a1 a2 a3 a4 c1 c2 c3 c4] w (RetZC (ltV p) (ltC p) w) := by
  have H := Lib.hid h
  have HKW := Lib.hid hk
  have HS := Lib.hid hs
  have HI := Lib.hid (fun w h hk => c_IsSound p a1 a2 a3 a4 c1 c2 c3 c4 w hs hz h hk)
  have HNC := Lib.hid (fun w hb h => c_newCompiler p a1 a2 a3 a4 c1 c2 c3 c4 w hs hb h)
  have HSN := Lib.hid (fun h => snd_of (p := p) h)
  have HV : Hid (soB p = (wrB p && fltB p)) := Lib.hid rfl
  have HV1 : Hid (soB p = false → ltC p = 1 ∧ ltV p = []) := Lib.hid (fun e => by unfold ltC ltV; rw [e]; exact ⟨rfl, rfl⟩)
  have HV0 : Hid (soB p = true → ltC p = 0 ∧ ltV p = p.ls.map tL) := Lib.hid (fun e => by unfold ltC ltV; rw [e]; exact ⟨rfl, rfl⟩)
  rw [← HV.out] at HI HSN
  clear HV
  generalize ltC p = RC at *
  generalize ltV p = RV at *
  generalize soB p = s at *
  have B0 := Lib.hid (below_alloc (Below.refl w.heap.size w) (.cells #[.string p.nm, .slice a1 p.ins.length c1, .slice a2 p.vs.length c2, .slice a3 p.os.length c3, .string p.gd, .slice a4 p.ls.length c4] 32))
  have HP : Hid (PB (w.alloc (.cells #[.string p.nm, .slice a1 p.ins.length c1, .slice a2 p.vs.length c2, .slice a3 p.os.length c3, .string p.gd, .slice a4 p.ls.length c4] 32)) w.heap.size p a1 a2 a3 a4 c1 c2 c3 c4) := Lib.hid ⟨by go_simp, by go_simp, by go_simp, by go_simp, by go_simp, by go_simp⟩
  clear hs hz h hk
  go_enter Tryz.func9, Tryz.ntmps9
  dsimp only [pv]
  go_upto_region 1 with (fail)
  generalize w.alloc (.cells #[.string p.nm, .slice a1 p.ins.length c1, .slice a2 p.vs.length c2, .slice a3 p.os.length c3, .string p.gd, .slice a4 p.ls.length c4] 32) = W at *
  obtain ⟨k0, k1, k2, k3, k4, k5⟩ := HP.out
  go_wp2_with (fail)
  refine (HI.out _ (H.out.below B0.out) (HKW.out.below B0.out)).mono ?_
  rintro e w1 ⟨rfl, hb⟩
  have B1 := Lib.hid (below_chain B0.out hb)
  replace k0 := cell_later hb (by exact k0)
  replace k1 := cell_later hb (by exact k1)
  replace k2 := cell_later hb (by exact k2)
  replace k3 := cell_later hb (by exact k3)
  replace k4 := cell_later hb (by exact k4)
  replace k5 := cell_later hb (by exact k5)
  clear hb
  cases s
  · obtain ⟨rfl, e2⟩ := HV1.out rfl
    have HE2 := Lib.hid e2
    clear e2
    go_wp2_with (fail)
    go_ret2
    exact retZC_nil HE2.out B1.out
  obtain ⟨rfl, e2⟩ := HV0.out rfl
  have HE2 := Lib.hid e2
  have HD := Lib.hid (HSN.out rfl)
  have bl := HD.out.b.l
  clear e2 HV1 HV0 HSN HI
  have HPW := Lib.hid (H.out.below B1.out)
  go_wp2_with (fail)
  refine (HNC.out _ HD.out.b HPW.out).mono ?_
  rintro e w2 ⟨b, ab, cb, rfl, hx⟩
  have HX1 := Lib.hid hx
  clear hx
  replace k0 := cell_later HX1.out.bel (by exact k0)
  replace k1 := cell_later HX1.out.bel (by exact k1)
  replace k2 := cell_later HX1.out.bel (by exact k2)
  replace k3 := cell_later HX1.out.bel (by exact k3)
  replace k4 := cell_later HX1.out.bel (by exact k4)
  replace k5 := cell_later HX1.out.bel (by exact k5)
  go_wp2_with (fail)
  clear k0 k1 k2 k3 k4 k5
  go_loopw [5, 7, 8, 17] (fun u _ _ i wr => ∃ (k : Nat) (A3 : Option Addr) (q3 : Nat), k ≤ p.ls.length ∧ i = .int .i64 k ∧ u = .slice A3 k q3 ∧ Hid (wr.ownsRow w1.heap.size 2 1 (.slice A3 k q3) k (ints ((p.ls.take k).map tL))) ∧ Hid (∃ A c, XS w1 wr b p a1 a2 a3 a4 ab c1 c2 c3 c4 cb A c (csP p 0 (p.ls.take k)) (nbL (p.ls.take k)))) (fun _ _ _ i _ => p.ls.length - (intOf i).toNat)
  case atStart => exact ⟨0, none, 0, Nat.zero_le _, rfl, rfl, Lib.hid (World.ownsRow_nil _ _ _ _), Lib.hid ⟨none, 0, HX1.out⟩⟩
  case round =>
    obtain ⟨k, A3, C3, hk, rfl, rfl, ho, hx⟩ := hrel
    clear HX1
    obtain ⟨A1, cc1, hx1⟩ := hx.out
    have HX1 := Lib.hid hx1
    clear hx hx1
    have hnb := nbL_le HD.out.b k
    have hlen := csP_len p (p.ls.take k) 0 (fun l hl => HD.out.b.t l (List.mem_of_mem_take hl))
    rw [List.length_take] at hlen
    by_cases hlt : k < p.ls.length
    · obtain ⟨⟨tg, ts⟩, hz⟩ : ∃ z, p.ls[k]? = some z := ⟨_, List.getElem?_eq_getElem hlt⟩
      obtain ⟨b2, o2, la, lc, rfl, hblt, g0w, g1w, hrow⟩ := HPW.out.l.at hz
      dsimp only at g0w g1w hrow
      have g0 := cell_later HX1.out.bel g0w
      have g1 := cell_later HX1.out.bel g1w
      have htl := HD.out.b.t _ (List.mem_of_getElem? hz)
      dsimp only at htl
      have hal := below_alloc (Below.refl wr.heap.size wr) (.cells #[.string tg, .slice la ts.length lc] 85)
      have HX2 := Lib.hid (HX1.out.below hal)
      have HO2 := Lib.hid (own_below ho.out hal)
      have hl2 : (csP p 0 (p.ls.take k)).length ≤ 2000 := by omega
      have HLC := Lib.hid (fun w' hx => c_line w1 b p a1 a2 a3 _ ab c1 c2 c3 c4 cb A1 cc1 (csP p 0 (p.ls.take k)) (nbL (p.ls.take k)) tg ts la lc w' HS.out (HD.out.k _ (List.mem_of_getElem? hz)) htl hl2 (by omega) HPW.out hrow hx)
      have HST := Lib.hid (csP_step hz)
      have HNS := Lib.hid (nbL_step hz)
      have HMS := Lib.hid (map_step hz)
      have HTL := Lib.hid (sum_line HD.out hz)
      have HFL := Lib.hid (csP_fit HD.out hz)
      have hcl : (csL p (nbL (p.ls.take k)) ⟨tg, ts⟩).length ≤ 41 ∧ 0 < (csL p (nbL (p.ls.take k)) ⟨tg, ts⟩).length := by unfold csL; rw [List.length_append, csT_len, List.length_singleton]; dsimp only; omega
      have htb := tTs_bd ts
      have HTT : Hid (tL ⟨tg, ts⟩ = tTs ts + 3) := Lib.hid rfl
      have hk0 : (0 : Int) ≤ (k : Int) := by omega
      have hk1 : (k : Int) < p.ls.length := by omega
      have hlk : (csP p 0 (p.ls.take k)).length ≤ 41 * 40 := by omega
      obtain ⟨x0, x1⟩ : (wr.alloc (.cells #[.string tg, .slice la ts.length lc] 85)).cell? ⟨wr.heap.size, 0, none⟩ = some (.string tg) ∧ (wr.alloc (.cells #[.string tg, .slice la ts.length lc] 85)).cell? ⟨wr.heap.size, 1, none⟩ = some (.slice la ts.length lc) := ⟨by go_simp, by go_simp⟩
      obtain ⟨_, ⟨_, _, _, _, k10⟩, _, _, hb1, hb2⟩ := HX2.out.cells
      clear hz hal g0w g1w hrow hblt hl2 hlen hnb ho
      go_upto_region 8 with (fail)
      generalize wr.alloc (.cells #[.string tg, .slice la ts.length lc] 85) = W3 at *
      clear g0 g1
      have hw9 : IntKind.i64.wrap ((csP p 0 (p.ls.take k)).length : Int) = (csP p 0 (p.ls.take k)).length := IntWalk.i64_in _ (by omega)
      generalize csP p 0 (p.ls.take k) = S0 at *
      generalize csL p (nbL (p.ls.take k)) ⟨tg, ts⟩ = L9 at *
      go_wp2_with (fail)
      refine (HLC.out _ HX2.out).mono ?_
      rintro e w4 ⟨rfl, ⟨A4, cc4, hx⟩, hf⟩
      have HX4 := Lib.hid hx
      have HO4 := Lib.hid (hf.own HO2.out (fun g cur fz _ _ => pi_no (by decide) (by decide)))
      have hdl : (S0 ++ L9).drop S0.length = L9 := by simp
      have hsl : (S0 ++ L9).length = S0.length + L9.length := List.length_append
      obtain ⟨g, rfl⟩ := own_some hx.row (by omega)
      have hcap := own_cap hx.row
      unfold maxLen at hcap
      have HTG : Hid (∀ w', XS w1 w' b p a1 a2 a3 (some ⟨b2, o2, none⟩) ab c1 c2 c3 c4 cb (some ⟨g, 0, none⟩) cc4 (S0 ++ L9) (nbL (p.ls.take k) + nbT ts) → Calls Tryz.prog 47 #[.agg #[.int .i64 p.ins.length, .int .i64 p.vs.length, .int .i64 p.os.length, .slice ab (blk p).length cb, .slice (some ⟨g, 0, none⟩) (S0 ++ L9).length cc4], .slice (some ⟨g, S0.length * 2, none⟩) ((S0 ++ L9).length - S0.length) (cc4 - S0.length)] w' fun e w'' => e = .returned (.int .i64 (tL ⟨tg, ts⟩)) ∧ Below w'.heap.size w' w'') := Lib.hid (fun w' hx => by
        have h1 := c_timeG ⟨p.ins.length, p.vs.length, p.os.length, blk p, S0 ++ L9⟩ L9 ab (some ⟨g, 0, none⟩) (some ⟨g, S0.length * 2, none⟩) cb cc4 (cc4 - S0.length) ((S0 ++ L9).length - S0.length) w' (hd_ss HD.out (by omega)) (blk_cmp HD.out) (by omega) (by omega) (HFL.out _) ⟨Rd.own hx.blk, Rd.own hx.row⟩ (by have h := Rd.insDrop (m := S0.length) (Rd.own hx.row); rwa [hdl] at h)
        rw [sumT_ss _ _ _ _ (S0 ++ L9) (cmp p).ss L9, show sumT ⟨p.ins.length, p.vs.length, p.os.length, blk p, (cmp p).ss⟩ L9 = tL ⟨tg, ts⟩ from HTL.out] at h1
        exact h1)
      clear hx hf x0 x1 k10 hb1 hb2 hdl HX2 HLC HFL HTL
      obtain ⟨_, ⟨k6, k7, k8, k9, k10⟩, _, _, hb1, hb2⟩ := HX4.out.cells
      have hs0 : (0 : Int) ≤ (S0.length : Int) := by omega
      have hs1 : (S0.length : Int) ≤ (S0 ++ L9).length := by omega
      have hs2 : S0.length ≤ (S0 ++ L9).length := by omega
      have hs3 : (S0 ++ L9).length ≤ cc4 := hcap.1
      generalize tL ⟨tg, ts⟩ = T at *
      generalize hn9 : (S0 ++ L9).length = n9 at *
      have HN9 := Lib.hid hn9
      generalize hn0 : S0.length = n0 at *
      have hcne : ¬ cc4 = n0 := by omega
      clear hn9 hn0 hsl
      go_upto_region 10 with (fail)
      refine wp_region_held_drew (S := (fun w' => w'.cell? ⟨b, 6, none⟩ = some (.int .i64 p.ins.length) ∧ w'.cell? ⟨b, 7, none⟩ = some (.int .i64 p.vs.length) ∧ w'.cell? ⟨b, 8, none⟩ = some (.int .i64 p.os.length) ∧ w'.cell? ⟨b, 9, none⟩ = some (.slice ab (blk p).length cb) ∧ w'.cell? ⟨b, 10, none⟩ = some (.slice (some ⟨g, 0, none⟩) n9 cc4))) (by kernel_rfl) ?_ (fun hHeld => ?_)
      · exact ⟨k6, k7, k8, k9, k10⟩
      refine rg_take (v := ?_) 0 rfl (by kernel_rfl) (by kernel_rfl) (by kernel_rfl) (fun _ _ _ h => h) (by kernel_rfl) ?_ (by assumption) ?_
      rotate_left
      · (intro w' hSw; (try dsimp only at hSw); go_simp; first | done | with_reducible rfl)
      simp only [Act.put, List.setIfInBounds_toArray, List.set_cons_zero, List.set_cons_succ]
      refine rg_take (v := ?_) 1 rfl (by kernel_rfl) (by kernel_rfl) (by kernel_rfl) (fun _ _ _ h => h) (by kernel_rfl) ?_ (by assumption) ?_
      rotate_left
      · (intro w' hSw; (try dsimp only at hSw); go_simp; first | done | with_reducible rfl)
      simp only [Act.put, List.setIfInBounds_toArray, List.set_cons_zero, List.set_cons_succ]
      refine rg_take (v := ?_) 2 rfl (by kernel_rfl) (by kernel_rfl) (by kernel_rfl) (fun _ _ _ h => h) (by kernel_rfl) ?_ (by assumption) ?_
      rotate_left
      · (intro w' hSw; (try dsimp only at hSw); go_simp; first | done | with_reducible rfl)
      simp only [Act.put, List.setIfInBounds_toArray, List.set_cons_zero, List.set_cons_succ]
      refine rg_take (v := ?_) 3 rfl (by kernel_rfl) (by kernel_rfl) (by kernel_rfl) (fun _ _ _ h => h) (by kernel_rfl) ?_ (by assumption) ?_
      rotate_left
      · (intro w' hSw; (try dsimp only at hSw); go_simp; first | done | with_reducible rfl)
      simp only [Act.put, List.setIfInBounds_toArray, List.set_cons_zero, List.set_cons_succ]
      refine rg_take (v := ?_) 4 rfl (by kernel_rfl) (by kernel_rfl) (by kernel_rfl) (fun _ _ _ h => h) (by kernel_rfl) ?_ (by assumption) ?_
      rotate_left
      · (intro w' hSw; (try dsimp only at hSw); go_simp; first | done | with_reducible rfl)
      simp only [Act.put, List.setIfInBounds_toArray, List.set_cons_zero, List.set_cons_succ]
      refine rg_take (v := ?_) 5 rfl (by kernel_rfl) (by kernel_rfl) (by kernel_rfl) (fun _ _ _ h => h) (by kernel_rfl) ?_ (by assumption) ?_
      rotate_left
      · (intro w' hSw; (try dsimp only at hSw); go_simp; first | done | with_reducible rfl)
      simp only [Act.put, List.setIfInBounds_toArray, List.set_cons_zero, List.set_cons_succ]
      refine rg_take (v := ?_) 6 rfl (by kernel_rfl) (by kernel_rfl) (by kernel_rfl) (fun _ _ _ h => h) (by kernel_rfl) ?_ (by assumption) ?_
      rotate_left
      · (intro w' hSw; (try dsimp only at hSw); go_simp; first | done | with_reducible rfl)
      simp only [Act.put, List.setIfInBounds_toArray, List.set_cons_zero, List.set_cons_succ]
      refine rg_take (v := ?_) 7 rfl (by kernel_rfl) (by kernel_rfl) (by kernel_rfl) (fun _ _ _ h => h) (by kernel_rfl) ?_ (by assumption) ?_
      rotate_left
      · (intro w' hSw; (try dsimp only at hSw); go_simp; first | done | with_reducible rfl)
      simp only [Act.put, List.setIfInBounds_toArray, List.set_cons_zero, List.set_cons_succ]
      refine rg_take (v := ?_) 8 rfl (by kernel_rfl) (by kernel_rfl) (by kernel_rfl) (fun _ _ _ h => h) (by kernel_rfl) ?_ (by assumption) ?_
      rotate_left
      · (intro w' hSw; (try dsimp only at hSw); go_simp; first | done | with_reducible rfl)
      simp only [Act.put, List.setIfInBounds_toArray, List.set_cons_zero, List.set_cons_succ]
      refine rg_take (v := ?_) 9 rfl (by kernel_rfl) (by kernel_rfl) (by kernel_rfl) (fun _ _ _ h => h) (by kernel_rfl) ?_ (by assumption) ?_
      rotate_left
      · (intro w' hSw; (try dsimp only at hSw); go_simp; first | done | with_reducible rfl)
      simp only [Act.put, List.setIfInBounds_toArray, List.set_cons_zero, List.set_cons_succ]
      refine rg_take (v := ?_) 10 rfl (by kernel_rfl) (by kernel_rfl) (by kernel_rfl) (fun _ _ _ h => h) (by kernel_rfl) ?_ (by assumption) ?_
      rotate_left
      · (intro w' hSw; (try dsimp only at hSw); go_simp; first | done | with_reducible rfl)
      simp only [Act.put, List.setIfInBounds_toArray, List.set_cons_zero, List.set_cons_succ]
      refine rg_take (v := ?_) 11 rfl (by kernel_rfl) (by kernel_rfl) (by kernel_rfl) (fun _ _ _ h => h) (by kernel_rfl) ?_ (by assumption) ?_
      rotate_left
      · (intro w' hSw; (try dsimp only at hSw); go_simp; first | done | with_reducible rfl)
      simp only [Act.put, List.setIfInBounds_toArray, List.set_cons_zero, List.set_cons_succ]
      refine rg_run 12 rfl (by kernel_rfl) (by kernel_rfl) (fun K hK => ?_)
      go_simp
      refine (HTG.out _ (HX4.out.below (Below.refl _ _).drew)).mono ?_
      rintro e w5 ⟨rfl, hb5⟩
      have hbs : Below w4.heap.size w4 w5 := below_chain (Below.refl _ _).drew hb5
      have HX5 := Lib.hid (HX4.out.below hbs)
      have HO5 := Lib.hid (own_below HO4.out hbs)
      replace k6 := cell_later hbs (by exact k6)
      replace k7 := cell_later hbs (by exact k7)
      replace k8 := cell_later hbs (by exact k8)
      replace k9 := cell_later hbs (by exact k9)
      replace k10 := cell_later hbs (by exact k10)
      clear hbs hb5 HTG HX4 HO4
      go_wp2
      clear hHeld
      refine hK.out _ _ (by exact ⟨k6, k7, k8, k9, k10⟩) (fun hHeld => ?_)
      clear hK K
      try simp only [Act.put, List.setIfInBounds_toArray, List.set_cons_zero, List.set_cons_succ]
      refine rg_run 13 rfl (by kernel_rfl) (by kernel_rfl) (fun K hK => ?_)
      go_simp
      go_wp2
      have hal := below_alloc (Below.refl w5.heap.size w5) (.cells #[.int .i64 T] 2)
      have HX6 := Lib.hid (HX5.out.below hal)
      have HO6 := Lib.hid (own_below HO5.out hal)
      have z0 : (w5.alloc (.cells #[.int .i64 T] 2)).cell? ⟨w5.heap.size, 0, none⟩ = some (.int .i64 T) := by go_simp
      replace k6 := cell_later hal (by exact k6)
      replace k7 := cell_later hal (by exact k7)
      replace k8 := cell_later hal (by exact k8)
      replace k9 := cell_later hal (by exact k9)
      replace k10 := cell_later hal (by exact k10)
      clear hal HX5 HO5
      generalize w5.alloc (.cells #[.int .i64 T] 2) = W6 at *
      generalize w5.heap.size = g6 at *
      clear hHeld
      refine hK.out _ _ (by exact ⟨k6, k7, k8, k9, k10⟩) (fun hHeld => ?_)
      clear hK K
      try simp only [Act.put, List.setIfInBounds_toArray, List.set_cons_zero, List.set_cons_succ]
      refine rg_run 14 rfl (by kernel_rfl) (by kernel_rfl) (fun K hK => ?_)
      refine wp_push_intQ _ (.tmp 30) (.tmp 43) rfl w1.heap.size _ k _ T g6 1 rfl (by exact HO6.out) rfl (by exact z0) (by omega) HX6.out.bel.size ?_
      intro v7 w7 hown hgrow
      obtain ⟨A9, q9, rfl⟩ := own_shape hown
      have HX7 := Lib.hid (HX6.out.kept HO6.out hgrow)
      have HO7 := Lib.hid hown
      clear hown hgrow k6 k7 k8 k9 k10 z0 hb1 hb2
      have HLV : Hid ((S0 ++ L9).length = n9) := HN9
      obtain ⟨_, ⟨k6, k7, k8, k9, k10⟩, _, _, hb1, hb2⟩ := HX7.out.cells
      rw [HLV.out] at k10
      clear hHeld
      refine hK.out _ _ (by exact ⟨k6, k7, k8, k9, k10⟩) (fun hHeld => ?_)
      clear hK K
      try simp only [Act.put, List.setIfInBounds_toArray, List.set_cons_zero, List.set_cons_succ]
      refine rg_take (v := ?_) 15 rfl (by kernel_rfl) (by kernel_rfl) (by kernel_rfl) (fun _ _ _ h => h) (by kernel_rfl) ?_ (by assumption) ?_
      rotate_left
      · (intro w' hSw; (try dsimp only at hSw); go_simp; first | done | with_reducible rfl)
      simp only [Act.put, List.setIfInBounds_toArray, List.set_cons_zero, List.set_cons_succ]
      refine wpAnyH_done (by kernel_rfl) ?_ _
      clear hHeld
      clear k6 k7 k8 k9 k10 hb1 hb2 hs0 hs1 hs2 hs3 hw9 hcne
      go_wp2_with (fail)
      go_roundw
      case rel => exact ⟨k + 1, A9, q9, by omega, by go_num, rfl, Lib.hid (by rw [HMS.out]; exact HO7.out), Lib.hid ⟨_, _, by rw [HST.out, HNS.out]; exact HX7.out⟩⟩
      case measure => simp [intOf]; omega
    · obtain rfl : k = p.ls.length := by omega
      rw [List.take_length] at ho
      have HO2 := Lib.hid (own_mono ho.out B1.out.size)
      have HLN : Hid ((p.ls.map tL).length = p.ls.length) := Lib.hid (by simp)
      have HBB := Lib.hid (below_chain B1.out HX1.out.bel)
      clear ho hlen hnb
      go_wp2_with (fail)
      go_ret2
      exact retZC_own HE2.out HLN.out HO2.out HBB.out
end Go.Proofs.YtjpecddhahedpaaGreatDoor
