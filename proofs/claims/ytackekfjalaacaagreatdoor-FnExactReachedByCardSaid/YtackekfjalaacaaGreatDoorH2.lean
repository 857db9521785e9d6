/- Contracts and helpers (joined texts, part 2). The conditions stand at each theorem. -/
import Derived.Test.YtackekfjalaacaaGreatDoorH1
import Derived.Test.YtackekfjalaacaaGreatDoorPGb
/- The program's delays: the map holds what the reference's rounds give. Condition: the program is sound, the input is one of its inputs; the lengths. -/
namespace Go.Proofs.YtackekfjalaacaaGreatDoor
open Go.RowKit

/-- What is handed back: a map of the call's own with the delays. -/
def RetDm (p : Prg) (inp : ByteArray) (w : World) (e : Ending) (w' : World) : Prop :=
  ∃ bm l c f, e = .returned (.map (some bm)) ∧ MpA w' bm l c ∧ Below w.heap.size w w' ∧ Fix p inp f ∧ (∀ s, getE l s = if s = inp then none else fG p f s) ∧ w.heap.size ≤ bm
theorem rL_start (inp : ByteArray) : rL [] 0 inp 1 = [⟨inp, 1, 0⟩] := rfl
theorem retDm_of {p : Prg} {inp : ByteArray} {w wr w' : World} {b0 bf bm : Nat} {a1 a2 a3 a4 : Option Addr} {c1 c2 c3 c4 : Nat} {l L : List En} {c c' : Nat} (hf : Fix p inp (getE l)) (hL : ∀ s, getE L s = fG p (getE l) s) (hd : DS w wr b0 bf bm p a1 a2 a3 a4 c1 c2 c3 c4 L c) (hm : MpA w' bm (delE L inp) c') (hg : wr.grownBy w' (some bm)) : RetDm p inp w (.returned (.map (some bm))) w' :=
  ⟨bm, _, _, getE l, rfl, hm, (hd.put hm hg).bel, hf, fun s => by rw [getE_del, hL], hd.n3⟩
theorem DS.kfar {p : Prg} {w wr w' : World} {b0 bf bm : Nat} {a1 a2 a3 a4 : Option Addr} {c1 c2 c3 c4 : Nat} {L : List En} {c : Nat} (hd : DS w wr b0 bf bm p a1 a2 a3 a4 c1 c2 c3 c4 L c) (hg : wr.grownBy w' (some bm)) : w'.cell? ⟨bf, 0, none⟩ = some (.map (some bm)) :=
  cell_g hd.kf hg (fun q hq => by cases hq; exact hd.n2)
def bitV : Value → Nat | .bool true => 1 | _ => 0
theorem SwP.done {p : Prg} {inp : ByteArray} {l0 l : List En} {ch : Bool} (h : SwP p inp l0 p.ls.length ch l) : ch = false → ∀ (i : Nat) (ln : Lin), p.ls[i]? = some ln → ∀ x ∈ l, ClD p inp l i ln x := by
  intro hc i ln hl x hx
  rcases h with ⟨h, _⟩ | ⟨_, rfl, h⟩
  · rw [hc] at h; cases h
  · exact h i ln (List.getElem?_eq_some_iff.1 hl).1 hl x hx
theorem SwP.meas {p : Prg} {inp : ByteArray} {l0 l : List En} {i : Nat} {ch : Bool} (h : SwP p inp l0 i ch l) : 2 * phi p inp l + bitV (.bool ch) < 2 * phi p inp l0 + bitV (.bool true) := by
  have h1 : bitV (.bool true) = 1 := rfl
  have h0 : bitV (.bool false) = 0 := rfl
  rcases h with ⟨rfl, h⟩ | ⟨rfl, rfl, _⟩ <;> omega
set_option maxHeartbeats 4000000 in
set_option maxRecDepth 100000 in
theorem c_delays (p : Prg) (a1 a2 a3 a4 : Option Addr) (c1 c2 c3 c4 : Nat) (inp : ByteArray) (w : World) (hs : PgOk p) (hbd : PgB p) (hn : Nmd p) (hi : inp ∈ p.ins) (h : PgR w a1 a2 a3 a4 p) :
    Calls Tryz.prog 34 #[pv p a1 a2 a3 a4 c1 c2 c3 c4, .string inp] w (RetDm p inp w) := by
  have H := Lib.hid h
  have HN := Lib.hid hn
  have HIN := Lib.hid hi
  have HRE := Lib.hid (fun bf bm l c s v w hs k0 hm => c_reach bf bm l c s v w hs k0 hm)
  have HLO := Lib.hid (fun s w h => c_lineOf p a1 a2 a3 a4 c1 c2 c3 c4 s w hs.l.1 h)
  have HUS := Lib.hid (fun tg ts la lc s w (hl : ts.length ≤ 1048576) h => c_isUsed tg ts la lc s w hl h)
  have hisz : inp.size ≤ maxLen := Nat.le_trans (hs.i.2 inp hi) (by decide)
  have HTZ : Hid (∀ l ∈ p.ls, l.tg.size ≤ maxLen ∧ l.ts.length ≤ 1048576) := Lib.hid (fun l hl => ⟨Nat.le_trans (hs.l.2 l hl).1 (by decide), (hs.l.2 l hl).2.1⟩)
  have HOZ : Hid (∀ s ∈ p.os, s.size ≤ maxLen) := Lib.hid (fun s h => Nat.le_trans (hs.o.2 s h) (by decide))
  have hgz : p.gd.size ≤ maxLen := Nat.le_trans hs.g (by decide)
  have bl := hbd.l
  have bo := hbd.o
  have hmf : ∀ (fn : Fn) (first cap : Array Value) (w : World), (Instr.makeFunc fn first cap).run Tryz.prog w = .ok (.func fn first cap) w := fun _ _ _ _ => rfl
  have hmm := @run_makeMap Tryz.prog
  have hent := enter_of Tryz.func64 (by kernel_rfl) rfl
  clear hs hbd hn hi h
  dsimp only [pv] at HLO
  have D0 : Hid (DS w (((w.alloc (.cells #[.string p.nm, .slice a1 p.ins.length c1, .slice a2 p.vs.length c2, .slice a3 p.os.length c3, .string p.gd, .slice a4 p.ls.length c4] 31)).alloc (.map #[] 0)).alloc (.cells #[.map (some (w.heap.size + 1))] 65)) w.heap.size (w.heap.size + 1 + 1) (w.heap.size + 1) p a1 a2 a3 a4 c1 c2 c3 c4 [] 0) := Lib.hid (by
    refine ⟨⟨by go_simp, by go_simp, by go_simp, by go_simp, by go_simp, by go_simp⟩, by go_simp, ?_, below_alloc (below_alloc (below_alloc (Below.refl _ _) _) _) _, by omega, by omega, by omega⟩
    have h1 := MpA.made (w.alloc (.cells #[.string p.nm, .slice a1 p.ins.length c1, .slice a2 p.vs.length c2, .slice a3 p.os.length c3, .string p.gd, .slice a4 p.ls.length c4] 31))
    have e1 : (w.alloc (.cells #[.string p.nm, .slice a1 p.ins.length c1, .slice a2 p.vs.length c2, .slice a3 p.os.length c3, .string p.gd, .slice a4 p.ls.length c4] 31)).heap.size = w.heap.size + 1 := by simp
    rw [e1] at h1
    exact h1.below (below_alloc (Below.refl _ _) _))
  go_enter Tryz.func34, Tryz.ntmps34
  dsimp only [pv]
  go_upto_region 2 with (fail)
  generalize ((w.alloc (.cells #[.string p.nm, .slice a1 p.ins.length c1, .slice a2 p.vs.length c2, .slice a3 p.os.length c3, .string p.gd, .slice a4 p.ls.length c4] 31)).alloc (.map #[] 0)).alloc (.cells #[.map (some (w.heap.size + 1))] 65) = W at *
  go_wp2_with (fail)
  refine (HRE.out (w.heap.size + 1 + 1) (w.heap.size + 1) [] 0 inp 1 W hisz D0.out.kf D0.out.mp).mono ?_
  rintro e w1 ⟨rfl, hm1, hg1, hz1⟩
  have D1 := Lib.hid (D0.out.put hm1 hg1)
  have I1 := Lib.hid (rL_start inp ▸ inv_start p inp : Inv p inp (rL [] 0 inp 1))
  clear D0 hm1 hg1 hz1
  generalize rL [] 0 inp 1 = l1 at *
  generalize rC [] 0 inp 1 = n1 at *
  generalize rB [] inp 1 = r1 at *
  generalize w.heap.size + 1 + 1 = bf at *
  generalize w.heap.size + 1 = bm at *
  generalize w.heap.size = b0 at *
  go_wp2_with (fail)
  go_loopw [7, 8, 9, 10, 11] (fun chv _ _ _ _ wr => ∃ (ch : Bool) (l : List En) (c : Nat), chv = .bool ch ∧ Hid (DS w wr b0 bf bm p a1 a2 a3 a4 c1 c2 c3 c4 l c) ∧ Hid (Inv p inp l) ∧ Hid (ch = false → ∀ (i : Nat) (ln : Lin), p.ls[i]? = some ln → ∀ x ∈ l, ClD p inp l i ln x)) (fun chv _ _ _ _ wr => 2 * phiW p inp wr bm + bitV chv)
  case atStart => exact ⟨true, l1, n1, rfl, D1, I1, Lib.hid (fun h => by cases h)⟩
  case round =>
    obtain ⟨ch, l, c, rfl, hd, hv, hcl⟩ := hrel
    clear D1 I1
    obtain ⟨k0, k1, k2, k3, k4, k5⟩ := hd.out.pb
    have kf := hd.out.kf
    cases ch
    rotate_left
    · clear hcl
      go_wp2_with (fail)
      obtain ⟨w0, rfl⟩ : ∃ w0, w0 = wr := ⟨_, rfl⟩
      obtain ⟨l0, rfl⟩ : ∃ l0, l0 = l := ⟨_, rfl⟩
      have HPH := Lib.hid (phiW_eq (p := p) (inp := inp) hd.out.mp)
      clear k0 k1 k2 k3 k4 k5 kf
      go_loopw [7, 8, 9, 10, 11, 25] (fun chv _ _ _ _ ii wm => ∃ (i : Nat) (ch : Bool) (l : List En) (c : Nat), i ≤ p.ls.length ∧ ii = .int .i64 i ∧ chv = .bool ch ∧ Hid (DS w wm b0 bf bm p a1 a2 a3 a4 c1 c2 c3 c4 l c) ∧ Hid (Inv p inp l) ∧ Hid (SwP p inp l0 i ch l)) (fun _ _ _ _ _ ii _ => p.ls.length - (intOf ii).toNat)
      case atStart => exact ⟨0, false, l0, c, Nat.zero_le _, rfl, rfl, hd, hv, Lib.hid (.inr ⟨rfl, rfl, fun j ln hj => absurd hj (Nat.not_lt_zero _)⟩)⟩
      case round =>
        clear hd hv
        obtain ⟨i, ch, l, c, hi, rfl, rfl, hd, hv, hsw⟩ := hrel
        obtain ⟨k0, k1, k2, k3, k4, k5⟩ := hd.out.pb
        have kf := hd.out.kf
        have hi0 : (0 : Int) ≤ (i : Int) := by omega
        by_cases hli : i < p.ls.length
        · obtain ⟨⟨tg, ts⟩, hz⟩ : ∃ z, p.ls[i]? = some z := ⟨_, List.getElem?_eq_getElem hli⟩
          have htz := HTZ.out _ (List.mem_of_getElem? hz)
          dsimp only at htz
          obtain ⟨b, off, la, lc, rfl, hblt, g0w, g1w, hrow⟩ := H.out.l.at hz
          dsimp only at g0w g1w hrow
          have HROW := Lib.hid hrow
          have g0 := cell_later hd.out.bel g0w
          have g1 := cell_later hd.out.bel g1w
          have hi1 : (i : Int) < p.ls.length := by omega
          have HZ := Lib.hid hz
          clear hz g0w g1w hrow hblt
          go_upto_region 10 with (fail)
          have hbm := hd.out.mp.lt
          have hb0 := World.block_lt_of_cell? _ _ k0
          have hbf := World.block_lt_of_cell? _ _ kf
          have hwz := hd.out.bel.size
          dsimp only at hb0 hbf
          have D2 := Lib.hid (hd.out.below (below_alloc (Below.refl wr.heap.size wr) (.cells #[.string tg, .slice la ts.length lc] 93)))
          have x0 : (wr.alloc (.cells #[.string tg, .slice la ts.length lc] 93)).cell? ⟨wr.heap.size, 0, none⟩ = some (.string tg) := by go_simp
          have x1 : (wr.alloc (.cells #[.string tg, .slice la ts.length lc] 93)).cell? ⟨wr.heap.size, 1, none⟩ = some (.slice la ts.length lc) := by go_simp
          have hsz : (wr.alloc (.cells #[.string tg, .slice la ts.length lc] 93)).heap.size = wr.heap.size + 1 := by simp
          replace hsz := Lib.hid hsz
          have HI0 := Lib.hid (hsw.out.enter ⟨tg, ts⟩ hd.out.mp.2)
          have kf2 := D2.out.kf
          generalize wr.alloc (.cells #[.string tg, .slice la ts.length lc] 93) = wl at *
          generalize wr.heap.size = bx at *
          clear k0 k1 k2 k3 k4 k5 kf g0 g1
          go_wp2_with (first
            | (at_range
               refine wpList_rangeE _ rfl (.tmp 30) rfl Tryz.underlying65 bm l c rfl D2.out.mp ?_
               intro w3 hm3 hit3 hg3 hz3)
            )
          go_simp
          have HDI : Hid (DI w w3 b0 bf bm wl.heap.size bx p a1 a2 a3 (some ⟨b, off, none⟩) c1 c2 c3 c4 tg la ts.length lc l c c []) := Lib.hid ⟨D2.out.other hm3 hg3 (fun q hq => by cases hq), hit3, cell_g x0 hg3 (fun q hq => by cases hq), cell_g x1 hg3 (fun q hq => by cases hq), by omega, by have := hsz.out; omega⟩
          clear D2 hd hm3 hit3 hg3 hz3 x0 x1 kf2 hbm hb0 hbf hwz hsz
          generalize wl.heap.size = rr at *
          obtain ⟨cs, hcs⟩ : ∃ cs, cs = c := ⟨_, rfl⟩
          have HI1 : Hid (SwI p inp l0 i ⟨tg, ts⟩ cs [] ch l) := by rw [hcs]; exact HI0
          have HD1 : Hid (DI w w3 b0 bf bm rr bx p a1 a2 a3 (some ⟨b, off, none⟩) c1 c2 c3 c4 tg la ts.length lc l c cs []) := by rw [hcs]; exact HDI
          clear HI0 HDI hcs hsw
          go_loopw [7, 10, 11] (fun chv _ _ wi => ∃ (ch : Bool) (l : List En) (c : Nat) (seen : List Nat), chv = .bool ch ∧ Hid (DI w wi b0 bf bm rr bx p a1 a2 a3 (some ⟨b, off, none⟩) c1 c2 c3 c4 tg la ts.length lc l c cs seen) ∧ Hid (Inv p inp l) ∧ Hid (SwI p inp l0 i ⟨tg, ts⟩ cs seen ch l)) (fun _ _ _ wi => p.ls.length + 2 - World.itrSeen wi rr)
          case atStart => exact ⟨ch, l, c, [], rfl, HD1, hv, HI1⟩
          case round =>
            clear HD1 HI1 hv
            obtain ⟨ch, l, c, seen, rfl, hdi, hv, hsi⟩ := hrel
            have hsl := hdi.out.it.seen_le
            have hll := hv.out.len hdi.out.ds.mp.2
            have HCNT := Lib.hid hdi.out.it.count
            go_wp2_with (first
              | (at_next
                 refine wpList_nextE _ rfl (.tmp 31) rfl bm rr l c cs seen rfl hdi.out.ds.mp hdi.out.it ?_ ?_)
              )
            · intro w5 hg5 hz5 hall
              have HSW := Lib.hid (hsi.out.leave HZ.out hall)
              have D5 := Lib.hid (hdi.out.ds.below (below_of_grown (Below.refl _ _) hg5 (fun q hq => by cases hq)))
              clear hall hg5
              go_wp2_with (fail)
              go_roundw
              case rel => exact ⟨i + 1, ch, l, c, by omega, by go_num, rfl, D5, hv, HSW⟩
              case measure => simp [intOf]; omega
            · intro x w5 hx hns hm5 hit5 hg5 hz5 hen
              have D3 := Lib.hid (hdi.out.step hm5 hit5 hg5)
              have HX := Lib.hid hx
              have hps := hv.out.pos x hx
              have x0 := D3.out.x0
              have x1 := D3.out.x1
              clear hns hm5 hit5 hg5 hx hdi
              go_wp2_with (fail)
              refine (HUS.out tg ts la lc x.s _ htz.2 (HROW.out.below D3.out.ds.bel)).mono ?_
              rintro e wu ⟨rfl, hbu⟩
              have D4 := Lib.hid (D3.out.below hbu)
              clear D3 hbu x0 x1 hen
              cases hub : usB x.s ⟨tg, ts⟩
              · have HS6 := Lib.hid (hsi.out.pass D4.out.ds.mp.2 HX.out (fun h => by rw [hub] at h; cases h))
                have HM6 := Lib.hid (show p.ls.length + 2 - World.itrSeen wu rr < p.ls.length + 2 - World.itrSeen wr rr by rw [HCNT.out, D4.out.it.count, List.length_append, List.length_singleton]; omega)
                clear hub
                go_wp2_with (fail)
                go_roundw
                case rel => exact ⟨ch, l, c, _, rfl, D4, hv, HS6⟩
                case measure => exact HM6.out
              · have HS6 := Lib.hid (hsi.out.use hv.out D4.out.ds.mp.2 HZ.out HX.out)
                have HV6 := Lib.hid (hv.out.r HN.out HIN.out D4.out.ds.mp.2 HZ.out HX.out hub)
                dsimp only at HS6 HV6
                have HWN : Hid (wN p inp i x.s = if x.s = inp then 0 else if (i : Int) ≤ ixS (tgs p) x.s then 1 else 0) := Lib.hid rfl
                generalize wN p inp i x.s = q at *
                obtain ⟨k0, k1, k2, k3, k4, k5⟩ := D4.out.ds.pb
                have g0 := D4.out.x0
                clear hub hsi hv
                by_cases hsi : x.s = inp
                · obtain rfl : q = 0 := by rw [HWN.out, if_pos hsi]
                  rw [Int.add_zero] at HS6 HV6
                  have heq : (x.s.toList == inp.toList) = true := by rw [beq_str]; exact decide_eq_true hsi
                  clear hsi HWN
                  go_wp2_with (fail)
                  refine (HRE.out bf bm l c tg _ _ htz.1 D4.out.ds.kf D4.out.ds.mp).mono ?_
                  rintro e w6 ⟨rfl, hm6, hg6, hz6⟩
                  have D6 := Lib.hid (D4.out.put hm6 hg6)
                  clear hm6 hg6 D4
                  generalize rB l tg _ = rb at *
                  generalize rL l c tg _ = l6 at *
                  generalize rC l c tg _ = n6 at *
                  have HM6 := Lib.hid (show p.ls.length + 2 - World.itrSeen w6 rr < p.ls.length + 2 - World.itrSeen wr rr by rw [HCNT.out, D6.out.it.count, List.length_append, List.length_singleton]; omega)
                  cases rb
                  · go_wp2_with (fail)
                    go_roundw
                    case rel => exact ⟨ch, l6, n6, _, rfl, D6, HV6, HS6⟩
                    case measure => exact HM6.out
                  · go_wp2_with (fail)
                    go_roundw
                    case rel => exact ⟨true, l6, n6, _, rfl, D6, HV6, HS6⟩
                    case measure => exact HM6.out
                · have heq : (x.s.toList == inp.toList) = false := by rw [beq_str]; exact decide_eq_false hsi
                  have HWN2 : Hid (q = if (i : Int) ≤ ixS (tgs p) x.s then 1 else 0) := Lib.hid (by rw [HWN.out, if_neg hsi])
                  clear hsi HWN
                  go_wp2_with (fail)
                  refine (HLO.out x.s _ (H.out.below D4.out.ds.bel)).mono ?_
                  rintro e wo ⟨rfl, hbo⟩
                  replace D4 := Lib.hid (D4.out.below hbo)
                  have g0 := D4.out.x0
                  clear hbo k0 k1 k2 k3 k4 k5
                  generalize ixS (tgs p) x.s = z at *
                  by_cases hz : (i : Int) ≤ z
                  · obtain rfl : q = 1 := by rw [HWN2.out, if_pos hz]
                    have hwr : IntKind.i64.wrap (x.v + 1) = x.v + 1 := IntWalk.i64_in _ (by omega)
                    clear HWN2
                    go_wp2_with (fail)
                    refine (HRE.out bf bm l c tg _ _ htz.1 D4.out.ds.kf D4.out.ds.mp).mono ?_
                    rintro e w6 ⟨rfl, hm6, hg6, hz6⟩
                    have D6 := Lib.hid (D4.out.put hm6 hg6)
                    clear hm6 hg6 D4
                    generalize rB l tg _ = rb at *
                    generalize rL l c tg _ = l6 at *
                    generalize rC l c tg _ = n6 at *
                    have HM6 := Lib.hid (show p.ls.length + 2 - World.itrSeen w6 rr < p.ls.length + 2 - World.itrSeen wr rr by rw [HCNT.out, D6.out.it.count, List.length_append, List.length_singleton]; omega)
                    cases rb
                    · go_wp2_with (fail)
                      go_roundw
                      case rel => exact ⟨ch, l6, n6, _, rfl, D6, HV6, HS6⟩
                      case measure => exact HM6.out
                    · go_wp2_with (fail)
                      go_roundw
                      case rel => exact ⟨true, l6, n6, _, rfl, D6, HV6, HS6⟩
                      case measure => exact HM6.out
                  · obtain rfl : q = 0 := by rw [HWN2.out, if_neg hz]
                    rw [Int.add_zero] at HS6 HV6
                    clear HWN2
                    go_wp2_with (fail)
                    refine (HRE.out bf bm l c tg _ _ htz.1 D4.out.ds.kf D4.out.ds.mp).mono ?_
                    rintro e w6 ⟨rfl, hm6, hg6, hz6⟩
                    have D6 := Lib.hid (D4.out.put hm6 hg6)
                    clear hm6 hg6 D4
                    generalize rB l tg _ = rb at *
                    generalize rL l c tg _ = l6 at *
                    generalize rC l c tg _ = n6 at *
                    have HM6 := Lib.hid (show p.ls.length + 2 - World.itrSeen w6 rr < p.ls.length + 2 - World.itrSeen wr rr by rw [HCNT.out, D6.out.it.count, List.length_append, List.length_singleton]; omega)
                    cases rb
                    · go_wp2_with (fail)
                      go_roundw
                      case rel => exact ⟨ch, l6, n6, _, rfl, D6, HV6, HS6⟩
                      case measure => exact HM6.out
                    · go_wp2_with (fail)
                      go_roundw
                      case rel => exact ⟨true, l6, n6, _, rfl, D6, HV6, HS6⟩
                      case measure => exact HM6.out
        · obtain rfl : i = p.ls.length := by omega
          have HDN := Lib.hid hsw.out.done
          have HME := Lib.hid hsw.out.meas
          have HP2 := Lib.hid (phiW_eq (p := p) (inp := inp) hd.out.mp)
          go_wp2_with (fail)
          go_roundw
          case rel => exact ⟨ch, l, c, rfl, hd, hv, HDN⟩
          case measure =>
            rw [HPH.out, HP2.out]
            exact HME.out
    · have HFX := Lib.hid (fix_of hv.out hd.out.mp.2 (hcl.out rfl))
      obtain ⟨w0, rfl⟩ : ∃ w0, w0 = wr := ⟨_, rfl⟩
      clear hv hcl
      rcases hgg : getE l p.gd with _ | g
      · have e1 : (getE l p.gd).isSome = false := by rw [hgg]; rfl
        have e2 : (getE l p.gd).getD 0 = 0 := by rw [hgg]; rfl
        have HF : Hid (∀ s, getE l s = fG p (getE l) s) := Lib.hid (fun s => by unfold fG; rw [hgg])
        clear hgg
        go_wp2_with (first
          | (at_lookup; refine wpList_lookE2 _ rfl (.tmp 63) (.tmp 65) rfl Tryz.underlying9 Tryz.underlying65 (zero_int _) bm l c rfl hd.out.mp p.gd rfl hgz ?_; rw [e1, e2])
          | (at_delete; refine wpList_delE _ rfl (.tmp 87) (.tmp 88) rfl Tryz.underlying9 Tryz.underlying65 bm l c rfl hd.out.mp inp rfl hisz ?_; intro w2 hm2 hg2 hz2; have kf2 := hd.out.kfar hg2)
          )
        go_ret
        exact retDm_of HFX.out HF.out hd.out hm2 hg2
      · have e1 : (getE l p.gd).isSome = true := by rw [hgg]; rfl
        have e2 : (getE l p.gd).getD 0 = g := by rw [hgg]; rfl
        rcases hg : p.gd.toList.isEmpty with _ | _
        rotate_left
        · have HF : Hid (∀ s, getE l s = fG p (getE l) s) := Lib.hid (fun s => by unfold fG; rw [hgg]; show getE l s = if p.gd.toList.isEmpty = false ∧ memS p.os s = true then some (minO (getE l s) g) else getE l s; rw [if_neg (by rw [hg]; simp)])
          clear hgg
          go_wp2_with (first
            | (at_lookup; refine wpList_lookE2 _ rfl (.tmp 63) (.tmp 65) rfl Tryz.underlying9 Tryz.underlying65 (zero_int _) bm l c rfl hd.out.mp p.gd rfl hgz ?_; rw [e1, e2])
            | (at_delete; refine wpList_delE _ rfl (.tmp 87) (.tmp 88) rfl Tryz.underlying9 Tryz.underlying65 bm l c rfl hd.out.mp inp rfl hisz ?_; intro w2 hm2 hg2 hz2; have kf2 := hd.out.kfar hg2)
            )
          go_ret
          exact retDm_of HFX.out HF.out hd.out hm2 hg2
        · have HF : Hid (∀ s, getE (gL l c g p.os).1 s = fG p (getE l) s) := Lib.hid (fun s => by
            rw [getE_g]
            unfold fG
            rw [hgg]
            show _ = if p.gd.toList.isEmpty = false ∧ memS p.os s = true then some (minO (getE l s) g) else getE l s
            rw [hg]
            simp only [true_and])
          clear hgg
          go_wp2_with (first
            | (at_lookup; refine wpList_lookE2 _ rfl (.tmp 63) (.tmp 65) rfl Tryz.underlying9 Tryz.underlying65 (zero_int _) bm l c rfl hd.out.mp p.gd rfl hgz ?_; rw [e1, e2])
            )
          clear k0 k1 k2 k3 k4 k5 kf e1 e2
          go_loopw [15, 78] (fun _ ii wk => ∃ k : Nat, k ≤ p.os.length ∧ ii = .int .i64 k ∧ Hid (DS w wk b0 bf bm p a1 a2 a3 a4 c1 c2 c3 c4 (gL l c g (p.os.take k)).1 (gL l c g (p.os.take k)).2)) (fun _ ii _ => p.os.length - (intOf ii).toNat)
          case atStart => exact ⟨0, Nat.zero_le _, rfl, hd⟩
          case round =>
            clear hd
            obtain ⟨k, hk, rfl, hd⟩ := hrel
            have kf := hd.out.kf
            have hk0 : (0 : Int) ≤ (k : Int) := by omega
            by_cases hlk : k < p.os.length
            · obtain ⟨x, hx⟩ : ∃ x, p.os[k]? = some x := ⟨_, List.getElem?_eq_getElem hlk⟩
              have hxz := HOZ.out x (List.mem_of_getElem? hx)
              obtain ⟨b, off, rfl, hblt, g0w⟩ := H.out.o.st hx
              have g0 := cell_later hd.out.bel g0w
              have hk1 : (k : Int) < p.os.length := by omega
              have HSN : Hid (gL l c g (p.os.take (k + 1)) = (rL (gL l c g (p.os.take k)).1 (gL l c g (p.os.take k)).2 x g, rC (gL l c g (p.os.take k)).1 (gL l c g (p.os.take k)).2 x g)) := Lib.hid (by
                rw [List.take_add_one, hx]
                exact gL_snoc g x _ l c)
              clear hx hblt g0w
              generalize gL l c g (p.os.take k) = G at *
              obtain ⟨gl, gc⟩ := G
              dsimp only at hd HSN
              go_wp2_with (fail)
              refine (HRE.out bf bm gl gc x g _ hxz hd.out.kf hd.out.mp).mono ?_
              rintro e w6 ⟨rfl, hm6, hg6, hz6⟩
              have D6 : Hid (DS w w6 b0 bf bm p a1 a2 (some ⟨b, off, none⟩) a4 c1 c2 c3 c4 (gL l c g (p.os.take (k + 1))).1 (gL l c g (p.os.take (k + 1))).2) := Lib.hid (by rw [HSN.out]; exact hd.out.put hm6 hg6)
              clear hm6 hg6 hd HSN kf
              go_wp2_with (fail)
              go_roundw
              case rel => exact ⟨k + 1, by omega, by go_num, D6⟩
              case measure => simp [intOf]; omega
            · obtain rfl : k = p.os.length := by omega
              rw [List.take_length] at hd
              generalize gL l c g p.os = G at *
              obtain ⟨gl, gc⟩ := G
              dsimp only at hd HF
              go_wp2_with (first
                | (at_delete; refine wpList_delE _ rfl (.tmp 87) (.tmp 88) rfl Tryz.underlying9 Tryz.underlying65 bm gl gc rfl hd.out.mp inp rfl hisz ?_; intro w2 hm2 hg2 hz2; have kf2 := hd.out.kfar hg2)
                )
              go_ret
              exact retDm_of HFX.out HF.out hd.out hm2 hg2
end Go.Proofs.YtackekfjalaacaaGreatDoor

/- The program's delayCode. Condition: the lengths; the keywords lie there. -/
namespace Go.Proofs.YtackekfjalaacaaGreatDoor
open Go.RowKit

set_option maxRecDepth 100000 in
theorem c_dc1 (b n c : Nat) (A : Option Addr) (l : List ByteArray) (s : ByteArray) (w : World) (hn : n = l.length) (hs : n ≤ 1048576) (k3 : w.cell? ⟨b, 3, none⟩ = some (.slice A n c)) (hr : Rd w A (sts l)) :
    Calls Tryz.prog 63 #[.string s, .pointer (some ⟨b, 0, none⟩)] w fun e w' => e = .returned (.bool (!memS l s)) ∧ Below w.heap.size w w' := by
  have HC := Lib.hid (c_ContainsS A c n l s w hn hs hr)
  generalize memS l s = q at *
  clear hn hs hr
  go_enter Tryz.func63, Tryz.ntmps63
  go_wp2_with (fail)
  refine HC.out.mono ?_
  rintro e w1 ⟨rfl, hb⟩
  replace hb := Lib.hid hb
  clear HC k3
  go_wp2_with (fail)
  go_ret
  exact ⟨rfl, hb.out⟩
def dcC (p : Prg) (inp out : ByteArray) : Int := if (wrB p && fltB p) then (if memS p.ins inp && memS p.os out then 0 else 4) else 1
set_option maxHeartbeats 1000000 in
set_option maxRecDepth 100000 in
theorem c_delayCode (p : Prg) (a1 a2 a3 a4 : Option Addr) (c1 c2 c3 c4 : Nat) (inp out : ByteArray) (g : Nat) (w : World) (hs : PgOk p) (hz : PgZ a1 a2 a3 c1 c2 c3) (h : PgR w a1 a2 a3 a4 p) (hk : KwR w) (hg : Rd w (some ⟨g, 0, none⟩) (sts [out])) :
    Calls Tryz.prog 33 #[pv p a1 a2 a3 a4 c1 c2 c3 c4, .string inp, .slice (some ⟨g, 0, none⟩) 1 1] w fun e w' => e = .returned (.int .i64 (dcC p inp out)) ∧ Below w.heap.size w w' := by
  have H := Lib.hid h
  have HK := Lib.hid hk
  have HG := Lib.hid hg
  have HSO := Lib.hid (fun w h hk => c_IsSound p a1 a2 a3 a4 c1 c2 c3 c4 w hs hz h hk)
  have HCI := Lib.hid (fun w h => c_ContainsS a1 c1 _ p.ins inp w rfl hs.i.1 h)
  have HCF := Lib.hid (fun (b : Nat) (w : World) (k3 : w.cell? ⟨b, 3, none⟩ = some (.slice a3 p.os.length c3)) (ho : Rd w a3 (sts p.os)) (hg : Rd w (some ⟨g, 0, none⟩) (sts [out])) =>
    c_ContainsSc 63 (.pointer (some ⟨b, 0, none⟩)) (fun s => !memS p.os s) (some ⟨g, 0, none⟩) 1 1 [out] w rfl (by decide) hg (Lib.hid (fun wr s _ hb => c_dc1 b _ c3 a3 p.os s wr rfl hs.o.1 (cell_later hb k3) (ho.below hb))) (enter_of Tryz.func63 (by kernel_rfl) rfl))
  have hany : ([out].any fun s => !memS p.os s) = !memS p.os out := by simp
  rw [hany] at HCF
  have HV : Hid (dcC p inp out = if (wrB p && fltB p) then (if memS p.ins inp && memS p.os out then 0 else 4) else 1) := Lib.hid rfl
  have hmf : ∀ (fn : Fn) (first cap : Array Value) (w : World), (Instr.makeFunc fn first cap).run Tryz.prog w = .ok (.func fn first cap) w := fun _ _ _ _ => rfl
  clear hany
  generalize dcC p inp out = R at *
  generalize (wrB p && fltB p) = s at *
  generalize memS p.ins inp = u at *
  generalize memS p.os out = v at *
  have B0 := Lib.hid (below_alloc (Below.refl w.heap.size w) (.cells #[.string p.nm, .slice a1 p.ins.length c1, .slice a2 p.vs.length c2, .slice a3 p.os.length c3, .string p.gd, .slice a4 p.ls.length c4] 31))
  have HP : Hid (PB (w.alloc (.cells #[.string p.nm, .slice a1 p.ins.length c1, .slice a2 p.vs.length c2, .slice a3 p.os.length c3, .string p.gd, .slice a4 p.ls.length c4] 31)) w.heap.size p a1 a2 a3 a4 c1 c2 c3 c4) := Lib.hid ⟨by go_simp, by go_simp, by go_simp, by go_simp, by go_simp, by go_simp⟩
  clear hs hz h hk hg
  go_enter Tryz.func33, Tryz.ntmps33
  dsimp only [pv]
  go_upto_region 1 with (fail)
  generalize w.alloc (.cells #[.string p.nm, .slice a1 p.ins.length c1, .slice a2 p.vs.length c2, .slice a3 p.os.length c3, .string p.gd, .slice a4 p.ls.length c4] 31) = W at *
  obtain ⟨k0, k1, k2, k3, k4, k5⟩ := HP.out
  go_wp2_with (fail)
  refine (HSO.out _ (H.out.below B0.out) (HK.out.below B0.out)).mono ?_
  rintro e w1 ⟨rfl, hb⟩
  have B1 := Lib.hid (below_chain B0.out hb)
  replace k0 := cell_later hb (by exact k0)
  replace k1 := cell_later hb (by exact k1)
  replace k2 := cell_later hb (by exact k2)
  replace k3 := cell_later hb (by exact k3)
  replace k4 := cell_later hb (by exact k4)
  replace k5 := cell_later hb (by exact k5)
  clear hb
  cases s
  · obtain rfl : R = 1 := HV.out
    go_wp2_with (fail)
    go_ret
    exact ⟨rfl, B1.out⟩
  go_wp2_with (fail)
  refine (HCI.out _ (H.out.i.below B1.out)).mono ?_
  rintro e w2 ⟨rfl, hb⟩
  have B2 := Lib.hid (below_chain B1.out hb)
  replace k0 := cell_later hb (by exact k0)
  replace k1 := cell_later hb (by exact k1)
  replace k2 := cell_later hb (by exact k2)
  replace k3 := cell_later hb (by exact k3)
  replace k4 := cell_later hb (by exact k4)
  replace k5 := cell_later hb (by exact k5)
  clear hb
  cases u
  · obtain rfl : R = 4 := HV.out
    go_wp2_with (fail)
    go_ret
    exact ⟨rfl, B2.out⟩
  go_wp2_with (fail)
  refine (HCF.out _ _ k3 (H.out.o.below B2.out) (HG.out.below B2.out)).mono ?_
  rintro e w3 ⟨rfl, hb⟩
  have B3 := Lib.hid (below_chain B2.out hb)
  clear hb k0 k1 k2 k3 k4 k5
  cases v
  · obtain rfl : R = 4 := HV.out
    go_wp2_with (fail)
    go_ret
    exact ⟨rfl, B3.out⟩
  · obtain rfl : R = 0 := HV.out
    go_wp2_with (fail)
    go_ret
    exact ⟨rfl, B3.out⟩
theorem dc_ne (p : Prg) (inp out : ByteArray) (h : dcC p inp out ≠ 0) : dlyC p inp out = dcC p inp out ∧ dlyR p inp out = 0 := by
  have e : dlyC p inp out = dcC p inp out := by
    unfold dlyC
    unfold dcC at h ⊢
    by_cases h1 : (wrB p && fltB p) = true
    · rw [if_pos h1] at h ⊢
      rw [if_pos h1]
      by_cases h2 : (memS p.ins inp && memS p.os out) = true
      · rw [if_pos h2] at h; exact absurd rfl h
      · rw [if_neg h2, if_neg h2]
    · rw [if_neg h1, if_neg h1]
  refine ⟨e, ?_⟩
  unfold dlyR
  rw [e, if_neg h]
theorem dc_eq (p : Prg) (inp out : ByteArray) (h : dcC p inp out = 0) : PgB p ∧ Nmd p ∧ inp ∈ p.ins ∧ out ∈ p.os ∧ dlyR p inp out = dlyV p inp out ∧ dlyC p inp out = if dlyV p inp out = 0 then 5 else 0 := by
  unfold dcC at h
  by_cases h1 : (wrB p && fltB p) = true
  · rw [if_pos h1] at h
    by_cases h2 : (memS p.ins inp && memS p.os out) = true
    · have e : dlyC p inp out = if dlyV p inp out = 0 then 5 else 0 := by unfold dlyC; rw [if_pos h1, if_pos h2]
      have h3 := h2
      rw [Bool.and_eq_true] at h3
      refine ⟨(snd_of h1).b, nmd_of h1, memS_iff.1 h3.1, memS_iff.1 h3.2, ?_, e⟩
      unfold dlyR
      rw [e]
      by_cases hd : dlyV p inp out = 0
      · rw [if_pos hd, if_neg (by decide), hd]
      · rw [if_neg hd, if_pos rfl]
    · rw [if_neg h2] at h; cases h
  · rw [if_neg h1] at h; cases h
theorem rd_str1 (W : World) (s : ByteArray) : Rd (W.alloc (.cells #[.string s] 9)) (some ⟨W.heap.size, 0, none⟩) (sts [s]) := by
  refine .inr ⟨W.heap.size, 0, rfl, by simp, fun j u h => ?_⟩
  match j with
  | 0 =>
    simp [sts] at h
    subst h
    go_simp
  | j + 1 => simp [sts] at h
set_option maxHeartbeats 1000000 in
set_option maxRecDepth 100000 in
theorem c_DelayOf (p : Prg) (a1 a2 a3 a4 : Option Addr) (c1 c2 c3 c4 : Nat) (inp out : ByteArray) (w : World) (hs : PgOk p) (hz : PgZ a1 a2 a3 c1 c2 c3) (h : PgR w a1 a2 a3 a4 p) (hk : KwR w) (houtz : out.size ≤ maxLen) :
    Calls Tryz.prog 21 #[pv p a1 a2 a3 a4 c1 c2 c3 c4, .string inp, .string out] w (RetP (dlyR p inp out) (dlyC p inp out) w) := by
  have H := Lib.hid h
  have HK := Lib.hid hk
  have HDC := Lib.hid (fun g w h hk hg => c_delayCode p a1 a2 a3 a4 c1 c2 c3 c4 inp out g w hs hz h hk hg)
  have HDM := Lib.hid (fun w hbd hn hi h => c_delays p a1 a2 a3 a4 c1 c2 c3 c4 inp w hs hbd hn hi h)
  have HNE := Lib.hid (dc_ne p inp out)
  have HEQ := Lib.hid (dc_eq p inp out)
  have B0 := Lib.hid (below_alloc (Below.refl w.heap.size w) (.cells #[.string p.nm, .slice a1 p.ins.length c1, .slice a2 p.vs.length c2, .slice a3 p.os.length c3, .string p.gd, .slice a4 p.ls.length c4] 31))
  have HP : Hid (PB (w.alloc (.cells #[.string p.nm, .slice a1 p.ins.length c1, .slice a2 p.vs.length c2, .slice a3 p.os.length c3, .string p.gd, .slice a4 p.ls.length c4] 31)) w.heap.size p a1 a2 a3 a4 c1 c2 c3 c4) := Lib.hid ⟨by go_simp, by go_simp, by go_simp, by go_simp, by go_simp, by go_simp⟩
  clear hs hz h hk
  dsimp only [pv] at HDC HDM
  go_enter Tryz.func21, Tryz.ntmps21
  dsimp only [pv]
  go_upto_region 1 with (fail)
  generalize w.alloc (.cells #[.string p.nm, .slice a1 p.ins.length c1, .slice a2 p.vs.length c2, .slice a3 p.os.length c3, .string p.gd, .slice a4 p.ls.length c4] 31) = W at *
  obtain ⟨k0, k1, k2, k3, k4, k5⟩ := HP.out
  have B01 := Lib.hid (below_chain B0.out (below_alloc (Below.refl W.heap.size W) (.cells #[.string out] 9)))
  have HRD := Lib.hid (rd_str1 W out)
  have hb01 := below_alloc (Below.refl W.heap.size W) (.cells #[.string out] 9)
  go_wp2_with (fail)
  refine (HDC.out _ _ (H.out.below B01.out) (HK.out.below B01.out) HRD.out).mono ?_
  rintro e w1 ⟨rfl, hb⟩
  have B1 := Lib.hid (below_chain B01.out hb)
  replace hb := below_chain hb01 hb
  replace k0 := cell_later hb (by exact k0)
  replace k1 := cell_later hb (by exact k1)
  replace k2 := cell_later hb (by exact k2)
  replace k3 := cell_later hb (by exact k3)
  replace k4 := cell_later hb (by exact k4)
  replace k5 := cell_later hb (by exact k5)
  clear hb hb01 HDC HRD B01
  by_cases hr : dcC p inp out = 0
  rotate_left
  · obtain ⟨h1, h2⟩ := HNE.out hr
    have HA := Lib.hid h1
    have HB := Lib.hid h2
    have er : (dcC p inp out != 0) = true := by simpa using hr
    clear hr h1 h2 HNE HEQ k0 k1 k2 k3 k4 k5
    generalize dcC p inp out = q at *
    go_wp2_with (fail)
    go_ret2
    exact retP_of HB.out HA.out B1.out
  · obtain ⟨h1, h2, h3, h4, h5, h6⟩ := HEQ.out hr
    have HB := Lib.hid h1
    have HN := Lib.hid h2
    have HI := Lib.hid h3
    have HO := Lib.hid h4
    have HA := Lib.hid h5
    have HC := Lib.hid h6
    clear h1 h2 h3 h4 h5 h6 HNE HEQ
    generalize dcC p inp out = q at *
    subst hr
    go_wp2_with (fail)
    refine (HDM.out _ HB.out HN.out HI.out (H.out.below B1.out)).mono ?_
    rintro e w2 ⟨bm, l, c, f, rfl, hm, hb, hf, hg, hbm⟩
    have B2 := Lib.hid (below_chain B1.out hb)
    have HE : Hid (getE l out = some0 (dlyV p inp out)) := Lib.hid (by
      rw [hg, if_neg (fun e : out = inp => HN.out.in_v HI.out (.inr (e ▸ HO.out)))]
      exact out_is HN.out HI.out hf HO.out)
    have HM := Lib.hid hm
    clear hb hf hg hbm hm k0 k1 k2 k3 k4 k5 HDM
    generalize dlyV p inp out = d at *
    by_cases hd : d = 0
    · subst hd
      have e1 : (getE l out).isSome = false := by rw [HE.out]; rfl
      have e2 : (getE l out).getD 0 = 0 := by rw [HE.out]; rfl
      clear HE
      go_wp2_with (first
        | (at_lookup; refine wpList_lookE2 _ rfl (.tmp 22) (.tmp 23) rfl Tryz.underlying9 Tryz.underlying65 (zero_int _) bm l c rfl HM.out out rfl houtz ?_; rw [e1, e2])
        )
      go_ret2
      exact retP_of HA.out HC.out B2.out
    · have hs0 : some0 d = some d := if_neg hd
      have e1 : (getE l out).isSome = true := by rw [HE.out, hs0]; rfl
      have e2 : (getE l out).getD 0 = d := by rw [HE.out, hs0]; rfl
      have HC2 := Lib.hid (HC.out.trans (if_neg hd))
      clear HE hd hs0 HC
      go_wp2_with (first
        | (at_lookup; refine wpList_lookE2 _ rfl (.tmp 22) (.tmp 23) rfl Tryz.underlying9 Tryz.underlying65 (zero_int _) bm l c rfl HM.out out rfl houtz ?_; rw [e1, e2])
        )
      go_ret2
      exact retP_of HA.out HC2.out B2.out
end Go.Proofs.YtackekfjalaacaaGreatDoor
