/- A valid model is read from its text, by the program's reader and by the reference's. No condition. -/
import Derived.Test.YtgpmglfcdbpgkaaGreatDoorTxP
namespace Go.Proofs.YtgpmglfcdbpgkaaGreatDoor
open Go.RowKit

def SmI (z : Int) : Prop := 0 ≤ z ∧ z ≤ 32
theorem sm_nat {z : Int} (h : SmI z) : ∃ n : Nat, z = n ∧ n < 33 := ⟨z.toNat, by have := h.1; omega, by have := h.1; have := h.2; omega⟩
theorem rdI_sm {z : Int} (h : SmI z) : rdI (Lib.itoa z) = some z := by obtain ⟨n, rfl, hn⟩ := sm_nat h; exact rdI_itoa hn
theorem valS_sm {z : Int} (h : SmI z) : valS (Lib.itoa z) = some z := by obtain ⟨n, rfl, hn⟩ := sm_nat h; exact valS_itoa hn
theorem sgnS_sm {z : Int} (h : SmI z) : sgnS (Lib.itoa z) = some z := by obtain ⟨n, rfl, hn⟩ := sm_nat h; exact sgnS_itoa hn
theorem dig_sm {z : Int} (h : SmI z) : ∀ c ∈ Lib.itoa z, digB c = true := by obtain ⟨n, rfl, hn⟩ := sm_nat h; exact itoa_dig hn
theorem nn_sm {z : Int} (h : SmI z) : Lib.itoa z ≠ [] := by obtain ⟨n, rfl, hn⟩ := sm_nat h; exact itoa_nn hn
theorem not_dig {z : Int} (h : SmI z) {c : UInt8} (hc : digB c = false) : c ∉ Lib.itoa z := fun hm => by
  rw [dig_sm h c hm] at hc
  cases hc
theorem join_all {p : UInt8 → Bool} {sep : List UInt8} (hs : ∀ c ∈ sep, p c = true) : ∀ {ws : List (List UInt8)}, (∀ w ∈ ws, ∀ c ∈ w, p c = true) → ∀ c ∈ Lib.join ws sep, p c = true
  | [], _, c, hc => by rw [Lib.join_nil] at hc; cases hc
  | x :: r, hw, c, hc => by
    rw [Lib.join_cons, List.mem_append] at hc
    rcases hc with hc | hc
    · exact hw x (List.mem_cons_self ..) c hc
    · unfold Lib.joinTail at hc
      obtain ⟨l, hl, hcl⟩ := List.mem_flatten.1 hc
      obtain ⟨y, hy, rfl⟩ := List.mem_map.1 hl
      rcases List.mem_append.1 hcl with hcl | hcl
      · exact hs c hcl
      · exact hw y (List.mem_cons_of_mem _ hy) c hcl
theorem nums_all {p : UInt8 → Bool} (hp : ∀ c, digB c = true → p c = true) (h44 : p 44 = true) {l : List Int} (h : ∀ z ∈ l, SmI z) : ∀ c ∈ txNums l, p c = true := by
  refine join_all (by simpa using h44) fun w hw c hc => ?_
  obtain ⟨z, hz, rfl⟩ := List.mem_map.1 hw
  exact hp c (dig_sm (h z hz) c hc)
theorem nums_spl {l : List Int} (hne : l ≠ []) (h : ∀ z ∈ l, SmI z) : spl 44 (txNums l) = l.map Lib.itoa := by
  refine spl_join (by simpa using hne) fun w hw => ?_
  obtain ⟨z, hz, rfl⟩ := List.mem_map.1 hw
  exact not_dig (h z hz) (by decide)
/-- A test, an assignment as they are written: in range. -/
def TstS (t : Tst) : Prop := SmI t.v ∧ SmI t.x
def AsgS (a : Asg) : Prop := SmI a.v ∧ SmI a.x
theorem pair_spl {c : UInt8} {a b : Int} (ha : SmI a) (hb : SmI b) (hc : digB c = false) : spl c (Lib.itoa a ++ c :: Lib.itoa b) = [Lib.itoa a, Lib.itoa b] := by
  rw [spl_cut _ (not_dig ha hc), spl_out (not_dig hb hc)]
theorem aroundI_pair {c : UInt8} {a b : Int} (ha : SmI a) (hb : SmI b) (hc : digB c = false) : aroundI c (Lib.itoa a ++ c :: Lib.itoa b) = some (a, b) := by
  unfold aroundI
  rw [pair_spl ha hb hc]
  simp [seqO, rdI_sm ha, rdI_sm hb]
theorem test_has {t : Tst} (h : TstS t) : (txTest t).contains 61 = t.q := by
  obtain ⟨v, x, q⟩ := t
  have h1 := not_dig h.1 (c := 61) (by decide)
  have h2 := not_dig h.2 (c := 61) (by decide)
  dsimp only at h1 h2
  unfold txTest
  cases q <;> simp [h1, h2]
theorem testI_tx {t : Tst} (h : TstS t) : testI (txTest t) = some t := by
  have hq := test_has h
  unfold testI
  rw [hq]
  obtain ⟨v, x, q⟩ := t
  have : aroundI (if q = true then 61 else 33) (txTest ⟨v, x, q⟩) = some (v, x) := aroundI_pair h.1 h.2 (by cases q <;> decide)
  dsimp only
  rw [this]
theorem asgI_tx {a : Asg} (h : AsgS a) : asgI (txAsg a) = some a := by
  unfold asgI
  have : aroundI 58 (txAsg a) = some (a.v, a.x) := aroundI_pair h.1 h.2 (by decide)
  rw [this]
/-- A word of a list: it begins with a digit, and no & stands in it. -/
def WordL (w : List UInt8) : Prop := (∃ c t, w = c :: t ∧ digB c = true) ∧ (38 : UInt8) ∉ w
theorem word_tst {t : Tst} (h : TstS t) : WordL (txTest t) := by
  obtain ⟨v, x, q⟩ := t
  have hn := nn_sm h.1
  have hd := dig_sm h.1
  have h1 := not_dig h.1 (c := 38) (by decide)
  have h2 := not_dig h.2 (c := 38) (by decide)
  dsimp only at hn hd h1 h2
  unfold txTest WordL
  dsimp only
  refine ⟨?_, ?_⟩
  · cases hv : Lib.itoa v with
    | nil => exact absurd hv hn
    | cons c t => exact ⟨c, _, rfl, hd c (by rw [hv]; exact List.mem_cons_self ..)⟩
  · cases q <;> simp [h1, h2]
theorem word_asg {t : Asg} (h : AsgS t) : WordL (txAsg t) := by
  obtain ⟨v, x⟩ := t
  have hn := nn_sm h.1
  have hd := dig_sm h.1
  have h1 := not_dig h.1 (c := 38) (by decide)
  have h2 := not_dig h.2 (c := 38) (by decide)
  dsimp only at hn hd h1 h2
  unfold txAsg WordL
  dsimp only
  refine ⟨?_, ?_⟩
  · cases hv : Lib.itoa v with
    | nil => exact absurd hv hn
    | cons c t => exact ⟨c, _, rfl, hd c (by rw [hv]; exact List.mem_cons_self ..)⟩
  · simp [h1, h2]
theorem list_ne {ws : List (List UInt8)} (hne : ws ≠ []) (h : ∀ w ∈ ws, WordL w) : Lib.join ws [38] ≠ [45] := by
  match ws, hne with
  | x :: r, _ =>
    obtain ⟨⟨c, t, rfl, hc⟩, _⟩ := h x (List.mem_cons_self ..)
    rw [Lib.join_cons, List.cons_append]
    intro e
    have : c = 45 := by injection e
    subst this
    exact absurd hc (by decide)
theorem txList_ne {ws : List (List UInt8)} (hne : ws ≠ []) (h : ∀ w ∈ ws, WordL w) : txList ws ≠ [45] ∧ spl 38 (txList ws) = ws := by
  unfold txList
  rw [if_neg hne]
  exact ⟨list_ne hne h, spl_join hne fun w hw => (h w hw).2⟩
theorem listI_tx {ws : List (List UInt8)} (h : ∀ w ∈ ws, WordL w) : listI (txList ws) = ws := by
  by_cases hne : ws = []
  · subst hne; rfl
  · have := txList_ne hne h
    unfold listI
    rw [if_neg this.1, this.2]
/-- The bytes of a list of tests or assignments: no space, no end of line. -/
def midB (c : UInt8) : Bool := digB c || c == 61 || c == 33 || c == 58 || c == 38 || c == 45
theorem mid_dig {c : UInt8} (h : digB c = true) : midB c = true := by unfold midB; rw [h]; rfl
theorem txList_all {ws : List (List UInt8)} (h : ∀ w ∈ ws, ∀ c ∈ w, midB c = true) : ∀ c ∈ txList ws, midB c = true := by
  unfold txList
  split
  · intro c hc; simp at hc; subst hc; decide
  · exact join_all (by intro c hc; simp at hc; subst hc; decide) h
theorem test_all {t : Tst} (h : TstS t) : ∀ c ∈ txTest t, midB c = true := by
  intro c hc
  unfold txTest at hc
  rcases List.mem_append.1 hc with hc | hc
  · exact mid_dig (dig_sm h.1 c hc)
  · rcases List.mem_cons.1 hc with rfl | hc
    · split <;> decide
    · exact mid_dig (dig_sm h.2 c hc)
theorem asg_all {t : Asg} (h : AsgS t) : ∀ c ∈ txAsg t, midB c = true := by
  intro c hc
  unfold txAsg at hc
  rcases List.mem_append.1 hc with hc | hc
  · exact mid_dig (dig_sm h.1 c hc)
  · rcases List.mem_cons.1 hc with rfl | hc
    · decide
    · exact mid_dig (dig_sm h.2 c hc)
/-- A rule as it is written: in range. -/
structure RulS (r : Rul) : Prop where
  nm : ∀ c ∈ r.nm.data.toList, wb c = true
  gs : ∀ t ∈ r.gs, TstS t
  es : ∀ a ∈ r.es, AsgS a
theorem wb_no {s : List UInt8} (h : ∀ c ∈ s, wb c = true) {c : UInt8} (hc : wb c = false) : c ∉ s := fun hm => by rw [h c hm] at hc; cases hc
theorem mid_no {s : List UInt8} (h : ∀ c ∈ s, midB c = true) {c : UInt8} (hc : midB c = false) : c ∉ s := fun hm => by rw [h c hm] at hc; cases hc
theorem gs_all {r : Rul} (h : RulS r) : ∀ c ∈ txList (r.gs.map txTest), midB c = true := txList_all fun w hw => by
  obtain ⟨t, ht, rfl⟩ := List.mem_map.1 hw
  exact test_all (h.gs t ht)
theorem es_all {r : Rul} (h : RulS r) : ∀ c ∈ txList (r.es.map txAsg), midB c = true := txList_all fun w hw => by
  obtain ⟨t, ht, rfl⟩ := List.mem_map.1 hw
  exact asg_all (h.es t ht)
theorem rule_spl {r : Rul} (h : RulS r) : spl 32 (txRule r) = [r.nm.data.toList, txList (r.gs.map txTest), txList (r.es.map txAsg)] := by
  unfold txRule
  rw [spl_cut _ (wb_no h.nm (by decide)), spl_cut _ (mid_no (gs_all h) (by decide)), spl_out (mid_no (es_all h) (by decide))]
theorem name_back (s : ByteArray) : (⟨s.data.toList.toArray⟩ : ByteArray) = s := by
  cases s; simp
theorem ruleI_tx {r : Rul} (h : RulS r) : ruleI (txRule r) = some r := by
  have h1 : listI (txList (r.gs.map txTest)) = r.gs.map txTest := listI_tx fun w hw => by
    obtain ⟨t, ht, rfl⟩ := List.mem_map.1 hw
    exact word_tst (h.gs t ht)
  have h2 : listI (txList (r.es.map txAsg)) = r.es.map txAsg := listI_tx fun w hw => by
    obtain ⟨t, ht, rfl⟩ := List.mem_map.1 hw
    exact word_asg (h.es t ht)
  have h3 : seqO testI (r.gs.map txTest) = some r.gs := seqO_map fun t ht => testI_tx (h.gs t ht)
  have h4 : seqO asgI (r.es.map txAsg) = some r.es := seqO_map fun t ht => asgI_tx (h.es t ht)
  unfold ruleI
  rw [rule_spl h]
  dsimp only
  rw [h1, h3]
  dsimp only
  rw [h2, h4]
theorem rule_no10 {r : Rul} (h : RulS r) : (10 : UInt8) ∉ txRule r := by
  intro hm
  unfold txRule at hm
  rcases List.mem_append.1 hm with hm | hm
  · exact wb_no h.nm (by decide) hm
  · rcases List.mem_cons.1 hm with hm | hm
    · exact absurd hm (by decide)
    · rcases List.mem_append.1 hm with hm | hm
      · exact mid_no (gs_all h) (by decide) hm
      · rcases List.mem_cons.1 hm with hm | hm
        · exact absurd hm (by decide)
        · exact mid_no (es_all h) (by decide) hm
/-- A model as it is written: in range. -/
structure MdlS (m : Mdl) : Prop where
  sz : ∀ z ∈ m.sz, SmI z
  st : ∀ z ∈ m.st, SmI z
  szn : m.sz ≠ []
  stn : m.st ≠ []
  rs : ∀ r ∈ m.rs, RulS r
def numB (c : UInt8) : Bool := digB c || c == 44
theorem nums_numB {l : List Int} (h : ∀ z ∈ l, SmI z) : ∀ c ∈ txNums l, numB c = true := nums_all (fun c hc => by unfold numB; rw [hc]; rfl) (by decide) h
theorem num_no {s : List UInt8} (h : ∀ c ∈ s, numB c = true) {c : UInt8} (hc : numB c = false) : c ∉ s := fun hm => by rw [h c hm] at hc; cases hc
theorem head_no10 {m : Mdl} (h : MdlS m) : (10 : UInt8) ∉ txHead m := by
  intro hm
  unfold txHead at hm
  rcases List.mem_append.1 hm with hm | hm
  · exact num_no (nums_numB h.sz) (by decide) hm
  · rcases List.mem_cons.1 hm with hm | hm
    · exact absurd hm (by decide)
    · exact num_no (nums_numB h.st) (by decide) hm
theorem lines_no10 {m : Mdl} (h : MdlS m) : ∀ w ∈ txHead m :: m.rs.map txRule, (10 : UInt8) ∉ w := by
  intro w hw
  rcases List.mem_cons.1 hw with rfl | hw
  · exact head_no10 h
  · obtain ⟨r, hr, rfl⟩ := List.mem_map.1 hw
    exact rule_no10 (h.rs r hr)
theorem modelI_tx {m : Mdl} (h : MdlS m) : modelI (txModel m) = some m := by
  have hl : linesI (txModel m) = txHead m :: m.rs.map txRule := by
    unfold linesI txModel
    rw [lines_join, trim_end, spl_join (by simp) (lines_no10 h)]
  have h1 : seqO rdI (spl 44 (txNums m.sz)) = some m.sz := by rw [nums_spl h.szn h.sz]; exact seqO_map fun z hz => rdI_sm (h.sz z hz)
  have h2 : seqO rdI (spl 44 (txNums m.st)) = some m.st := by rw [nums_spl h.stn h.st]; exact seqO_map fun z hz => rdI_sm (h.st z hz)
  have h3 : seqO ruleI (m.rs.map txRule) = some m.rs := seqO_map fun r hr => ruleI_tx (h.rs r hr)
  unfold modelI
  rw [hl, List.headD_cons, List.tail_cons, show txHead m = txNums m.sz ++ 32 :: txNums m.st from rfl, cut_cut _ (num_no (nums_numB h.sz) (by decide))]
  dsimp only
  rw [h1, h2, h3]
/-! ### The reference's reader -/
theorem fold_out {signs : List UInt8} : ∀ {w : List UInt8} (s : UInt8), (∀ c ∈ w, signs.contains c = false) → w.foldl (fun s c => if signs.contains c then c else s) s = s
  | [], _, _ => rfl
  | c :: w, s, h => by
    rw [List.foldl_cons, h c (List.mem_cons_self ..), if_neg (by decide)]
    exact fold_out s fun d hd => h d (List.mem_cons_of_mem _ hd)
theorem sign_pair {signs : List UInt8} {c : UInt8} {a b : Int} (ha : SmI a) (hb : SmI b) (hd : ∀ d, digB d = true → signs.contains d = false) (hc : signs.contains c = true) : signS signs (Lib.itoa a ++ c :: Lib.itoa b) = c := by
  unfold signS
  rw [List.foldl_append, fold_out 0 (fun d h => hd d (dig_sm ha d h)), List.foldl_cons, if_pos hc, fold_out c (fun d h => hd d (dig_sm hb d h))]
theorem pairS_pair {signs : List UInt8} {c : UInt8} {a b : Int} (ha : SmI a) (hb : SmI b) (hd : ∀ d, digB d = true → signs.contains d = false) (hc : signs.contains c = true) (h0 : c ≠ 0) (hcd : digB c = false) : pairS signs (Lib.itoa a ++ c :: Lib.itoa b) = some (a, b, c) := by
  unfold pairS
  rw [sign_pair ha hb hd hc, if_neg h0, pair_spl ha hb hcd]
  dsimp only
  rw [valS_sm ha]
  dsimp only
  rw [valS_sm hb]
theorem dig_signs : ∀ n : Fin 256, digB (UInt8.ofNat n.val) = true → ([61, 33] : List UInt8).contains (UInt8.ofNat n.val) = false ∧ ([58] : List UInt8).contains (UInt8.ofNat n.val) = false := by decide +kernel
theorem dig_s1 (d : UInt8) (h : digB d = true) : ([61, 33] : List UInt8).contains d = false := by
  have := dig_signs ⟨d.toNat, d.toNat_lt⟩
  simp only [UInt8.ofNat_toNat] at this
  exact (this h).1
theorem dig_s2 (d : UInt8) (h : digB d = true) : ([58] : List UInt8).contains d = false := by
  have := dig_signs ⟨d.toNat, d.toNat_lt⟩
  simp only [UInt8.ofNat_toNat] at this
  exact (this h).2
theorem seqO_map2 {α β γ : Type} {f : α → Option γ} {g : β → α} {k : β → γ} : ∀ {bs : List β}, (∀ b ∈ bs, f (g b) = some (k b)) → seqO f (bs.map g) = some (bs.map k)
  | [], _ => rfl
  | b :: bs, h => by
    rw [List.map_cons, seqO, h b (List.mem_cons_self ..), seqO_map2 (fun x hx => h x (List.mem_cons_of_mem _ hx))]
    rfl
theorem pairsS_tx {signs : List UInt8} {ws : List (List UInt8)} {ps : List (Int × Int × UInt8)} (h : ∀ w ∈ ws, WordL w) (hp : seqO (pairS signs) ws = some ps) : pairsS signs (txList ws) = some ps := by
  by_cases hne : ws = []
  · subst hne
    simp only [seqO, Option.some.injEq] at hp
    subst hp
    rfl
  · have := txList_ne hne h
    unfold pairsS
    rw [if_neg this.1, this.2, hp]
theorem ruleS_tx {r : Rul} (h : RulS r) : ruleS (txRule r) = some r := by
  have h1 : pairsS [61, 33] (txList (r.gs.map txTest)) = some (r.gs.map fun t => (t.v, t.x, if t.q then (61 : UInt8) else 33)) := by
    refine pairsS_tx (fun w hw => ?_) (seqO_map2 fun t ht => ?_)
    · obtain ⟨t, ht, rfl⟩ := List.mem_map.1 hw
      exact word_tst (h.gs t ht)
    · exact pairS_pair (h.gs t ht).1 (h.gs t ht).2 dig_s1 (by split <;> decide) (by split <;> decide) (by split <;> decide)
  have h2 : pairsS [58] (txList (r.es.map txAsg)) = some (r.es.map fun t => (t.v, t.x, (58 : UInt8))) := by
    refine pairsS_tx (fun w hw => ?_) (seqO_map2 fun t ht => ?_)
    · obtain ⟨t, ht, rfl⟩ := List.mem_map.1 hw
      exact word_asg (h.es t ht)
    · exact pairS_pair (h.es t ht).1 (h.es t ht).2 dig_s2 (by decide) (by decide) (by decide)
  unfold ruleS
  rw [rule_spl h]
  dsimp only
  rw [h1]
  dsimp only
  rw [h2]
  dsimp only
  rw [name_back]
  have e1 : (r.gs.map fun t => (t.v, t.x, if t.q then (61 : UInt8) else 33)).map (fun p => (⟨p.1, p.2.1, p.2.2 == 61⟩ : Tst)) = r.gs := by
    rw [List.map_map]
    refine (List.map_congr_left fun t _ => ?_).trans (List.map_id _)
    obtain ⟨v, x, q⟩ := t
    cases q <;> rfl
  have e2 : (r.es.map fun t => (t.v, t.x, (58 : UInt8))).map (fun p => (⟨p.1, p.2.1⟩ : Asg)) = r.es := by
    rw [List.map_map]
    exact (List.map_congr_left fun t _ => rfl).trans (List.map_id _)
  rw [e1, e2]
theorem modelS_tx {m : Mdl} (h : MdlS m) : modelS (txModel m) = some m := by
  have hl : spl 10 (txModel m) = (txHead m :: m.rs.map txRule) ++ [[]] := spl_lines (lines_no10 h)
  have h1 : seqO sgnS (spl 44 (txNums m.sz)) = some m.sz := by rw [nums_spl h.szn h.sz]; exact seqO_map fun z hz => sgnS_sm (h.sz z hz)
  have h2 : seqO sgnS (spl 44 (txNums m.st)) = some m.st := by rw [nums_spl h.stn h.st]; exact seqO_map fun z hz => sgnS_sm (h.st z hz)
  have h3 : seqO ruleS (m.rs.map txRule) = some m.rs := seqO_map fun r hr => ruleS_tx (h.rs r hr)
  unfold modelS
  rw [hl, List.cons_append, List.headD_cons, List.tail_cons, List.dropLast_concat, show txHead m = txNums m.sz ++ 32 :: txNums m.st from rfl, spl_cut _ (num_no (nums_numB h.sz) (by decide)), spl_out (num_no (nums_numB h.st) (by decide))]
  dsimp only
  rw [h1, h2, h3]
/-! ### A valid model is in range -/
theorem has_sm {sz : List Int} {v x : Int} (hn : sz.length ≤ 16) (hz : ∀ z ∈ sz, z ≤ 32) (h : hasB sz v x = true) : SmI v ∧ SmI x := by
  unfold hasB inB at h
  simp only [Bool.and_eq_true, decide_eq_true_eq] at h
  obtain ⟨⟨h1, h2⟩, h3, h4⟩ := h
  have hlt : v.toNat < sz.length := by omega
  have := hz _ (List.getElem_mem hlt)
  rw [List.getD_eq_getElem?_getD, List.getElem?_eq_getElem hlt, Option.getD_some] at h4
  exact ⟨⟨h1, by omega⟩, ⟨h3, by omega⟩⟩
theorem valid_S {m : Mdl} (h : mdB m = true) : MdlS m := by
  unfold mdB at h
  simp only [Bool.and_eq_true, decide_eq_true_eq] at h
  obtain ⟨h1, h2, h3, h4, h5⟩ := h
  have hz : ∀ z ∈ m.sz, 1 ≤ z ∧ z ≤ 32 := by
    intro z hz
    unfold szB at h1
    rw [Bool.not_eq_true', List.any_eq_false] at h1
    have := h1 z hz
    simp only [Bool.not_eq_true, Bool.not_eq_false'] at this
    exact of_decide_eq_true this
  have hl := of_decide_eq_true h2
  have hs : m.st.length = m.sz.length ∧ ∀ i, i < m.st.length → inB (m.st.getD i 0) 0 (m.sz.getD i 0 - 1) = true := by
    unfold stB stK at h3
    simp only [Bool.and_eq_true, decide_eq_true_eq, List.all_eq_true, List.mem_range] at h3
    exact h3
  refine ⟨fun z h => ⟨by have := (hz z h).1; omega, (hz z h).2⟩, fun z h => ?_, fun e => by rw [e] at hl; simp at hl, fun e => by have := hs.1; rw [e] at this; simp at this; omega, fun r hr => ?_⟩
  · obtain ⟨i, hi, rfl⟩ := List.getElem_of_mem h
    have := of_decide_eq_true (hs.2 i hi)
    have hi2 : i < m.sz.length := by omega
    have hb := (hz _ (List.getElem_mem hi2)).2
    rw [List.getD_eq_getElem?_getD, List.getElem?_eq_getElem hi, Option.getD_some, List.getD_eq_getElem?_getD, List.getElem?_eq_getElem hi2, Option.getD_some] at this
    exact ⟨this.1, by omega⟩
  · have hr1 : rlB m.sz r = true := by
      unfold rsB at h5
      rw [Bool.not_eq_true', List.any_eq_false] at h5
      have := h5 r hr
      simpa using this
    unfold rlB at hr1
    simp only [Bool.and_eq_true, decide_eq_true_eq] at hr1
    obtain ⟨k1, k2, k3, k4⟩ := hr1
    have hn16 : m.sz.length ≤ 16 := by omega
    refine ⟨?_, fun t ht => ?_, fun a ha => ?_⟩
    · unfold nmB at k2
      simp only [Bool.and_eq_true] at k2
      exact List.all_eq_true.1 k2.2
    · unfold tsB tsK at k3
      simp only [Bool.and_eq_true] at k3
      exact has_sm hn16 (fun z h => (hz z h).2) (List.all_eq_true.1 k3.1 t ht)
    · obtain ⟨i, hi, rfl⟩ := List.getElem_of_mem ha
      unfold esK at k1
      have := List.all_eq_true.1 k1 i (List.mem_range.2 hi)
      unfold esS at this
      simp only [Bool.and_eq_true] at this
      have h1 := has_sm hn16 (fun z h => (hz z h).2) this.1
      rw [List.getD_eq_getElem?_getD, List.getElem?_eq_getElem hi, Option.getD_some] at h1
      exact h1
/-- Both readers agree on the texts of valid models, and what they read else is no such text. -/
theorem readers {s : List UInt8} {m : Mdl} (h : mdB m = true) (ht : txModel m = s) : modelI s = some m ∧ modelS s = some m := by
  subst ht
  exact ⟨modelI_tx (valid_S h), modelS_tx (valid_S h)⟩
def readM (s : List UInt8) : Option Mdl := match modelI s with | some m => if mdB m = true ∧ txModel m = s then some m else none | none => none
theorem readM_S (s : List UInt8) : readM s = match modelS s with | some m => if mdB m = true ∧ txModel m = s then some m else none | none => none := by
  unfold readM
  cases hI : modelI s with
  | none =>
    cases hS : modelS s with
    | none => rfl
    | some m =>
      dsimp only
      rw [if_neg]
      rintro ⟨h1, h2⟩
      rw [(readers h1 h2).1] at hI
      cases hI
  | some m =>
    dsimp only
    by_cases h : mdB m = true ∧ txModel m = s
    · rw [if_pos h, (readers h.1 h.2).2]
      dsimp only
      rw [if_pos h]
    · rw [if_neg h]
      cases hS : modelS s with
      | none => rfl
      | some m' =>
        dsimp only
        rw [if_neg]
        rintro ⟨h1, h2⟩
        have := (readers h1 h2).1
        rw [hI] at this
        simp only [Option.some.injEq] at this
        subst this
        exact h ⟨h1, h2⟩
theorem txModel_ne (m : Mdl) : txModel m ≠ [] := by
  unfold txModel
  simp
end Go.Proofs.YtgpmglfcdbpgkaaGreatDoor
