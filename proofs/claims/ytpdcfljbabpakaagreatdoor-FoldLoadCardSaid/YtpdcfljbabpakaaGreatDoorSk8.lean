/- Texts joined. -/
import Derived.Test.YtpdcfljbabpakaaGreatDoorSk7
import Derived.Test.YtpdcfljbabpakaaGreatDoorSk5
import Derived.Deep.Slices
import Derived.ChangeStays
import Derived.MapPlaces
import Derived.ChangeBears
set_option linter.unusedVariables false
set_option linter.unusedSimpArgs false
set_option maxRecDepth 100000
set_option maxHeartbeats 8000000
namespace Go.Proofs.YtpdcfljbabpakaaGreatDoor
open Go Go.RowKit Go.Proofs.AE
theorem checkC_facts {c : Cmd} (h : checkC c = 0) : 1 ≤ c.kind ∧ c.kind ≤ 22 ∧ okText c.text = true ∧ okCount c.n = true ∧ (4 ≤ c.kind → c.kind ≤ 6 → okField c.field = true) := by
  unfold checkC checkCommand at h
  by_cases h1 : c.kind < 1
  · rw [if_pos h1] at h; cases h
  rw [if_neg h1] at h
  by_cases h2 : 22 < c.kind
  · rw [if_pos h2] at h; cases h
  rw [if_neg h2] at h
  by_cases h3 : formOk c.kind c.key c.field c.text c.n = false
  · rw [if_pos h3] at h; cases h
  rw [if_neg h3] at h
  by_cases h4 : ((c.kind != 22 && !okField c.key || (c.kind == 4 || c.kind == 5 || c.kind == 6) && !okField c.field) || !okText c.text) = true
  · rw [if_pos h4] at h; cases h
  rw [if_neg h4] at h
  by_cases h5 : okCount c.n = false
  · rw [if_pos h5] at h; cases h
  simp only [Bool.or_eq_true, Bool.and_eq_true, not_or, not_and, Bool.not_eq_true', Bool.not_eq_false, beq_iff_eq] at h4 h5
  refine ⟨by omega, by omega, h4.2, h5, fun h6 h7 => ?_⟩
  exact h4.1.2 (by omega)
structure OkB (v : Val) : Prop where
  kind : 1 ≤ v.kind ∧ v.kind ≤ 6
  text : v.kind = 1 ∨ v.text = ⟨#[]⟩
  count : v.kind = 2 ∨ v.count = 0
  pairs : v.kind = 3 ∨ v.pairs = []
  items : v.kind = 4 ∨ v.kind = 5 ∨ v.items = []
  scores : v.kind = 6 ∨ v.scores = []
  els : v.els ≤ 20
  okT : okText v.text = true
  okI : ∀ s ∈ v.items, okText s = true
  okP : ∀ p ∈ v.pairs, okField p.1 = true ∧ okText p.2 = true
  okS : ∀ s ∈ v.scores, okText s.1 = true ∧ okCount s.2 = true
  okC : okCount v.count = true
  riseP : v.pairs.Pairwise (fun a b => bF a b < 0)
  riseS : v.scores.Pairwise (fun a b => bS a b < 0)
  riseI : v.kind = 5 → v.items.Pairwise (fun a b => cmpB a b < 0)
  once : v.scores.Pairwise (fun a b => a.1 ≠ b.1)
theorem OkB.ok {v : Val} (h : OkB v) (h1 : ¬ (3 ≤ v.kind ∧ v.els = 0)) : OkV v :=
  ⟨h.kind, h.text, h.count, h.pairs, h.items, h.scores, fun hk => by have := h.els; have : 0 ≤ v.els := by (unfold Val.els; omega)
                                                                     omega, h.okT, h.okI, h.okP, h.okS, h.okC, h.riseP, h.riseS, h.riseI, h.once⟩
theorem OkV.b {v : Val} (h : OkV v) : OkB v := by
  refine ⟨h.kind, h.text, h.count, h.pairs, h.items, h.scores, ?_, h.okT, h.okI, h.okP, h.okS, h.okC, h.riseP, h.riseS, h.riseI, h.once⟩
  by_cases hk : 3 ≤ v.kind
  · exact (h.els hk).2
  · unfold Val.els
    rw [h.pairs.resolve_left (by omega), (h.items.resolve_left (by omega)).resolve_left (by omega), h.scores.resolve_left (by omega)]
    simp
theorem fresh_b {k : Int} (h1 : 1 ≤ k) (h2 : k ≤ 6) : OkB ⟨k, ⟨#[]⟩, 0, [], [], []⟩ :=
  ⟨⟨h1, h2⟩, .inr rfl, .inr rfl, .inr rfl, .inr (.inr rfl), .inr rfl, by simp [Val.els], rfl, by simp, by simp, by simp, rfl, .nil, .nil, fun _ => .nil, .nil⟩
theorem mem_ins {α : Type} {l : List α} {i : Nat} {x y : α} (h : y ∈ insAt l i x) : y = x ∨ y ∈ l := by
  unfold insAt at h
  rcases List.mem_append.1 h with h | h
  · exact .inr (List.mem_of_mem_take h)
  · rcases List.mem_cons.1 h with h | h
    · exact .inl h
    · exact .inr (List.mem_of_mem_drop h)
theorem mem_del {α : Type} {l : List α} {i : Nat} {y : α} (h : y ∈ delAt l i) : y ∈ l := by
  unfold delAt at h
  rcases List.mem_append.1 h with h | h
  · exact List.mem_of_mem_take h
  · exact List.mem_of_mem_drop h
theorem del_sub {α : Type} (l : List α) (i : Nat) : (delAt l i).Sublist l := by
  unfold delAt
  have e : l.drop (i + 1) = (l.drop i).drop 1 := by rw [List.drop_drop]
  have h : (l.take i ++ l.drop (i + 1)).Sublist (l.take i ++ l.drop i) := List.Sublist.append (List.Sublist.refl _) (by rw [e]; exact List.drop_sublist _ _)
  rwa [List.take_append_drop] at h
theorem pair_ins {α : Type} {R : α → α → Prop} {l : List α} {i : Nat} {x : α} (h : l.Pairwise R) (h1 : ∀ a ∈ l.take i, R a x) (h2 : ∀ b ∈ l.drop i, R x b) : (insAt l i x).Pairwise R := by
  unfold insAt
  have hs : (l.take i ++ l.drop i).Pairwise R := by rw [List.take_append_drop]; exact h
  rw [List.pairwise_append] at hs ⊢
  refine ⟨hs.1, List.pairwise_cons.2 ⟨h2, hs.2.1⟩, fun a ha b hb => ?_⟩
  rcases List.mem_cons.1 hb with rfl | hb
  · exact h1 a ha
  · exact hs.2.2 a ha b hb
theorem take_lt {α : Type} (lt : α → Bool) (l : List α) : ∀ a ∈ l.take (plc lt l), lt a = true := by
  intro a ha
  rw [List.mem_take_iff_getElem] at ha
  obtain ⟨j, hj, rfl⟩ := ha
  exact plc_lt lt l j _ (List.getElem?_eq_getElem (by omega)) (by omega)
theorem mem_drop_get {α : Type} {l : List α} {i : Nat} {b : α} (h : b ∈ l.drop i) : ∃ j, i ≤ j ∧ l[j]? = some b := by
  obtain ⟨j, hj⟩ := List.getElem?_of_mem h
  rw [List.getElem?_drop] at hj
  exact ⟨i + j, by omega, hj⟩
theorem set_same_map {ps : List Pr} {i : Nat} {a : Pr} (h : ps[i]? = some a) (t : ByteArray) : (ps.set i (a.1, t)).map (·.1) = ps.map (·.1) := by
  rw [List.map_set]
  apply List.ext_getElem?
  intro j
  rw [List.getElem?_set]
  split
  · rename_i e; subst e
    obtain ⟨hlt, he⟩ := List.getElem?_eq_some_iff.1 h
    simp [hlt, he]
  · rfl
theorem pw_fst {ps qs : List Pr} (h : qs.map (·.1) = ps.map (·.1)) (hp : ps.Pairwise (fun a b => bF a b < 0)) : qs.Pairwise (fun a b => bF a b < 0) := by
  have h1 : (ps.map (·.1)).Pairwise (fun a b => cmpB a b < 0) := List.pairwise_map.2 hp
  rw [← h] at h1
  exact List.pairwise_map.1 h1
theorem hashIn_some {ps : List Pr} {f : ByteArray} (h : hashIn ps f = true) : ∃ a, ps[hashAt ps f]? = some a ∧ a.1 = f := by
  unfold hashIn at_api_Pair at h
  cases hx : ps[hashAt ps f]? with
  | none => rw [hx] at h; cases h
  | some a =>
    rw [hx] at h
    exact ⟨a, rfl, cmpB_eq (by simpa using h)⟩
theorem hash_drop {ps : List Pr} {f : ByteArray} (hp : ps.Pairwise (fun a b => bF a b < 0)) (h : hashIn ps f = false) : ∀ b ∈ ps.drop (hashAt ps f), cmpB f b.1 < 0 := by
  intro b hb
  obtain ⟨j, hj, hbj⟩ := mem_drop_get hb
  have hge := hash_ge ((rising_iff bF_tr).2 hp) f j b hbj hj
  have hne : cmpB b.1 f ≠ 0 := by
    intro e
    rcases Nat.lt_or_ge (hashAt ps f) j with hlt | hge'
    ·
      have hlen := lt_of_getElem? hbj
      have ha : ps[hashAt ps f]? = some ps[hashAt ps f] := List.getElem?_eq_getElem (by omega)
      have h1 := hash_ge ((rising_iff bF_tr).2 hp) f _ _ ha (Nat.le_refl _)
      have h2 : bF ps[hashAt ps f] ps[j] < 0 := List.pairwise_iff_getElem.1 hp _ _ (by omega) hlen hlt
      rw [List.getElem?_eq_getElem hlen] at hbj
      have hb' : ps[j] = b := Option.some.inj hbj
      rw [hb'] at h2
      have h3 := cmpB_eq e
      change cmpB ps[hashAt ps f].1 b.1 < 0 at h2
      rw [h3] at h2; omega
    · have : j = hashAt ps f := by omega
      subst this
      unfold hashIn at_api_Pair at h
      rw [hbj] at h
      simp at h
      exact h e
  rw [cmpB_anti]; omega
theorem hash_ok {ps : List Pr} {c : Cmd} (hp : ps.Pairwise (fun a b => bF a b < 0)) (ho : ∀ p ∈ ps, okField p.1 = true ∧ okText p.2 = true) (hl : ps.length ≤ 20) (hf : okField c.field = true) (ht : okText c.text = true) (hc : (hashV ps c).2.code = 0) :
    (hashV ps c).1.Pairwise (fun a b => bF a b < 0) ∧ (∀ p ∈ (hashV ps c).1, okField p.1 = true ∧ okText p.2 = true) ∧ (hashV ps c).1.length ≤ 20 := by
  unfold hashV at hc ⊢
  simp only at hc ⊢
  by_cases h4 : c.kind = 4
  · rw [if_pos h4] at hc ⊢
    cases hin : hashIn ps c.field with
    | true =>
      obtain ⟨a, ha, hx⟩ := hashIn_some hin
      simp only [if_true, ha, Option.getD_some]
      refine ⟨pw_fst (set_same_map ha c.text) hp, ?_, by simpa using hl⟩
      intro p h
      rcases List.mem_or_eq_of_mem_set h with h | h
      · exact ho p h
      · rw [h]; exact ⟨(ho a (List.mem_of_getElem? ha)).1, ht⟩
    | false =>
      rw [hin] at hc
      simp only [Bool.false_eq_true, if_false] at hc ⊢
      by_cases h20 : ps.length = 20
      · rw [if_pos h20] at hc; simp [failR] at hc
      · rw [if_neg h20]
        refine ⟨pair_ins hp (fun a ha => ?_) (fun b hb => ?_), ?_, ?_⟩
        · have := take_lt (fun p : Pr => decide (cmpB p.1 c.field < 0)) ps a ha
          simpa using this
        · exact hash_drop hp hin b hb
        · intro p h
          rcases mem_ins h with rfl | h
          · exact ⟨hf, ht⟩
          · exact ho p h
        · rw [insAt_length]; omega
  · rw [if_neg h4]
    by_cases h5 : c.kind = 5
    · rw [if_pos h5]
      split <;> exact ⟨hp, ho, hl⟩
    · rw [if_neg h5]
      split
      · exact ⟨hp.sublist (del_sub _ _), fun p h => ho p (mem_del h), Nat.le_trans (delAt_length _ _) hl⟩
      · exact ⟨hp, ho, hl⟩
theorem list_ok {l : List ByteArray} {c : Cmd} (ho : ∀ s ∈ l, okText s = true) (hl : l.length ≤ 20) (ht : okText c.text = true) (hk : 7 ≤ c.kind) (hc : (listV l c).2.code = 0) : (∀ s ∈ (listV l c).1, okText s = true) ∧ (listV l c).1.length ≤ 20 := by
  unfold listV at hc ⊢
  by_cases h1 : c.kind ≤ 8 ∧ l.length = 20
  · rw [if_pos h1] at hc; simp [failR] at hc
  rw [if_neg h1]
  by_cases h7 : c.kind = 7
  · rw [if_pos h7]
    refine ⟨fun s h => ?_, ?_⟩
    · rcases List.mem_append.1 h with h | h
      · exact ho s h
      · simp at h; subst h; exact ht
    · simp; omega
  rw [if_neg h7]
  by_cases h8 : c.kind = 8
  · rw [if_pos h8]
    refine ⟨fun s h => ?_, ?_⟩
    · rcases List.mem_cons.1 h with h | h
      · rw [h]; exact ht
      · exact ho s h
    · simp; omega
  rw [if_neg h8]
  split
  · exact ⟨fun s h => ho s (List.mem_of_mem_take h), by simp; omega⟩
  · exact ⟨fun s h => ho s (List.mem_of_mem_drop h), by simp; omega⟩
theorem set_drop {l : List ByteArray} {t : ByteArray} (hp : l.Pairwise (fun a b => cmpB a b < 0)) (h : setIn l t = false) : ∀ b ∈ l.drop (setAt l t), cmpB t b < 0 := by
  intro b hb
  obtain ⟨j, hj, hbj⟩ := mem_drop_get hb
  have hge := set_ge ((rising_iff cmpB_tr).2 hp) t j b hbj hj
  rw [lessB_eq] at hge
  simp at hge
  have hne : cmpB b t ≠ 0 := by
    intro e
    have hbt := cmpB_eq e
    subst hbt
    rcases Nat.lt_or_ge (setAt l b) j with hlt | hge'
    · have hlen := lt_of_getElem? hbj
      have ha : l[setAt l b]? = some l[setAt l b] := List.getElem?_eq_getElem (by omega)
      have h1 := set_ge ((rising_iff cmpB_tr).2 hp) b _ _ ha (Nat.le_refl _)
      rw [lessB_eq] at h1
      simp at h1
      have h2 : cmpB l[setAt l b] l[j] < 0 := List.pairwise_iff_getElem.1 hp _ _ (by omega) hlen hlt
      rw [List.getElem?_eq_getElem hlen] at hbj
      have hb' : l[j] = b := Option.some.inj hbj
      rw [hb'] at h2; omega
    · have : j = setAt l b := by omega
      subst this
      unfold setIn at_string at h
      rw [hbj] at h
      simp at h
  rw [cmpB_anti]; omega
theorem set_ok {l : List ByteArray} {c : Cmd} (hp : l.Pairwise (fun a b => cmpB a b < 0)) (ho : ∀ s ∈ l, okText s = true) (hl : l.length ≤ 20) (ht : okText c.text = true) (hc : (setV l c).2.code = 0) :
    (setV l c).1.Pairwise (fun a b => cmpB a b < 0) ∧ (∀ s ∈ (setV l c).1, okText s = true) ∧ (setV l c).1.length ≤ 20 := by
  unfold setV at hc ⊢
  simp only at hc ⊢
  by_cases h4 : c.kind = 11
  · rw [if_pos h4] at hc ⊢
    cases hin : setIn l c.text with
    | true => exact ⟨hp, ho, hl⟩
    | false =>
      rw [hin] at hc
      simp only [Bool.false_eq_true, if_false] at hc ⊢
      by_cases h20 : l.length = 20
      · rw [if_pos h20] at hc; simp [failR] at hc
      · rw [if_neg h20]
        refine ⟨pair_ins hp (fun a ha => ?_) (fun b hb => ?_), ?_, ?_⟩
        · have := take_lt (fun a => lessB a c.text) l a ha
          rw [lessB_eq] at this
          simpa using this
        · exact set_drop hp hin b hb
        · intro p h
          rcases mem_ins h with rfl | h
          · exact ht
          · exact ho p h
        · rw [insAt_length]; omega
  · rw [if_neg h4]
    by_cases h5 : c.kind = 12
    · rw [if_pos h5]
      split
      · exact ⟨hp.sublist (del_sub _ _), fun p h => ho p (mem_del h), Nat.le_trans (delAt_length _ _) hl⟩
      · exact ⟨hp, ho, hl⟩
    · rw [if_neg h5]
      exact ⟨hp, ho, hl⟩
theorem firstI_at {α : Type} (p : α → Bool) : ∀ (l : List α) (i j : Nat), firstI p i l = ((i + j : Nat) : Int) → (h : j < l.length) → p l[j] = true
  | [], _, _, _, h => by simp at h
  | x :: l, i, 0, h, _ => by
    unfold firstI at h
    cases hx : p x with
    | true => simpa using hx
    | false =>
      rw [hx] at h
      simp only [Bool.false_eq_true, if_false] at h
      rcases firstI_lt p l (i + 1) with h1 | ⟨j, h1, _⟩
      · rw [h1] at h; omega
      · rw [h1] at h; omega
  | x :: l, i, j + 1, h, hj => by
    unfold firstI at h
    cases hx : p x with
    | true => rw [hx] at h; simp at h; omega
    | false =>
      rw [hx] at h
      simp only [Bool.false_eq_true, if_false] at h
      have := firstI_at p l (i + 1) j (by rw [h]; congr 1; omega) (by simpa using hj)
      simpa using this
theorem rankCut_none {l : List Sc} {m : ByteArray} (ho : l.Pairwise (fun a b => a.1 ≠ b.1)) : ∀ s ∈ rankCut l m, s.1 ≠ m := by
  unfold rankCut
  split
  · rename_i h; exact rankOf_neg.1 h
  · rename_i h
    rcases rankOf_cases l m with hn | ⟨j, hj, hlt⟩
    · omega
    · rw [hj]
      have hm : (l[j]).1 = m := by
        have := firstI_at (fun s : Sc => decide (s.1 = m)) l 0 j (by simpa [rankOf] using hj) hlt
        simpa using this
      intro s hs e
      unfold delAt at hs
      rw [Int.toNat_natCast] at hs
      rw [List.pairwise_iff_getElem] at ho
      rcases List.mem_append.1 hs with hs | hs
      · rw [List.mem_take_iff_getElem] at hs
        obtain ⟨i, hi, rfl⟩ := hs
        exact ho i j (by omega) hlt (by omega) (by rw [hm]; exact e)
      · obtain ⟨i, hi, hx⟩ := mem_drop_get hs
        have hil := lt_of_getElem? hx
        rw [List.getElem?_eq_getElem hil] at hx
        have hx := Option.some.inj hx
        exact ho j i hlt hil (by omega) (by rw [hm, hx]; exact e.symm)
theorem rankCut_sub (l : List Sc) (m : ByteArray) : (rankCut l m).Sublist l := by
  unfold rankCut
  split
  · exact List.Sublist.refl _
  · exact del_sub _ _
theorem rank_drop {l : List Sc} {m : ByteArray} {n : Int} (hp : l.Pairwise (fun a b => bS a b < 0)) (hn : ∀ s ∈ l, s.1 ≠ m) (hg : ∀ (j : Nat) a, l[j]? = some a → rankAt l m n ≤ j → 0 ≤ bS a (m, n)) : ∀ b ∈ l.drop (rankAt l m n), bS (m, n) b < 0 := by
  intro b hb
  obtain ⟨j, hj, hbj⟩ := mem_drop_get hb
  have h1 := hg j b hbj hj
  have hne := hn b (List.mem_of_getElem? hbj)
  rw [bS_lt]
  have h2 : ¬ bS b (m, n) < 0 := by omega
  rw [bS_lt] at h2
  simp only [not_or, not_and] at h2
  by_cases e : n < b.2
  · exact .inl e
  · have h5 : ¬ b.2 < n := h2.1
    have e2 : b.2 = n := by omega
    refine .inr ⟨e2.symm, ?_⟩
    have h3 : ¬ cmpB b.1 m < 0 := h2.2 e2
    show cmpB m b.1 < 0
    have h4 : cmpB b.1 m ≠ 0 := fun e => hne (cmpB_eq e)
    rw [cmpB_anti]; omega
theorem ranks_ok {l : List Sc} {c : Cmd} (hp : l.Pairwise (fun a b => bS a b < 0)) (h1 : l.Pairwise (fun a b => a.1 ≠ b.1)) (ho : ∀ s ∈ l, okText s.1 = true ∧ okCount s.2 = true) (hl : l.length ≤ 20) (ht : okText c.text = true) (hn : okCount c.n = true) (hc : (ranksV l c).2.code = 0) :
    (ranksV l c).1.Pairwise (fun a b => bS a b < 0) ∧ (ranksV l c).1.Pairwise (fun a b => a.1 ≠ b.1) ∧ (∀ s ∈ (ranksV l c).1, okText s.1 = true ∧ okCount s.2 = true) ∧ (ranksV l c).1.length ≤ 20 := by
  have cs := rankCut_sub l c.text
  have cl := rankCut_len l c.text
  have co : ∀ s ∈ rankCut l c.text, okText s.1 = true ∧ okCount s.2 = true := fun s h => ho s (cs.subset h)
  unfold ranksV at hc ⊢
  simp only at hc ⊢
  by_cases h16 : c.kind = 16
  · rw [if_pos h16]; exact ⟨hp, h1, ho, hl⟩
  rw [if_neg h16] at hc ⊢
  by_cases h15 : c.kind = 15
  · rw [if_pos h15]; exact ⟨hp.sublist cs, h1.sublist cs, co, Nat.le_trans cl hl⟩
  rw [if_neg h15] at hc ⊢
  by_cases hf : rankOf l c.text < 0 ∧ l.length = 20
  · rw [if_pos hf] at hc; simp [failR] at hc
  rw [if_neg hf]
  have hnone := rankCut_none (m := c.text) h1
  refine ⟨pair_ins (hp.sublist cs) (fun a ha => ?_) (rank_drop (hp.sublist cs) hnone (rank_ge ((rising_iff bS_tr).2 hp) c.text c.n)), pair_ins (h1.sublist cs) (fun a ha => hnone a (List.mem_of_mem_take ha)) (fun b hb => (hnone b (List.mem_of_mem_drop hb)).symm), ?_, ?_⟩
  · have := take_lt (fun a : Sc => decide (bS a (c.text, c.n) < 0)) (rankCut l c.text) a ha
    simpa using this
  · intro s h
    rcases mem_ins h with rfl | h
    · exact ⟨ht, hn⟩
    · exact co s h
  · rw [insAt_length]
    unfold rankCut at cl ⊢
    split
    · rename_i h
      have : ¬ l.length = 20 := fun e => hf ⟨h, e⟩
      omega
    · rename_i h
      rcases rankOf_cases l c.text with hn | ⟨j, hj, hlt⟩
      · omega
      · rw [hj, Int.toNat_natCast]; unfold delAt; simp; omega
def Vk (v : Val) : Prop := OkV v ∨ v = zeroV
theorem Vk.small {v : Val} (h : Vk v) : v.Small := by
  rcases h with h | h
  · exact h.small
  · rw [h]; exact ⟨Nat.zero_le _, Nat.zero_le _, Nat.zero_le _⟩
theorem typed_kind {k κ : Int} (h : kindOfC k = κ) (hk : 4 ≤ k) (h2 : k ≤ 16) : (κ = 3 ∧ k ≤ 6) ∨ (κ = 4 ∧ 7 ≤ k ∧ k ≤ 10) ∨ (κ = 5 ∧ 11 ≤ k ∧ k ≤ 13) ∨ (κ = 6 ∧ 14 ≤ k) := by
  unfold kindOfC at h
  repeat' split at h
  all_goals omega
theorem doV_ok {v : Val} {c : Cmd} (h : OkB v) (hc : checkC c = 0) (hk : c.kind ≤ 16) (hf : c.kind = 1 ∨ kindOfC c.kind = v.kind) (h0 : (doV v c).2.code = 0) : OkB (doV v c).1 := by
  obtain ⟨c1, c2, c3, c4, c5⟩ := checkC_facts hc
  unfold doV at h0 ⊢
  by_cases k1 : c.kind = 1
  · rw [if_pos k1]
    exact ⟨⟨(by show (1 : Int) ≤ 1; omega), (by show (1 : Int) ≤ 6; omega)⟩, .inl rfl, .inr rfl, .inr rfl, .inr (.inr rfl), .inr rfl, by simp [Val.els], c3, by simp, by simp, by simp, rfl, .nil, .nil, fun _ => .nil, .nil⟩
  have hf := hf.resolve_left k1
  rw [if_neg k1] at h0 ⊢
  by_cases k2 : c.kind = 2
  · rw [if_pos k2]; exact h
  rw [if_neg k2] at h0 ⊢
  by_cases k3 : c.kind = 3
  · rw [if_pos k3] at h0 ⊢
    have hv : v.kind = 2 := by rw [k3] at hf; exact hf.symm
    split
    · rename_i hcn
      exact ⟨h.kind, h.text, .inl hv, h.pairs, h.items, h.scores, h.els, h.okT, h.okI, h.okP, h.okS, hcn, h.riseP, h.riseS, h.riseI, h.once⟩
    · exact h
  rw [if_neg k3] at h0 ⊢
  rw [if_neg (by omega), if_neg (by omega)] at h0 ⊢
  have hel := h.els
  unfold Val.els at hel
  rcases typed_kind hf (by omega) hk with ⟨e, b1⟩ | ⟨e, b1, b2⟩ | ⟨e, b1, b2⟩ | ⟨e, b1⟩
  · rw [if_pos e] at h0 ⊢
    have ei := (h.items.resolve_left (by omega)).resolve_left (by omega)
    have es := h.scores.resolve_left (by omega)
    obtain ⟨q1, q2, q3⟩ := hash_ok h.riseP h.okP (by omega) (c5 (by omega) b1) c3 h0
    refine ⟨h.kind, h.text, h.count, .inl e, h.items, h.scores, ?_, h.okT, h.okI, q2, h.okS, h.okC, q1, h.riseS, h.riseI, h.once⟩
    simp only [Val.els, ei, es, List.length_nil]; omega
  · rw [if_neg (by omega), if_pos e] at h0 ⊢
    have ep := h.pairs.resolve_left (by omega)
    have es := h.scores.resolve_left (by omega)
    obtain ⟨q1, q2⟩ := list_ok h.okI (by omega) c3 b1 h0
    refine ⟨h.kind, h.text, h.count, h.pairs, .inl e, h.scores, ?_, h.okT, q1, h.okP, h.okS, h.okC, h.riseP, h.riseS, fun x => ?_, h.once⟩
    · simp only [Val.els, ep, es, List.length_nil]; omega
    · simp only at x; omega
  · rw [if_neg (by omega), if_neg (by omega), if_pos e] at h0 ⊢
    have ep := h.pairs.resolve_left (by omega)
    have es := h.scores.resolve_left (by omega)
    obtain ⟨q1, q2, q3⟩ := set_ok (h.riseI e) h.okI (by omega) c3 h0
    refine ⟨h.kind, h.text, h.count, h.pairs, .inr (.inl e), h.scores, ?_, h.okT, q2, h.okP, h.okS, h.okC, h.riseP, h.riseS, fun _ => q1, h.once⟩
    simp only [Val.els, ep, es, List.length_nil]; omega
  · rw [if_neg (by omega), if_neg (by omega), if_neg (by omega)] at h0 ⊢
    have ep := h.pairs.resolve_left (by omega)
    have ei := (h.items.resolve_left (by omega)).resolve_left (by omega)
    obtain ⟨q1, q2, q3, q4⟩ := ranks_ok h.riseS h.once h.okS (by omega) c3 c4 h0
    refine ⟨h.kind, h.text, h.count, h.pairs, h.items, .inl e, ?_, h.okT, h.okI, h.okP, q3, h.okC, h.riseP, q1, h.riseI, q2⟩
    simp only [Val.els, ep, ei, List.length_nil]; omega
end Go.Proofs.YtpdcfljbabpakaaGreatDoor
set_option linter.unusedVariables false
set_option linter.unusedSimpArgs false
namespace Go.Proofs.AE
open Go Go.RowKit
section
variable {P : Program} {W : World}
theorem below_of {ok ok' : Nat → Prop} {μ' : List MB} {hp' : Hp} {w' : World} (h : Step W ok [] [] w' ok' μ' hp') : Below W.heap.size W w' :=
  ⟨h.os, h.tape, h.output, h.size, fun k hk => h.frame k hk not_own_nil⟩
theorem PCall.run {G : Nat → AV} {ok : Nat → Prop} {f : Nat} {args : List AV} {xs : List Value} {b : Bool} (h : PCall P G f args (.one (.v (.lit (.bool b))))) (hok : ∀ b, ok b → b < W.heap.size) (hg : GRel W ok G) (hargs : AVRels W ok [] args xs) :
    Calls P f xs.toArray W fun e W' => e = .returned (.bool b) ∧ Below W.heap.size W W' := by
  refine (h W ok [] xs (hr_nil hok) hg hargs).mono ?_
  rintro e w' ⟨x, r, hp', ok', μ', rfl, hs, hr, rfl, rfl⟩
  have := lit_rel hr
  subst this
  exact ⟨rfl, below_of hs⟩
end
end Go.Proofs.AE
set_option linter.unusedVariables false
set_option linter.unusedSimpArgs false
namespace Go.Proofs.AE
open Go Go.RowKit
def WT (P : Program) : Nat → TypeId → List V → Prop
  | 0, _, _ => False
  | n + 1, t, vs => match tiOf P t with
    | none => False
    | some i => match i.sh with
      | .bool => ∃ b, vs = [.lit (.bool b)]
      | .int k => ∃ x, vs = [.lit (.int k x)] ∧ (Lit.int k x).wf = true
      | .string => ∃ s : ByteArray, vs = [.lit (.string s)] ∧ s.size ≤ maxLen
      | .struct fs => vs.length = i.size ∧ ∀ f ∈ fs, ∃ j, tiOf P f.1 = some j ∧ WT P n f.1 ((vs.drop f.2).take j.size)
      | _ => False
def flatT (P : Program) : Nat → TypeId → Bool
  | 0, _ => false
  | n + 1, t => match tiOf P t with
    | none => false
    | some i => match i.sh with
      | .bool | .int _ | .string => true
      | .struct fs => fs.all (fun f => flatT P n f.1)
      | _ => false
section
variable {H : Type} {enc : TypeId × Value → H} {P : Program} {w : World} {ok : Nat → Prop} {base : Nat} {spare : Nat → Bool} {held : Bool} {T : TypeId → Prop}
theorem cellsOf_ti {t : TypeId} {i : TI} (h : TIs P t i) : P.cellsOf t = i.size := by
  obtain ⟨j, h1, h2, _⟩ := h.info
  simp [Program.cellsOf, h1, h2]
theorem und_ti {t : TypeId} {i : TI} (h : TIs P t i) : ∃ d, P.underlying t = some d ∧ shOf P d = some i.sh := h.und
theorem flatten_take_drop {α : Type} : ∀ (L : List (List α)) (j : Nat) (l : List α), L[j]? = some l → (L.flatten.drop ((L.take j).map List.length).sum).take l.length = l
  | [], j, l, h => by simp at h
  | x :: L, 0, l, h => by simp at h; subst h; simp
  | x :: L, j + 1, l, h => by
    simp only [List.getElem?_cons_succ] at h
    have := flatten_take_drop L j l h
    simp only [List.take_succ_cons, List.map_cons, List.sum_cons, List.flatten_cons]
    rw [List.drop_append]
    have h1 : (x.drop (x.length + ((L.take j).map List.length).sum)) = [] := List.drop_eq_nil_of_le (by omega)
    rw [h1, List.nil_append, show x.length + ((L.take j).map List.length).sum - x.length = ((L.take j).map List.length).sum by omega]
    exact this
theorem all2_flatten {α β : Type} {R : α → β → Prop} : ∀ {L : List (List α)} {M : List (List β)}, All2 (All2 R) L M → All2 R L.flatten M.flatten
  | _, _, .nil => .nil
  | _, _, .cons h t => h.append (all2_flatten t)
theorem pieces {α : Type} : ∀ (ns : List Nat) (cs : List α), cs.length = ns.sum → ((List.range ns.length).map fun j => (cs.drop (ns.take j).sum).take (ns.getD j 0)).flatten = cs
  | [], cs, h => by simp at h; simp [h]
  | n :: ns, cs, h => by
    rw [List.length_cons, List.range_succ_eq_map, List.map_cons, List.flatten_cons, List.map_map]
    have ih := pieces ns (cs.drop n) (by simp at h ⊢; omega)
    have he : ((fun j => (cs.drop ((n :: ns).take j).sum).take ((n :: ns).getD j 0)) ∘ Nat.succ) = fun j => ((cs.drop n).drop (ns.take j).sum).take (ns.getD j 0) := by
      funext j; simp [List.drop_drop]
    rw [he, ih]
    simp
theorem read_flat (K : Kids P T) : ∀ (n : Nat) (t : TypeId) (fuel : Nat) (cs : List Value) (x : DataW H × List MemPlace), T t → flatT P n t = true → DataW.trod enc P w base spare held fuel t cs = some x →
    ∃ vs, All2 (VRel w ok) vs cs ∧ WT P n t vs := by
  intro n
  induction n with
  | zero => intro t fuel cs x _ h; cases h
  | succ n ih =>
    intro t fuel cs x hT hf h
    simp only [flatT] at hf
    simp only [WT]
    split at hf
    · cases hf
    · rename_i i hi
      have hs := tiOf_spec hi
      obtain ⟨d, hu, hd⟩ := und_ti hs
      split at hf
      · rename_i hsh
        rw [hsh] at hd
        have : P.underlying t = some .bool := by
          rw [hu]; unfold shOf at hd; split at hd <;> first | rfl | (cases hd; done) | (split at hd <;> cases hd; done)
        obtain ⟨b, rfl, _⟩ := DataW.trod_bool this h
        exact ⟨[.lit (.bool b)], .cons (.lit _ rfl) .nil, b, rfl⟩
      · rename_i k hsh
        rw [hsh] at hd
        have : P.underlying t = some (.int k) := by
          rw [hu]; unfold shOf at hd; split at hd <;> first | (cases hd; rfl) | (cases hd; done) | (split at hd <;> cases hd; done)
        obtain ⟨b, rfl, _, hw⟩ := DataW.trod_int this h
        exact ⟨[.lit (.int k b)], .cons (.lit _ rfl) .nil, b, rfl, hw⟩
      · rename_i hsh
        rw [hsh] at hd
        have : P.underlying t = some .string := by
          rw [hu]; unfold shOf at hd; split at hd <;> first | rfl | (cases hd; done) | (split at hd <;> cases hd; done)
        obtain ⟨b, rfl, _, hw⟩ := DataW.trod_string this h
        exact ⟨[.lit (.string b)], .cons (.lit _ rfl) .nil, b, rfl, hw⟩
      · rename_i fs hsh
        rw [hsh] at hd
        obtain ⟨gs, hgu, hgs⟩ : ∃ gs : Array Field, P.underlying t = some (.struct gs) ∧ fs = gs.toList.map fun f => (f.type, f.offset) := by
          unfold shOf at hd
          split at hd <;> first | (cases hd; done) | skip
          rename_i gs
          split at hd
          · cases hd; exact ⟨gs, hu, rfl⟩
          · cases hd
        subst hgs
        obtain ⟨k1, k2, k3⟩ := K.struct hT hgu
        obtain ⟨xs, m, rfl, _, hlen, hxl, hx⟩ := DataW.trod_struct hgu h
        have hfield : ∀ (j : Nat) (f : Field), gs.toList[j]? = some f → ∃ vs, All2 (VRel w ok) vs ((cs.drop f.offset).take (P.cellsOf f.type)) ∧ WT P n f.type vs ∧ ∃ q, tiOf P f.type = some q ∧ q.size = P.cellsOf f.type := by
          intro j f hj
          have hfa : gs[j]? = some f := by simpa using hj
          have hmem : f ∈ gs.toList := List.mem_of_getElem? hj
          have hfl : flatT P n f.type = true := by
            rw [List.all_eq_true] at hf
            exact hf (f.type, f.offset) (List.mem_map.2 ⟨f, hmem, rfl⟩)
          have hxj := hx j f hfa
          have hjx : j < xs.length := by rw [hxl]; exact (Array.getElem?_eq_some_iff.1 hfa).1
          rw [List.getElem?_eq_getElem hjx] at hxj
          obtain ⟨vs, h1, h2⟩ := ih f.type m _ _ (k1 f hmem) hfl hxj
          refine ⟨vs, h1, h2, ?_⟩
          cases n with
          | zero => cases hfl
          | succ n =>
            simp only [flatT] at hfl
            split at hfl
            · cases hfl
            · rename_i q hq
              exact ⟨q, hq, (cellsOf_ti (tiOf_spec hq)).symm⟩
        let ns := gs.toList.map fun f => P.cellsOf f.type
        have hns : cs.length = ns.sum := by rw [hlen]; exact k2
        have hget : ∀ j : Nat, j < gs.toList.length → ∃ f, gs.toList[j]? = some f := fun j hj => ⟨_, List.getElem?_eq_getElem hj⟩
        have hch : ∀ j : Nat, ∃ vs, ∀ f : Field, gs.toList[j]? = some f → All2 (VRel w ok) vs ((cs.drop f.offset).take (P.cellsOf f.type)) ∧ WT P n f.type vs ∧ ∃ q, tiOf P f.type = some q ∧ q.size = P.cellsOf f.type := by
          intro j
          cases hj : gs.toList[j]? with
          | none => exact ⟨[], fun f h => by cases h⟩
          | some f =>
            obtain ⟨vs, h⟩ := hfield j f hj
            exact ⟨vs, fun f' h' => by cases h'; exact h⟩
        let V := fun j => Classical.choose (hch j)
        have hV : ∀ (j : Nat) (f : Field), gs.toList[j]? = some f → All2 (VRel w ok) (V j) ((cs.drop f.offset).take (P.cellsOf f.type)) ∧ WT P n f.type (V j) ∧ ∃ q, tiOf P f.type = some q ∧ q.size = P.cellsOf f.type := fun j => Classical.choose_spec (hch j)
        let L := (List.range ns.length).map V
        let M := (List.range ns.length).map fun j => (cs.drop (ns.take j).sum).take (ns.getD j 0)
        have hnl : ns.length = gs.toList.length := by simp [ns]
        have hML : All2 (All2 (VRel w ok)) L M := by
          refine All2.of_get (by simp [L, M]) ?_
          intro j a b ha hb
          simp only [L, M, List.getElem?_map] at ha hb
          have hjlt : j < ns.length := by
            rcases Nat.lt_or_ge j ns.length with h | h
            · exact h
            · rw [List.getElem?_eq_none (by simpa using h)] at ha; cases ha
          rw [List.getElem?_range hjlt] at ha hb
          simp only [Option.map_some, Option.some.injEq] at ha hb
          subst ha; subst hb
          obtain ⟨f, hj⟩ := hget j (by omega)
          have e1 : (ns.take j).sum = f.offset := by rw [k3 j f hj]; simp [ns, List.map_take]
          have e2 : ns.getD j 0 = P.cellsOf f.type := by simp [ns, List.getD_eq_getElem?_getD, hj]
          rw [e1, e2]
          exact (hV j f hj).1
        have hMf : M.flatten = cs := pieces ns cs hns
        have hA := all2_flatten hML
        rw [hMf] at hA
        refine ⟨L.flatten, hA, by rw [hA.length, hlen, cellsOf_ti hs], ?_⟩
        intro f hf'
        obtain ⟨g, hg, rfl⟩ := List.mem_map.1 hf'
        obtain ⟨j, hj⟩ := List.getElem?_of_mem hg
        obtain ⟨v1, v2, q, hq, hqs⟩ := hV j g hj
        refine ⟨q, hq, ?_⟩
        have hjlt : j < ns.length := by rw [hnl]; exact lt_of_getElem? hj
        have hLj : L[j]? = some (V j) := by simp [L, hjlt]
        have hlens : ∀ i : Nat, i < ns.length → (V i).length = ns.getD i 0 := by
          intro i hi
          obtain ⟨f, hif⟩ := hget i (by omega)
          have e2 : ns.getD i 0 = P.cellsOf f.type := by simp [ns, List.getD_eq_getElem?_getD, hif]
          rw [(hV i f hif).1.length, e2, List.length_take, List.length_drop]
          have hk := k3 i f hif
          have : ((gs.toList.take i).map fun f => P.cellsOf f.type).sum + P.cellsOf f.type ≤ ns.sum := by
            have h3 : ns = (gs.toList.take i).map (fun f => P.cellsOf f.type) ++ (gs.toList.drop i).map (fun f => P.cellsOf f.type) := by
              rw [← List.map_append, List.take_append_drop]
            rw [h3, List.sum_append]
            have h4 : gs.toList.drop i = f :: gs.toList.drop (i + 1) := by
              have := lt_of_getElem? hif
              rw [List.drop_eq_getElem_cons this]
              rw [List.getElem?_eq_getElem this] at hif
              rw [Option.some.inj hif]
            rw [h4, List.map_cons, List.sum_cons]
            omega
          rw [hns]
          omega
        have hoff : ((L.take j).map List.length).sum = g.offset := by
          rw [k3 j g hj]
          congr 1
          apply List.ext_getElem?
          intro i
          by_cases hi : i < j
          · have hin : i < ns.length := by omega
            obtain ⟨f, hif⟩ := hget i (by omega)
            have e2 : ns.getD i 0 = P.cellsOf f.type := by simp [ns, List.getD_eq_getElem?_getD, hif]
            have hLi : (L.take j)[i]? = some (V i) := by rw [List.getElem?_take_of_lt hi]; simp [L, hin]
            rw [List.getElem?_map, hLi, Option.map_some, hlens i hin, e2, List.getElem?_map, List.getElem?_take_of_lt hi, hif]
            rfl
          · simp [List.getElem?_take, hi]
        have htd := flatten_take_drop L j (V j) hLj
        rw [hoff] at htd
        have : q.size = (V j).length := by
          rw [hqs, hlens j hjlt]; simp [ns, List.getD_eq_getElem?_getD, hj]
        rw [this, htd]
        exact v2
      · cases hf
theorem read_slice (K : Kids P T) {n : Nat} {t e : TypeId} {v : Value} {d : DataW H} {ps : List MemPlace} {r : Reach} {b0 : Nat} (ht : P.underlying t = some (.slice e)) (hT : T t) (hf : flatT P n e = true) (hpos : 0 < P.cellsOf e) (hval : Value.okWide P w r b0 t v)
    (h : DataW.Trod enc P w base spare held t v d ps) (μ : List MB) : ∃ rows, AVRel w (fun b => b < w.heap.size) μ (.one (.v (.sl rows))) v ∧ rows.length ≤ maxLen ∧ ∀ r ∈ rows, WT P n e r := by
  have hc : Cell.ok P w r b0 t v := by
    unfold Value.okWide at hval
    rw [ht] at hval
    simp only [Cell.okWide, ht] at hval
    exact hval
  have hv : v = .slice none 0 0 ∨ ∃ a len cap, v = .slice (some a) len cap ∧ a.spot = none := by
    unfold Cell.ok at hc
    rw [ht] at hc
    split at hc <;> first | (exact hc.elim) | skip
    all_goals (rename_i h1; first | (cases h1; done) | skip)
    · exact .inl rfl
    · exact .inr ⟨_, _, _, rfl, hc.2.2.2.1⟩
  obtain ⟨fuel, hfu⟩ := h
  rcases hv with rfl | ⟨a, len, cap, rfl, hspot⟩
  · exact ⟨[], .one (.v .nil), by simp [maxLen], fun r h => by cases h⟩
  · rcases Go.Deep.open_slice ht hfu with ⟨h1, _⟩ | ⟨a', len', cap', m, n', D, Pl, h1, hb, hle, hcap, hm, _, hel⟩
    · simp [Value.cells] at h1
    · simp only [Value.cells] at h1
      obtain ⟨rfl, rfl, rfl⟩ : a = a' ∧ len = len' ∧ cap = cap' := by simpa using h1
      have hlm : len ≤ m := by rw [hm]; split <;> omega
      have hT' : T e := K.slice hT ht
      have hch : ∀ i, ∃ vs cs', i < len → w.cells? base (a.add (i * P.cellsOf e)) (P.cellsOf e) = some cs' ∧ All2 (VRel w (fun b => b < w.heap.size)) vs cs' ∧ WT P n e vs := by
        intro i
        by_cases hi : i < len
        · obtain ⟨cs', h2, h3⟩ := hel i (by omega)
          obtain ⟨vs, h4, h5⟩ := read_flat (ok := fun b => b < w.heap.size) K n e n' _ _ hT' hf h3
          exact ⟨vs, cs', fun _ => ⟨h2, h4, h5⟩⟩
        · exact ⟨[], [], fun h => (hi h).elim⟩
      let R := fun i => Classical.choose (hch i)
      have hR : ∀ i, ∃ cs', i < len → w.cells? base (a.add (i * P.cellsOf e)) (P.cellsOf e) = some cs' ∧ All2 (VRel w (fun b => b < w.heap.size)) (R i) cs' ∧ WT P n e (R i) := fun i => Classical.choose_spec (hch i)
      have hlen : ((List.range len).map R).length = len := by simp
      have hget : ∀ (i : Nat) row, ((List.range len).map R)[i]? = some row → i < len ∧ row = R i := by
        intro i row h
        have hi : i < len := by have := lt_of_getElem? h; simpa using this
        rw [List.getElem?_map, List.getElem?_range hi] at h
        exact ⟨hi, (Option.some.inj h).symm⟩
      have hcell : ∀ (i : Nat) row (j : Nat) v, ((List.range len).map R)[i]? = some row → row[j]? = some v → ∃ y, w.cell? ⟨a.block, a.off + (i * row.length + j), none⟩ = some y ∧ VRel w (fun b => b < w.heap.size) v y := by
        intro i row j v h1 h2
        obtain ⟨hi, rfl⟩ := hget i row h1
        obtain ⟨cs', hcs⟩ := hR i
        obtain ⟨c1, c2, _⟩ := hcs hi
        obtain ⟨_, hl, hc'⟩ := World.cells?_some c1
        obtain ⟨y, hy, hr⟩ := c2.get h2
        have hj : j < P.cellsOf e := by rw [← hl, ← c2.length]; exact lt_of_getElem? h2
        refine ⟨y, ?_, hr⟩
        have := hc' j hj
        rw [hy] at this
        have hrow : (R i).length = P.cellsOf e := by rw [c2.length, hl]
        rw [hrow, ← this]
        congr 1
        obtain ⟨ab, ao, asp⟩ := a
        simp only at hspot
        subst hspot
        unfold Addr.add
        split
        · rename_i h0
          split
          · rename_i h0'
            have : i * P.cellsOf e = 0 := h0'
            simp [this, h0]
          · simp [h0]
        · split
          · rename_i h0'
            have : i * P.cellsOf e = 0 := h0'
            simp [this]
          · simp [Nat.add_assoc]
      refine ⟨(List.range len).map R, .one (.v ?_), by rw [hlen]; omega, fun r hr => ?_⟩
      · obtain ⟨ab, ao, asp⟩ := a
        simp only at hspot
        subst hspot
        have hsl := VRel.sl (w := w) (ok := fun b => b < w.heap.size) ((List.range len).map R) ab ao cap
          (fun i j => match ((List.range len).map R)[i]? with | some row => (w.cell? ⟨ab, ao + (i * row.length + j), none⟩).getD undef | none => undef) (fun hne => ?_) (by rw [hlen]; exact hle) hcap ?_ ?_
        · rw [hlen] at hsl; exact hsl
        ·
          have h0 : 0 < len := by
            cases len with
            | zero => simp at hne
            | succ l => omega
          obtain ⟨cs', hcs⟩ := hR 0
          obtain ⟨c1, _, _⟩ := hcs h0
          obtain ⟨_, hl, hc'⟩ := World.cells?_some c1
          have := hc' 0 hpos
          have hx : w.cell? (⟨ab, ao, none⟩ : Addr) = cs'[0]? := by simpa [Addr.add] using this
          rw [List.getElem?_eq_getElem (by omega)] at hx
          unfold World.cell? at hx
          split at hx
          · rename_i hb2; exact (Array.getElem?_eq_some_iff.1 hb2).1
          · cases hx
        · intro i row j v h1 h2
          obtain ⟨y, hy, _⟩ := hcell i row j v h1 h2
          simp only at hy
          simp [h1, hy]
        · intro i row j v h1 h2
          obtain ⟨y, hy, hr⟩ := hcell i row j v h1 h2
          simp only at hy
          simp only [h1, hy, Option.getD_some]
          exact hr
      · obtain ⟨i, hi, rfl⟩ := List.mem_map.1 hr
        obtain ⟨cs', hcs⟩ := hR i
        exact (hcs (List.mem_range.1 hi)).2.2
theorem below_cell {w w' : World} {B : Nat} (hb : Below B w w') {a : Addr} (h : a.block < B) : w'.cell? a = w.cell? a := by
  unfold World.cell?
  rw [hb.block a.block h]
theorem good_lt {p : MemPlace} (h : Good w p) : p.block < w.heap.size := by
  cases p with
  | cell b off =>
    obtain ⟨v, h, _⟩ := h
    unfold World.cell? at h
    split at h
    · rename_i hb; exact (Array.getElem?_eq_some_iff.1 hb).1
    · cases h
  | map b =>
    obtain ⟨es, c, h⟩ := h
    exact (Array.getElem?_eq_some_iff.1 h).1
theorem trodAll_later (K : Kids P T) (hsz : ∀ {t e : TypeId}, T t → P.underlying t = some (.slice e) → 0 < P.cellsOf e) {w' : World} (hb : Below w.heap.size w w') :
    ∀ {ts : List TypeId} {vs : List Value} {ds : List (DataW H)} {ps : List MemPlace}, (∀ t ∈ ts, T t) → DataW.TrodAll enc P w base (fun _ => true) true ts vs ds ps → DataW.TrodAll enc P w' base (fun b => decide (b < w.heap.size)) true ts vs ds ps
  | [], [], [], _, _, h => h
  | t :: ts, v :: vs, d :: ds, _, hT, ⟨p, q, ⟨fuel, h1⟩, h2, h3⟩ => by
    have hg := DataW.trod_good K (fun h => by cases h) fuel t _ _ (hT t (List.mem_cons_self ..)) h1
    refine ⟨p, q, ⟨fuel, DataW.trod_stays K hsz (fun h => by cases h) (hT t (List.mem_cons_self ..)) h1 (fun x hx => ?_) fun x hx => ?_⟩, trodAll_later K hsz hb (fun t ht => hT t (List.mem_cons_of_mem _ ht)) h2, h3⟩
    · have := good_lt (hg x hx)
      cases x with
      | cell b off => exact below_cell hb this
      | map b => exact hb.block b this
    · simpa using good_lt (hg x hx)
  | [], _ :: _, _, _, _, h => by simp [DataW.TrodAll] at h
  | _ :: _, [], _, _, _, h => by simp [DataW.TrodAll] at h
  | [], [], _ :: _, _, _, h => by simp [DataW.TrodAll] at h
  | _ :: _, _ :: _, [], _, _, h => by simp [DataW.TrodAll] at h
def slicesOk (P : Program) : Bool := (List.range P.types.size).all fun t => match P.underlying t with | some (.slice e) => decide (0 < P.cellsOf e) | _ => true
theorem slicesOk_spec (h : slicesOk P = true) {t e : TypeId} (ht : t < P.types.size) (hu : P.underlying t = some (.slice e)) : 0 < P.cellsOf e := by
  unfold slicesOk at h
  rw [List.all_eq_true] at h
  have := h t (List.mem_range.2 ht)
  rw [hu] at this
  simpa using this
theorem WT_struct {n : Nat} {t : TypeId} {i : TI} {fs : List (Nat × Nat)} {vs : List V} (hi : tiOf P t = some i) (hs : i.sh = .struct fs) (h : WT P (n + 1) t vs) : vs.length = i.size ∧ ∀ f ∈ fs, ∃ j, tiOf P f.1 = some j ∧ WT P n f.1 ((vs.drop f.2).take j.size) := by
  simp only [WT, hi, hs] at h
  exact h
end
end Go.Proofs.AE
set_option linter.unusedVariables false
set_option linter.unusedSimpArgs false
set_option maxRecDepth 100000
set_option maxHeartbeats 8000000
namespace Go.Proofs.YtpdcfljbabpakaaGreatDoor
open Go Go.RowKit Go.Proofs.AE
variable {G : Nat → AV}
theorem kids : Kids Tryz.prog (· < Tryz.prog.types.size) := kids_rows (by kernel_rfl) (by kernel_rfl)
theorem slok : slicesOk Tryz.prog = true := by kernel_rfl
def someS (n : Int) : ByteArray := ⟨#[UInt8.ofNat (97 + pk n 9).toNat]⟩
theorem some_c (n : Int) (hn : i64 n) : PCall Tryz.prog G 109 [iV n] (sV (someS n)) := by
  have hk := pk_range (n := n) (m := 9) (by omega)
  have hw : IntKind.i64.wrap (97 + pk n 9) = 97 + pk n 9 := IntWalk.i64_in _ (by omega)
  have hw8 : IntKind.u8.wrap (97 + pk n 9) = 97 + pk n 9 := by
    exact IntWalk.u8_in _ (by omega)
  refine pcallc mixed Tryz.func109 ac_rostrumkeep_some ?_
  unfold someS
  repeat' (first | (with_reducible first | refine Cn (fun h => ?_) fun h => ?_ | refine And.intro ?_ ?_ | refine wR ?_ | exact wr _ _ | refine wa ?_ | apply awp_join | refine q1 (by exact picked_c _ _ (by assumption) (by simp)) ?_ | refine q1d (by exact picked_c _ _ (by assumption) (by simp)) ?_) | (with_reducible refine CallZ.z ?_) | simp -dsimp [go_sem, hw, hw8, bytesOf, AE.byteOf])
def cutS (s : ByteArray) (n : Int) : ByteArray := s.extract 0 (if n < (s.size : Int) then n else (s.size : Int)).toNat
theorem cut_c (s : ByteArray) (n : Int) (hn : 0 ≤ n) : PCall Tryz.prog G 110 [sV s, iV n] (sV (cutS s n)) := by
  refine pcallc mixed Tryz.func110 ac_rostrumkeep_cut ?_
  unfold cutS
  have h1 : 0 ≤ if n < (s.size : Int) then n else (s.size : Int) := by split <;> omega
  have h2 : (if n < (s.size : Int) then n else (s.size : Int)) ≤ (s.size : Int) := by split <;> omega
  simp -dsimp [go_sem, h1, h2]
theorem cutS_size (s : ByteArray) {n : Int} (hn : 0 ≤ n) : ((cutS s n).size : Int) ≤ n := by
  unfold cutS
  rw [ByteArray.size_extract]
  split <;> omega
def cmdText (n : Int) (text : ByteArray) : ByteArray := if pk n 3 = 0 then someS n else cutS text 6
def cmdOf (k key field n : Int) (text : ByteArray) : List C :=
  [iC k, sC (if k = 22 then ⟨#[]⟩ else someS key), sC (if k = 4 ∨ k = 5 ∨ k = 6 then someS field else ⟨#[]⟩),
   sC (if k = 1 ∨ k = 4 ∨ k = 7 ∨ k = 8 ∨ k = 11 ∨ k = 12 ∨ k = 13 ∨ k = 14 ∨ k = 15 ∨ k = 16 then cmdText n text else ⟨#[]⟩),
   iC (if k = 3 then n.tmod 1073741824 else if k = 20 then pk n 60 else if k = 14 then pk n 12 - 6 else 0)]
theorem cmd6 (n : Int) : IntKind.i64.wrap (pk n 12 - 6) = pk n 12 - 6 := by
  have := pk_range (n := n) (m := 12) (by omega)
  exact IntWalk.i64_in _ (by omega)
theorem command0_c (kind key field n : Int) (text : ByteArray) (h1 : i64 kind) (h2 : i64 key) (h3 : i64 field) (h4 : i64 n) (hk : pk kind 22 = 0) : PCall Tryz.prog G 87 [.agg [iC kind, iC key, iC field, iC n, sC text]] (.agg (cmdOf (1 + pk kind 22) key field n text)) := by
  rw [hk]
  refine pcallc mixed Tryz.func87 ac_rostrumkeep_Command ?_
  have e : IntKind.i64.wrap (1 + 0) = 1 + 0 := by rfl
  simp -dsimp [go_sem]
  refine awp_join ⟨[(1, .one (.ptr 0 0)), (2, .one (.ptr 1 0)), (3, .one (.ptr 2 0))], G, [some (.box 79 [iC kind, iC key, iC field, iC n, sC text]), some (.box 37 [iC 0, sC ⟨#[]⟩, sC ⟨#[]⟩, sC ⟨#[]⟩, iC 0]), some (.box 37 [iC (1 + 0), sC (someS key), sC ⟨#[]⟩, sC ⟨#[]⟩, iC 0])]⟩ ?_ ?_
  repeat' (first | (with_reducible first | refine Cn (fun h => ?_) fun h => ?_ | refine And.intro ?_ ?_ | refine wR ?_ | exact wr _ _ | refine wa ?_ | apply awp_join | refine q1 (by exact picked_c _ _ (by assumption) (by simp)) ?_ | refine q1d (by exact picked_c _ _ (by assumption) (by simp)) ?_ | refine q1 (by exact some_c _ (by assumption)) ?_ | refine q1d (by exact some_c _ (by assumption)) ?_ | refine q1 (by exact picked_c _ _ (by assumption) (by simp)) ?_ | refine q1d (by exact picked_c _ _ (by assumption) (by simp)) ?_ | refine q1 (by exact some_c _ (by assumption)) ?_ | refine q1d (by exact some_c _ (by assumption)) ?_ | refine q1 (by exact cut_c _ _ (by simp)) ?_ | refine q1d (by exact cut_c _ _ (by simp)) ?_) | (with_reducible refine CallZ.z ?_) | simp -dsimp [go_sem, hk, e, cmd6])
  all_goals simp_all [cmdOf, cmdText, coeCs, coeC]
theorem command1_c (kind key field n : Int) (text : ByteArray) (h1 : i64 kind) (h2 : i64 key) (h3 : i64 field) (h4 : i64 n) (hk : pk kind 22 = 1) : PCall Tryz.prog G 87 [.agg [iC kind, iC key, iC field, iC n, sC text]] (.agg (cmdOf (1 + pk kind 22) key field n text)) := by
  rw [hk]
  refine pcallc mixed Tryz.func87 ac_rostrumkeep_Command ?_
  have e : IntKind.i64.wrap (1 + 1) = 1 + 1 := by rfl
  simp -dsimp [go_sem]
  refine awp_join ⟨[(1, .one (.ptr 0 0)), (2, .one (.ptr 1 0)), (3, .one (.ptr 2 0))], G, [some (.box 79 [iC kind, iC key, iC field, iC n, sC text]), some (.box 37 [iC 0, sC ⟨#[]⟩, sC ⟨#[]⟩, sC ⟨#[]⟩, iC 0]), some (.box 37 [iC (1 + 1), sC (someS key), sC ⟨#[]⟩, sC ⟨#[]⟩, iC 0])]⟩ ?_ ?_
  repeat' (first | (with_reducible first | refine Cn (fun h => ?_) fun h => ?_ | refine And.intro ?_ ?_ | refine wR ?_ | exact wr _ _ | refine wa ?_ | apply awp_join | refine q1 (by exact picked_c _ _ (by assumption) (by simp)) ?_ | refine q1d (by exact picked_c _ _ (by assumption) (by simp)) ?_ | refine q1 (by exact some_c _ (by assumption)) ?_ | refine q1d (by exact some_c _ (by assumption)) ?_ | refine q1 (by exact picked_c _ _ (by assumption) (by simp)) ?_ | refine q1d (by exact picked_c _ _ (by assumption) (by simp)) ?_ | refine q1 (by exact some_c _ (by assumption)) ?_ | refine q1d (by exact some_c _ (by assumption)) ?_ | refine q1 (by exact cut_c _ _ (by simp)) ?_ | refine q1d (by exact cut_c _ _ (by simp)) ?_) | (with_reducible refine CallZ.z ?_) | simp -dsimp [go_sem, hk, e, cmd6])
  all_goals simp_all [cmdOf, cmdText, coeCs, coeC]
theorem command2_c (kind key field n : Int) (text : ByteArray) (h1 : i64 kind) (h2 : i64 key) (h3 : i64 field) (h4 : i64 n) (hk : pk kind 22 = 2) : PCall Tryz.prog G 87 [.agg [iC kind, iC key, iC field, iC n, sC text]] (.agg (cmdOf (1 + pk kind 22) key field n text)) := by
  rw [hk]
  refine pcallc mixed Tryz.func87 ac_rostrumkeep_Command ?_
  have e : IntKind.i64.wrap (1 + 2) = 1 + 2 := by rfl
  simp -dsimp [go_sem]
  refine awp_join ⟨[(1, .one (.ptr 0 0)), (2, .one (.ptr 1 0)), (3, .one (.ptr 2 0))], G, [some (.box 79 [iC kind, iC key, iC field, iC n, sC text]), some (.box 37 [iC 0, sC ⟨#[]⟩, sC ⟨#[]⟩, sC ⟨#[]⟩, iC 0]), some (.box 37 [iC (1 + 2), sC (someS key), sC ⟨#[]⟩, sC ⟨#[]⟩, iC 0])]⟩ ?_ ?_
  repeat' (first | (with_reducible first | refine Cn (fun h => ?_) fun h => ?_ | refine And.intro ?_ ?_ | refine wR ?_ | exact wr _ _ | refine wa ?_ | apply awp_join | refine q1 (by exact picked_c _ _ (by assumption) (by simp)) ?_ | refine q1d (by exact picked_c _ _ (by assumption) (by simp)) ?_ | refine q1 (by exact some_c _ (by assumption)) ?_ | refine q1d (by exact some_c _ (by assumption)) ?_ | refine q1 (by exact picked_c _ _ (by assumption) (by simp)) ?_ | refine q1d (by exact picked_c _ _ (by assumption) (by simp)) ?_ | refine q1 (by exact some_c _ (by assumption)) ?_ | refine q1d (by exact some_c _ (by assumption)) ?_ | refine q1 (by exact cut_c _ _ (by simp)) ?_ | refine q1d (by exact cut_c _ _ (by simp)) ?_) | (with_reducible refine CallZ.z ?_) | simp -dsimp [go_sem, hk, e, cmd6])
  all_goals simp_all [cmdOf, cmdText, coeCs, coeC]
theorem command3_c (kind key field n : Int) (text : ByteArray) (h1 : i64 kind) (h2 : i64 key) (h3 : i64 field) (h4 : i64 n) (hk : pk kind 22 = 3) : PCall Tryz.prog G 87 [.agg [iC kind, iC key, iC field, iC n, sC text]] (.agg (cmdOf (1 + pk kind 22) key field n text)) := by
  rw [hk]
  refine pcallc mixed Tryz.func87 ac_rostrumkeep_Command ?_
  have e : IntKind.i64.wrap (1 + 3) = 1 + 3 := by rfl
  simp -dsimp [go_sem]
  refine awp_join ⟨[(1, .one (.ptr 0 0)), (2, .one (.ptr 1 0)), (3, .one (.ptr 2 0))], G, [some (.box 79 [iC kind, iC key, iC field, iC n, sC text]), some (.box 37 [iC 0, sC ⟨#[]⟩, sC ⟨#[]⟩, sC ⟨#[]⟩, iC 0]), some (.box 37 [iC (1 + 3), sC (someS key), sC ⟨#[]⟩, sC ⟨#[]⟩, iC 0])]⟩ ?_ ?_
  repeat' (first | (with_reducible first | refine Cn (fun h => ?_) fun h => ?_ | refine And.intro ?_ ?_ | refine wR ?_ | exact wr _ _ | refine wa ?_ | apply awp_join | refine q1 (by exact picked_c _ _ (by assumption) (by simp)) ?_ | refine q1d (by exact picked_c _ _ (by assumption) (by simp)) ?_ | refine q1 (by exact some_c _ (by assumption)) ?_ | refine q1d (by exact some_c _ (by assumption)) ?_ | refine q1 (by exact picked_c _ _ (by assumption) (by simp)) ?_ | refine q1d (by exact picked_c _ _ (by assumption) (by simp)) ?_ | refine q1 (by exact some_c _ (by assumption)) ?_ | refine q1d (by exact some_c _ (by assumption)) ?_ | refine q1 (by exact cut_c _ _ (by simp)) ?_ | refine q1d (by exact cut_c _ _ (by simp)) ?_) | (with_reducible refine CallZ.z ?_) | simp -dsimp [go_sem, hk, e, cmd6])
  all_goals simp_all [cmdOf, cmdText, coeCs, coeC]
theorem command4_c (kind key field n : Int) (text : ByteArray) (h1 : i64 kind) (h2 : i64 key) (h3 : i64 field) (h4 : i64 n) (hk : pk kind 22 = 4) : PCall Tryz.prog G 87 [.agg [iC kind, iC key, iC field, iC n, sC text]] (.agg (cmdOf (1 + pk kind 22) key field n text)) := by
  rw [hk]
  refine pcallc mixed Tryz.func87 ac_rostrumkeep_Command ?_
  have e : IntKind.i64.wrap (1 + 4) = 1 + 4 := by rfl
  simp -dsimp [go_sem]
  refine awp_join ⟨[(1, .one (.ptr 0 0)), (2, .one (.ptr 1 0)), (3, .one (.ptr 2 0))], G, [some (.box 79 [iC kind, iC key, iC field, iC n, sC text]), some (.box 37 [iC 0, sC ⟨#[]⟩, sC ⟨#[]⟩, sC ⟨#[]⟩, iC 0]), some (.box 37 [iC (1 + 4), sC (someS key), sC ⟨#[]⟩, sC ⟨#[]⟩, iC 0])]⟩ ?_ ?_
  repeat' (first | (with_reducible first | refine Cn (fun h => ?_) fun h => ?_ | refine And.intro ?_ ?_ | refine wR ?_ | exact wr _ _ | refine wa ?_ | apply awp_join | refine q1 (by exact picked_c _ _ (by assumption) (by simp)) ?_ | refine q1d (by exact picked_c _ _ (by assumption) (by simp)) ?_ | refine q1 (by exact some_c _ (by assumption)) ?_ | refine q1d (by exact some_c _ (by assumption)) ?_ | refine q1 (by exact picked_c _ _ (by assumption) (by simp)) ?_ | refine q1d (by exact picked_c _ _ (by assumption) (by simp)) ?_ | refine q1 (by exact some_c _ (by assumption)) ?_ | refine q1d (by exact some_c _ (by assumption)) ?_ | refine q1 (by exact cut_c _ _ (by simp)) ?_ | refine q1d (by exact cut_c _ _ (by simp)) ?_) | (with_reducible refine CallZ.z ?_) | simp -dsimp [go_sem, hk, e, cmd6])
  all_goals simp_all [cmdOf, cmdText, coeCs, coeC]
theorem command5_c (kind key field n : Int) (text : ByteArray) (h1 : i64 kind) (h2 : i64 key) (h3 : i64 field) (h4 : i64 n) (hk : pk kind 22 = 5) : PCall Tryz.prog G 87 [.agg [iC kind, iC key, iC field, iC n, sC text]] (.agg (cmdOf (1 + pk kind 22) key field n text)) := by
  rw [hk]
  refine pcallc mixed Tryz.func87 ac_rostrumkeep_Command ?_
  have e : IntKind.i64.wrap (1 + 5) = 1 + 5 := by rfl
  simp -dsimp [go_sem]
  refine awp_join ⟨[(1, .one (.ptr 0 0)), (2, .one (.ptr 1 0)), (3, .one (.ptr 2 0))], G, [some (.box 79 [iC kind, iC key, iC field, iC n, sC text]), some (.box 37 [iC 0, sC ⟨#[]⟩, sC ⟨#[]⟩, sC ⟨#[]⟩, iC 0]), some (.box 37 [iC (1 + 5), sC (someS key), sC ⟨#[]⟩, sC ⟨#[]⟩, iC 0])]⟩ ?_ ?_
  repeat' (first | (with_reducible first | refine Cn (fun h => ?_) fun h => ?_ | refine And.intro ?_ ?_ | refine wR ?_ | exact wr _ _ | refine wa ?_ | apply awp_join | refine q1 (by exact picked_c _ _ (by assumption) (by simp)) ?_ | refine q1d (by exact picked_c _ _ (by assumption) (by simp)) ?_ | refine q1 (by exact some_c _ (by assumption)) ?_ | refine q1d (by exact some_c _ (by assumption)) ?_ | refine q1 (by exact picked_c _ _ (by assumption) (by simp)) ?_ | refine q1d (by exact picked_c _ _ (by assumption) (by simp)) ?_ | refine q1 (by exact some_c _ (by assumption)) ?_ | refine q1d (by exact some_c _ (by assumption)) ?_ | refine q1 (by exact cut_c _ _ (by simp)) ?_ | refine q1d (by exact cut_c _ _ (by simp)) ?_) | (with_reducible refine CallZ.z ?_) | simp -dsimp [go_sem, hk, e, cmd6])
  all_goals simp_all [cmdOf, cmdText, coeCs, coeC]
theorem command6_c (kind key field n : Int) (text : ByteArray) (h1 : i64 kind) (h2 : i64 key) (h3 : i64 field) (h4 : i64 n) (hk : pk kind 22 = 6) : PCall Tryz.prog G 87 [.agg [iC kind, iC key, iC field, iC n, sC text]] (.agg (cmdOf (1 + pk kind 22) key field n text)) := by
  rw [hk]
  refine pcallc mixed Tryz.func87 ac_rostrumkeep_Command ?_
  have e : IntKind.i64.wrap (1 + 6) = 1 + 6 := by rfl
  simp -dsimp [go_sem]
  refine awp_join ⟨[(1, .one (.ptr 0 0)), (2, .one (.ptr 1 0)), (3, .one (.ptr 2 0))], G, [some (.box 79 [iC kind, iC key, iC field, iC n, sC text]), some (.box 37 [iC 0, sC ⟨#[]⟩, sC ⟨#[]⟩, sC ⟨#[]⟩, iC 0]), some (.box 37 [iC (1 + 6), sC (someS key), sC ⟨#[]⟩, sC ⟨#[]⟩, iC 0])]⟩ ?_ ?_
  repeat' (first | (with_reducible first | refine Cn (fun h => ?_) fun h => ?_ | refine And.intro ?_ ?_ | refine wR ?_ | exact wr _ _ | refine wa ?_ | apply awp_join | refine q1 (by exact picked_c _ _ (by assumption) (by simp)) ?_ | refine q1d (by exact picked_c _ _ (by assumption) (by simp)) ?_ | refine q1 (by exact some_c _ (by assumption)) ?_ | refine q1d (by exact some_c _ (by assumption)) ?_ | refine q1 (by exact picked_c _ _ (by assumption) (by simp)) ?_ | refine q1d (by exact picked_c _ _ (by assumption) (by simp)) ?_ | refine q1 (by exact some_c _ (by assumption)) ?_ | refine q1d (by exact some_c _ (by assumption)) ?_ | refine q1 (by exact cut_c _ _ (by simp)) ?_ | refine q1d (by exact cut_c _ _ (by simp)) ?_) | (with_reducible refine CallZ.z ?_) | simp -dsimp [go_sem, hk, e, cmd6])
  all_goals simp_all [cmdOf, cmdText, coeCs, coeC]
theorem command7_c (kind key field n : Int) (text : ByteArray) (h1 : i64 kind) (h2 : i64 key) (h3 : i64 field) (h4 : i64 n) (hk : pk kind 22 = 7) : PCall Tryz.prog G 87 [.agg [iC kind, iC key, iC field, iC n, sC text]] (.agg (cmdOf (1 + pk kind 22) key field n text)) := by
  rw [hk]
  refine pcallc mixed Tryz.func87 ac_rostrumkeep_Command ?_
  have e : IntKind.i64.wrap (1 + 7) = 1 + 7 := by rfl
  simp -dsimp [go_sem]
  refine awp_join ⟨[(1, .one (.ptr 0 0)), (2, .one (.ptr 1 0)), (3, .one (.ptr 2 0))], G, [some (.box 79 [iC kind, iC key, iC field, iC n, sC text]), some (.box 37 [iC 0, sC ⟨#[]⟩, sC ⟨#[]⟩, sC ⟨#[]⟩, iC 0]), some (.box 37 [iC (1 + 7), sC (someS key), sC ⟨#[]⟩, sC ⟨#[]⟩, iC 0])]⟩ ?_ ?_
  repeat' (first | (with_reducible first | refine Cn (fun h => ?_) fun h => ?_ | refine And.intro ?_ ?_ | refine wR ?_ | exact wr _ _ | refine wa ?_ | apply awp_join | refine q1 (by exact picked_c _ _ (by assumption) (by simp)) ?_ | refine q1d (by exact picked_c _ _ (by assumption) (by simp)) ?_ | refine q1 (by exact some_c _ (by assumption)) ?_ | refine q1d (by exact some_c _ (by assumption)) ?_ | refine q1 (by exact picked_c _ _ (by assumption) (by simp)) ?_ | refine q1d (by exact picked_c _ _ (by assumption) (by simp)) ?_ | refine q1 (by exact some_c _ (by assumption)) ?_ | refine q1d (by exact some_c _ (by assumption)) ?_ | refine q1 (by exact cut_c _ _ (by simp)) ?_ | refine q1d (by exact cut_c _ _ (by simp)) ?_) | (with_reducible refine CallZ.z ?_) | simp -dsimp [go_sem, hk, e, cmd6])
  all_goals simp_all [cmdOf, cmdText, coeCs, coeC]
theorem command8_c (kind key field n : Int) (text : ByteArray) (h1 : i64 kind) (h2 : i64 key) (h3 : i64 field) (h4 : i64 n) (hk : pk kind 22 = 8) : PCall Tryz.prog G 87 [.agg [iC kind, iC key, iC field, iC n, sC text]] (.agg (cmdOf (1 + pk kind 22) key field n text)) := by
  rw [hk]
  refine pcallc mixed Tryz.func87 ac_rostrumkeep_Command ?_
  have e : IntKind.i64.wrap (1 + 8) = 1 + 8 := by rfl
  simp -dsimp [go_sem]
  refine awp_join ⟨[(1, .one (.ptr 0 0)), (2, .one (.ptr 1 0)), (3, .one (.ptr 2 0))], G, [some (.box 79 [iC kind, iC key, iC field, iC n, sC text]), some (.box 37 [iC 0, sC ⟨#[]⟩, sC ⟨#[]⟩, sC ⟨#[]⟩, iC 0]), some (.box 37 [iC (1 + 8), sC (someS key), sC ⟨#[]⟩, sC ⟨#[]⟩, iC 0])]⟩ ?_ ?_
  repeat' (first | (with_reducible first | refine Cn (fun h => ?_) fun h => ?_ | refine And.intro ?_ ?_ | refine wR ?_ | exact wr _ _ | refine wa ?_ | apply awp_join | refine q1 (by exact picked_c _ _ (by assumption) (by simp)) ?_ | refine q1d (by exact picked_c _ _ (by assumption) (by simp)) ?_ | refine q1 (by exact some_c _ (by assumption)) ?_ | refine q1d (by exact some_c _ (by assumption)) ?_ | refine q1 (by exact picked_c _ _ (by assumption) (by simp)) ?_ | refine q1d (by exact picked_c _ _ (by assumption) (by simp)) ?_ | refine q1 (by exact some_c _ (by assumption)) ?_ | refine q1d (by exact some_c _ (by assumption)) ?_ | refine q1 (by exact cut_c _ _ (by simp)) ?_ | refine q1d (by exact cut_c _ _ (by simp)) ?_) | (with_reducible refine CallZ.z ?_) | simp -dsimp [go_sem, hk, e, cmd6])
  all_goals simp_all [cmdOf, cmdText, coeCs, coeC]
theorem command9_c (kind key field n : Int) (text : ByteArray) (h1 : i64 kind) (h2 : i64 key) (h3 : i64 field) (h4 : i64 n) (hk : pk kind 22 = 9) : PCall Tryz.prog G 87 [.agg [iC kind, iC key, iC field, iC n, sC text]] (.agg (cmdOf (1 + pk kind 22) key field n text)) := by
  rw [hk]
  refine pcallc mixed Tryz.func87 ac_rostrumkeep_Command ?_
  have e : IntKind.i64.wrap (1 + 9) = 1 + 9 := by rfl
  simp -dsimp [go_sem]
  refine awp_join ⟨[(1, .one (.ptr 0 0)), (2, .one (.ptr 1 0)), (3, .one (.ptr 2 0))], G, [some (.box 79 [iC kind, iC key, iC field, iC n, sC text]), some (.box 37 [iC 0, sC ⟨#[]⟩, sC ⟨#[]⟩, sC ⟨#[]⟩, iC 0]), some (.box 37 [iC (1 + 9), sC (someS key), sC ⟨#[]⟩, sC ⟨#[]⟩, iC 0])]⟩ ?_ ?_
  repeat' (first | (with_reducible first | refine Cn (fun h => ?_) fun h => ?_ | refine And.intro ?_ ?_ | refine wR ?_ | exact wr _ _ | refine wa ?_ | apply awp_join | refine q1 (by exact picked_c _ _ (by assumption) (by simp)) ?_ | refine q1d (by exact picked_c _ _ (by assumption) (by simp)) ?_ | refine q1 (by exact some_c _ (by assumption)) ?_ | refine q1d (by exact some_c _ (by assumption)) ?_ | refine q1 (by exact picked_c _ _ (by assumption) (by simp)) ?_ | refine q1d (by exact picked_c _ _ (by assumption) (by simp)) ?_ | refine q1 (by exact some_c _ (by assumption)) ?_ | refine q1d (by exact some_c _ (by assumption)) ?_ | refine q1 (by exact cut_c _ _ (by simp)) ?_ | refine q1d (by exact cut_c _ _ (by simp)) ?_) | (with_reducible refine CallZ.z ?_) | simp -dsimp [go_sem, hk, e, cmd6])
  all_goals simp_all [cmdOf, cmdText, coeCs, coeC]
theorem command10_c (kind key field n : Int) (text : ByteArray) (h1 : i64 kind) (h2 : i64 key) (h3 : i64 field) (h4 : i64 n) (hk : pk kind 22 = 10) : PCall Tryz.prog G 87 [.agg [iC kind, iC key, iC field, iC n, sC text]] (.agg (cmdOf (1 + pk kind 22) key field n text)) := by
  rw [hk]
  refine pcallc mixed Tryz.func87 ac_rostrumkeep_Command ?_
  have e : IntKind.i64.wrap (1 + 10) = 1 + 10 := by rfl
  simp -dsimp [go_sem]
  refine awp_join ⟨[(1, .one (.ptr 0 0)), (2, .one (.ptr 1 0)), (3, .one (.ptr 2 0))], G, [some (.box 79 [iC kind, iC key, iC field, iC n, sC text]), some (.box 37 [iC 0, sC ⟨#[]⟩, sC ⟨#[]⟩, sC ⟨#[]⟩, iC 0]), some (.box 37 [iC (1 + 10), sC (someS key), sC ⟨#[]⟩, sC ⟨#[]⟩, iC 0])]⟩ ?_ ?_
  repeat' (first | (with_reducible first | refine Cn (fun h => ?_) fun h => ?_ | refine And.intro ?_ ?_ | refine wR ?_ | exact wr _ _ | refine wa ?_ | apply awp_join | refine q1 (by exact picked_c _ _ (by assumption) (by simp)) ?_ | refine q1d (by exact picked_c _ _ (by assumption) (by simp)) ?_ | refine q1 (by exact some_c _ (by assumption)) ?_ | refine q1d (by exact some_c _ (by assumption)) ?_ | refine q1 (by exact picked_c _ _ (by assumption) (by simp)) ?_ | refine q1d (by exact picked_c _ _ (by assumption) (by simp)) ?_ | refine q1 (by exact some_c _ (by assumption)) ?_ | refine q1d (by exact some_c _ (by assumption)) ?_ | refine q1 (by exact cut_c _ _ (by simp)) ?_ | refine q1d (by exact cut_c _ _ (by simp)) ?_) | (with_reducible refine CallZ.z ?_) | simp -dsimp [go_sem, hk, e, cmd6])
  all_goals simp_all [cmdOf, cmdText, coeCs, coeC]
theorem command11_c (kind key field n : Int) (text : ByteArray) (h1 : i64 kind) (h2 : i64 key) (h3 : i64 field) (h4 : i64 n) (hk : pk kind 22 = 11) : PCall Tryz.prog G 87 [.agg [iC kind, iC key, iC field, iC n, sC text]] (.agg (cmdOf (1 + pk kind 22) key field n text)) := by
  rw [hk]
  refine pcallc mixed Tryz.func87 ac_rostrumkeep_Command ?_
  have e : IntKind.i64.wrap (1 + 11) = 1 + 11 := by rfl
  simp -dsimp [go_sem]
  refine awp_join ⟨[(1, .one (.ptr 0 0)), (2, .one (.ptr 1 0)), (3, .one (.ptr 2 0))], G, [some (.box 79 [iC kind, iC key, iC field, iC n, sC text]), some (.box 37 [iC 0, sC ⟨#[]⟩, sC ⟨#[]⟩, sC ⟨#[]⟩, iC 0]), some (.box 37 [iC (1 + 11), sC (someS key), sC ⟨#[]⟩, sC ⟨#[]⟩, iC 0])]⟩ ?_ ?_
  repeat' (first | (with_reducible first | refine Cn (fun h => ?_) fun h => ?_ | refine And.intro ?_ ?_ | refine wR ?_ | exact wr _ _ | refine wa ?_ | apply awp_join | refine q1 (by exact picked_c _ _ (by assumption) (by simp)) ?_ | refine q1d (by exact picked_c _ _ (by assumption) (by simp)) ?_ | refine q1 (by exact some_c _ (by assumption)) ?_ | refine q1d (by exact some_c _ (by assumption)) ?_ | refine q1 (by exact picked_c _ _ (by assumption) (by simp)) ?_ | refine q1d (by exact picked_c _ _ (by assumption) (by simp)) ?_ | refine q1 (by exact some_c _ (by assumption)) ?_ | refine q1d (by exact some_c _ (by assumption)) ?_ | refine q1 (by exact cut_c _ _ (by simp)) ?_ | refine q1d (by exact cut_c _ _ (by simp)) ?_) | (with_reducible refine CallZ.z ?_) | simp -dsimp [go_sem, hk, e, cmd6])
  all_goals simp_all [cmdOf, cmdText, coeCs, coeC]
theorem command12_c (kind key field n : Int) (text : ByteArray) (h1 : i64 kind) (h2 : i64 key) (h3 : i64 field) (h4 : i64 n) (hk : pk kind 22 = 12) : PCall Tryz.prog G 87 [.agg [iC kind, iC key, iC field, iC n, sC text]] (.agg (cmdOf (1 + pk kind 22) key field n text)) := by
  rw [hk]
  refine pcallc mixed Tryz.func87 ac_rostrumkeep_Command ?_
  have e : IntKind.i64.wrap (1 + 12) = 1 + 12 := by rfl
  simp -dsimp [go_sem]
  refine awp_join ⟨[(1, .one (.ptr 0 0)), (2, .one (.ptr 1 0)), (3, .one (.ptr 2 0))], G, [some (.box 79 [iC kind, iC key, iC field, iC n, sC text]), some (.box 37 [iC 0, sC ⟨#[]⟩, sC ⟨#[]⟩, sC ⟨#[]⟩, iC 0]), some (.box 37 [iC (1 + 12), sC (someS key), sC ⟨#[]⟩, sC ⟨#[]⟩, iC 0])]⟩ ?_ ?_
  repeat' (first | (with_reducible first | refine Cn (fun h => ?_) fun h => ?_ | refine And.intro ?_ ?_ | refine wR ?_ | exact wr _ _ | refine wa ?_ | apply awp_join | refine q1 (by exact picked_c _ _ (by assumption) (by simp)) ?_ | refine q1d (by exact picked_c _ _ (by assumption) (by simp)) ?_ | refine q1 (by exact some_c _ (by assumption)) ?_ | refine q1d (by exact some_c _ (by assumption)) ?_ | refine q1 (by exact picked_c _ _ (by assumption) (by simp)) ?_ | refine q1d (by exact picked_c _ _ (by assumption) (by simp)) ?_ | refine q1 (by exact some_c _ (by assumption)) ?_ | refine q1d (by exact some_c _ (by assumption)) ?_ | refine q1 (by exact cut_c _ _ (by simp)) ?_ | refine q1d (by exact cut_c _ _ (by simp)) ?_) | (with_reducible refine CallZ.z ?_) | simp -dsimp [go_sem, hk, e, cmd6])
  all_goals simp_all [cmdOf, cmdText, coeCs, coeC]
theorem command13_c (kind key field n : Int) (text : ByteArray) (h1 : i64 kind) (h2 : i64 key) (h3 : i64 field) (h4 : i64 n) (hk : pk kind 22 = 13) : PCall Tryz.prog G 87 [.agg [iC kind, iC key, iC field, iC n, sC text]] (.agg (cmdOf (1 + pk kind 22) key field n text)) := by
  rw [hk]
  refine pcallc mixed Tryz.func87 ac_rostrumkeep_Command ?_
  have e : IntKind.i64.wrap (1 + 13) = 1 + 13 := by rfl
  simp -dsimp [go_sem]
  refine awp_join ⟨[(1, .one (.ptr 0 0)), (2, .one (.ptr 1 0)), (3, .one (.ptr 2 0))], G, [some (.box 79 [iC kind, iC key, iC field, iC n, sC text]), some (.box 37 [iC 0, sC ⟨#[]⟩, sC ⟨#[]⟩, sC ⟨#[]⟩, iC 0]), some (.box 37 [iC (1 + 13), sC (someS key), sC ⟨#[]⟩, sC ⟨#[]⟩, iC 0])]⟩ ?_ ?_
  repeat' (first | (with_reducible first | refine Cn (fun h => ?_) fun h => ?_ | refine And.intro ?_ ?_ | refine wR ?_ | exact wr _ _ | refine wa ?_ | apply awp_join | refine q1 (by exact picked_c _ _ (by assumption) (by simp)) ?_ | refine q1d (by exact picked_c _ _ (by assumption) (by simp)) ?_ | refine q1 (by exact some_c _ (by assumption)) ?_ | refine q1d (by exact some_c _ (by assumption)) ?_ | refine q1 (by exact picked_c _ _ (by assumption) (by simp)) ?_ | refine q1d (by exact picked_c _ _ (by assumption) (by simp)) ?_ | refine q1 (by exact some_c _ (by assumption)) ?_ | refine q1d (by exact some_c _ (by assumption)) ?_ | refine q1 (by exact cut_c _ _ (by simp)) ?_ | refine q1d (by exact cut_c _ _ (by simp)) ?_) | (with_reducible refine CallZ.z ?_) | simp -dsimp [go_sem, hk, e, cmd6])
  all_goals simp_all [cmdOf, cmdText, coeCs, coeC]
theorem command14_c (kind key field n : Int) (text : ByteArray) (h1 : i64 kind) (h2 : i64 key) (h3 : i64 field) (h4 : i64 n) (hk : pk kind 22 = 14) : PCall Tryz.prog G 87 [.agg [iC kind, iC key, iC field, iC n, sC text]] (.agg (cmdOf (1 + pk kind 22) key field n text)) := by
  rw [hk]
  refine pcallc mixed Tryz.func87 ac_rostrumkeep_Command ?_
  have e : IntKind.i64.wrap (1 + 14) = 1 + 14 := by rfl
  simp -dsimp [go_sem]
  refine awp_join ⟨[(1, .one (.ptr 0 0)), (2, .one (.ptr 1 0)), (3, .one (.ptr 2 0))], G, [some (.box 79 [iC kind, iC key, iC field, iC n, sC text]), some (.box 37 [iC 0, sC ⟨#[]⟩, sC ⟨#[]⟩, sC ⟨#[]⟩, iC 0]), some (.box 37 [iC (1 + 14), sC (someS key), sC ⟨#[]⟩, sC ⟨#[]⟩, iC 0])]⟩ ?_ ?_
  repeat' (first | (with_reducible first | refine Cn (fun h => ?_) fun h => ?_ | refine And.intro ?_ ?_ | refine wR ?_ | exact wr _ _ | refine wa ?_ | apply awp_join | refine q1 (by exact picked_c _ _ (by assumption) (by simp)) ?_ | refine q1d (by exact picked_c _ _ (by assumption) (by simp)) ?_ | refine q1 (by exact some_c _ (by assumption)) ?_ | refine q1d (by exact some_c _ (by assumption)) ?_ | refine q1 (by exact picked_c _ _ (by assumption) (by simp)) ?_ | refine q1d (by exact picked_c _ _ (by assumption) (by simp)) ?_ | refine q1 (by exact some_c _ (by assumption)) ?_ | refine q1d (by exact some_c _ (by assumption)) ?_ | refine q1 (by exact cut_c _ _ (by simp)) ?_ | refine q1d (by exact cut_c _ _ (by simp)) ?_) | (with_reducible refine CallZ.z ?_) | simp -dsimp [go_sem, hk, e, cmd6])
  all_goals simp_all [cmdOf, cmdText, coeCs, coeC]
theorem command15_c (kind key field n : Int) (text : ByteArray) (h1 : i64 kind) (h2 : i64 key) (h3 : i64 field) (h4 : i64 n) (hk : pk kind 22 = 15) : PCall Tryz.prog G 87 [.agg [iC kind, iC key, iC field, iC n, sC text]] (.agg (cmdOf (1 + pk kind 22) key field n text)) := by
  rw [hk]
  refine pcallc mixed Tryz.func87 ac_rostrumkeep_Command ?_
  have e : IntKind.i64.wrap (1 + 15) = 1 + 15 := by rfl
  simp -dsimp [go_sem]
  refine awp_join ⟨[(1, .one (.ptr 0 0)), (2, .one (.ptr 1 0)), (3, .one (.ptr 2 0))], G, [some (.box 79 [iC kind, iC key, iC field, iC n, sC text]), some (.box 37 [iC 0, sC ⟨#[]⟩, sC ⟨#[]⟩, sC ⟨#[]⟩, iC 0]), some (.box 37 [iC (1 + 15), sC (someS key), sC ⟨#[]⟩, sC ⟨#[]⟩, iC 0])]⟩ ?_ ?_
  repeat' (first | (with_reducible first | refine Cn (fun h => ?_) fun h => ?_ | refine And.intro ?_ ?_ | refine wR ?_ | exact wr _ _ | refine wa ?_ | apply awp_join | refine q1 (by exact picked_c _ _ (by assumption) (by simp)) ?_ | refine q1d (by exact picked_c _ _ (by assumption) (by simp)) ?_ | refine q1 (by exact some_c _ (by assumption)) ?_ | refine q1d (by exact some_c _ (by assumption)) ?_ | refine q1 (by exact picked_c _ _ (by assumption) (by simp)) ?_ | refine q1d (by exact picked_c _ _ (by assumption) (by simp)) ?_ | refine q1 (by exact some_c _ (by assumption)) ?_ | refine q1d (by exact some_c _ (by assumption)) ?_ | refine q1 (by exact cut_c _ _ (by simp)) ?_ | refine q1d (by exact cut_c _ _ (by simp)) ?_) | (with_reducible refine CallZ.z ?_) | simp -dsimp [go_sem, hk, e, cmd6])
  all_goals simp_all [cmdOf, cmdText, coeCs, coeC]
theorem command16_c (kind key field n : Int) (text : ByteArray) (h1 : i64 kind) (h2 : i64 key) (h3 : i64 field) (h4 : i64 n) (hk : pk kind 22 = 16) : PCall Tryz.prog G 87 [.agg [iC kind, iC key, iC field, iC n, sC text]] (.agg (cmdOf (1 + pk kind 22) key field n text)) := by
  rw [hk]
  refine pcallc mixed Tryz.func87 ac_rostrumkeep_Command ?_
  have e : IntKind.i64.wrap (1 + 16) = 1 + 16 := by rfl
  simp -dsimp [go_sem]
  refine awp_join ⟨[(1, .one (.ptr 0 0)), (2, .one (.ptr 1 0)), (3, .one (.ptr 2 0))], G, [some (.box 79 [iC kind, iC key, iC field, iC n, sC text]), some (.box 37 [iC 0, sC ⟨#[]⟩, sC ⟨#[]⟩, sC ⟨#[]⟩, iC 0]), some (.box 37 [iC (1 + 16), sC (someS key), sC ⟨#[]⟩, sC ⟨#[]⟩, iC 0])]⟩ ?_ ?_
  repeat' (first | (with_reducible first | refine Cn (fun h => ?_) fun h => ?_ | refine And.intro ?_ ?_ | refine wR ?_ | exact wr _ _ | refine wa ?_ | apply awp_join | refine q1 (by exact picked_c _ _ (by assumption) (by simp)) ?_ | refine q1d (by exact picked_c _ _ (by assumption) (by simp)) ?_ | refine q1 (by exact some_c _ (by assumption)) ?_ | refine q1d (by exact some_c _ (by assumption)) ?_ | refine q1 (by exact picked_c _ _ (by assumption) (by simp)) ?_ | refine q1d (by exact picked_c _ _ (by assumption) (by simp)) ?_ | refine q1 (by exact some_c _ (by assumption)) ?_ | refine q1d (by exact some_c _ (by assumption)) ?_ | refine q1 (by exact cut_c _ _ (by simp)) ?_ | refine q1d (by exact cut_c _ _ (by simp)) ?_) | (with_reducible refine CallZ.z ?_) | simp -dsimp [go_sem, hk, e, cmd6])
  all_goals simp_all [cmdOf, cmdText, coeCs, coeC]
theorem command17_c (kind key field n : Int) (text : ByteArray) (h1 : i64 kind) (h2 : i64 key) (h3 : i64 field) (h4 : i64 n) (hk : pk kind 22 = 17) : PCall Tryz.prog G 87 [.agg [iC kind, iC key, iC field, iC n, sC text]] (.agg (cmdOf (1 + pk kind 22) key field n text)) := by
  rw [hk]
  refine pcallc mixed Tryz.func87 ac_rostrumkeep_Command ?_
  have e : IntKind.i64.wrap (1 + 17) = 1 + 17 := by rfl
  simp -dsimp [go_sem]
  refine awp_join ⟨[(1, .one (.ptr 0 0)), (2, .one (.ptr 1 0)), (3, .one (.ptr 2 0))], G, [some (.box 79 [iC kind, iC key, iC field, iC n, sC text]), some (.box 37 [iC 0, sC ⟨#[]⟩, sC ⟨#[]⟩, sC ⟨#[]⟩, iC 0]), some (.box 37 [iC (1 + 17), sC (someS key), sC ⟨#[]⟩, sC ⟨#[]⟩, iC 0])]⟩ ?_ ?_
  repeat' (first | (with_reducible first | refine Cn (fun h => ?_) fun h => ?_ | refine And.intro ?_ ?_ | refine wR ?_ | exact wr _ _ | refine wa ?_ | apply awp_join | refine q1 (by exact picked_c _ _ (by assumption) (by simp)) ?_ | refine q1d (by exact picked_c _ _ (by assumption) (by simp)) ?_ | refine q1 (by exact some_c _ (by assumption)) ?_ | refine q1d (by exact some_c _ (by assumption)) ?_ | refine q1 (by exact picked_c _ _ (by assumption) (by simp)) ?_ | refine q1d (by exact picked_c _ _ (by assumption) (by simp)) ?_ | refine q1 (by exact some_c _ (by assumption)) ?_ | refine q1d (by exact some_c _ (by assumption)) ?_ | refine q1 (by exact cut_c _ _ (by simp)) ?_ | refine q1d (by exact cut_c _ _ (by simp)) ?_) | (with_reducible refine CallZ.z ?_) | simp -dsimp [go_sem, hk, e, cmd6])
  all_goals simp_all [cmdOf, cmdText, coeCs, coeC]
theorem command18_c (kind key field n : Int) (text : ByteArray) (h1 : i64 kind) (h2 : i64 key) (h3 : i64 field) (h4 : i64 n) (hk : pk kind 22 = 18) : PCall Tryz.prog G 87 [.agg [iC kind, iC key, iC field, iC n, sC text]] (.agg (cmdOf (1 + pk kind 22) key field n text)) := by
  rw [hk]
  refine pcallc mixed Tryz.func87 ac_rostrumkeep_Command ?_
  have e : IntKind.i64.wrap (1 + 18) = 1 + 18 := by rfl
  simp -dsimp [go_sem]
  refine awp_join ⟨[(1, .one (.ptr 0 0)), (2, .one (.ptr 1 0)), (3, .one (.ptr 2 0))], G, [some (.box 79 [iC kind, iC key, iC field, iC n, sC text]), some (.box 37 [iC 0, sC ⟨#[]⟩, sC ⟨#[]⟩, sC ⟨#[]⟩, iC 0]), some (.box 37 [iC (1 + 18), sC (someS key), sC ⟨#[]⟩, sC ⟨#[]⟩, iC 0])]⟩ ?_ ?_
  repeat' (first | (with_reducible first | refine Cn (fun h => ?_) fun h => ?_ | refine And.intro ?_ ?_ | refine wR ?_ | exact wr _ _ | refine wa ?_ | apply awp_join | refine q1 (by exact picked_c _ _ (by assumption) (by simp)) ?_ | refine q1d (by exact picked_c _ _ (by assumption) (by simp)) ?_ | refine q1 (by exact some_c _ (by assumption)) ?_ | refine q1d (by exact some_c _ (by assumption)) ?_ | refine q1 (by exact picked_c _ _ (by assumption) (by simp)) ?_ | refine q1d (by exact picked_c _ _ (by assumption) (by simp)) ?_ | refine q1 (by exact some_c _ (by assumption)) ?_ | refine q1d (by exact some_c _ (by assumption)) ?_ | refine q1 (by exact cut_c _ _ (by simp)) ?_ | refine q1d (by exact cut_c _ _ (by simp)) ?_) | (with_reducible refine CallZ.z ?_) | simp -dsimp [go_sem, hk, e, cmd6])
  all_goals simp_all [cmdOf, cmdText, coeCs, coeC]
theorem command19_c (kind key field n : Int) (text : ByteArray) (h1 : i64 kind) (h2 : i64 key) (h3 : i64 field) (h4 : i64 n) (hk : pk kind 22 = 19) : PCall Tryz.prog G 87 [.agg [iC kind, iC key, iC field, iC n, sC text]] (.agg (cmdOf (1 + pk kind 22) key field n text)) := by
  rw [hk]
  refine pcallc mixed Tryz.func87 ac_rostrumkeep_Command ?_
  have e : IntKind.i64.wrap (1 + 19) = 1 + 19 := by rfl
  simp -dsimp [go_sem]
  refine awp_join ⟨[(1, .one (.ptr 0 0)), (2, .one (.ptr 1 0)), (3, .one (.ptr 2 0))], G, [some (.box 79 [iC kind, iC key, iC field, iC n, sC text]), some (.box 37 [iC 0, sC ⟨#[]⟩, sC ⟨#[]⟩, sC ⟨#[]⟩, iC 0]), some (.box 37 [iC (1 + 19), sC (someS key), sC ⟨#[]⟩, sC ⟨#[]⟩, iC 0])]⟩ ?_ ?_
  repeat' (first | (with_reducible first | refine Cn (fun h => ?_) fun h => ?_ | refine And.intro ?_ ?_ | refine wR ?_ | exact wr _ _ | refine wa ?_ | apply awp_join | refine q1 (by exact picked_c _ _ (by assumption) (by simp)) ?_ | refine q1d (by exact picked_c _ _ (by assumption) (by simp)) ?_ | refine q1 (by exact some_c _ (by assumption)) ?_ | refine q1d (by exact some_c _ (by assumption)) ?_ | refine q1 (by exact picked_c _ _ (by assumption) (by simp)) ?_ | refine q1d (by exact picked_c _ _ (by assumption) (by simp)) ?_ | refine q1 (by exact some_c _ (by assumption)) ?_ | refine q1d (by exact some_c _ (by assumption)) ?_ | refine q1 (by exact cut_c _ _ (by simp)) ?_ | refine q1d (by exact cut_c _ _ (by simp)) ?_) | (with_reducible refine CallZ.z ?_) | simp -dsimp [go_sem, hk, e, cmd6])
  all_goals simp_all [cmdOf, cmdText, coeCs, coeC]
theorem command20_c (kind key field n : Int) (text : ByteArray) (h1 : i64 kind) (h2 : i64 key) (h3 : i64 field) (h4 : i64 n) (hk : pk kind 22 = 20) : PCall Tryz.prog G 87 [.agg [iC kind, iC key, iC field, iC n, sC text]] (.agg (cmdOf (1 + pk kind 22) key field n text)) := by
  rw [hk]
  refine pcallc mixed Tryz.func87 ac_rostrumkeep_Command ?_
  have e : IntKind.i64.wrap (1 + 20) = 1 + 20 := by rfl
  simp -dsimp [go_sem]
  refine awp_join ⟨[(1, .one (.ptr 0 0)), (2, .one (.ptr 1 0)), (3, .one (.ptr 2 0))], G, [some (.box 79 [iC kind, iC key, iC field, iC n, sC text]), some (.box 37 [iC 0, sC ⟨#[]⟩, sC ⟨#[]⟩, sC ⟨#[]⟩, iC 0]), some (.box 37 [iC (1 + 20), sC (someS key), sC ⟨#[]⟩, sC ⟨#[]⟩, iC 0])]⟩ ?_ ?_
  repeat' (first | (with_reducible first | refine Cn (fun h => ?_) fun h => ?_ | refine And.intro ?_ ?_ | refine wR ?_ | exact wr _ _ | refine wa ?_ | apply awp_join | refine q1 (by exact picked_c _ _ (by assumption) (by simp)) ?_ | refine q1d (by exact picked_c _ _ (by assumption) (by simp)) ?_ | refine q1 (by exact some_c _ (by assumption)) ?_ | refine q1d (by exact some_c _ (by assumption)) ?_ | refine q1 (by exact picked_c _ _ (by assumption) (by simp)) ?_ | refine q1d (by exact picked_c _ _ (by assumption) (by simp)) ?_ | refine q1 (by exact some_c _ (by assumption)) ?_ | refine q1d (by exact some_c _ (by assumption)) ?_ | refine q1 (by exact cut_c _ _ (by simp)) ?_ | refine q1d (by exact cut_c _ _ (by simp)) ?_) | (with_reducible refine CallZ.z ?_) | simp -dsimp [go_sem, hk, e, cmd6])
  all_goals simp_all [cmdOf, cmdText, coeCs, coeC]
theorem command21_c (kind key field n : Int) (text : ByteArray) (h1 : i64 kind) (h2 : i64 key) (h3 : i64 field) (h4 : i64 n) (hk : pk kind 22 = 21) : PCall Tryz.prog G 87 [.agg [iC kind, iC key, iC field, iC n, sC text]] (.agg (cmdOf (1 + pk kind 22) key field n text)) := by
  rw [hk]
  refine pcallc mixed Tryz.func87 ac_rostrumkeep_Command ?_
  have e : IntKind.i64.wrap (1 + 21) = 1 + 21 := by rfl
  simp -dsimp [go_sem]
  refine awp_join ⟨[(1, .one (.ptr 0 0)), (2, .one (.ptr 1 0)), (3, .one (.ptr 2 0))], G, [some (.box 79 [iC kind, iC key, iC field, iC n, sC text]), some (.box 37 [iC 0, sC ⟨#[]⟩, sC ⟨#[]⟩, sC ⟨#[]⟩, iC 0]), some (.box 37 [iC (1 + 21), sC (someS key), sC ⟨#[]⟩, sC ⟨#[]⟩, iC 0])]⟩ ?_ ?_
  repeat' (first | (with_reducible first | refine Cn (fun h => ?_) fun h => ?_ | refine And.intro ?_ ?_ | refine wR ?_ | exact wr _ _ | refine wa ?_ | apply awp_join | refine q1 (by exact picked_c _ _ (by assumption) (by simp)) ?_ | refine q1d (by exact picked_c _ _ (by assumption) (by simp)) ?_ | refine q1 (by exact some_c _ (by assumption)) ?_ | refine q1d (by exact some_c _ (by assumption)) ?_ | refine q1 (by exact picked_c _ _ (by assumption) (by simp)) ?_ | refine q1d (by exact picked_c _ _ (by assumption) (by simp)) ?_ | refine q1 (by exact some_c _ (by assumption)) ?_ | refine q1d (by exact some_c _ (by assumption)) ?_ | refine q1 (by exact cut_c _ _ (by simp)) ?_ | refine q1d (by exact cut_c _ _ (by simp)) ?_) | (with_reducible refine CallZ.z ?_) | simp -dsimp [go_sem, hk, e, cmd6])
  all_goals simp_all [cmdOf, cmdText, coeCs, coeC]
theorem command_c (kind key field n : Int) (text : ByteArray) (h1 : i64 kind) (h2 : i64 key) (h3 : i64 field) (h4 : i64 n) : PCall Tryz.prog G 87 [.agg [iC kind, iC key, iC field, iC n, sC text]] (.agg (cmdOf (1 + pk kind 22) key field n text)) := by
  have hr := pk_range (n := kind) (m := 22) (by omega)
  have hk : pk kind 22 = 0 ∨ pk kind 22 = 1 ∨ pk kind 22 = 2 ∨ pk kind 22 = 3 ∨ pk kind 22 = 4 ∨ pk kind 22 = 5 ∨ pk kind 22 = 6 ∨ pk kind 22 = 7 ∨ pk kind 22 = 8 ∨ pk kind 22 = 9 ∨ pk kind 22 = 10 ∨ pk kind 22 = 11 ∨ pk kind 22 = 12 ∨ pk kind 22 = 13 ∨ pk kind 22 = 14 ∨ pk kind 22 = 15 ∨ pk kind 22 = 16 ∨ pk kind 22 = 17 ∨ pk kind 22 = 18 ∨ pk kind 22 = 19 ∨ pk kind 22 = 20 ∨ pk kind 22 = 21 := by omega
  rcases hk with hk | hk | hk | hk | hk | hk | hk | hk | hk | hk | hk | hk | hk | hk | hk | hk | hk | hk | hk | hk | hk | hk
  · exact command0_c kind key field n text h1 h2 h3 h4 hk
  · exact command1_c kind key field n text h1 h2 h3 h4 hk
  · exact command2_c kind key field n text h1 h2 h3 h4 hk
  · exact command3_c kind key field n text h1 h2 h3 h4 hk
  · exact command4_c kind key field n text h1 h2 h3 h4 hk
  · exact command5_c kind key field n text h1 h2 h3 h4 hk
  · exact command6_c kind key field n text h1 h2 h3 h4 hk
  · exact command7_c kind key field n text h1 h2 h3 h4 hk
  · exact command8_c kind key field n text h1 h2 h3 h4 hk
  · exact command9_c kind key field n text h1 h2 h3 h4 hk
  · exact command10_c kind key field n text h1 h2 h3 h4 hk
  · exact command11_c kind key field n text h1 h2 h3 h4 hk
  · exact command12_c kind key field n text h1 h2 h3 h4 hk
  · exact command13_c kind key field n text h1 h2 h3 h4 hk
  · exact command14_c kind key field n text h1 h2 h3 h4 hk
  · exact command15_c kind key field n text h1 h2 h3 h4 hk
  · exact command16_c kind key field n text h1 h2 h3 h4 hk
  · exact command17_c kind key field n text h1 h2 h3 h4 hk
  · exact command18_c kind key field n text h1 h2 h3 h4 hk
  · exact command19_c kind key field n text h1 h2 h3 h4 hk
  · exact command20_c kind key field n text h1 h2 h3 h4 hk
  · exact command21_c kind key field n text h1 h2 h3 h4 hk
end Go.Proofs.YtpdcfljbabpakaaGreatDoor
set_option linter.unusedVariables false
set_option linter.unusedSimpArgs false
set_option maxRecDepth 100000
set_option maxHeartbeats 8000000
namespace Go.Proofs.YtpdcfljbabpakaaGreatDoor
open Go Go.RowKit Go.Proofs.AE
variable {G : Nat → AV}
def checkCall (client seq k : Int) (key field text : ByteArray) (n : Int) : Int :=
  if decide (client = 0) then (if (seq == 0 && (k == 0 && (decide (key = ⟨#[]⟩) && (decide (field = ⟨#[]⟩) && (decide (text = ⟨#[]⟩) && n == 0))))) then 0 else 8)
  else if okNumber client then (if okNumber seq then checkCommand k key field text n else 2) else 2
theorem checkCall_c (client seq k : Int) (key field text : ByteArray) (n : Int) : PCall Tryz.prog G 79 [.agg [iC client, iC seq, iC k, sC key, sC field, sC text, iC n]] (iV (checkCall client seq k key field text n)) := by
  refine pcallc mixed Tryz.func79 ac_client_CheckCall ?_
  repeat' (first | (with_reducible first | refine Cn (fun h => ?_) fun h => ?_ | refine And.intro ?_ ?_ | refine wR ?_ | exact wr _ _ | refine wa ?_ | apply awp_join | refine q (number_c _) ?_ | refine qd (number_c _) ?_ | refine qz (number_c _) ?_ | refine q (check_c _ _ _ _ _) ?_ | refine qd (check_c _ _ _ _ _) ?_ | refine qz (check_c _ _ _ _ _) ?_) | (with_reducible refine CallZ.z ?_) | simp -dsimp [go_sem])
  all_goals simp_all [checkCall]
  all_goals (intros; simp_all)
theorem cmd_ok (kind key field n : Int) (text : ByteArray) (h4 : i64 n) : ∀ k a b c m, cmdOf (1 + pk kind 22) key field n text = [iC k, sC a, sC b, sC c, iC m] → checkCommand k a b c m = 0 := by
  intro k a b c m h
  have hr := pk_range (n := kind) (m := 22) (by omega)
  have h60 := pk_range (n := n) (m := 60) (by omega)
  have h12 := pk_range (n := n) (m := 12) (by omega)
  have hs : ∀ x, okField (someS x) = true := fun x => rfl
  have hst : ∀ x, okText (someS x) = true := fun x => rfl
  have hc : okText (cmdText n text) = true := by
    unfold cmdText
    split
    · rfl
    · have := cutS_size text (n := 6) (by omega)
      simp only [okText, decide_eq_true_eq]
      omega
  have he : okText ⟨#[]⟩ = true := rfl
  have hn : okCount (n.tmod 1073741824) = true := by
    have h1 := Int.tmod_lt_of_pos n (b := 1073741824) (by omega)
    have h2 : -1073741824 < n.tmod 1073741824 := by
      rcases Int.le_total 0 n with h | h
      · have := Int.tmod_nonneg 1073741824 h; omega
      · have h3 := Int.tmod_lt_of_pos (-n) (b := 1073741824) (by omega)
        rw [Int.neg_tmod] at h3
        omega
    simp only [okCount, Bool.and_eq_true, decide_eq_true_eq]
    omega
  have hn0 : okCount 0 = true := rfl
  have hn1 : okCount (pk n 60) = true := by simp only [okCount, Bool.and_eq_true, decide_eq_true_eq]; omega
  have hn2 : okCount (pk n 12 - 6) = true := by simp only [okCount, Bool.and_eq_true, decide_eq_true_eq]; omega
  simp only [cmdOf, List.cons.injEq, C.v.injEq, V.lit.injEq, Value.int.injEq, Value.string.injEq, and_true, true_and] at h
  obtain ⟨rfl, rfl, rfl, rfl, rfl⟩ := h
  have hk : pk kind 22 = 0 ∨ pk kind 22 = 1 ∨ pk kind 22 = 2 ∨ pk kind 22 = 3 ∨ pk kind 22 = 4 ∨ pk kind 22 = 5 ∨ pk kind 22 = 6 ∨ pk kind 22 = 7 ∨ pk kind 22 = 8 ∨ pk kind 22 = 9 ∨ pk kind 22 = 10 ∨ pk kind 22 = 11 ∨ pk kind 22 = 12 ∨ pk kind 22 = 13 ∨ pk kind 22 = 14 ∨ pk kind 22 = 15 ∨ pk kind 22 = 16 ∨ pk kind 22 = 17 ∨ pk kind 22 = 18 ∨ pk kind 22 = 19 ∨ pk kind 22 = 20 ∨ pk kind 22 = 21 := by omega
  rcases hk with hk | hk | hk | hk | hk | hk | hk | hk | hk | hk | hk | hk | hk | hk | hk | hk | hk | hk | hk | hk | hk | hk
  all_goals simp [hk, checkCommand, formOk, hs, hst, hc, he, hn, hn0, hn1, hn2]
theorem nodup_le {α : Type} [DecidableEq α] : ∀ (l m : List α), l.Pairwise (· ≠ ·) → (∀ x ∈ l, x ∈ m) → l.length ≤ m.length
  | [], m, _, _ => Nat.zero_le _
  | x :: l, m, h, hm => by
    obtain ⟨h1, h2⟩ := List.pairwise_cons.1 h
    have hx := hm x (List.mem_cons_self ..)
    have := nodup_le l (m.erase x) h2 fun y hy => (List.mem_erase_of_ne fun e => h1 y hy e.symm).2 (hm y (List.mem_cons_of_mem _ hy))
    have hl := List.length_erase_of_mem hx
    have hp := List.length_pos_of_mem hx
    simp only [List.length_cons]; omega
def nine : List ByteArray := (List.range 9).map fun i => ⟨#[UInt8.ofNat (97 + i)]⟩
end Go.Proofs.YtpdcfljbabpakaaGreatDoor
set_option linter.unusedVariables false
set_option linter.unusedSimpArgs false
set_option maxRecDepth 100000
set_option maxHeartbeats 8000000
namespace Go.Proofs.YtpdcfljbabpakaaGreatDoor
open Go Go.RowKit Go.Proofs.AE
theorem wf_i64 {n : Int} (h : (Lit.int .i64 n).wf = true) : i64 n := by
  rw [Lit.wf] at h
  simp only [Bool.and_eq_true, decide_eq_true_eq] at h
  exact h
theorem raw_wt {vs : List V} (h : WT Tryz.prog 3 79 vs) : ∃ (kind key field n : Int) (text : ByteArray), vs = [.lit (.int .i64 kind), .lit (.int .i64 key), .lit (.int .i64 field), .lit (.int .i64 n), .lit (.string text)] ∧
    i64 kind ∧ i64 key ∧ i64 field ∧ i64 n ∧ text.size ≤ maxLen := by
  simp [WT, ti79, ti3, ti9] at h
  obtain ⟨hl, ⟨a, ha, wa⟩, ⟨b, hb, wb⟩, ⟨c, hc, wc⟩, ⟨d, hd, wd⟩, ⟨s, he, we⟩⟩ := h
  match vs, hl with
  | [v0, v1, v2, v3, v4], _ =>
    simp at ha hb hc hd he
    subst ha hb hc hd he
    exact ⟨a, b, c, d, s, rfl, wf_i64 wa, wf_i64 wb, wf_i64 wc, wf_i64 wd, we⟩
theorem deed_wt {vs : List V} (h : WT Tryz.prog 4 81 vs) : ∃ (client off wait kind key field n : Int) (text : ByteArray), vs = [.lit (.int .i64 client), .lit (.int .i64 off), .lit (.int .i64 wait), .lit (.int .i64 kind), .lit (.int .i64 key), .lit (.int .i64 field), .lit (.int .i64 n), .lit (.string text)] ∧
    i64 client ∧ i64 off ∧ i64 wait ∧ i64 kind ∧ i64 key ∧ i64 field ∧ i64 n ∧ text.size ≤ maxLen := by
  obtain ⟨hl, hf⟩ := WT_struct ti81 rfl h
  obtain ⟨j0, e0, r0⟩ := hf (3, 0) (by simp)
  obtain ⟨j1, e1, r1⟩ := hf (3, 1) (by simp)
  obtain ⟨j2, e2, r2⟩ := hf (3, 2) (by simp)
  obtain ⟨j3, e3, r3⟩ := hf (79, 3) (by simp)
  rw [ti3] at e0 e1 e2
  rw [ti79] at e3
  cases e0; cases e1; cases e2; cases e3
  obtain ⟨a, b, c, d, s, q, k1, k2, k3, k4, k5⟩ := raw_wt r3
  simp [WT, ti3] at r0 r1 r2
  obtain ⟨x, hx, wx⟩ := r0
  obtain ⟨y, hy, wy⟩ := r1
  obtain ⟨z, hz, wz⟩ := r2
  match vs, hl with
  | [v0, v1, v2, v3, v4, v5, v6, v7], _ =>
    simp at hx hy hz q
    obtain ⟨rfl, rfl, rfl, rfl, rfl⟩ := q
    subst hx hy hz
    exact ⟨x, y, z, a, b, c, d, s, rfl, wf_i64 wx, wf_i64 wy, wf_i64 wz, k1, k2, k3, k4, k5⟩
structure Deed where
  client : Int
  off : Int
  wait : Int
  kind : Int
  key : Int
  field : Int
  n : Int
  text : ByteArray
abbrev iL (n : Int) : V := .lit (.int .i64 n)
abbrev sL (s : ByteArray) : V := .lit (.string s)
def Deed.row (d : Deed) : List V := [iL d.client, iL d.off, iL d.wait, iL d.kind, iL d.key, iL d.field, iL d.n, sL d.text]
structure Deed.Ok (d : Deed) : Prop where
  client : i64 d.client
  off : i64 d.off
  wait : i64 d.wait
  kind : i64 d.kind
  key : i64 d.key
  field : i64 d.field
  n : i64 d.n
theorem deeds_of : ∀ (rows : List (List V)), (∀ r ∈ rows, WT Tryz.prog 4 81 r) → ∃ ds : List Deed, rows = ds.map Deed.row ∧ ∀ d ∈ ds, d.Ok
  | [], _ => ⟨[], rfl, fun d h => by cases h⟩
  | r :: rows, h => by
    obtain ⟨ds, h1, h2⟩ := deeds_of rows fun r hr => h r (List.mem_cons_of_mem _ hr)
    obtain ⟨client, off, wait, kind, key, field, n, text, rfl, a, b, c, d, e, f, g, _⟩ := deed_wt (h r (List.mem_cons_self ..))
    refine ⟨⟨client, off, wait, kind, key, field, n, text⟩ :: ds, by rw [h1]; rfl, fun x hx => ?_⟩
    rcases List.mem_cons.1 hx with rfl | hx
    · exact ⟨a, b, c, d, e, f, g⟩
    · exact h2 x hx
end Go.Proofs.YtpdcfljbabpakaaGreatDoor
set_option linter.unusedVariables false
set_option linter.unusedSimpArgs false
set_option maxRecDepth 100000
set_option maxHeartbeats 8000000
namespace Go.Proofs.YtpdcfljbabpakaaGreatDoor
open Go Go.RowKit Go.Proofs.AE
variable {G : Nat → AV}
theorem DoEnd_vk {v : Val} {q : Val × Rep} (hv : Vk v) (hq : q.2.code = 0 → OkB q.1) : (DoEnd v q).2.2 = 0 ∧ Vk (DoEnd v q).1 := by
  unfold DoEnd
  by_cases h : q.2.code ≠ 0
  · rw [if_pos h]; exact ⟨rfl, hv⟩
  · rw [if_neg h]
    have h0 : q.2.code = 0 := Classical.not_not.1 h
    by_cases h2 : 3 ≤ q.1.kind ∧ q.1.els = 0
    · rw [if_pos h2]; exact ⟨rfl, .inr rfl⟩
    · rw [if_neg h2]; exact ⟨rfl, .inl ((hq h0).ok h2)⟩
theorem kindOf_zero {k : Int} (h1 : 1 ≤ k) (h2 : k ≤ 16) (h : k ≠ 1) : kindOfC k ≠ 0 := by
  unfold kindOfC
  repeat' split
  all_goals omega
theorem DoV_vk {v : Val} {c : Cmd} (h : Vk v) (hc : checkC c = 0) (hk : c.kind ≤ 18) : (DoV v c).2.2 = 0 ∧ Vk (DoV v c).1 := by
  have hk1 := checkC_kind hc
  rcases h with h | h
  · have hv := checkV_iff.2 h
    by_cases hm : (kindOfC c.kind ≠ 0 ∧ kindOfC c.kind ≠ v.kind) ∨ (17 ≤ c.kind ∧ v.kind < 3)
    · rw [DoV_type hv hc hk hm]; exact ⟨rfl, .inl h⟩
    · rw [DoV_go hv hc hk hm]
      refine DoEnd_vk (.inl h) fun h0 => ?_
      by_cases h17 : 17 ≤ c.kind
      · have hk2 : c.kind = 17 ∨ c.kind = 18 := by omega
        rcases hk2 with e | e <;> (unfold doV; simp [e]; exact h.b)
      · refine doV_ok h.b hc (by omega) ?_ h0
        by_cases e : c.kind = 1
        · exact .inl e
        · have := kindOf_zero hk1 (by omega) e
          refine .inr ?_
          simp only [not_or, not_and, Classical.not_not] at hm
          exact hm.1 this
  · subst h
    rw [DoV_zero hc hk]
    cases hmk : makesC c.kind with
    | false => exact ⟨rfl, .inr rfl⟩
    | true =>
      simp only [if_true]
      have hk2 : c.kind ≤ 14 := by
        unfold makesC at hmk
        simp at hmk
        omega
      refine DoEnd_vk (.inr rfl) fun h0 => ?_
      by_cases e : c.kind = 1
      · have hd : doV ⟨kindOfC c.kind, ⟨#[]⟩, 0, [], [], []⟩ c = doV ⟨1, ⟨#[]⟩, 0, [], [], []⟩ c := by unfold doV; rw [if_pos e, if_pos e]
        rw [hd] at h0 ⊢
        exact doV_ok (fresh_b (by omega) (by omega)) hc (by omega) (.inl e) h0
      · have hne := kindOf_zero hk1 (by omega) e
        have hr : 1 ≤ kindOfC c.kind ∧ kindOfC c.kind ≤ 6 := by
          unfold kindOfC at hne ⊢
          repeat' split
          all_goals simp_all
        exact doV_ok (fresh_b hr.1 hr.2) hc (by omega) (.inr rfl) h0
structure Raw where
  kind : Int
  key : Int
  field : Int
  n : Int
  text : ByteArray
def Raw.row (r : Raw) : List V := [.lit (.int .i64 r.kind), .lit (.int .i64 r.key), .lit (.int .i64 r.field), .lit (.int .i64 r.n), .lit (.string r.text)]
structure Raw.Ok (r : Raw) : Prop where
  kind : i64 r.kind
  key : i64 r.key
  field : i64 r.field
  n : i64 r.n
def cmdK (k : Int) (r : Raw) : Cmd :=
  ⟨k, if k = 22 then ⟨#[]⟩ else someS r.key, if k = 4 ∨ k = 5 ∨ k = 6 then someS r.field else ⟨#[]⟩,
   if k = 1 ∨ k = 4 ∨ k = 7 ∨ k = 8 ∨ k = 11 ∨ k = 12 ∨ k = 13 ∨ k = 14 ∨ k = 15 ∨ k = 16 then cmdText r.n r.text else ⟨#[]⟩,
   if k = 3 then r.n.tmod 1073741824 else if k = 20 then pk r.n 60 else if k = 14 then pk r.n 12 - 6 else 0⟩
def cmdR (r : Raw) : Cmd := cmdK (1 + pk r.kind 22) r
theorem cmdR_ok {r : Raw} (h : r.Ok) : checkC (cmdR r) = 0 := cmd_ok r.kind r.key r.field r.n r.text h.n _ _ _ _ _ rfl
theorem commandR_c (r : Raw) (h : r.Ok) : PCall Tryz.prog G 87 [.agg [iC r.kind, iC r.key, iC r.field, iC r.n, sC r.text]] (.agg (cmdR r).c) := command_c r.kind r.key r.field r.n r.text h.kind h.key h.field h.n
end Go.Proofs.YtpdcfljbabpakaaGreatDoor
set_option linter.unusedVariables false
set_option linter.unusedSimpArgs false
set_option maxRecDepth 100000
set_option maxHeartbeats 8000000
namespace Go.Proofs.YtpdcfljbabpakaaGreatDoor
open Go Go.RowKit Go.Proofs.AE
variable {G : Nat → AV}
instance : DecidableEq Val := fun a b => decidable_of_iff (a.kind = b.kind ∧ a.text = b.text ∧ a.count = b.count ∧ a.pairs = b.pairs ∧ a.items = b.items ∧ a.scores = b.scores) (by
  cases a; cases b; simp)
theorem take_same {α : Type} {a b : List α} {i : Nat} {x y : α} (h : a.take i = b.take i) (ha : a[i]? = some x) (hb : b[i]? = some y) (e : x = y) : a.take (i + 1) = b.take (i + 1) := by
  rw [List.take_add_one, List.take_add_one, h, ha, hb, e]
theorem sameTexts_c (a b : List ByteArray) (hl : (a.length : Int) ≤ 1000000) : PCall Tryz.prog G 93 [.one (.v (.sl (strRows a))), .one (.v (.sl (strRows b)))] (bV (decide (a = b))) := by
  refine pcallc mixed Tryz.func93 ac_rostrumkeep_sameTexts ?_
  by_cases hll : a.length = b.length
  · repeat' (first | (with_reducible first | refine Cn (fun h => ?_) fun h => ?_ | refine And.intro ?_ ?_ | refine wR ?_ | exact wr _ _ | refine wa ?_ | apply awp_join) | (with_reducible refine CallZ.z ?_) | simp -dsimp [go_sem, hll])
    refine awp_loop (fun i : Nat => ⟨[(0, .one (.v (.sl (strRows a)))), (1, .one (.v (.sl (strRows b)))), (5, iV i)], G, []⟩) (fun i => i ≤ a.length ∧ a.take i = b.take i) (fun i => a.length - i) 0 (weak_auto ?_) ⟨Nat.zero_le _, rfl⟩ ?_
    · simp -dsimp [go_sem]
    · rintro i ⟨hi, hx⟩
      simp -dsimp [go_sem]
      refine Cnd.intro (fun h => ?_) (fun h => ?_)
      · have hlt : i < a.length := by simpa using h
        obtain ⟨x, hxa⟩ : ∃ x, a[i]? = some x := ⟨_, List.getElem?_eq_getElem hlt⟩
        obtain ⟨y, hyb⟩ : ∃ y, b[i]? = some y := ⟨_, List.getElem?_eq_getElem (by omega)⟩
        have e4 : IntKind.i64.wrap ((i : Int) + 1) = (i : Int) + 1 := IntWalk.i64_in _ (by omega)
        by_cases hxy : x = y
        · subst hxy
          repeat' (first | (with_reducible first | refine Cn (fun h => ?_) fun h => ?_ | refine And.intro ?_ ?_ | refine wR ?_ | exact wr _ _ | refine wa ?_ | apply awp_join) | (with_reducible refine CallZ.z ?_) | simp -dsimp [go_sem, hxa, hyb, e4])
          all_goals first
            | omega
            | (refine Again.auto (i + 1) ?_ ⟨hlt, take_same hx hxa hyb rfl⟩ ?_
               · simp -dsimp [go_sem]
               · show a.length - (i + 1) < a.length - i; omega)
        · have hne : ¬ a = b := fun e => by subst e; rw [hxa] at hyb; exact hxy (Option.some.inj hyb)
          have hd : decide (a = b) = false := by simpa using hne
          repeat' (first | (with_reducible first | refine Cn (fun h => ?_) fun h => ?_ | refine And.intro ?_ ?_ | refine wR ?_ | exact wr _ _ | refine wa ?_ | apply awp_join) | (with_reducible refine CallZ.z ?_) | simp -dsimp [go_sem, hxa, hyb, e4, hxy, hne, hd])
          all_goals first | omega | (simp_all; done)
      · have hge : ¬ i < a.length := by simpa using h
        have hab : a = b := by
          rw [List.take_of_length_le (by omega), List.take_of_length_le (by omega)] at hx
          exact hx
        simp -dsimp [go_sem, hab]
  · have hne : ¬ a = b := fun e => hll (by rw [e])
    have hl' : ((a.length : Int) == b.length) = false := by simp; omega
    repeat' (first | (with_reducible first | refine Cn (fun h => ?_) fun h => ?_ | refine And.intro ?_ ?_ | refine wR ?_ | exact wr _ _ | refine wa ?_ | apply awp_join) | (with_reducible refine CallZ.z ?_) | simp -dsimp [go_sem, hll, hne, hl'])
    all_goals first | (simp_all; done)
theorem sameReply_c (a b : Rep) (hl : a.list.length ≤ 1000) : PCall Tryz.prog G 65 [.agg a.c, .agg b.c] (bV (a.code == b.code && decide (a.text = b.text) && a.n == b.n && decide (a.list = b.list))) := by
  have ht := sameTexts_c (G := G) a.list b.list (by omega)
  unfold Rep.c
  refine pcallc mixed Tryz.func65 ac_rostrumkeep_sameReply ?_
  repeat' (first | (with_reducible first | refine Cn (fun h => ?_) fun h => ?_ | refine And.intro ?_ ?_ | refine wR ?_ | exact wr _ _ | refine wa ?_ | apply awp_join | refine q ht ?_ | refine qd ht ?_ | refine qz ht ?_) | (with_reducible refine CallZ.z ?_) | simp -dsimp [go_sem])
  all_goals first | (simp_all; done)
theorem sameValue_c (a b : Val) (hl : a.Small) : PCall Tryz.prog G 92 [.agg a.c, .agg b.c] (bV (decide (a = b))) := by
  obtain ⟨k, t, n, p, l, s⟩ := a
  obtain ⟨k', t', n', p', l', s'⟩ := b
  obtain ⟨s1, s2, s3⟩ := hl
  simp only at s1 s2 s3
  have ht := sameTexts_c (G := G) l l' (by omega)
  simp only [Val.c]
  by_cases hk : k = k' ∧ t = t' ∧ n = n' ∧ p.length = p'.length ∧ s.length = s'.length ∧ l = l'
  · obtain ⟨rfl, rfl, rfl, h1, h2, rfl⟩ := hk
    have hd : decide (Val.mk k t n p l s = Val.mk k t n p' l s') = (decide (p = p') && decide (s = s')) := by
      by_cases e1 : p = p' <;> by_cases e2 : s = s' <;> simp [e1, e2]
    rw [hd]
    have ht' : PCall Tryz.prog G 93 [.one (.v (.sl (strRows l))), .one (.v (.sl (strRows l)))] (bV true) := by simpa using ht
    refine pcallc mixed Tryz.func92 ac_rostrumkeep_sameValue ?_
    repeat' (first | (with_reducible first | refine Cn (fun h => ?_) fun h => ?_ | refine And.intro ?_ ?_ | refine wR ?_ | exact wr _ _ | refine wa ?_ | apply awp_join | refine q (ht') ?_ | refine qd (ht') ?_ | refine qz (ht') ?_) | (with_reducible refine CallZ.z ?_) | simp -dsimp [go_sem, h1, h2])
    refine awp_loop (fun i : Nat => ⟨[(2, .one (.ptr 0 0)), (3, .one (.ptr 1 0)), (5, iV i)], G, [some (.box 117 [iC k, sC t, iC n, .v (.sl (pR p)), .v (.sl (strRows l)), .v (.sl (sR s))]), some (.box 117 [iC k, sC t, iC n, .v (.sl (pR p')), .v (.sl (strRows l)), .v (.sl (sR s'))])]⟩) (fun i => i ≤ p.length ∧ p.take i = p'.take i) (fun i => p.length - i) 0 (weak_auto ?_) ⟨Nat.zero_le _, rfl⟩ ?_
    · simp -dsimp [go_sem]
    · rintro i ⟨hi, hx⟩
      simp -dsimp [go_sem]
      refine Cnd.intro (fun h => ?_) (fun h => ?_)
      · have hlt : i < p.length := by simpa using h
        obtain ⟨⟨x1, x2⟩, hxa⟩ : ∃ x, p[i]? = some x := ⟨_, List.getElem?_eq_getElem hlt⟩
        obtain ⟨⟨y1, y2⟩, hyb⟩ : ∃ y, p'[i]? = some y := ⟨_, List.getElem?_eq_getElem (by omega)⟩
        have e4 : IntKind.i64.wrap ((i : Int) + 1) = (i : Int) + 1 := IntWalk.i64_in _ (by omega)
        by_cases hxy : (x1, x2) = (y1, y2)
        · obtain ⟨rfl, rfl⟩ := Prod.mk.inj hxy
          repeat' (first | (with_reducible first | refine Cn (fun h => ?_) fun h => ?_ | refine And.intro ?_ ?_ | refine wR ?_ | exact wr _ _ | refine wa ?_ | apply awp_join) | (with_reducible refine CallZ.z ?_) | simp -dsimp [go_sem, hxa, hyb, e4])
          all_goals first
            | omega
            | (refine Again.auto (i + 1) ?_ ⟨hlt, take_same hx hxa hyb rfl⟩ ?_
               · simp -dsimp [go_sem]
               · show p.length - (i + 1) < p.length - i; omega)
        · have hne : ¬ p = p' := fun e => by subst e; rw [hxa] at hyb; exact hxy (Option.some.inj hyb)
          have hd : decide (p = p') = false := by simpa using hne
          have hq : (decide (x1 = y1) && decide (x2 = y2)) = false := by
            by_cases e1 : x1 = y1 <;> by_cases e2 : x2 = y2 <;> simp_all
          repeat' (first | (with_reducible first | refine Cn (fun h => ?_) fun h => ?_ | refine And.intro ?_ ?_ | refine wR ?_ | exact wr _ _ | refine wa ?_ | apply awp_join) | (with_reducible refine CallZ.z ?_) | simp -dsimp [go_sem, hxa, hyb, e4, hq, hne, hd])
          all_goals first | omega | (simp_all; done)
      · have hge : ¬ i < p.length := by simpa using h
        have hab : p = p' := by
          rw [List.take_of_length_le (by omega), List.take_of_length_le (by omega)] at hx
          exact hx
        subst hab
        repeat' (first | (with_reducible first | refine Cn (fun h => ?_) fun h => ?_ | refine And.intro ?_ ?_ | refine wR ?_ | exact wr _ _ | refine wa ?_ | apply awp_join) | (with_reducible refine CallZ.z ?_) | simp -dsimp [go_sem])
        refine awp_loop (fun i : Nat => ⟨[(2, .one (.ptr 0 0)), (3, .one (.ptr 1 0)), (6, iV i)], G, [some (.box 117 [iC k, sC t, iC n, .v (.sl (pR p)), .v (.sl (strRows l)), .v (.sl (sR s))]), some (.box 117 [iC k, sC t, iC n, .v (.sl (pR p)), .v (.sl (strRows l)), .v (.sl (sR s'))])]⟩) (fun i => i ≤ s.length ∧ s.take i = s'.take i) (fun i => s.length - i) 0 (weak_auto ?_) ⟨Nat.zero_le _, rfl⟩ ?_
        · simp -dsimp [go_sem]
        · rintro i ⟨hi, hx⟩
          simp -dsimp [go_sem]
          refine Cnd.intro (fun h => ?_) (fun h => ?_)
          · have hlt : i < s.length := by simpa using h
            obtain ⟨⟨x1, x2⟩, hxa⟩ : ∃ x, s[i]? = some x := ⟨_, List.getElem?_eq_getElem hlt⟩
            obtain ⟨⟨y1, y2⟩, hyb⟩ : ∃ y, s'[i]? = some y := ⟨_, List.getElem?_eq_getElem (by omega)⟩
            have e4 : IntKind.i64.wrap ((i : Int) + 1) = (i : Int) + 1 := IntWalk.i64_in _ (by omega)
            by_cases hxy : (x1, x2) = (y1, y2)
            · obtain ⟨rfl, rfl⟩ := Prod.mk.inj hxy
              repeat' (first | (with_reducible first | refine Cn (fun h => ?_) fun h => ?_ | refine And.intro ?_ ?_ | refine wR ?_ | exact wr _ _ | refine wa ?_ | apply awp_join) | (with_reducible refine CallZ.z ?_) | simp -dsimp [go_sem, hxa, hyb, e4])
              all_goals first
                | omega
                | (refine Again.auto (i + 1) ?_ ⟨hlt, take_same hx hxa hyb rfl⟩ ?_
                   · simp -dsimp [go_sem]
                   · show s.length - (i + 1) < s.length - i; omega)
            · have hne : ¬ s = s' := fun e => by subst e; rw [hxa] at hyb; exact hxy (Option.some.inj hyb)
              have hd : decide (s = s') = false := by simpa using hne
              have hq : (decide (x1 = y1) && x2 == y2) = false := by
                by_cases e1 : x1 = y1 <;> by_cases e2 : x2 = y2 <;> simp_all
              repeat' (first | (with_reducible first | refine Cn (fun h => ?_) fun h => ?_ | refine And.intro ?_ ?_ | refine wR ?_ | exact wr _ _ | refine wa ?_ | apply awp_join) | (with_reducible refine CallZ.z ?_) | simp -dsimp [go_sem, hxa, hyb, e4, hq, hne, hd])
              all_goals first | omega | (simp_all; done)
          · have hge : ¬ i < s.length := by simpa using h
            have hab : s = s' := by
              rw [List.take_of_length_le (by omega), List.take_of_length_le (by omega)] at hx
              exact hx
            subst hab
            simp -dsimp [go_sem]
  · have hne : ¬ (Val.mk k t n p l s = Val.mk k' t' n' p' l' s') := fun e => by cases e; exact hk ⟨rfl, rfl, rfl, rfl, rfl, rfl⟩
    have hd : decide (Val.mk k t n p l s = Val.mk k' t' n' p' l' s') = false := by simpa using hne
    rw [hd]
    refine pcallc mixed Tryz.func92 ac_rostrumkeep_sameValue ?_
    repeat' (first | (with_reducible first | refine Cn (fun h => ?_) fun h => ?_ | refine And.intro ?_ ?_ | refine wR ?_ | exact wr _ _ | refine wa ?_ | apply awp_join | refine q ht ?_ | refine qd ht ?_ | refine qz ht ?_) | (with_reducible refine CallZ.z ?_) | simp -dsimp [go_sem])
    all_goals (exfalso; clear ht hd hne; apply hk; clear hk; refine ⟨?_, ?_, ?_, ?_, ?_, ?_⟩ <;> first | (simp_all; done) | (simp_all; omega))
end Go.Proofs.YtpdcfljbabpakaaGreatDoor
