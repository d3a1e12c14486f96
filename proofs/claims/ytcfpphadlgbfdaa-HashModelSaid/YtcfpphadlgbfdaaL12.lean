/- What maps answer, and what commands make of a hash and of a set, told by what is found in them. -/
import Derived.Test.YtcfpphadlgbfdaaL6
import Derived.Test.YtcfpphadlgbfdaaE
set_option linter.unusedVariables false
set_option linter.unusedSimpArgs false
set_option maxRecDepth 100000
set_option maxHeartbeats 8000000
namespace Go.Proofs.Ytcfpphadlgbfdaa
open Go Go.RowKit Go.Proofs.AE
variable {G : Nat → AV}
abbrev Mp1 := List (ByteArray × Value)
abbrev Once (l : Mp1) : Prop := l.Pairwise (fun a b => a.1 ≠ b.1)
theorem find_append (a b : Mp1) (g : ByteArray) : mpFind (a ++ b) g = (mpFind a g).or (mpFind b g) := by
  induction a with
  | nil => rfl
  | cons e a ih =>
    obtain ⟨k, v⟩ := e
    simp only [List.cons_append, mpFind]
    split
    · rfl
    · exact ih
theorem find_none {l : Mp1} {g : ByteArray} : mpFind l g = none ↔ ∀ e ∈ l, e.1 ≠ g := by
  induction l with
  | nil => simp [mpFind]
  | cons e l ih =>
    obtain ⟨k, v⟩ := e
    simp only [mpFind, List.mem_cons, forall_eq_or_imp]
    by_cases h : g = k
    · simp [h]
    · rw [if_neg h, ih]
      constructor
      · exact fun h2 => ⟨fun e => h e.symm, h2⟩
      · exact fun h2 => h2.2
theorem find_put (l : Mp1) (k : ByteArray) (x : Value) (g : ByteArray) : mpFind (mpPut l k x) g = if g = k then some x else mpFind l g := by
  induction l with
  | nil => simp [mpPut, mpFind]
  | cons e l ih =>
    obtain ⟨a, v⟩ := e
    unfold mpPut
    by_cases h : k = a
    · rw [if_pos h]
      subst h
      simp only [mpFind]
      by_cases hg : g = k <;> simp [hg]
    · rw [if_neg h]
      simp only [mpFind, ih]
      by_cases hg : g = a
      · subst hg; simp [Ne.symm h]
      · simp [hg]
theorem put_len (l : Mp1) (k : ByteArray) (x : Value) : (mpPut l k x).length = if (mpFind l k).isSome = true then l.length else l.length + 1 := by
  induction l with
  | nil => rfl
  | cons e l ih =>
    obtain ⟨a, v⟩ := e
    unfold mpPut mpFind
    by_cases h : k = a
    · simp [h]
    · rw [if_neg h, if_neg h]
      simp only [List.length_cons, ih]
      split <;> rfl
theorem put_mem {l : Mp1} {k : ByteArray} {x : Value} {e : ByteArray × Value} (h : e ∈ mpPut l k x) : e.1 = k ∨ ∃ f ∈ l, f.1 = e.1 := by
  induction l with
  | nil => simp [mpPut] at h; subst h; exact .inl rfl
  | cons a l ih =>
    obtain ⟨a, v⟩ := a
    unfold mpPut at h
    split at h
    · rcases List.mem_cons.1 h with h | h
      · subst h; exact .inl rfl
      · exact .inr ⟨e, List.mem_cons_of_mem _ h, rfl⟩
    · rcases List.mem_cons.1 h with h | h
      · subst h; exact .inr ⟨_, List.mem_cons_self .., rfl⟩
      · rcases ih h with h | ⟨f, h1, h2⟩
        · exact .inl h
        · exact .inr ⟨f, List.mem_cons_of_mem _ h1, h2⟩
theorem put_once {l : Mp1} (h : Once l) (k : ByteArray) (x : Value) : Once (mpPut l k x) := by
  induction l with
  | nil => simp [mpPut]
  | cons e l ih =>
    obtain ⟨a, v⟩ := e
    obtain ⟨h1, h2⟩ := List.pairwise_cons.1 h
    unfold mpPut
    split
    · rename_i e; subst e; exact List.pairwise_cons.2 ⟨h1, h2⟩
    · rename_i hne
      refine List.pairwise_cons.2 ⟨fun b hb => ?_, ih h2⟩
      rcases put_mem hb with hb | ⟨f, hf, e⟩
      · intro e; exact hne (by rw [← hb, ← e])
      · rw [← e]; exact h1 f hf
theorem del_mem {l : Mp1} {k : ByteArray} {e : ByteArray × Value} (h : e ∈ mpDel l k) : e ∈ l := by
  induction l with
  | nil => simp [mpDel] at h
  | cons a l ih =>
    obtain ⟨a, v⟩ := a
    unfold mpDel at h
    split at h
    · exact List.mem_cons_of_mem _ h
    · rcases List.mem_cons.1 h with h | h
      · subst h; exact List.mem_cons_self ..
      · exact List.mem_cons_of_mem _ (ih h)
theorem del_once {l : Mp1} (h : Once l) (k : ByteArray) : Once (mpDel l k) := by
  induction l with
  | nil => simp [mpDel]
  | cons e l ih =>
    obtain ⟨a, v⟩ := e
    obtain ⟨h1, h2⟩ := List.pairwise_cons.1 h
    unfold mpDel
    split
    · exact h2
    · exact List.pairwise_cons.2 ⟨fun b hb => h1 b (del_mem hb), ih h2⟩
theorem find_del {l : Mp1} (h : Once l) (k g : ByteArray) : mpFind (mpDel l k) g = if g = k then none else mpFind l g := by
  induction l with
  | nil => simp [mpDel, mpFind]
  | cons e l ih =>
    obtain ⟨a, v⟩ := e
    obtain ⟨h1, h2⟩ := List.pairwise_cons.1 h
    unfold mpDel
    by_cases hk : k = a
    · subst hk
      rw [if_pos rfl]
      by_cases hg : g = k
      · subst hg; rw [if_pos rfl]; exact find_none.2 fun e he => fun e2 => h1 e he e2.symm
      · simp [mpFind, hg]
    · rw [if_neg hk]
      simp only [mpFind, ih h2]
      by_cases hg : g = a
      · subst hg; simp; intro e; exact absurd e.symm hk
      · simp [hg]
theorem dl_len {l : Mp1} (k : ByteArray) : (mpDel l k).length = if (mpFind l k).isSome = true then l.length - 1 else l.length := by
  induction l with
  | nil => rfl
  | cons e l ih =>
    obtain ⟨a, v⟩ := e
    unfold mpDel mpFind
    by_cases h : k = a
    · simp [h]
    · rw [if_neg h, if_neg h]
      simp only [List.length_cons, ih]
      cases hs : mpFind l k with
      | none => simp
      | some x =>
        cases l with
        | nil => cases hs
        | cons => simp
/-- What is told by a row of pairs. -/
def encP (m : List Pr) : Mp1 := m.map fun p => (p.1, Value.string p.2)
def encI (m : List ByteArray) : Mp1 := m.map fun p => (p, Value.bool true)
/-- The same is found in both. -/
structure Same (a b : Mp1) : Prop where
  len : a.length = b.length
  find : ∀ g, mpFind a g = mpFind b g
  once : Once a
theorem Same.put {a b b' : Mp1} (h : Same a b) {k : ByteArray} {x : Value} (h1 : b'.length = if (mpFind b k).isSome = true then b.length else b.length + 1) (h2 : ∀ g, mpFind b' g = if g = k then some x else mpFind b g) : Same (mpPut a k x) b' :=
  ⟨by rw [put_len, h1, h.find, h.len], fun g => by rw [find_put, h2, h.find], put_once h.once _ _⟩
theorem Same.del {a b b' : Mp1} (h : Same a b) {k : ByteArray} (h1 : b'.length = if (mpFind b k).isSome = true then b.length - 1 else b.length) (h2 : ∀ g, mpFind b' g = if g = k then none else mpFind b g) : Same (mpDel a k) b' :=
  ⟨by rw [dl_len, h1, h.find, h.len], fun g => by rw [find_del h.once, h2, h.find], del_once h.once _⟩
/-! ### places -/
theorem split_at {α : Type} {l : List α} {i : Nat} {x : α} (h : l[i]? = some x) : l = l.take i ++ x :: l.drop (i + 1) := by
  have hl := (List.getElem?_eq_some_iff.1 h).1
  have hx := (List.getElem?_eq_some_iff.1 h).2
  rw [← hx, ← List.drop_eq_getElem_cons hl, List.take_append_drop]
theorem once_split {a b : Mp1} {k : ByteArray} {v : Value} (h : Once (a ++ (k, v) :: b)) : mpFind a k = none ∧ mpFind b k = none := by
  obtain ⟨h1, h2, h3⟩ := List.pairwise_append.1 h
  exact ⟨find_none.2 fun e he => h3 e he _ (List.mem_cons_self ..), find_none.2 fun e he => fun e2 => (List.pairwise_cons.1 h2).1 e he e2.symm⟩
theorem find_ins (l : Mp1) (i : Nat) (k : ByteArray) (v : Value) (hk : mpFind l k = none) (g : ByteArray) : mpFind (insAt l i (k, v)) g = if g = k then some v else mpFind l g := by
  have hl : mpFind (l.take i ++ l.drop i) k = none := by rw [List.take_append_drop]; exact hk
  rw [find_append] at hl
  have hg : mpFind l g = (mpFind (l.take i) g).or (mpFind (l.drop i) g) := by rw [← find_append, List.take_append_drop]
  unfold insAt
  rw [find_append]
  simp only [mpFind]
  by_cases h : g = k
  · subst h
    have : mpFind (l.take i) g = none := by
      cases h2 : mpFind (l.take i) g with
      | none => rfl
      | some x => rw [h2] at hl; simp at hl
    simp [this]
  · rw [if_neg h, if_neg h, hg]
theorem find_delAt (l : Mp1) (ho : Once l) (i : Nat) (k : ByteArray) (v : Value) (hi : l[i]? = some (k, v)) (g : ByteArray) : mpFind (delAt l i) g = if g = k then none else mpFind l g := by
  have hs := split_at hi
  have ho' := ho
  rw [hs] at ho'
  obtain ⟨h1, h2⟩ := once_split ho'
  have hg : mpFind l g = (mpFind (l.take i) g).or (mpFind ((k, v) :: l.drop (i + 1)) g) := by rw [← find_append, ← hs]
  unfold delAt
  rw [find_append, hg]
  simp only [mpFind]
  by_cases h : g = k
  · subst h; simp [h1, h2]
  · simp [h]
theorem find_at {l : Mp1} (ho : Once l) {i : Nat} {k : ByteArray} {v : Value} (hi : l[i]? = some (k, v)) : mpFind l k = some v := by
  have hs := split_at hi
  have ho' := ho
  rw [hs] at ho'
  obtain ⟨h1, h2⟩ := once_split ho'
  rw [hs, find_append, h1]
  simp [mpFind]
theorem find_set (l : Mp1) (ho : Once l) (i : Nat) (k : ByteArray) (v v' : Value) (hi : l[i]? = some (k, v)) (g : ByteArray) : mpFind (l.set i (k, v')) g = if g = k then some v' else mpFind l g := by
  have hs := split_at hi
  have hlt := (List.getElem?_eq_some_iff.1 hi).1
  have ho' := ho
  rw [hs] at ho'
  obtain ⟨h1, h2⟩ := once_split ho'
  have hg : mpFind l g = (mpFind (l.take i) g).or (mpFind ((k, v) :: l.drop (i + 1)) g) := by rw [← find_append, ← hs]
  rw [List.set_eq_take_append_cons_drop, if_pos hlt, find_append, hg]
  simp only [mpFind]
  by_cases h : g = k
  · subst h; simp [h1]
  · simp [h]
theorem cmp_ne {a b : ByteArray} (h : cmpB a b < 0) : a ≠ b := fun e => by
  subst e
  rw [cmpB_self] at h
  omega
theorem encP_once {m : List Pr} (h : m.Pairwise (fun a b => bF a b < 0)) : Once (encP m) :=
  List.pairwise_map.2 (h.imp fun h => cmp_ne h)
theorem encI_once {m : List ByteArray} (h : m.Pairwise (fun a b => cmpB a b < 0)) : Once (encI m) :=
  List.pairwise_map.2 (h.imp fun h => cmp_ne h)
theorem encP_len (m : List Pr) : (encP m).length = m.length := List.length_map ..
theorem encI_len (m : List ByteArray) : (encI m).length = m.length := List.length_map ..
theorem hash_in {m : List Pr} (hp : m.Pairwise (fun a b => bF a b < 0)) (f : ByteArray) : hashIn m f = (mpFind (encP m) f).isSome := by
  cases h : hashIn m f with
  | true =>
    obtain ⟨⟨a, t⟩, h1, h2⟩ := hashIn_some h
    simp only at h2
    subst h2
    rw [find_at (i := hashAt m a) (v := .string t) (encP_once hp) (by unfold encP; rw [List.getElem?_map, h1]; rfl)]
    rfl
  | false =>
    have h1 := hash_drop hp h
    have h2 := fun a ha => take_lt (fun p : Pr => decide (cmpB p.1 f < 0)) m a ha
    have : mpFind (encP m) f = none := find_none.2 fun e he => by
      obtain ⟨p, hp1, rfl⟩ := List.mem_map.1 he
      show p.1 ≠ f
      have hm : p ∈ m.take (hashAt m f) ++ m.drop (hashAt m f) := by rw [List.take_append_drop]; exact hp1
      rcases List.mem_append.1 hm with hm | hm
      · exact cmp_ne (by simpa using h2 p hm)
      · exact fun e => cmp_ne (h1 p hm) e.symm
    rw [this]; rfl
theorem set_in {m : List ByteArray} (hp : m.Pairwise (fun a b => cmpB a b < 0)) (f : ByteArray) : setIn m f = (mpFind (encI m) f).isSome := by
  cases h : setIn m f with
  | true =>
    rw [find_at (i := setAt m f) (v := .bool true) (encI_once hp) (by unfold encI; rw [List.getElem?_map, setIn_some h]; rfl)]
    rfl
  | false =>
    have h1 := set_drop hp h
    have h2 := fun a ha => take_lt (fun a => lessB a f) m a ha
    have : mpFind (encI m) f = none := find_none.2 fun e he => by
      obtain ⟨p, hp1, rfl⟩ := List.mem_map.1 he
      show p ≠ f
      have hm : p ∈ m.take (setAt m f) ++ m.drop (setAt m f) := by rw [List.take_append_drop]; exact hp1
      rcases List.mem_append.1 hm with hm | hm
      · have := h2 p hm
        rw [lessB_eq] at this
        exact cmp_ne (by simpa using this)
      · exact fun e => cmp_ne (h1 p hm) e.symm
    rw [this]; rfl
theorem delAt_len {α : Type} {l : List α} {i : Nat} (h : i < l.length) : (delAt l i).length = l.length - 1 := by
  unfold delAt
  simp only [List.length_append, List.length_take, List.length_drop]; omega
/-- A hash of few fields, or nothing. -/
structure HashI (v : Val) : Prop where
  ok : v = zeroV ∨ OkV v ∧ v.kind = 3
  few : ∀ p ∈ v.pairs, p.1 ∈ nine
theorem HashI.vk {v : Val} (h : HashI v) : Vk v := by
  rcases h.ok with h | h
  · exact .inr h
  · exact .inl h.1
theorem HashI.rise {v : Val} (h : HashI v) : v.pairs.Pairwise (fun a b => bF a b < 0) := by
  rcases h.ok with h | h
  · rw [h]; exact .nil
  · exact h.1.riseP
theorem HashI.len {v : Val} (h : HashI v) : v.pairs.length ≤ 9 := by
  have := nodup_le (v.pairs.map (·.1)) nine (List.pairwise_map.2 (h.rise.imp fun h => cmp_ne h)) fun x hx => by
    obtain ⟨p, hp, rfl⟩ := List.mem_map.1 hx
    exact h.few p hp
  rw [List.length_map] at this
  exact this
/-- What a command makes of a hash. -/
theorem hash_do {v : Val} {c : Cmd} (h : HashI v) (hc : checkC c = 0) (hk : c.kind = 4 ∨ c.kind = 5 ∨ c.kind = 6) (hf : c.field ∈ nine) {x : Option Value} (hx : mpFind (encP v.pairs) c.field = x) :
    ∃ w r, DoV v c = (w, r, 0) ∧ HashI w ∧ Vk w ∧
      (c.kind = 4 → r.code = 0 ∧ (r.n == 1) = !x.isSome ∧ (encP w.pairs).length = (if x.isSome = true then (encP v.pairs).length else (encP v.pairs).length + 1) ∧ ∀ g, mpFind (encP w.pairs) g = if g = c.field then some (.string c.text) else mpFind (encP v.pairs) g) ∧
      (c.kind ≠ 4 → v.pairs.length = 0 → r.code = 5 ∧ w = v) ∧
      (c.kind = 5 → 0 < v.pairs.length → w = v ∧ (r.code == 0) = x.isSome ∧ ∀ t, x = some (.string t) → r.text = t) ∧
      (c.kind = 6 → 0 < v.pairs.length → r.code = 0 ∧ (r.n == 1) = x.isSome ∧ (encP w.pairs).length = (if x.isSome = true then (encP v.pairs).length - 1 else (encP v.pairs).length) ∧ ∀ g, mpFind (encP w.pairs) g = if g = c.field then none else mpFind (encP v.pairs) g) := by
  have hlen := h.len
  have hrise := h.rise
  have honce := encP_once hrise
  have hin := hash_in hrise c.field
  rw [hx] at hin
  have hvk := DoV_vk h.vk hc (by omega)
  have hkc : kindOfC c.kind = 3 := by unfold kindOfC; rcases hk with e | e | e <;> rw [e] <;> rfl
  -- what stands in the value behind the command
  have key : ∀ u : Val, u.kind = 3 → u.pairs = v.pairs → doV u c = ({ u with pairs := (hashV v.pairs c).1 }, (hashV v.pairs c).2) := by
    intro u h3 hp
    unfold doV
    rw [if_neg (by omega), if_neg (by omega), if_neg (by omega), if_neg (by omega), if_neg (by omega), if_pos h3, hp]
  have hmem : ∀ p ∈ (hashV v.pairs c).1, p.1 ∈ nine := by
    intro p hp
    unfold hashV at hp
    simp only at hp
    have hv := h.few
    repeat' split at hp
    · rcases List.mem_or_eq_of_mem_set hp with hp | hp
      · exact hv p hp
      · rename_i h1 h2 _
        obtain ⟨a, h3, h4⟩ := hashIn_some h2
        rw [hp, h3]
        simp only [Option.getD_some]
        rw [h4]; exact hf
    · exact hv p hp
    · rcases mem_ins hp with hp | hp
      · rw [hp]; exact hf
      · exact hv p hp
    · exact hv p hp
    · exact hv p hp
    · exact hv p (mem_del hp)
    · exact hv p hp
  have hcase : v = zeroV ∧ c.kind ≠ 4 ∨ ∃ u : Val, u.kind = 3 ∧ u.pairs = v.pairs ∧ u.items = [] ∧ u.scores = [] ∧ (0 < v.pairs.length → u = v) ∧ (c.kind = 4 ∨ 0 < v.pairs.length) ∧ DoV v c = DoEnd v (doV u c) := by
    rcases h.ok with hz | ⟨ok, h3⟩
    · by_cases h4 : c.kind = 4
      · refine .inr ⟨⟨3, ⟨#[]⟩, 0, [], [], []⟩, rfl, by rw [hz]; rfl, rfl, rfl, fun h => by rw [hz] at h; exact absurd h (by decide), .inl h4, ?_⟩
        rw [hz, DoV_zero hc (by omega), if_pos (by unfold makesC; rw [h4]; rfl), hkc]
      · exact .inl ⟨hz, h4⟩
    · refine .inr ⟨v, h3, rfl, (ok.items.resolve_left (by omega)).resolve_left (by omega), ok.scores.resolve_left (by omega), fun _ => rfl, .inr ?_, ?_⟩
      · have := (ok.els (by omega)).1
        unfold Val.els at this
        rw [(ok.items.resolve_left (by omega)).resolve_left (by omega), ok.scores.resolve_left (by omega)] at this
        simp at this; omega
      exact DoV_go (checkV_iff.2 ok) hc (by omega) (by
        rintro (hh | hh)
        · exact hh.2 (by rw [hkc, h3])
        · omega)
  rcases hcase with ⟨hz, h4⟩ | ⟨u, u1, u2, u3, u4, u5, u6, e⟩
  · have e : DoV v c = (zeroV, failR 5, 0) := by
      rw [hz, DoV_zero hc (by omega), if_neg (by unfold makesC; rcases hk with e | e | e <;> rw [e] at h4 ⊢ <;> simp at h4 ⊢)]
    refine ⟨zeroV, failR 5, e, ⟨.inl rfl, fun p hp => by cases hp⟩, .inr rfl, fun h => absurd h h4, fun _ _ => ⟨rfl, hz.symm⟩, fun _ h => ?_, fun _ h => ?_⟩
    · rw [hz] at h; exact absurd h (by decide)
    · rw [hz] at h; exact absurd h (by decide)
  · rw [key u u1 u2] at e
    obtain ⟨P, hP⟩ : ∃ P, (hashV v.pairs c).1 = P := ⟨_, rfl⟩
    obtain ⟨R, hR⟩ : ∃ R, (hashV v.pairs c).2 = R := ⟨_, rfl⟩
    rw [hP, hR] at e
    rw [hP] at hmem
    have hI : ∀ w, Vk w → (w.kind ≠ 0 → w.kind = 3) → (∀ p ∈ w.pairs, p.1 ∈ nine) → HashI w := by
      intro w h1 h2 h3
      refine ⟨?_, h3⟩
      rcases h1 with h1 | h1
      · exact .inr ⟨h1, h2 (by have := h1.kind; omega)⟩
      · exact .inl h1
    have hvI : HashI v := h
    -- the ends
    have hend : DoV v c = (v, R, 0) ∧ R.code ≠ 0 ∨ ∃ w, DoV v c = (w, R, 0) ∧ R.code = 0 ∧ HashI w ∧ Vk w ∧ w.pairs = P := by
      by_cases h0 : R.code = 0
      · refine .inr ?_
        by_cases hl : P.length = 0
        · have hP0 : P = [] := List.eq_nil_of_length_eq_zero hl
          refine ⟨zeroV, ?_, h0, ⟨.inl rfl, fun p hp => by cases hp⟩, .inr rfl, hP0.symm⟩
          rw [e]
          exact DoEnd_none h0 (by show 3 ≤ u.kind; omega) (by unfold Val.els; simp only; rw [hl, u3, u4]; rfl)
        · have e' : DoV v c = ({ u with pairs := P }, R, 0) := by
            rw [e]
            refine DoEnd_some h0 fun hh => ?_
            have := hh.2
            unfold Val.els at this
            simp only at this
            omega
          rw [e'] at hvk
          exact ⟨_, e', h0, hI _ hvk.2 (fun _ => u1) hmem, hvk.2, rfl⟩
      · exact .inl ⟨by rw [e]; exact DoEnd_fail h0, h0⟩
    have hR' := hR
    have hP' := hP
    unfold hashV at hR' hP'
    simp only [hin] at hR' hP'
    rcases hk with k4 | k5 | k6
    · rw [if_pos k4] at hR' hP'
      cases hs : x.isSome with
      | true =>
        rw [hs, if_pos rfl] at hR' hP'
        rw [hs] at hin
        obtain ⟨a, h3, h4⟩ := hashIn_some hin
        rw [h3, Option.getD_some, h4] at hP'
        rcases hend with ⟨_, h0⟩ | ⟨w, e1, h0, hw, hwk, hwp⟩
        · rw [← hR'] at h0; exact absurd rfl h0
        · refine ⟨w, R, e1, hw, hwk, fun _ => ⟨h0, by rw [← hR']; rfl, ?_, ?_⟩, fun h => absurd k4 h, fun h => by omega, fun h => by omega⟩
          · rw [if_pos rfl, encP_len, encP_len, hwp, ← hP', List.length_set]
          · intro g
            rw [hwp, ← hP']
            have := find_set (encP v.pairs) honce (hashAt v.pairs c.field) c.field (.string a.2) (.string c.text) (by unfold encP; rw [List.getElem?_map, h3]; rw [← h4]; rfl) g
            rw [← this]
            unfold encP
            rw [List.map_set]
      | false =>
        rw [hs] at hR' hP'
        simp only [Bool.false_eq_true, if_false] at hR' hP'
        rw [if_neg (by omega)] at hR' hP'
        have hxn : mpFind (encP v.pairs) c.field = none := by rw [hx]; cases x with | none => rfl | some => cases hs
        rcases hend with ⟨_, h0⟩ | ⟨w, e1, h0, hw, hwk, hwp⟩
        · rw [← hR'] at h0; exact absurd rfl h0
        · refine ⟨w, R, e1, hw, hwk, fun _ => ⟨h0, by rw [← hR']; rfl, ?_, ?_⟩, fun h => absurd k4 h, fun h => by omega, fun h => by omega⟩
          · rw [if_neg (by simp), encP_len, encP_len, hwp, ← hP', insAt_length]
          · intro g
            rw [hwp, ← hP', ← find_ins (encP v.pairs) (hashAt v.pairs c.field) c.field (.string c.text) hxn g]
            unfold encP
            rw [← map_ins (fun p : Pr => (p.1, Value.string p.2))]
    · rw [if_neg (by omega), if_pos k5] at hR' hP'
      have hPv : P = v.pairs := by rw [← hP']; split <;> rfl
      cases hs : x.isSome with
      | true =>
        rw [hs, if_pos rfl] at hR' hP'
        rw [hs] at hin
        obtain ⟨a, h3, h4⟩ := hashIn_some hin
        have hpos : 0 < v.pairs.length := by have := lt_of_getElem? h3; omega
        rw [h3, Option.getD_some] at hR'
        have hxa : x = some (.string a.2) := by rw [← hx]; exact find_at honce (i := hashAt v.pairs c.field) (by unfold encP; rw [List.getElem?_map, h3]; rw [← h4]; rfl)
        have hu := u5 hpos
        have e1 : DoV v c = (v, R, 0) := by
          rw [e, hPv, hu]
          have hels : ¬ (3 ≤ v.kind ∧ v.els = 0) := fun hh => by have := hh.2; unfold Val.els at this; omega
          exact DoEnd_some (by rw [← hR']; rfl) hels
        exact ⟨v, R, e1, h, h.vk, fun h => by omega, fun _ h => by omega, fun _ _ => ⟨rfl, by rw [← hR']; rfl, fun t ht => by rw [hxa] at ht; rw [← hR']; simpa [textR] using ht⟩, fun h => by omega⟩
      | false =>
        rw [hs] at hR' hP'
        simp only [Bool.false_eq_true, if_false] at hR' hP'
        rcases hend with ⟨e1, h0⟩ | ⟨w, e1, h0, hw, hwk, hwp⟩
        · exact ⟨v, R, e1, h, h.vk, fun h => by omega, fun _ _ => ⟨by rw [← hR']; rfl, rfl⟩, fun _ _ => ⟨rfl, by rw [← hR']; rfl, fun t ht => by rw [ht] at hs; cases hs⟩, fun h => by omega⟩
        · rw [← hR'] at h0; exact absurd h0 (by decide)
    · rw [if_neg (by omega), if_neg (by omega)] at hR' hP'
      have hz0 : 0 < v.pairs.length := u6.resolve_left (by omega)
      cases hs : x.isSome with
      | true =>
        rw [hs, if_pos rfl] at hR' hP'
        rw [hs] at hin
        obtain ⟨a, h3, h4⟩ := hashIn_some hin
        rcases hend with ⟨_, h0⟩ | ⟨w, e1, h0, hw, hwk, hwp⟩
        · rw [← hR'] at h0; exact absurd rfl h0
        · refine ⟨w, R, e1, hw, hwk, fun h => by omega, fun _ h => by omega, fun h => by omega, fun _ _ => ⟨h0, by rw [← hR']; rfl, ?_, ?_⟩⟩
          · rw [if_pos rfl, encP_len, encP_len, hwp, ← hP', delAt_len (lt_of_getElem? h3)]
          · intro g
            rw [hwp, ← hP', ← find_delAt (encP v.pairs) honce (hashAt v.pairs c.field) c.field (.string a.2) (by unfold encP; rw [List.getElem?_map, h3]; rw [← h4]; rfl) g]
            unfold encP
            rw [← map_del (fun p : Pr => (p.1, Value.string p.2))]
      | false =>
        rw [hs] at hR' hP'
        simp only [Bool.false_eq_true, if_false] at hR' hP'
        have hxn : mpFind (encP v.pairs) c.field = none := by rw [hx]; cases x with | none => rfl | some => cases hs
        rcases hend with ⟨_, h0⟩ | ⟨w, e1, h0, hw, hwk, hwp⟩
        · rw [← hR'] at h0; exact absurd rfl h0
        · refine ⟨w, R, e1, hw, hwk, fun h => by omega, fun _ h => by omega, fun h => by omega, fun _ _ => ⟨h0, by rw [← hR']; rfl, ?_, ?_⟩⟩
          · rw [if_neg (by simp), hwp, ← hP']
          · intro g
            rw [hwp, ← hP']
            split
            · rename_i hg; rw [hg, hxn]
            · rfl
end Go.Proofs.Ytcfpphadlgbfdaa
