/- The abstract evaluator, part 15: a state that says less than another one. -/
import Derived.Test.YtniihihcklpdgaaAeCode2
set_option linter.unusedVariables false
set_option linter.unusedSimpArgs false
namespace Go.Proofs.AE
open Go Go.RowKit

/-- What goes out of a function: its result, and the blocks that stay (the first k, and more). -/
def Out (k : Nat) (hp : Hp) (r0 : AV) (hp' : Hp) (r : AV) : Prop :=
  ∀ (w : World) (ok : Nat → Prop) (μ : List MB) (x : Value), HR w ok μ hp → AVRel w ok μ r0 x → ∃ ok' μ', Far k w ok μ hp w ok' μ' hp' ∧ AVRel w ok' μ' r x

section
variable {P : Program} {G : Nat → AV} {k n : Nat} {w w0 : World} {ok ok0 : Nat → Prop} {μ μ0 : List MB} {hp hp0 : Hp} {s : S} {a : Act}

/-! ### one state says less than another one -/
theorem Weak.refl (k : Nat) (s : S) : Weak k s s :=
  ⟨rfl, fun _ _ ok μ _ h => ⟨ok, μ, h, (Step.refl h.hr).far⟩⟩
theorem Weak.trans {k : Nat} {s s' s'' : S} (h : Weak k s s') (h' : Weak k s' s'') : Weak k s s'' :=
  ⟨h'.1.trans h.1, fun n w ok μ a hst => by
    obtain ⟨ok1, μ1, h1, f1⟩ := h.2 n w ok μ a hst
    obtain ⟨ok2, μ2, h2, f2⟩ := h'.2 n w ok1 μ1 a h1
    exact ⟨ok2, μ2, h2, f1.trans f2⟩⟩

/-- A cell under new numbers of blocks (ρ: the old number of each new one; F: the blocks that become plain data): what is kept of it. -/
def coeC (hp : Hp) (F ρ : List Nat) : C → C → Prop
  | .any, _ => True
  | .v d, .v d' => d = d'
  | .v (.sl rows), .full rows' => rows = rows'
  | .v (.sl rows), .nil => rows = []
  | .v (.sl rows), .ar i => i ∈ F ∧ ∃ e k, hp[i]? = some (some (.arr e k rows))
  | .ptr i off, .ptr j off' => ρ[i]? = some j ∧ off = off'
  | .eptr i r k off, .eptr j r' k' off' => ρ[i]? = some j ∧ r = r' ∧ k = k' ∧ off = off'
  | .ar i, .ar j => ρ[i]? = some j
  | .sub i k off len, .sub j k' off' len' => ρ[i]? = some j ∧ k = k' ∧ off = off' ∧ len = len'
  | .vptr cs, .vptr cs' => cs = cs'
  | .full rows, .full rows' => rows = rows'
  | .nil, .nil => True
  | _, _ => False

def coeCs (hp : Hp) (F ρ : List Nat) : List C → List C → Prop
  | [], [] => True
  | c :: cs, d :: ds => coeC hp F ρ c d ∧ coeCs hp F ρ cs ds
  | _, _ => False

mutual
def coeAV (hp : Hp) (F ρ : List Nat) : AV → AV → Prop
  | .any, _ => True
  | .one c, .one d => coeC hp F ρ c d
  | .agg cs, .agg ds => coeCs hp F ρ cs ds
  | .fn f a b, .fn g c d => f = g ∧ coeCs hp F ρ a c ∧ coeCs hp F ρ b d
  | .tup l, .tup l' => coeAVs hp F ρ l l'
  | _, _ => False
def coeAVs (hp : Hp) (F ρ : List Nat) : List AV → List AV → Prop
  | [], [] => True
  | v :: l, u :: l' => coeAV hp F ρ v u ∧ coeAVs hp F ρ l l'
  | _, _ => False
end

def coeB (hp : Hp) (F ρ : List Nat) : Blk → Blk → Prop
  | .box t cs, .box t' ds => t = t' ∧ coeCs hp F ρ cs ds
  | .arr e k rows, .arr e' k' rows' => e = e' ∧ k = k' ∧ rows = rows'
  | .arj e k n rows, .arj e' k' n' rows' => e = e' ∧ k = k' ∧ n = n' ∧ rows = rows'
  | _, _ => False

def coeF (hp : Hp) (F ρ : List Nat) (fr : List (Nat × AV)) : List (Nat × AV) → Prop
  | [] => True
  | (t, v) :: r => coeAV hp F ρ v (getF fr t) ∧ coeF hp F ρ fr r

def coeH (hp : Hp) (F ρ : List Nat) : Nat → Hp → Prop
  | _, [] => True
  | i, none :: r => coeH hp F ρ (i + 1) r
  | i, some b :: r => (∃ j b', ρ[i]? = some j ∧ hp[j]? = some (some b') ∧ coeB hp F ρ b b') ∧ coeH hp F ρ (i + 1) r

/-- The conditions of a change of view. -/
structure View (w : World) (ok : Nat → Prop) (μ : List MB) (hp : Hp) (F ρ : List Nat) (ok' : Nat → Prop) (μ' : List MB) : Prop where
  hr : HR w ok μ hp
  hμ : ∀ (i j : Nat) m, ρ[i]? = some j → μ[j]? = some m → μ'[i]? = some m
  oks : ∀ b, ok b → ok' b
  okF : ∀ (i : Nat) m b, i ∈ F → (∃ blk, hp[i]? = some (some blk)) → μ[i]? = some m → m.own = some b → ok' b

theorem coeC_rel {hp : Hp} {F ρ : List Nat} {ok' : Nat → Prop} {μ' : List MB} (hv : View w ok μ hp F ρ ok' μ') {c d : C} {x : Value} (h : coeC hp F ρ c d) (hd : CRel w ok μ d x) : CRel w ok' μ' c x := by
  unfold coeC at h
  split at h
  · exact .any hd.oneCell
  · subst h; cases hd with | v hd => exact .v (hd.mono (fun _ _ => rfl) hv.oks)
  · subst h; cases hd with | full hd => exact .v (hd.mono (fun _ _ => rfl) hv.oks)
  · subst h; cases hd with | nil => exact .v .nil
  · obtain ⟨hF, e, kk, hb⟩ := h
    cases hd with | ar hμ h1 =>
    obtain ⟨m, hm, hbr⟩ := hv.hr.rel _ _ hb
    rw [hμ] at hm; cases hm
    exact .v (vrel_of_arr hbr hv.oks fun b hb' => hv.okF _ _ b hF ⟨_, hb⟩ hμ hb')
  · obtain ⟨h1, rfl⟩ := h; cases hd with | ptr _ hd => exact .ptr _ (hv.hμ _ _ _ h1 hd)
  · obtain ⟨h1, rfl, rfl, rfl⟩ := h; cases hd with | eptr _ _ _ hd => exact .eptr _ _ _ (hv.hμ _ _ _ h1 hd)
  · cases hd with | ar hd h1 => exact .ar (hv.hμ _ _ _ h hd) h1
  · obtain ⟨h1, rfl, rfl, rfl⟩ := h; cases hd with | sub _ _ _ hd hs => exact .sub _ _ _ (hv.hμ _ _ _ h1 hd) hs
  · subst h; exact ((hd.mono (fun _ _ => rfl) hv.oks : CRel w ok' μ (.vptr _) x) |> fun h => by cases h with | vptr b off cv a b c => exact .vptr _ _ _ a b c)
  · subst h; cases hd with | full hd => exact .full (hd.mono (fun _ _ => rfl) hv.oks)
  · cases hd with | nil => exact .nil
  · exact h.elim

theorem coeCs_rel {hp : Hp} {F ρ : List Nat} {ok' : Nat → Prop} {μ' : List MB} (hv : View w ok μ hp F ρ ok' μ') : ∀ {cs ds : List C} {xs : List Value}, coeCs hp F ρ cs ds → All2 (CRel w ok μ) ds xs → All2 (CRel w ok' μ') cs xs
  | [], [], _, _, .nil => .nil
  | _ :: _, _ :: _, _, h, .cons hc hd => .cons (coeC_rel hv h.1 hc) (coeCs_rel hv h.2 hd)
  | [], _ :: _, _, h, _ => h.elim
  | _ :: _, [], _, h, _ => h.elim

mutual
theorem coeAV_rel {hp : Hp} {F ρ : List Nat} {ok' : Nat → Prop} {μ' : List MB} (hv : View w ok μ hp F ρ ok' μ') : ∀ {v u : AV} {x : Value}, coeAV hp F ρ v u → AVRel w ok μ u x → AVRel w ok' μ' v x
  | .any, _, _, _, _ => .any
  | .one _, .one _, _, h, .one hd => .one (coeC_rel hv h hd)
  | .agg _, .agg _, _, h, .agg hd => .agg (coeCs_rel hv h hd)
  | .fn _ _ _, .fn _ _ _, _, h, .fn a b => by obtain ⟨rfl, h1, h2⟩ := h; exact .fn (coeCs_rel hv h1 a) (coeCs_rel hv h2 b)
  | .tup _, .tup _, _, h, .tup hd => .tup (coeAVs_rel hv h hd)
  | .one _, .agg _, _, h, _ | .one _, .tup _, _, h, _ | .one _, .fn _ _ _, _, h, _ | .one _, .any, _, h, _ => h.elim
  | .agg _, .one _, _, h, _ | .agg _, .tup _, _, h, _ | .agg _, .fn _ _ _, _, h, _ | .agg _, .any, _, h, _ => h.elim
  | .tup _, .one _, _, h, _ | .tup _, .agg _, _, h, _ | .tup _, .fn _ _ _, _, h, _ | .tup _, .any, _, h, _ => h.elim
  | .fn _ _ _, .one _, _, h, _ | .fn _ _ _, .agg _, _, h, _ | .fn _ _ _, .tup _, _, h, _ | .fn _ _ _, .any, _, h, _ => h.elim
theorem coeAVs_rel {hp : Hp} {F ρ : List Nat} {ok' : Nat → Prop} {μ' : List MB} (hv : View w ok μ hp F ρ ok' μ') : ∀ {l l' : List AV} {xs : List Value}, coeAVs hp F ρ l l' → AVRels w ok μ l' xs → AVRels w ok' μ' l xs
  | [], [], _, _, .nil => .nil
  | _ :: _, _ :: _, _, h, .cons hc hd => .cons (coeAV_rel hv h.1 hc) (coeAVs_rel hv h.2 hd)
  | [], _ :: _, _, h, _ => h.elim
  | _ :: _, [], _, h, _ => h.elim
end

theorem coeB_rel {hp : Hp} {F ρ : List Nat} {ok' : Nat → Prop} {μ' : List MB} (hv : View w ok μ hp F ρ ok' μ') {b b' : Blk} {m : MB} (h : coeB hp F ρ b b') (hd : BRel w ok μ b' m) : BRel w ok' μ' b m := by
  unfold coeB at h
  split at h
  · obtain ⟨rfl, h1⟩ := h
    cases m with
    | box q => obtain ⟨xs, g1, g2⟩ := hd; exact ⟨xs, g1, coeCs_rel hv h1 g2⟩
    | arr => exact hd.elim
  · obtain ⟨rfl, rfl, rfl⟩ := h
    cases m with
    | box q => exact hd.elim
    | arr x => obtain ⟨xs, g1, g2, g3⟩ := hd; exact ⟨xs, g1, g2.mono fun _ _ h => h.mono (fun _ _ => rfl) hv.oks, g3⟩
  · obtain ⟨rfl, rfl, rfl, rfl⟩ := h
    exact BRel.mono (fun _ _ => rfl) hv.oks (fun _ _ h => h) hd (fun _ _ => rfl) |> fun h => by
      cases m with
      | box => exact h.elim
      | arr x => exact h
  · exact h.elim

theorem coeF_get {hp : Hp} {F ρ : List Nat} {fr' : List (Nat × AV)} : ∀ {fr : List (Nat × AV)}, coeF hp F ρ fr' fr → ∀ t, coeAV hp F ρ (getF fr t) (getF fr' t)
  | [], _, t => by simp [getF, coeAV]
  | (u, v) :: r, h, t => by
    simp only [getF]
    by_cases hu : u = t
    · subst hu; rw [if_pos rfl]; exact h.1
    · rw [if_neg hu]; exact coeF_get h.2 t

theorem coeH_get {hp0 : Hp} {F ρ : List Nat} : ∀ {hp : Hp} {i : Nat}, coeH hp0 F ρ i hp → ∀ (q : Nat) b, hp[q]? = some (some b) → ∃ j b', ρ[i + q]? = some j ∧ hp0[j]? = some (some b') ∧ coeB hp0 F ρ b b'
  | [], _, _, q, b, h => by simp at h
  | none :: r, i, h, q, b, hq => by
    cases q with
    | zero => simp at hq
    | succ q =>
      have := coeH_get (i := i + 1) (hp := r) h q b (by simpa using hq)
      rwa [show i + 1 + q = i + (q + 1) by omega] at this
  | some c :: r, i, h, q, b, hq => by
    cases q with
    | zero => simp at hq; subst hq; exact h.1
    | succ q =>
      have := coeH_get (i := i + 1) (hp := r) h.2 q b (by simpa using hq)
      rwa [show i + 1 + q = i + (q + 1) by omega] at this

theorem getElem?_nodup {l : List Nat} (h : l.Nodup) {i j a : Nat} (hi : l[i]? = some a) (hj : l[j]? = some a) : i = j := by
  have h1 := lt_of_getElem? hi
  have h2 := lt_of_getElem? hj
  rw [List.getElem?_eq_getElem h1] at hi
  rw [List.getElem?_eq_getElem h2] at hj
  exact (List.getElem_inj h).1 (by rw [Option.some.inj hi, Option.some.inj hj])

/-- A new list of blocks out of the elder one: under other numbers; some become plain data, some are forgotten. The first k keep their numbers. -/
theorem view_far {k : Nat} {hp hp' : Hp} {F ρ : List Nat} (hr : HR w ok μ hp) (hlen : ρ.length = hp'.length) (hnd : ρ.Nodup) (hFρ : ∀ i, i ∈ F → i ∉ ρ) (hk : ∀ i, i < k → i < hp.length → ρ[i]? = some i) (hh : coeH hp F ρ 0 hp') :
    ∃ ok' μ', View w ok μ hp F ρ ok' μ' ∧ Far k w ok μ hp w ok' μ' hp' := by
  have hμ : ∀ (i j : Nat) m, ρ[i]? = some j → μ[j]? = some m → (ρ.map fun j => μ.getD j (.box 0))[i]? = some m := by
    intro i j m h1 h2
    rw [List.getElem?_map, h1]
    simp [List.getD, h2]
  -- what becomes plain data
  let okF : Nat → Prop := fun b => ∃ (i : Nat) (blk : Blk) (m : MB), i ∈ F ∧ hp[i]? = some (some blk) ∧ μ[i]? = some m ∧ m.own = some b
  have hinv : ∀ (i : Nat) b, hp'[i]? = some (some b) → ∃ j b', ρ[i]? = some j ∧ hp[j]? = some (some b') ∧ coeB hp F ρ b b' := by
    intro i b h; have := coeH_get hh i b h; rwa [Nat.zero_add] at this
  have hm : ∀ (i j : Nat) m, ρ[i]? = some j → (∃ b, hp[j]? = some (some b)) → (ρ.map fun j => μ.getD j (.box 0))[i]? = some m → μ[j]? = some m := by
    intro i j m h1 ⟨b, hb⟩ h2
    obtain ⟨q, hq, _⟩ := hr.rel j b hb
    rw [List.getElem?_map, h1] at h2
    simp [List.getD, hq] at h2
    rw [hq, h2]
  have hown : ∀ b, OwnL hp' (ρ.map fun j => μ.getD j (.box 0)) b → ∃ (j : Nat) (blk : Blk) (m : MB), j ∈ ρ ∧ hp[j]? = some (some blk) ∧ μ[j]? = some m ∧ m.own = some b := by
    rintro b ⟨i, blk, m, h1, h2, h3⟩
    obtain ⟨j, b', g1, g2, g3⟩ := hinv i blk h1
    exact ⟨j, b', m, List.mem_of_getElem? g1, g2, hm i j m g1 ⟨b', g2⟩ h2, h3⟩
  have hownL : ∀ b, OwnL hp' (ρ.map fun j => μ.getD j (.box 0)) b → OwnL hp μ b := fun b h => let ⟨j, blk, m, _, h2, h3, h4⟩ := hown b h; ⟨j, blk, m, h2, h3, h4⟩
  have hv : View w ok μ hp F ρ (fun b => ok b ∨ okF b) (ρ.map fun j => μ.getD j (.box 0)) := ⟨hr, hμ, fun b h => .inl h, fun i m b h1 ⟨blk, h2⟩ h3 h4 => .inr ⟨i, blk, m, h1, h2, h3, h4⟩⟩
  refine ⟨_, _, hv, ⟨⟨by simp [hlen], ?_, ?_, ?_⟩, rfl, rfl, rfl, Nat.le_refl _, fun _ _ _ => rfl, fun _ h => .inl h, ?_, fun b h => .inr (hownL b h), ?_⟩⟩
  · intro i b hb
    obtain ⟨j, b', g1, g2, g3⟩ := hinv i b hb
    obtain ⟨m, q1, q2⟩ := hr.rel j b' g2
    exact ⟨m, hμ i j m g1 q1, coeB_rel hv g3 q2⟩
  · intro i j b c m q kk hij hb hc hm1 hm2 ho
    obtain ⟨i', b', g1, g2, _⟩ := hinv i b hb
    obtain ⟨j', c', e1, e2, _⟩ := hinv j c hc
    have hne : i' ≠ j' := fun e => hij (getElem?_nodup hnd g1 (e ▸ e1))
    exact hr.inj i' j' b' c' m q kk hne g2 e2 (hm i i' m g1 ⟨b', g2⟩ hm1) (hm j j' q e1 ⟨c', e2⟩ hm2) ho
  · rintro kk (hkk | ⟨i, blk, m, h1, h2, h3, h4⟩)
    · refine ⟨(hr.keep hkk).1, fun i b m h1 h2 h3 => (hr.keep hkk).2 (hownL kk ⟨i, b, m, h1, h2, h3⟩)⟩
    · refine ⟨hr.own_lt ⟨i, blk, m, h2, h3, h4⟩, fun i' b' m' g1 g2 g3 => ?_⟩
      obtain ⟨j, c, q, e0, e1, e2, e3⟩ := hown kk ⟨i', b', m', g1, g2, g3⟩
      exact hr.inj i j blk c m q kk (fun e => hFρ i h1 (e ▸ e0)) h2 e1 h3 e2 h4 e3
  · rintro b (h | ⟨i, blk, m, h1, h2, h3, h4⟩)
    · exact .inl h
    · exact .inr (.inr ⟨i, blk, m, h2, h3, h4⟩)
  · intro i m hi hm1
    exact hμ i i m (hk i hi (by rw [← hr.len]; exact lt_of_getElem? hm1)) hm1

/-- Forget what is not wanted any more. -/
theorem weak_of {k : Nat} {s s' : S} (F ρ : List Nat) (hgl : s'.gl = s.gl) (hlen : ρ.length = s'.hp.length) (hnd : ρ.Nodup) (hFρ : ∀ i, i ∈ F → i ∉ ρ) (hk : ∀ i, i < k → i < s.hp.length → ρ[i]? = some i)
    (hf : coeF s.hp F ρ s.fr s'.fr) (hh : coeH s.hp F ρ 0 s'.hp) : Weak k s s' := by
  refine ⟨hgl, fun n w ok μ a hst => ?_⟩
  obtain ⟨ok', μ', hv, hfar⟩ := view_far hst.hr hlen hnd hFρ hk hh
  exact ⟨ok', μ', ⟨hfar.hr, hst.size, hst.defers, fun t => coeAV_rel hv (coeF_get hf t) (hst.fr t), fun g ν => by rw [hgl]; exact (hst.gl g ν).mono (fun _ _ => rfl) hv.oks⟩, hfar⟩

theorem out_of {k : Nat} {hp hp' : Hp} {r0 r : AV} (F ρ : List Nat) (hlen : ρ.length = hp'.length) (hnd : ρ.Nodup) (hFρ : ∀ i, i ∈ F → i ∉ ρ) (hk : ∀ i, i < k → i < hp.length → ρ[i]? = some i)
    (hf : coeAV hp F ρ r r0) (hh : coeH hp F ρ 0 hp') : Out k hp r0 hp' r := by
  intro w ok μ x hr hx
  obtain ⟨ok', μ', hv, hfar⟩ := view_far hr hlen hnd hFρ hk hh
  exact ⟨ok', μ', hfar, coeAV_rel hv hf hx⟩

/-- A nil slice in a slot may be taken for an array of one's own, of no rows. -/
theorem weak_nil {k : Nat} {s : S} (t e m : Nat) (h : getF s.fr t = .one .nil) (hm : 0 < m) : Weak k s { s with fr := (t, .one (.ar s.hp.length)) :: s.fr, hp := s.hp ++ [some (.arr e m [])] } := by
  refine ⟨rfl, fun n w ok μ a hst => ?_⟩
  have hv : a.tmps.getD t undef = .slice none 0 0 := by
    have := hst.fr t
    rw [h] at this
    generalize a.tmps.getD t undef = x at this
    cases this with | one hc => cases hc; rfl
  obtain ⟨s1, s2⟩ := arr_sound (w' := w) (e := e) (k := m) (rows := []) (xs := []) (x := .slice none 0 0) hst.hr rfl rfl rfl (Nat.le_refl _) (fun _ _ => rfl) (World.ownsRow_nil w 0 e m) .nil (fun _ h => by simp at h) (fun b hb => by cases hb)
  refine ⟨ok, _, ⟨s1.hr, hst.size, hst.defers, fun u => ?_, fun g ν => hst.gl g ν⟩, s1.far⟩
  simp only [getF]
  by_cases hu : t = u
  · subst hu; rw [if_pos rfl, hv]; exact s2
  · rw [if_neg hu]; exact s1.av hst.hr (hst.fr u)

end
end Go.Proofs.AE
