/- The abstract evaluator, part 12d: a region whose order is open: what is to be shown of it. -/
import Derived.Test.YtniihihcklpdgaaAeDraw3
set_option linter.unusedVariables false
set_option linter.unusedSimpArgs false
namespace Go.Proofs.AE
open Go Go.RowKit

/-! ### what is checked of one order -/
theorem compIdx_spec {n : Nat} {ops : Array Oper} : ∀ {l : List Nat} {al : List AOp}, compIdx n ops l = some al → al.length = l.length ∧ ∀ (k i : Nat) ao, l[k]? = some i → al[k]? = some ao → ∃ o, ops[i]? = some o ∧ compOp n ops o = some ao
  | [], al, h => by cases h; exact ⟨rfl, fun k i ao h => by simp at h⟩
  | j :: l, al, h => by
    unfold compIdx at h
    split at h
    · rename_i o ho
      split at h
      · rename_i a al' ha hal
        cases h
        obtain ⟨h1, h2⟩ := compIdx_spec hal
        refine ⟨by simp [h1], fun k i ao hk hao => ?_⟩
        cases k with
        | zero => simp at hk hao; subst hk; subst hao; exact ⟨o, ho, ha⟩
        | succ k => simp at hk hao; exact h2 k i ao hk hao
      · cases h
    · cases h

theorem mem_zz {ord : List Nat} {al : List AOp} {k i : Nat} {a : AOp} (h1 : ord[k]? = some i) (h2 : al[k]? = some a) : ((i, a), k) ∈ (ord.zip al).zipIdx := by
  rw [List.mem_zipIdx_iff_getElem?]
  exact List.getElem?_zip_eq_some.2 ⟨h1, h2⟩

theorem namesOk_spec {A : List Nat} {ord : List Nat} {al : List AOp} (h : namesOk A ord al = true) {k l i j : Nat} {a b : AOp} {t : Nat} (hne : k ≠ l) (h1 : ord[k]? = some i) (h2 : ord[l]? = some j) (h3 : al[k]? = some a) (h4 : al[l]? = some b) (hd : b.dst = some t) (hm : t ∈ namesOf a) :
    (l < k → ancB A i j = true) ∧ (k < l → ancB A j i = true) := by
  unfold namesOk at h
  rw [List.all_eq_true] at h
  have := h _ (mem_zz h1 h3)
  simp only at this
  rw [List.all_eq_true] at this
  have := this _ (mem_zz h2 h4)
  simp only [hd, Bool.or_eq_true, beq_iff_eq, Bool.not_eq_true', Bool.and_eq_true] at this
  rcases this with h5 | h5 | h5
  · exact (hne h5).elim
  · have : (namesOf a).contains t = true := by simpa using hm
    rw [this] at h5; cases h5
  · constructor
    · intro hlt
      rcases h5.1 with h6 | h6
      · simp [hlt] at h6
      · exact h6
    · intro hlt
      rcases h5.2 with h6 | h6
      · simp [hlt] at h6
      · exact h6

theorem pairsOf_spec {A : List Nat} {ord : List Nat} {al : List AOp} {k l i j : Nat} {a b : AOp} (h1 : ord[k]? = some i) (h2 : ord[l]? = some j) (h3 : al[k]? = some a) (h4 : al[l]? = some b) (hr : isReader a.op = true) (he : isEff a.op = false) (hb : isEff b.op = true)
    (hkl : k < l → ancB A j i = false) (hlk : l < k → ancB A i j = false) : (k, l) ∈ pairsOf A ord al := by
  unfold pairsOf
  rw [List.mem_flatMap]
  refine ⟨_, mem_zz h1 h3, ?_⟩
  simp only [hr, he, Bool.not_false, Bool.and_self, if_true]
  rw [List.mem_filterMap]
  refine ⟨_, mem_zz h2 h4, ?_⟩
  have e1 : (!decide (k < l) || !ancB A j i) = true := by
    by_cases h : k < l
    · simp [hkl h]
    · simp [h]
  have e2 : (!decide (l < k) || !ancB A i j) = true := by
    by_cases h : l < k
    · simp [hlk h]
    · simp [h]
  simp [hb, e1, e2]

structure AltOf (n : Nat) (ops : Array Oper) (A : List Nat) (e ord : List Nat) (al : List AOp) (ps : List (Nat × Nat)) : Prop where
  nodup : ord.Nodup
  all : ∀ i, i < ops.size → i ∈ ord
  eff : ord.filter (effI ops) = e
  comp : compIdx n ops ord = some al
  names : namesOk A ord al = true
  pairs : ps = pairsOf A ord al

theorem altOf_spec {n : Nat} {ops : Array Oper} {A e : List Nat} {al : List AOp} {ps : List (Nat × Nat)} (h : altOf n ops A e = some (al, ps)) : ∃ ord, AltOf n ops A e ord al ps := by
  unfold altOf at h
  refine ⟨canon ops (effI ops) ops.size [] (List.range ops.size) e, ?_⟩
  simp only at h
  split at h
  · rename_i hc
    simp only [Bool.and_eq_true, decide_eq_true_eq, beq_iff_eq] at hc
    split at h
    · rename_i al' hal
      split at h
      · rename_i hn
        cases h
        refine ⟨hc.1.1, fun i hi => ?_, hc.2, hal, hn, rfl⟩
        have := hc.1.2
        rw [List.all_eq_true] at this
        have := this i (List.mem_range.2 hi)
        simpa using this
      · cases h
    · cases h
  · cases h

theorem altsOf_spec {n : Nat} {ops : Array Oper} {A : List Nat} : ∀ {es : List (List Nat)} {alts : List (List AOp × List (Nat × Nat))}, altsOf n ops A es = some alts → ∀ e ∈ es, ∃ al ps, altOf n ops A e = some (al, ps) ∧ (al, ps) ∈ alts
  | [], alts, h, e, he => by cases he
  | e' :: es, alts, h, e, he => by
    unfold altsOf at h
    split at h
    · rename_i x l hx hl
      cases h
      rcases List.mem_cons.1 he with rfl | he
      · exact ⟨x.1, x.2, hx, List.mem_cons_self ..⟩
      · obtain ⟨al, ps, h1, h2⟩ := altsOf_spec hl e he
        exact ⟨al, ps, h1, List.mem_cons_of_mem _ h2⟩
    · cases h

/-! ### all orders of the effects -/
theorem exts_mem {A : List Nat} : ∀ (e rest : List Nat), e.Perm rest → e.Pairwise (fun c r => ancB A c r = false) → e ∈ exts A e.length rest
  | [], rest, _, _ => by simp [exts]
  | c :: e, rest, hp, hw => by
    obtain ⟨hc, hp'⟩ := List.cons_perm_iff_perm_erase.1 hp
    obtain ⟨hw1, hw2⟩ := List.pairwise_cons.1 hw
    simp only [List.length_cons, exts]
    rw [List.mem_flatMap]
    refine ⟨c, hc, ?_⟩
    have hall : rest.all (fun r => r == c || !ancB A c r) = true := by
      rw [List.all_eq_true]
      intro r hr
      rcases List.mem_cons.1 (hp.mem_iff.2 hr) with rfl | h
      · simp
      · simp [hw1 r h]
    rw [if_pos hall, List.mem_map]
    exact ⟨e, exts_mem e _ hp' hw2, rfl⟩

theorem topo_not {ops : Array Oper} : ∀ {l : List Nat} {X : Nat → Prop}, Topo ops X l → ∀ j ∈ l, ¬ X j ∧ j < ops.size
  | [], _, _, j, h => by cases h
  | i :: r, X, ⟨h1, ⟨o, h2, _⟩, h4⟩, j, h => by
    rcases List.mem_cons.1 h with rfl | h
    · exact ⟨h1, (Array.getElem?_eq_some_iff.1 h2).1⟩
    · obtain ⟨q1, q2⟩ := topo_not h4 j h
      exact ⟨fun hx => q1 (.inl hx), q2⟩

theorem topo_nodup {ops : Array Oper} : ∀ {l : List Nat} {X : Nat → Prop}, Topo ops X l → l.Nodup
  | [], _, _ => .nil
  | i :: r, X, ⟨_, _, h4⟩ => List.nodup_cons.2 ⟨fun h => (topo_not h4 i h).1 (.inr rfl), topo_nodup h4⟩

theorem topo_pair {ops : Array Oper} (hac : acyc ops = true) : ∀ {l : List Nat} {X : Nat → Prop}, Topo ops X l → (∀ i o e, X i → ops[i]? = some o → e ∈ edgesOf o → X e) → l.Pairwise (fun c r => ancB (ancT ops) c r = false)
  | [], _, _, _ => .nil
  | i :: r, X, ⟨h1, ⟨o, h2, h3⟩, h4⟩, hX => by
    have hX' : ∀ j oj e, (X j ∨ j = i) → ops[j]? = some oj → e ∈ edgesOf oj → (X e ∨ e = i) := by
      rintro j oj e (hj | rfl) hoj he
      · exact .inl (hX j oj e hj hoj he)
      · rw [h2] at hoj; cases hoj; exact .inl (h3 e he)
    refine List.pairwise_cons.2 ⟨fun j hj => ?_, topo_pair hac h4 hX'⟩
    cases h : ancB (ancT ops) i j with
    | false => rfl
    | true => exact ((topo_not h4 j hj).1 (closed_anc hac (X := fun j => X j ∨ j = i) hX' i j (.inr rfl) h)).elim

/-! ### the run that the evaluator makes -/
section
variable {P : Program}

theorem aopD_dstep {o : AOp} {s : S} {K : S → Prop} (h : aopD P o s K) : ∃ v s', s'.gl = s.gl ∧ DAct P s.gl s.hp s.eval o.op v s'.hp ∧ (∀ t, getF s'.fr t = if o.dst = some t then v else getF s.fr t) ∧ K s' := by
  have fr : ∀ (s : S) (d : Option Nat) v t, getF (s.put d v).fr t = if d = some t then v else getF s.fr t := by
    intro s d v t
    cases d with
    | none => simp [S.put]
    | some u => simp only [S.put, getF, Option.some.injEq]
  have gl : ∀ (s : S) (d : Option Nat) v, (s.put d v).gl = s.gl := fun s d v => by cases d <;> rfl
  have hp : ∀ (s : S) (d : Option Nat) v, (s.put d v).hp = s.hp := fun s d v => by cases d <;> rfl
  unfold aopD aopDH at h
  split at h
  · rename_i p v hv
    exact ⟨v, _, gl _ _ _, by rw [hp]; exact .pure hv h.1, fr _ _ _, h.2⟩
  · split at h
    · rename_i p v hp' hv
      exact ⟨v, ({ s with hp := hp' } : S).put o.dst v, (gl _ _ _).trans rfl, by rw [hp]; exact .heap hv h.1, fr _ _ _, h.2⟩
    · split at h
      · rename_i f args hc
        obtain ⟨h1, r, hp', h2, h3⟩ := h
        exact ⟨r, ({ s with hp := hp' } : S).put o.dst r, (gl _ _ _).trans rfl, by rw [hp]; exact .call hc h1 h2, fr _ _ _, h3⟩
      · split at h
        · rename_i q a b hc
          cases q with
          | true => exact ⟨_, _, gl _ _ _, by rw [hp]; exact .pick hc, fr _ _ _, h.1 rfl⟩
          | false => exact ⟨_, _, gl _ _ _, by rw [hp]; exact .pick hc, fr _ _ _, h.2 rfl⟩
        · exact h.elim

theorem aopsD_chain : ∀ (al : List AOp) (h : List S) (s : S) (K : List S → S → Prop), aopsD P al h s K →
    ∃ (st : Nat → S), st 0 = s ∧ (∀ (k : Nat) ao, al[k]? = some ao → DStep P ao (st k) (st (k + 1))) ∧ K (h ++ (List.range al.length).map fun k => st (k + 1)) (st al.length)
  | [], h, s, K, hk => ⟨fun _ => s, rfl, fun k ao hk => by simp at hk, by simpa [aopsD] using hk⟩
  | o :: al, h, s, K, hk => by
    have fin : ∀ s', DStep P o s s' → aopsD P al (h ++ [s']) s' K → ∃ (st : Nat → S), st 0 = s ∧ (∀ (k : Nat) ao, (o :: al)[k]? = some ao → DStep P ao (st k) (st (k + 1))) ∧ K (h ++ (List.range (o :: al).length).map fun k => st (k + 1)) (st (o :: al).length) := by
      intro s' hs hr
      obtain ⟨st, h1, h2, h3⟩ := aopsD_chain al _ s' K hr
      refine ⟨fun k => match k with | 0 => s | k + 1 => st k, rfl, fun k ao hk => ?_, ?_⟩
      · cases k with
        | zero => simp at hk; subst hk; show DStep P o s (st 0); rw [h1]; exact hs
        | succ k => simp at hk; exact h2 k ao hk
      · have : h ++ (List.range (o :: al).length).map (fun k => st k) = h ++ [s'] ++ (List.range al.length).map fun k => st (k + 1) := by
          rw [List.length_cons, List.range_succ_eq_map, List.map_cons, List.map_map, h1, List.append_assoc]; rfl
        exact this ▸ h3
    have gl : ∀ (s : S) (d : Option Nat) v, (s.put d v).gl = s.gl := fun s d v => by cases d <;> rfl
    have hp : ∀ (s : S) (d : Option Nat) v, (s.put d v).hp = s.hp := fun s d v => by cases d <;> rfl
    have fr : ∀ (s : S) (d : Option Nat) v t, getF (s.put d v).fr t = if d = some t then v else getF s.fr t := by
      intro s d v t
      cases d with
      | none => simp [S.put]
      | some u => simp only [S.put, getF, Option.some.injEq]
    unfold aopsD at hk
    split at hk
    · rename_i hg
      obtain ⟨v, s', h1, h2, h3, h4⟩ := aopD_dstep hk
      exact fin s' ⟨h1, .inl ⟨v, .inl hg, h2, h3⟩⟩ h4
    · rename_i t want hg
      split at hk
      · rename_i b hb
        by_cases hbw : b = want
        · subst hbw
          have hfr : ∀ u, getF (s.put (some t) (bl b)).fr u = getF s.fr u := by
            intro u; rw [fr]
            by_cases hu : t = u
            · subst hu; rw [if_pos rfl, hb]; rfl
            · rw [if_neg (by simpa using hu)]
          have hev : (s.put (some t) (bl b)).eval = s.eval := by
            funext x
            cases x with
            | tmp u => exact hfr u
            | _ => rfl
          obtain ⟨v, s', h1, h2, h3, h4⟩ := aopD_dstep (hk.1 rfl)
          rw [hev] at h2
          refine fin s' ⟨h1, .inl ⟨v, .inr ⟨t, b, hg, hb⟩, h2, fun u => ?_⟩⟩ h4
          rw [h3 u, hfr]
        · have hbn : b = !want := by cases b <;> cases want <;> simp_all
          refine fin _ ⟨(gl _ _ _).trans (gl _ _ _), .inr ⟨⟨t, want, hg, .inl (by rw [hb, hbn]; rfl)⟩, (hp _ _ _).trans (hp _ _ _), fun u => ?_⟩⟩ (hk.2 hbn)
          rw [fr, fr]
          by_cases hd : o.dst = some u
          · rw [if_pos hd, if_pos hd]
          · rw [if_neg hd, if_neg hd]
            by_cases hu : t = u
            · subst hu; rw [if_pos rfl, hb, hbn]; rfl
            · rw [if_neg (by simpa using hu)]
      · rename_i hb
        exact fin _ ⟨gl _ _ _, .inr ⟨⟨t, want, hg, .inr hb⟩, hp _ _ _, fun u => fr _ _ _ u⟩⟩ hk
      · exact hk.elim

theorem stables_mem {al : List AOp} {st : List S} : ∀ {ps : List (Nat × Nat)}, stables P al st ps → ∀ k l, (k, l) ∈ ps → ∃ a sk sl sm, al[k]? = some a ∧ st[k]? = some sk ∧ st[l]? = some sl ∧ st[l + 1]? = some sm ∧ pureOp P sm.hp sk.eval a.op = pureOp P sl.hp sk.eval a.op
  | [], _, _, _, h => by cases h
  | (k', l') :: ps, hs, k, l, h => by
    rcases List.mem_cons.1 h with h | h
    · cases h
      have := hs.1
      split at this
      · rename_i a sk sl sm h1 h2 h3 h4
        exact ⟨a, sk, sl, sm, h1, h2, h3, h4, this⟩
      · exact this.elim
    · exact stables_mem hs.2 k l h

theorem allAlts_mem {s : S} {K : S → Prop} : ∀ {alts : List (List AOp × List (Nat × Nat))}, allAlts P s K alts → ∀ al ps, (al, ps) ∈ alts → aopsD P al [] s (fun h s' => stables P al (s :: h) ps ∧ K s')
  | [], _, _, _, h => by cases h
  | (al', ps') :: alts, hs, al, ps, h => by
    rcases List.mem_cons.1 h with h | h
    · cases h; exact hs.1
    · exact allAlts_mem hs.2 al ps h

theorem step_draw {w : World} {ok : Nat → Prop} {μ : List MB} {hp : Hp} (hr : HR w ok μ hp) (d : Nat) : Step w ok μ hp { w with drawn := d } ok μ hp :=
  ⟨⟨hr.len, fun i b h => let ⟨m, h1, h2⟩ := hr.rel i b h; ⟨m, h1, BRel.mono (w := w) (w' := { w with drawn := d }) (fun _ _ => rfl) (fun _ h => h) (fun _ _ h => h) h2 fun _ _ => rfl⟩, hr.inj, hr.okn⟩, rfl, rfl, rfl, Nat.le_refl _, fun _ _ _ => rfl, fun _ h => h, fun _ h => .inl h, fun _ h => .inr h, fun _ _ h => h⟩

variable {G : Nat → AV} {k n : Nat} {w w0 : World} {ok ok0 : Nat → Prop} {μ μ0 : List MB} {hp0 : Hp} {s : S} {a : Act}

/-- A region whose order Go leaves open. -/
theorem regD_sound {id : Nat} {ops : Array Oper} {alts : List (List AOp × List (Nat × Nat))} {K : S → Prop} {Q : Exit → Act → World → Prop} (hm : P.follows .mixedOrders = true) (hc : compDraw n ops = some alts) (hst : St n w ok μ s a)
    (hfar : Far k w0 ok0 μ0 hp0 w ok μ s.hp) (hg : s.gl = G) (h : allAlts P s K alts) (hQ : ∀ a w, Holds k n w0 ok0 μ0 hp0 G K a w → Q .normal a w) : (Code.region id ops true).wp P Q a w := by
  refine wp_region_draw fun t => ?_
  rw [hm]
  unfold compDraw at hc
  split at hc
  · rename_i hac
    simp only at hc
    have hsch : Region.schedule true ops t = Region.linearise.go .any ops ops.size t (Array.replicate ops.size false) [] := by
      unfold Region.schedule; simp [Region.linearise]
    rw [hsch]
    have hu : unlisted ops (Array.replicate ops.size false) ≤ ops.size := by
      unfold unlisted
      exact Nat.le_trans (List.length_filter_le ..) (by simp)
    obtain ⟨ht1, ht2⟩ := go_topo hac ops.size t (Array.replicate ops.size false) (by simp) hu
    generalize Region.linearise.go .any ops ops.size t (Array.replicate ops.size false) [] = π at ht1 ht2
    have hno : ∀ j, ¬ ((Array.replicate ops.size false).getD j false = true) := by
      intro j
      rw [Array.getD_eq_getD_getElem?, Array.getElem?_replicate]
      split <;> simp
    have hpi : ∀ j, j < ops.size → j ∈ π := fun j hj => (ht2 j hj).resolve_left (hno j)
    have hcl : ∀ (i : Nat) (o : Oper) (e : Nat), (Array.replicate ops.size false).getD i false = true → ops[i]? = some o → e ∈ edgesOf o → (Array.replicate ops.size false).getD e false = true := fun i _ _ h => (hno i h).elim
    have hperm : π.Perm (List.range ops.size) := (List.perm_ext_iff_of_nodup (topo_nodup ht1) List.nodup_range).2 fun j => ⟨fun hj => List.mem_range.2 (topo_not ht1 j hj).2, fun hj => hpi j (List.mem_range.1 hj)⟩
    have hpe := hperm.filter (effI ops)
    have hmem : π.filter (effI ops) ∈ exts (ancT ops) ((List.range ops.size).filter (effI ops)).length ((List.range ops.size).filter (effI ops)) := by
      rw [← hpe.length_eq]
      exact exts_mem _ _ hpe ((topo_pair hac ht1 hcl).filter _)
    obtain ⟨al, ps, hal, hin⟩ := altsOf_spec hc _ hmem
    obtain ⟨ord, hord⟩ := altOf_spec hal
    obtain ⟨st, hst0, hsteps, hstab, hK⟩ := aopsD_chain al [] s _ (allAlts_mem h al ps hin)
    obtain ⟨hlen, hcomp⟩ := compIdx_spec hord.comp
    have T : Told P G n ops ord al st := by
      refine ⟨hac, hlen, hcomp, hord.nodup, hord.all, hsteps, by rw [hst0]; exact hg, ?_, ?_⟩
      · intro k l i j a b t hne h1 h2 h3 h4 hd hm'
        exact namesOk_spec hord.names hne h1 h2 h3 h4 hd hm'
      · intro k l i j a b h1 h2 h3 h4 hr he hb hkl hlk
        have hmem : (k, l) ∈ ps := by rw [hord.pairs]; exact pairsOf_spec h1 h2 h3 h4 hr he hb hkl hlk
        obtain ⟨a', sk, sl, sm, e1, e2, e3, e4, e5⟩ := stables_mem hstab k l hmem
        rw [h3] at e1; cases e1
        have hget : ∀ q, q ≤ al.length → (s :: ([] ++ (List.range al.length).map fun k => st (k + 1)))[q]? = some (st q) := by
          intro q hq
          cases q with
          | zero => simp [hst0]
          | succ q =>
            have : q < al.length := by omega
            simp [this]
        have hk' := lt_of_getElem? h3
        have hl' := lt_of_getElem? h4
        rw [hget k (by omega)] at e2; cases e2
        rw [hget l (by omega)] at e3; cases e3
        rw [hget (l + 1) (by omega)] at e4; cases e4
        exact e5
    have hd := step_draw hst.hr (w.drawn + 1)
    have hst' := hst.step hd
    refine told_run (k0 := k) (n := n) (w0 := w0) (ok0 := ok0) (μ0 := μ0) (hp0 := hp0) T (Q := Q) ?_ π [] 0 a _ (topo_congr (fun j => ⟨fun h => (hno j h).elim, fun ⟨_, h, _⟩ => by cases h⟩) ht1) (fun k h => by cases h) (fun i o e ⟨_, h, _⟩ => by cases h) (fun i hi => .inr (hpi i hi)) (Nat.zero_le _)
      (fun l _ => ⟨fun h => (by cases h), fun h => (by omega)⟩) ?_ ?_
    · rintro a' w' ⟨ok', μ', q1, q2, q3, q4, q5, q6⟩
      exact hQ a' w' ⟨ok', μ', st al.length, ⟨q1, q2, q3, q4, by rw [T.glk _ (Nat.le_refl _)]; exact q5⟩, q6, T.glk _ (Nat.le_refl _), hK⟩
    · rw [List.drop_zero]; exact hord.eff.symm
    · refine ⟨ok, μ, ?_⟩
      have e1 : ∀ t, valAt st (dstOf al) [] t al.length = getF s.fr t := by
        intro t
        rw [valAt_skip (k := 0) (Nat.zero_le _) (fun l _ _ _ h => by cases h)]
        simp only [valAt, hst0]
      have e2 : hpAt st (effOf al) [] al.length = s.hp := by
        rw [hpAt_skip (k := 0) (Nat.zero_le _) (fun l _ _ _ h => by cases h)]
        simp only [hpAt, hst0]
      rw [e2]
      exact ⟨hst'.hr, hst'.size, hst'.defers, fun t => by rw [e1]; exact hst'.fr t, by have := hst'.gl; intro g ν; rw [← hg]; exact this g ν, hfar.trans hd.far⟩
  · cases hc

end
end Go.Proofs.AE
