/- What the keep's laws of stores ask, of the model. -/
import Derived.Test.YtmaiphnabebplaaA7
set_option linter.unusedVariables false
set_option linter.unusedSimpArgs false
set_option maxRecDepth 100000
set_option maxHeartbeats 8000000
namespace Go.Proofs.Ytmaiphnabebplaa
open Go Go.RowKit Go.Proofs.AE
variable {G : Nat → AV}
/-! ### what fails changes nothing -/
def IsFail (r : Rep) : Prop := r.code = 0 ∨ ∃ e, r = failR e
theorem hashV_fail (l : List Pr) (c : Cmd) : IsFail (hashV l c).2 := by
  unfold hashV; simp only
  repeat' split
  all_goals first | exact .inl rfl | exact .inr ⟨_, rfl⟩
theorem listV_fail (l : List ByteArray) (c : Cmd) : IsFail (listV l c).2 := by
  unfold listV
  repeat' split
  all_goals first | exact .inl rfl | exact .inr ⟨_, rfl⟩
theorem setV_fail (l : List ByteArray) (c : Cmd) : IsFail (setV l c).2 := by
  unfold setV; simp only
  repeat' split
  all_goals first | exact .inl rfl | exact .inr ⟨_, rfl⟩
theorem ranksV_fail (l : List Sc) (c : Cmd) : IsFail (ranksV l c).2 := by
  unfold ranksV; simp only
  repeat' split
  all_goals first | exact .inl rfl | exact .inr ⟨_, rfl⟩
theorem doV_fail (v : Val) (c : Cmd) : IsFail (doV v c).2 := by
  unfold doV
  repeat' split
  all_goals first | exact .inl rfl | exact .inr ⟨_, rfl⟩ | exact hashV_fail _ _ | exact listV_fail _ _ | exact setV_fail _ _ | exact ranksV_fail _ _
theorem DoEnd_keeps {v : Val} {q : Val × Rep} (hq : IsFail q.2) : (DoEnd v q).2.2 = 0 ∧ ((DoEnd v q).2.1.code = 0 ∨ ∃ e, DoEnd v q = (v, failR e, 0)) := by
  unfold DoEnd
  by_cases h : q.2.code ≠ 0
  · rw [if_pos h]
    refine ⟨rfl, .inr ?_⟩
    rcases hq with hq | ⟨e, he⟩
    · exact absurd hq h
    · exact ⟨e, by rw [he]⟩
  · rw [if_neg h]
    have h0 : q.2.code = 0 := Classical.not_not.1 h
    split <;> exact ⟨rfl, .inl h0⟩
theorem DoV_keeps {v : Val} {c : Cmd} (hv : Vk v) (hc : checkC c = 0) (hk : c.kind ≤ 18) : (DoV v c).2.1.code = 0 ∨ ∃ e, DoV v c = (v, failR e, 0) := by
  rcases hv with h | h
  · have hv := checkV_iff.2 h
    by_cases hm : (kindOfC c.kind ≠ 0 ∧ kindOfC c.kind ≠ v.kind) ∨ (17 ≤ c.kind ∧ v.kind < 3)
    · exact .inr ⟨4, DoV_type hv hc hk hm⟩
    · rw [DoV_go hv hc hk hm]
      exact (DoEnd_keeps (doV_fail _ _)).2
  · subst h
    rw [DoV_zero hc hk]
    split
    · exact (DoEnd_keeps (doV_fail _ _)).2
    · exact .inr ⟨5, rfl⟩
/-! ### at the store's own time -/
theorem maxI_self (a : Int) : maxI a a = a := by unfold maxI; split <;> rfl
theorem apply_now {s : Sto} (h : OkS s) {c : Cmd} (hc : checkC c = 0) : ApplyS s s.now c = (⟨s.now, (doE s.now s.ents c).1⟩, (doE s.now s.ents c).2, 0) ∧ OkS ⟨s.now, (doE s.now s.ents c).1⟩ := by
  have := apply_ok h h.now.1 h.now.2 hc
  rw [maxI_self, alive_same h] at this
  exact this
theorem apply_nowT {s : Sto} (h : OkT s) {c : Cmd} (hc : checkC c = 0) (hk : c.kind = 22 ∨ c.key ∈ nine) : ApplyS s s.now c = (⟨s.now, (doE s.now s.ents c).1⟩, (doE s.now s.ents c).2, 0) ∧ OkT ⟨s.now, (doE s.now s.ents c).1⟩ := by
  obtain ⟨e, ok⟩ := apply_now h.ok hc
  exact ⟨e, ⟨ok, doE_few h.ok.rise _ h.few hk⟩⟩
theorem apply_later {s : Sto} (h : OkS s) {w : Int} (h0 : 0 ≤ w) (h1 : s.now + w ≤ 1073741824) {c : Cmd} (hc : checkC c = 0) : ApplyS s (s.now + w) c = (⟨s.now + w, (doE (s.now + w) (aliveS (s.now + w) s) c).1⟩, (doE (s.now + w) (aliveS (s.now + w) s) c).2, 0) ∧ OkS ⟨s.now + w, (doE (s.now + w) (aliveS (s.now + w) s) c).1⟩ := by
  have hn := h.now
  have := apply_ok h (t := s.now + w) (by omega) h1 hc
  rw [maxI_of (by omega)] at this
  exact this
theorem apply_bad {s : Sto} (h : OkS s) {t : Int} (ht : t < 0 ∨ 1073741824 < t) (c : Cmd) : ApplyS s t c = (zeroS, toldR 0, 2) := by
  unfold ApplyS
  rw [if_neg (by rw [checkS_iff.2 h]; simp), if_pos ht]
theorem getE_filter {l : List Ent} (hr : Rise l) (p : Ent → Bool) (k : ByteArray) : getE (l.filter p) k = (getE l k).filter p := by
  cases h : getE l k with
  | none =>
    rw [getE_none] at h
    have : getE (l.filter p) k = none := getE_none.2 fun e he => h e (List.mem_filter.1 he).1
    rw [this]; rfl
  | some e =>
    obtain ⟨h1, h2⟩ := getE_mem h
    cases hp : p e with
    | true =>
      have hm : e ∈ l.filter p := List.mem_filter.2 ⟨h1, hp⟩
      have := mem_getE (hr.filter p) hm
      rw [h2] at this
      rw [this, Option.filter_some, if_pos hp]
    | false =>
      have : getE (l.filter p) k = none := getE_none.2 fun x hx hk => by
        obtain ⟨x1, x2⟩ := List.mem_filter.1 hx
        have hx3 := mem_getE hr x1
        rw [hk, h] at hx3
        cases hx3
        rw [hp] at x2; cases x2
      rw [this, Option.filter_some, if_neg (by rw [hp]; simp)]
/-! ### commands of a store's keys -/
theorem form_plain {k : Int} {key f t : ByteArray} {n : Int} (h1 : 1 ≤ k) (h2 : k ≤ 22) (hkey : k = 22 ∧ key = ⟨#[]⟩ ∨ k ≠ 22 ∧ okField key = true) (hf : (k = 4 ∨ k = 5 ∨ k = 6) ∧ okField f = true ∨ ¬ (k = 4 ∨ k = 5 ∨ k = 6) ∧ f = ⟨#[]⟩)
    (ht : okText t = true ∧ (k = 1 ∨ k = 4 ∨ k = 7 ∨ k = 8 ∨ k = 11 ∨ k = 12 ∨ k = 13 ∨ k = 14 ∨ k = 15 ∨ k = 16) ∨ t = ⟨#[]⟩) (hn : okCount n = true ∧ (k = 3 ∨ k = 14 ∨ k = 20) ∨ n = 0) : checkC ⟨k, key, f, t, n⟩ = 0 := by
  have ht' : okText t = true := by rcases ht with h | h; exact h.1; rw [h]; rfl
  have hn' : okCount n = true := by rcases hn with h | h; exact h.1; rw [h]; rfl
  have hform : formOk k key f t n = true := by
    unfold formOk
    have a1 : ((k != 22) || decide (key = ⟨#[]⟩)) = true := by
      rcases hkey with h | h
      · simp [h.2]
      · simp [h.1]
    have a2 : ((k == 4 || k == 5 || k == 6) || decide (f = ⟨#[]⟩)) = true := by
      rcases hf with h | h
      · rcases h.1 with e | e | e <;> simp [e]
      · simp [h.2]
    have a3 : ((k == 1 || k == 4 || k == 7 || k == 8 || k == 11 || k == 12 || k == 13 || k == 14 || k == 15 || k == 16) || decide (t = ⟨#[]⟩)) = true := by
      rcases ht with h | h
      · rcases h.2 with e | e | e | e | e | e | e | e | e | e <;> simp [e]
      · simp [h]
    have a4 : ((k == 3 || k == 14 || k == 20) || n == 0) = true := by
      rcases hn with h | h
      · rcases h.2 with e | e | e <;> simp [e]
      · simp [h]
    rw [a1, a2, a3, a4]; rfl
  unfold checkC checkCommand
  simp only
  rw [if_neg (by omega), if_neg (by omega), if_neg (by rw [hform]; simp)]
  have b : ((k != 22 && !okField key || ((k == 4 || k == 5 || k == 6) && !okField f)) || !okText t) = false := by
    rw [ht']
    have b1 : (k != 22 && !okField key) = false := by
      rcases hkey with h | h
      · simp [h.1]
      · simp [h.2]
    rw [b1]
    rcases hf with h | h
    · rw [h.2]; simp
    · have : (k == 4 || k == 5 || k == 6) = false := by
        have := h.1
        simp; omega
      rw [this]; simp
  rw [b, hn']
  simp
abbrev aK : ByteArray := ⟨#[97]⟩
theorem aK_nine : aK ∈ nine := some_nine 0
theorem aK_ok : okField aK = true := rfl
theorem ne12 {s : Sto} (h : OkT s) : s.ents.length ≠ 12 := by have := h.len; omega
theorem old_vk {s : Sto} (h : OkS s) (k : ByteArray) : Vk (((getE s.ents k).map Ent.val).getD zeroV) := by
  cases hg : getE s.ents k with
  | none => exact .inr rfl
  | some e => exact .inl (h.all e (getE_mem hg).1).val
theorem doE_val {l : List Ent} (now : Int) {c : Cmd} (hk : c.kind ≤ 18) : doE now l c = valE l c := by
  unfold doE
  rw [if_neg (by omega), if_neg (by omega), if_neg (by omega)]
/-- With a key's value is done what is done with a value. -/
theorem as_value {s : Sto} (h : OkT s) {c : Cmd} (hc : checkC c = 0) (hk : c.kind ≤ 18) (hn : c.key ∈ nine) :
    ∃ l', ApplyS s s.now c = (⟨s.now, l'⟩, newR s.ents c, 0) ∧ OkT ⟨s.now, l'⟩ ∧ DoV (((getE s.ents c.key).map Ent.val).getD zeroV) c = (newV s.ents c, newR s.ents c, 0) ∧
      (getE l' c.key).isSome = ((newV s.ents c).kind != 0) ∧ ((getE l' c.key).map Ent.val).getD zeroV = newV s.ents c ∧
      ((newR s.ents c).code ≠ 0 → l' = s.ents ∧ ∃ e, newR s.ents c = failR e) := by
  obtain ⟨e1, ok⟩ := apply_nowT h hc (.inr hn)
  rw [doE_val _ hk] at e1 ok
  obtain ⟨hd, hr⟩ := valE_spec h.ok.rise c
  have hvk := old_vk h.ok c.key
  obtain ⟨h0, hnv⟩ := DoV_vk hvk hc hk
  have hdv : DoV (((getE s.ents c.key).map Ent.val).getD zeroV) c = (newV s.ents c, newR s.ents c, 0) := by
    unfold newV newR
    rw [← h0]
  have hkeep := DoV_keeps hvk hc hk
  rw [hdv] at hkeep hnv
  simp only at hkeep hnv
  have h12 : ¬ ((getE s.ents c.key).isSome = false ∧ s.ents.length = 12) := fun hh => ne12 h hh.2
  rw [if_neg h12] at hr hd
  have hr' : (valE s.ents c).2 = newR s.ents c := by
    rw [hr]
    repeat' split
    all_goals rfl
  rw [hr'] at e1
  refine ⟨_, e1, ok, hdv, ?_, ?_, ?_⟩
  · rw [hd.here]
    by_cases a1 : (newR s.ents c).code ≠ 0
    · rw [if_pos a1]
      rcases hkeep with hk0 | ⟨e, he⟩
      · exact absurd hk0 a1
      · have hv : newV s.ents c = ((getE s.ents c.key).map Ent.val).getD zeroV := congrArg (·.1) he
        rw [hv]
        cases hg : getE s.ents c.key with
        | none => rfl
        | some e =>
          have := (h.ok.all e (getE_mem hg).1).val.kind
          simp; omega
    · rw [if_neg a1]
      by_cases a2 : (newV s.ents c).kind = 0 ∧ (getE s.ents c.key).isSome = true
      · rw [if_pos a2, a2.1]; rfl
      · rw [if_neg a2]
        by_cases a4 : (newV s.ents c).kind ≠ 0
        · rw [if_pos a4]; simpa using a4
        · rw [if_neg a4]
          have h00 : (newV s.ents c).kind = 0 := Classical.not_not.1 a4
          rw [h00]
          cases hg : getE s.ents c.key with
          | none => rfl
          | some e => exact absurd ⟨h00, by rw [hg]; rfl⟩ a2
  · rw [hd.here]
    by_cases a1 : (newR s.ents c).code ≠ 0
    · rw [if_pos a1]
      rcases hkeep with hk0 | ⟨e, he⟩
      · exact absurd hk0 a1
      · exact (congrArg (·.1) he).symm
    · rw [if_neg a1]
      have hz : (newV s.ents c).kind = 0 → newV s.ents c = zeroV := fun h0 => by
        rcases hnv with h1 | h1
        · have := h1.kind; omega
        · exact h1
      by_cases a2 : (newV s.ents c).kind = 0 ∧ (getE s.ents c.key).isSome = true
      · rw [if_pos a2, hz a2.1]; rfl
      · rw [if_neg a2]
        by_cases a4 : (newV s.ents c).kind ≠ 0
        · rw [if_pos a4]; rfl
        · rw [if_neg a4]
          have h00 : (newV s.ents c).kind = 0 := Classical.not_not.1 a4
          rw [hz h00]
          cases hg : getE s.ents c.key with
          | none => rfl
          | some e => exact absurd ⟨h00, by rw [hg]; rfl⟩ a2
  · intro hcode
    refine ⟨?_, ?_⟩
    · have hcode' : (DoV (((getE s.ents c.key).map Ent.val).getD zeroV) c).2.1.code ≠ 0 := hcode
      unfold valE
      rw [oldV_get h.ok.rise, if_pos hcode']
    · rcases hkeep with hk0 | ⟨e, he⟩
      · exact absurd hk0 hcode
      · exact ⟨e, congrArg (fun q => q.2.1) he⟩
/-- What is refused changes nothing. -/
theorem fail_keeps {s : Sto} (h : OkT s) {c : Cmd} (hc : checkC c = 0) (hn : c.kind = 22 ∨ c.key ∈ nine) : (doE s.now s.ents c).2.code = 0 ∨ ∃ e, doE s.now s.ents c = (s.ents, failR e) := by
  have hkind := checkC_kind hc
  have hf := (checkC_facts hc).2.1
  by_cases k22 : c.kind = 22
  · unfold doE; rw [if_pos k22]; exact .inl rfl
  · by_cases k19 : c.kind = 19
    · unfold doE; rw [if_neg k22, if_pos k19]; split <;> exact .inl rfl
    · by_cases k20 : c.kind = 20 ∨ c.kind = 21
      · unfold doE
        rw [if_neg k22, if_neg k19, if_pos k20]
        obtain ⟨t1, t2⟩ := timedE_spec h.ok.rise s.now c
        cases hg : getE s.ents c.key with
        | none => rw [t1 hg]; exact .inr ⟨_, rfl⟩
        | some e =>
          obtain ⟨t3, t4, t5⟩ := t2 e hg
          by_cases k4 : c.kind = 21
          · rw [t3 k4]; exact .inl rfl
          · by_cases k5 : c.n < 1 ∨ 1073741824 - s.now < c.n
            · rw [t4 k4 k5]; exact .inr ⟨_, rfl⟩
            · left; rw [(t5 k4 k5).1]; rfl
      · have hk : c.kind ≤ 18 := by omega
        obtain ⟨l', e1, ok, _, _, _, hfail⟩ := as_value h hc hk (hn.resolve_left k22)
        have e2 := (apply_nowT h hc hn).1
        rw [e2] at e1
        by_cases h0 : (newR s.ents c).code ≠ 0
        · obtain ⟨f1, e, f2⟩ := hfail h0
          refine .inr ⟨e, ?_⟩
          have g1 : (doE s.now s.ents c).1 = l' := congrArg (fun q => q.1.ents) e1
          have g2 : (doE s.now s.ents c).2 = newR s.ents c := congrArg (fun q => q.2.1) e1
          exact Prod.ext (g1.trans f1) (g2.trans f2)
        · left
          have g2 : (doE s.now s.ents c).2 = newR s.ents c := congrArg (fun q => q.2.1) e1
          rw [g2]; exact Classical.not_not.1 h0
/-! ### single commands -/
def lifeC (k : ByteArray) : Cmd := ⟨21, k, ⟨#[]⟩, ⟨#[]⟩, 0⟩
def expC (k : ByteArray) (n : Int) : Cmd := ⟨20, k, ⟨#[]⟩, ⟨#[]⟩, n⟩
def delC (k : ByteArray) : Cmd := ⟨19, k, ⟨#[]⟩, ⟨#[]⟩, 0⟩
def keysC : Cmd := ⟨22, ⟨#[]⟩, ⟨#[]⟩, ⟨#[]⟩, 0⟩
def allK (k : ByteArray) : Cmd := ⟨18, k, ⟨#[]⟩, ⟨#[]⟩, 0⟩
def getK (k : ByteArray) : Cmd := ⟨2, k, ⟨#[]⟩, ⟨#[]⟩, 0⟩
def putK (k t : ByteArray) : Cmd := ⟨1, k, ⟨#[]⟩, t, 0⟩
def addK (k : ByteArray) (n : Int) : Cmd := ⟨3, k, ⟨#[]⟩, ⟨#[]⟩, n⟩
theorem lifeC_ok {k : ByteArray} (h : okField k = true) : checkC (lifeC k) = 0 := form_plain (by omega) (by omega) (.inr ⟨by omega, h⟩) (.inr ⟨by omega, rfl⟩) (.inr rfl) (.inr rfl)
theorem expC_ok {k : ByteArray} (h : okField k = true) {n : Int} (hn : okCount n = true) : checkC (expC k n) = 0 := form_plain (by omega) (by omega) (.inr ⟨by omega, h⟩) (.inr ⟨by omega, rfl⟩) (.inr rfl) (.inl ⟨hn, by omega⟩)
theorem delC_ok {k : ByteArray} (h : okField k = true) : checkC (delC k) = 0 := form_plain (by omega) (by omega) (.inr ⟨by omega, h⟩) (.inr ⟨by omega, rfl⟩) (.inr rfl) (.inr rfl)
theorem keysC_ok : checkC keysC = 0 := form_plain (by omega) (by omega) (.inl ⟨rfl, rfl⟩) (.inr ⟨by omega, rfl⟩) (.inr rfl) (.inr rfl)
theorem allK_ok {k : ByteArray} (h : okField k = true) : checkC (allK k) = 0 := form_plain (by omega) (by omega) (.inr ⟨by omega, h⟩) (.inr ⟨by omega, rfl⟩) (.inr rfl) (.inr rfl)
theorem getK_ok {k : ByteArray} (h : okField k = true) : checkC (getK k) = 0 := form_plain (by omega) (by omega) (.inr ⟨by omega, h⟩) (.inr ⟨by omega, rfl⟩) (.inr rfl) (.inr rfl)
theorem putK_ok {k t : ByteArray} (h : okField k = true) (ht : okText t = true) : checkC (putK k t) = 0 := form_plain (by omega) (by omega) (.inr ⟨by omega, h⟩) (.inr ⟨by omega, rfl⟩) (.inl ⟨ht, by omega⟩) (.inr rfl)
theorem addK_ok {k : ByteArray} (h : okField k = true) {n : Int} (hn : okCount n = true) : checkC (addK k n) = 0 := form_plain (by omega) (by omega) (.inr ⟨by omega, h⟩) (.inr ⟨by omega, rfl⟩) (.inr rfl) (.inl ⟨hn, by omega⟩)
theorem doE_life {l : List Ent} (hr : Rise l) (now : Int) (k : ByteArray) : doE now l (lifeC k) = match getE l k with | none => (l, failR 5) | some e => (l, toldR (if e.till - now < 0 then 0 else e.till - now)) := by
  unfold doE
  rw [if_neg (by show (21 : Int) ≠ 22; omega), if_neg (by show (21 : Int) ≠ 19; omega), if_pos (.inr rfl)]
  obtain ⟨t1, t2⟩ := timedE_spec hr now (lifeC k)
  cases hg : getE l k with
  | none => exact t1 hg
  | some e => exact (t2 e hg).1 rfl
theorem doE_del {l : List Ent} (hr : Rise l) (now : Int) (k : ByteArray) : Did l k none (doE now l (delC k)).1 ∧ (doE now l (delC k)).2 = toldR (flagN (getE l k).isSome) ∧ (getE l k = none → (doE now l (delC k)).1 = l) := by
  have hd : doE now l (delC k) = if inE l k then (delAt l (findE l k), toldR 1) else (l, toldR 0) := by
    unfold doE
    rw [if_neg (by show (19 : Int) ≠ 22; omega), if_pos (show (delC k).kind = 19 from rfl)]
    rfl
  rw [hd]
  have h1 := (inE_get hr k).1
  cases h : inE l k with
  | true =>
    rw [h] at h1
    rw [← h1]
    exact ⟨did_del hr h, rfl, fun hn => by rw [hn] at h1; cases h1⟩
  | false =>
    rw [h] at h1
    have hn : getE l k = none := by cases hg : getE l k with | none => rfl | some => rw [hg] at h1; cases h1
    refine ⟨?_, by rw [← h1]; rfl, fun _ => rfl⟩
    have := Did.none hr k
    rw [hn] at this
    exact this
theorem doE_keys (now : Int) (l : List Ent) : doE now l keysC = (l, ⟨0, ⟨#[]⟩, 0, l.map Ent.key⟩) := by
  unfold doE
  rw [if_pos (show keysC.kind = 22 from rfl)]
/-- A text that is put. -/
theorem put_val {v : Val} {k t : ByteArray} (hk : okField k = true) (hv : Vk v) (ht : okText t = true) : DoV v (putK k t) = (⟨1, t, 0, [], [], []⟩, toldR 0, 0) := by
  have hd : ∀ v, doV v (putK k t) = (⟨1, t, 0, [], [], []⟩, toldR 0) := fun v => by unfold doV; simp [putK]
  rcases hv with h | h
  · rw [DoV_go (checkV_iff.2 h) (putK_ok hk ht) (by show (1 : Int) ≤ 18; omega) (by simp [putK, kindOfC]), hd]
    exact DoEnd_some rfl (fun h => absurd h.1 (by show ¬ (3 : Int) ≤ 1; omega))
  · rw [h, DoV_zero (putK_ok hk ht) (by show (1 : Int) ≤ 18; omega), if_pos (show makesC _ = true from rfl), hd]
    exact DoEnd_some rfl (fun h => absurd h.1 (by show ¬ (3 : Int) ≤ 1; omega))
theorem doE_put {l : List Ent} (hr : Rise l) (ha : ∀ e ∈ l, OkV e.val) (hl : l.length ≠ 12) (now : Int) {k t : ByteArray} (hk : okField k = true) (ht : okText t = true) : Did l k (some ⟨k, ⟨1, t, 0, [], [], []⟩, 0⟩) (doE now l (putK k t)).1 ∧ (doE now l (putK k t)).2 = toldR 0 := by
  rw [doE_val now (by show (1 : Int) ≤ 18; omega)]
  obtain ⟨hd, hr2⟩ := valE_spec hr (putK k t)
  have hvk : Vk (((getE l k).map Ent.val).getD zeroV) := by
    cases hg : getE l k with
    | none => exact .inr rfl
    | some e => exact .inl (ha e (getE_mem hg).1)
  have hdv := put_val hk hvk ht
  have h1 : newV l (putK k t) = ⟨1, t, 0, [], [], []⟩ := congrArg (·.1) hdv
  have h2 : newR l (putK k t) = toldR 0 := congrArg (fun q => q.2.1) hdv
  rw [h1, h2] at hd hr2
  have c1 : ¬ (toldR 0).code ≠ 0 := fun h => h rfl
  have c2 : ¬ ((1 : Int) = 0 ∧ (getE l k).isSome = true) := fun h => absurd h.1 (by omega)
  have c3 : ¬ ((getE l k).isSome = false ∧ l.length = 12) := fun h => hl h.2
  have c4 : (1 : Int) ≠ 0 := by omega
  rw [if_neg c1] at hd hr2
  have e1 : (Val.mk 1 t 0 [] [] []).kind = 1 := rfl
  rw [e1] at hd hr2
  have ek : (putK k t).key = k := rfl
  rw [ek] at hd hr2
  rw [if_neg c2, if_neg c3] at hd hr2
  rw [if_pos c4] at hd
  refine ⟨?_, hr2⟩
  have hp : putE l (putK k t) ⟨1, t, 0, [], [], []⟩ = ⟨k, ⟨1, t, 0, [], [], []⟩, 0⟩ := by
    unfold putE
    rw [ek]
    cases getE l k with
    | none => rfl
    | some e => simp [putK]
  rw [hp] at hd
  exact hd
theorem doE_exp {l : List Ent} (hr : Rise l) (now n : Int) (k : ByteArray) (h1 : 1 ≤ n) (h2 : n ≤ 1073741824 - now) :
    (getE l k = none → doE now l (expC k n) = (l, failR 5)) ∧ ∀ e, getE l k = some e → (doE now l (expC k n)).2 = toldR 0 ∧ Did l k (some ⟨k, e.val, now + n⟩) (doE now l (expC k n)).1 := by
  have hd : doE now l (expC k n) = timedE now l (expC k n) := by
    unfold doE
    rw [if_neg (by show (20 : Int) ≠ 22; omega), if_neg (by show (20 : Int) ≠ 19; omega), if_pos (.inl rfl)]
  rw [hd]
  obtain ⟨t1, t2⟩ := timedE_spec hr now (expC k n)
  refine ⟨t1, fun e he => ?_⟩
  exact (t2 e he).2.2 (by show (20 : Int) ≠ 21; omega) (by show ¬ (n < 1 ∨ 1073741824 - now < n); omega)
abbrev tV (t : ByteArray) : Val := ⟨1, t, 0, [], [], []⟩
theorem tV_ok {t : ByteArray} (h : okText t = true) : OkV (tV t) :=
  ⟨⟨(by show (1 : Int) ≤ 1; omega), (by show (1 : Int) ≤ 6; omega)⟩, .inl rfl, .inr rfl, .inr rfl, .inr (.inr rfl), .inr rfl, fun h => absurd h (by show ¬ (3 : Int) ≤ 1; omega), h, by simp, by simp, by simp, rfl, .nil, .nil, fun _ => .nil, .nil⟩
theorem get_val {k t : ByteArray} (hk : okField k = true) (ht : okText t = true) : DoV (tV t) (getK k) = (tV t, textR t, 0) := by
  have hd : doV (tV t) (getK k) = (tV t, textR t) := by unfold doV; simp [getK]
  rw [DoV_go (checkV_iff.2 (tV_ok ht)) (getK_ok hk) (by show (2 : Int) ≤ 18; omega) (by simp [getK, kindOfC]), hd]
  exact DoEnd_some rfl (fun h => absurd h.1 (by show ¬ (3 : Int) ≤ 1; omega))
theorem none_val {c : Cmd} (hc : checkC c = 0) (hk : c.kind ≤ 18) (hm : makesC c.kind = false) : DoV zeroV c = (zeroV, failR 5, 0) := by
  rw [DoV_zero hc hk, hm]; rfl
theorem doE_none {l : List Ent} (hr : Rise l) (now : Int) {c : Cmd} (hc : checkC c = 0) (hk : c.kind ≤ 18) (hm : makesC c.kind = false) (hg : getE l c.key = none) : doE now l c = (l, failR 5) := by
  rw [doE_val now hk]
  unfold valE
  rw [oldV_get hr, hg]
  have h := none_val hc hk hm
  show (if (DoV zeroV c).2.1.code ≠ 0 then _ else _) = _
  rw [h, if_pos (by show (5 : Int) ≠ 0; omega)]
  show (l, (DoV zeroV c).2.1) = _
  rw [h]
theorem doE_get {l : List Ent} (hr : Rise l) (now : Int) {k t : ByteArray} {n : Int} (hk : okField k = true) (ht : okText t = true) (hg : getE l k = some ⟨k, tV t, n⟩) :
    (doE now l (getK k)).2 = textR t ∧ Did l k (some ⟨k, tV t, n⟩) (doE now l (getK k)).1 := by
  rw [doE_val now (by show (2 : Int) ≤ 18; omega)]
  obtain ⟨hd, hr2⟩ := valE_spec hr (getK k)
  have ek : (getK k).key = k := rfl
  rw [ek, hg] at hd hr2
  have hdv := get_val hk ht
  have h1 : newV l (getK k) = tV t := by unfold newV; rw [ek, hg]; exact congrArg (·.1) hdv
  have h2 : newR l (getK k) = textR t := by unfold newR; rw [ek, hg]; exact congrArg (fun q => q.2.1) hdv
  rw [h1, h2] at hd hr2
  have c1 : ¬ (textR t).code ≠ 0 := fun h => h rfl
  have e1 : (tV t).kind = 1 := rfl
  rw [if_neg c1, e1, if_neg (by omega), if_neg (by simp)] at hr2
  rw [if_neg c1, e1, if_neg (by omega), if_neg (by simp), if_pos (by omega)] at hd
  have hp : putE l (getK k) (tV t) = ⟨k, tV t, n⟩ := by
    unfold putE
    rw [ek, hg]
    simp [getK]
  rw [hp] at hd
  exact ⟨hr2, hd⟩
abbrev xS : ByteArray := ⟨#[120]⟩
/-- What is put and runs out. -/
theorem expire_p {s : Sto} (h : OkT s) (hnow : s.now ≤ 1000) {k w : Int} (k1 : 1 ≤ k) (k2 : k ≤ 1000) (w0 : 0 ≤ w) (w1 : w ≤ 1000) :
    ∃ l1 l2, ApplyS s s.now (putK aK xS) = (⟨s.now, l1⟩, toldR 0, 0) ∧ OkS ⟨s.now, l1⟩ ∧ ApplyS ⟨s.now, l1⟩ s.now (expC aK k) = (⟨s.now, l2⟩, toldR 0, 0) ∧ OkS ⟨s.now, l2⟩ ∧
      (k ≤ w → ∃ l3, ApplyS ⟨s.now, l2⟩ (s.now + w) (getK aK) = (⟨s.now + w, l3⟩, failR 5, 0) ∧ OkS ⟨s.now + w, l3⟩ ∧ ApplyS ⟨s.now, l2⟩ (s.now + w) (lifeC aK) = (⟨s.now + w, l3⟩, failR 5, 0) ∧ getE l3 aK = none) ∧
      (w < k → ∃ l3 l4, ApplyS ⟨s.now, l2⟩ (s.now + w) (getK aK) = (⟨s.now + w, l3⟩, textR xS, 0) ∧ OkS ⟨s.now + w, l3⟩ ∧ ApplyS ⟨s.now, l2⟩ (s.now + w) (lifeC aK) = (⟨s.now + w, l4⟩, toldR (k - w), 0) ∧ OkS ⟨s.now + w, l4⟩ ∧ ∃ e, getE l3 aK = some e) := by
  have hn := h.ok.now
  have ck : okCount k = true := by unfold okCount; simp; omega
  obtain ⟨e1, ok1⟩ := apply_nowT h (putK_ok aK_ok (t := xS) rfl) (.inr aK_nine)
  obtain ⟨d1, r1⟩ := doE_put h.ok.rise (fun e he => (h.ok.all e he).val) (ne12 h) s.now (k := aK) (t := xS) aK_ok rfl
  rw [r1] at e1
  obtain ⟨l1, hl1⟩ : ∃ l1, (doE s.now s.ents (putK aK xS)).1 = l1 := ⟨_, rfl⟩
  rw [hl1] at e1 ok1 d1
  obtain ⟨e2, ok2⟩ := apply_nowT ok1 (expC_ok aK_ok ck) (.inr aK_nine)
  obtain ⟨r2, d2⟩ := (doE_exp d1.rise s.now k aK k1 (by omega)).2 _ d1.here
  simp only at e2
  rw [r2] at e2
  obtain ⟨l2, hl2⟩ : ∃ l2, (doE s.now l1 (expC aK k)).1 = l2 := ⟨_, rfl⟩
  simp only at ok2
  rw [hl2] at e2 ok2 d2
  refine ⟨l1, l2, e1, ok1.ok, e2, ok2.ok, fun hkw => ?_, fun hkw => ?_⟩
  · obtain ⟨e3, ok3⟩ := apply_later ok2.ok (w := w) w0 (by show s.now + w ≤ 1073741824; omega) (getK_ok aK_ok)
    obtain ⟨e4, ok4⟩ := apply_later ok2.ok (w := w) w0 (by show s.now + w ≤ 1073741824; omega) (lifeC_ok aK_ok)
    obtain ⟨a1, a2, a3⟩ := alive_ok ok2.ok (now := s.now + w) (by show s.now ≤ s.now + w; omega)
    have hg : getE (aliveS (s.now + w) ⟨s.now, l2⟩) aK = none := by
      unfold aliveS
      rw [getE_filter d2.rise, d2.here]
      have : goneE (s.now + w) ⟨aK, tV xS, s.now + k⟩ = true := by unfold goneE; simp; omega
      simp [this]
    rw [doE_none a1 _ (getK_ok aK_ok) (by show (2 : Int) ≤ 18; omega) rfl hg] at e3 ok3
    have hl := doE_life a1 (s.now + w) aK
    rw [hg] at hl
    simp only at hl e4
    rw [hl] at e4
    exact ⟨_, e3, ok3, e4, hg⟩
  · obtain ⟨e3, ok3⟩ := apply_later ok2.ok (w := w) w0 (by show s.now + w ≤ 1073741824; omega) (getK_ok aK_ok)
    obtain ⟨e4, ok4⟩ := apply_later ok2.ok (w := w) w0 (by show s.now + w ≤ 1073741824; omega) (lifeC_ok aK_ok)
    obtain ⟨a1, a2, a3⟩ := alive_ok ok2.ok (now := s.now + w) (by show s.now ≤ s.now + w; omega)
    have hg : getE (aliveS (s.now + w) ⟨s.now, l2⟩) aK = some ⟨aK, tV xS, s.now + k⟩ := by
      unfold aliveS
      rw [getE_filter d2.rise, d2.here]
      have : goneE (s.now + w) ⟨aK, tV xS, s.now + k⟩ = false := by unfold goneE; simp; omega
      simp [this]
    obtain ⟨r3, d3⟩ := doE_get a1 (s.now + w) aK_ok (t := xS) rfl hg
    simp only at e3 ok3
    rw [r3] at e3
    have hl := doE_life a1 (s.now + w) aK
    rw [hg] at hl
    simp only at hl e4 ok4
    rw [hl] at e4 ok4
    have hkw2 : (if s.now + k - (s.now + w) < 0 then 0 else s.now + k - (s.now + w)) = k - w := by rw [if_neg (by omega)]; omega
    rw [hkw2] at e4
    exact ⟨_, _, e3, ok3, e4, ok4, ⟨_, d3.here⟩⟩
/-- What is deleted is gone. -/
theorem delete_p {s : Sto} (h : OkT s) {k : ByteArray} (hk : okField k = true) (hn : k ∈ nine) :
    ∃ l1, ApplyS s s.now (delC k) = (⟨s.now, l1⟩, toldR (flagN (getE s.ents k).isSome), 0) ∧ OkS ⟨s.now, l1⟩ ∧ ApplyS ⟨s.now, l1⟩ s.now (delC k) = (⟨s.now, l1⟩, toldR 0, 0) ∧ ApplyS ⟨s.now, l1⟩ s.now (allK k) = (⟨s.now, l1⟩, failR 5, 0) := by
  obtain ⟨e1, ok1⟩ := apply_nowT h (delC_ok hk) (.inr hn)
  obtain ⟨d1, r1, _⟩ := doE_del h.ok.rise s.now k
  rw [r1] at e1
  obtain ⟨l1, hl1⟩ : ∃ l1, (doE s.now s.ents (delC k)).1 = l1 := ⟨_, rfl⟩
  rw [hl1] at e1 ok1 d1
  obtain ⟨e2, _⟩ := apply_nowT ok1 (delC_ok hk) (.inr hn)
  obtain ⟨d2, r2, n2⟩ := doE_del d1.rise s.now k
  obtain ⟨e3, _⟩ := apply_nowT ok1 (allK_ok hk) (.inr hn)
  simp only at e2 e3
  rw [r2, n2 d1.here, d1.here] at e2
  rw [doE_none d1.rise s.now (allK_ok hk) (by show (18 : Int) ≤ 18; omega) rfl d1.here] at e3
  exact ⟨l1, e1, ok1.ok, e2, e3⟩
theorem doE_made {l : List Ent} (hr : Rise l) (now : Int) {c : Cmd} (hk : c.kind ≤ 18) {v : Val} {r : Rep} (hdv : DoV (((getE l c.key).map Ent.val).getD zeroV) c = (v, r, 0)) (h0 : r.code = 0) (hv : v.kind ≠ 0) (hl : (getE l c.key).isSome = true ∨ l.length ≠ 12) :
    Did l c.key (some (putE l c v)) (doE now l c).1 ∧ (doE now l c).2 = r := by
  rw [doE_val now hk]
  obtain ⟨hd, hr2⟩ := valE_spec hr c
  have h1 : newV l c = v := congrArg (·.1) hdv
  have h2 : newR l c = r := congrArg (fun q => q.2.1) hdv
  rw [h1, h2] at hd hr2
  have c1 : ¬ r.code ≠ 0 := fun h => h h0
  have c2 : ¬ (v.kind = 0 ∧ (getE l c.key).isSome = true) := fun h => hv h.1
  have c3 : ¬ ((getE l c.key).isSome = false ∧ l.length = 12) := fun h => by
    rcases hl with hl | hl
    · rw [hl] at h; exact absurd h.1 (by simp)
    · exact hl h.2
  rw [if_neg c1, if_neg c2, if_neg c3] at hr2
  rw [if_neg c1, if_neg c2, if_neg c3, if_pos hv] at hd
  exact ⟨hd, hr2⟩
abbrev nV (n : Int) : Val := ⟨2, ⟨#[]⟩, n, [], [], []⟩
theorem nV_ok {n : Int} (h : okCount n = true) : OkV (nV n) :=
  ⟨⟨(by show (1 : Int) ≤ 2; omega), (by show (2 : Int) ≤ 6; omega)⟩, .inr rfl, .inl rfl, .inr rfl, .inr (.inr rfl), .inr rfl, fun h => absurd h (by show ¬ (3 : Int) ≤ 2; omega), rfl, by simp, by simp, by simp, h, .nil, .nil, fun _ => .nil, .nil⟩
theorem add_none : DoV zeroV (addK aK 1) = (nV 1, toldR 1, 0) := by
  rw [DoV_zero (addK_ok aK_ok rfl) (by show (3 : Int) ≤ 18; omega), if_pos (show makesC _ = true from rfl)]
  have : doV ⟨kindOfC (addK aK 1).kind, ⟨#[]⟩, 0, [], [], []⟩ (addK aK 1) = (nV 1, toldR 1) := by
    unfold doV
    simp [addK, kindOfC, okCount]
  rw [this]
  exact DoEnd_some rfl (fun h => absurd h.1 (by show ¬ (3 : Int) ≤ 2; omega))
theorem add_one : DoV (nV 1) (addK aK 1) = (nV 2, toldR 2, 0) := by
  rw [DoV_go (checkV_iff.2 (nV_ok rfl)) (addK_ok aK_ok rfl) (by show (3 : Int) ≤ 18; omega) (by simp [addK, kindOfC])]
  have : doV (nV 1) (addK aK 1) = (nV 2, toldR 2) := by
    unfold doV
    simp [addK, okCount]
  rw [this]
  exact DoEnd_some rfl (fun h => absurd h.1 (by show ¬ (3 : Int) ≤ 2; omega))
def pushK (k t : ByteArray) : Cmd := ⟨7, k, ⟨#[]⟩, t, 0⟩
theorem pushK_ok {k t : ByteArray} (h : okField k = true) (ht : okText t = true) : checkC (pushK k t) = 0 := form_plain (by omega) (by omega) (.inr ⟨by omega, h⟩) (.inr ⟨by omega, rfl⟩) (.inl ⟨ht, by omega⟩) (.inr rfl)
theorem push_none : DoV zeroV (pushK aK xS) = (⟨4, ⟨#[]⟩, 0, [], [xS], []⟩, toldR 1, 0) := by
  rw [DoV_zero (pushK_ok aK_ok rfl) (by show (7 : Int) ≤ 18; omega), if_pos (show makesC _ = true from rfl)]
  have : doV ⟨kindOfC (pushK aK xS).kind, ⟨#[]⟩, 0, [], [], []⟩ (pushK aK xS) = (⟨4, ⟨#[]⟩, 0, [], [xS], []⟩, toldR 1) := by
    unfold doV listV
    simp [pushK, kindOfC]
  rw [this]
  exact DoEnd_some rfl (fun h => by have := h.2; unfold Val.els at this; simp at this)
theorem rise_nil : Rise [] := .nil
/-- What is put anew stays for ever. -/
theorem put_stays {k : Int} (k1 : 1 ≤ k) (k2 : k ≤ 1000) :
    ∃ l1 l2 l3 l4, ApplyS zeroS 0 (addK aK 1) = (⟨0, l1⟩, toldR 1, 0) ∧ OkS ⟨0, l1⟩ ∧ ApplyS ⟨0, l1⟩ 0 (expC aK k) = (⟨0, l2⟩, toldR 0, 0) ∧ OkS ⟨0, l2⟩ ∧
      ApplyS ⟨0, l2⟩ 0 (addK aK 1) = (⟨0, l3⟩, toldR 2, 0) ∧ OkS ⟨0, l3⟩ ∧ l3.length = 1 ∧ ApplyS ⟨0, l2⟩ 0 (putK aK ⟨#[]⟩) = (⟨0, l4⟩, toldR 0, 0) ∧ OkS ⟨0, l4⟩ ∧ l4.length = 1 ∧
      (∃ l5 r, ApplyS ⟨0, l3⟩ k keysC = (⟨k, l5⟩, r, 0) ∧ OkS ⟨k, l5⟩ ∧ getE l5 aK = none) ∧ ∃ l6 r e, ApplyS ⟨0, l4⟩ k keysC = (⟨k, l6⟩, r, 0) ∧ OkS ⟨k, l6⟩ ∧ getE l6 aK = some e := by
  have ck : okCount k = true := by unfold okCount; simp; omega
  obtain ⟨e1, ok1⟩ := apply_nowT okT_zero (addK_ok aK_ok (n := 1) rfl) (.inr aK_nine)
  obtain ⟨d1, r1⟩ := doE_made rise_nil 0 (c := addK aK 1) (by show (3 : Int) ≤ 18; omega) add_none rfl (by show (2 : Int) ≠ 0; omega) (.inr (by decide))
  have z : zeroS.now = 0 ∧ zeroS.ents = [] := ⟨rfl, rfl⟩
  rw [z.1, z.2, r1] at e1
  rw [z.1, z.2] at ok1
  obtain ⟨l1, hl1⟩ : ∃ l1, (doE 0 [] (addK aK 1)).1 = l1 := ⟨_, rfl⟩
  rw [hl1] at e1 ok1 d1
  have n1 : l1.length = 1 := d1.len
  obtain ⟨e2, ok2⟩ := apply_nowT ok1 (expC_ok aK_ok ck) (.inr aK_nine)
  obtain ⟨r2, d2⟩ := (doE_exp d1.rise 0 k aK k1 (by omega)).2 _ d1.here
  simp only at e2 ok2
  rw [r2] at e2
  obtain ⟨l2, hl2⟩ : ∃ l2, (doE 0 l1 (expC aK k)).1 = l2 := ⟨_, rfl⟩
  rw [hl2] at e2 ok2 d2
  have g1 : getE l1 aK = some (putE [] (addK aK 1) (nV 1)) := d1.here
  have n2 : l2.length = 1 := by have := d2.len; rw [g1] at this; simpa [n1] using this
  have g2 : getE l2 aK = some ⟨aK, nV 1, 0 + k⟩ := d2.here
  obtain ⟨e3, ok3⟩ := apply_nowT ok2 (addK_ok aK_ok (n := 1) rfl) (.inr aK_nine)
  obtain ⟨d3, r3⟩ := doE_made d2.rise 0 (c := addK aK 1) (v := nV 2) (r := toldR 2) (by show (3 : Int) ≤ 18; omega) (by show DoV (((getE l2 aK).map Ent.val).getD zeroV) (addK aK 1) = _; rw [g2]; exact add_one) rfl (by show (2 : Int) ≠ 0; omega) (.inr (by omega))
  simp only at e3 ok3
  rw [r3] at e3
  obtain ⟨l3, hl3⟩ : ∃ l3, (doE 0 l2 (addK aK 1)).1 = l3 := ⟨_, rfl⟩
  rw [hl3] at e3 ok3 d3
  have n3 : l3.length = 1 := by have := d3.len; rw [show (addK aK 1).key = aK from rfl, g2] at this; simpa [n2] using this
  have g3 : getE l3 aK = some ⟨aK, nV 2, 0 + k⟩ := by
    have := d3.here
    unfold putE at this
    rw [show (addK aK 1).key = aK from rfl, g2] at this
    simpa [addK] using this
  obtain ⟨e4, ok4⟩ := apply_nowT ok2 (putK_ok aK_ok (t := ⟨#[]⟩) rfl) (.inr aK_nine)
  obtain ⟨d4, r4⟩ := doE_put d2.rise (fun e he => (ok2.ok.all e he).val) (by omega) 0 (k := aK) (t := ⟨#[]⟩) aK_ok rfl
  simp only at e4 ok4
  rw [r4] at e4
  obtain ⟨l4, hl4⟩ : ∃ l4, (doE 0 l2 (putK aK ⟨#[]⟩)).1 = l4 := ⟨_, rfl⟩
  rw [hl4] at e4 ok4 d4
  have n4 : l4.length = 1 := by have := d4.len; rw [g2] at this; simpa [n2] using this
  refine ⟨l1, l2, l3, l4, e1, ok1.ok, e2, ok2.ok, e3, ok3.ok, n3, e4, ok4.ok, n4, ?_, ?_⟩
  · obtain ⟨e5, ok5⟩ := apply_later ok3.ok (w := k) (by omega) (by show 0 + k ≤ 1073741824; omega) keysC_ok
    rw [doE_keys] at e5 ok5
    simp only [Int.zero_add] at e5 ok5
    refine ⟨_, _, e5, ok5, ?_⟩
    unfold aliveS
    rw [getE_filter d3.rise, g3]
    have : goneE k ⟨aK, nV 2, k⟩ = true := by unfold goneE; simp; omega
    simp [this]
  · obtain ⟨e5, ok5⟩ := apply_later ok4.ok (w := k) (by omega) (by show 0 + k ≤ 1073741824; omega) keysC_ok
    rw [doE_keys] at e5 ok5
    simp only [Int.zero_add] at e5 ok5
    refine ⟨_, _, ⟨aK, tV ⟨#[]⟩, 0⟩, e5, ok5, ?_⟩
    unfold aliveS
    rw [getE_filter d4.rise, d4.here]
    have : goneE k ⟨aK, tV ⟨#[]⟩, 0⟩ = false := by unfold goneE; simp
    simp [this]
/-- The last word on how long a key is there counts. -/
theorem expire_again {a b : Int} (a1 : 1 ≤ a) (a2 : a ≤ 1000) (b1 : 1 ≤ b) (b2 : b ≤ 1000) :
    ∃ l1 l2 l3, ApplyS zeroS 5 (pushK aK xS) = (⟨5, l1⟩, toldR 1, 0) ∧ OkS ⟨5, l1⟩ ∧ (∃ l, ApplyS ⟨5, l1⟩ 5 (lifeC aK) = (⟨5, l⟩, toldR 0, 0) ∧ OkS ⟨5, l⟩) ∧ ApplyS ⟨5, l1⟩ 5 (expC aK a) = (⟨5, l2⟩, toldR 0, 0) ∧ OkS ⟨5, l2⟩ ∧
      ApplyS ⟨5, l2⟩ 5 (expC aK b) = (⟨5, l3⟩, toldR 0, 0) ∧ OkS ⟨5, l3⟩ ∧ (∃ l, ApplyS ⟨5, l3⟩ 5 (lifeC aK) = (⟨5, l⟩, toldR b, 0) ∧ OkS ⟨5, l⟩) ∧
      (∃ l r, ApplyS ⟨5, l3⟩ (4 + b) keysC = (⟨4 + b, l⟩, r, 0) ∧ OkS ⟨4 + b, l⟩ ∧ l.length = 1) ∧ ∃ l r, ApplyS ⟨5, l3⟩ (5 + b) keysC = (⟨5 + b, l⟩, r, 0) ∧ OkS ⟨5 + b, l⟩ ∧ l.length = 0 := by
  have ca : okCount a = true := by unfold okCount; simp; omega
  have cb : okCount b = true := by unfold okCount; simp; omega
  obtain ⟨e1, ok1⟩ := apply_later okS_zero (w := 5) (by omega) (by show (0 : Int) + 5 ≤ 1073741824; omega) (pushK_ok aK_ok (t := xS) rfl)
  have hz : aliveS (zeroS.now + 5) zeroS = [] := rfl
  have z5 : zeroS.now + 5 = 5 := rfl
  rw [hz, z5] at e1 ok1
  obtain ⟨d1, r1⟩ := doE_made rise_nil 5 (c := pushK aK xS) (by show (7 : Int) ≤ 18; omega) push_none rfl (by show (4 : Int) ≠ 0; omega) (.inr (by decide))
  rw [r1] at e1
  obtain ⟨l1, hl1⟩ : ∃ l1, (doE 5 [] (pushK aK xS)).1 = l1 := ⟨_, rfl⟩
  rw [hl1] at e1 ok1 d1
  have n1 : l1.length = 1 := d1.len
  have g1 : getE l1 aK = some ⟨aK, ⟨4, ⟨#[]⟩, 0, [], [xS], []⟩, 0⟩ := d1.here
  obtain ⟨f1, okf1⟩ := apply_now ok1 (lifeC_ok aK_ok)
  simp only at f1 okf1
  rw [doE_life d1.rise, g1] at f1 okf1
  obtain ⟨e2, ok2⟩ := apply_now ok1 (expC_ok aK_ok ca)
  obtain ⟨r2, d2⟩ := (doE_exp d1.rise 5 a aK a1 (by omega)).2 _ g1
  simp only at e2 ok2
  rw [r2] at e2
  obtain ⟨l2, hl2⟩ : ∃ l2, (doE 5 l1 (expC aK a)).1 = l2 := ⟨_, rfl⟩
  rw [hl2] at e2 ok2 d2
  have n2 : l2.length = 1 := by have := d2.len; rw [g1] at this; simpa [n1] using this
  obtain ⟨e3, ok3⟩ := apply_now ok2 (expC_ok aK_ok cb)
  obtain ⟨r3, d3⟩ := (doE_exp d2.rise 5 b aK b1 (by omega)).2 _ d2.here
  simp only at e3 ok3
  rw [r3] at e3
  obtain ⟨l3, hl3⟩ : ∃ l3, (doE 5 l2 (expC aK b)).1 = l3 := ⟨_, rfl⟩
  rw [hl3] at e3 ok3 d3
  have n3 : l3.length = 1 := by have := d3.len; rw [d2.here] at this; simpa [n2] using this
  have g3 := d3.here
  obtain ⟨f3, okf3⟩ := apply_now ok3 (lifeC_ok aK_ok)
  simp only at f3 okf3
  rw [doE_life d3.rise, g3] at f3 okf3
  have hb : (if (5 : Int) + b - 5 < 0 then 0 else 5 + b - 5) = b := by rw [if_neg (by omega)]; omega
  simp only [hb] at f3 okf3
  -- one entry, that runs out
  obtain ⟨x, rfl⟩ : ∃ x, l3 = [x] := by
    match l3, n3 with
    | [x], _ => exact ⟨x, rfl⟩
  have hx : x = ⟨aK, ⟨4, ⟨#[]⟩, 0, [], [xS], []⟩, 5 + b⟩ := by
    have hm := (getE_mem g3).1
    simp only [List.mem_singleton] at hm
    exact hm.symm
  obtain ⟨e5, ok5⟩ := apply_later ok3 (w := b - 1) (by omega) (by show 5 + (b - 1) ≤ 1073741824; omega) keysC_ok
  obtain ⟨e6, ok6⟩ := apply_later ok3 (w := b) (by omega) (by show 5 + b ≤ 1073741824; omega) keysC_ok
  rw [doE_keys] at e5 ok5 e6 ok6
  have w5 : (5 : Int) + (b - 1) = 4 + b := by omega
  simp only [w5] at e5 ok5
  simp only at e6 ok6
  refine ⟨l1, l2, [x], e1, ok1, ⟨_, f1, okf1⟩, e2, ok2, e3, ok3, ⟨_, f3, okf3⟩, ⟨_, _, e5, ok5, ?_⟩, ⟨_, _, e6, ok6, ?_⟩⟩
  · unfold aliveS
    have : goneE (4 + b) x = false := by rw [hx]; unfold goneE; simp <;> omega
    simp [this]
  · unfold aliveS
    have : goneE (5 + b) x = true := by rw [hx]; unfold goneE; simp <;> omega
    simp [this]
/-! ### the last step of a store of steps -/
theorem storeV_last {l : List Stp} {x : Stp} (hl : ∀ y ∈ l, y.Ok) (hx : x.Ok) (hlen : l.length ≤ 39) :
    ∃ s n, OkT s ∧ s.now ≤ n ∧ 0 ≤ n ∧ n ≤ 440 ∧ storeV (l ++ [x]) = (ApplyS s (n + pk x.wait 12) (cmdR x.raw)).1 ∧ (ApplyS s (n + pk x.wait 12) (cmdR x.raw)).2.2 = 0 := by
  obtain ⟨g1, g2, g3, g4⟩ := foldT_ok l (0, zeroS) hl (Int.le_refl _) (by show (0 : Int) + 11 * (l.length : Int) ≤ 1000000; omega) okT_zero (Int.le_refl _)
  have hp := pk_range (n := x.wait) (m := 12) (by omega)
  have z : ((0, zeroS) : Int × Sto).1 = 0 := rfl
  rw [z] at g3
  have hst : storeV (l ++ [x]) = (stepT (l.foldl stepT (0, zeroS)) x).2 := by
    unfold storeV foldT
    rw [List.take_of_length_le (by rw [List.length_append]; simp; omega), List.foldl_append]
    rfl
  rw [hst]
  generalize l.foldl stepT (0, zeroS) = Q at *
  obtain ⟨s', r, e1, e2, e3⟩ := apply_okT g1 (t := Q.1 + pk x.wait 12) (by omega) (by omega) (cmdR_ok hx.raw) (cmdR_key x.raw)
  have h0 : (ApplyS Q.2 (Q.1 + pk x.wait 12) (cmdR x.raw)).2.2 = 0 := by rw [e1]
  refine ⟨Q.2, Q.1, g1, g4, g2, by omega, ?_, h0⟩
  unfold stepT
  simp only
  rw [if_pos h0]
/-- A key that is put last is there. -/
theorem storeV_put {l : List Stp} {x : Stp} (hl : ∀ y ∈ l, y.Ok) (hx : x.Ok) (hlen : l.length ≤ 39) (hk : (cmdR x.raw).kind = 1) : 0 < (storeV (l ++ [x])).ents.length := by
  obtain ⟨s, n, h1, h2, h3, h4, h5, h6⟩ := storeV_last hl hx hlen
  have hp := pk_range (n := x.wait) (m := 12) (by omega)
  have hc := cmdR_ok hx.raw
  obtain ⟨e, ok⟩ := apply_ok h1.ok (t := n + pk x.wait 12) (by omega) (by omega) hc
  rw [h5, e]
  obtain ⟨a1, a2, a3⟩ := alive_ok h1.ok (now := maxI s.now (n + pk x.wait 12)) (maxI_le _ _).1
  have hkey := checkC_key hc (by omega)
  obtain ⟨k1, k2, k3, k4, k5⟩ : ∃ k f t m y, cmdR x.raw = ⟨k, f, t, m, y⟩ := ⟨_, _, _, _, _, rfl⟩
  have hfacts := checkC_facts hc
  have hvk : Vk (((getE (aliveS (maxI s.now (n + pk x.wait 12)) s) (cmdR x.raw).key).map Ent.val).getD zeroV) := by
    cases hg : getE (aliveS (maxI s.now (n + pk x.wait 12)) s) (cmdR x.raw).key with
    | none => exact .inr rfl
    | some e => exact .inl (a2 e (getE_mem hg).1).val
  have hd : ∀ v, doV v (cmdR x.raw) = (tV (cmdR x.raw).text, toldR 0) := fun v => by unfold doV; rw [if_pos hk]
  have hdv : DoV (((getE (aliveS (maxI s.now (n + pk x.wait 12)) s) (cmdR x.raw).key).map Ent.val).getD zeroV) (cmdR x.raw) = (tV (cmdR x.raw).text, toldR 0, 0) := by
    rcases hvk with h | h
    · rw [DoV_go (checkV_iff.2 h) hc (by omega) (by rw [hk]; simp [kindOfC]), hd]
      exact DoEnd_some rfl (fun h => absurd h.1 (by show ¬ (3 : Int) ≤ 1; omega))
    · rw [h, DoV_zero hc (by omega), if_pos (by rw [hk]; rfl), hd]
      exact DoEnd_some rfl (fun h => absurd h.1 (by show ¬ (3 : Int) ≤ 1; omega))
  have hfew : (aliveS (maxI s.now (n + pk x.wait 12)) s).length ≠ 12 := by
    have := h1.len
    have := List.length_filter_le (fun e => !goneE (maxI s.now (n + pk x.wait 12)) e) s.ents
    unfold aliveS
    omega
  obtain ⟨d, _⟩ := doE_made a1 (maxI s.now (n + pk x.wait 12)) (c := cmdR x.raw) (by omega) hdv rfl (by show (1 : Int) ≠ 0; omega) (.inr hfew)
  exact List.length_pos_of_mem (getE_mem d.here).1
end Go.Proofs.Ytmaiphnabebplaa
