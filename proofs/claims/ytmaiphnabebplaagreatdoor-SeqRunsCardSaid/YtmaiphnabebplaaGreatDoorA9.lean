/- With a store: what is kept, and single commands. -/
import Derived.Test.YtmaiphnabebplaaGreatDoorA7
set_option linter.unusedVariables false
set_option linter.unusedSimpArgs false
set_option maxRecDepth 100000
set_option maxHeartbeats 8000000
namespace Go.Proofs.YtmaiphnabebplaaGreatDoor
open Go Go.RowKit Go.Proofs.AE
variable {G : Nat → AV}
/-! ### what fails changes nothing -/
def IsFail (r : Rep) : Prop := r.code = 0 ∨ ∃ e, r = failR e
theorem hashV_fail (l : List Pr) (c : Cmd) : IsFail (hashV l c).2 := by
  unfold hashV; simp only
  repeat' split
  all_goals first | exact .inl rfl | exact .inr ⟨_, rfl⟩
theorem listV_fail (l : List ByteArray) (c : Cmd) : IsFail (listV l c).2 := by
  unfold listV
  repeat' split
  all_goals first | exact .inl rfl | exact .inr ⟨_, rfl⟩
theorem setV_fail (l : List ByteArray) (c : Cmd) : IsFail (setV l c).2 := by
  unfold setV; simp only
  repeat' split
  all_goals first | exact .inl rfl | exact .inr ⟨_, rfl⟩
theorem ranksV_fail (l : List Sc) (c : Cmd) : IsFail (ranksV l c).2 := by
  unfold ranksV; simp only
  repeat' split
  all_goals first | exact .inl rfl | exact .inr ⟨_, rfl⟩
theorem doV_fail (v : Val) (c : Cmd) : IsFail (doV v c).2 := by
  unfold doV
  repeat' split
  all_goals first | exact .inl rfl | exact .inr ⟨_, rfl⟩ | exact hashV_fail _ _ | exact listV_fail _ _ | exact setV_fail _ _ | exact ranksV_fail _ _
theorem DoEnd_keeps {v : Val} {q : Val × Rep} (hq : IsFail q.2) : (DoEnd v q).2.2 = 0 ∧ ((DoEnd v q).2.1.code = 0 ∨ ∃ e, DoEnd v q = (v, failR e, 0)) := by
  unfold DoEnd
  by_cases h : q.2.code ≠ 0
  · rw [if_pos h]
    refine ⟨rfl, .inr ?_⟩
    rcases hq with hq | ⟨e, he⟩
    · exact absurd hq h
    · exact ⟨e, by rw [he]⟩
  · rw [if_neg h]
    have h0 : q.2.code = 0 := Classical.not_not.1 h
    split <;> exact ⟨rfl, .inl h0⟩
theorem DoV_keeps {v : Val} {c : Cmd} (hv : Vk v) (hc : checkC c = 0) (hk : c.kind ≤ 18) : (DoV v c).2.1.code = 0 ∨ ∃ e, DoV v c = (v, failR e, 0) := by
  rcases hv with h | h
  · have hv := checkV_iff.2 h
    by_cases hm : (kindOfC c.kind ≠ 0 ∧ kindOfC c.kind ≠ v.kind) ∨ (17 ≤ c.kind ∧ v.kind < 3)
    · exact .inr ⟨4, DoV_type hv hc hk hm⟩
    · rw [DoV_go hv hc hk hm]
      exact (DoEnd_keeps (doV_fail _ _)).2
  · subst h
    rw [DoV_zero hc hk]
    split
    · exact (DoEnd_keeps (doV_fail _ _)).2
    · exact .inr ⟨5, rfl⟩
/-! ### at the store's own time -/
theorem maxI_self (a : Int) : maxI a a = a := by unfold maxI; split <;> rfl
theorem apply_now {s : Sto} (h : OkS s) {c : Cmd} (hc : checkC c = 0) : ApplyS s s.now c = (⟨s.now, (doE s.now s.ents c).1⟩, (doE s.now s.ents c).2, 0) ∧ OkS ⟨s.now, (doE s.now s.ents c).1⟩ := by
  have := apply_ok h h.now.1 h.now.2 hc
  rw [maxI_self, alive_same h] at this
  exact this
theorem apply_nowT {s : Sto} (h : OkT s) {c : Cmd} (hc : checkC c = 0) (hk : c.kind = 22 ∨ c.key ∈ nine) : ApplyS s s.now c = (⟨s.now, (doE s.now s.ents c).1⟩, (doE s.now s.ents c).2, 0) ∧ OkT ⟨s.now, (doE s.now s.ents c).1⟩ := by
  obtain ⟨e, ok⟩ := apply_now h.ok hc
  exact ⟨e, ⟨ok, doE_few h.ok.rise _ h.few hk⟩⟩
theorem apply_later {s : Sto} (h : OkS s) {w : Int} (h0 : 0 ≤ w) (h1 : s.now + w ≤ 1073741824) {c : Cmd} (hc : checkC c = 0) : ApplyS s (s.now + w) c = (⟨s.now + w, (doE (s.now + w) (aliveS (s.now + w) s) c).1⟩, (doE (s.now + w) (aliveS (s.now + w) s) c).2, 0) ∧ OkS ⟨s.now + w, (doE (s.now + w) (aliveS (s.now + w) s) c).1⟩ := by
  have hn := h.now
  have := apply_ok h (t := s.now + w) (by omega) h1 hc
  rw [maxI_of (by omega)] at this
  exact this
theorem apply_bad {s : Sto} (h : OkS s) {t : Int} (ht : t < 0 ∨ 1073741824 < t) (c : Cmd) : ApplyS s t c = (zeroS, toldR 0, 2) := by
  unfold ApplyS
  rw [if_neg (by rw [checkS_iff.2 h]; simp), if_pos ht]
theorem getE_filter {l : List Ent} (hr : Rise l) (p : Ent → Bool) (k : ByteArray) : getE (l.filter p) k = (getE l k).filter p := by
  cases h : getE l k with
  | none =>
    rw [getE_none] at h
    have : getE (l.filter p) k = none := getE_none.2 fun e he => h e (List.mem_filter.1 he).1
    rw [this]; rfl
  | some e =>
    obtain ⟨h1, h2⟩ := getE_mem h
    cases hp : p e with
    | true =>
      have hm : e ∈ l.filter p := List.mem_filter.2 ⟨h1, hp⟩
      have := mem_getE (hr.filter p) hm
      rw [h2] at this
      rw [this, Option.filter_some, if_pos hp]
    | false =>
      have : getE (l.filter p) k = none := getE_none.2 fun x hx hk => by
        obtain ⟨x1, x2⟩ := List.mem_filter.1 hx
        have hx3 := mem_getE hr x1
        rw [hk, h] at hx3
        cases hx3
        rw [hp] at x2; cases x2
      rw [this, Option.filter_some, if_neg (by rw [hp]; simp)]
/-! ### commands of a store's keys -/
theorem form_plain {k : Int} {key f t : ByteArray} {n : Int} (h1 : 1 ≤ k) (h2 : k ≤ 22) (hkey : k = 22 ∧ key = ⟨#[]⟩ ∨ k ≠ 22 ∧ okField key = true) (hf : (k = 4 ∨ k = 5 ∨ k = 6) ∧ okField f = true ∨ ¬ (k = 4 ∨ k = 5 ∨ k = 6) ∧ f = ⟨#[]⟩)
    (ht : okText t = true ∧ (k = 1 ∨ k = 4 ∨ k = 7 ∨ k = 8 ∨ k = 11 ∨ k = 12 ∨ k = 13 ∨ k = 14 ∨ k = 15 ∨ k = 16) ∨ t = ⟨#[]⟩) (hn : okCount n = true ∧ (k = 3 ∨ k = 14 ∨ k = 20) ∨ n = 0) : checkC ⟨k, key, f, t, n⟩ = 0 := by
  have ht' : okText t = true := by rcases ht with h | h; exact h.1; rw [h]; rfl
  have hn' : okCount n = true := by rcases hn with h | h; exact h.1; rw [h]; rfl
  have hform : formOk k key f t n = true := by
    unfold formOk
    have a1 : ((k != 22) || decide (key = ⟨#[]⟩)) = true := by
      rcases hkey with h | h
      · simp [h.2]
      · simp [h.1]
    have a2 : ((k == 4 || k == 5 || k == 6) || decide (f = ⟨#[]⟩)) = true := by
      rcases hf with h | h
      · rcases h.1 with e | e | e <;> simp [e]
      · simp [h.2]
    have a3 : ((k == 1 || k == 4 || k == 7 || k == 8 || k == 11 || k == 12 || k == 13 || k == 14 || k == 15 || k == 16) || decide (t = ⟨#[]⟩)) = true := by
      rcases ht with h | h
      · rcases h.2 with e | e | e | e | e | e | e | e | e | e <;> simp [e]
      · simp [h]
    have a4 : ((k == 3 || k == 14 || k == 20) || n == 0) = true := by
      rcases hn with h | h
      · rcases h.2 with e | e | e <;> simp [e]
      · simp [h]
    rw [a1, a2, a3, a4]; rfl
  unfold checkC checkCommand
  simp only
  rw [if_neg (by omega), if_neg (by omega), if_neg (by rw [hform]; simp)]
  have b : ((k != 22 && !okField key || ((k == 4 || k == 5 || k == 6) && !okField f)) || !okText t) = false := by
    rw [ht']
    have b1 : (k != 22 && !okField key) = false := by
      rcases hkey with h | h
      · simp [h.1]
      · simp [h.2]
    rw [b1]
    rcases hf with h | h
    · rw [h.2]; simp
    · have : (k == 4 || k == 5 || k == 6) = false := by
        have := h.1
        simp; omega
      rw [this]; simp
  rw [b, hn']
  simp
abbrev aK : ByteArray := ⟨#[97]⟩
theorem aK_nine : aK ∈ nine := some_nine 0
theorem aK_ok : okField aK = true := rfl
theorem ne12 {s : Sto} (h : OkT s) : s.ents.length ≠ 12 := by have := h.len; omega
theorem old_vk {s : Sto} (h : OkS s) (k : ByteArray) : Vk (((getE s.ents k).map Ent.val).getD zeroV) := by
  cases hg : getE s.ents k with
  | none => exact .inr rfl
  | some e => exact .inl (h.all e (getE_mem hg).1).val
theorem doE_val {l : List Ent} (now : Int) {c : Cmd} (hk : c.kind ≤ 18) : doE now l c = valE l c := by
  unfold doE
  rw [if_neg (by omega), if_neg (by omega), if_neg (by omega)]
/-- With a key's value is done what is done with a value. -/
theorem as_value {s : Sto} (h : OkT s) {c : Cmd} (hc : checkC c = 0) (hk : c.kind ≤ 18) (hn : c.key ∈ nine) :
    ∃ l', ApplyS s s.now c = (⟨s.now, l'⟩, newR s.ents c, 0) ∧ OkT ⟨s.now, l'⟩ ∧ DoV (((getE s.ents c.key).map Ent.val).getD zeroV) c = (newV s.ents c, newR s.ents c, 0) ∧
      (getE l' c.key).isSome = ((newV s.ents c).kind != 0) ∧ ((getE l' c.key).map Ent.val).getD zeroV = newV s.ents c ∧
      ((newR s.ents c).code ≠ 0 → l' = s.ents ∧ ∃ e, newR s.ents c = failR e) := by
  obtain ⟨e1, ok⟩ := apply_nowT h hc (.inr hn)
  rw [doE_val _ hk] at e1 ok
  obtain ⟨hd, hr⟩ := valE_spec h.ok.rise c
  have hvk := old_vk h.ok c.key
  obtain ⟨h0, hnv⟩ := DoV_vk hvk hc hk
  have hdv : DoV (((getE s.ents c.key).map Ent.val).getD zeroV) c = (newV s.ents c, newR s.ents c, 0) := by
    unfold newV newR
    rw [← h0]
  have hkeep := DoV_keeps hvk hc hk
  rw [hdv] at hkeep hnv
  simp only at hkeep hnv
  have h12 : ¬ ((getE s.ents c.key).isSome = false ∧ s.ents.length = 12) := fun hh => ne12 h hh.2
  rw [if_neg h12] at hr hd
  have hr' : (valE s.ents c).2 = newR s.ents c := by
    rw [hr]
    repeat' split
    all_goals rfl
  rw [hr'] at e1
  refine ⟨_, e1, ok, hdv, ?_, ?_, ?_⟩
  · rw [hd.here]
    by_cases a1 : (newR s.ents c).code ≠ 0
    · rw [if_pos a1]
      rcases hkeep with hk0 | ⟨e, he⟩
      · exact absurd hk0 a1
      · have hv : newV s.ents c = ((getE s.ents c.key).map Ent.val).getD zeroV := congrArg (·.1) he
        rw [hv]
        cases hg : getE s.ents c.key with
        | none => rfl
        | some e =>
          have := (h.ok.all e (getE_mem hg).1).val.kind
          simp; omega
    · rw [if_neg a1]
      by_cases a2 : (newV s.ents c).kind = 0 ∧ (getE s.ents c.key).isSome = true
      · rw [if_pos a2, a2.1]; rfl
      · rw [if_neg a2]
        by_cases a4 : (newV s.ents c).kind ≠ 0
        · rw [if_pos a4]; simpa using a4
        · rw [if_neg a4]
          have h00 : (newV s.ents c).kind = 0 := Classical.not_not.1 a4
          rw [h00]
          cases hg : getE s.ents c.key with
          | none => rfl
          | some e => exact absurd ⟨h00, by rw [hg]; rfl⟩ a2
  · rw [hd.here]
    by_cases a1 : (newR s.ents c).code ≠ 0
    · rw [if_pos a1]
      rcases hkeep with hk0 | ⟨e, he⟩
      · exact absurd hk0 a1
      · exact (congrArg (·.1) he).symm
    · rw [if_neg a1]
      have hz : (newV s.ents c).kind = 0 → newV s.ents c = zeroV := fun h0 => by
        rcases hnv with h1 | h1
        · have := h1.kind; omega
        · exact h1
      by_cases a2 : (newV s.ents c).kind = 0 ∧ (getE s.ents c.key).isSome = true
      · rw [if_pos a2, hz a2.1]; rfl
      · rw [if_neg a2]
        by_cases a4 : (newV s.ents c).kind ≠ 0
        · rw [if_pos a4]; rfl
        · rw [if_neg a4]
          have h00 : (newV s.ents c).kind = 0 := Classical.not_not.1 a4
          rw [hz h00]
          cases hg : getE s.ents c.key with
          | none => rfl
          | some e => exact absurd ⟨h00, by rw [hg]; rfl⟩ a2
  · intro hcode
    refine ⟨?_, ?_⟩
    · have hcode' : (DoV (((getE s.ents c.key).map Ent.val).getD zeroV) c).2.1.code ≠ 0 := hcode
      unfold valE
      rw [oldV_get h.ok.rise, if_pos hcode']
    · rcases hkeep with hk0 | ⟨e, he⟩
      · exact absurd hk0 hcode
      · exact ⟨e, congrArg (fun q => q.2.1) he⟩
/-- What is refused changes nothing. -/
theorem fail_keeps {s : Sto} (h : OkT s) {c : Cmd} (hc : checkC c = 0) (hn : c.kind = 22 ∨ c.key ∈ nine) : (doE s.now s.ents c).2.code = 0 ∨ ∃ e, doE s.now s.ents c = (s.ents, failR e) := by
  have hkind := checkC_kind hc
  have hf := (checkC_facts hc).2.1
  by_cases k22 : c.kind = 22
  · unfold doE; rw [if_pos k22]; exact .inl rfl
  · by_cases k19 : c.kind = 19
    · unfold doE; rw [if_neg k22, if_pos k19]; split <;> exact .inl rfl
    · by_cases k20 : c.kind = 20 ∨ c.kind = 21
      · unfold doE
        rw [if_neg k22, if_neg k19, if_pos k20]
        obtain ⟨t1, t2⟩ := timedE_spec h.ok.rise s.now c
        cases hg : getE s.ents c.key with
        | none => rw [t1 hg]; exact .inr ⟨_, rfl⟩
        | some e =>
          obtain ⟨t3, t4, t5⟩ := t2 e hg
          by_cases k4 : c.kind = 21
          · rw [t3 k4]; exact .inl rfl
          · by_cases k5 : c.n < 1 ∨ 1073741824 - s.now < c.n
            · rw [t4 k4 k5]; exact .inr ⟨_, rfl⟩
            · left; rw [(t5 k4 k5).1]; rfl
      · have hk : c.kind ≤ 18 := by omega
        obtain ⟨l', e1, ok, _, _, _, hfail⟩ := as_value h hc hk (hn.resolve_left k22)
        have e2 := (apply_nowT h hc hn).1
        rw [e2] at e1
        by_cases h0 : (newR s.ents c).code ≠ 0
        · obtain ⟨f1, e, f2⟩ := hfail h0
          refine .inr ⟨e, ?_⟩
          have g1 : (doE s.now s.ents c).1 = l' := congrArg (fun q => q.1.ents) e1
          have g2 : (doE s.now s.ents c).2 = newR s.ents c := congrArg (fun q => q.2.1) e1
          exact Prod.ext (g1.trans f1) (g2.trans f2)
        · left
          have g2 : (doE s.now s.ents c).2 = newR s.ents c := congrArg (fun q => q.2.1) e1
          rw [g2]; exact Classical.not_not.1 h0
/-! ### single commands -/
def lifeC (k : ByteArray) : Cmd := ⟨21, k, ⟨#[]⟩, ⟨#[]⟩, 0⟩
def expC (k : ByteArray) (n : Int) : Cmd := ⟨20, k, ⟨#[]⟩, ⟨#[]⟩, n⟩
def delC (k : ByteArray) : Cmd := ⟨19, k, ⟨#[]⟩, ⟨#[]⟩, 0⟩
def keysC : Cmd := ⟨22, ⟨#[]⟩, ⟨#[]⟩, ⟨#[]⟩, 0⟩
def allK (k : ByteArray) : Cmd := ⟨18, k, ⟨#[]⟩, ⟨#[]⟩, 0⟩
def getK (k : ByteArray) : Cmd := ⟨2, k, ⟨#[]⟩, ⟨#[]⟩, 0⟩
def putK (k t : ByteArray) : Cmd := ⟨1, k, ⟨#[]⟩, t, 0⟩
def addK (k : ByteArray) (n : Int) : Cmd := ⟨3, k, ⟨#[]⟩, ⟨#[]⟩, n⟩
theorem lifeC_ok {k : ByteArray} (h : okField k = true) : checkC (lifeC k) = 0 := form_plain (by omega) (by omega) (.inr ⟨by omega, h⟩) (.inr ⟨by omega, rfl⟩) (.inr rfl) (.inr rfl)
theorem expC_ok {k : ByteArray} (h : okField k = true) {n : Int} (hn : okCount n = true) : checkC (expC k n) = 0 := form_plain (by omega) (by omega) (.inr ⟨by omega, h⟩) (.inr ⟨by omega, rfl⟩) (.inr rfl) (.inl ⟨hn, by omega⟩)
theorem delC_ok {k : ByteArray} (h : okField k = true) : checkC (delC k) = 0 := form_plain (by omega) (by omega) (.inr ⟨by omega, h⟩) (.inr ⟨by omega, rfl⟩) (.inr rfl) (.inr rfl)
theorem keysC_ok : checkC keysC = 0 := form_plain (by omega) (by omega) (.inl ⟨rfl, rfl⟩) (.inr ⟨by omega, rfl⟩) (.inr rfl) (.inr rfl)
theorem allK_ok {k : ByteArray} (h : okField k = true) : checkC (allK k) = 0 := form_plain (by omega) (by omega) (.inr ⟨by omega, h⟩) (.inr ⟨by omega, rfl⟩) (.inr rfl) (.inr rfl)
theorem getK_ok {k : ByteArray} (h : okField k = true) : checkC (getK k) = 0 := form_plain (by omega) (by omega) (.inr ⟨by omega, h⟩) (.inr ⟨by omega, rfl⟩) (.inr rfl) (.inr rfl)
theorem putK_ok {k t : ByteArray} (h : okField k = true) (ht : okText t = true) : checkC (putK k t) = 0 := form_plain (by omega) (by omega) (.inr ⟨by omega, h⟩) (.inr ⟨by omega, rfl⟩) (.inl ⟨ht, by omega⟩) (.inr rfl)
theorem addK_ok {k : ByteArray} (h : okField k = true) {n : Int} (hn : okCount n = true) : checkC (addK k n) = 0 := form_plain (by omega) (by omega) (.inr ⟨by omega, h⟩) (.inr ⟨by omega, rfl⟩) (.inr rfl) (.inl ⟨hn, by omega⟩)
theorem doE_life {l : List Ent} (hr : Rise l) (now : Int) (k : ByteArray) : doE now l (lifeC k) = match getE l k with | none => (l, failR 5) | some e => (l, toldR (if e.till - now < 0 then 0 else e.till - now)) := by
  unfold doE
  rw [if_neg (by show (21 : Int) ≠ 22; omega), if_neg (by show (21 : Int) ≠ 19; omega), if_pos (.inr rfl)]
  obtain ⟨t1, t2⟩ := timedE_spec hr now (lifeC k)
  cases hg : getE l k with
  | none => exact t1 hg
  | some e => exact (t2 e hg).1 rfl
theorem doE_del {l : List Ent} (hr : Rise l) (now : Int) (k : ByteArray) : Did l k none (doE now l (delC k)).1 ∧ (doE now l (delC k)).2 = toldR (flagN (getE l k).isSome) ∧ (getE l k = none → (doE now l (delC k)).1 = l) := by
  have hd : doE now l (delC k) = if inE l k then (delAt l (findE l k), toldR 1) else (l, toldR 0) := by
    unfold doE
    rw [if_neg (by show (19 : Int) ≠ 22; omega), if_pos (show (delC k).kind = 19 from rfl)]
    rfl
  rw [hd]
  have h1 := (inE_get hr k).1
  cases h : inE l k with
  | true =>
    rw [h] at h1
    rw [← h1]
    exact ⟨did_del hr h, rfl, fun hn => by rw [hn] at h1; cases h1⟩
  | false =>
    rw [h] at h1
    have hn : getE l k = none := by cases hg : getE l k with | none => rfl | some => rw [hg] at h1; cases h1
    refine ⟨?_, by rw [← h1]; rfl, fun _ => rfl⟩
    have := Did.none hr k
    rw [hn] at this
    exact this
theorem doE_keys (now : Int) (l : List Ent) : doE now l keysC = (l, ⟨0, ⟨#[]⟩, 0, l.map Ent.key⟩) := by
  unfold doE
  rw [if_pos (show keysC.kind = 22 from rfl)]
/-- A text that is put. -/
theorem put_val {v : Val} {k t : ByteArray} (hk : okField k = true) (hv : Vk v) (ht : okText t = true) : DoV v (putK k t) = (⟨1, t, 0, [], [], []⟩, toldR 0, 0) := by
  have hd : ∀ v, doV v (putK k t) = (⟨1, t, 0, [], [], []⟩, toldR 0) := fun v => by unfold doV; simp [putK]
  rcases hv with h | h
  · rw [DoV_go (checkV_iff.2 h) (putK_ok hk ht) (by show (1 : Int) ≤ 18; omega) (by simp [putK, kindOfC]), hd]
    exact DoEnd_some rfl (fun h => absurd h.1 (by show ¬ (3 : Int) ≤ 1; omega))
  · rw [h, DoV_zero (putK_ok hk ht) (by show (1 : Int) ≤ 18; omega), if_pos (show makesC _ = true from rfl), hd]
    exact DoEnd_some rfl (fun h => absurd h.1 (by show ¬ (3 : Int) ≤ 1; omega))
theorem doE_put {l : List Ent} (hr : Rise l) (ha : ∀ e ∈ l, OkV e.val) (hl : l.length ≠ 12) (now : Int) {k t : ByteArray} (hk : okField k = true) (ht : okText t = true) : Did l k (some ⟨k, ⟨1, t, 0, [], [], []⟩, 0⟩) (doE now l (putK k t)).1 ∧ (doE now l (putK k t)).2 = toldR 0 := by
  rw [doE_val now (by show (1 : Int) ≤ 18; omega)]
  obtain ⟨hd, hr2⟩ := valE_spec hr (putK k t)
  have hvk : Vk (((getE l k).map Ent.val).getD zeroV) := by
    cases hg : getE l k with
    | none => exact .inr rfl
    | some e => exact .inl (ha e (getE_mem hg).1)
  have hdv := put_val hk hvk ht
  have h1 : newV l (putK k t) = ⟨1, t, 0, [], [], []⟩ := congrArg (·.1) hdv
  have h2 : newR l (putK k t) = toldR 0 := congrArg (fun q => q.2.1) hdv
  rw [h1, h2] at hd hr2
  have c1 : ¬ (toldR 0).code ≠ 0 := fun h => h rfl
  have c2 : ¬ ((1 : Int) = 0 ∧ (getE l k).isSome = true) := fun h => absurd h.1 (by omega)
  have c3 : ¬ ((getE l k).isSome = false ∧ l.length = 12) := fun h => hl h.2
  have c4 : (1 : Int) ≠ 0 := by omega
  rw [if_neg c1] at hd hr2
  have e1 : (Val.mk 1 t 0 [] [] []).kind = 1 := rfl
  rw [e1] at hd hr2
  have ek : (putK k t).key = k := rfl
  rw [ek] at hd hr2
  rw [if_neg c2, if_neg c3] at hd hr2
  rw [if_pos c4] at hd
  refine ⟨?_, hr2⟩
  have hp : putE l (putK k t) ⟨1, t, 0, [], [], []⟩ = ⟨k, ⟨1, t, 0, [], [], []⟩, 0⟩ := by
    unfold putE
    rw [ek]
    cases getE l k with
    | none => rfl
    | some e => simp [putK]
  rw [hp] at hd
  exact hd
theorem doE_exp {l : List Ent} (hr : Rise l) (now n : Int) (k : ByteArray) (h1 : 1 ≤ n) (h2 : n ≤ 1073741824 - now) :
    (getE l k = none → doE now l (expC k n) = (l, failR 5)) ∧ ∀ e, getE l k = some e → (doE now l (expC k n)).2 = toldR 0 ∧ Did l k (some ⟨k, e.val, now + n⟩) (doE now l (expC k n)).1 := by
  have hd : doE now l (expC k n) = timedE now l (expC k n) := by
    unfold doE
    rw [if_neg (by show (20 : Int) ≠ 22; omega), if_neg (by show (20 : Int) ≠ 19; omega), if_pos (.inl rfl)]
  rw [hd]
  obtain ⟨t1, t2⟩ := timedE_spec hr now (expC k n)
  refine ⟨t1, fun e he => ?_⟩
  exact (t2 e he).2.2 (by show (20 : Int) ≠ 21; omega) (by show ¬ (n < 1 ∨ 1073741824 - now < n); omega)
abbrev tV (t : ByteArray) : Val := ⟨1, t, 0, [], [], []⟩
theorem tV_ok {t : ByteArray} (h : okText t = true) : OkV (tV t) :=
  ⟨⟨(by show (1 : Int) ≤ 1; omega), (by show (1 : Int) ≤ 6; omega)⟩, .inl rfl, .inr rfl, .inr rfl, .inr (.inr rfl), .inr rfl, fun h => absurd h (by show ¬ (3 : Int) ≤ 1; omega), h, by simp, by simp, by simp, rfl, .nil, .nil, fun _ => .nil, .nil⟩
theorem doE_made {l : List Ent} (hr : Rise l) (now : Int) {c : Cmd} (hk : c.kind ≤ 18) {v : Val} {r : Rep} (hdv : DoV (((getE l c.key).map Ent.val).getD zeroV) c = (v, r, 0)) (h0 : r.code = 0) (hv : v.kind ≠ 0) (hl : (getE l c.key).isSome = true ∨ l.length ≠ 12) :
    Did l c.key (some (putE l c v)) (doE now l c).1 ∧ (doE now l c).2 = r := by
  rw [doE_val now hk]
  obtain ⟨hd, hr2⟩ := valE_spec hr c
  have h1 : newV l c = v := congrArg (·.1) hdv
  have h2 : newR l c = r := congrArg (fun q => q.2.1) hdv
  rw [h1, h2] at hd hr2
  have c1 : ¬ r.code ≠ 0 := fun h => h h0
  have c2 : ¬ (v.kind = 0 ∧ (getE l c.key).isSome = true) := fun h => hv h.1
  have c3 : ¬ ((getE l c.key).isSome = false ∧ l.length = 12) := fun h => by
    rcases hl with hl | hl
    · rw [hl] at h; exact absurd h.1 (by simp)
    · exact hl h.2
  rw [if_neg c1, if_neg c2, if_neg c3] at hr2
  rw [if_neg c1, if_neg c2, if_neg c3, if_pos hv] at hd
  exact ⟨hd, hr2⟩
/-! ### the last step of a store of steps -/
theorem storeV_last {l : List Stp} {x : Stp} (hl : ∀ y ∈ l, y.Ok) (hx : x.Ok) (hlen : l.length ≤ 39) :
    ∃ s n, OkT s ∧ s.now ≤ n ∧ 0 ≤ n ∧ n ≤ 440 ∧ storeV (l ++ [x]) = (ApplyS s (n + pk x.wait 12) (cmdR x.raw)).1 ∧ (ApplyS s (n + pk x.wait 12) (cmdR x.raw)).2.2 = 0 := by
  obtain ⟨g1, g2, g3, g4⟩ := foldT_ok l (0, zeroS) hl (Int.le_refl _) (by show (0 : Int) + 11 * (l.length : Int) ≤ 1000000; omega) okT_zero (Int.le_refl _)
  have hp := pk_range (n := x.wait) (m := 12) (by omega)
  have z : ((0, zeroS) : Int × Sto).1 = 0 := rfl
  rw [z] at g3
  have hst : storeV (l ++ [x]) = (stepT (l.foldl stepT (0, zeroS)) x).2 := by
    unfold storeV foldT
    rw [List.take_of_length_le (by rw [List.length_append]; simp; omega), List.foldl_append]
    rfl
  rw [hst]
  generalize l.foldl stepT (0, zeroS) = Q at *
  obtain ⟨s', r, e1, e2, e3⟩ := apply_okT g1 (t := Q.1 + pk x.wait 12) (by omega) (by omega) (cmdR_ok hx.raw) (cmdR_key x.raw)
  have h0 : (ApplyS Q.2 (Q.1 + pk x.wait 12) (cmdR x.raw)).2.2 = 0 := by rw [e1]
  refine ⟨Q.2, Q.1, g1, g4, g2, by omega, ?_, h0⟩
  unfold stepT
  simp only
  rw [if_pos h0]
/-- A key that is put last is there. -/
theorem storeV_put {l : List Stp} {x : Stp} (hl : ∀ y ∈ l, y.Ok) (hx : x.Ok) (hlen : l.length ≤ 39) (hk : (cmdR x.raw).kind = 1) : 0 < (storeV (l ++ [x])).ents.length := by
  obtain ⟨s, n, h1, h2, h3, h4, h5, h6⟩ := storeV_last hl hx hlen
  have hp := pk_range (n := x.wait) (m := 12) (by omega)
  have hc := cmdR_ok hx.raw
  obtain ⟨e, ok⟩ := apply_ok h1.ok (t := n + pk x.wait 12) (by omega) (by omega) hc
  rw [h5, e]
  obtain ⟨a1, a2, a3⟩ := alive_ok h1.ok (now := maxI s.now (n + pk x.wait 12)) (maxI_le _ _).1
  have hkey := checkC_key hc (by omega)
  obtain ⟨k1, k2, k3, k4, k5⟩ : ∃ k f t m y, cmdR x.raw = ⟨k, f, t, m, y⟩ := ⟨_, _, _, _, _, rfl⟩
  have hfacts := checkC_facts hc
  have hvk : Vk (((getE (aliveS (maxI s.now (n + pk x.wait 12)) s) (cmdR x.raw).key).map Ent.val).getD zeroV) := by
    cases hg : getE (aliveS (maxI s.now (n + pk x.wait 12)) s) (cmdR x.raw).key with
    | none => exact .inr rfl
    | some e => exact .inl (a2 e (getE_mem hg).1).val
  have hd : ∀ v, doV v (cmdR x.raw) = (tV (cmdR x.raw).text, toldR 0) := fun v => by unfold doV; rw [if_pos hk]
  have hdv : DoV (((getE (aliveS (maxI s.now (n + pk x.wait 12)) s) (cmdR x.raw).key).map Ent.val).getD zeroV) (cmdR x.raw) = (tV (cmdR x.raw).text, toldR 0, 0) := by
    rcases hvk with h | h
    · rw [DoV_go (checkV_iff.2 h) hc (by omega) (by rw [hk]; simp [kindOfC]), hd]
      exact DoEnd_some rfl (fun h => absurd h.1 (by show ¬ (3 : Int) ≤ 1; omega))
    · rw [h, DoV_zero hc (by omega), if_pos (by rw [hk]; rfl), hd]
      exact DoEnd_some rfl (fun h => absurd h.1 (by show ¬ (3 : Int) ≤ 1; omega))
  have hfew : (aliveS (maxI s.now (n + pk x.wait 12)) s).length ≠ 12 := by
    have := h1.len
    have := List.length_filter_le (fun e => !goneE (maxI s.now (n + pk x.wait 12)) e) s.ents
    unfold aliveS
    omega
  obtain ⟨d, _⟩ := doE_made a1 (maxI s.now (n + pk x.wait 12)) (c := cmdR x.raw) (by omega) hdv rfl (by show (1 : Int) ≠ 0; omega) (.inr hfew)
  exact List.length_pos_of_mem (getE_mem d.here).1
end Go.Proofs.YtmaiphnabebplaaGreatDoor
