/- Texts joined: A9 G2 Yw Yp WM WE. -/
import Derived.Test.YtpdcfljbabpakaaPk3
/- With a store: what is kept, and single commands. -/
set_option linter.unusedVariables false
set_option linter.unusedSimpArgs false
set_option maxRecDepth 100000
set_option maxHeartbeats 8000000
namespace Go.Proofs.Ytpdcfljbabpakaa
open Go Go.RowKit Go.Proofs.AE
variable {G : Nat → AV}
/-! ### what fails changes nothing -/
def IsFail (r : Rep) : Prop := r.code = 0 ∨ ∃ e, r = failR e
theorem hashV_fail (l : List Pr) (c : Cmd) : IsFail (hashV l c).2 := by
  unfold hashV; simp only
  repeat' split
  all_goals first | exact .inl rfl | exact .inr ⟨_, rfl⟩
theorem listV_fail (l : List ByteArray) (c : Cmd) : IsFail (listV l c).2 := by
  unfold listV
  repeat' split
  all_goals first | exact .inl rfl | exact .inr ⟨_, rfl⟩
theorem setV_fail (l : List ByteArray) (c : Cmd) : IsFail (setV l c).2 := by
  unfold setV; simp only
  repeat' split
  all_goals first | exact .inl rfl | exact .inr ⟨_, rfl⟩
theorem ranksV_fail (l : List Sc) (c : Cmd) : IsFail (ranksV l c).2 := by
  unfold ranksV; simp only
  repeat' split
  all_goals first | exact .inl rfl | exact .inr ⟨_, rfl⟩
theorem doV_fail (v : Val) (c : Cmd) : IsFail (doV v c).2 := by
  unfold doV
  repeat' split
  all_goals first | exact .inl rfl | exact .inr ⟨_, rfl⟩ | exact hashV_fail _ _ | exact listV_fail _ _ | exact setV_fail _ _ | exact ranksV_fail _ _
theorem DoEnd_keeps {v : Val} {q : Val × Rep} (hq : IsFail q.2) : (DoEnd v q).2.2 = 0 ∧ ((DoEnd v q).2.1.code = 0 ∨ ∃ e, DoEnd v q = (v, failR e, 0)) := by
  unfold DoEnd
  by_cases h : q.2.code ≠ 0
  · rw [if_pos h]
    refine ⟨rfl, .inr ?_⟩
    rcases hq with hq | ⟨e, he⟩
    · exact absurd hq h
    · exact ⟨e, by rw [he]⟩
  · rw [if_neg h]
    have h0 : q.2.code = 0 := Classical.not_not.1 h
    split <;> exact ⟨rfl, .inl h0⟩
theorem DoV_keeps {v : Val} {c : Cmd} (hv : Vk v) (hc : checkC c = 0) (hk : c.kind ≤ 18) : (DoV v c).2.1.code = 0 ∨ ∃ e, DoV v c = (v, failR e, 0) := by
  rcases hv with h | h
  · have hv := checkV_iff.2 h
    by_cases hm : (kindOfC c.kind ≠ 0 ∧ kindOfC c.kind ≠ v.kind) ∨ (17 ≤ c.kind ∧ v.kind < 3)
    · exact .inr ⟨4, DoV_type hv hc hk hm⟩
    · rw [DoV_go hv hc hk hm]
      exact (DoEnd_keeps (doV_fail _ _)).2
  · subst h
    rw [DoV_zero hc hk]
    split
    · exact (DoEnd_keeps (doV_fail _ _)).2
    · exact .inr ⟨5, rfl⟩
/-! ### at the store's own time -/
theorem maxI_self (a : Int) : maxI a a = a := by unfold maxI; split <;> rfl
theorem apply_now {s : Sto} (h : OkS s) {c : Cmd} (hc : checkC c = 0) : ApplyS s s.now c = (⟨s.now, (doE s.now s.ents c).1⟩, (doE s.now s.ents c).2, 0) ∧ OkS ⟨s.now, (doE s.now s.ents c).1⟩ := by
  have := apply_ok h h.now.1 h.now.2 hc
  rw [maxI_self, alive_same h] at this
  exact this
theorem apply_nowT {s : Sto} (h : OkT s) {c : Cmd} (hc : checkC c = 0) (hk : c.kind = 22 ∨ c.key ∈ nine) : ApplyS s s.now c = (⟨s.now, (doE s.now s.ents c).1⟩, (doE s.now s.ents c).2, 0) ∧ OkT ⟨s.now, (doE s.now s.ents c).1⟩ := by
  obtain ⟨e, ok⟩ := apply_now h.ok hc
  exact ⟨e, ⟨ok, doE_few h.ok.rise _ h.few hk⟩⟩
theorem apply_later {s : Sto} (h : OkS s) {w : Int} (h0 : 0 ≤ w) (h1 : s.now + w ≤ 1073741824) {c : Cmd} (hc : checkC c = 0) : ApplyS s (s.now + w) c = (⟨s.now + w, (doE (s.now + w) (aliveS (s.now + w) s) c).1⟩, (doE (s.now + w) (aliveS (s.now + w) s) c).2, 0) ∧ OkS ⟨s.now + w, (doE (s.now + w) (aliveS (s.now + w) s) c).1⟩ := by
  have hn := h.now
  have := apply_ok h (t := s.now + w) (by omega) h1 hc
  rw [maxI_of (by omega)] at this
  exact this
theorem apply_bad {s : Sto} (h : OkS s) {t : Int} (ht : t < 0 ∨ 1073741824 < t) (c : Cmd) : ApplyS s t c = (zeroS, toldR 0, 2) := by
  unfold ApplyS
  rw [if_neg (by rw [checkS_iff.2 h]; simp), if_pos ht]
theorem getE_filter {l : List Ent} (hr : Rise l) (p : Ent → Bool) (k : ByteArray) : getE (l.filter p) k = (getE l k).filter p := by
  cases h : getE l k with
  | none =>
    rw [getE_none] at h
    have : getE (l.filter p) k = none := getE_none.2 fun e he => h e (List.mem_filter.1 he).1
    rw [this]; rfl
  | some e =>
    obtain ⟨h1, h2⟩ := getE_mem h
    cases hp : p e with
    | true =>
      have hm : e ∈ l.filter p := List.mem_filter.2 ⟨h1, hp⟩
      have := mem_getE (hr.filter p) hm
      rw [h2] at this
      rw [this, Option.filter_some, if_pos hp]
    | false =>
      have : getE (l.filter p) k = none := getE_none.2 fun x hx hk => by
        obtain ⟨x1, x2⟩ := List.mem_filter.1 hx
        have hx3 := mem_getE hr x1
        rw [hk, h] at hx3
        cases hx3
        rw [hp] at x2; cases x2
      rw [this, Option.filter_some, if_neg (by rw [hp]; simp)]
/-! ### commands of a store's keys -/
theorem form_plain {k : Int} {key f t : ByteArray} {n : Int} (h1 : 1 ≤ k) (h2 : k ≤ 22) (hkey : k = 22 ∧ key = ⟨#[]⟩ ∨ k ≠ 22 ∧ okField key = true) (hf : (k = 4 ∨ k = 5 ∨ k = 6) ∧ okField f = true ∨ ¬ (k = 4 ∨ k = 5 ∨ k = 6) ∧ f = ⟨#[]⟩)
    (ht : okText t = true ∧ (k = 1 ∨ k = 4 ∨ k = 7 ∨ k = 8 ∨ k = 11 ∨ k = 12 ∨ k = 13 ∨ k = 14 ∨ k = 15 ∨ k = 16) ∨ t = ⟨#[]⟩) (hn : okCount n = true ∧ (k = 3 ∨ k = 14 ∨ k = 20) ∨ n = 0) : checkC ⟨k, key, f, t, n⟩ = 0 := by
  have ht' : okText t = true := by rcases ht with h | h; exact h.1; rw [h]; rfl
  have hn' : okCount n = true := by rcases hn with h | h; exact h.1; rw [h]; rfl
  have hform : formOk k key f t n = true := by
    unfold formOk
    have a1 : ((k != 22) || decide (key = ⟨#[]⟩)) = true := by
      rcases hkey with h | h
      · simp [h.2]
      · simp [h.1]
    have a2 : ((k == 4 || k == 5 || k == 6) || decide (f = ⟨#[]⟩)) = true := by
      rcases hf with h | h
      · rcases h.1 with e | e | e <;> simp [e]
      · simp [h.2]
    have a3 : ((k == 1 || k == 4 || k == 7 || k == 8 || k == 11 || k == 12 || k == 13 || k == 14 || k == 15 || k == 16) || decide (t = ⟨#[]⟩)) = true := by
      rcases ht with h | h
      · rcases h.2 with e | e | e | e | e | e | e | e | e | e <;> simp [e]
      · simp [h]
    have a4 : ((k == 3 || k == 14 || k == 20) || n == 0) = true := by
      rcases hn with h | h
      · rcases h.2 with e | e | e <;> simp [e]
      · simp [h]
    rw [a1, a2, a3, a4]; rfl
  unfold checkC checkCommand
  simp only
  rw [if_neg (by omega), if_neg (by omega), if_neg (by rw [hform]; simp)]
  have b : ((k != 22 && !okField key || ((k == 4 || k == 5 || k == 6) && !okField f)) || !okText t) = false := by
    rw [ht']
    have b1 : (k != 22 && !okField key) = false := by
      rcases hkey with h | h
      · simp [h.1]
      · simp [h.2]
    rw [b1]
    rcases hf with h | h
    · rw [h.2]; simp
    · have : (k == 4 || k == 5 || k == 6) = false := by
        have := h.1
        simp; omega
      rw [this]; simp
  rw [b, hn']
  simp
abbrev aK : ByteArray := ⟨#[97]⟩
theorem aK_nine : aK ∈ nine := some_nine 0
theorem aK_ok : okField aK = true := rfl
theorem ne12 {s : Sto} (h : OkT s) : s.ents.length ≠ 12 := by have := h.len; omega
theorem old_vk {s : Sto} (h : OkS s) (k : ByteArray) : Vk (((getE s.ents k).map Ent.val).getD zeroV) := by
  cases hg : getE s.ents k with
  | none => exact .inr rfl
  | some e => exact .inl (h.all e (getE_mem hg).1).val
theorem doE_val {l : List Ent} (now : Int) {c : Cmd} (hk : c.kind ≤ 18) : doE now l c = valE l c := by
  unfold doE
  rw [if_neg (by omega), if_neg (by omega), if_neg (by omega)]
/-- With a key's value is done what is done with a value. -/
theorem as_value {s : Sto} (h : OkT s) {c : Cmd} (hc : checkC c = 0) (hk : c.kind ≤ 18) (hn : c.key ∈ nine) :
    ∃ l', ApplyS s s.now c = (⟨s.now, l'⟩, newR s.ents c, 0) ∧ OkT ⟨s.now, l'⟩ ∧ DoV (((getE s.ents c.key).map Ent.val).getD zeroV) c = (newV s.ents c, newR s.ents c, 0) ∧
      (getE l' c.key).isSome = ((newV s.ents c).kind != 0) ∧ ((getE l' c.key).map Ent.val).getD zeroV = newV s.ents c ∧
      ((newR s.ents c).code ≠ 0 → l' = s.ents ∧ ∃ e, newR s.ents c = failR e) := by
  obtain ⟨e1, ok⟩ := apply_nowT h hc (.inr hn)
  rw [doE_val _ hk] at e1 ok
  obtain ⟨hd, hr⟩ := valE_spec h.ok.rise c
  have hvk := old_vk h.ok c.key
  obtain ⟨h0, hnv⟩ := DoV_vk hvk hc hk
  have hdv : DoV (((getE s.ents c.key).map Ent.val).getD zeroV) c = (newV s.ents c, newR s.ents c, 0) := by
    unfold newV newR
    rw [← h0]
  have hkeep := DoV_keeps hvk hc hk
  rw [hdv] at hkeep hnv
  simp only at hkeep hnv
  have h12 : ¬ ((getE s.ents c.key).isSome = false ∧ s.ents.length = 12) := fun hh => ne12 h hh.2
  rw [if_neg h12] at hr hd
  have hr' : (valE s.ents c).2 = newR s.ents c := by
    rw [hr]
    repeat' split
    all_goals rfl
  rw [hr'] at e1
  refine ⟨_, e1, ok, hdv, ?_, ?_, ?_⟩
  · rw [hd.here]
    by_cases a1 : (newR s.ents c).code ≠ 0
    · rw [if_pos a1]
      rcases hkeep with hk0 | ⟨e, he⟩
      · exact absurd hk0 a1
      · have hv : newV s.ents c = ((getE s.ents c.key).map Ent.val).getD zeroV := congrArg (·.1) he
        rw [hv]
        cases hg : getE s.ents c.key with
        | none => rfl
        | some e =>
          have := (h.ok.all e (getE_mem hg).1).val.kind
          simp; omega
    · rw [if_neg a1]
      by_cases a2 : (newV s.ents c).kind = 0 ∧ (getE s.ents c.key).isSome = true
      · rw [if_pos a2, a2.1]; rfl
      · rw [if_neg a2]
        by_cases a4 : (newV s.ents c).kind ≠ 0
        · rw [if_pos a4]; simpa using a4
        · rw [if_neg a4]
          have h00 : (newV s.ents c).kind = 0 := Classical.not_not.1 a4
          rw [h00]
          cases hg : getE s.ents c.key with
          | none => rfl
          | some e => exact absurd ⟨h00, by rw [hg]; rfl⟩ a2
  · rw [hd.here]
    by_cases a1 : (newR s.ents c).code ≠ 0
    · rw [if_pos a1]
      rcases hkeep with hk0 | ⟨e, he⟩
      · exact absurd hk0 a1
      · exact (congrArg (·.1) he).symm
    · rw [if_neg a1]
      have hz : (newV s.ents c).kind = 0 → newV s.ents c = zeroV := fun h0 => by
        rcases hnv with h1 | h1
        · have := h1.kind; omega
        · exact h1
      by_cases a2 : (newV s.ents c).kind = 0 ∧ (getE s.ents c.key).isSome = true
      · rw [if_pos a2, hz a2.1]; rfl
      · rw [if_neg a2]
        by_cases a4 : (newV s.ents c).kind ≠ 0
        · rw [if_pos a4]; rfl
        · rw [if_neg a4]
          have h00 : (newV s.ents c).kind = 0 := Classical.not_not.1 a4
          rw [hz h00]
          cases hg : getE s.ents c.key with
          | none => rfl
          | some e => exact absurd ⟨h00, by rw [hg]; rfl⟩ a2
  · intro hcode
    refine ⟨?_, ?_⟩
    · have hcode' : (DoV (((getE s.ents c.key).map Ent.val).getD zeroV) c).2.1.code ≠ 0 := hcode
      unfold valE
      rw [oldV_get h.ok.rise, if_pos hcode']
    · rcases hkeep with hk0 | ⟨e, he⟩
      · exact absurd hk0 hcode
      · exact ⟨e, congrArg (fun q => q.2.1) he⟩
/-- What is refused changes nothing. -/
theorem fail_keeps {s : Sto} (h : OkT s) {c : Cmd} (hc : checkC c = 0) (hn : c.kind = 22 ∨ c.key ∈ nine) : (doE s.now s.ents c).2.code = 0 ∨ ∃ e, doE s.now s.ents c = (s.ents, failR e) := by
  have hkind := checkC_kind hc
  have hf := (checkC_facts hc).2.1
  by_cases k22 : c.kind = 22
  · unfold doE; rw [if_pos k22]; exact .inl rfl
  · by_cases k19 : c.kind = 19
    · unfold doE; rw [if_neg k22, if_pos k19]; split <;> exact .inl rfl
    · by_cases k20 : c.kind = 20 ∨ c.kind = 21
      · unfold doE
        rw [if_neg k22, if_neg k19, if_pos k20]
        obtain ⟨t1, t2⟩ := timedE_spec h.ok.rise s.now c
        cases hg : getE s.ents c.key with
        | none => rw [t1 hg]; exact .inr ⟨_, rfl⟩
        | some e =>
          obtain ⟨t3, t4, t5⟩ := t2 e hg
          by_cases k4 : c.kind = 21
          · rw [t3 k4]; exact .inl rfl
          · by_cases k5 : c.n < 1 ∨ 1073741824 - s.now < c.n
            · rw [t4 k4 k5]; exact .inr ⟨_, rfl⟩
            · left; rw [(t5 k4 k5).1]; rfl
      · have hk : c.kind ≤ 18 := by omega
        obtain ⟨l', e1, ok, _, _, _, hfail⟩ := as_value h hc hk (hn.resolve_left k22)
        have e2 := (apply_nowT h hc hn).1
        rw [e2] at e1
        by_cases h0 : (newR s.ents c).code ≠ 0
        · obtain ⟨f1, e, f2⟩ := hfail h0
          refine .inr ⟨e, ?_⟩
          have g1 : (doE s.now s.ents c).1 = l' := congrArg (fun q => q.1.ents) e1
          have g2 : (doE s.now s.ents c).2 = newR s.ents c := congrArg (fun q => q.2.1) e1
          exact Prod.ext (g1.trans f1) (g2.trans f2)
        · left
          have g2 : (doE s.now s.ents c).2 = newR s.ents c := congrArg (fun q => q.2.1) e1
          rw [g2]; exact Classical.not_not.1 h0
/-! ### single commands -/
def lifeC (k : ByteArray) : Cmd := ⟨21, k, ⟨#[]⟩, ⟨#[]⟩, 0⟩
def expC (k : ByteArray) (n : Int) : Cmd := ⟨20, k, ⟨#[]⟩, ⟨#[]⟩, n⟩
def delC (k : ByteArray) : Cmd := ⟨19, k, ⟨#[]⟩, ⟨#[]⟩, 0⟩
def keysC : Cmd := ⟨22, ⟨#[]⟩, ⟨#[]⟩, ⟨#[]⟩, 0⟩
def allK (k : ByteArray) : Cmd := ⟨18, k, ⟨#[]⟩, ⟨#[]⟩, 0⟩
def getK (k : ByteArray) : Cmd := ⟨2, k, ⟨#[]⟩, ⟨#[]⟩, 0⟩
def putK (k t : ByteArray) : Cmd := ⟨1, k, ⟨#[]⟩, t, 0⟩
def addK (k : ByteArray) (n : Int) : Cmd := ⟨3, k, ⟨#[]⟩, ⟨#[]⟩, n⟩
theorem lifeC_ok {k : ByteArray} (h : okField k = true) : checkC (lifeC k) = 0 := form_plain (by omega) (by omega) (.inr ⟨by omega, h⟩) (.inr ⟨by omega, rfl⟩) (.inr rfl) (.inr rfl)
theorem expC_ok {k : ByteArray} (h : okField k = true) {n : Int} (hn : okCount n = true) : checkC (expC k n) = 0 := form_plain (by omega) (by omega) (.inr ⟨by omega, h⟩) (.inr ⟨by omega, rfl⟩) (.inr rfl) (.inl ⟨hn, by omega⟩)
theorem delC_ok {k : ByteArray} (h : okField k = true) : checkC (delC k) = 0 := form_plain (by omega) (by omega) (.inr ⟨by omega, h⟩) (.inr ⟨by omega, rfl⟩) (.inr rfl) (.inr rfl)
theorem keysC_ok : checkC keysC = 0 := form_plain (by omega) (by omega) (.inl ⟨rfl, rfl⟩) (.inr ⟨by omega, rfl⟩) (.inr rfl) (.inr rfl)
theorem allK_ok {k : ByteArray} (h : okField k = true) : checkC (allK k) = 0 := form_plain (by omega) (by omega) (.inr ⟨by omega, h⟩) (.inr ⟨by omega, rfl⟩) (.inr rfl) (.inr rfl)
theorem getK_ok {k : ByteArray} (h : okField k = true) : checkC (getK k) = 0 := form_plain (by omega) (by omega) (.inr ⟨by omega, h⟩) (.inr ⟨by omega, rfl⟩) (.inr rfl) (.inr rfl)
theorem putK_ok {k t : ByteArray} (h : okField k = true) (ht : okText t = true) : checkC (putK k t) = 0 := form_plain (by omega) (by omega) (.inr ⟨by omega, h⟩) (.inr ⟨by omega, rfl⟩) (.inl ⟨ht, by omega⟩) (.inr rfl)
theorem addK_ok {k : ByteArray} (h : okField k = true) {n : Int} (hn : okCount n = true) : checkC (addK k n) = 0 := form_plain (by omega) (by omega) (.inr ⟨by omega, h⟩) (.inr ⟨by omega, rfl⟩) (.inr rfl) (.inl ⟨hn, by omega⟩)
theorem doE_life {l : List Ent} (hr : Rise l) (now : Int) (k : ByteArray) : doE now l (lifeC k) = match getE l k with | none => (l, failR 5) | some e => (l, toldR (if e.till - now < 0 then 0 else e.till - now)) := by
  unfold doE
  rw [if_neg (by show (21 : Int) ≠ 22; omega), if_neg (by show (21 : Int) ≠ 19; omega), if_pos (.inr rfl)]
  obtain ⟨t1, t2⟩ := timedE_spec hr now (lifeC k)
  cases hg : getE l k with
  | none => exact t1 hg
  | some e => exact (t2 e hg).1 rfl
theorem doE_del {l : List Ent} (hr : Rise l) (now : Int) (k : ByteArray) : Did l k none (doE now l (delC k)).1 ∧ (doE now l (delC k)).2 = toldR (flagN (getE l k).isSome) ∧ (getE l k = none → (doE now l (delC k)).1 = l) := by
  have hd : doE now l (delC k) = if inE l k then (delAt l (findE l k), toldR 1) else (l, toldR 0) := by
    unfold doE
    rw [if_neg (by show (19 : Int) ≠ 22; omega), if_pos (show (delC k).kind = 19 from rfl)]
    rfl
  rw [hd]
  have h1 := (inE_get hr k).1
  cases h : inE l k with
  | true =>
    rw [h] at h1
    rw [← h1]
    exact ⟨did_del hr h, rfl, fun hn => by rw [hn] at h1; cases h1⟩
  | false =>
    rw [h] at h1
    have hn : getE l k = none := by cases hg : getE l k with | none => rfl | some => rw [hg] at h1; cases h1
    refine ⟨?_, by rw [← h1]; rfl, fun _ => rfl⟩
    have := Did.none hr k
    rw [hn] at this
    exact this
theorem doE_keys (now : Int) (l : List Ent) : doE now l keysC = (l, ⟨0, ⟨#[]⟩, 0, l.map Ent.key⟩) := by
  unfold doE
  rw [if_pos (show keysC.kind = 22 from rfl)]
/-- A text that is put. -/
theorem put_val {v : Val} {k t : ByteArray} (hk : okField k = true) (hv : Vk v) (ht : okText t = true) : DoV v (putK k t) = (⟨1, t, 0, [], [], []⟩, toldR 0, 0) := by
  have hd : ∀ v, doV v (putK k t) = (⟨1, t, 0, [], [], []⟩, toldR 0) := fun v => by unfold doV; simp [putK]
  rcases hv with h | h
  · rw [DoV_go (checkV_iff.2 h) (putK_ok hk ht) (by show (1 : Int) ≤ 18; omega) (by simp [putK, kindOfC]), hd]
    exact DoEnd_some rfl (fun h => absurd h.1 (by show ¬ (3 : Int) ≤ 1; omega))
  · rw [h, DoV_zero (putK_ok hk ht) (by show (1 : Int) ≤ 18; omega), if_pos (show makesC _ = true from rfl), hd]
    exact DoEnd_some rfl (fun h => absurd h.1 (by show ¬ (3 : Int) ≤ 1; omega))
theorem doE_put {l : List Ent} (hr : Rise l) (ha : ∀ e ∈ l, OkV e.val) (hl : l.length ≠ 12) (now : Int) {k t : ByteArray} (hk : okField k = true) (ht : okText t = true) : Did l k (some ⟨k, ⟨1, t, 0, [], [], []⟩, 0⟩) (doE now l (putK k t)).1 ∧ (doE now l (putK k t)).2 = toldR 0 := by
  rw [doE_val now (by show (1 : Int) ≤ 18; omega)]
  obtain ⟨hd, hr2⟩ := valE_spec hr (putK k t)
  have hvk : Vk (((getE l k).map Ent.val).getD zeroV) := by
    cases hg : getE l k with
    | none => exact .inr rfl
    | some e => exact .inl (ha e (getE_mem hg).1)
  have hdv := put_val hk hvk ht
  have h1 : newV l (putK k t) = ⟨1, t, 0, [], [], []⟩ := congrArg (·.1) hdv
  have h2 : newR l (putK k t) = toldR 0 := congrArg (fun q => q.2.1) hdv
  rw [h1, h2] at hd hr2
  have c1 : ¬ (toldR 0).code ≠ 0 := fun h => h rfl
  have c2 : ¬ ((1 : Int) = 0 ∧ (getE l k).isSome = true) := fun h => absurd h.1 (by omega)
  have c3 : ¬ ((getE l k).isSome = false ∧ l.length = 12) := fun h => hl h.2
  have c4 : (1 : Int) ≠ 0 := by omega
  rw [if_neg c1] at hd hr2
  have e1 : (Val.mk 1 t 0 [] [] []).kind = 1 := rfl
  rw [e1] at hd hr2
  have ek : (putK k t).key = k := rfl
  rw [ek] at hd hr2
  rw [if_neg c2, if_neg c3] at hd hr2
  rw [if_pos c4] at hd
  refine ⟨?_, hr2⟩
  have hp : putE l (putK k t) ⟨1, t, 0, [], [], []⟩ = ⟨k, ⟨1, t, 0, [], [], []⟩, 0⟩ := by
    unfold putE
    rw [ek]
    cases getE l k with
    | none => rfl
    | some e => simp [putK]
  rw [hp] at hd
  exact hd
theorem doE_exp {l : List Ent} (hr : Rise l) (now n : Int) (k : ByteArray) (h1 : 1 ≤ n) (h2 : n ≤ 1073741824 - now) :
    (getE l k = none → doE now l (expC k n) = (l, failR 5)) ∧ ∀ e, getE l k = some e → (doE now l (expC k n)).2 = toldR 0 ∧ Did l k (some ⟨k, e.val, now + n⟩) (doE now l (expC k n)).1 := by
  have hd : doE now l (expC k n) = timedE now l (expC k n) := by
    unfold doE
    rw [if_neg (by show (20 : Int) ≠ 22; omega), if_neg (by show (20 : Int) ≠ 19; omega), if_pos (.inl rfl)]
  rw [hd]
  obtain ⟨t1, t2⟩ := timedE_spec hr now (expC k n)
  refine ⟨t1, fun e he => ?_⟩
  exact (t2 e he).2.2 (by show (20 : Int) ≠ 21; omega) (by show ¬ (n < 1 ∨ 1073741824 - now < n); omega)
abbrev tV (t : ByteArray) : Val := ⟨1, t, 0, [], [], []⟩
theorem tV_ok {t : ByteArray} (h : okText t = true) : OkV (tV t) :=
  ⟨⟨(by show (1 : Int) ≤ 1; omega), (by show (1 : Int) ≤ 6; omega)⟩, .inl rfl, .inr rfl, .inr rfl, .inr (.inr rfl), .inr rfl, fun h => absurd h (by show ¬ (3 : Int) ≤ 1; omega), h, by simp, by simp, by simp, rfl, .nil, .nil, fun _ => .nil, .nil⟩
theorem doE_made {l : List Ent} (hr : Rise l) (now : Int) {c : Cmd} (hk : c.kind ≤ 18) {v : Val} {r : Rep} (hdv : DoV (((getE l c.key).map Ent.val).getD zeroV) c = (v, r, 0)) (h0 : r.code = 0) (hv : v.kind ≠ 0) (hl : (getE l c.key).isSome = true ∨ l.length ≠ 12) :
    Did l c.key (some (putE l c v)) (doE now l c).1 ∧ (doE now l c).2 = r := by
  rw [doE_val now hk]
  obtain ⟨hd, hr2⟩ := valE_spec hr c
  have h1 : newV l c = v := congrArg (·.1) hdv
  have h2 : newR l c = r := congrArg (fun q => q.2.1) hdv
  rw [h1, h2] at hd hr2
  have c1 : ¬ r.code ≠ 0 := fun h => h h0
  have c2 : ¬ (v.kind = 0 ∧ (getE l c.key).isSome = true) := fun h => hv h.1
  have c3 : ¬ ((getE l c.key).isSome = false ∧ l.length = 12) := fun h => by
    rcases hl with hl | hl
    · rw [hl] at h; exact absurd h.1 (by simp)
    · exact hl h.2
  rw [if_neg c1, if_neg c2, if_neg c3] at hr2
  rw [if_neg c1, if_neg c2, if_neg c3, if_pos hv] at hd
  exact ⟨hd, hr2⟩
/-! ### the last step of a store of steps -/
theorem storeV_last {l : List Stp} {x : Stp} (hl : ∀ y ∈ l, y.Ok) (hx : x.Ok) (hlen : l.length ≤ 39) :
    ∃ s n, OkT s ∧ s.now ≤ n ∧ 0 ≤ n ∧ n ≤ 440 ∧ storeV (l ++ [x]) = (ApplyS s (n + pk x.wait 12) (cmdR x.raw)).1 ∧ (ApplyS s (n + pk x.wait 12) (cmdR x.raw)).2.2 = 0 := by
  obtain ⟨g1, g2, g3, g4⟩ := foldT_ok l (0, zeroS) hl (Int.le_refl _) (by show (0 : Int) + 11 * (l.length : Int) ≤ 1000000; omega) okT_zero (Int.le_refl _)
  have hp := pk_range (n := x.wait) (m := 12) (by omega)
  have z : ((0, zeroS) : Int × Sto).1 = 0 := rfl
  rw [z] at g3
  have hst : storeV (l ++ [x]) = (stepT (l.foldl stepT (0, zeroS)) x).2 := by
    unfold storeV foldT
    rw [List.take_of_length_le (by rw [List.length_append]; simp; omega), List.foldl_append]
    rfl
  rw [hst]
  generalize l.foldl stepT (0, zeroS) = Q at *
  obtain ⟨s', r, e1, e2, e3⟩ := apply_okT g1 (t := Q.1 + pk x.wait 12) (by omega) (by omega) (cmdR_ok hx.raw) (cmdR_key x.raw)
  have h0 : (ApplyS Q.2 (Q.1 + pk x.wait 12) (cmdR x.raw)).2.2 = 0 := by rw [e1]
  refine ⟨Q.2, Q.1, g1, g4, g2, by omega, ?_, h0⟩
  unfold stepT
  simp only
  rw [if_pos h0]
/-- A key that is put last is there. -/
theorem storeV_put {l : List Stp} {x : Stp} (hl : ∀ y ∈ l, y.Ok) (hx : x.Ok) (hlen : l.length ≤ 39) (hk : (cmdR x.raw).kind = 1) : 0 < (storeV (l ++ [x])).ents.length := by
  obtain ⟨s, n, h1, h2, h3, h4, h5, h6⟩ := storeV_last hl hx hlen
  have hp := pk_range (n := x.wait) (m := 12) (by omega)
  have hc := cmdR_ok hx.raw
  obtain ⟨e, ok⟩ := apply_ok h1.ok (t := n + pk x.wait 12) (by omega) (by omega) hc
  rw [h5, e]
  obtain ⟨a1, a2, a3⟩ := alive_ok h1.ok (now := maxI s.now (n + pk x.wait 12)) (maxI_le _ _).1
  have hkey := checkC_key hc (by omega)
  obtain ⟨k1, k2, k3, k4, k5⟩ : ∃ k f t m y, cmdR x.raw = ⟨k, f, t, m, y⟩ := ⟨_, _, _, _, _, rfl⟩
  have hfacts := checkC_facts hc
  have hvk : Vk (((getE (aliveS (maxI s.now (n + pk x.wait 12)) s) (cmdR x.raw).key).map Ent.val).getD zeroV) := by
    cases hg : getE (aliveS (maxI s.now (n + pk x.wait 12)) s) (cmdR x.raw).key with
    | none => exact .inr rfl
    | some e => exact .inl (a2 e (getE_mem hg).1).val
  have hd : ∀ v, doV v (cmdR x.raw) = (tV (cmdR x.raw).text, toldR 0) := fun v => by unfold doV; rw [if_pos hk]
  have hdv : DoV (((getE (aliveS (maxI s.now (n + pk x.wait 12)) s) (cmdR x.raw).key).map Ent.val).getD zeroV) (cmdR x.raw) = (tV (cmdR x.raw).text, toldR 0, 0) := by
    rcases hvk with h | h
    · rw [DoV_go (checkV_iff.2 h) hc (by omega) (by rw [hk]; simp [kindOfC]), hd]
      exact DoEnd_some rfl (fun h => absurd h.1 (by show ¬ (3 : Int) ≤ 1; omega))
    · rw [h, DoV_zero hc (by omega), if_pos (by rw [hk]; rfl), hd]
      exact DoEnd_some rfl (fun h => absurd h.1 (by show ¬ (3 : Int) ≤ 1; omega))
  have hfew : (aliveS (maxI s.now (n + pk x.wait 12)) s).length ≠ 12 := by
    have := h1.len
    have := List.length_filter_le (fun e => !goneE (maxI s.now (n + pk x.wait 12)) e) s.ents
    unfold aliveS
    omega
  obtain ⟨d, _⟩ := doE_made a1 (maxI s.now (n + pk x.wait 12)) (c := cmdR x.raw) (by omega) hdv rfl (by show (1 : Int) ≠ 0; omega) (.inr hfew)
  exact List.length_pos_of_mem (getE_mem d.here).1
end Go.Proofs.Ytpdcfljbabpakaa

/- What is told may be told. -/
set_option linter.unusedVariables false
set_option linter.unusedSimpArgs false
set_option maxRecDepth 100000
set_option maxHeartbeats 8000000
namespace Go.Proofs.Ytpdcfljbabpakaa
open Go Go.RowKit Go.Proofs.AE
variable {G : Nat → AV}
/-! ### what is told may be told -/
structure OkR (r : Rep) : Prop where
  code : 0 ≤ r.code ∧ r.code ≤ 13
  text : okText r.text = true
  len : r.list.length ≤ 20
  list : ∀ s ∈ r.list, okText s = true
  n : okCount r.n = true
theorem eT_ok : okText (⟨#[]⟩ : ByteArray) = true := rfl
theorem told_ok {n : Int} (h : okCount n = true) : OkR (toldR n) := ⟨⟨by show (0 : Int) ≤ 0; omega, by show (0 : Int) ≤ 13; omega⟩, rfl, Nat.zero_le _, (fun s hs => by cases hs), h⟩
theorem told_small {n : Int} (h0 : 0 ≤ n) (h1 : n ≤ 1099511627776) : OkR (toldR n) := told_ok (by unfold okCount; simp; omega)
theorem fail_ok {e : Int} (h0 : 0 ≤ e) (h1 : e ≤ 13) : OkR (failR e) := ⟨⟨h0, h1⟩, rfl, Nat.zero_le _, (fun s hs => by cases hs), rfl⟩
theorem textR_ok {t : ByteArray} (h : okText t = true) : OkR (textR t) := ⟨⟨by show (0 : Int) ≤ 0; omega, by show (0 : Int) ≤ 13; omega⟩, h, Nat.zero_le _, (fun s hs => by cases hs), rfl⟩
theorem flag_ok (b : Bool) : OkR (toldR (flagN b)) := told_small (by cases b <;> decide) (by cases b <;> decide)
theorem hashR_ok {l : List Pr} {c : Cmd} (h : ∀ p ∈ l, okField p.1 = true ∧ okText p.2 = true) (ht : okText c.text = true) : OkR (hashV l c).2 := by
  unfold hashV
  simp only
  repeat' split
  · exact told_small (by omega) (by omega)
  · exact fail_ok (by omega) (by omega)
  · exact told_small (by omega) (by omega)
  · refine textR_ok ?_
    cases hx : l[hashAt l c.field]? with
    | none => exact ht
    | some a => exact (h a (List.mem_of_getElem? hx)).2
  · exact fail_ok (by omega) (by omega)
  · exact told_small (by omega) (by omega)
  · exact told_small (by omega) (by omega)
theorem listR_ok {l : List ByteArray} {c : Cmd} (h : ∀ s ∈ l, okText s = true) (hl : l.length ≤ 20) : OkR (listV l c).2 := by
  have hg : ∀ i : Nat, okText (l[i]?.getD ⟨#[]⟩) = true := fun i => by
    cases hx : l[i]? with
    | none => rfl
    | some a => exact h a (List.mem_of_getElem? hx)
  unfold listV
  repeat' split
  · exact fail_ok (by omega) (by omega)
  · exact told_small (by omega) (by omega)
  · exact told_small (by omega) (by omega)
  · exact textR_ok (hg _)
  · exact textR_ok (hg _)
theorem setR_ok (l : List ByteArray) (c : Cmd) : OkR (setV l c).2 := by
  unfold setV
  simp only
  repeat' split
  all_goals first | exact told_small (by omega) (by omega) | exact fail_ok (by omega) (by omega) | exact flag_ok _
theorem firstI_bound {α : Type} (p : α → Bool) : ∀ (l : List α) (i : Nat), -1 ≤ firstI p i l ∧ firstI p i l < (i : Int) + l.length + 1
  | [], i => by unfold firstI; simp; omega
  | a :: l, i => by
    unfold firstI
    split
    · simp; omega
    · have := firstI_bound p l (i + 1)
      simp only [List.length_cons]
      omega
theorem ranksR_ok {l : List Sc} {c : Cmd} (hl : l.length ≤ 20) : OkR (ranksV l c).2 := by
  have hb := firstI_bound (fun s : Sc => decide (s.1 = c.text)) l 0
  change -1 ≤ rankOf l c.text ∧ rankOf l c.text < _ at hb
  unfold ranksV
  simp only
  repeat' split
  all_goals first | exact told_small (by omega) (by omega) | exact fail_ok (by omega) (by omega)
theorem allV_ok {v : Val} (h : OkB v) : (allV v).length ≤ 20 ∧ ∀ s ∈ allV v, okText s = true := by
  have he := h.els
  unfold Val.els at he
  unfold allV
  refine ⟨by simp; omega, fun s hs => ?_⟩
  rcases List.mem_append.1 hs with hs | hs
  · rcases List.mem_append.1 hs with hs | hs
    · exact h.okI s hs
    · obtain ⟨p, hp, rfl⟩ := List.mem_map.1 hs
      have := (h.okP p hp).1
      unfold okField at this
      unfold okText
      simp only [Bool.and_eq_true, decide_eq_true_eq] at this ⊢
      omega
  · obtain ⟨p, hp, rfl⟩ := List.mem_map.1 hs
    exact (h.okS p hp).1
theorem doV_okR {v : Val} {c : Cmd} (h : OkB v) (ht : okText c.text = true) : OkR (doV v c).2 := by
  have he := h.els
  unfold Val.els at he
  unfold doV
  repeat' split
  · exact told_small (by omega) (by omega)
  · exact textR_ok h.okT
  · rename_i hc; exact told_ok hc
  · exact fail_ok (by omega) (by omega)
  · refine told_small ?_ ?_ <;> (unfold Val.els; omega)
  · obtain ⟨h1, h2⟩ := allV_ok h
    exact ⟨⟨by show (0 : Int) ≤ 0; omega, by show (0 : Int) ≤ 13; omega⟩, rfl, h1, h2, rfl⟩
  · exact hashR_ok h.okP ht
  · exact listR_ok h.okI (by omega)
  · exact setR_ok _ _
  · exact ranksR_ok (by omega)
theorem DoEnd_okR {v : Val} {q : Val × Rep} (h : OkR q.2) : OkR (DoEnd v q).2.1 := by
  unfold DoEnd
  repeat' split
  all_goals exact h
theorem DoV_okR {v : Val} {c : Cmd} (hv : Vk v) (hc : checkC c = 0) (hk : c.kind ≤ 18) : OkR (DoV v c).2.1 := by
  have ht := (checkC_facts hc).2.2.1
  have hk1 := checkC_kind hc
  rcases hv with h | h
  · have hv := checkV_iff.2 h
    by_cases hm : (kindOfC c.kind ≠ 0 ∧ kindOfC c.kind ≠ v.kind) ∨ (17 ≤ c.kind ∧ v.kind < 3)
    · rw [DoV_type hv hc hk hm]; exact fail_ok (by omega) (by omega)
    · rw [DoV_go hv hc hk hm]; exact DoEnd_okR (doV_okR h.b ht)
  · subst h
    rw [DoV_zero hc hk]
    split
    · by_cases e : c.kind = 1
      · have hd : doV ⟨kindOfC c.kind, ⟨#[]⟩, 0, [], [], []⟩ c = doV ⟨1, ⟨#[]⟩, 0, [], [], []⟩ c := by unfold doV; rw [if_pos e, if_pos e]
        rw [hd]
        exact DoEnd_okR (doV_okR (fresh_b (by omega) (by omega)) ht)
      · rename_i hmk
        have hk2 : c.kind ≤ 14 := by
          unfold makesC at hmk
          simp at hmk
          omega
        have hr : 1 ≤ kindOfC c.kind ∧ kindOfC c.kind ≤ 6 := by
          have hne := kindOf_zero hk1 (by omega) e
          unfold kindOfC at hne ⊢
          repeat' split
          all_goals simp_all
        exact DoEnd_okR (doV_okR (fresh_b hr.1 hr.2) ht)
    · exact fail_ok (by omega) (by omega)
/-- What a store's command tells. -/
theorem doE_okR {now : Int} {l : List Ent} {c : Cmd} (hn0 : 0 ≤ now) (hr : Rise l) (ha : ∀ e ∈ l, OkE now e) (hl : l.length ≤ 12) (hc : checkC c = 0) : OkR (doE now l c).2 := by
  have hk1 := checkC_kind hc
  have hkf := (checkC_facts hc).2.1
  unfold doE
  by_cases k1 : c.kind = 22
  · rw [if_pos k1]
    refine ⟨⟨by show (0 : Int) ≤ 0; omega, by show (0 : Int) ≤ 13; omega⟩, rfl, by show (l.map Ent.key).length ≤ 20; rw [List.length_map]; omega, fun s hs => ?_, rfl⟩
    obtain ⟨e, he, rfl⟩ := List.mem_map.1 hs
    have := (ha e he).key
    unfold okField at this
    unfold okText
    simp only [Bool.and_eq_true, decide_eq_true_eq] at this ⊢
    omega
  · rw [if_neg k1]
    by_cases k2 : c.kind = 19
    · rw [if_pos k2]
      split <;> exact told_small (by omega) (by omega)
    · rw [if_neg k2]
      by_cases k3 : c.kind = 20 ∨ c.kind = 21
      · rw [if_pos k3]
        obtain ⟨t1, t2⟩ := timedE_spec hr now c
        cases hg : getE l c.key with
        | none => rw [t1 hg]; exact fail_ok (by omega) (by omega)
        | some e =>
          obtain ⟨t3, t4, t5⟩ := t2 e hg
          have ht := (ha e (getE_mem hg).1).till
          by_cases k4 : c.kind = 21
          · rw [t3 k4]; refine told_small ?_ ?_ <;> (split <;> omega)
          · by_cases k5 : c.n < 1 ∨ 1073741824 - now < c.n
            · rw [t4 k4 k5]; exact fail_ok (by omega) (by omega)
            · rw [(t5 k4 k5).1]; exact told_small (by omega) (by omega)
      · rw [if_neg k3, (valE_spec hr c).2]
        have hvk : Vk (((getE l c.key).map Ent.val).getD zeroV) := by
          cases hg : getE l c.key with
          | none => exact .inr rfl
          | some e => exact .inl (ha e (getE_mem hg).1).val
        have hn := DoV_okR hvk hc (by omega)
        change OkR (newR l c) at hn
        repeat' split
        all_goals first | exact hn | exact fail_ok (by omega) (by omega)
theorem apply_okR {s : Sto} (h : OkS s) {t : Int} (h0 : 0 ≤ t) (h1 : t ≤ 1073741824) {c : Cmd} (hc : checkC c = 0) : OkR (ApplyS s t c).2.1 := by
  rw [(apply_ok h h0 h1 hc).1]
  obtain ⟨a1, a2, a3⟩ := alive_ok h (maxI_le s.now t).1
  exact doE_okR (by have := h.now; have := maxI_le s.now t; omega) a1 a2 a3 hc
structure Cli where
  id : Int
  seq : Int
  time : Int
  reply : Rep
structure Mach where
  sto : Sto
  next : Int
  clis : List Cli
structure Cal where
  client : Int
  seq : Int
  cmd : Cmd
def Cli.c (x : Cli) : List C := [iC x.id, iC x.seq, iC x.time, iC x.reply.code, sC x.reply.text, iC x.reply.n, .v (.sl (strRows x.reply.list))]
def Cli.row (x : Cli) : List V := [.lit (.int .i64 x.id), .lit (.int .i64 x.seq), .lit (.int .i64 x.time), .lit (.int .i64 x.reply.code), .lit (.string x.reply.text), .lit (.int .i64 x.reply.n), .sl (strRows x.reply.list)]
abbrev clR (l : List Cli) : List (List V) := l.map Cli.row
def Mach.c (m : Mach) : List C := [iC m.sto.now, .v (.sl (eR m.sto.ents)), iC m.next, .v (.sl (clR m.clis))]
def Cal.c (c : Cal) : List C := [iC c.client, iC c.seq, iC c.cmd.kind, sC c.cmd.key, sC c.cmd.field, sC c.cmd.text, iC c.cmd.n]
def checkR (r : Rep) : Int := checkReply r.code r.text r.n r.list
def checkCl (c : Cal) : Int := checkCall c.client c.seq c.cmd.kind c.cmd.key c.cmd.field c.cmd.text c.cmd.n
def badC (next now : Int) (x : Cli) : Bool := decide (x.id < 1) || decide (next ≤ x.id) || decide (x.seq < 0) || decide (1048576 < x.seq) || decide (x.time < 0) || decide (now < x.time) || (checkR x.reply != 0)
def cI (a b : Cli) : Int := a.id - b.id
def checkM (m : Mach) : Int :=
  if checkS m.sto ≠ 0 ∨ m.next < 1 ∨ 1048577 < m.next ∨ 4 < m.clis.length then 13
  else if m.clis.any (badC m.next m.sto.now) = true then 13
  else if rising cI m.clis = true then 0 else 13
/-- The first of the least times. -/
def oldest : List Cli → Nat → Nat → List Cli → Nat
  | _, old, _, [] => old
  | all, old, i, x :: r => oldest all (match all[old]? with | some y => if x.time < y.time then i else old | none => old) (i + 1) r
def openM (m : Mach) : Mach × Rep :=
  if 1048576 < m.next then (m, failR 6)
  else (⟨m.sto, m.next + 1, (if m.clis.length = 4 then delAt m.clis (oldest m.clis 0 0 m.clis) else m.clis) ++ [⟨m.next, 0, m.sto.now, toldR 0⟩]⟩, toldR m.next)
def findC (l : List Cli) (id : Int) : Int := firstI (fun x => x.id == id) 0 l
def zeroM : Mach := ⟨zeroS, 0, []⟩
def callM (m : Mach) (time : Int) (c : Cal) : Mach × Rep :=
  if c.client = 0 then openM m
  else if findC m.clis c.client < 0 then (m, failR 11)
  else match m.clis[(findC m.clis c.client).toNat]? with
    | none => (m, failR 11)
    | some x =>
      if c.seq = x.seq then (m, x.reply)
      else if c.seq ≠ x.seq + 1 then (m, failR 10)
      else (⟨(ApplyS m.sto time c.cmd).1, m.next, m.clis.set (findC m.clis c.client).toNat ⟨x.id, c.seq, (ApplyS m.sto time c.cmd).1.now, (ApplyS m.sto time c.cmd).2.1⟩⟩, (ApplyS m.sto time c.cmd).2.1)
def DoM (m : Mach) (time : Int) (c : Cal) : Mach × Rep × Int :=
  if checkM m ≠ 0 then (zeroM, toldR 0, checkM m)
  else if time < 0 ∨ 1073741824 < time then (zeroM, toldR 0, 2)
  else if checkCl c ≠ 0 then (zeroM, toldR 0, checkCl c)
  else ((callM ⟨(ApplyS m.sto time keysC).1, m.next, m.clis⟩ time c).1, (callM ⟨(ApplyS m.sto time keysC).1, m.next, m.clis⟩ time c).2, 0)
/-! ### a machine that may be -/
structure OkC (next now : Int) (x : Cli) : Prop where
  id : 1 ≤ x.id ∧ x.id < next
  seq : 0 ≤ x.seq ∧ x.seq ≤ 1048576
  time : 0 ≤ x.time ∧ x.time ≤ now
  reply : checkR x.reply = 0
def RiseC (l : List Cli) : Prop := l.Pairwise (fun a b => a.id < b.id)
structure OkM (m : Mach) : Prop where
  sto : OkS m.sto
  next : 1 ≤ m.next ∧ m.next ≤ 1048577
  len : m.clis.length ≤ 4
  all : ∀ x ∈ m.clis, OkC m.next m.sto.now x
  rise : RiseC m.clis
theorem badC_iff {next now : Int} {x : Cli} : badC next now x = false ↔ OkC next now x := by
  unfold badC
  constructor
  · intro h
    simp only [Bool.or_eq_false_iff, decide_eq_false_iff_not, bne_eq_false_iff_eq] at h
    obtain ⟨⟨⟨⟨⟨⟨h1, h2⟩, h3⟩, h4⟩, h5⟩, h6⟩, h7⟩ := h
    exact ⟨by omega, by omega, by omega, h7⟩
  · rintro ⟨h1, h2, h3, h4⟩
    simp only [Bool.or_eq_false_iff, decide_eq_false_iff_not, bne_eq_false_iff_eq]
    exact ⟨⟨⟨⟨⟨⟨by omega, by omega⟩, by omega⟩, by omega⟩, by omega⟩, by omega⟩, h4⟩
theorem cI_tr : ∀ a b c : Cli, cI a b < 0 → cI b c < 0 → cI a c < 0 := fun a b c h1 h2 => by unfold cI at *; omega
theorem riseC_iff {l : List Cli} : rising cI l = true ↔ RiseC l := by
  rw [rising_iff cI_tr]
  unfold RiseC
  constructor <;> exact fun h => h.imp fun h => by unfold cI at *; omega
theorem checkM_iff {m : Mach} : checkM m = 0 ↔ OkM m := by
  unfold checkM
  constructor
  · intro h
    split at h
    · cases h
    · rename_i h1
      simp only [not_or] at h1
      split at h
      · cases h
      · rename_i h2
        split at h
        · rename_i h3
          refine ⟨checkS_iff.1 (Classical.not_not.1 h1.1), by omega, by omega, fun x hx => badC_iff.1 ?_, riseC_iff.1 h3⟩
          cases hb : badC m.next m.sto.now x with
          | false => rfl
          | true => exact absurd (List.any_eq_true.2 ⟨x, hx, hb⟩) h2
        · cases h
  · rintro ⟨h1, h2, h3, h4, h5⟩
    rw [if_neg, if_neg, if_pos (riseC_iff.2 h5)]
    · intro h
      obtain ⟨x, hx, hb⟩ := List.any_eq_true.1 h
      rw [badC_iff.2 (h4 x hx)] at hb; cases hb
    · simp only [not_or]
      exact ⟨fun h => h (checkS_iff.2 h1), by omega, by omega, by omega⟩
theorem checkR_iff {r : Rep} : checkR r = 0 ↔ OkR r := by
  unfold checkR checkReply
  constructor
  · intro h
    repeat' split at h
    all_goals first | (cases h; done) | skip
    rename_i h1 h2 h3 h4 h5 h6 h7
    simp only [decide_eq_true_eq] at h1 h2 h3 h4 h6 h7
    refine ⟨by omega, by unfold okText; simp; omega, by omega, fun s hs => ?_, by unfold okCount; simp; omega⟩
    unfold okText
    simp only [decide_eq_true_eq]
    apply Classical.not_not.1
    intro hh
    exact h5 (List.any_eq_true.2 ⟨s, hs, by simp; omega⟩)
  · rintro ⟨h1, h2, h3, h4, h5⟩
    unfold okText at h2 h4
    unfold okCount at h5
    simp only [decide_eq_true_eq, Bool.and_eq_true] at h2 h4 h5
    have ha : ¬ (r.list.any fun s => decide (20 < (s.size : Int))) = true := fun h => by
      obtain ⟨s, hs, hb⟩ := List.any_eq_true.1 h
      have := h4 s hs
      simp at hb; omega
    rw [if_neg (by simp; omega), if_neg (by simp; omega), if_neg (by simp; omega), if_neg (by simp; omega), if_neg ha, if_neg (by simp; omega), if_neg (by simp; omega)]
/-! ### the machine -/
theorem oldest_lt (all : List Cli) : ∀ (r : List Cli) (old i : Nat), old < all.length → i + r.length ≤ all.length → oldest all old i r < all.length
  | [], old, _, h, _ => h
  | x :: r, old, i, h, hi => by
    unfold oldest
    simp only [List.length_cons] at hi
    refine oldest_lt all r _ (i + 1) ?_ (by omega)
    split
    · split <;> omega
    · exact h
theorem RiseC.sub {l l' : List Cli} (h : RiseC l) (hs : l'.Sublist l) : RiseC l' := List.Pairwise.sublist hs h
theorem open_ok {m : Mach} (h : OkM m) : OkM (openM m).1 ∧ OkR (openM m).2 := by
  unfold openM
  by_cases hn : 1048576 < m.next
  · rw [if_pos hn]; exact ⟨h, fail_ok (by omega) (by omega)⟩
  · rw [if_neg hn]
    obtain ⟨L, hL⟩ : ∃ L, (if m.clis.length = 4 then delAt m.clis (oldest m.clis 0 0 m.clis) else m.clis) = L := ⟨_, rfl⟩
    have hsub : L.Sublist m.clis ∧ L.length ≤ 3 := by
      rw [← hL]
      split
      · rename_i h4
        have hlt := oldest_lt m.clis m.clis 0 0 (by omega) (by omega)
        exact ⟨del_sub _ _, by have := delE_len hlt; omega⟩
      · exact ⟨List.Sublist.refl _, by have := h.len; omega⟩
    rw [hL]
    have hnx := h.next
    have hnow := h.sto.now
    refine ⟨⟨h.sto, ⟨by show 1 ≤ m.next + 1; omega, by show m.next + 1 ≤ 1048577; omega⟩, by show (L ++ [_]).length ≤ 4; rw [List.length_append]; simp; omega, fun x hx => ?_, ?_⟩, told_small (by omega) (by omega)⟩
    · rcases List.mem_append.1 hx with hx | hx
      · have ho := h.all x (hsub.1.subset hx)
        exact ⟨⟨ho.id.1, by have := ho.id.2; show x.id < m.next + 1; omega⟩, ho.seq, ho.time, ho.reply⟩
      · simp only [List.mem_singleton] at hx
        subst hx
        exact ⟨⟨hnx.1, by show m.next < m.next + 1; omega⟩, ⟨Int.le_refl _, by show (0 : Int) ≤ 1048576; omega⟩, ⟨hnow.1, Int.le_refl _⟩, checkR_iff.2 (told_small (by omega) (by omega))⟩
    · refine List.pairwise_append.2 ⟨h.rise.sub hsub.1, List.pairwise_singleton _ _, fun a ha b hb => ?_⟩
      simp only [List.mem_singleton] at hb
      subst hb
      exact (h.all a (hsub.1.subset ha)).id.2
theorem later_ok {m : Mach} (h : OkM m) {s : Sto} (hs : OkS s) (hn : m.sto.now ≤ s.now) : OkM ⟨s, m.next, m.clis⟩ :=
  ⟨hs, h.next, h.len, fun x hx => by have ho := h.all x hx; exact ⟨ho.id, ho.seq, ⟨ho.time.1, Int.le_trans ho.time.2 hn⟩, ho.reply⟩, h.rise⟩
theorem call_cmd {c : Cal} (h : checkCl c = 0) (hc : c.client ≠ 0) : okNumber c.client = true ∧ okNumber c.seq = true ∧ checkC c.cmd = 0 := by
  unfold checkCl checkCall at h
  rw [if_neg (by simpa using hc)] at h
  split at h
  · rename_i h1
    split at h
    · rename_i h2; exact ⟨h1, h2, h⟩
    · cases h
  · cases h
theorem call_ok {m : Mach} (h : OkM m) {t : Int} (h0 : 0 ≤ t) (h1 : t ≤ 1073741824) {c : Cal} (hc : checkCl c = 0) : OkM (callM m t c).1 ∧ OkR (callM m t c).2 := by
  unfold callM
  by_cases hz : c.client = 0
  · rw [if_pos hz]; exact open_ok h
  · rw [if_neg hz]
    obtain ⟨n1, n2, hcc⟩ := call_cmd hc hz
    by_cases hf : findC m.clis c.client < 0
    · rw [if_pos hf]; exact ⟨h, fail_ok (by omega) (by omega)⟩
    · rw [if_neg hf]
      cases hx : m.clis[(findC m.clis c.client).toNat]? with
      | none => exact ⟨h, fail_ok (by omega) (by omega)⟩
      | some x =>
        have hm := List.mem_of_getElem? hx
        have ho := h.all x hm
        simp only
        by_cases e1 : c.seq = x.seq
        · rw [if_pos e1]; exact ⟨h, checkR_iff.1 ho.reply⟩
        · rw [if_neg e1]
          by_cases e2 : c.seq ≠ x.seq + 1
          · rw [if_pos e2]; exact ⟨h, fail_ok (by omega) (by omega)⟩
          · rw [if_neg e2]
            have hr := apply_okR h.sto h0 h1 hcc
            obtain ⟨e, ok⟩ := apply_ok h.sto h0 h1 hcc
            have hnow : m.sto.now ≤ (ApplyS m.sto t c.cmd).1.now := by rw [e]; exact (maxI_le _ _).1
            have okS : OkS (ApplyS m.sto t c.cmd).1 := by rw [e]; exact ok
            obtain ⟨S, hS⟩ : ∃ S, (ApplyS m.sto t c.cmd).1 = S := ⟨_, rfl⟩
            rw [hS] at hnow okS ⊢
            have hl := later_ok h okS hnow
            have hlt := (List.getElem?_eq_some_iff.1 hx).1
            have hxe := (List.getElem?_eq_some_iff.1 hx).2
            unfold okNumber at n2
            simp only [Bool.and_eq_true, decide_eq_true_eq] at n2
            refine ⟨⟨okS, h.next, by show (m.clis.set _ _).length ≤ 4; rw [List.length_set]; exact h.len, fun y hy => ?_, ?_⟩, hr⟩
            · rcases List.mem_or_eq_of_mem_set hy with hy | hy
              · exact hl.all y hy
              · subst hy
                exact ⟨ho.id, ⟨by show 0 ≤ c.seq; omega, n2.2⟩, ⟨okS.now.1, Int.le_refl _⟩, checkR_iff.2 hr⟩
            · have hri := h.rise
              unfold RiseC at hri ⊢
              rw [← List.pairwise_map (f := Cli.id) (R := fun a b => a < b)] at hri ⊢
              have : (m.clis.set (findC m.clis c.client).toNat ⟨x.id, c.seq, S.now, (ApplyS m.sto t c.cmd).2.1⟩).map Cli.id = m.clis.map Cli.id := by
                rw [List.map_set]
                refine List.ext_getElem? fun q => ?_
                rw [List.getElem?_set]
                split
                · rename_i hq
                  subst hq
                  rw [if_pos (by rw [List.length_map]; exact hlt), List.getElem?_map, hx]; rfl
                · rfl
              show ((m.clis.set (findC m.clis c.client).toNat ⟨x.id, c.seq, S.now, (ApplyS m.sto t c.cmd).2.1⟩).map Cli.id).Pairwise _
              rw [this]; exact hri
theorem do_ok {m : Mach} (h : OkM m) {t : Int} (h0 : 0 ≤ t) (h1 : t ≤ 1073741824) {c : Cal} (hc : checkCl c = 0) :
    DoM m t c = ((callM ⟨⟨maxI m.sto.now t, aliveS (maxI m.sto.now t) m.sto⟩, m.next, m.clis⟩ t c).1, (callM ⟨⟨maxI m.sto.now t, aliveS (maxI m.sto.now t) m.sto⟩, m.next, m.clis⟩ t c).2, 0) ∧
      OkM ⟨⟨maxI m.sto.now t, aliveS (maxI m.sto.now t) m.sto⟩, m.next, m.clis⟩ ∧ OkM (DoM m t c).1 ∧ OkR (DoM m t c).2.1 := by
  obtain ⟨e, ok⟩ := apply_ok h.sto h0 h1 keysC_ok
  rw [doE_keys] at e ok
  have hmid := later_ok h ok (maxI_le _ _).1
  have hd : DoM m t c = ((callM ⟨⟨maxI m.sto.now t, aliveS (maxI m.sto.now t) m.sto⟩, m.next, m.clis⟩ t c).1, (callM ⟨⟨maxI m.sto.now t, aliveS (maxI m.sto.now t) m.sto⟩, m.next, m.clis⟩ t c).2, 0) := by
    unfold DoM
    rw [if_neg (by rw [checkM_iff.2 h]; simp), if_neg (by omega), if_neg (by rw [hc]; simp), e]
  obtain ⟨c1, c2⟩ := call_ok hmid h0 h1 hc
  rw [hd]
  exact ⟨rfl, hmid, c1, c2⟩
def newM : Mach := ⟨zeroS, 1, []⟩
end Go.Proofs.Ytpdcfljbabpakaa

/- Bytes: what the writer of numbers and texts answers. -/
set_option linter.unusedVariables false
set_option linter.unusedSimpArgs false
set_option maxRecDepth 100000
set_option maxHeartbeats 8000000
namespace Go.Proofs.Ytpdcfljbabpakaa
open Go Go.RowKit Go.Proofs.AE
variable {G : Nat → AV}
/-- Bytes as rows. -/
def bR (l : List UInt8) : List (List V) := l.map fun b => [.lit (.int .u8 b.toNat)]
theorem bR_app (a b : List UInt8) : bR (a ++ b) = bR a ++ bR b := by simp [bR]
theorem bR_len (a : List UInt8) : (bR a).length = a.length := by simp [bR]
theorem bR_ul (a : List UInt8) : UL 1 (bR a) := by
  intro r hr
  obtain ⟨b, _, rfl⟩ := List.mem_map.1 hr
  rfl
theorem bR_str (s : ByteArray) : AE.strRows s = bR s.data.toList := rfl
theorem bR_bytes : ∀ l : List UInt8, bytesOf (bR l) = some l
  | [] => rfl
  | b :: l => by
    have := bR_bytes l
    unfold bR at this ⊢
    simp only [List.map_cons, bytesOf, AE.byteOf, this]
    simp
def byteAt' (u s : Nat) : UInt8 := UInt8.ofNat (u / 2 ^ s)
def numU (n : Int) : Nat := (n + 4611686018427387904).toNat
def numB (n : Int) : List UInt8 := [byteAt' (numU n) 56, byteAt' (numU n) 48, byteAt' (numU n) 40, byteAt' (numU n) 32, byteAt' (numU n) 24, byteAt' (numU n) 16, byteAt' (numU n) 8, byteAt' (numU n) 0]
def smallB (n : Int) : UInt8 := UInt8.ofNat (n % 256).toNat
def textB (s : ByteArray) : List UInt8 := smallB s.size :: s.data.toList
theorem wrap_u8 (n : Int) : IntKind.u8.wrap n = ((smallB n).toNat : Int) := by
  unfold smallB
  have h1 := Int.emod_nonneg n (b := 256) (by omega)
  have h2 := Int.emod_lt_of_pos n (b := 256) (by omega)
  rw [UInt8.toNat_ofNat']
  have h3 : IntKind.u8.wrap n = n % 256 := by
    simp [IntKind.wrap, IntKind.bits, IntKind.signed]
  rw [h3]
  omega
theorem byte_row (u s : Nat) : IntKind.u8.wrap ((u : Int).fdiv (2 ^ s)) = ((byteAt' u s).toNat : Int) := by
  rw [wrap_u8]
  unfold smallB byteAt'
  have h : ((u : Int).fdiv (2 ^ s)) = ((u / 2 ^ s : Nat) : Int) := by
    rw [Int.fdiv_eq_ediv_of_nonneg _ (by exact_mod_cast Nat.zero_le _)]
    push_cast
    rfl
  rw [h]
  congr 1
  have h2 : (((u / 2 ^ s : Nat) : Int) % 256).toNat = (u / 2 ^ s) % 256 := by omega
  rw [h2]
  rw [UInt8.toNat_ofNat', UInt8.toNat_ofNat']
  omega
def inNum (n : Int) : Prop := -4611686018427387904 ≤ n ∧ n < 4611686018427387904
theorem numU_conv {n : Int} (h : inNum n) : IntKind.u64.wrap (IntKind.i64.wrap (n + 4611686018427387904)) = (numU n : Int) := by
  unfold inNum at h
  rw [IntWalk.i64_in _ (by omega)]
  unfold numU
  simp [IntKind.wrap, IntKind.bits, IntKind.signed]
  omega
abbrev wHp (l : List UInt8) : Hp := [some (.box 90 [.ar 1]), some (.arr 5 1 (bR l))]
theorem wsmall_c (l : List UInt8) (n : Int) (hl : l.length ≤ 1000000) : DetCall Try.prog G 26 1 (wHp l) [.one (.ptr 0 0), iV n] (.tup []) (wHp (l ++ [smallB n])) := by
  refine gcallc mixed Try.func26 ac_wire_writer_small ?_
  have h1 := bR_len l
  have h2 := bR_ul l
  have h3 := bR_app l [smallB n]
  have h4 : bR [smallB n] = [[.lit (.int .u8 ((smallB n).toNat : Int))]] := rfl
  unfold wHp
  rw [h3, h4]
  have h5 := wrap_u8 n
  repeat' (first | (with_reducible first | refine Cn (fun h => ?_) fun h => ?_ | refine And.intro ?_ ?_ | refine wR ?_ | exact wr _ _ | refine wa ?_ | apply awp_join) | (with_reducible refine CallZ.z ?_) | simp -dsimp [go_sem, h1, h2, h5])
  all_goals first | omega | (simp [UL]; done)
theorem wnumber_c (l : List UInt8) (n : Int) (hl : l.length ≤ 1000000) (hn : inNum n) : DetCall Try.prog G 25 1 (wHp l) [.one (.ptr 0 0), iV n] (.tup []) (wHp (l ++ numB n)) := by
  refine gcallc mixed Try.func25 ac_wire_writer_number ?_
  have hu := numU_conv hn
  unfold wHp
  repeat' (first | (with_reducible first | refine Cn (fun h => ?_) fun h => ?_ | refine And.intro ?_ ?_ | refine wR ?_ | exact wr _ _ | refine wa ?_ | apply awp_join) | (with_reducible refine CallZ.z ?_) | simp -dsimp [go_sem, hu])
  refine awp_loop (fun j : Nat => ⟨[(0, .one (.ptr 0 0)), (4, .one (.v (.lit (.int .u64 (numU n))))), (5, iV (56 - 8 * j))], G, wHp (l ++ (numB n).take j)⟩) (fun j => j ≤ 8) (fun j => 8 - j) 0 (weak_auto ?_) (Nat.zero_le _) ?_
  · unfold wHp
    simp -dsimp [go_sem]
  · intro j hj
    have h1 := bR_len (l ++ (numB n).take j)
    have h2 := bR_ul (l ++ (numB n).take j)
    have hlen : (l ++ (numB n).take j).length ≤ 1000008 := by simp; omega
    unfold wHp
    simp -dsimp [go_sem]
    refine Cnd.intro (fun h => ?_) (fun h => ?_)
    · have hlt : j < 8 := by simp at h; omega
      have e1 : IntKind.i64.wrap (56 - 8 * (j : Int) - 8) = 56 - 8 * ((j + 1 : Nat) : Int) := by rw [IntWalk.i64_in _ (by omega)]; omega
      have e2 : IntKind.u8.wrap ((numU n : Int).fdiv (2 ^ min (56 - 8 * (j : Int)).toNat 64)) = ((byteAt' (numU n) (56 - 8 * j)).toNat : Int) := by
        rw [show min (56 - 8 * (j : Int)).toNat 64 = 56 - 8 * j by omega]; exact byte_row _ _
      have e3 : bR (l ++ (numB n).take (j + 1)) = bR (l ++ (numB n).take j) ++ [[.lit (.int .u8 ((byteAt' (numU n) (56 - 8 * j)).toNat : Int))]] := by
        have : (numB n).take (j + 1) = (numB n).take j ++ [byteAt' (numU n) (56 - 8 * j)] := by
          have hc : j = 0 ∨ j = 1 ∨ j = 2 ∨ j = 3 ∨ j = 4 ∨ j = 5 ∨ j = 6 ∨ j = 7 := by omega
          rcases hc with rfl | rfl | rfl | rfl | rfl | rfl | rfl | rfl <;> rfl
        rw [this, ← List.append_assoc, bR_app]; rfl
      repeat' (first | (with_reducible first | refine Cn (fun h => ?_) fun h => ?_ | refine And.intro ?_ ?_ | refine wR ?_ | exact wr _ _ | refine wa ?_ | apply awp_join) | (with_reducible refine CallZ.z ?_) | simp -dsimp [go_sem, h1, h2, e1, e2])
      all_goals first | omega | (with_reducible refine Again.auto (j + 1) ?_ ?_ ?_) | (simp [UL]; done) | skip
      · simp -dsimp [go_sem, e3]
      · exact hlt
      · show 8 - (j + 1) < 8 - j
        omega
    · have hj8 : j = 8 := by simp at h; omega
      subst hj8
      have e3 : (numB n).take 8 = numB n := rfl
      rw [e3]
      simp -dsimp [go_sem]
theorem wtext_c (l : List UInt8) (t : ByteArray) (hl : l.length ≤ 900000) (ht : t.size ≤ 1000) : DetCall Try.prog G 27 1 (wHp l) [.one (.ptr 0 0), sV t] (.tup []) (wHp (l ++ textB t)) := by
  refine gcallc mixed Try.func27 ac_wire_writer_text ?_
  have h1 := bR_len (l ++ [smallB t.size])
  have h2 := bR_ul (l ++ [smallB t.size])
  have h3 : bR (l ++ textB t) = bR (l ++ [smallB t.size]) ++ bR t.data.toList := by rw [← bR_app]; simp [textB]
  have h4 := bR_ul t.data.toList
  have h5 := bR_len t.data.toList
  have h6 : t.data.toList.length = t.size := by rw [Array.length_toList]; rfl
  have h7 : (l ++ [smallB t.size]).length ≤ 900001 := by simp; omega
  unfold wHp
  rw [h3]
  repeat' (first | (with_reducible first | refine Cn (fun h => ?_) fun h => ?_ | refine And.intro ?_ ?_ | refine wR ?_ | exact wr _ _ | refine wa ?_ | apply awp_join | refine qg (wsmall_c l _ (by omega)) ?_ | refine qgd (wsmall_c l _ (by omega)) ?_) | (with_reducible refine CallZ.z ?_) | simp -dsimp [go_sem, h1, h2, h4, h5, bR_str])
  all_goals omega
theorem textB_len (t : ByteArray) : (textB t).length = t.size + 1 := by unfold textB; rw [List.length_cons, Array.length_toList]; rfl
theorem numB_len (n : Int) : (numB n).length = 8 := rfl
end Go.Proofs.Ytpdcfljbabpakaa

/- Bytes: reading is the other way of writing; plain laws. -/
set_option linter.unusedVariables false
set_option linter.unusedSimpArgs false
set_option maxRecDepth 100000
set_option maxHeartbeats 8000000
namespace Go.Proofs.Ytpdcfljbabpakaa
open Go Go.RowKit Go.Proofs.AE
structure Rd where
  rest : List UInt8
  short : Bool
def takeR (r : Rd) (n : Nat) : List UInt8 × Rd := if r.short = true ∨ r.rest.length < n then ([], ⟨r.rest, true⟩) else (r.rest.take n, ⟨r.rest.drop n, false⟩)
def uOf (l : List UInt8) : Nat := l.foldl (fun u c => (u * 256 + c.toNat) % 18446744073709551616) 0
def numOf (l : List UInt8) : Int := IntKind.i64.wrap ((uOf l : Int) - 4611686018427387904)
def numR (r : Rd) : Int × Rd := (numOf (takeR r 8).1, (takeR r 8).2)
def smallR (r : Rd) : Nat × Rd := ((match (takeR r 1).1 with | c :: _ => c.toNat | [] => 0), (takeR r 1).2)
def txtR (r : Rd) : ByteArray × Rd := (⟨(takeR (smallR r).2 (smallR r).1).1.toArray⟩, (takeR (smallR r).2 (smallR r).1).2)
/-! ### there and back -/
theorem takeR_app (b rest : List UInt8) {n : Nat} (h : b.length = n) : takeR ⟨b ++ rest, false⟩ n = (b, ⟨rest, false⟩) := by
  subst h
  unfold takeR
  rw [if_neg (by simp), List.take_left' rfl, List.drop_left' rfl]
theorem uOf_numB {n : Int} (h : inNum n) : uOf (numB n) = numU n := by
  have hu : numU n < 18446744073709551616 := by unfold inNum at h; unfold numU; omega
  unfold uOf numB byteAt'
  generalize numU n = u at hu
  simp only [List.foldl_cons, List.foldl_nil, UInt8.toNat_ofNat']
  omega
theorem numOf_numB {n : Int} (h : inNum n) : numOf (numB n) = n := by
  unfold numOf
  rw [uOf_numB h]
  unfold inNum at h
  unfold numU
  rw [IntWalk.i64_in _ (by omega)]
  omega
theorem numR_app {n : Int} (h : inNum n) (rest : List UInt8) : numR ⟨numB n ++ rest, false⟩ = (n, ⟨rest, false⟩) := by
  unfold numR
  rw [takeR_app (numB n) rest (n := 8) rfl, numOf_numB h]
theorem smallR_app (c : UInt8) (rest : List UInt8) : smallR ⟨c :: rest, false⟩ = (c.toNat, ⟨rest, false⟩) := by
  have := takeR_app [c] rest (n := 1) rfl
  unfold smallR
  rw [show c :: rest = [c] ++ rest from rfl, this]
theorem smallB_toNat {n : Int} (h : 0 ≤ n) (h2 : n < 256) : (smallB n).toNat = n.toNat := by
  unfold smallB
  rw [UInt8.toNat_ofNat']; omega
theorem txtR_app {t : ByteArray} (h : t.size ≤ 255) (rest : List UInt8) : txtR ⟨textB t ++ rest, false⟩ = (t, ⟨rest, false⟩) := by
  have h1 : smallR ⟨textB t ++ rest, false⟩ = (t.size, ⟨t.data.toList ++ rest, false⟩) := by
    unfold textB
    rw [List.cons_append, smallR_app, smallB_toNat (by omega) (by omega)]
    simp
  unfold txtR
  rw [h1, takeR_app _ _ (by rw [Array.length_toList]; rfl)]
theorem uOf_lt (l : List UInt8) : uOf l < 18446744073709551616 := by
  unfold uOf
  rcases l.eq_nil_or_concat with rfl | ⟨a, b, rfl⟩
  · simp
  · rw [List.concat_eq_append, List.foldl_append]
    simp only [List.foldl_cons, List.foldl_nil]
    omega
theorem uOf_snoc (l : List UInt8) (c : UInt8) : uOf (l ++ [c]) = (uOf l * 256 + c.toNat) % 18446744073709551616 := by
  unfold uOf
  rw [List.foldl_append]
  rfl
theorem takeR_len (r : Rd) (n : Nat) : (takeR r n).1.length ≤ n := by
  unfold takeR
  split
  · simp
  · simp; omega
theorem takeR_short (l : List UInt8) (n : Nat) : (takeR ⟨l, true⟩ n).2.short = true := by simp [takeR]
theorem takeR_ext {l1 : List UInt8} (l2 : List UInt8) {n : Nat} (h : (takeR ⟨l1, false⟩ n).2.short = false) : takeR ⟨l1 ++ l2, false⟩ n = ((takeR ⟨l1, false⟩ n).1, ⟨(takeR ⟨l1, false⟩ n).2.rest ++ l2, false⟩) := by
  unfold takeR at h ⊢
  split at h
  · cases h
  · rename_i h1
    have h2 : ¬ l1.length < n := by simpa using h1
    rw [if_neg (by simp; omega), if_neg h1]
    simp only
    rw [List.take_append_of_le_length (by omega), List.drop_append_of_le_length (by omega)]
/-- Reading on: once short, always short; what is read of the beginning is read of the whole. -/
structure Reads {α : Type} (f : Rd → α × Rd) : Prop where
  stuck : ∀ l, (f ⟨l, true⟩).2.short = true
  ext : ∀ l1 l2, (f ⟨l1, false⟩).2.short = false → f ⟨l1 ++ l2, false⟩ = ((f ⟨l1, false⟩).1, ⟨(f ⟨l1, false⟩).2.rest ++ l2, false⟩)
theorem Reads.take (n : Nat) : Reads (fun r => takeR r n) := ⟨fun l => takeR_short l n, fun l1 l2 h => takeR_ext l2 h⟩
theorem Reads.map {α β : Type} {f : Rd → α × Rd} (h : Reads f) (g : α → β) : Reads (fun r => (g (f r).1, (f r).2)) :=
  ⟨fun l => h.stuck l, fun l1 l2 hs => by
    have := h.ext l1 l2 hs
    simp only [this]⟩
theorem Reads.bind {α β γ : Type} {f : Rd → α × Rd} {g : α → Rd → β × Rd} (c : α → β → γ) (h : Reads f) (hg : ∀ a, Reads (g a)) : Reads (fun r => (c (f r).1 (g (f r).1 (f r).2).1, (g (f r).1 (f r).2).2)) := by
  refine ⟨fun l => ?_, fun l1 l2 hs => ?_⟩
  · have h1 := h.stuck l
    generalize f ⟨l, true⟩ = p at *
    obtain ⟨a, r, s⟩ := p
    simp only at h1 ⊢
    subst h1
    exact (hg a).stuck r
  · simp only at hs ⊢
    have h1 : (f ⟨l1, false⟩).2.short = false := by
      cases hq : (f ⟨l1, false⟩).2.short with
      | false => rfl
      | true =>
        generalize f ⟨l1, false⟩ = p at *
        obtain ⟨a, r, s⟩ := p
        simp only at hq hs
        subst hq
        rw [(hg a).stuck r] at hs; cases hs
    rw [h.ext l1 l2 h1]
    generalize f ⟨l1, false⟩ = p at *
    obtain ⟨a, r, s⟩ := p
    simp only at h1 hs ⊢
    subst h1
    rw [(hg a).ext r l2 hs]
theorem reads_num : Reads numR := (Reads.take 8).map numOf
theorem reads_small : Reads smallR := (Reads.take 1).map fun l => match l with | c :: _ => c.toNat | [] => 0
theorem reads_text : Reads txtR := Reads.bind (f := smallR) (g := fun n r => takeR r n) (fun _ b => (⟨b.toArray⟩ : ByteArray)) reads_small fun n => Reads.take n
theorem numB_numOf {b : List UInt8} (hb : b.length = 8) (h : inNum (numOf b)) : numB (numOf b) = b := by
  have hu := uOf_lt b
  have e : ((uOf b : Nat) : Int) - 4611686018427387904 = numOf b := by
    unfold numOf at h ⊢
    unfold inNum at h
    have hw : IntKind.i64.wrap ((uOf b : Int) - 4611686018427387904) = (uOf b : Int) - 4611686018427387904 ∨ IntKind.i64.wrap ((uOf b : Int) - 4611686018427387904) = (uOf b : Int) - 4611686018427387904 - 18446744073709551616 := by
      by_cases hlt : (uOf b : Int) - 4611686018427387904 ≤ 9223372036854775807
      · left; exact IntWalk.i64_in _ (by omega)
      · right
        simp [IntKind.wrap, IntKind.bits, IntKind.signed]
        omega
    omega
  have hn : numU (numOf b) = uOf b := by unfold numU; omega
  unfold numB
  rw [hn]
  match b, hb with
  | [b7, b6, b5, b4, b3, b2, b1, b0], _ =>
    have l7 := b7.toNat_lt; have l6 := b6.toNat_lt; have l5 := b5.toNat_lt; have l4 := b4.toNat_lt
    have l3 := b3.toNat_lt; have l2 := b2.toNat_lt; have l1 := b1.toNat_lt; have l0 := b0.toNat_lt
    have hU : uOf [b7, b6, b5, b4, b3, b2, b1, b0] = ((((((b7.toNat * 256 + b6.toNat) * 256 + b5.toNat) * 256 + b4.toNat) * 256 + b3.toNat) * 256 + b2.toNat) * 256 + b1.toNat) * 256 + b0.toNat := by
      simp only [uOf, List.foldl_cons, List.foldl_nil]
      omega
    rw [hU]
    have key : ∀ (u s : Nat) (c : UInt8), u / 2 ^ s % 256 = c.toNat → byteAt' u s = c := by
      intro u s c h
      apply UInt8.toNat_inj.1
      unfold byteAt'
      rw [UInt8.toNat_ofNat']; omega
    rw [key _ 56 b7 (by omega), key _ 48 b6 (by omega), key _ 40 b5 (by omega), key _ 32 b4 (by omega), key _ 24 b3 (by omega), key _ 16 b2 (by omega), key _ 8 b1 (by omega), key _ 0 b0 (by omega)]
theorem take_eats {l : List UInt8} {n : Nat} (h : (takeR ⟨l, false⟩ n).2.short = false) : (takeR ⟨l, false⟩ n).1.length = n ∧ l = (takeR ⟨l, false⟩ n).1 ++ (takeR ⟨l, false⟩ n).2.rest := by
  unfold takeR at h ⊢
  split at h
  · cases h
  · rename_i h1
    rw [if_neg h1]
    have h2 : ¬ l.length < n := by simpa using h1
    exact ⟨by simp; omega, (List.take_append_drop n l).symm⟩
theorem num_eats {l : List UInt8} (h : (numR ⟨l, false⟩).2.short = false) (hn : inNum (numR ⟨l, false⟩).1) : l = numB (numR ⟨l, false⟩).1 ++ (numR ⟨l, false⟩).2.rest := by
  unfold numR at h hn ⊢
  obtain ⟨h1, h2⟩ := take_eats h
  rw [numB_numOf h1 hn]
  exact h2
theorem small_eats {l : List UInt8} (h : (smallR ⟨l, false⟩).2.short = false) : l = smallB (smallR ⟨l, false⟩).1 :: (smallR ⟨l, false⟩).2.rest ∧ (smallR ⟨l, false⟩).1 < 256 := by
  unfold smallR at h ⊢
  obtain ⟨h1, h2⟩ := take_eats h
  generalize takeR ⟨l, false⟩ 1 = p at *
  obtain ⟨b, r⟩ := p
  simp only at h1 h2 ⊢
  match b, h1 with
  | [c], _ =>
    have := c.toNat_lt
    simp only
    refine ⟨?_, this⟩
    have hc : smallB (c.toNat : Int) = c := by
      apply UInt8.toNat_inj.1
      rw [smallB_toNat (by omega) (by omega)]
      simp
    rw [hc]; exact h2
theorem text_eats {l : List UInt8} (h : (txtR ⟨l, false⟩).2.short = false) : l = textB (txtR ⟨l, false⟩).1 ++ (txtR ⟨l, false⟩).2.rest := by
  unfold txtR at h ⊢
  have hs : (smallR ⟨l, false⟩).2.short = false := by
    cases hq : (smallR ⟨l, false⟩).2.short with
    | false => rfl
    | true =>
      generalize smallR ⟨l, false⟩ = p at *
      obtain ⟨a, r, s⟩ := p
      simp only at hq h
      subst hq
      rw [takeR_short] at h; cases h
  obtain ⟨h1, h2⟩ := small_eats hs
  generalize smallR ⟨l, false⟩ = p at *
  obtain ⟨n, r, s⟩ := p
  simp only at hs h h1 h2 ⊢
  subst hs
  obtain ⟨h3, h4⟩ := take_eats h
  unfold textB
  have h5 : ((⟨(takeR ⟨r, false⟩ n).1.toArray⟩ : ByteArray).size : Int) = n := by
    show (((takeR ⟨r, false⟩ n).1.toArray.size : Nat) : Int) = n
    simp [h3]
  rw [h5, h1]
  simp only [List.cons_append]
  congr 1
theorem num_eats' {r : Rd} (h : (numR r).2.short = false) (hn : inNum (numR r).1) : r.short = false ∧ r.rest = numB (numR r).1 ++ (numR r).2.rest := by
  obtain ⟨l, s⟩ := r
  cases s with
  | true => rw [reads_num.stuck l] at h; cases h
  | false => exact ⟨rfl, num_eats h hn⟩
theorem small_eats' {r : Rd} (h : (smallR r).2.short = false) : r.short = false ∧ r.rest = smallB (smallR r).1 :: (smallR r).2.rest ∧ (smallR r).1 < 256 := by
  obtain ⟨l, s⟩ := r
  cases s with
  | true => rw [reads_small.stuck l] at h; cases h
  | false => exact ⟨rfl, small_eats h⟩
theorem text_eats' {r : Rd} (h : (txtR r).2.short = false) : r.short = false ∧ r.rest = textB (txtR r).1 ++ (txtR r).2.rest := by
  obtain ⟨l, s⟩ := r
  cases s with
  | true => rw [reads_text.stuck l] at h; cases h
  | false => exact ⟨rfl, text_eats h⟩
end Go.Proofs.Ytpdcfljbabpakaa

/- Machines as bytes: the model; reading is the other way of writing. -/
set_option linter.unusedVariables false
set_option linter.unusedSimpArgs false
set_option maxRecDepth 100000
set_option maxHeartbeats 8000000
namespace Go.Proofs.Ytpdcfljbabpakaa
open Go Go.RowKit Go.Proofs.AE
/-- A reader and a writer of one kind of things. -/
structure Codec {α : Type} (f : Rd → α × Rd) (g : α → List UInt8) (ok : α → Prop) : Prop where
  back : ∀ a rest, ok a → f ⟨g a ++ rest, false⟩ = (a, ⟨rest, false⟩)
  reads : Reads f
  eats : ∀ r, (f r).2.short = false → ok (f r).1 → r.short = false ∧ r.rest = g (f r).1 ++ (f r).2.rest
theorem Codec.num : Codec numR numB inNum := ⟨fun n rest h => numR_app h rest, reads_num, fun r h hn => num_eats' h hn⟩
theorem Codec.text : Codec txtR textB (fun t => t.size ≤ 255) := ⟨fun t rest h => txtR_app h rest, reads_text, fun r h _ => text_eats' h⟩
def smR (r : Rd) : Int × Rd := ((smallR r).1, (smallR r).2)
theorem Codec.small : Codec smR (fun n => [smallB n]) (fun n => 0 ≤ n ∧ n < 256) := by
  refine ⟨fun n rest h => ?_, reads_small.map fun n : Nat => (n : Int), fun r h hn => ?_⟩
  · have := smallR_app (smallB n) rest
    unfold smR
    rw [show [smallB n] ++ rest = smallB n :: rest from rfl, this, smallB_toNat h.1 h.2]
    simp only [Prod.mk.injEq, and_true]
    omega
  · obtain ⟨h1, h2, _⟩ := small_eats' (r := r) h
    exact ⟨h1, h2⟩
theorem Codec.seq {α β : Type} {f : Rd → α × Rd} {g : α → List UInt8} {ok : α → Prop} {f' : Rd → β × Rd} {g' : β → List UInt8} {ok' : β → Prop} (A : Codec f g ok) (B : Codec f' g' ok') :
    Codec (fun r => (((f r).1, (f' (f r).2).1), (f' (f r).2).2)) (fun p => g p.1 ++ g' p.2) (fun p => ok p.1 ∧ ok' p.2) := by
  refine ⟨fun p rest h => ?_, Reads.bind (g := fun _ => f') Prod.mk A.reads fun _ => B.reads, fun r h ho => ?_⟩
  · simp only [List.append_assoc, A.back p.1 _ h.1, B.back p.2 _ h.2]
  · simp only at h ho ⊢
    obtain ⟨h1, h2⟩ := B.eats (f r).2 h ho.2
    obtain ⟨h3, h4⟩ := A.eats r h1 ho.1
    exact ⟨h3, by rw [h4, h2, List.append_assoc]⟩
theorem Codec.iso {α β : Type} {f : Rd → α × Rd} {g : α → List UInt8} {ok : α → Prop} (A : Codec f g ok) (to : α → β) (of : β → α) (h1 : ∀ b, to (of b) = b) (h2 : ∀ a, of (to a) = a) :
    Codec (fun r => (to (f r).1, (f r).2)) (fun b => g (of b)) (fun b => ok (of b)) := by
  refine ⟨fun b rest h => ?_, A.reads.map to, fun r h ho => ?_⟩
  · simp only [A.back (of b) rest h, h1]
  · simp only [h2] at h ho ⊢
    exact A.eats r h ho
def eachN {α : Type} (f : Rd → α × Rd) : Nat → Rd → List α × Rd
  | 0, r => ([], r)
  | n + 1, r => if r.short = true then ([], r) else ((f r).1 :: (eachN f n (f r).2).1, (eachN f n (f r).2).2)
def eachR {α : Type} (f : Rd → α × Rd) (r : Rd) : List α × Rd := eachN f (smallR r).1 (smallR r).2
def manyB {α : Type} (g : α → List UInt8) (l : List α) : List UInt8 := smallB l.length :: l.flatMap g
theorem eachN_back {α : Type} {f : Rd → α × Rd} {g : α → List UInt8} {ok : α → Prop} (A : Codec f g ok) : ∀ (l : List α) (rest : List UInt8), (∀ a ∈ l, ok a) → eachN f l.length ⟨l.flatMap g ++ rest, false⟩ = (l, ⟨rest, false⟩)
  | [], rest, _ => rfl
  | a :: l, rest, h => by
    have ih := eachN_back A l rest fun b hb => h b (List.mem_cons_of_mem _ hb)
    have ha := A.back a (l.flatMap g ++ rest) (h a (List.mem_cons_self ..))
    simp only [List.length_cons, eachN, List.flatMap_cons, List.append_assoc, Bool.false_eq_true, if_false, ha, ih]
theorem eachN_stuck {α : Type} {f : Rd → α × Rd} : ∀ (n : Nat) (l : List UInt8), (eachN f n ⟨l, true⟩).2.short = true
  | 0, _ => rfl
  | n + 1, l => by simp [eachN]
theorem eachN_reads {α : Type} {f : Rd → α × Rd} (A : Reads f) : ∀ n, Reads (eachN f n)
  | 0 => ⟨fun l => rfl, fun l1 l2 _ => rfl⟩
  | n + 1 => by
    have ih := eachN_reads A n
    have hb := Reads.bind (f := f) (g := fun _ => eachN f n) (fun a l => a :: l) A fun _ => ih
    refine ⟨fun l => eachN_stuck (n + 1) l, fun l1 l2 h => ?_⟩
    simp only [eachN, Bool.false_eq_true, if_false] at h ⊢
    exact hb.ext l1 l2 h
theorem eachN_eats {α : Type} {f : Rd → α × Rd} {g : α → List UInt8} {ok : α → Prop} (A : Codec f g ok) : ∀ (n : Nat) (r : Rd), (eachN f n r).2.short = false → (∀ a ∈ (eachN f n r).1, ok a) → r.short = false ∧ (eachN f n r).1.length = n ∧ r.rest = (eachN f n r).1.flatMap g ++ (eachN f n r).2.rest
  | 0, r, h, _ => ⟨h, rfl, rfl⟩
  | n + 1, r, h, ho => by
    unfold eachN at h ho ⊢
    by_cases hs : r.short = true
    · rw [if_pos hs] at h; rw [hs] at h; cases h
    · rw [if_neg hs] at h ho ⊢
      simp only [List.mem_cons] at h ho ⊢
      obtain ⟨i1, i2, i3⟩ := eachN_eats A n (f r).2 h fun a ha => ho a (.inr ha)
      obtain ⟨j1, j2⟩ := A.eats r i1 (ho _ (.inl rfl))
      exact ⟨j1, by simp [i2], by rw [j2, i3]; simp⟩
theorem Codec.many {α : Type} {f : Rd → α × Rd} {g : α → List UInt8} {ok : α → Prop} (A : Codec f g ok) : Codec (eachR f) (manyB g) (fun l => l.length ≤ 255 ∧ ∀ a ∈ l, ok a) := by
  refine ⟨fun l rest h => ?_, ?_, fun r h ho => ?_⟩
  · unfold eachR manyB
    rw [List.cons_append, smallR_app, smallB_toNat (by omega) (by omega)]
    simp only [Int.toNat_natCast]
    exact eachN_back A l rest h.2
  · exact Reads.bind (f := smallR) (g := fun n => eachN f n) (fun _ l => l) reads_small fun n => eachN_reads A.reads n
  · unfold eachR at h ho ⊢
    obtain ⟨h1, h2, h3⟩ := eachN_eats A _ _ h ho.2
    obtain ⟨h4, h5, _⟩ := small_eats' (r := r) h1
    refine ⟨h4, ?_⟩
    unfold manyB
    rw [h5, h3, h2]
    rfl
/-! ### machines -/
def prR (r : Rd) : Pr × Rd := (((txtR r).1, (txtR (txtR r).2).1), (txtR (txtR r).2).2)
def prB (p : Pr) : List UInt8 := textB p.1 ++ textB p.2
theorem Codec.pr : Codec prR prB (fun p => p.1.size ≤ 255 ∧ p.2.size ≤ 255) := Codec.seq Codec.text Codec.text
def scR (r : Rd) : Sc × Rd := (((txtR r).1, (numR (txtR r).2).1), (numR (txtR r).2).2)
def scB (s : Sc) : List UInt8 := textB s.1 ++ numB s.2
theorem Codec.sc : Codec scR scB (fun s => s.1.size ≤ 255 ∧ inNum s.2) := Codec.seq Codec.text Codec.num
abbrev ValT : Type := Int × ByteArray × Int × List Pr × List ByteArray × List Sc
def valT (v : Val) : ValT := (v.kind, v.text, v.count, v.pairs, v.items, v.scores)
def tVal (p : ValT) : Val := ⟨p.1, p.2.1, p.2.2.1, p.2.2.2.1, p.2.2.2.2.1, p.2.2.2.2.2⟩
def sqR {α β : Type} (f : Rd → α × Rd) (g : Rd → β × Rd) (r : Rd) : (α × β) × Rd := (((f r).1, (g (f r).2).1), (g (f r).2).2)
def mapR {α β : Type} (t : α → β) (f : Rd → α × Rd) (r : Rd) : β × Rd := (t (f r).1, (f r).2)
def valR : Rd → Val × Rd := mapR tVal (sqR smR (sqR txtR (sqR numR (sqR (eachR prR) (sqR (eachR txtR) (eachR scR))))))
def valB (v : Val) : List UInt8 := [smallB v.kind] ++ (textB v.text ++ (numB v.count ++ (manyB prB v.pairs ++ (manyB textB v.items ++ manyB scB v.scores))))
structure SizV (v : Val) : Prop where
  kind : 0 ≤ v.kind ∧ v.kind < 256
  text : v.text.size ≤ 255
  count : inNum v.count
  pairs : v.pairs.length ≤ 255 ∧ ∀ p ∈ v.pairs, p.1.size ≤ 255 ∧ p.2.size ≤ 255
  items : v.items.length ≤ 255 ∧ ∀ t ∈ v.items, t.size ≤ 255
  scores : v.scores.length ≤ 255 ∧ ∀ s ∈ v.scores, s.1.size ≤ 255 ∧ inNum s.2
theorem Codec.ok {α : Type} {f : Rd → α × Rd} {g : α → List UInt8} {ok ok' : α → Prop} (A : Codec f g ok) (h : ∀ a, ok' a → ok a) : Codec f g ok' := ⟨fun a rest ha => A.back a rest (h a ha), A.reads, fun r hs ha => A.eats r hs (h _ ha)⟩
theorem Codec.val : Codec valR valB SizV :=
  ((Codec.small.seq (Codec.text.seq (Codec.num.seq (Codec.pr.many.seq (Codec.text.many.seq Codec.sc.many))))).iso tVal valT (fun v => rfl) (fun p => rfl)).ok
    fun v h => ⟨h.kind, h.text, h.count, h.pairs, h.items, h.scores⟩
abbrev EntT : Type := ByteArray × Val × Int
def tEnt (p : EntT) : Ent := ⟨p.1, p.2.1, p.2.2⟩
def entR : Rd → Ent × Rd := mapR tEnt (sqR txtR (sqR valR numR))
def entB (e : Ent) : List UInt8 := textB e.key ++ (valB e.val ++ numB e.till)
structure SizE (e : Ent) : Prop where
  key : e.key.size ≤ 255
  val : SizV e.val
  till : inNum e.till
theorem Codec.ent : Codec entR entB SizE :=
  ((Codec.text.seq (Codec.val.seq Codec.num)).iso tEnt (fun e => (e.key, e.val, e.till)) (fun e => rfl) (fun p => rfl)).ok fun e h => ⟨h.key, h.val, h.till⟩
abbrev CliT : Type := Int × Int × Int × Int × ByteArray × Int × List ByteArray
def tCli (p : CliT) : Cli := ⟨p.1, p.2.1, p.2.2.1, ⟨p.2.2.2.1, p.2.2.2.2.1, p.2.2.2.2.2.1, p.2.2.2.2.2.2⟩⟩
def cliR : Rd → Cli × Rd := mapR tCli (sqR numR (sqR numR (sqR numR (sqR smR (sqR txtR (sqR numR (eachR txtR)))))))
def cliB (x : Cli) : List UInt8 := numB x.id ++ (numB x.seq ++ (numB x.time ++ ([smallB x.reply.code] ++ (textB x.reply.text ++ (numB x.reply.n ++ manyB textB x.reply.list)))))
structure SizC (x : Cli) : Prop where
  id : inNum x.id
  seq : inNum x.seq
  time : inNum x.time
  code : 0 ≤ x.reply.code ∧ x.reply.code < 256
  text : x.reply.text.size ≤ 255
  n : inNum x.reply.n
  list : x.reply.list.length ≤ 255 ∧ ∀ t ∈ x.reply.list, t.size ≤ 255
theorem Codec.cli : Codec cliR cliB SizC :=
  ((Codec.num.seq (Codec.num.seq (Codec.num.seq (Codec.small.seq (Codec.text.seq (Codec.num.seq Codec.text.many)))))).iso tCli (fun x => (x.id, x.seq, x.time, x.reply.code, x.reply.text, x.reply.n, x.reply.list)) (fun x => rfl) (fun p => rfl)).ok
    fun x h => ⟨h.id, h.seq, h.time, h.code, h.text, h.n, h.list⟩
abbrev MachT : Type := Int × List Ent × Int × List Cli
def tMach (p : MachT) : Mach := ⟨⟨p.1, p.2.1⟩, p.2.2.1, p.2.2.2⟩
def machR : Rd → Mach × Rd := mapR tMach (sqR numR (sqR (eachR entR) (sqR numR (eachR cliR))))
def machB (m : Mach) : List UInt8 := numB m.sto.now ++ (manyB entB m.sto.ents ++ (numB m.next ++ manyB cliB m.clis))
structure SizM (m : Mach) : Prop where
  now : inNum m.sto.now
  ents : m.sto.ents.length ≤ 255 ∧ ∀ e ∈ m.sto.ents, SizE e
  next : inNum m.next
  clis : m.clis.length ≤ 255 ∧ ∀ x ∈ m.clis, SizC x
theorem Codec.mach : Codec machR machB SizM :=
  ((Codec.num.seq (Codec.ent.many.seq (Codec.num.seq Codec.cli.many))).iso tMach (fun m => (m.sto.now, m.sto.ents, m.next, m.clis)) (fun m => rfl) (fun p => rfl)).ok fun m h => ⟨h.now, h.ents, h.next, h.clis⟩
theorem okT_size {t : ByteArray} (h : okText t = true) : t.size ≤ 20 := by unfold okText at h; simp at h; omega
theorem okF_size {t : ByteArray} (h : okField t = true) : t.size ≤ 12 := by unfold okField at h; simp at h; omega
theorem okC_num {n : Int} (h : okCount n = true) : inNum n := by unfold okCount at h; simp at h; unfold inNum; omega
theorem OkV.siz {v : Val} (h : OkV v) : SizV v := by
  have hb := h.b
  have he := hb.els
  unfold Val.els at he
  refine ⟨by have := h.kind; omega, by have := okT_size h.okT; omega, okC_num h.okC, ⟨by omega, fun p hp => ?_⟩, ⟨by omega, fun t ht => ?_⟩, ⟨by omega, fun s hs => ?_⟩⟩
  · have := h.okP p hp; have h1 := okF_size this.1; have h2 := okT_size this.2; omega
  · have := okT_size (h.okI t ht); omega
  · have := h.okS s hs; have h1 := okT_size this.1; exact ⟨by omega, okC_num this.2⟩
theorem OkE.siz {now : Int} (h0 : 0 ≤ now) {e : Ent} (h : OkE now e) : SizE e := by
  refine ⟨by have := okF_size h.key; omega, h.val.siz, ?_⟩
  have := h.till
  unfold inNum; omega
theorem OkC.siz {next now : Int} (hn : next ≤ 1048577) (hw : now ≤ 1073741824) {x : Cli} (h : OkC next now x) : SizC x := by
  have hr := checkR_iff.1 h.reply
  have h1 := h.id; have h2 := h.seq; have h3 := h.time
  refine ⟨by unfold inNum; omega, by unfold inNum; omega, by unfold inNum; omega, by have := hr.code; omega, by have := okT_size hr.text; omega, okC_num hr.n, ⟨by have := hr.len; omega, fun t ht => by have := okT_size (hr.list t ht); omega⟩⟩
theorem OkM.siz {m : Mach} (h : OkM m) : SizM m := by
  have h1 := h.sto.now; have h2 := h.next
  exact ⟨by unfold inNum; omega, ⟨by have := h.sto.len; omega, fun e he => (h.sto.all e he).siz h1.1⟩, by unfold inNum; omega, ⟨by have := h.len; omega, fun x hx => (h.all x hx).siz h2.2 h1.2⟩⟩
/-- What Decode makes of bytes. -/
def endR (r : Rd) : Int := if r.short = true then 9 else if 0 < r.rest.length then 8 else 0
def decM (l : List UInt8) : Mach × Int :=
  if 20000 < l.length then (zeroM, 1)
  else if endR (machR ⟨l, false⟩).2 ≠ 0 then (zeroM, endR (machR ⟨l, false⟩).2)
  else if checkM (machR ⟨l, false⟩).1 ≠ 0 then (zeroM, checkM (machR ⟨l, false⟩).1)
  else ((machR ⟨l, false⟩).1, 0)
theorem decM_back {m : Mach} (h : OkM m) (hl : (machB m).length ≤ 20000) : decM (machB m) = (m, 0) := by
  have e := Codec.mach.back m [] h.siz
  rw [List.append_nil] at e
  unfold decM
  rw [if_neg (by omega), e]
  simp only [endR]
  rw [if_neg (by simp), if_neg (by rw [checkM_iff.2 h]; simp)]
theorem decM_more {m : Mach} (h : OkM m) (t : UInt8) (hl : (machB m).length < 20000) : decM (machB m ++ [t]) = (zeroM, 8) := by
  have e := Codec.mach.back m [t] h.siz
  unfold decM
  rw [if_neg (by simp; omega), e]
  simp [endR]
theorem decM_torn {m : Mach} (h : OkM m) {k : Nat} (hk : k < (machB m).length) (hl : (machB m).length ≤ 20000) : decM ((machB m).take k) = (zeroM, 9) := by
  have hs : (machR ⟨(machB m).take k, false⟩).2.short = true := by
    cases hq : (machR ⟨(machB m).take k, false⟩).2.short with
    | true => rfl
    | false =>
      have e := Codec.mach.back m [] h.siz
      rw [List.append_nil] at e
      have e2 := Codec.mach.reads.ext ((machB m).take k) ((machB m).drop k) hq
      rw [List.take_append_drop, e] at e2
      have e3 := congrArg (fun q => q.2.rest) e2
      simp only at e3
      have e4 := congrArg List.length e3
      simp at e4
      omega
  unfold decM
  rw [if_neg (by rw [List.length_take]; omega)]
  have he : endR (machR ⟨(machB m).take k, false⟩).2 = 9 := by unfold endR; rw [if_pos hs]
  rw [he, if_pos (by omega)]
theorem decM_fixed {l : List UInt8} (h : (decM l).2 = 0) : OkM (decM l).1 ∧ machB (decM l).1 = l ∧ l.length ≤ 20000 := by
  unfold decM at h ⊢
  by_cases h1 : 20000 < l.length
  · rw [if_pos h1] at h; cases h
  · rw [if_neg h1] at h ⊢
    by_cases h2 : endR (machR ⟨l, false⟩).2 ≠ 0
    · rw [if_pos h2] at h; exact absurd h h2
    · rw [if_neg h2] at h ⊢
      by_cases h3 : checkM (machR ⟨l, false⟩).1 ≠ 0
      · rw [if_pos h3] at h; exact absurd h h3
      · rw [if_neg h3]
        have ok := checkM_iff.1 (Classical.not_not.1 h3)
        have he := Classical.not_not.1 h2
        unfold endR at he
        split at he
        · cases he
        · rename_i hs
          split at he
          · cases he
          · rename_i hr
            have hs' : (machR ⟨l, false⟩).2.short = false := by simpa using hs
            obtain ⟨_, e⟩ := Codec.mach.eats ⟨l, false⟩ hs' ok.siz
            have hr' : (machR ⟨l, false⟩).2.rest = [] := List.eq_nil_of_length_eq_zero (by omega)
            rw [hr', List.append_nil] at e
            exact ⟨ok, e.symm, by omega⟩
theorem decM_err {l : List UInt8} (h : (decM l).2 ≠ 0) : (decM l).1 = zeroM := by
  unfold decM at h ⊢
  split
  · rfl
  · split
    · rfl
    · split
      · rfl
      · rename_i h1 h2 h3
        rw [if_neg h1, if_neg h2, if_neg h3] at h
        exact absurd rfl h
/-! ### how long -/
theorem flat_len {α : Type} {g : α → List UInt8} {b : Nat} : ∀ (l : List α), (∀ a ∈ l, (g a).length ≤ b) → (l.flatMap g).length ≤ l.length * b
  | [], _ => by simp
  | a :: l, h => by
    have ih := flat_len l fun x hx => h x (List.mem_cons_of_mem _ hx)
    have ha := h a (List.mem_cons_self ..)
    rw [List.flatMap_cons, List.length_append, List.length_cons, Nat.add_mul]
    omega
theorem many_len {α : Type} {g : α → List UInt8} {b : Nat} {l : List α} (h : ∀ a ∈ l, (g a).length ≤ b) : (manyB g l).length ≤ 1 + l.length * b := by
  unfold manyB
  rw [List.length_cons]
  have := flat_len l h
  omega
theorem valB_len' {v : Val} (h : OkV v) : (valB v).length ≤ 900 := by
  have hb := h.b
  have he := hb.els
  unfold Val.els at he
  have h1 := okT_size h.okT
  have p := many_len (g := prB) (b := 34) (l := v.pairs) fun p hp => by
    have := h.okP p hp; have a := okF_size this.1; have b := okT_size this.2
    unfold prB; rw [List.length_append, textB_len, textB_len]; omega
  have i := many_len (g := textB) (b := 34) (l := v.items) fun t ht => by have := okT_size (h.okI t ht); rw [textB_len]; omega
  have s := many_len (g := scB) (b := 34) (l := v.scores) fun s hs => by
    have := h.okS s hs; have a := okT_size this.1
    unfold scB; rw [List.length_append, textB_len, numB_len]; omega
  unfold valB
  simp only [List.length_append, textB_len, numB_len, List.length_cons, List.length_nil]
  omega
theorem machB_len {m : Mach} (h : OkM m) : (machB m).length ≤ 13500 := by
  have e := many_len (g := entB) (b := 930) (l := m.sto.ents) fun e he => by
    have ok := h.sto.all e he
    have a := okF_size ok.key; have b := valB_len' ok.val
    unfold entB; simp only [List.length_append, textB_len, numB_len]; omega
  have c := many_len (g := cliB) (b := 500) (l := m.clis) fun x hx => by
    have hr := checkR_iff.1 (h.all x hx).reply
    have a := okT_size hr.text
    have b := many_len (g := textB) (b := 21) (l := x.reply.list) fun t ht => by have := okT_size (hr.list t ht); rw [textB_len]; omega
    have l := hr.len
    unfold cliB; simp only [List.length_append, textB_len, numB_len, List.length_cons, List.length_nil]; omega
  have h1 := h.sto.len
  have h2 := h.len
  unfold machB
  simp only [List.length_append, numB_len]
  omega
theorem machB_pos (m : Mach) : 0 < (machB m).length := by unfold machB; simp [numB_len]; omega
end Go.Proofs.Ytpdcfljbabpakaa

/- Machines as bytes: what the writer answers. -/
set_option linter.unusedVariables false
set_option linter.unusedSimpArgs false
set_option maxRecDepth 100000
set_option maxHeartbeats 8000000
namespace Go.Proofs.Ytpdcfljbabpakaa
open Go Go.RowKit Go.Proofs.AE
variable {G : Nat → AV}
theorem flat_succ {α : Type} {g : α → List UInt8} {xs : List α} {i : Nat} {x : α} (h : xs[i]? = some x) : (xs.take (i + 1)).flatMap g = (xs.take i).flatMap g ++ g x := by
  rw [List.take_add_one, h, Option.toList_some, List.flatMap_append]; simp
theorem flat_take {α : Type} {g : α → List UInt8} {b : Nat} {xs : List α} (h : ∀ a ∈ xs, (g a).length ≤ b) (i : Nat) : ((xs.take i).flatMap g).length ≤ xs.length * b := by
  have h1 := flat_len (xs.take i) (fun a ha => h a (List.mem_of_mem_take ha))
  have h2 : (xs.take i).length * b ≤ xs.length * b := Nat.mul_le_mul_right _ (by rw [List.length_take]; omega)
  omega
theorem strRows_at {l : List ByteArray} {i : Nat} {t : ByteArray} (h : l[i]? = some t) : (strRows l)[i]? = some [.lit (.string t)] := by simp [strRows, h]
theorem strRows_length (l : List ByteArray) : (strRows l).length = l.length := by simp [strRows]
theorem textB_le {t : ByteArray} (h : t.size ≤ 255) : (textB t).length ≤ 256 := by rw [textB_len]; omega
theorem wtexts_c (l : List UInt8) (ts : List ByteArray) (hl : l.length ≤ 700000) (hn : ts.length ≤ 255) (ht : ∀ t ∈ ts, t.size ≤ 255) :
    DetCall Try.prog G 29 1 (wHp l) [.one (.ptr 0 0), .one (.v (.sl (strRows ts)))] (.tup []) (wHp (l ++ manyB textB ts)) := by
  have hs : l ++ manyB textB ts = l ++ [smallB ts.length] ++ (ts.take ts.length).flatMap textB := by simp [manyB]
  have hfl := flat_take (g := textB) (b := 256) (xs := ts) fun t h => textB_le (ht t h)
  have hsm := wsmall_c (G := G) l ts.length (by omega)
  rw [hs]
  obtain ⟨l0, hl0⟩ : ∃ l0, l ++ [smallB ts.length] = l0 := ⟨_, rfl⟩
  have hl0n : l0.length ≤ 700001 := by rw [← hl0]; simp; omega
  rw [hl0] at hsm ⊢
  have hlen := strRows_length ts
  refine gcallc mixed Try.func29 ac_wire_writer_texts ?_
  unfold wHp
  repeat' (first | (with_reducible first | refine Cn (fun h => ?_) fun h => ?_ | refine And.intro ?_ ?_ | refine wR ?_ | exact wr _ _ | refine wa ?_ | apply awp_join | refine qg hsm ?_ | refine qgd hsm ?_) | (with_reducible refine CallZ.z ?_) | simp -dsimp [go_sem, hlen])
  refine awp_loop (fun i : Nat => ⟨[(0, .one (.ptr 0 0)), (10, .one (.v (.sl (strRows ts)))), (11, iV ts.length), (12, iV i)], G, wHp (l0 ++ (ts.take i).flatMap textB)⟩) (fun i => i ≤ ts.length) (fun i => ts.length - i) 0 (weak_auto ?_) (Nat.zero_le _) ?_
  · simp -dsimp [go_sem]
  · intro i hi
    by_cases hil : i < ts.length
    · obtain ⟨t, hx⟩ : ∃ t, ts[i]? = some t := ⟨_, List.getElem?_eq_getElem hil⟩
      have hr := strRows_at hx
      have htt := ht t (List.mem_of_getElem? hx)
      have hfi := hfl i
      have hw := wtext_c (G := G) (l0 ++ (ts.take i).flatMap textB) t (by simp only [List.length_append, List.length_cons, List.length_nil]; omega) (by omega)
      have e1 : l0 ++ (ts.take i).flatMap textB ++ textB t = l0 ++ (ts.take (i + 1)).flatMap textB := by rw [flat_succ hx, List.append_assoc]
      rw [e1] at hw
      have q1 : decide (i < ts.length) = true := by simpa using hil
      have w1 : IntKind.i64.wrap ((i : Int) + 1) = (i : Int) + 1 := IntWalk.i64_in _ (by omega)
      generalize l0 ++ (ts.take i).flatMap textB = a at *
      obtain ⟨b, hb⟩ : ∃ b, l0 ++ (ts.take (i + 1)).flatMap textB = b := ⟨_, rfl⟩
      rw [hb] at hw
      unfold wHp at hw ⊢
      repeat' (first | (with_reducible first | refine Cn (fun h => ?_) fun h => ?_ | refine And.intro ?_ ?_ | refine wR ?_ | exact wr _ _ | refine wa ?_ | apply awp_join | refine qg hw ?_ | refine qgd hw ?_) | (with_reducible refine CallZ.z ?_) | simp -dsimp [go_sem, hr, q1, w1])
      all_goals first
        | omega
        | (refine Again.auto (i + 1) ?_ hil ?_
           · simp -dsimp [go_sem, hb]
           · show ts.length - (i + 1) < ts.length - i; omega)
        | trace_state
    · have q1 : decide (i < ts.length) = false := by simpa using hil
      have hie : i = ts.length := by omega
      rw [hie]
      generalize l0 ++ (ts.take ts.length).flatMap textB = a
      rw [hie] at q1
      unfold wHp
      repeat' (first | (with_reducible first | refine Cn (fun h => ?_) fun h => ?_ | refine And.intro ?_ ?_ | refine wR ?_ | exact wr _ _ | refine wa ?_ | apply awp_join) | (with_reducible refine CallZ.z ?_) | simp -dsimp [go_sem, q1])
      all_goals trace_state
theorem prB_le {p : Pr} (h1 : p.1.size ≤ 255) (h2 : p.2.size ≤ 255) : (prB p).length ≤ 512 := by unfold prB; rw [List.length_append, textB_len, textB_len]; omega
theorem scB_le {s : Sc} (h1 : s.1.size ≤ 255) : (scB s).length ≤ 264 := by unfold scB; rw [List.length_append, textB_len, numB_len]; omega
theorem many_le {α : Type} {g : α → List UInt8} {b : Nat} {l : List α} (hl : l.length ≤ 255) (h : ∀ a ∈ l, (g a).length ≤ b) : (manyB g l).length ≤ 1 + 255 * b := by
  have := many_len h
  have h2 : l.length * b ≤ 255 * b := Nat.mul_le_mul_right _ hl
  omega
/-- A value's head, as it is written. -/
def valH (v : Val) : List UInt8 := [smallB v.kind] ++ textB v.text ++ numB v.count
theorem valB_split (l : List UInt8) (v : Val) : l ++ valB v = l ++ [smallB v.kind] ++ textB v.text ++ numB v.count ++ [smallB v.pairs.length] ++ v.pairs.flatMap prB ++ manyB textB v.items ++ [smallB v.scores.length] ++ v.scores.flatMap scB := by
  unfold valB manyB; simp
theorem wvalue_c (l : List UInt8) (v : Val) (hl : l.length ≤ 200000) (hv : SizV v) :
    DetCall Try.prog G 28 1 (wHp l) [.one (.ptr 0 0), .agg v.c] (.tup []) (wHp (l ++ valB v)) := by
  have hpl := flat_take (g := prB) (b := 512) (xs := v.pairs) fun p h => prB_le (hv.pairs.2 p h).1 (hv.pairs.2 p h).2
  have hsl := flat_take (g := scB) (b := 264) (xs := v.scores) fun p h => scB_le (hv.scores.2 p h).1
  have hil := many_le (g := textB) (b := 256) hv.items.1 fun t h => textB_le (hv.items.2 t h)
  have ht := textB_le hv.text
  have p1 := hv.pairs; have p2 := hv.items; have p3 := hv.scores; have p4 := hv.count; have p5 := hv.text
  rw [valB_split]
  obtain ⟨k, tx, n, ps, is, ss⟩ := v
  simp only [Val.c] at *
  have a1 := wsmall_c (G := G) l k (by omega)
  obtain ⟨x1, h1⟩ : ∃ x, l ++ [smallB k] = x := ⟨_, rfl⟩
  have h1n : x1.length ≤ 200001 := by rw [← h1]; simp; omega
  rw [h1] at a1 ⊢
  have a2 := wtext_c (G := G) x1 tx (by omega) (by omega)
  obtain ⟨x2, h2⟩ : ∃ x, x1 ++ textB tx = x := ⟨_, rfl⟩
  have h2n : x2.length ≤ 200257 := by rw [← h2, List.length_append]; omega
  rw [h2] at a2 ⊢
  have a3 := wnumber_c (G := G) x2 n (by omega) p4
  obtain ⟨x3, h3⟩ : ∃ x, x2 ++ numB n = x := ⟨_, rfl⟩
  have h3n : x3.length ≤ 200265 := by rw [← h3, List.length_append, numB_len]; omega
  rw [h3] at a3 ⊢
  have a4 := wsmall_c (G := G) x3 ps.length (by omega)
  obtain ⟨l0, hl0⟩ : ∃ l0, x3 ++ [smallB ps.length] = l0 := ⟨_, rfl⟩
  have hl0n : l0.length ≤ 200300 := by rw [← hl0]; simp; omega
  rw [hl0] at a4 ⊢
  have hpn : (pR ps).length = ps.length := by simp
  have hsn : (sR ss).length = ss.length := by simp
  refine gcallc mixed Try.func28 ac_wire_writer_value ?_
  unfold wHp at *
  repeat' (first | (with_reducible first | refine Cn (fun h => ?_) fun h => ?_ | refine And.intro ?_ ?_ | refine wR ?_ | exact wr _ _ | refine wa ?_ | apply awp_join | refine qg a1 ?_ | refine qgd a1 ?_ | refine qg a2 ?_ | refine qgd a2 ?_ | refine qg a3 ?_ | refine qgd a3 ?_ | refine qg a4 ?_ | refine qgd a4 ?_) | (with_reducible refine CallZ.z ?_) | simp -dsimp [go_sem, hpn])
  refine awp_loop (fun i : Nat => ⟨[(0, .one (.ptr 0 0)), (3, .one (.ptr 2 0)), (26, .one (.v (.sl (pR ps)))), (27, iV ps.length), (28, iV i)], G, wHp (l0 ++ (ps.take i).flatMap prB) ++ [some (.box 77 [iC k, sC tx, iC n, .v (.sl (pR ps)), .v (.sl (strRows is)), .v (.sl (sR ss))])]⟩) (fun i => i ≤ ps.length) (fun i => ps.length - i) 0 (weak_auto ?_) (Nat.zero_le _) ?_
  · simp -dsimp [go_sem]
  · intro i hi
    by_cases hilt : i < ps.length
    · obtain ⟨⟨f, t⟩, hx⟩ : ∃ p, ps[i]? = some p := ⟨_, List.getElem?_eq_getElem hilt⟩
      have hr : (pR ps)[i]? = some [.lit (.string f), .lit (.string t)] := by simp [hx, row_api_Pair]
      have htt := p1.2 _ (List.mem_of_getElem? hx)
      have hfi := hpl i
      simp only at htt
      have b1 := wtext_c (G := G) (l0 ++ (ps.take i).flatMap prB) f (by simp only [List.length_append]; omega) (by omega)
      have b2 := wtext_c (G := G) (l0 ++ (ps.take i).flatMap prB ++ textB f) t (by simp only [List.length_append, textB_len]; omega) (by omega)
      have e1 : l0 ++ (ps.take i).flatMap prB ++ textB f ++ textB t = l0 ++ (ps.take (i + 1)).flatMap prB := by rw [flat_succ hx]; simp [prB]
      rw [e1] at b2
      have q1 : decide (i < ps.length) = true := by simpa using hilt
      have w1 : IntKind.i64.wrap ((i : Int) + 1) = (i : Int) + 1 := IntWalk.i64_in _ (by omega)
      generalize l0 ++ (ps.take i).flatMap prB = a at *
      obtain ⟨b, hb⟩ : ∃ b, l0 ++ (ps.take (i + 1)).flatMap prB = b := ⟨_, rfl⟩
      rw [hb] at b2
      unfold wHp at b1 b2 ⊢
      repeat' (first | (with_reducible first | refine Cn (fun h => ?_) fun h => ?_ | refine And.intro ?_ ?_ | refine wR ?_ | exact wr _ _ | refine wa ?_ | apply awp_join | refine qg b1 ?_ | refine qgd b1 ?_ | refine qg b2 ?_ | refine qgd b2 ?_) | (with_reducible refine CallZ.z ?_) | simp -dsimp [go_sem, hr, q1, w1])
      all_goals first
        | omega
        | (refine Again.auto (i + 1) ?_ hilt ?_
           · simp -dsimp [go_sem, hb]
           · show ps.length - (i + 1) < ps.length - i; omega)
        | trace_state
    · have hie : i = ps.length := by omega
      subst hie
      rw [List.take_length]
      have hpl0 := hpl ps.length
      rw [List.take_length] at hpl0
      obtain ⟨y1, g1⟩ : ∃ x, l0 ++ ps.flatMap prB = x := ⟨_, rfl⟩
      have g1n : y1.length ≤ 340000 := by rw [← g1, List.length_append]; omega
      rw [g1]
      have c1 := wtexts_c (G := G) y1 is (by omega) p2.1 p2.2
      obtain ⟨y2, g2⟩ : ∃ x, y1 ++ manyB textB is = x := ⟨_, rfl⟩
      have g2n : y2.length ≤ 410000 := by rw [← g2, List.length_append]; omega
      rw [g2] at c1 ⊢
      have c2 := wsmall_c (G := G) y2 ss.length (by omega)
      obtain ⟨l1, hl1⟩ : ∃ l1, y2 ++ [smallB ss.length] = l1 := ⟨_, rfl⟩
      have hl1n : l1.length ≤ 500000 := by rw [← hl1]; simp; omega
      rw [hl1] at c2 ⊢
      unfold wHp at c1 c2 ⊢
      repeat' (first | (with_reducible first | refine Cn (fun h => ?_) fun h => ?_ | refine And.intro ?_ ?_ | refine wR ?_ | exact wr _ _ | refine wa ?_ | apply awp_join | refine qg c1 ?_ | refine qgd c1 ?_ | refine qg c2 ?_ | refine qgd c2 ?_) | (with_reducible refine CallZ.z ?_) | simp -dsimp [go_sem, hsn])
      refine awp_loop (fun i : Nat => ⟨[(0, .one (.ptr 0 0)), (51, .one (.v (.sl (sR ss)))), (52, iV ss.length), (53, iV i)], G, wHp (l1 ++ (ss.take i).flatMap scB)⟩) (fun i => i ≤ ss.length) (fun i => ss.length - i) 0 (weak_auto ?_) (Nat.zero_le _) ?_
      · simp -dsimp [go_sem]
      · intro i hi
        by_cases hilt : i < ss.length
        · obtain ⟨⟨f, t⟩, hx⟩ : ∃ p, ss[i]? = some p := ⟨_, List.getElem?_eq_getElem hilt⟩
          have hr : (sR ss)[i]? = some [.lit (.string f), .lit (.int .i64 t)] := by simp [hx, row_api_Score]
          have htt := p3.2 _ (List.mem_of_getElem? hx)
          have hfi := hsl i
          simp only at htt
          have b1 := wtext_c (G := G) (l1 ++ (ss.take i).flatMap scB) f (by simp only [List.length_append]; omega) (by omega)
          have b2 := wnumber_c (G := G) (l1 ++ (ss.take i).flatMap scB ++ textB f) t (by simp only [List.length_append, textB_len]; omega) htt.2
          have e1 : l1 ++ (ss.take i).flatMap scB ++ textB f ++ numB t = l1 ++ (ss.take (i + 1)).flatMap scB := by rw [flat_succ hx]; simp [scB]
          rw [e1] at b2
          have q1 : decide (i < ss.length) = true := by simpa using hilt
          have w1 : IntKind.i64.wrap ((i : Int) + 1) = (i : Int) + 1 := IntWalk.i64_in _ (by omega)
          generalize l1 ++ (ss.take i).flatMap scB = a at *
          obtain ⟨b, hb⟩ : ∃ b, l1 ++ (ss.take (i + 1)).flatMap scB = b := ⟨_, rfl⟩
          rw [hb] at b2
          unfold wHp at b1 b2 ⊢
          repeat' (first | (with_reducible first | refine Cn (fun h => ?_) fun h => ?_ | refine And.intro ?_ ?_ | refine wR ?_ | exact wr _ _ | refine wa ?_ | apply awp_join | refine qg b1 ?_ | refine qgd b1 ?_ | refine qg b2 ?_ | refine qgd b2 ?_) | (with_reducible refine CallZ.z ?_) | simp -dsimp [go_sem, hr, q1, w1])
          all_goals first
            | omega
            | (refine Again.auto (i + 1) ?_ hilt ?_
               · simp -dsimp [go_sem, hb]
               · show ss.length - (i + 1) < ss.length - i; omega)
            | trace_state
        · have hie : i = ss.length := by omega
          subst hie
          rw [List.take_length]
          generalize l1 ++ ss.flatMap scB = a
          unfold wHp
          repeat' (first | (with_reducible first | refine Cn (fun h => ?_) fun h => ?_ | refine And.intro ?_ ?_ | refine wR ?_ | exact wr _ _ | refine wa ?_ | apply awp_join) | (with_reducible refine CallZ.z ?_) | simp -dsimp [go_sem])
          all_goals trace_state
end Go.Proofs.Ytpdcfljbabpakaa
