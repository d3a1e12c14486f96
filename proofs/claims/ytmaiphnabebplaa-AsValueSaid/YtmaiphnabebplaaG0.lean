/- What is told may be told. -/
import Derived.Test.YtmaiphnabebplaaA9
set_option linter.unusedVariables false
set_option linter.unusedSimpArgs false
set_option maxRecDepth 100000
set_option maxHeartbeats 8000000
namespace Go.Proofs.Ytmaiphnabebplaa
open Go Go.RowKit Go.Proofs.AE
variable {G : Nat → AV}
/-! ### what is told may be told -/
structure OkR (r : Rep) : Prop where
  code : 0 ≤ r.code ∧ r.code ≤ 13
  text : okText r.text = true
  len : r.list.length ≤ 20
  list : ∀ s ∈ r.list, okText s = true
  n : okCount r.n = true
theorem eT_ok : okText (⟨#[]⟩ : ByteArray) = true := rfl
theorem told_ok {n : Int} (h : okCount n = true) : OkR (toldR n) := ⟨⟨by show (0 : Int) ≤ 0; omega, by show (0 : Int) ≤ 13; omega⟩, rfl, Nat.zero_le _, (fun s hs => by cases hs), h⟩
theorem told_small {n : Int} (h0 : 0 ≤ n) (h1 : n ≤ 1099511627776) : OkR (toldR n) := told_ok (by unfold okCount; simp; omega)
theorem fail_ok {e : Int} (h0 : 0 ≤ e) (h1 : e ≤ 13) : OkR (failR e) := ⟨⟨h0, h1⟩, rfl, Nat.zero_le _, (fun s hs => by cases hs), rfl⟩
theorem textR_ok {t : ByteArray} (h : okText t = true) : OkR (textR t) := ⟨⟨by show (0 : Int) ≤ 0; omega, by show (0 : Int) ≤ 13; omega⟩, h, Nat.zero_le _, (fun s hs => by cases hs), rfl⟩
theorem flag_ok (b : Bool) : OkR (toldR (flagN b)) := told_small (by cases b <;> decide) (by cases b <;> decide)
theorem hashR_ok {l : List Pr} {c : Cmd} (h : ∀ p ∈ l, okField p.1 = true ∧ okText p.2 = true) (ht : okText c.text = true) : OkR (hashV l c).2 := by
  unfold hashV
  simp only
  repeat' split
  · exact told_small (by omega) (by omega)
  · exact fail_ok (by omega) (by omega)
  · exact told_small (by omega) (by omega)
  · refine textR_ok ?_
    cases hx : l[hashAt l c.field]? with
    | none => exact ht
    | some a => exact (h a (List.mem_of_getElem? hx)).2
  · exact fail_ok (by omega) (by omega)
  · exact told_small (by omega) (by omega)
  · exact told_small (by omega) (by omega)
theorem listR_ok {l : List ByteArray} {c : Cmd} (h : ∀ s ∈ l, okText s = true) (hl : l.length ≤ 20) : OkR (listV l c).2 := by
  have hg : ∀ i : Nat, okText (l[i]?.getD ⟨#[]⟩) = true := fun i => by
    cases hx : l[i]? with
    | none => rfl
    | some a => exact h a (List.mem_of_getElem? hx)
  unfold listV
  repeat' split
  · exact fail_ok (by omega) (by omega)
  · exact told_small (by omega) (by omega)
  · exact told_small (by omega) (by omega)
  · exact textR_ok (hg _)
  · exact textR_ok (hg _)
theorem setR_ok (l : List ByteArray) (c : Cmd) : OkR (setV l c).2 := by
  unfold setV
  simp only
  repeat' split
  all_goals first | exact told_small (by omega) (by omega) | exact fail_ok (by omega) (by omega) | exact flag_ok _
theorem firstI_bound {α : Type} (p : α → Bool) : ∀ (l : List α) (i : Nat), -1 ≤ firstI p i l ∧ firstI p i l < (i : Int) + l.length + 1
  | [], i => by unfold firstI; simp; omega
  | a :: l, i => by
    unfold firstI
    split
    · simp; omega
    · have := firstI_bound p l (i + 1)
      simp only [List.length_cons]
      omega
theorem ranksR_ok {l : List Sc} {c : Cmd} (hl : l.length ≤ 20) : OkR (ranksV l c).2 := by
  have hb := firstI_bound (fun s : Sc => decide (s.1 = c.text)) l 0
  change -1 ≤ rankOf l c.text ∧ rankOf l c.text < _ at hb
  unfold ranksV
  simp only
  repeat' split
  all_goals first | exact told_small (by omega) (by omega) | exact fail_ok (by omega) (by omega)
theorem allV_ok {v : Val} (h : OkB v) : (allV v).length ≤ 20 ∧ ∀ s ∈ allV v, okText s = true := by
  have he := h.els
  unfold Val.els at he
  unfold allV
  refine ⟨by simp; omega, fun s hs => ?_⟩
  rcases List.mem_append.1 hs with hs | hs
  · rcases List.mem_append.1 hs with hs | hs
    · exact h.okI s hs
    · obtain ⟨p, hp, rfl⟩ := List.mem_map.1 hs
      have := (h.okP p hp).1
      unfold okField at this
      unfold okText
      simp only [Bool.and_eq_true, decide_eq_true_eq] at this ⊢
      omega
  · obtain ⟨p, hp, rfl⟩ := List.mem_map.1 hs
    exact (h.okS p hp).1
theorem doV_okR {v : Val} {c : Cmd} (h : OkB v) (ht : okText c.text = true) : OkR (doV v c).2 := by
  have he := h.els
  unfold Val.els at he
  unfold doV
  repeat' split
  · exact told_small (by omega) (by omega)
  · exact textR_ok h.okT
  · rename_i hc; exact told_ok hc
  · exact fail_ok (by omega) (by omega)
  · refine told_small ?_ ?_ <;> (unfold Val.els; omega)
  · obtain ⟨h1, h2⟩ := allV_ok h
    exact ⟨⟨by show (0 : Int) ≤ 0; omega, by show (0 : Int) ≤ 13; omega⟩, rfl, h1, h2, rfl⟩
  · exact hashR_ok h.okP ht
  · exact listR_ok h.okI (by omega)
  · exact setR_ok _ _
  · exact ranksR_ok (by omega)
theorem DoEnd_okR {v : Val} {q : Val × Rep} (h : OkR q.2) : OkR (DoEnd v q).2.1 := by
  unfold DoEnd
  repeat' split
  all_goals exact h
theorem DoV_okR {v : Val} {c : Cmd} (hv : Vk v) (hc : checkC c = 0) (hk : c.kind ≤ 18) : OkR (DoV v c).2.1 := by
  have ht := (checkC_facts hc).2.2.1
  have hk1 := checkC_kind hc
  rcases hv with h | h
  · have hv := checkV_iff.2 h
    by_cases hm : (kindOfC c.kind ≠ 0 ∧ kindOfC c.kind ≠ v.kind) ∨ (17 ≤ c.kind ∧ v.kind < 3)
    · rw [DoV_type hv hc hk hm]; exact fail_ok (by omega) (by omega)
    · rw [DoV_go hv hc hk hm]; exact DoEnd_okR (doV_okR h.b ht)
  · subst h
    rw [DoV_zero hc hk]
    split
    · by_cases e : c.kind = 1
      · have hd : doV ⟨kindOfC c.kind, ⟨#[]⟩, 0, [], [], []⟩ c = doV ⟨1, ⟨#[]⟩, 0, [], [], []⟩ c := by unfold doV; rw [if_pos e, if_pos e]
        rw [hd]
        exact DoEnd_okR (doV_okR (fresh_b (by omega) (by omega)) ht)
      · rename_i hmk
        have hk2 : c.kind ≤ 14 := by
          unfold makesC at hmk
          simp at hmk
          omega
        have hr : 1 ≤ kindOfC c.kind ∧ kindOfC c.kind ≤ 6 := by
          have hne := kindOf_zero hk1 (by omega) e
          unfold kindOfC at hne ⊢
          repeat' split
          all_goals simp_all
        exact DoEnd_okR (doV_okR (fresh_b hr.1 hr.2) ht)
    · exact fail_ok (by omega) (by omega)
/-- What a store's command tells. -/
theorem doE_okR {now : Int} {l : List Ent} {c : Cmd} (hn0 : 0 ≤ now) (hr : Rise l) (ha : ∀ e ∈ l, OkE now e) (hl : l.length ≤ 12) (hc : checkC c = 0) : OkR (doE now l c).2 := by
  have hk1 := checkC_kind hc
  have hkf := (checkC_facts hc).2.1
  unfold doE
  by_cases k1 : c.kind = 22
  · rw [if_pos k1]
    refine ⟨⟨by show (0 : Int) ≤ 0; omega, by show (0 : Int) ≤ 13; omega⟩, rfl, by show (l.map Ent.key).length ≤ 20; rw [List.length_map]; omega, fun s hs => ?_, rfl⟩
    obtain ⟨e, he, rfl⟩ := List.mem_map.1 hs
    have := (ha e he).key
    unfold okField at this
    unfold okText
    simp only [Bool.and_eq_true, decide_eq_true_eq] at this ⊢
    omega
  · rw [if_neg k1]
    by_cases k2 : c.kind = 19
    · rw [if_pos k2]
      split <;> exact told_small (by omega) (by omega)
    · rw [if_neg k2]
      by_cases k3 : c.kind = 20 ∨ c.kind = 21
      · rw [if_pos k3]
        obtain ⟨t1, t2⟩ := timedE_spec hr now c
        cases hg : getE l c.key with
        | none => rw [t1 hg]; exact fail_ok (by omega) (by omega)
        | some e =>
          obtain ⟨t3, t4, t5⟩ := t2 e hg
          have ht := (ha e (getE_mem hg).1).till
          by_cases k4 : c.kind = 21
          · rw [t3 k4]; refine told_small ?_ ?_ <;> (split <;> omega)
          · by_cases k5 : c.n < 1 ∨ 1073741824 - now < c.n
            · rw [t4 k4 k5]; exact fail_ok (by omega) (by omega)
            · rw [(t5 k4 k5).1]; exact told_small (by omega) (by omega)
      · rw [if_neg k3, (valE_spec hr c).2]
        have hvk : Vk (((getE l c.key).map Ent.val).getD zeroV) := by
          cases hg : getE l c.key with
          | none => exact .inr rfl
          | some e => exact .inl (ha e (getE_mem hg).1).val
        have hn := DoV_okR hvk hc (by omega)
        change OkR (newR l c) at hn
        repeat' split
        all_goals first | exact hn | exact fail_ok (by omega) (by omega)
theorem apply_okR {s : Sto} (h : OkS s) {t : Int} (h0 : 0 ≤ t) (h1 : t ≤ 1073741824) {c : Cmd} (hc : checkC c = 0) : OkR (ApplyS s t c).2.1 := by
  rw [(apply_ok h h0 h1 hc).1]
  obtain ⟨a1, a2, a3⟩ := alive_ok h (maxI_le s.now t).1
  exact doE_okR (by have := h.now; have := maxI_le s.now t; omega) a1 a2 a3 hc
end Go.Proofs.Ytmaiphnabebplaa
