/- Values that may be, in words; and that whatever is done leaves such a value. -/
import Derived.Test.YtcfpphadlgbfdaaJ10
set_option linter.unusedVariables false
set_option linter.unusedSimpArgs false
set_option maxRecDepth 100000
set_option maxHeartbeats 8000000
namespace Go.Proofs.Ytcfpphadlgbfdaa
open Go Go.RowKit Go.Proofs.AE
theorem rising_iff {α : Type} {cmp : α → α → Int} (tr : ∀ a b c, cmp a b < 0 → cmp b c < 0 → cmp a c < 0) : ∀ {l : List α}, rising cmp l = true ↔ l.Pairwise (fun a b => cmp a b < 0)
  | [] => by simp [rising]
  | x :: l => by
    rw [List.pairwise_cons, ← rising_iff tr]
    constructor
    · intro h; exact ⟨rising_head tr h, rising_tail h⟩
    · rintro ⟨h1, h2⟩
      cases l with
      | nil => rfl
      | cons y r => simp only [rising, Bool.and_eq_true, decide_eq_true_eq]; exact ⟨h1 y (List.mem_cons_self ..), h2⟩
theorem rankOf_neg {l : List Sc} {m : ByteArray} : rankOf l m < 0 ↔ ∀ s ∈ l, s.1 ≠ m := by
  have := firstI_ge (fun s : Sc => decide (s.1 = m)) l 0
  change decide (0 ≤ rankOf l m) = _ at this
  constructor
  · intro h s hs e
    have h0 : decide (0 ≤ rankOf l m) = false := by simp; omega
    rw [h0] at this
    have h1 := List.any_eq_false.1 this.symm s hs
    simp [e] at h1
  · intro h
    have : l.any (fun s => decide (s.1 = m)) = false := by
      rw [List.any_eq_false]
      intro s hs; simpa using h s hs
    have h2 := firstI_ge (fun s : Sc => decide (s.1 = m)) l 0
    rw [this] at h2
    change decide (0 ≤ rankOf l m) = false at h2
    simp at h2; omega
theorem onceB_iff {l : List Sc} : onceB l l.length = true ↔ l.Pairwise (fun a b => a.1 ≠ b.1) := by
  rw [List.pairwise_iff_getElem]
  unfold onceB
  rw [List.all_eq_true]
  constructor
  · intro h i j hi hj hij
    have := h j (List.mem_range.2 hj)
    rw [List.getElem?_eq_getElem hj] at this
    simp only [decide_eq_true_eq] at this
    exact rankOf_neg.1 this l[i] (by rw [List.mem_take_iff_getElem]; exact ⟨i, by omega, rfl⟩)
  · intro h j hj
    have hj := List.mem_range.1 hj
    rw [List.getElem?_eq_getElem hj]
    simp only [decide_eq_true_eq]
    rw [rankOf_neg]
    intro s hs
    rw [List.mem_take_iff_getElem] at hs
    obtain ⟨i, hi, rfl⟩ := hs
    exact h i j (by omega) hj (by omega)
/-- A value that may be. -/
structure OkV (v : Val) : Prop where
  kind : 1 ≤ v.kind ∧ v.kind ≤ 6
  text : v.kind = 1 ∨ v.text = ⟨#[]⟩
  count : v.kind = 2 ∨ v.count = 0
  pairs : v.kind = 3 ∨ v.pairs = []
  items : v.kind = 4 ∨ v.kind = 5 ∨ v.items = []
  scores : v.kind = 6 ∨ v.scores = []
  els : 3 ≤ v.kind → 1 ≤ v.els ∧ v.els ≤ 20
  okT : okText v.text = true
  okI : ∀ s ∈ v.items, okText s = true
  okP : ∀ p ∈ v.pairs, okField p.1 = true ∧ okText p.2 = true
  okS : ∀ s ∈ v.scores, okText s.1 = true ∧ okCount s.2 = true
  okC : okCount v.count = true
  riseP : v.pairs.Pairwise (fun a b => bF a b < 0)
  riseS : v.scores.Pairwise (fun a b => bS a b < 0)
  riseI : v.kind = 5 → v.items.Pairwise (fun a b => cmpB a b < 0)
  once : v.scores.Pairwise (fun a b => a.1 ≠ b.1)
theorem len_zero {α : Type} {l : List α} (h : (l.length : Int) = 0) : l = [] := List.eq_nil_of_length_eq_zero (by omega)
theorem checkV_iff {v : Val} : checkV v = 0 ↔ OkV v := by
  constructor
  · intro h
    obtain ⟨k1, k2⟩ := kind_ok h
    unfold checkV at h
    rw [if_neg (by omega), if_neg (by omega)] at h
    by_cases hb : v.bad = true
    · rw [if_pos hb] at h; cases h
    rw [if_neg hb] at h
    by_cases he : 3 ≤ v.kind ∧ (v.els < 1 ∨ 20 < v.els)
    · rw [if_pos he] at h; cases h
    rw [if_neg he] at h
    by_cases h1 : (!okText v.text || v.items.any longS) = true
    · rw [if_pos h1] at h; cases h
    rw [if_neg h1] at h
    by_cases h2 : v.pairs.any badP = true
    · rw [if_pos h2] at h; cases h
    rw [if_neg h2] at h
    by_cases h3 : v.scores.any longM = true
    · rw [if_pos h3] at h; cases h
    rw [if_neg h3] at h
    by_cases h4 : (!okCount v.count || v.scores.any farN) = true
    · rw [if_pos h4] at h; cases h
    rw [if_neg h4] at h
    have h5 : v.order = true := by
      cases ho : v.order with
      | true => rfl
      | false => rw [ho] at h; simp at h
    simp only [Bool.or_eq_true, Bool.not_eq_true', not_or, Bool.not_eq_false, Bool.not_eq_true] at h1 h4 h2 h3
    unfold Val.order Val.ord at h5
    simp only [Bool.and_eq_true, Bool.or_eq_true, decide_eq_true_eq] at h5
    obtain ⟨⟨⟨r1, r2⟩, r3⟩, r4⟩ := h5
    unfold Val.bad at hb
    simp only [Bool.or_eq_true, Bool.and_eq_true, bne_iff_ne, decide_eq_true_eq, not_or, not_and, Classical.not_not] at hb
    obtain ⟨⟨b1, b2⟩, b3⟩ := hb
    refine ⟨⟨k1, k2⟩, ?_, ?_, ?_, ?_, ?_, ?_, h1.1, ?_, ?_, ?_, h4.1, (rising_iff bF_tr).1 r1, (rising_iff bS_tr).1 r2, ?_, onceB_iff.1 r4⟩
    · by_cases e : v.kind = 1
      · exact .inl e
      · exact .inr (b1 e)
    · by_cases e : v.kind = 2
      · exact .inl e
      · exact .inr (b2 e)
    · by_cases e : v.kind = 3
      · exact .inl e
      · rw [if_neg e] at b3
        refine .inr (len_zero ?_)
        split at b3 <;> split at b3 <;> omega
    · by_cases e : v.kind = 4 ∨ v.kind = 5
      · rcases e with e | e
        · exact .inl e
        · exact .inr (.inl e)
      · rw [if_neg e] at b3
        refine .inr (.inr (len_zero ?_))
        split at b3 <;> split at b3 <;> omega
    · by_cases e : v.kind = 6
      · exact .inl e
      · rw [if_neg e] at b3
        refine .inr (len_zero ?_)
        split at b3 <;> split at b3 <;> omega
    · intro hk; omega
    · intro s hs
      have := List.any_eq_false.1 h1.2 s hs
      simpa [longS] using this
    · intro p hp
      have := List.any_eq_false.1 h2 p hp
      simpa [badP] using this
    · intro s hs
      have a := List.any_eq_false.1 h3 s hs
      have b := List.any_eq_false.1 h4.2 s hs
      exact ⟨by simpa [longM] using a, by simpa [farN] using b⟩
    · intro hk
      rcases r3 with r3 | r3
      · exact absurd hk r3
      · exact (rising_iff cmpB_tr).1 r3
  · intro h
    unfold checkV
    have hk := h.kind
    rw [if_neg (by omega), if_neg (by omega)]
    have hb : ¬ v.bad = true := by
      unfold Val.bad
      simp only [Bool.or_eq_true, Bool.and_eq_true, bne_iff_ne, decide_eq_true_eq, not_or, not_and, Classical.not_not]
      refine ⟨⟨fun e => h.text.resolve_left e, fun e => h.count.resolve_left e⟩, ?_⟩
      have e1 : (if v.kind = 3 then 0 else (v.pairs.length : Int)) = 0 := by
        split
        · rfl
        · rename_i e; rw [h.pairs.resolve_left e]; rfl
      have e2 : (if v.kind = 4 ∨ v.kind = 5 then 0 else (v.items.length : Int)) = 0 := by
        split
        · rfl
        · rename_i e
          rcases h.items with x | x | x
          · exact absurd (.inl x) e
          · exact absurd (.inr x) e
          · rw [x]; rfl
      have e3 : (if v.kind = 6 then 0 else (v.scores.length : Int)) = 0 := by
        split
        · rfl
        · rename_i e; rw [h.scores.resolve_left e]; rfl
      rw [e1, e2, e3]; omega
    rw [if_neg hb]
    have he : ¬ (3 ≤ v.kind ∧ (v.els < 1 ∨ 20 < v.els)) := by
      rintro ⟨e1, e2⟩
      have := h.els e1
      omega
    rw [if_neg he]
    have h1 : (!okText v.text || v.items.any longS) = false := by
      rw [h.okT]
      simp only [Bool.not_true, Bool.false_or]
      rw [List.any_eq_false]
      intro s hs; simp [longS, h.okI s hs]
    have h2 : v.pairs.any badP = false := by
      rw [List.any_eq_false]
      intro p hp; simp [badP, h.okP p hp]
    have h3 : v.scores.any longM = false := by
      rw [List.any_eq_false]
      intro p hp; simp [longM, h.okS p hp]
    have h4 : (!okCount v.count || v.scores.any farN) = false := by
      rw [h.okC]
      simp only [Bool.not_true, Bool.false_or]
      rw [List.any_eq_false]
      intro s hs; simp [farN, h.okS s hs]
    rw [h1, h2, h3, h4]
    simp only [Bool.false_eq_true, if_false]
    have h5 : v.order = true := by
      unfold Val.order Val.ord
      simp only [Bool.and_eq_true, Bool.or_eq_true, decide_eq_true_eq]
      refine ⟨⟨⟨(rising_iff bF_tr).2 h.riseP, (rising_iff bS_tr).2 h.riseS⟩, ?_⟩, onceB_iff.2 h.once⟩
      by_cases e : v.kind = 5
      · exact .inr ((rising_iff cmpB_tr).2 (h.riseI e))
      · exact .inl e
    rw [if_pos h5]
theorem OkV.small {v : Val} (h : OkV v) : v.Small := by
  unfold Val.Small
  have := h.els
  unfold Val.els at this
  by_cases hk : 3 ≤ v.kind
  · have := this hk; omega
  · have e1 := h.pairs.resolve_left (by omega)
    have e2 := (h.items.resolve_left (by omega)).resolve_left (by omega)
    have e3 := h.scores.resolve_left (by omega)
    rw [e1, e2, e3]; simp
end Go.Proofs.Ytcfpphadlgbfdaa
