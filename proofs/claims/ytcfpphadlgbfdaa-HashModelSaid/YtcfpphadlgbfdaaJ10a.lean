/- How byte strings and elements stand in their order, and how long things are. -/
import Derived.Test.YtcfpphadlgbfdaaJ9
set_option linter.unusedVariables false
set_option linter.unusedSimpArgs false
set_option maxRecDepth 100000
set_option maxHeartbeats 8000000
namespace Go.Proofs.Ytcfpphadlgbfdaa
open Go Go.RowKit Go.Proofs.AE
theorem cb_self : ∀ a : List UInt8, Lib.compareBytes a a = 0
  | [] => rfl
  | x :: a => by simp [Lib.compareBytes, UInt8.lt_irrefl, cb_self a]
theorem u8_cases (x y : UInt8) : (x < y ∧ ¬ y < x ∧ x ≠ y) ∨ (y < x ∧ ¬ x < y ∧ x ≠ y) ∨ (x = y ∧ ¬ x < y ∧ ¬ y < x) := by
  simp only [UInt8.lt_iff_toNat_lt]
  rcases Nat.lt_trichotomy x.toNat y.toNat with h | h | h
  · exact .inl ⟨h, by omega, fun e => by subst e; omega⟩
  · exact .inr (.inr ⟨UInt8.toNat_inj.1 h, by omega, by omega⟩)
  · exact .inr (.inl ⟨h, by omega, fun e => by subst e; omega⟩)
theorem cb_eq : ∀ {a b : List UInt8}, Lib.compareBytes a b = 0 → a = b
  | [], [], _ => rfl
  | [], _ :: _, h => by simp [Lib.compareBytes] at h
  | _ :: _, [], h => by simp [Lib.compareBytes] at h
  | x :: a, y :: b, h => by
    unfold Lib.compareBytes at h
    rcases u8_cases x y with ⟨h1, h2, h3⟩ | ⟨h1, h2, h3⟩ | ⟨h1, h2, h3⟩
    · rw [if_pos h1] at h; simp at h
    · rw [if_neg h2, if_pos h1] at h; simp at h
    · rw [if_neg h2, if_neg h3] at h; rw [h1, cb_eq h]
theorem cb_anti : ∀ a b : List UInt8, Lib.compareBytes b a = - Lib.compareBytes a b
  | [], [] => rfl
  | [], _ :: _ => by simp [Lib.compareBytes]
  | _ :: _, [] => by simp [Lib.compareBytes]
  | x :: a, y :: b => by
    unfold Lib.compareBytes
    rcases u8_cases x y with ⟨h1, h2, h3⟩ | ⟨h1, h2, h3⟩ | ⟨h1, h2, h3⟩
    · rw [if_neg h2, if_pos h1, if_pos h1]; rfl
    · rw [if_pos h1, if_neg h2, if_pos h1]
    · rw [if_neg h3, if_neg h2, if_neg h2, if_neg h3]; exact cb_anti a b
theorem cb_tr : ∀ {a b c : List UInt8}, Lib.compareBytes a b < 0 → Lib.compareBytes b c < 0 → Lib.compareBytes a c < 0
  | _, [], [], _, h => by simp [Lib.compareBytes] at h
  | _, _ :: _, [], _, h => by simp [Lib.compareBytes] at h
  | [], _, _ :: _, _, _ => by simp [Lib.compareBytes]
  | _ :: _, [], _, h, _ => by simp [Lib.compareBytes] at h
  | x :: a, y :: b, z :: c, h1, h2 => by
    unfold Lib.compareBytes at h1 h2 ⊢
    rcases u8_cases x y with ⟨p1, p2, p3⟩ | ⟨p1, p2, p3⟩ | ⟨p1, p2, p3⟩
    · rcases u8_cases y z with ⟨q1, q2, q3⟩ | ⟨q1, q2, q3⟩ | ⟨q1, q2, q3⟩
      · have : x < z := by simp only [UInt8.lt_iff_toNat_lt] at *; omega
        rw [if_pos this]; decide
      · rw [if_neg q2, if_pos q1] at h2; simp at h2
      · subst q1; rw [if_pos p1]; decide
    · rw [if_neg p2, if_pos p1] at h1; simp at h1
    · subst p1
      rw [if_neg p2, if_neg p3] at h1
      rcases u8_cases x z with ⟨q1, q2, q3⟩ | ⟨q1, q2, q3⟩ | ⟨q1, q2, q3⟩
      · rw [if_pos q1]; decide
      · rw [if_neg q2, if_pos q1] at h2; simp at h2
      · rw [if_neg q2, if_neg q3] at h2 ⊢
        exact cb_tr h1 h2
theorem cb_less : ∀ a b : List UInt8, Op.bytesLess a b = decide (Lib.compareBytes a b < 0)
  | [], [] => by simp [Op.bytesLess, Lib.compareBytes]
  | [], _ :: _ => by simp [Op.bytesLess, Lib.compareBytes]
  | _ :: _, [] => by simp [Op.bytesLess, Lib.compareBytes]
  | x :: a, y :: b => by
    unfold Lib.compareBytes Op.bytesLess
    rcases u8_cases x y with ⟨h1, h2, h3⟩ | ⟨h1, h2, h3⟩ | ⟨h1, h2, h3⟩
    · simp [h1]
    · simp [h1, h2, h3]
    · subst h1
      simp [h2, cb_less a b]
theorem ba_ext {a b : ByteArray} (h : a.data.toList = b.data.toList) : a = b := by
  cases a; cases b
  congr 1
  exact Array.ext' h
theorem cmpB_self (a : ByteArray) : cmpB a a = 0 := cb_self _
theorem cmpB_eq {a b : ByteArray} (h : cmpB a b = 0) : a = b := ba_ext (cb_eq h)
theorem cmpB_zero {a b : ByteArray} : cmpB a b = 0 ↔ a = b := ⟨cmpB_eq, fun h => h ▸ cmpB_self a⟩
theorem cmpB_anti (a b : ByteArray) : cmpB b a = - cmpB a b := cb_anti _ _
theorem cmpB_tr (a b c : ByteArray) (h1 : cmpB a b < 0) (h2 : cmpB b c < 0) : cmpB a c < 0 := cb_tr h1 h2
theorem lessB_eq (a b : ByteArray) : lessB a b = decide (cmpB a b < 0) := cb_less _ _
theorem bF_tr (a b c : Pr) (h1 : bF a b < 0) (h2 : bF b c < 0) : bF a c < 0 := cmpB_tr _ _ _ h1 h2
theorem cmpI_lt (a b : Int) : cmpI a b < 0 ↔ a < b := by unfold cmpI; repeat' split <;> omega
theorem cmpI_zero (a b : Int) : cmpI a b = 0 ↔ a = b := by unfold cmpI; repeat' split <;> omega
theorem bS_lt (a b : Sc) : bS a b < 0 ↔ a.2 < b.2 ∨ (a.2 = b.2 ∧ cmpB a.1 b.1 < 0) := by
  unfold bS
  split
  · rename_i h
    rw [cmpI_zero] at h
    constructor
    · intro h'; exact .inr ⟨h, h'⟩
    · rintro (h' | ⟨_, h'⟩)
      · omega
      · exact h'
  · rename_i h
    rw [cmpI_zero] at h
    rw [cmpI_lt]
    constructor
    · intro h'; exact .inl h'
    · rintro (h' | ⟨h', _⟩)
      · exact h'
      · exact absurd h' h
theorem bS_tr (a b c : Sc) (h1 : bS a b < 0) (h2 : bS b c < 0) : bS a c < 0 := by
  rw [bS_lt] at *
  rcases h1 with h1 | ⟨h1, h1'⟩ <;> rcases h2 with h2 | ⟨h2, h2'⟩
  · exact .inl (by omega)
  · exact .inl (by omega)
  · exact .inl (by omega)
  · exact .inr ⟨by omega, cmpB_tr _ _ _ h1' h2'⟩
/-! ### where things stand -/
theorem hash_ge {ps : List Pr} (h : rising bF ps = true) (f : ByteArray) : ∀ (j : Nat) a, ps[j]? = some a → hashAt ps f ≤ j → 0 ≤ cmpB a.1 f := by
  intro j a h1 h2
  have := plc_ge (cmp := bF) (fun p : Pr => decide (cmpB p.1 f < 0)) bF_tr (fun a b h h' => by simp at h' ⊢; exact cmpB_tr _ _ _ h h') ps h j a h1 h2
  simpa using this
theorem set_ge {l : List ByteArray} (h : rising cmpB l = true) (t : ByteArray) : ∀ (j : Nat) a, l[j]? = some a → setAt l t ≤ j → lessB a t = false :=
  fun j a h1 h2 => plc_ge (cmp := cmpB) (fun a => lessB a t) cmpB_tr (fun a b h h' => by rw [lessB_eq] at h' ⊢; simp at h' ⊢; exact cmpB_tr _ _ _ h h') l h j a h1 h2
theorem rising_del {α : Type} {cmp : α → α → Int} (tr : ∀ a b c, cmp a b < 0 → cmp b c < 0 → cmp a c < 0) : ∀ (l : List α) (i : Nat), rising cmp l = true → rising cmp (delAt l i) = true
  | [], i, _ => by simp [delAt, rising]
  | x :: l, 0, h => by simpa [delAt] using rising_tail h
  | x :: l, i + 1, h => by
    have ih := rising_del tr l i (rising_tail h)
    have e : delAt (x :: l) (i + 1) = x :: delAt l i := by simp [delAt]
    rw [e]
    cases hd : delAt l i with
    | nil => rfl
    | cons y r =>
      rw [hd] at ih
      simp only [rising, Bool.and_eq_true, decide_eq_true_eq]
      refine ⟨rising_head tr h y ?_, ih⟩
      have : y ∈ delAt l i := by rw [hd]; exact List.mem_cons_self ..
      unfold delAt at this
      rcases List.mem_append.1 this with h | h
      · exact List.mem_of_mem_take h
      · exact List.mem_of_mem_drop h
theorem rank_ge {l : List Sc} (h : rising bS l = true) (m : ByteArray) (n : Int) : ∀ (j : Nat) a, (rankCut l m)[j]? = some a → rankAt (rankCut l m) m n ≤ j → 0 ≤ bS a (m, n) := by
  intro j a h1 h2
  have hr : rising bS (rankCut l m) = true := by
    unfold rankCut
    split
    · exact h
    · exact rising_del bS_tr l _ h
  have := plc_ge (cmp := bS) (fun a : Sc => decide (bS a (m, n) < 0)) bS_tr (fun a b h h' => by simp at h' ⊢; exact bS_tr _ _ _ h h') (rankCut l m) hr j a h1 h2
  simpa using this
/-! ### how long -/
theorem insAt_length {α : Type} (l : List α) (i : Nat) (x : α) : (insAt l i x).length = l.length + 1 := by unfold insAt; simp; omega
theorem delAt_length {α : Type} (l : List α) (i : Nat) : (delAt l i).length ≤ l.length := by unfold delAt; simp; omega
theorem hashV_len (ps : List Pr) (c : Cmd) : (hashV ps c).1.length ≤ ps.length + 1 := by
  unfold hashV
  simp only
  have := delAt_length ps (hashAt ps c.field)
  repeat' split
  all_goals first | (simp; done) | (rw [insAt_length]; omega) | (simp; omega) | omega
theorem listV_len (ps : List ByteArray) (c : Cmd) : (listV ps c).1.length ≤ ps.length + 1 := by
  unfold listV
  repeat' split
  all_goals first | (simp; done) | (simp; omega)
theorem setV_len (ps : List ByteArray) (c : Cmd) : (setV ps c).1.length ≤ ps.length + 1 := by
  unfold setV
  simp only
  have := delAt_length ps (setAt ps c.text)
  repeat' split
  all_goals first | (simp; done) | (rw [insAt_length]; omega) | (simp; omega) | omega
theorem rankCut_len (ps : List Sc) (m : ByteArray) : (rankCut ps m).length ≤ ps.length := by
  unfold rankCut
  split
  · exact Nat.le_refl _
  · exact delAt_length _ _
theorem ranksV_len (ps : List Sc) (c : Cmd) : (ranksV ps c).1.length ≤ ps.length + 1 := by
  unfold ranksV
  simp only
  have := rankCut_len ps c.text
  repeat' split
  all_goals first | (simp; done) | (rw [insAt_length]; omega) | (simp; omega) | omega
theorem doV_len (v : Val) (c : Cmd) : (doV v c).1.pairs.length ≤ v.pairs.length + 1 ∧ (doV v c).1.items.length ≤ v.items.length + 1 ∧ (doV v c).1.scores.length ≤ v.scores.length + 1 := by
  have h1 := hashV_len v.pairs c
  have h2 := listV_len v.items c
  have h3 := setV_len v.items c
  have h4 := ranksV_len v.scores c
  unfold doV
  repeat' split
  all_goals (simp; try omega)
end Go.Proofs.Ytcfpphadlgbfdaa
