/- Logs: plain laws. -/
import Derived.Test.YtniihihcklpdgaaU
set_option linter.unusedVariables false
set_option linter.unusedSimpArgs false
set_option maxRecDepth 100000
set_option maxHeartbeats 8000000
namespace Go.Proofs.Ytniihihcklpdgaa
open Go Go.RowKit Go.Proofs.AE
/-- The last term, the last time. -/
def endT : Int → List Item → Int
  | t, [] => t
  | _, x :: l => endT x.term l
def endM : Int → List Item → Int
  | m, [] => m
  | _, x :: l => endM x.time l
theorem chk_cons (x : Item) (l : List Item) (t m : Int) : chk (x :: l) t m = true ↔ x.check = 0 ∧ t ≤ x.term ∧ m ≤ x.time ∧ chk l x.term x.time = true := by
  simp [chk]
theorem chk_app : ∀ (a b : List Item) (t m : Int), chk (a ++ b) t m = true ↔ chk a t m = true ∧ chk b (endT t a) (endM m a) = true
  | [], b, t, m => by simp [chk, endT, endM]
  | x :: a, b, t, m => by
    simp only [List.cons_append, chk_cons, endT, endM, chk_app a b]
    constructor
    · rintro ⟨h1, h2, h3, h4, h5⟩; exact ⟨⟨h1, h2, h3, h4⟩, h5⟩
    · rintro ⟨⟨h1, h2, h3, h4⟩, h5⟩; exact ⟨h1, h2, h3, h4, h5⟩
theorem chk_weak {l : List Item} {t m t' m' : Int} (h : chk l t m = true) (ht : t' ≤ t) (hm : m' ≤ m) : chk l t' m' = true := by
  cases l with
  | nil => rfl
  | cons x l => rw [chk_cons] at h ⊢; exact ⟨h.1, by omega, by omega, h.2.2.2⟩
theorem check_ok {x : Item} (h : x.check = 0) : 1 ≤ x.term ∧ x.term ≤ 1048576 ∧ 0 ≤ x.time ∧ x.time ≤ 1073741824 := by
  unfold Item.check checkItem at h
  repeat' split at h
  all_goals first | omega | skip
  all_goals simp_all
  all_goals omega
theorem endT_bound : ∀ {l : List Item} {t m : Int}, chk l t m = true → t ≤ endT t l ∧ m ≤ endM m l ∧ (l ≠ [] → 1 ≤ endT t l ∧ endT t l ≤ 1048576 ∧ 0 ≤ endM m l ∧ endM m l ≤ 1073741824)
  | [], _, _, _ => ⟨Int.le_refl _, Int.le_refl _, fun h => absurd rfl h⟩
  | x :: l, t, m, h => by
    rw [chk_cons] at h
    obtain ⟨h1, h2, h3, h4⟩ := h
    have hx := check_ok h1
    obtain ⟨a, b, c⟩ := endT_bound h4
    simp only [endT, endM]
    refine ⟨by omega, by omega, fun _ => ?_⟩
    by_cases hl : l = []
    · subst hl; simp only [endT, endM]; omega
    · exact c hl
theorem endT_app : ∀ (a b : List Item) (t : Int), endT t (a ++ b) = endT (endT t a) b
  | [], _, _ => rfl
  | x :: a, b, t => by simp only [List.cons_append, endT]; exact endT_app a b _
theorem endM_app : ∀ (a b : List Item) (t : Int), endM t (a ++ b) = endM (endM t a) b
  | [], _, _ => rfl
  | x :: a, b, t => by simp only [List.cons_append, endM]; exact endM_app a b _
theorem endT_get : ∀ (x : List Item) (t : Int), endT t x = match x[x.length - 1]? with | some y => y.term | none => t
  | [], t => rfl
  | [x], t => rfl
  | x :: y :: l, t => by
    have := endT_get (y :: l) x.term
    simp only [endT] at this ⊢
    rw [this]
    simp
theorem endM_get : ∀ (x : List Item) (t : Int), endM t x = match x[x.length - 1]? with | some y => y.time | none => t
  | [], t => rfl
  | [x], t => rfl
  | x :: y :: l, t => by
    have := endM_get (y :: l) x.time
    simp only [endM] at this ⊢
    rw [this]
    simp
theorem lastTerm_end (bt : Int) (x : List Item) : lastTerm bt x = endT bt x := (endT_get x bt).symm
theorem termAt_take {base bt : Int} {x : List Item} {k : Nat} (hk : k ≤ x.length) : termAt base bt x (base + k) = endT bt (x.take k) := by
  rw [endT_get]
  unfold termAt
  rw [if_neg (by omega)]
  by_cases h0 : k = 0
  · subst h0; rw [if_pos (by omega)]; simp
  · rw [if_neg (by omega), if_neg (by omega), show (base + (k : Int) - base - 1).toNat = k - 1 by omega]
    have h1 : (x.take k).length = k := by simp; omega
    rw [h1, List.getElem?_take, if_pos (by omega)]
    rw [List.getElem?_eq_getElem (by omega : k - 1 < x.length)]
theorem checkLog_iff (base bt : Int) (x : List Item) : checkLog base bt x = 0 ↔ 0 ≤ base ∧ 0 ≤ bt ∧ bt ≤ 1048576 ∧ (base = 0 ↔ bt = 0) ∧ x.length ≤ 200 ∧ base + x.length ≤ 1048576 ∧ chk x bt 0 = true := by
  unfold checkLog
  have hh : headOk base bt x.length = true ↔ 0 ≤ base ∧ 0 ≤ bt ∧ bt ≤ 1048576 ∧ (base = 0 ↔ bt = 0) ∧ x.length ≤ 200 ∧ base + x.length ≤ 1048576 := by
    by_cases hb : base = 0 <;> by_cases ht : bt = 0 <;> simp [headOk, hb, ht]
    · omega
    · have h1 : ((base == 0) = (bt == 0)) = True := by rw [beq_false_of_ne hb, beq_false_of_ne ht]; simp
      rw [h1]
      simp only [true_and]
      omega
  constructor
  · intro h
    split at h
    · rename_i h1
      obtain ⟨a, b, c, d, e, f⟩ := hh.1 h1
      split at h
      · exact ⟨a, b, c, d, e, f, ‹_›⟩
      · cases h
    · cases h
  · rintro ⟨a, b, c, d, e, f, g⟩
    rw [if_pos (hh.2 ⟨a, b, c, d, e, f⟩), if_pos g]
/-- What stands behind a place is a log. -/
theorem checkLog_drop {base bt : Int} {x : List Item} (h : checkLog base bt x = 0) {k : Nat} (hk : k ≤ x.length) : checkLog (base + k) (endT bt (x.take k)) (x.drop k) = 0 := by
  rw [checkLog_iff] at h ⊢
  obtain ⟨a, b, c, d, e, f, g⟩ := h
  have hx : x.take k ++ x.drop k = x := List.take_append_drop k x
  rw [← hx, chk_app] at g
  obtain ⟨e1, e2, e3⟩ := endT_bound g.1
  have hl : (x.drop k).length = x.length - k := by simp
  by_cases h0 : k = 0
  · subst h0; simp only [List.take_zero, endT, endM] at g ⊢; exact ⟨by omega, b, c, by omega, by omega, by omega, g.2⟩
  · have hne : x.take k ≠ [] := by
      intro hn
      have h1 : (x.take k).length = k := by rw [List.length_take]; omega
      rw [hn] at h1
      exact h0 h1.symm
    obtain ⟨e4, e5, e6, e7⟩ := e3 hne
    clear d e3
    rw [hl]
    have q1 : base + (k : Int) ≠ 0 := by omega
    have q2 : endT bt (x.take k) ≠ 0 := by omega
    exact ⟨by omega, by omega, by omega, ⟨fun h => absurd h q1, fun h => absurd h q2⟩, by omega, by omega, chk_weak g.2 (Int.le_refl _) e6⟩
theorem checkLog_take {base bt : Int} {x : List Item} (h : checkLog base bt x = 0) (k : Nat) : checkLog base bt (x.take k) = 0 := by
  rw [checkLog_iff] at h ⊢
  obtain ⟨a, b, c, d, e, f, g⟩ := h
  rw [← List.take_append_drop k x, chk_app] at g
  have : (x.take k).length ≤ x.length := by simp; omega
  exact ⟨a, b, c, d, by omega, by omega, g.1⟩
theorem firstNew_same {x : List Item} : ∀ {its : List Item} {k i : Nat}, (∀ q y, its[q]? = some y → ∃ z, x[k + q]? = some z ∧ z.term = y.term) → firstNew x k its i = none
  | [], _, _, _ => rfl
  | y :: its, k, i, h => by
    obtain ⟨z, h1, h2⟩ := h 0 y rfl
    unfold firstNew
    rw [Nat.add_zero] at h1
    rw [h1]
    simp only [h2, beq_self_eq_true, if_true]
    refine firstNew_same fun q w hw => ?_
    obtain ⟨z', h3, h4⟩ := h (q + 1) w (by simpa using hw)
    exact ⟨z', by rw [show k + 1 + q = k + (q + 1) by omega]; exact h3, h4⟩
theorem firstNew_sub {x : List Item} {k j i : Nat} : firstNew x k ((x.take j).drop k) i = none := by
  refine firstNew_same fun q y hq => ?_
  rw [List.getElem?_drop, List.getElem?_take] at hq
  split at hq
  · exact ⟨y, hq, rfl⟩
  · cases hq
end Go.Proofs.Ytniihihcklpdgaa
