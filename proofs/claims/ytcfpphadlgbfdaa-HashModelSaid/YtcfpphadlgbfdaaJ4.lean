/- What the binary searches answer. -/
import Derived.Test.YtcfpphadlgbfdaaJ3
set_option linter.unusedVariables false
set_option linter.unusedSimpArgs false
set_option maxRecDepth 100000
set_option maxHeartbeats 8000000
namespace Go.Proofs.Ytcfpphadlgbfdaa
open Go Go.RowKit Go.Proofs.AE
variable {G : Nat → AV}
def at_api_Pair (cmp : Pr → Pr → Int) (l : List Pr) (t : Pr) (i : Nat) : Bool := match l[i]? with | some a => cmp a t == 0 | none => false
theorem bsearch_api_Pair (g : Nat) (cmp : Pr → Pr → Int) (l : List Pr) (t : Pr) (i : Nat) (hl : l.length ≤ 1000000) (he : enters Try.prog g = true) (hp : ∀ a b, PCall Try.prog G g [arg_api_Pair a, arg_api_Pair b] (iV (cmp a b)))
    (hi : i ≤ l.length) (h1 : ∀ (j : Nat) a, l[j]? = some a → j < i → cmp a t < 0) (h2 : ∀ (j : Nat) a, l[j]? = some a → i ≤ j → 0 ≤ cmp a t) :
    PCall Try.prog G 53 [.one (.v (.sl (l.map row_api_Pair))), arg_api_Pair t, .fn g [] []] (.tup [iV i, bV (at_api_Pair cmp l t i)]) := by
  refine pcallc mixed Try.func53 ac_slices_BinarySearchFunc_api_Pair_api_Pair ?_
  repeat' (first | (with_reducible first | refine Cn (fun h => ?_) fun h => ?_ | refine And.intro ?_ ?_ | refine wR ?_ | exact wr _ _ | refine wa ?_ | apply awp_join) | (with_reducible refine CallZ.z ?_) | simp -dsimp [go_sem])
  refine awp_loop (fun q : Nat × Nat => ⟨[(0, .one (.v (.sl (l.map row_api_Pair)))), (2, .fn g [] []), (4, .one (.ptr 0 0)), (8, iV l.length), (9, iV q.1), (10, iV q.2)], G, [some (.box 43 (match arg_api_Pair t with | .agg cs => cs | _ => []))]⟩) (fun q => q.1 ≤ i ∧ i ≤ q.2 ∧ q.2 ≤ l.length) (fun q => q.2 - q.1) (0, l.length) (weak_auto ?_) ⟨Nat.zero_le _, hi, Nat.le_refl _⟩ ?_
  · simp -dsimp [go_sem]
  · rintro ⟨lo, up⟩ ⟨q1, q2, q3⟩
    simp only at q1 q2 q3
    have w0 : IntKind.i64.wrap ((lo : Int) + up) = (lo : Int) + up := IntWalk.i64_in _ (by omega)
    simp -dsimp [go_sem]
    refine Cnd.intro (fun h => ?_) (fun h => ?_)
    · have hlt : lo < up := by simpa using h
      obtain ⟨m, hm, m1, m2⟩ : ∃ m : Nat, ((lo : Int) + up).fdiv 2 = m ∧ lo ≤ m ∧ m < up := by
        refine ⟨(lo + up) / 2, ?_, by omega, by omega⟩
        rw [Int.fdiv_eq_ediv_of_nonneg _ (by omega)]; omega
      have w1 : IntKind.u64.wrap ((lo : Int) + up) = (lo : Int) + up := IntWalk.u64_in _ (by omega)
      have w2 : IntKind.i64.wrap (m : Int) = m := IntWalk.i64_in _ (by omega)
      have w3 : IntKind.i64.wrap ((m : Int) + 1) = (m : Int) + 1 := IntWalk.i64_in _ (by omega)
      obtain ⟨a, ha⟩ : ∃ a, l[m]? = some a := ⟨_, List.getElem?_eq_getElem (by omega)⟩
      have hc := hp a t
      have k1 := h1 m a ha
      have k2 := h2 m a ha
      repeat' (first | (with_reducible first | refine Cn (fun h => ?_) fun h => ?_ | refine And.intro ?_ ?_ | refine wR ?_ | exact wr _ _ | refine wa ?_ | apply awp_join | refine q hc ?_ | refine qd hc ?_ | refine qz hc ?_) | (with_reducible refine CallZ.z ?_) | simp -dsimp [go_sem, w0, hm, w1, w2, w3, ha, he])
      all_goals first
        | (have hh : cmp a t < 0 := by simpa using h
           refine Again.auto (m + 1, up) ?_ ⟨?_, ?_, ?_⟩ ?_
           · simp -dsimp [go_sem]
           · show m + 1 ≤ i; omega
           · show i ≤ up; omega
           · show up ≤ l.length; omega
           · show up - (m + 1) < up - lo; omega)
        | (have hh : ¬ cmp a t < 0 := by simpa using h
           refine Again.auto (lo, m) ?_ ⟨?_, ?_, ?_⟩ ?_
           · simp -dsimp [go_sem]
           · show lo ≤ i; omega
           · show i ≤ m; omega
           · show m ≤ l.length; omega
           · show m - lo < up - lo; omega)
        | omega
    · have hge : lo = i := by simp at h; omega
      subst hge
      cases ha : l[lo]? with
      | none =>
        have hn : l.length ≤ lo := by simpa using ha
        have hlt : decide (lo < l.length) = false := by simp; omega
        simp only [at_api_Pair, ha]
        repeat' (first | (with_reducible first | refine Cn (fun h => ?_) fun h => ?_ | refine And.intro ?_ ?_ | refine wR ?_ | exact wr _ _ | refine wa ?_ | apply awp_join) | (with_reducible refine CallZ.z ?_) | simp -dsimp [go_sem, hlt])
      | some a =>
        have hn : lo < l.length := lt_of_getElem? ha
        have hlt : decide (lo < l.length) = true := by simp; omega
        have hc := hp a t
        simp only [at_api_Pair, ha]
        repeat' (first | (with_reducible first | refine Cn (fun h => ?_) fun h => ?_ | refine And.intro ?_ ?_ | refine wR ?_ | exact wr _ _ | refine wa ?_ | apply awp_join | refine q hc ?_ | refine qd hc ?_ | refine qz hc ?_) | (with_reducible refine CallZ.z ?_) | simp -dsimp [go_sem, hlt, ha, he])
def at_api_Score (cmp : Sc → Sc → Int) (l : List Sc) (t : Sc) (i : Nat) : Bool := match l[i]? with | some a => cmp a t == 0 | none => false
theorem bsearch_api_Score (g : Nat) (cmp : Sc → Sc → Int) (l : List Sc) (t : Sc) (i : Nat) (hl : l.length ≤ 1000000) (he : enters Try.prog g = true) (hp : ∀ a b, PCall Try.prog G g [arg_api_Score a, arg_api_Score b] (iV (cmp a b)))
    (hi : i ≤ l.length) (h1 : ∀ (j : Nat) a, l[j]? = some a → j < i → cmp a t < 0) (h2 : ∀ (j : Nat) a, l[j]? = some a → i ≤ j → 0 ≤ cmp a t) :
    PCall Try.prog G 61 [.one (.v (.sl (l.map row_api_Score))), arg_api_Score t, .fn g [] []] (.tup [iV i, bV (at_api_Score cmp l t i)]) := by
  refine pcallc mixed Try.func61 ac_slices_BinarySearchFunc_api_Score_api_Score ?_
  repeat' (first | (with_reducible first | refine Cn (fun h => ?_) fun h => ?_ | refine And.intro ?_ ?_ | refine wR ?_ | exact wr _ _ | refine wa ?_ | apply awp_join) | (with_reducible refine CallZ.z ?_) | simp -dsimp [go_sem])
  refine awp_loop (fun q : Nat × Nat => ⟨[(0, .one (.v (.sl (l.map row_api_Score)))), (2, .fn g [] []), (4, .one (.ptr 0 0)), (8, iV l.length), (9, iV q.1), (10, iV q.2)], G, [some (.box 65 (match arg_api_Score t with | .agg cs => cs | _ => []))]⟩) (fun q => q.1 ≤ i ∧ i ≤ q.2 ∧ q.2 ≤ l.length) (fun q => q.2 - q.1) (0, l.length) (weak_auto ?_) ⟨Nat.zero_le _, hi, Nat.le_refl _⟩ ?_
  · simp -dsimp [go_sem]
  · rintro ⟨lo, up⟩ ⟨q1, q2, q3⟩
    simp only at q1 q2 q3
    have w0 : IntKind.i64.wrap ((lo : Int) + up) = (lo : Int) + up := IntWalk.i64_in _ (by omega)
    simp -dsimp [go_sem]
    refine Cnd.intro (fun h => ?_) (fun h => ?_)
    · have hlt : lo < up := by simpa using h
      obtain ⟨m, hm, m1, m2⟩ : ∃ m : Nat, ((lo : Int) + up).fdiv 2 = m ∧ lo ≤ m ∧ m < up := by
        refine ⟨(lo + up) / 2, ?_, by omega, by omega⟩
        rw [Int.fdiv_eq_ediv_of_nonneg _ (by omega)]; omega
      have w1 : IntKind.u64.wrap ((lo : Int) + up) = (lo : Int) + up := IntWalk.u64_in _ (by omega)
      have w2 : IntKind.i64.wrap (m : Int) = m := IntWalk.i64_in _ (by omega)
      have w3 : IntKind.i64.wrap ((m : Int) + 1) = (m : Int) + 1 := IntWalk.i64_in _ (by omega)
      obtain ⟨a, ha⟩ : ∃ a, l[m]? = some a := ⟨_, List.getElem?_eq_getElem (by omega)⟩
      have hc := hp a t
      have k1 := h1 m a ha
      have k2 := h2 m a ha
      repeat' (first | (with_reducible first | refine Cn (fun h => ?_) fun h => ?_ | refine And.intro ?_ ?_ | refine wR ?_ | exact wr _ _ | refine wa ?_ | apply awp_join | refine q hc ?_ | refine qd hc ?_ | refine qz hc ?_) | (with_reducible refine CallZ.z ?_) | simp -dsimp [go_sem, w0, hm, w1, w2, w3, ha, he])
      all_goals first
        | (have hh : cmp a t < 0 := by simpa using h
           refine Again.auto (m + 1, up) ?_ ⟨?_, ?_, ?_⟩ ?_
           · simp -dsimp [go_sem]
           · show m + 1 ≤ i; omega
           · show i ≤ up; omega
           · show up ≤ l.length; omega
           · show up - (m + 1) < up - lo; omega)
        | (have hh : ¬ cmp a t < 0 := by simpa using h
           refine Again.auto (lo, m) ?_ ⟨?_, ?_, ?_⟩ ?_
           · simp -dsimp [go_sem]
           · show lo ≤ i; omega
           · show i ≤ m; omega
           · show m ≤ l.length; omega
           · show m - lo < up - lo; omega)
        | omega
    · have hge : lo = i := by simp at h; omega
      subst hge
      cases ha : l[lo]? with
      | none =>
        have hn : l.length ≤ lo := by simpa using ha
        have hlt : decide (lo < l.length) = false := by simp; omega
        simp only [at_api_Score, ha]
        repeat' (first | (with_reducible first | refine Cn (fun h => ?_) fun h => ?_ | refine And.intro ?_ ?_ | refine wR ?_ | exact wr _ _ | refine wa ?_ | apply awp_join) | (with_reducible refine CallZ.z ?_) | simp -dsimp [go_sem, hlt])
      | some a =>
        have hn : lo < l.length := lt_of_getElem? ha
        have hlt : decide (lo < l.length) = true := by simp; omega
        have hc := hp a t
        simp only [at_api_Score, ha]
        repeat' (first | (with_reducible first | refine Cn (fun h => ?_) fun h => ?_ | refine And.intro ?_ ?_ | refine wR ?_ | exact wr _ _ | refine wa ?_ | apply awp_join | refine q hc ?_ | refine qd hc ?_ | refine qz hc ?_) | (with_reducible refine CallZ.z ?_) | simp -dsimp [go_sem, hlt, ha, he])
abbrev lessB (a b : ByteArray) : Bool := Op.bytesLess a.data.toList b.data.toList
def at_string (l : List ByteArray) (t : ByteArray) (i : Nat) : Bool := match l[i]? with | some a => decide (a = t) | none => false
theorem bsearch_string (l : List ByteArray) (t : ByteArray) (i : Nat) (hl : l.length ≤ 1000000)
    (hi : i ≤ l.length) (h1 : ∀ (j : Nat) a, l[j]? = some a → j < i → lessB a t = true) (h2 : ∀ (j : Nat) a, l[j]? = some a → i ≤ j → lessB a t = false) :
    PCall Try.prog G 58 [.one (.v (.sl (strRows l))), sV t] (.tup [iV i, bV (at_string l t i)]) := by
  refine pcallc mixed Try.func58 ac_slices_BinarySearch_string ?_
  repeat' (first | (with_reducible first | refine Cn (fun h => ?_) fun h => ?_ | refine And.intro ?_ ?_ | refine wR ?_ | exact wr _ _ | refine wa ?_ | apply awp_join) | (with_reducible refine CallZ.z ?_) | simp -dsimp [go_sem])
  refine awp_loop (fun q : Nat × Nat => ⟨[(0, .one (.v (.sl (strRows l)))), (1, sV t), (6, iV l.length), (7, iV q.1), (8, iV q.2)], G, []⟩) (fun q => q.1 ≤ i ∧ i ≤ q.2 ∧ q.2 ≤ l.length) (fun q => q.2 - q.1) (0, l.length) (weak_auto ?_) ⟨Nat.zero_le _, hi, Nat.le_refl _⟩ ?_
  · simp -dsimp [go_sem]
  · rintro ⟨lo, up⟩ ⟨q1, q2, q3⟩
    simp only at q1 q2 q3
    have w0 : IntKind.i64.wrap ((lo : Int) + up) = (lo : Int) + up := IntWalk.i64_in _ (by omega)
    simp -dsimp [go_sem]
    refine Cnd.intro (fun h => ?_) (fun h => ?_)
    · have hlt : lo < up := by simpa using h
      obtain ⟨m, hm, m1, m2⟩ : ∃ m : Nat, ((lo : Int) + up).fdiv 2 = m ∧ lo ≤ m ∧ m < up := by
        refine ⟨(lo + up) / 2, ?_, by omega, by omega⟩
        rw [Int.fdiv_eq_ediv_of_nonneg _ (by omega)]; omega
      have w1 : IntKind.u64.wrap ((lo : Int) + up) = (lo : Int) + up := IntWalk.u64_in _ (by omega)
      have w2 : IntKind.i64.wrap (m : Int) = m := IntWalk.i64_in _ (by omega)
      have w3 : IntKind.i64.wrap ((m : Int) + 1) = (m : Int) + 1 := IntWalk.i64_in _ (by omega)
      obtain ⟨a, ha⟩ : ∃ a, l[m]? = some a := ⟨_, List.getElem?_eq_getElem (by omega)⟩
      have k1 := h1 m a ha
      have k2 := h2 m a ha
      cases hq : lessB a t with
      | true =>
        have hh : m < i := by
          rcases Nat.lt_or_ge m i with h | h
          · exact h
          · rw [k2 h] at hq; cases hq
        have hc := lessS_c (G := G) a t
        rw [show Op.bytesLess a.data.toList t.data.toList = _ from hq] at hc
        repeat' (first | (with_reducible first | refine Cn (fun h => ?_) fun h => ?_ | refine And.intro ?_ ?_ | refine wR ?_ | exact wr _ _ | refine wa ?_ | apply awp_join | refine q hc ?_ | refine qd hc ?_ | refine qz hc ?_) | (with_reducible refine CallZ.z ?_) | simp -dsimp [go_sem, w0, hm, w1, w2, w3, ha])
        all_goals first
          | (refine Again.auto (m + 1, up) ?_ ⟨?_, ?_, ?_⟩ ?_
             · simp -dsimp [go_sem]
             · show m + 1 ≤ i; omega
             · show i ≤ up; omega
             · show up ≤ l.length; omega
             · show up - (m + 1) < up - lo; omega)
          | omega
      | false =>
        have hh : i ≤ m := by
          rcases Nat.lt_or_ge m i with h | h
          · rw [k1 h] at hq; cases hq
          · exact h
        have hc := lessS_c (G := G) a t
        rw [show Op.bytesLess a.data.toList t.data.toList = _ from hq] at hc
        repeat' (first | (with_reducible first | refine Cn (fun h => ?_) fun h => ?_ | refine And.intro ?_ ?_ | refine wR ?_ | exact wr _ _ | refine wa ?_ | apply awp_join | refine q hc ?_ | refine qd hc ?_ | refine qz hc ?_) | (with_reducible refine CallZ.z ?_) | simp -dsimp [go_sem, w0, hm, w1, w2, w3, ha])
        all_goals first
          | (refine Again.auto (lo, m) ?_ ⟨?_, ?_, ?_⟩ ?_
             · simp -dsimp [go_sem]
             · show lo ≤ i; omega
             · show i ≤ m; omega
             · show m ≤ l.length; omega
             · show m - lo < up - lo; omega)
          | omega
    · have hge : lo = i := by simp at h; omega
      subst hge
      cases ha : l[lo]? with
      | none =>
        have hn : l.length ≤ lo := by simpa using ha
        have hlt : decide (lo < l.length) = false := by simp; omega
        simp only [at_string, ha]
        repeat' (first | (with_reducible first | refine Cn (fun h => ?_) fun h => ?_ | refine And.intro ?_ ?_ | refine wR ?_ | exact wr _ _ | refine wa ?_ | apply awp_join) | (with_reducible refine CallZ.z ?_) | simp -dsimp [go_sem, hlt])
      | some a =>
        have hn : lo < l.length := lt_of_getElem? ha
        have hlt : decide (lo < l.length) = true := by simp; omega
        simp only [at_string, ha]
        repeat' (first | (with_reducible first | refine Cn (fun h => ?_) fun h => ?_ | refine And.intro ?_ ?_ | refine wR ?_ | exact wr _ _ | refine wa ?_ | apply awp_join | refine q (isNaNs2_c _) ?_ | refine qd (isNaNs2_c _) ?_ | refine qz (isNaNs2_c _) ?_) | (with_reducible refine CallZ.z ?_) | simp -dsimp [go_sem, hlt, ha])
        all_goals simp_all
end Go.Proofs.Ytcfpphadlgbfdaa
